/- The laid table of phrases. -/
import Derived.Test.Qxb6500666aGreatDoorRows
import Derived.Test.Qxb6500666aGreatDoorLaidZ
import Derived.Test.Qxb6500666aGreatDoorExpl
import Derived.ChangeSame
namespace Go.Proofs.Qxb6500666aGreatDoor
open Go Go.ChangeShapes Go.WideShapes Go.ChangeAt Go.RowKit

def hvOf : DataW Unit → Int
  | .agg (.lit (.int _ n) :: _) => n
  | _ => 0
theorem hv_all : ((List.range 10).all fun i => ((dsOf (Rows.laid_e2e_transfer_holdNames : DataW Unit))[i]?).map hvOf == some (holdN.getD i 0)) = true := by kernel_rfl
theorem hn_of {W : World} {l : List (String × DataW Unit)} (h : laidMetH Tryz.prog l W) (hx : ("e2e/transfer.holdNames", Rows.laid_e2e_transfer_holdNames) ∈ l) : ∃ nm : Nat → ByteArray, rng W 0 0 20 = some (hnA nm) ∧ 0 < W.heap.size := by
  obtain ⟨g', t', cs, fuel, p, q1, q2, q3, q4⟩ := laidPlain h hx rfl
  obtain rfl := Option.some.inj ((show Tryz.prog.globalNamed "e2e/transfer.holdNames" = some 0 by kernel_rfl).symm.trans q1)
  obtain rfl := Option.some.inj ((show (Tryz.prog.globals[0]?).map (·.type) = some 222 by kernel_rfl).symm.trans q2)
  obtain ⟨xs, m, -, hx', hl, hn, hi⟩ := DataW.trod_array (n := 10) (e := 221) (by kernel_rfl) q4
  have hd : dsOf (Rows.laid_e2e_transfer_holdNames : DataW Unit) = xs.map (·.1) := congrArg dsOf (Prod.mk.inj hx').1
  have hl20 : cs.toList.length = 20 := hl.trans (by kernel_rfl)
  have hce : Tryz.prog.cellsOf 221 = 2 := by kernel_rfl
  have hc0 : Tryz.prog.cellsOf 69 = 1 := by kernel_rfl
  have hc1 : Tryz.prog.cellsOf 9 = 1 := by kernel_rfl
  have key : ∀ i, ∃ s, i < 10 → cs.toList[i * 2]? = some (.int .u16 (holdN.getD i 0)) ∧ cs.toList[i * 2 + 1]? = some (.string s) := by
    intro i
    by_cases hi10 : i < 10
    · have h1 := hi i hi10
      rw [hce] at h1
      have hxi : i < xs.length := by omega
      rw [List.getElem?_eq_getElem hxi] at h1
      obtain ⟨y0, y1, n', e1, -, e3, e4⟩ := trod_struct2 Tryz.underlying221 h1
      obtain ⟨v, c0, d0, -⟩ := DataW.trod_int (k := .u16) (by kernel_rfl) e3
      obtain ⟨s, c1, d1, -⟩ := DataW.trod_string (by kernel_rfl) e4
      have hdi : ((dsOf (Rows.laid_e2e_transfer_holdNames : DataW Unit))[i]?).map hvOf = some v := by
        rw [hd, List.getElem?_map, List.getElem?_eq_getElem hxi, e1]
        show some (hvOf (.agg [y0.1, y1.1])) = some v
        rw [d0]
        rfl
      have hva := List.all_eq_true.1 hv_all i (List.mem_range.2 hi10)
      rw [hdi] at hva
      have hv2 : v = holdN.getD i 0 := by simpa using hva
      have k0 : ((((cs.toList.drop (i * 2)).take 2).drop 0).take (Tryz.prog.cellsOf 69)) = [.int .u16 v] := c0
      have k1 : ((((cs.toList.drop (i * 2)).take 2).drop 1).take (Tryz.prog.cellsOf 9)) = [.string s] := c1
      rw [hc0] at k0
      rw [hc1] at k1
      have k0 := congrArg (fun m => m[0]?) k0
      have k1 := congrArg (fun m => m[0]?) k1
      simp at k0 k1
      exact ⟨s, fun _ => ⟨by rw [Array.getElem?_toList, k0, hv2], by rw [Array.getElem?_toList, k1]⟩⟩
    · exact ⟨ByteArray.empty, fun q => absurd q hi10⟩
  have k : ∀ i, i < 10 → cs.toList[i * 2]? = some (.int .u16 (holdN.getD i 0)) ∧ cs.toList[i * 2 + 1]? = some (.string ((fun i => (key i).choose) i)) := fun i hi => (key i).choose_spec hi
  refine ⟨fun i => (key i).choose, ?_⟩
  generalize (fun i => (key i).choose) = nm at k
  have E : ∀ i, i < 10 → cs.toList[i * 2]? = (hnA nm).toList[i * 2]? ∧ cs.toList[i * 2 + 1]? = (hnA nm).toList[i * 2 + 1]? := by
    intro i hi
    rw [(k i hi).1, (k i hi).2]
    match i, hi with
    | 0, _ => exact ⟨rfl, rfl⟩
    | 1, _ => exact ⟨rfl, rfl⟩
    | 2, _ => exact ⟨rfl, rfl⟩
    | 3, _ => exact ⟨rfl, rfl⟩
    | 4, _ => exact ⟨rfl, rfl⟩
    | 5, _ => exact ⟨rfl, rfl⟩
    | 6, _ => exact ⟨rfl, rfl⟩
    | 7, _ => exact ⟨rfl, rfl⟩
    | 8, _ => exact ⟨rfl, rfl⟩
    | 9, _ => exact ⟨rfl, rfl⟩
  have hcs : cs.toList = (hnA nm).toList := by
    refine List.ext_getElem? fun j => ?_
    by_cases hj : j < 20
    · obtain ⟨e1, e2⟩ := E (j / 2) (by omega)
      rcases Nat.mod_two_eq_zero_or_one j with q | q
      · rwa [show j / 2 * 2 = j by omega] at e1
      · rwa [show j / 2 * 2 + 1 = j by omega] at e2
    · rw [List.getElem?_eq_none (by omega), List.getElem?_eq_none (by show 20 ≤ j; omega)]
  have hcell : ∀ j (hj : j < cs.toList.length), W.cell? ⟨0, 0 + j, none⟩ = some cs.toList[j] := fun j hj => by
    have hj2 : j < cs.size := by rw [← Array.length_toList]; exact hj
    rw [Nat.zero_add, World.var?_cell q1 q3 j]
    simp [hj2]
  have hr := rng_of_cells (w := W) (b := 0) (off := 0) (by omega) hcell
  rw [hl20] at hr
  refine ⟨by rw [hr, hcs], ?_⟩
  have h0 := hcell 0 (by omega)
  unfold World.cell? at h0
  split at h0
  · rename_i hh
    exact (Array.getElem?_eq_some_iff.1 hh).1
  · cases h0

end Go.Proofs.Qxb6500666aGreatDoor
