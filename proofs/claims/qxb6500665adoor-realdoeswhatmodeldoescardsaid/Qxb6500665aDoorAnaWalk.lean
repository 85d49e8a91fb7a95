/- Analytes written and read. -/
import Derived.Test.Qxb6500665aDoorDecWalk
namespace Go.Proofs.Qxb6500665aDoor
open Go.RowKit

def e64 (x : Int) : List Int := d256 8 (x + 9223372036854775808)
def anT (l : List Int) : List Int := l.flatMap e64
theorem anT_all (l0 l1 l2 : Int) : anT [l0, l1, l2] = anaB l0 l1 l2 := by simp [anT, anaB, e64, List.append_assoc]

set_option maxRecDepth 100000 in
set_option maxHeartbeats 1000000 in
theorem encodeAnalyte_calls (w : World) (id l0 l1 l2 : Int) (h0 : I64 l0) (h1 : I64 l1) (h2 : I64 l2) :
    Calls Tryd.prog 50 #[.agg #[.int .u32 id, .int .i64 l0, .int .i64 l1, .int .i64 l2]] w fun e w' => Enc w w' e (anaB l0 l1 l2) := by
  obtain ⟨a1, a2⟩ := h0
  obtain ⟨b1, b2⟩ := h1
  obtain ⟨c1, c2⟩ := h2
  have hW0 := writer_new' (w.alloc (.cells #[.int .u32 id, .int .i64 l0, .int .i64 l1, .int .i64 l2] 43)) (w.heap.size + 1) (by simp)
  have hb0 : Below w.heap.size w ((w.alloc (.cells #[.int .u32 id, .int .i64 l0, .int .i64 l1, .int .i64 l2] 43)).alloc (.cells #[.slice none 0 0] 159)) := ((Below.refl _ _).alloc (Nat.le_refl _) _).alloc (by simp) _
  have HW0 := hide hW0
  clear hW0
  go_enter Tryd.func50, Tryd.ntmps50
  go_wp2
  go_loopw [8] (fun j wr => ∃ q : Nat, q ≤ 3 ∧ j = .int .i64 q ∧ Below w.heap.size w wr ∧ Hid (WriterAt wr (w.heap.size + 1) (w.heap.size + 1) (fun _ => False) (anT ([l0, l1, l2].take q)))) (fun j _ => 3 - (intOf j).toNat)
  case atStart => exact ⟨0, by omega, rfl, hb0, HW0⟩
  case round =>
    obtain ⟨q, hq, rfl, hbel, HW⟩ := hrel
    have hsz := HW.out.size
    by_cases hlt : q < 3
    · obtain ⟨x, pre, htk, htk1, hix, x1, x2⟩ : ∃ x pre, [l0, l1, l2].take q = pre ∧ [l0, l1, l2].take (q + 1) = pre ++ [x] ∧ (∀ W, (Instr.index 30 (.agg #[.int .i64 l0, .int .i64 l1, .int .i64 l2]) (.int .i64 (q : Int))).run Tryd.prog W = .ok (.int .i64 x) W) ∧ -9223372036854775808 ≤ x ∧ x ≤ 9223372036854775807 := by
        rcases (show q = 0 ∨ q = 1 ∨ q = 2 by omega) with rfl | rfl | rfl
        · exact ⟨_, _, rfl, rfl, fun W => by kernel_rfl, a1, a2⟩
        · exact ⟨_, _, rfl, rfl, fun W => by kernel_rfl, b1, b2⟩
        · exact ⟨_, _, rfl, rfl, fun W => by kernel_rfl, c1, c2⟩
      have hpl : (anT pre).length ≤ 70368744177664 := by
        have : pre.length ≤ 3 := by rw [← htk]; simp; omega
        have h2 : ∀ l : List Int, (anT l).length = 8 * l.length := fun l => by
          induction l with
          | nil => rfl
          | cons y r ih => rw [show anT (y :: r) = e64 y ++ anT r from rfl, List.length_append, ih, e64, d256_len, List.length_cons]; omega
        rw [h2]; omega
      rw [htk] at HW
      have HT := hide htk1
      clear htk htk1
      go_wp2_with (go_at_call 80; refine (wI64_calls _ _ _ _ _ x HW.out hpl x1 x2).mono ?_; rintro e w2 ⟨rfl, hW2⟩)
      go_roundw
      case measure => simp [intOf]; omega
      case rel =>
        refine ⟨q + 1, by omega, by go_num, hbel.trans (hW2.below.mono (by omega)), ?_⟩
        show WriterAt _ _ _ _ _
        rw [HT.out]
        simpa [anT, e64] using hW2.text
    · have hq3 : q = 3 := by omega
      subst hq3
      obtain ⟨a, cap, hg, -, hown, -⟩ := HW.out
      have HO := hide hown
      clear hown
      go_wp2_with (go_at_call 79; refine (finish_calls _ _ _ hg).mono ?_; rintro e w3 ⟨rfl, rfl⟩)
      go_ret
      refine ⟨_, rfl, ?_, hbel⟩
      have := HO.out.lower (base' := w.heap.size) (by omega)
      simpa [← anT_all] using this

attribute [local go_sem ↓] exec_stAnalyte
attribute [local go_sem] run_stAnalyte ones_iiii whole_alloc_lt whole_alloc_at whole_drew whole_setCell_other whole_setRow_other setRow_alloc_at setRow_alloc_lt

/-- The analyte's block, as far as it is read. -/
def anaCs (id : Int) (l : List Int) : List Value := .int .u32 id :: (l ++ List.replicate (3 - l.length) 0).map (Value.int .i64)

theorem anaCs_at (id : Int) (pre : List Int) (q : Nat) (h : pre.length = q) (hq : q < 3) : (anaCs id pre).toArray[1 + q]? = some (.int .i64 0) := by
  subst h
  rw [Nat.add_comm]
  simp [anaCs, List.getElem?_append_right, List.getElem?_replicate]
  omega

theorem anaCs_set (id : Int) (pre : List Int) (q : Nat) (x : Int) (h : pre.length = q) (hq : q < 3) : (anaCs id pre).toArray.setIfInBounds (1 + q) (.int .i64 x) = (anaCs id (pre ++ [x])).toArray := by
  subst h
  match pre, hq with
  | [], _ => rfl
  | [y], _ => rfl
  | [y, z], _ => rfl

set_option maxRecDepth 100000 in
set_option maxHeartbeats 1000000 in
theorem decodeAnalyte_calls (w : World) (id l0 l1 l2 : Int) (v : Value) (ok : Nat → Prop) (hB : BytesAt w ok v (anaB l0 l1 l2)) (h0 : I64 l0) (h1 : I64 l1) (h2 : I64 l2) :
    Calls Tryd.prog 64 #[.int .u32 id, v] w fun e w' => e = .returned (.tuple #[.agg #[.int .u32 id, .int .i64 l0, .int .i64 l1, .int .i64 l2], .nilIface]) ∧ Below w.heap.size w w' := by
  obtain ⟨a1, a2⟩ := h0
  obtain ⟨b1, b2⟩ := h1
  obtain ⟨c1, c2⟩ := h2
  obtain ⟨a, n, cap, rfl, -⟩ := hB.form'
  have hbel0 : Below w.heap.size w ((w.alloc (.cells #[.int .u32 0, .int .i64 0, .int .i64 0, .int .i64 0] 43)).alloc (.cells #[.int .u32 id, .int .i64 0, .int .i64 0, .int .i64 0] 43)) := ((Below.refl _ _).alloc (Nat.le_refl _) _).alloc (by simp) _
  obtain ⟨W0, hW0⟩ : ∃ W0, W0 = ((w.alloc (.cells #[.int .u32 0, .int .i64 0, .int .i64 0, .int .i64 0] 43)).alloc (.cells #[.int .u32 id, .int .i64 0, .int .i64 0, .int .i64 0] 43)).alloc (.cells #[.slice a n cap, .bool false] 182) := ⟨_, rfl⟩
  have hb1 : Below w.heap.size w W0 := by rw [hW0]; exact hbel0.alloc (by simp; omega) _
  have hsz : W0.heap.size = w.heap.size + 3 := by rw [hW0]; simp
  have hR1 : ReaderAt W0 (w.heap.size + 2) (.slice a n cap) false := by
    have := heap_alloc_at ((w.alloc (.cells #[.int .u32 0, .int .i64 0, .int .i64 0, .int .i64 0] 43)).alloc (.cells #[.int .u32 id, .int .i64 0, .int .i64 0, .int .i64 0] 43)) (.cells #[.slice a n cap, .bool false] 182)
    rw [hW0]; simpa [ReaderAt] using this
  have hG : W0.heap[w.heap.size]? = some (.cells #[.int .u32 0, .int .i64 0, .int .i64 0, .int .i64 0] 43 (0, 0)) := by
    rw [hW0, Below.heap_alloc _ _ _ (by simp; omega), Below.heap_alloc _ _ _ (by simp), heap_alloc_at]
  have hX : W0.heap[w.heap.size + 1]? = some (.cells (anaCs id []).toArray 43 (0, 0)) := by
    rw [hW0, Below.heap_alloc _ _ _ (by simp)]
    have := heap_alloc_at (w.alloc (.cells #[.int .u32 0, .int .i64 0, .int .i64 0, .int .i64 0] 43)) (.cells #[.int .u32 id, .int .i64 0, .int .i64 0, .int .i64 0] 43)
    simpa [anaCs] using this
  have hB1 : BytesAt W0 (fun b => ok b ∧ b < w.heap.size) (.slice a n cap) (anT ([l0, l1, l2].drop 0)) := by rw [List.drop_zero, anT_all]; exact BytesAt.below (RArr.lt hB) hb1
  have HW := hide hW0
  have HH : Hid (ReaderAt W0 (w.heap.size + 2) (.slice a n cap) false ∧ BytesAt W0 (fun b => ok b ∧ b < w.heap.size) (.slice a n cap) (anT ([l0, l1, l2].drop 0)) ∧ W0.heap[w.heap.size]? = some (.cells #[.int .u32 0, .int .i64 0, .int .i64 0, .int .i64 0] 43 (0, 0)) ∧ W0.heap[w.heap.size + 1]? = some (.cells (anaCs id []).toArray 43 (0, 0))) := ⟨hR1, hB1, hG, hX⟩
  clear hB hbel0 hW0 hR1 hG hX hB1
  go_enter Tryd.func64, Tryd.ntmps64
  go_upto_region 3 with (go_at_call 82; refine (newReader_calls _ a n cap).mono ?_; rintro e w2 ⟨rfl, rfl⟩; rw [← HW.out])
  go_wp2
  go_loopw [13] (fun j wr => ∃ q : Nat, q ≤ 3 ∧ j = .int .i64 q ∧ Below w.heap.size w wr ∧ wr.heap.size = w.heap.size + 3 ∧ Hid (∃ v', ReaderAt wr (w.heap.size + 2) v' false ∧ BytesAt wr (fun b => ok b ∧ b < w.heap.size) v' (anT ([l0, l1, l2].drop q)) ∧ wr.heap[w.heap.size]? = some (.cells #[.int .u32 0, .int .i64 0, .int .i64 0, .int .i64 0] 43 (0, 0)) ∧ wr.heap[w.heap.size + 1]? = some (.cells (anaCs id ([l0, l1, l2].take q)).toArray 43 (0, 0)))) (fun j _ => 3 - (intOf j).toNat)
  case atStart => exact ⟨0, by omega, rfl, hb1, hsz, ⟨_, HH.out⟩⟩
  case round =>
    obtain ⟨q, hq, rfl, hbel, hsz1, HV⟩ := hrel
    obtain ⟨v1, hR, hBy, hG, hX⟩ := HV.out
    have hokn : ∀ b, (fun b => ok b ∧ b < w.heap.size) b → b ≠ w.heap.size + 2 := fun b hb => by have := hb.2; omega
    by_cases hlt : q < 3
    · obtain ⟨x, xs, pre, hdr, htk, htk1, x1, x2⟩ : ∃ x xs pre, [l0, l1, l2].drop q = x :: xs ∧ [l0, l1, l2].take q = pre ∧ [l0, l1, l2].take (q + 1) = pre ++ [x] ∧ -9223372036854775808 ≤ x ∧ x ≤ 9223372036854775807 := by
        rcases (show q = 0 ∨ q = 1 ∨ q = 2 by omega) with rfl | rfl | rfl
        · exact ⟨_, _, _, rfl, rfl, rfl, a1, a2⟩
        · exact ⟨_, _, _, rfl, rfl, rfl, b1, b2⟩
        · exact ⟨_, _, _, rfl, rfl, rfl, c1, c2⟩
      have hpl : pre.length = q := by rw [← htk]; simp; omega
      have hxs : [l0, l1, l2].drop (q + 1) = xs := by rw [← List.drop_drop, hdr]; rfl
      rw [hdr] at hBy
      rw [htk] at hX
      have hrd := rI64_calls wr _ v1 _ x (anT xs) hR hBy hokn x1 x2
      have HX := hide hX
      have HG := hide hG
      have HP := hide hpl
      have HT := hide htk1
      have HXS := hide hxs
      have hix : ∀ W, (Instr.indexAt 30 (.pointer (some ⟨w.heap.size + 1, 1, none⟩)) (.int .i64 (q : Int))).run Tryd.prog W = .ok (.pointer (some ⟨w.heap.size + 1, 1 + q, none⟩)) W := by
        rcases (show q = 0 ∨ q = 1 ∨ q = 2 by omega) with rfl | rfl | rfl <;> exact fun W => by kernel_rfl
      clear hR hBy hX hG hdr htk hokn hpl htk1 hxs HV
      go_upto_region 7 with (go_at_call 87; refine hrd.mono ?_; rintro e w2 ⟨v3, rfl, hR3, hB3, hw3⟩; obtain ⟨hk3, hs3⟩ := kept_read hw3; clear hw3; have hX3 : w2.heap[w.heap.size + 1]? = some (.cells (anaCs id pre).toArray 43 (0, 0)) := (hk3.same _ ⟨(by omega), (by omega)⟩).trans HX.out; have hcl : w2.cell? ⟨w.heap.size + 1, 1 + q, none⟩ = some (.int .i64 0) := (by have := HP.out; rw [World.cell?, hX3]; exact anaCs_at id pre q (by omega) (by omega)); have hfz : w2.frozen? ⟨w.heap.size + 1, 1 + q, none⟩ = false := (by simp [World.frozen?, hX3]); clear hX3)
      go_wp2
      go_roundw
      case measure => simp [intOf]; omega
      case rel =>
        have hX3 : w2.heap[w.heap.size + 1]? = some (.cells (anaCs id pre).toArray 43 (0, 0)) := (hk3.same _ ⟨by omega, by omega⟩).trans HX.out
        have hoth : ∀ b, b ≠ w.heap.size + 1 → (w2.setCell ⟨w.heap.size + 1, 1 + q, none⟩ (.int .i64 x)).heap[b]? = w2.heap[b]? := fun b hb => Below.heap_setCell _ _ _ _ hb
        refine ⟨q + 1, by omega, by go_num, (hbel.trans (hk3.below.mono (by omega))).setCell (p := ⟨w.heap.size + 1, 1 + q, none⟩) (by simp) _, by simp [World.setCell]; omega, ⟨v3, (hoth _ (by omega)).trans hR3, ?_, ?_, ?_⟩⟩
        · rw [HXS.out]
          exact BytesAt.mono hB3 (fun b hb => hoth b (by have := hb.2; omega)) (fun _ h => h)
        · rw [hoth _ (by omega), hk3.same _ ⟨by omega, by omega⟩]; exact HG.out
        · rw [heap_setCell_same _ _ _ _ _ _ hX3, HT.out]
          congr 2
          exact anaCs_set id pre q x (by have := HP.out; omega) (by omega)
    · have hq3 : q = 3 := by omega
      subst hq3
      have hwh := whole_of_heap hG
      simp only [List.size_toArray, List.length_cons, List.length_nil] at hwh
      have d0 : wr.cell? ⟨w.heap.size + 1, 0, none⟩ = some (.int .u32 id) := by rw [World.cell?, hX]; rfl
      have d1 : wr.cell? ⟨w.heap.size + 1, 1, none⟩ = some (.int .i64 l0) := by rw [World.cell?, hX]; rfl
      have d2 : wr.cell? ⟨w.heap.size + 1, 2, none⟩ = some (.int .i64 l1) := by rw [World.cell?, hX]; rfl
      have d3 : wr.cell? ⟨w.heap.size + 1, 3, none⟩ = some (.int .i64 l2) := by rw [World.cell?, hX]; rfl
      clear hX HV
      have hBy' : BytesAt wr (fun b => ok b ∧ b < w.heap.size) v1 [] := hBy
      go_wp2_with (go_at_call 84; refine (done_calls _ _ _ _ hR hBy').mono ?_; rintro e w4 ⟨rfl, rfl⟩)
      have hfin := heap_setRow_at (ds := #[.int .u32 id, .int .i64 l0, .int .i64 l1, .int .i64 l2]) hG
      refine bodyPost_ret (results_cell_tmp Tryd.results64 _ _ w.heap.size _ _ _ _ rfl hfin Tryd.underlying43 rfl (by kernel_rfl)) rfl ?_
      exact ⟨rfl, hbel.trans (below_setRow' _ _ (Nat.le_refl _))⟩

end Go.Proofs.Qxb6500665aDoor
