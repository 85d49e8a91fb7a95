/- rowsOf, walked. -/
import Derived.Test.Qxb6500666aGreatDoorRowWalks
import Derived.Test.Qxb6500666aGreatDoorAppend
namespace Go.Proofs.Qxb6500666aGreatDoor
open Go.RowKit
attribute [local go_sem ↓] exec_ldRow exec_ldChange exec_ldFile exec_stRow exec_stChange exec_stFile exec_bsRow exec_bsChange exec_eqlRow exec_neqRow
attribute [local go_sem] run_ldRow run_ldChange run_ldFile run_stRow run_stChange run_stFile run_bsRow run_bsChange run_neqRow run_eqlRow rng_alloc_lt rng_alloc_at rng_drew rng_drewN rng_setCell_other rng_setRow_other whole_alloc_lt whole_alloc_at whole_drew whole_setCell_other whole_setRow_other setRow_alloc_at setRow_alloc_lt setRow_drew rowCs_size rowCs_ones rowCs_0 rowCs_1 rowCs_2 rowCs_3 rowCs_4 rowCs_5 rowCs_6 rowCs_7 rowCs_8 rowCs_9 rowCs_10 rowCs_11 rowCs_12 rowCs_all changeCs_size changeCs_ones changeCs_0 changeCs_row changeCs_all fileCs_size fileCs_ones fileCs_0 fileCs_1 fileCs_2 fileCs_3 fileCs_4 fileCs_all Ext.cell Ext.frozen Ext.rng Ext.whole

/-- A slice of a file's lines. -/
def ChangesAt (w : World) (ok : Nat → Prop) (v : Value) (cs : List Change) : Prop := RArr w ok 14 changeCs v cs

set_option maxRecDepth 100000 in
set_option maxHeartbeats 1000000 in
theorem rowsOf_calls (w : World) (ok : Nat → Prop) (k s i bb : Int) (a : Option Addr) (cap : Nat) (cs : List Change) (h : ChangesAt w ok (.slice a cs.length cap) cs) (hlen : cs.length ≤ 100000000) :
    Calls Tryz.prog 72 #[.agg (fileCs k s i bb a cs.length cap)] w fun e w' => ∃ v, e = .returned v ∧ OwnR w' w.heap.size 109 13 rowCs v (cs.map (·.row)) ∧ Below w.heap.size w w' := by
  obtain ⟨a', cap', b, off, hv, hl, hm, hr, ha, hc⟩ := RArr.lt h
  simp only [Value.slice.injEq, true_and] at hv
  obtain ⟨rfl, rfl⟩ := hv
  obtain ⟨n, hn⟩ : ∃ n, n = cs.length := ⟨_, rfl⟩
  have Hn : Hid (n = cs.length) := hn
  rw [← hn] at hl hr ha hlen ⊢
  have hi := run_indexAt_arr (P := Tryz.prog) (cap := cap) Tryz.underlying57 Tryz.size111 (fun h => (ha h).1)
  have HB : Hid (0 < n → b < w.heap.size) := fun h => (ha h).2.2
  have HC := hide hc
  clear ha hc hn hm hl h
  go_enter Tryz.func72, Tryz.ntmps72
  go_wp2
  have hbel0 : Below w.heap.size w (w.alloc (.cells (fileCs k s i bb a n cap) 59)) := (Below.refl _ _).alloc (Nat.le_refl _) _
  generalize w.alloc (.cells (fileCs k s i bb a n cap) 59) = W0 at *
  go_loopw [3, 9] (fun x j wr => ∃ q : Nat, q ≤ n ∧ j = .int .i64 q ∧ OwnR wr w.heap.size 109 13 rowCs x ((cs.take q).map (·.row)) ∧ Below w.heap.size w wr) (fun _ j _ => n - (intOf j).toNat)
  case atStart => exact ⟨0, by omega, rfl, by simpa using OwnR.nil _ _ _ _ _, hbel0⟩
  case round =>
    obtain ⟨q, hq, rfl, hown, hbel⟩ := hrel
    by_cases hlt : q < n
    · have hqs : q < cs.length := by rw [← Hn.out]; exact hlt
      have c0 := HC.out q hqs
      have hbb := HB.out (by omega)
      have HL : Hid ((cs.take (q + 1)).map (·.row) = (cs.take q).map (·.row) ++ [cs[q].row]) := by
        show _ = _
        rw [List.take_succ_eq_append_getElem hqs, List.map_append]; rfl
      generalize cs[q] = c at *
      rw [← rng_of_block (hbel.block _ hbb)] at c0
      have hbw : b < wr.heap.size := by have := hbel.size; omega
      have hlq : ((cs.take q).map (·.row)).length ≤ 100000000 := by simp; omega
      obtain ⟨xs, hxs⟩ : ∃ xs, xs = (cs.take q).map (·.row) := ⟨_, rfl⟩
      rw [← hxs] at hown hlq HL
      clear hxs
      have hsz := hbel.size
      go_wp2_with (at_builtin; refine wpList_app1 (α := Row) rfl _ _ 150 rfl w.heap.size 109 rowCs Tryz.underlying150 Tryz.info109 rfl (by decide) rowCs_size rowCs_one _ xs rfl (OwnR.below (OwnR.below hown ((Below.refl _ _).alloc (Nat.le_refl _) _) (Nat.le_refl _)) ((Below.refl _ _).alloc (Nat.le_refl _) _) (Nat.le_refl _)) _ rfl c.row (by simp [go_sem]) (by omega) (by unfold maxLen; omega) (by simp; omega) ?_; intro v' w' hown' hsame hbel' _)
      go_roundw
      case rel => exact ⟨q + 1, by omega, by go_num, by rw [HL.out]; exact hown', ((hbel.alloc hsz _).alloc (by simp; omega) _).trans hbel'⟩
      case measure => simp [intOf]; omega
    · have HL : Hid ((cs.take q).map (·.row) = cs.map (·.row)) := by
        show _ = _
        rw [List.take_of_length_le (by rw [← Hn.out]; omega)]
      go_wp2
      go_ret
      exact ⟨_, rfl, by rw [← HL.out]; exact hown, hbel⟩

end Go.Proofs.Qxb6500666aGreatDoor
