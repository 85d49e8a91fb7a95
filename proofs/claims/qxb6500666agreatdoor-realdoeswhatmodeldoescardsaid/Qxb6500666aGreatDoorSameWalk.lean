/- sameFile and sameList of lines, walked where both sides are one. -/
import Derived.Test.Qxb6500666aGreatDoorParseParts
import Derived.Test.Qxb6500666aGreatDoorRowWalks
import Derived.BigQuiet
namespace Go.Proofs.Qxb6500666aGreatDoor
open Go.RowKit
attribute [local go_sem ↓] exec_ldRow exec_ldChange exec_ldFile exec_stRow exec_stChange exec_stFile exec_bsRow exec_bsChange exec_slRows exec_bdChange exec_eqlRow exec_neqRow
attribute [local go_sem] run_ldRow run_ldChange run_ldFile run_stRow run_stChange run_stFile run_bsRow run_bsChange run_bdChange run_neqRow run_eqlRow rng_alloc_lt rng_alloc_at rng_drew rng_drewN rng_setCell_other rng_setRow_other whole_alloc_lt whole_alloc_at whole_drew whole_setCell_other whole_setRow_other setRow_alloc_at setRow_alloc_lt setRow_drew rowCs_size rowCs_ones rowCs_0 rowCs_1 rowCs_2 rowCs_3 rowCs_4 rowCs_5 rowCs_6 rowCs_7 rowCs_8 rowCs_9 rowCs_10 rowCs_11 rowCs_12 rowCs_all changeCs_size changeCs_ones changeCs_0 changeCs_row changeCs_all fileCs_size fileCs_ones fileCs_0 fileCs_1 fileCs_2 fileCs_3 fileCs_4 fileCs_all ext_const Ext.cell Ext.frozen Ext.rng Ext.whole

theorem guardChange (op : BinOp) (x y : Operand) (u v : Array Value) (w : World) : (eqGuard op 111 x y (.agg u) (.agg v)).run Tryz.prog w = .ok () w := by
  cases op <;> kernel_rfl

set_option maxRecDepth 100000 in
theorem equalChange (c : Change) (w : World) : (Op.equalIn Op.maxDepth 111 (.agg (changeCs c)) (.agg (changeCs c))).run Tryz.prog w = .ok true w := by
  obtain ⟨d, hd⟩ : ∃ d, Op.maxDepth = d + 3 := ⟨_, rfl⟩
  rw [hd, run_equalIn_struct w _ 111 _ _ (by kernel_rfl) (by kernel_rfl)]
  simp [go_sem, Op.eqFields, changeCs]

section
variable (ρ : Operand → Value) (dst : Option Tmp) (x y : Operand) (ty : TypeId) (pos : String) (after : Array Edge) (guard : Option (Nat × Bool))
theorem exec_neqChange (yt : TypeId) : execOp ρ { dst, op := .binOp .neq 111 x y yt, type := ty, pos, after, guard } = (do pure (.value (← cmpS .neq 111 x y (ρ x) (ρ y)))) := rfl
end
theorem run_neqChange (x y : Operand) (c : Change) (w : World) : (cmpS .neq 111 x y (.agg (changeCs c)) (.agg (changeCs c))).run Tryz.prog w = .ok (.bool false) w := by
  simp [cmpS, guardChange, binOp, Op.equal, equalChange]
attribute [local go_sem ↓] exec_neqChange
attribute [local go_sem] run_neqChange rng_drewN

set_option maxRecDepth 100000 in
set_option maxHeartbeats 2000000 in
theorem sameChanges_calls (w : World) (ok ok' : Nat → Prop) (v v' : Value) (cs : List Change) (h : ChangesAt w ok v cs) (h' : ChangesAt w ok' v' cs) :
    Calls Tryz.prog 118 #[v, v'] w fun e w' => e = .returned (.bool true) ∧ ∃ n, w' = w.drewN n := by
  obtain ⟨a, cap, b, off, rfl, hl, hm, hr, ha, hc⟩ := h
  obtain ⟨a', cap', b', off', rfl, hl', hm', hr', ha', hc'⟩ := h'
  obtain ⟨n, hn⟩ : ∃ n, n = cs.length := ⟨_, rfl⟩
  have Hn : Hid (n = cs.length) := hn
  rw [← hn] at hl hr ha hl' hr' ha' ⊢
  have hi := run_indexAt_arr (P := Tryz.prog) (cap := cap) Tryz.underlying57 Tryz.size111 (fun h => (ha h).1)
  have hi' := run_indexAt_arr (P := Tryz.prog) (cap := cap') Tryz.underlying57 Tryz.size111 (fun h => (ha' h).1)
  have HC := hide hc
  have HC' := hide hc'
  clear ha hc hn hm hl ha' hc' hm' hl'
  have hb : ((n : Int) != (n : Int)) = false := by simp
  go_enter Tryz.func118, Tryz.ntmps118
  go_wp2
  go_loopw [13] (fun i wr => ∃ k : Nat, k ≤ n ∧ i = .int .i64 k ∧ Hid (∃ m, wr = w.drewN m)) (fun i _ => n - (intOf i).toNat)
  case atStart => exact ⟨0, by omega, rfl, ⟨0, rfl⟩⟩
  case round =>
    obtain ⟨k, hk, rfl, HW⟩ := hrel
    obtain ⟨m, rfl⟩ := HW.out
    by_cases hlt : k < n
    · have hks : k < cs.length := by rw [← Hn.out]; exact hlt
      have c0 := HC.out k hks
      have d0 := HC'.out k hks
      generalize cs[k] = c at *
      go_wp2
      go_quiet (fail)
      go_wp2
      go_roundw
      case measure => simp [intOf]; omega
      case rel => exact ⟨k + 1, by omega, by go_num, ⟨m + nq, by simp⟩⟩
    · go_wp2
      go_ret
      exact ⟨rfl, m, rfl⟩

set_option maxRecDepth 100000 in
set_option maxHeartbeats 2000000 in
theorem sameFile_calls (w : World) (ok ok' : Nat → Prop) (k s i bb : Int) (a a' : Option Addr) (n cap cap' : Nat) (cs : List Change) (h : ChangesAt w ok (.slice a n cap) cs) (h' : ChangesAt w ok' (.slice a' n cap') cs) :
    Calls Tryz.prog 45 #[.agg (fileCs k s i bb a n cap), .agg (fileCs k s i bb a' n cap')] w fun e w' => e = .returned (.bool true) ∧ Below w.heap.size w w' := by
  have hb := below2 w (.cells (fileCs k s i bb a n cap) 59) (.cells (fileCs k s i bb a' n cap') 59)
  have H1 := hide (RArr.below h hb)
  have H2 := hide (RArr.below h' hb)
  clear h h'
  go_enter Tryz.func45, Tryz.ntmps45
  go_wp2_with (go_at_call 118; refine (sameChanges_calls _ ok ok' _ _ cs H1.out H2.out).mono ?_; rintro e w1 ⟨rfl, q, rfl⟩)
  go_ret
  exact ⟨rfl, below_drewN hb q⟩

end Go.Proofs.Qxb6500666aGreatDoor
