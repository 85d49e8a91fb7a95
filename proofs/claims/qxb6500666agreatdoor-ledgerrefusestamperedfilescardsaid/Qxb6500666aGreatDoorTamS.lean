/- sameFile of any two files answers. -/
import Derived.Test.Qxb6500666aGreatDoorSameWalk
import Derived.Test.Qxb6500666aGreatDoorMask
namespace Go.Proofs.Qxb6500666aGreatDoor
open Go.RowKit
def Change.eqB (c d : Change) : Bool := c.action == d.action && c.row.eqB d.row
theorem Change.eqB_iff (c d : Change) : c.eqB d = true ↔ c = d := by
  unfold Change.eqB
  rw [Bool.and_eq_true, Row.eqB_iff, beq_iff_eq]
  cases c
  cases d
  simp
set_option maxRecDepth 100000 in
theorem equalChange2 (c d : Change) (w : World) : (Op.equalIn Op.maxDepth 111 (.agg (changeCs c)) (.agg (changeCs d))).run Tryz.prog w = .ok (c.eqB d) w := by
  by_cases h : c = d
  · subst h
    rw [(Change.eqB_iff c c).2 rfl]
    exact equalChange c w
  · have e : c.eqB d = false := by
      cases e : c.eqB d with
      | false => rfl
      | true => exact absurd ((Change.eqB_iff c d).1 e) h
    rw [e]
    obtain ⟨dd, hd⟩ : ∃ dd, Op.maxDepth = dd + 3 := ⟨_, rfl⟩
    rw [hd, run_equalIn_struct w _ 111 _ _ (by kernel_rfl) (by kernel_rfl)]
    obtain ⟨ca, cr⟩ := c
    obtain ⟨da, dr⟩ := d
    obtain ⟨c0, c1, c2, c3, c4, c5, c6, c7, c8, c9, c10, c11, c12⟩ := cr
    obtain ⟨d0, d1, d2, d3, d4, d5, d6, d7, d8, d9, d10, d11, d12⟩ := dr
    simp only [Change.mk.injEq, Row.mk.injEq] at h
    simp [go_sem, Op.eqFields, changeCs]
    intro ga g0 g1 g2 g3 g4 g5 g6 g7 g8 g9 g10 g11 g12
    exact h ⟨ga, g0, g1, g2, g3, g4, g5, g6, g7, g8, g9, g10, g11, g12⟩

theorem run_neqChange2 (x y : Operand) (c d : Change) (w : World) : (cmpS .neq 111 x y (.agg (changeCs c)) (.agg (changeCs d))).run Tryz.prog w = .ok (.bool (!c.eqB d)) w := by
  simp [cmpS, guardChange, binOp, Op.equal, equalChange2]
attribute [local go_sem ↓] exec_neqChange exec_ldChange exec_ldFile
attribute [local go_sem] run_neqChange2 run_ldChange run_ldFile rng_drewN fileCs_size fileCs_ones fileCs_0 fileCs_1 fileCs_2 fileCs_3 fileCs_4 fileCs_all rng_alloc_lt rng_alloc_at whole_alloc_lt whole_alloc_at ext_const Ext.cell Ext.frozen Ext.rng Ext.whole

set_option maxRecDepth 100000 in
set_option maxHeartbeats 2000000 in
theorem sameChgAny_calls (w : World) (ok ok' : Nat → Prop) (v v' : Value) (cs ds : List Change) (h : ChangesAt w ok v cs) (h' : ChangesAt w ok' v' ds) :
    Calls Tryz.prog 118 #[v, v'] w fun e w' => (∃ β, e = .returned (.bool β)) ∧ ∃ n, w' = w.drewN n := by
  obtain ⟨a, cap, b, off, rfl, hl, hm, hr, ha, hc⟩ := h
  obtain ⟨a', cap', b', off', rfl, hl', hm', hr', ha', hc'⟩ := h'
  obtain ⟨n, hn⟩ : ∃ n, n = cs.length := ⟨_, rfl⟩
  obtain ⟨n', hn'⟩ : ∃ n', n' = ds.length := ⟨_, rfl⟩
  have Hn : Hid (n = cs.length) := hn
  have Hn' : Hid (n' = ds.length) := hn'
  rw [← hn] at hl hr ha ⊢
  rw [← hn'] at hl' hr' ha' ⊢
  have hi := run_indexAt_arr (P := Tryz.prog) (cap := cap) Tryz.underlying57 Tryz.size111 (fun h => (ha h).1)
  have hi' := run_indexAt_arr (P := Tryz.prog) (cap := cap') Tryz.underlying57 Tryz.size111 (fun h => (ha' h).1)
  have HC := hide hc
  have HC' := hide hc'
  clear ha hc hn hm hl ha' hc' hm' hl' hn'
  by_cases hnn : n = n'
  · subst hnn
    have hb : ((n : Int) != (n : Int)) = false := by simp
    go_enter Tryz.func118, Tryz.ntmps118
    go_wp2
    go_loopw [13] (fun i wr => ∃ k : Nat, k ≤ n ∧ i = .int .i64 k ∧ Hid (∃ m, wr = w.drewN m)) (fun i _ => n - (intOf i).toNat)
    case atStart => exact ⟨0, by omega, rfl, ⟨0, rfl⟩⟩
    case round =>
      obtain ⟨k, hk, rfl, HW⟩ := hrel
      obtain ⟨m, rfl⟩ := HW.out
      by_cases hlt : k < n
      · have hks : k < cs.length := by rw [← Hn.out]; exact hlt
        have hks' : k < ds.length := by rw [← Hn'.out]; exact hlt
        have c0 := HC.out k hks
        have d0 := HC'.out k hks'
        generalize cs[k] = c at *
        generalize ds[k] = d at *
        cases hcd : c.eqB d with
        | true =>
          go_wp2
          go_quiet (fail)
          go_wp2
          go_roundw
          case measure => simp [intOf]; omega
          case rel => exact ⟨k + 1, by omega, by go_num, ⟨m + nq, by simp⟩⟩
        | false =>
          go_wp2
          go_quiet (fail)
          go_wp2
          go_ret
          exact ⟨⟨_, rfl⟩, m + nq, by simp⟩
      · go_wp2
        go_ret
        exact ⟨⟨_, rfl⟩, m, rfl⟩
  · have hb : ((n : Int) != (n' : Int)) = true := by simp; omega
    go_enter Tryz.func118, Tryz.ntmps118
    go_wp2
    go_ret
    exact ⟨⟨_, rfl⟩, 0, rfl⟩

set_option maxRecDepth 100000 in
set_option maxHeartbeats 2000000 in
theorem sameFileAny_calls (w : World) (ok ok' : Nat → Prop) (k s i bb k' s' i' bb' : Int) (a a' : Option Addr) (n n' cap cap' : Nat) (cs ds : List Change) (h : ChangesAt w ok (.slice a n cap) cs) (h' : ChangesAt w ok' (.slice a' n' cap') ds) :
    Calls Tryz.prog 45 #[.agg (fileCs k s i bb a n cap), .agg (fileCs k' s' i' bb' a' n' cap')] w fun e w' => (∃ β, e = .returned (.bool β)) ∧ Below w.heap.size w w' := by
  have hb := below2 w (.cells (fileCs k s i bb a n cap) 59) (.cells (fileCs k' s' i' bb' a' n' cap') 59)
  have H1 := hide (RArr.below h hb)
  have H2 := hide (RArr.below h' hb)
  clear h h'
  by_cases e1 : k = k'
  · subst e1
    by_cases e2 : s = s'
    · subst e2
      by_cases e3 : i = i'
      · subst e3
        by_cases e4 : bb = bb'
        · subst e4
          go_enter Tryz.func45, Tryz.ntmps45
          go_wp2_with (go_at_call 118; refine (sameChgAny_calls _ ok ok' _ _ cs ds H1.out H2.out).mono ?_; rintro e w1 ⟨⟨β, rfl⟩, q, rfl⟩)
          go_ret
          exact ⟨⟨_, rfl⟩, below_drewN hb q⟩
        · have hx : (bb == bb') = false := by simpa using e4
          go_enter Tryz.func45, Tryz.ntmps45
          go_wp2
          go_ret
          exact ⟨⟨_, rfl⟩, hb⟩
      · have hx : (i == i') = false := by simpa using e3
        go_enter Tryz.func45, Tryz.ntmps45
        go_wp2
        go_ret
        exact ⟨⟨_, rfl⟩, hb⟩
    · have hx : (s == s') = false := by simpa using e2
      go_enter Tryz.func45, Tryz.ntmps45
      go_wp2
      go_ret
      exact ⟨⟨_, rfl⟩, hb⟩
  · have hx : (k == k') = false := by simpa using e1
    go_enter Tryz.func45, Tryz.ntmps45
    go_wp2
    go_ret
    exact ⟨⟨_, rfl⟩, hb⟩
end Go.Proofs.Qxb6500666aGreatDoor
