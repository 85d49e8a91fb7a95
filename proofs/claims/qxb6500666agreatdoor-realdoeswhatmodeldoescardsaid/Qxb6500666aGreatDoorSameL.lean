/- sameList of the layers' facts, where both sides read alike; sameBytes. (Made by tools/mk_samel.py.) -/
import Derived.Test.Qxb6500666aGreatDoorLow
import Derived.Test.Qxb6500666aGreatDoorRowWalks
import Derived.BigQuiet
import Derived.ChangeKeysEq
namespace Go.Proofs.Qxb6500666aGreatDoor
open Go.RowKit


theorem u64arr : Tryz.prog.underlying 51 = some (.array 3 2) := by kernel_rfl
theorem i64info : ∃ i, Tryz.prog.info? 2 = some i := by
  cases h : Tryz.prog.info? 2 with
  | some i => exact ⟨i, rfl⟩
  | none => exact absurd h (by intro h; have : (Tryz.prog.info? 2).isSome = true := by kernel_rfl
                               rw [h] at this; cases this)
set_option maxRecDepth 100000 in
theorem equalArr3 (d : Nat) (a b c : Int) (w : World) : (Op.equalIn (d + 2) 51 (.agg #[.int .i64 a, .int .i64 b, .int .i64 c]) (.agg #[.int .i64 a, .int .i64 b, .int .i64 c])).run Tryz.prog w = .ok true w := by
  obtain ⟨i, hi⟩ := i64info
  rw [run_equalIn_array w (d + 1) _ _ u64arr hi]
  have hc : Tryz.prog.cellsOf 2 = 1 := by kernel_rfl
  rw [hc]
  simp [go_sem, Op.eqItems, List.range, List.range.loop]


theorem guardAnaL (op : BinOp) (x y : Operand) (u v : Array Value) (w : World) : (eqGuard op 197 x y (.agg u) (.agg v)).run Tryz.prog w = .ok () w := by
  cases op <;> kernel_rfl
set_option maxRecDepth 100000 in
theorem equalAnaL (c : Ana) (w : World) : (Op.equalIn Op.maxDepth 197 (.agg (anaCs c)) (.agg (anaCs c))).run Tryz.prog w = .ok true w := by
  obtain ⟨d, hd⟩ : ∃ d, Op.maxDepth = d + 3 := ⟨_, rfl⟩
  rw [hd, run_equalIn_struct w _ 197 _ _ (by kernel_rfl) (by kernel_rfl)]
  simp [go_sem, Op.eqFields, anaCs, equalArr3]
section
variable (ρ : Operand → Value) (dst : Option Tmp) (x y : Operand) (ty : TypeId) (pos : String) (after : Array Edge) (guard : Option (Nat × Bool))
theorem exec_neqAnaL (yt : TypeId) : execOp ρ { dst, op := .binOp .neq 197 x y yt, type := ty, pos, after, guard } = (do pure (.value (← cmpS .neq 197 x y (ρ x) (ρ y)))) := rfl
end
theorem run_neqAnaL (x y : Operand) (c : Ana) (w : World) : (cmpS .neq 197 x y (.agg (anaCs c)) (.agg (anaCs c))).run Tryz.prog w = .ok (.bool false) w := by
  simp [cmpS, guardAnaL, binOp, Op.equal, equalAnaL]

theorem guardSbjL (op : BinOp) (x y : Operand) (u v : Array Value) (w : World) : (eqGuard op 200 x y (.agg u) (.agg v)).run Tryz.prog w = .ok () w := by
  cases op <;> kernel_rfl
set_option maxRecDepth 100000 in
theorem equalSbjL (c : Sbj) (w : World) : (Op.equalIn Op.maxDepth 200 (.agg (sbjCs c)) (.agg (sbjCs c))).run Tryz.prog w = .ok true w := by
  obtain ⟨d, hd⟩ : ∃ d, Op.maxDepth = d + 2 := ⟨_, rfl⟩
  rw [hd, run_equalIn_struct w _ 200 _ _ (by kernel_rfl) (by kernel_rfl)]
  simp [go_sem, Op.eqFields, sbjCs]
section
variable (ρ : Operand → Value) (dst : Option Tmp) (x y : Operand) (ty : TypeId) (pos : String) (after : Array Edge) (guard : Option (Nat × Bool))
theorem exec_neqSbjL (yt : TypeId) : execOp ρ { dst, op := .binOp .neq 200 x y yt, type := ty, pos, after, guard } = (do pure (.value (← cmpS .neq 200 x y (ρ x) (ρ y)))) := rfl
end
theorem run_neqSbjL (x y : Operand) (c : Sbj) (w : World) : (cmpS .neq 200 x y (.agg (sbjCs c)) (.agg (sbjCs c))).run Tryz.prog w = .ok (.bool false) w := by
  simp [cmpS, guardSbjL, binOp, Op.equal, equalSbjL]

theorem guardKitL (op : BinOp) (x y : Operand) (u v : Array Value) (w : World) : (eqGuard op 202 x y (.agg u) (.agg v)).run Tryz.prog w = .ok () w := by
  cases op <;> kernel_rfl
set_option maxRecDepth 100000 in
theorem equalKitL (c : Kit) (w : World) : (Op.equalIn Op.maxDepth 202 (.agg (kitCs c)) (.agg (kitCs c))).run Tryz.prog w = .ok true w := by
  obtain ⟨d, hd⟩ : ∃ d, Op.maxDepth = d + 2 := ⟨_, rfl⟩
  rw [hd, run_equalIn_struct w _ 202 _ _ (by kernel_rfl) (by kernel_rfl)]
  simp [go_sem, Op.eqFields, kitCs]
section
variable (ρ : Operand → Value) (dst : Option Tmp) (x y : Operand) (ty : TypeId) (pos : String) (after : Array Edge) (guard : Option (Nat × Bool))
theorem exec_neqKitL (yt : TypeId) : execOp ρ { dst, op := .binOp .neq 202 x y yt, type := ty, pos, after, guard } = (do pure (.value (← cmpS .neq 202 x y (ρ x) (ρ y)))) := rfl
end
theorem run_neqKitL (x y : Operand) (c : Kit) (w : World) : (cmpS .neq 202 x y (.agg (kitCs c)) (.agg (kitCs c))).run Tryz.prog w = .ok (.bool false) w := by
  simp [cmpS, guardKitL, binOp, Op.equal, equalKitL]

theorem guardSmpL (op : BinOp) (x y : Operand) (u v : Array Value) (w : World) : (eqGuard op 94 x y (.agg u) (.agg v)).run Tryz.prog w = .ok () w := by
  cases op <;> kernel_rfl
set_option maxRecDepth 100000 in
theorem equalSmpL (c : Smp) (w : World) : (Op.equalIn Op.maxDepth 94 (.agg (smpCs c)) (.agg (smpCs c))).run Tryz.prog w = .ok true w := by
  obtain ⟨d, hd⟩ : ∃ d, Op.maxDepth = d + 2 := ⟨_, rfl⟩
  rw [hd, run_equalIn_struct w _ 94 _ _ (by kernel_rfl) (by kernel_rfl)]
  simp [go_sem, Op.eqFields, smpCs]
section
variable (ρ : Operand → Value) (dst : Option Tmp) (x y : Operand) (ty : TypeId) (pos : String) (after : Array Edge) (guard : Option (Nat × Bool))
theorem exec_neqSmpL (yt : TypeId) : execOp ρ { dst, op := .binOp .neq 94 x y yt, type := ty, pos, after, guard } = (do pure (.value (← cmpS .neq 94 x y (ρ x) (ρ y)))) := rfl
end
theorem run_neqSmpL (x y : Operand) (c : Smp) (w : World) : (cmpS .neq 94 x y (.agg (smpCs c)) (.agg (smpCs c))).run Tryz.prog w = .ok (.bool false) w := by
  simp [cmpS, guardSmpL, binOp, Op.equal, equalSmpL]

theorem guardResL (op : BinOp) (x y : Operand) (u v : Array Value) (w : World) : (eqGuard op 92 x y (.agg u) (.agg v)).run Tryz.prog w = .ok () w := by
  cases op <;> kernel_rfl
set_option maxRecDepth 100000 in
theorem equalResL (c : Res) (w : World) : (Op.equalIn Op.maxDepth 92 (.agg (resCs c)) (.agg (resCs c))).run Tryz.prog w = .ok true w := by
  obtain ⟨d, hd⟩ : ∃ d, Op.maxDepth = d + 2 := ⟨_, rfl⟩
  rw [hd, run_equalIn_struct w _ 92 _ _ (by kernel_rfl) (by kernel_rfl)]
  simp [go_sem, Op.eqFields, resCs]
section
variable (ρ : Operand → Value) (dst : Option Tmp) (x y : Operand) (ty : TypeId) (pos : String) (after : Array Edge) (guard : Option (Nat × Bool))
theorem exec_neqResL (yt : TypeId) : execOp ρ { dst, op := .binOp .neq 92 x y yt, type := ty, pos, after, guard } = (do pure (.value (← cmpS .neq 92 x y (ρ x) (ρ y)))) := rfl
end
theorem run_neqResL (x y : Operand) (c : Res) (w : World) : (cmpS .neq 92 x y (.agg (resCs c)) (.agg (resCs c))).run Tryz.prog w = .ok (.bool false) w := by
  simp [cmpS, guardResL, binOp, Op.equal, equalResL]

theorem guardQryL (op : BinOp) (x y : Operand) (u v : Array Value) (w : World) : (eqGuard op 208 x y (.agg u) (.agg v)).run Tryz.prog w = .ok () w := by
  cases op <;> kernel_rfl
set_option maxRecDepth 100000 in
theorem equalQryL (c : Qry) (w : World) : (Op.equalIn Op.maxDepth 208 (.agg (qryCs c)) (.agg (qryCs c))).run Tryz.prog w = .ok true w := by
  obtain ⟨d, hd⟩ : ∃ d, Op.maxDepth = d + 2 := ⟨_, rfl⟩
  rw [hd, run_equalIn_struct w _ 208 _ _ (by kernel_rfl) (by kernel_rfl)]
  simp [go_sem, Op.eqFields, qryCs]
section
variable (ρ : Operand → Value) (dst : Option Tmp) (x y : Operand) (ty : TypeId) (pos : String) (after : Array Edge) (guard : Option (Nat × Bool))
theorem exec_neqQryL (yt : TypeId) : execOp ρ { dst, op := .binOp .neq 208 x y yt, type := ty, pos, after, guard } = (do pure (.value (← cmpS .neq 208 x y (ρ x) (ρ y)))) := rfl
end
theorem run_neqQryL (x y : Operand) (c : Qry) (w : World) : (cmpS .neq 208 x y (.agg (qryCs c)) (.agg (qryCs c))).run Tryz.prog w = .ok (.bool false) w := by
  simp [cmpS, guardQryL, binOp, Op.equal, equalQryL]
attribute [local go_sem ↓] exec_neqAnaL exec_ldAna exec_neqSbjL exec_ldSbj exec_neqKitL exec_ldKit exec_neqSmpL exec_ldSmp exec_neqResL exec_ldRes exec_neqQryL exec_ldQry
attribute [local go_sem] run_neqAnaL run_ldAna run_neqSbjL run_ldSbj run_neqKitL run_ldKit run_neqSmpL run_ldSmp run_neqResL run_ldRes run_neqQryL run_ldQry rng_drewN

set_option maxRecDepth 100000 in
set_option maxHeartbeats 2000000 in
theorem sameAna_calls (w : World) (ok ok' : Nat → Prop) (v v' : Value) (cs : List Ana) (h : RArr w ok 4 anaCs v cs) (h' : RArr w ok' 4 anaCs v' cs) :
    Calls Tryz.prog 89 #[v, v'] w fun e w' => e = .returned (.bool true) ∧ ∃ n, w' = w.drewN n := by
  obtain ⟨a, cap, b, off, rfl, hl, hm, hr, ha, hc⟩ := h
  obtain ⟨a', cap', b', off', rfl, hl', hm', hr', ha', hc'⟩ := h'
  obtain ⟨n, hn⟩ : ∃ n, n = cs.length := ⟨_, rfl⟩
  have Hn : Hid (n = cs.length) := hn
  rw [← hn] at hl hr ha hl' hr' ha' ⊢
  have hi := run_indexAt_arr (P := Tryz.prog) (cap := cap) Tryz.underlying27 Tryz.size197 (fun h => (ha h).1)
  have hi' := run_indexAt_arr (P := Tryz.prog) (cap := cap') Tryz.underlying27 Tryz.size197 (fun h => (ha' h).1)
  have HC := hide hc
  have HC' := hide hc'
  clear ha hc hn hm hl ha' hc' hm' hl'
  have hb : ((n : Int) != (n : Int)) = false := by simp
  go_enter Tryz.func89, Tryz.ntmps89
  go_wp2
  go_loopw [13] (fun i wr => ∃ k : Nat, k ≤ n ∧ i = .int .i64 k ∧ Hid (∃ m, wr = w.drewN m)) (fun i _ => n - (intOf i).toNat)
  case atStart => exact ⟨0, by omega, rfl, ⟨0, rfl⟩⟩
  case round =>
    obtain ⟨k, hk, rfl, HW⟩ := hrel
    obtain ⟨m, rfl⟩ := HW.out
    by_cases hlt : k < n
    · have hks : k < cs.length := by rw [← Hn.out]; exact hlt
      have c0 := HC.out k hks
      have d0 := HC'.out k hks
      generalize cs[k] = c at *
      go_wp2
      go_quiet (fail)
      go_wp2
      go_roundw
      case measure => simp [intOf]; omega
      case rel => exact ⟨k + 1, by omega, by go_num, ⟨m + nq, by simp⟩⟩
    · go_wp2
      go_ret
      exact ⟨rfl, m, rfl⟩

set_option maxRecDepth 100000 in
set_option maxHeartbeats 2000000 in
theorem sameSbj_calls (w : World) (ok ok' : Nat → Prop) (v v' : Value) (cs : List Sbj) (h : RArr w ok 2 sbjCs v cs) (h' : RArr w ok' 2 sbjCs v' cs) :
    Calls Tryz.prog 90 #[v, v'] w fun e w' => e = .returned (.bool true) ∧ ∃ n, w' = w.drewN n := by
  obtain ⟨a, cap, b, off, rfl, hl, hm, hr, ha, hc⟩ := h
  obtain ⟨a', cap', b', off', rfl, hl', hm', hr', ha', hc'⟩ := h'
  obtain ⟨n, hn⟩ : ∃ n, n = cs.length := ⟨_, rfl⟩
  have Hn : Hid (n = cs.length) := hn
  rw [← hn] at hl hr ha hl' hr' ha' ⊢
  have hi := run_indexAt_arr (P := Tryz.prog) (cap := cap) Tryz.underlying30 Tryz.size200 (fun h => (ha h).1)
  have hi' := run_indexAt_arr (P := Tryz.prog) (cap := cap') Tryz.underlying30 Tryz.size200 (fun h => (ha' h).1)
  have HC := hide hc
  have HC' := hide hc'
  clear ha hc hn hm hl ha' hc' hm' hl'
  have hb : ((n : Int) != (n : Int)) = false := by simp
  go_enter Tryz.func90, Tryz.ntmps90
  go_wp2
  go_loopw [13] (fun i wr => ∃ k : Nat, k ≤ n ∧ i = .int .i64 k ∧ Hid (∃ m, wr = w.drewN m)) (fun i _ => n - (intOf i).toNat)
  case atStart => exact ⟨0, by omega, rfl, ⟨0, rfl⟩⟩
  case round =>
    obtain ⟨k, hk, rfl, HW⟩ := hrel
    obtain ⟨m, rfl⟩ := HW.out
    by_cases hlt : k < n
    · have hks : k < cs.length := by rw [← Hn.out]; exact hlt
      have c0 := HC.out k hks
      have d0 := HC'.out k hks
      generalize cs[k] = c at *
      go_wp2
      go_quiet (fail)
      go_wp2
      go_roundw
      case measure => simp [intOf]; omega
      case rel => exact ⟨k + 1, by omega, by go_num, ⟨m + nq, by simp⟩⟩
    · go_wp2
      go_ret
      exact ⟨rfl, m, rfl⟩

set_option maxRecDepth 100000 in
set_option maxHeartbeats 2000000 in
theorem sameKit_calls (w : World) (ok ok' : Nat → Prop) (v v' : Value) (cs : List Kit) (h : RArr w ok 2 kitCs v cs) (h' : RArr w ok' 2 kitCs v' cs) :
    Calls Tryz.prog 91 #[v, v'] w fun e w' => e = .returned (.bool true) ∧ ∃ n, w' = w.drewN n := by
  obtain ⟨a, cap, b, off, rfl, hl, hm, hr, ha, hc⟩ := h
  obtain ⟨a', cap', b', off', rfl, hl', hm', hr', ha', hc'⟩ := h'
  obtain ⟨n, hn⟩ : ∃ n, n = cs.length := ⟨_, rfl⟩
  have Hn : Hid (n = cs.length) := hn
  rw [← hn] at hl hr ha hl' hr' ha' ⊢
  have hi := run_indexAt_arr (P := Tryz.prog) (cap := cap) Tryz.underlying33 Tryz.size202 (fun h => (ha h).1)
  have hi' := run_indexAt_arr (P := Tryz.prog) (cap := cap') Tryz.underlying33 Tryz.size202 (fun h => (ha' h).1)
  have HC := hide hc
  have HC' := hide hc'
  clear ha hc hn hm hl ha' hc' hm' hl'
  have hb : ((n : Int) != (n : Int)) = false := by simp
  go_enter Tryz.func91, Tryz.ntmps91
  go_wp2
  go_loopw [13] (fun i wr => ∃ k : Nat, k ≤ n ∧ i = .int .i64 k ∧ Hid (∃ m, wr = w.drewN m)) (fun i _ => n - (intOf i).toNat)
  case atStart => exact ⟨0, by omega, rfl, ⟨0, rfl⟩⟩
  case round =>
    obtain ⟨k, hk, rfl, HW⟩ := hrel
    obtain ⟨m, rfl⟩ := HW.out
    by_cases hlt : k < n
    · have hks : k < cs.length := by rw [← Hn.out]; exact hlt
      have c0 := HC.out k hks
      have d0 := HC'.out k hks
      generalize cs[k] = c at *
      go_wp2
      go_quiet (fail)
      go_wp2
      go_roundw
      case measure => simp [intOf]; omega
      case rel => exact ⟨k + 1, by omega, by go_num, ⟨m + nq, by simp⟩⟩
    · go_wp2
      go_ret
      exact ⟨rfl, m, rfl⟩

set_option maxRecDepth 100000 in
set_option maxHeartbeats 2000000 in
theorem sameSmp_calls (w : World) (ok ok' : Nat → Prop) (v v' : Value) (cs : List Smp) (h : RArr w ok 8 smpCs v cs) (h' : RArr w ok' 8 smpCs v' cs) :
    Calls Tryz.prog 92 #[v, v'] w fun e w' => e = .returned (.bool true) ∧ ∃ n, w' = w.drewN n := by
  obtain ⟨a, cap, b, off, rfl, hl, hm, hr, ha, hc⟩ := h
  obtain ⟨a', cap', b', off', rfl, hl', hm', hr', ha', hc'⟩ := h'
  obtain ⟨n, hn⟩ : ∃ n, n = cs.length := ⟨_, rfl⟩
  have Hn : Hid (n = cs.length) := hn
  rw [← hn] at hl hr ha hl' hr' ha' ⊢
  have hi := run_indexAt_arr (P := Tryz.prog) (cap := cap) Tryz.underlying36 Tryz.size94 (fun h => (ha h).1)
  have hi' := run_indexAt_arr (P := Tryz.prog) (cap := cap') Tryz.underlying36 Tryz.size94 (fun h => (ha' h).1)
  have HC := hide hc
  have HC' := hide hc'
  clear ha hc hn hm hl ha' hc' hm' hl'
  have hb : ((n : Int) != (n : Int)) = false := by simp
  go_enter Tryz.func92, Tryz.ntmps92
  go_wp2
  go_loopw [13] (fun i wr => ∃ k : Nat, k ≤ n ∧ i = .int .i64 k ∧ Hid (∃ m, wr = w.drewN m)) (fun i _ => n - (intOf i).toNat)
  case atStart => exact ⟨0, by omega, rfl, ⟨0, rfl⟩⟩
  case round =>
    obtain ⟨k, hk, rfl, HW⟩ := hrel
    obtain ⟨m, rfl⟩ := HW.out
    by_cases hlt : k < n
    · have hks : k < cs.length := by rw [← Hn.out]; exact hlt
      have c0 := HC.out k hks
      have d0 := HC'.out k hks
      generalize cs[k] = c at *
      go_wp2
      go_quiet (fail)
      go_wp2
      go_roundw
      case measure => simp [intOf]; omega
      case rel => exact ⟨k + 1, by omega, by go_num, ⟨m + nq, by simp⟩⟩
    · go_wp2
      go_ret
      exact ⟨rfl, m, rfl⟩

set_option maxRecDepth 100000 in
set_option maxHeartbeats 2000000 in
theorem sameRes_calls (w : World) (ok ok' : Nat → Prop) (v v' : Value) (cs : List Res) (h : RArr w ok 6 resCs v cs) (h' : RArr w ok' 6 resCs v' cs) :
    Calls Tryz.prog 93 #[v, v'] w fun e w' => e = .returned (.bool true) ∧ ∃ n, w' = w.drewN n := by
  obtain ⟨a, cap, b, off, rfl, hl, hm, hr, ha, hc⟩ := h
  obtain ⟨a', cap', b', off', rfl, hl', hm', hr', ha', hc'⟩ := h'
  obtain ⟨n, hn⟩ : ∃ n, n = cs.length := ⟨_, rfl⟩
  have Hn : Hid (n = cs.length) := hn
  rw [← hn] at hl hr ha hl' hr' ha' ⊢
  have hi := run_indexAt_arr (P := Tryz.prog) (cap := cap) Tryz.underlying37 Tryz.size92 (fun h => (ha h).1)
  have hi' := run_indexAt_arr (P := Tryz.prog) (cap := cap') Tryz.underlying37 Tryz.size92 (fun h => (ha' h).1)
  have HC := hide hc
  have HC' := hide hc'
  clear ha hc hn hm hl ha' hc' hm' hl'
  have hb : ((n : Int) != (n : Int)) = false := by simp
  go_enter Tryz.func93, Tryz.ntmps93
  go_wp2
  go_loopw [13] (fun i wr => ∃ k : Nat, k ≤ n ∧ i = .int .i64 k ∧ Hid (∃ m, wr = w.drewN m)) (fun i _ => n - (intOf i).toNat)
  case atStart => exact ⟨0, by omega, rfl, ⟨0, rfl⟩⟩
  case round =>
    obtain ⟨k, hk, rfl, HW⟩ := hrel
    obtain ⟨m, rfl⟩ := HW.out
    by_cases hlt : k < n
    · have hks : k < cs.length := by rw [← Hn.out]; exact hlt
      have c0 := HC.out k hks
      have d0 := HC'.out k hks
      generalize cs[k] = c at *
      go_wp2
      go_quiet (fail)
      go_wp2
      go_roundw
      case measure => simp [intOf]; omega
      case rel => exact ⟨k + 1, by omega, by go_num, ⟨m + nq, by simp⟩⟩
    · go_wp2
      go_ret
      exact ⟨rfl, m, rfl⟩

set_option maxRecDepth 100000 in
set_option maxHeartbeats 2000000 in
theorem sameQry_calls (w : World) (ok ok' : Nat → Prop) (v v' : Value) (cs : List Qry) (h : RArr w ok 3 qryCs v cs) (h' : RArr w ok' 3 qryCs v' cs) :
    Calls Tryz.prog 94 #[v, v'] w fun e w' => e = .returned (.bool true) ∧ ∃ n, w' = w.drewN n := by
  obtain ⟨a, cap, b, off, rfl, hl, hm, hr, ha, hc⟩ := h
  obtain ⟨a', cap', b', off', rfl, hl', hm', hr', ha', hc'⟩ := h'
  obtain ⟨n, hn⟩ : ∃ n, n = cs.length := ⟨_, rfl⟩
  have Hn : Hid (n = cs.length) := hn
  rw [← hn] at hl hr ha hl' hr' ha' ⊢
  have hi := run_indexAt_arr (P := Tryz.prog) (cap := cap) Tryz.underlying38 Tryz.size208 (fun h => (ha h).1)
  have hi' := run_indexAt_arr (P := Tryz.prog) (cap := cap') Tryz.underlying38 Tryz.size208 (fun h => (ha' h).1)
  have HC := hide hc
  have HC' := hide hc'
  clear ha hc hn hm hl ha' hc' hm' hl'
  have hb : ((n : Int) != (n : Int)) = false := by simp
  go_enter Tryz.func94, Tryz.ntmps94
  go_wp2
  go_loopw [13] (fun i wr => ∃ k : Nat, k ≤ n ∧ i = .int .i64 k ∧ Hid (∃ m, wr = w.drewN m)) (fun i _ => n - (intOf i).toNat)
  case atStart => exact ⟨0, by omega, rfl, ⟨0, rfl⟩⟩
  case round =>
    obtain ⟨k, hk, rfl, HW⟩ := hrel
    obtain ⟨m, rfl⟩ := HW.out
    by_cases hlt : k < n
    · have hks : k < cs.length := by rw [← Hn.out]; exact hlt
      have c0 := HC.out k hks
      have d0 := HC'.out k hks
      generalize cs[k] = c at *
      go_wp2
      go_quiet (fail)
      go_wp2
      go_roundw
      case measure => simp [intOf]; omega
      case rel => exact ⟨k + 1, by omega, by go_num, ⟨m + nq, by simp⟩⟩
    · go_wp2
      go_ret
      exact ⟨rfl, m, rfl⟩
end Go.Proofs.Qxb6500666aGreatDoor
