/- sameResponse, where both sides read alike. -/
import Derived.Test.Qxb6500666aGreatDoorSameF
import Derived.Test.Qxb6500666aGreatDoorSameP
import Derived.Test.Qxb6500666aGreatDoorSameWalk
import Derived.Test.Qxb6500666aGreatDoorRcnM
import Derived.Test.Qxb6500666aGreatDoorExecX
import Derived.BigQuiet
namespace Go.Proofs.Qxb6500666aGreatDoor
open Go.RowKit

theorem guardHel (op : BinOp) (x y : Operand) (u v : Array Value) (w : World) : (eqGuard op 101 x y (.agg u) (.agg v)).run Tryz.prog w = .ok () w := by cases op <;> kernel_rfl
theorem guardSta (op : BinOp) (x y : Operand) (u v : Array Value) (w : World) : (eqGuard op 65 x y (.agg u) (.agg v)).run Tryz.prog w = .ok () w := by cases op <;> kernel_rfl
theorem guardHdr (op : BinOp) (x y : Operand) (u v : Array Value) (w : World) : (eqGuard op 71 x y (.agg u) (.agg v)).run Tryz.prog w = .ok () w := by cases op <;> kernel_rfl
set_option maxRecDepth 100000 in
theorem equalHel (c : HeldR) (w : World) : (Op.equalIn Op.maxDepth 101 (.agg (heldCs c)) (.agg (heldCs c))).run Tryz.prog w = .ok true w := by
  obtain ⟨d, hd⟩ : ∃ d, Op.maxDepth = d + 2 := ⟨_, rfl⟩
  rw [hd, run_equalIn_struct w _ 101 _ _ (by kernel_rfl) (by kernel_rfl)]
  simp [go_sem, Op.eqFields, heldCs]
set_option maxRecDepth 100000 in
theorem equalSta (c : Stat) (w : World) : (Op.equalIn Op.maxDepth 65 (.agg (statCs c)) (.agg (statCs c))).run Tryz.prog w = .ok true w := by
  obtain ⟨d, hd⟩ : ∃ d, Op.maxDepth = d + 2 := ⟨_, rfl⟩
  rw [hd, run_equalIn_struct w _ 65 _ _ (by kernel_rfl) (by kernel_rfl)]
  simp [go_sem, Op.eqFields, statCs]
set_option maxRecDepth 100000 in
theorem equalHdr (c : Hdr) (w : World) : (Op.equalIn Op.maxDepth 71 (.agg (hdrCs c)) (.agg (hdrCs c))).run Tryz.prog w = .ok true w := by
  obtain ⟨d, hd⟩ : ∃ d, Op.maxDepth = d + 2 := ⟨_, rfl⟩
  rw [hd, run_equalIn_struct w _ 71 _ _ (by kernel_rfl) (by kernel_rfl)]
  simp [go_sem, Op.eqFields, hdrCs]
section
variable (ρ : Operand → Value) (dst : Option Tmp) (x y : Operand) (ty : TypeId) (pos : String) (after : Array Edge) (guard : Option (Nat × Bool))
theorem exec_neqHel (yt : TypeId) : execOp ρ { dst, op := .binOp .neq 101 x y yt, type := ty, pos, after, guard } = (do pure (.value (← cmpS .neq 101 x y (ρ x) (ρ y)))) := rfl
theorem exec_eqlSta (yt : TypeId) : execOp ρ { dst, op := .binOp .eql 65 x y yt, type := ty, pos, after, guard } = (do pure (.value (← cmpS .eql 65 x y (ρ x) (ρ y)))) := rfl
theorem exec_eqlHdr (yt : TypeId) : execOp ρ { dst, op := .binOp .eql 71 x y yt, type := ty, pos, after, guard } = (do pure (.value (← cmpS .eql 71 x y (ρ x) (ρ y)))) := rfl
theorem exec_ldHel : execOp ρ { dst, op := .load 101 x, type := ty, pos, after, guard } = (do pure (.value (← ldS 101 (ρ x)))) := rfl
end
theorem run_neqHel (x y : Operand) (c : HeldR) (w : World) : (cmpS .neq 101 x y (.agg (heldCs c)) (.agg (heldCs c))).run Tryz.prog w = .ok (.bool false) w := by
  simp [cmpS, guardHel, binOp, Op.equal, equalHel]
theorem run_eqlSta (x y : Operand) (c : Stat) (w : World) : (cmpS .eql 65 x y (.agg (statCs c)) (.agg (statCs c))).run Tryz.prog w = .ok (.bool true) w := by
  simp [cmpS, guardSta, binOp, Op.equal, equalSta]
theorem run_eqlHdr (x y : Operand) (c : Hdr) (w : World) : (cmpS .eql 71 x y (.agg (hdrCs c)) (.agg (hdrCs c))).run Tryz.prog w = .ok (.bool true) w := by
  simp [cmpS, guardHdr, binOp, Op.equal, equalHdr]
theorem sizeHel (w : World) : (sizeOf 101).run Tryz.prog w = .ok 3 w := by kernel_rfl
theorem underHel : Tryz.prog.underlying 101 = some (.struct (match Tryz.prog.underlying 101 with | some (.struct fs) => fs | _ => #[])) := by kernel_rfl
theorem underHelS : Tryz.prog.underlying 73 = some (.slice 101) := by kernel_rfl
theorem run_ldHel (w : World) (b off : Nat) : (ldS 101 (.pointer (some ⟨b, off, none⟩))).run Tryz.prog w = match rng w b off 3 with | some cs => .ok (.agg cs) w | none => (Instr.loadAt 101 (.pointer (some ⟨b, off, none⟩))).run Tryz.prog w :=
  run_ldS underHel sizeHel w b off
theorem heldCs_ex (y : HeldR) : (heldCs y).extract 0 3 = heldCs y := rfl
section
attribute [local go_sem ↓] exec_neqHel exec_ldHel
attribute [local go_sem] run_neqHel run_ldHel rng_drewN heldCs_ex
set_option maxRecDepth 100000 in
set_option maxHeartbeats 2000000 in
theorem sameHeld_calls (w : World) (ok ok' : Nat → Prop) (v v' : Value) (cs : List HeldR) (h : RArr w ok 3 heldCs v cs) (h' : RArr w ok' 3 heldCs v' cs) :
    Calls Tryz.prog 125 #[v, v'] w fun e w' => e = .returned (.bool true) ∧ ∃ n, w' = w.drewN n := by
  obtain ⟨a, cap, b, off, rfl, hl, hm, hr, ha, hc⟩ := h
  obtain ⟨a', cap', b', off', rfl, hl', hm', hr', ha', hc'⟩ := h'
  obtain ⟨n, hn⟩ : ∃ n, n = cs.length := ⟨_, rfl⟩
  have Hn : Hid (n = cs.length) := hn
  rw [← hn] at hl hr ha hl' hr' ha' ⊢
  have hi := run_indexAt_arr (P := Tryz.prog) (cap := cap) underHelS sizeHel (fun h => (ha h).1)
  have hi' := run_indexAt_arr (P := Tryz.prog) (cap := cap') underHelS sizeHel (fun h => (ha' h).1)
  have HC := hide hc
  have HC' := hide hc'
  clear ha hc hn hm hl ha' hc' hm' hl'
  have hb : ((n : Int) != (n : Int)) = false := by simp
  go_enter Tryz.func125, Tryz.ntmps125
  go_wp2
  go_loopw [13] (fun i wr => ∃ k : Nat, k ≤ n ∧ i = .int .i64 k ∧ Hid (∃ m, wr = w.drewN m)) (fun i _ => n - (intOf i).toNat)
  case atStart => exact ⟨0, by omega, rfl, ⟨0, rfl⟩⟩
  case round =>
    obtain ⟨k, hk, rfl, HW⟩ := hrel
    obtain ⟨m, rfl⟩ := HW.out
    by_cases hlt : k < n
    · have hks : k < cs.length := by rw [← Hn.out]; exact hlt
      have c0 := HC.out k hks
      have d0 := HC'.out k hks
      generalize cs[k] = c at *
      go_wp2
      go_quiet (fail)
      go_wp2
      go_roundw
      case measure => simp [intOf]; omega
      case rel => exact ⟨k + 1, by omega, by go_num, ⟨m + nq, by simp⟩⟩
    · go_wp2
      go_ret
      exact ⟨rfl, m, rfl⟩
end
end Go.Proofs.Qxb6500666aGreatDoor
