/- authorize, IsCommand, IsReading, codeOf, walked. -/
import Derived.Test.Qxb6500666aGreatDoorAuth
namespace Go.Proofs.Qxb6500666aGreatDoor
open Go.RowKit

/-- The request's cells. -/
def reqA (r : Req) (lv : Value) : Array Value := #[.int .u8 r.kind, .int .u32 r.user, .int .i64 r.now, .int .u32 r.id, .int .u32 r.ref, .int .u32 r.kit, .int .u32 r.subject, .int .u32 r.visit, .int .u8 r.role, .int .u8 r.cls, .int .i64 r.time, .int .i64 r.till, .int .i64 r.value, .int .i64 r.l0, .int .i64 r.l1, .int .i64 r.l2, lv]

theorem accR_err {ps : List KV} {u c : Int} (h : accR ps u = .error c) : c = 17 ∨ c = 28 := by
  unfold accR at h
  split at h
  · cases h
  · split at h
    · injection h with h; exact Or.inl h.symm
    · rename_i v _
      unfold ofOpt at h
      split at h
      · injection h with h; exact Or.inr h.symm
      · cases h
def authR (ps : List KV) (user kind : Int) : Except Int Int :=
  match accR ps user with
  | .error c => if c = 17 then .error 3 else .error c
  | .ok a => if ! a.2 then .error 3 else if ! mayP a.1 kind then .error 4 else .ok a.1
def authV : Except Int Int → Value
  | .error c => .tuple #[.int .u8 0, .iface 63 (.int .u8 c)]
  | .ok x => .tuple #[.int .u8 x, .nilIface]

theorem run_eqc1 (w : World) : (binOp .eql 113 (.iface 63 (.int .u8 17)) (.iface 63 (.int .u8 17))).run Tryz.prog w = .ok (.bool true) w := by kernel_rfl
theorem run_eqc2 (w : World) : (binOp .eql 113 (.iface 63 (.int .u8 28)) (.iface 63 (.int .u8 17))).run Tryz.prog w = .ok (.bool false) w := by kernel_rfl
theorem run_eqc3 (w : World) : (binOp .eql 113 .nilIface (.iface 63 (.int .u8 17))).run Tryz.prog w = .ok (.bool false) w := by kernel_rfl

attribute [local go_sem] run_eqc1 run_eqc2 run_eqc3 ext_const Ext.cell Ext.frozen Ext.rng Ext.whole
attribute [local go_sem ↓] exec_ldAcc exec_stAcc
attribute [local go_sem] run_ldAcc run_stAcc whole_alloc_lt whole_alloc_at whole_drew setRow_alloc_at setRow_alloc_lt rng_alloc_lt rng_alloc_at rng_drew rng_drewN rng_setCell_other whole_setCell_other

set_option maxRecDepth 100000 in
set_option maxHeartbeats 1000000 in
theorem auth_calls (w : World) (Y S LB : Nat) (A ok : Nat → Prop) (ps : List KV) (full : Bool) (r : Req) (lv : Value) (hY : SysAt w Y S LB) (hS : StoreAt w S A ps full) (hps : PsOk ps) (hG : GrAt w ok) (hu : U32 r.user) (hk : U8 r.kind) :
    Calls Tryz.prog 127 #[.pointer (some ⟨Y, 0, none⟩), .agg #[.int .u8 r.kind, .int .u32 r.user, .int .i64 r.now, .int .u32 r.id, .int .u32 r.ref, .int .u32 r.kit, .int .u32 r.subject, .int .u32 r.visit, .int .u8 r.role, .int .u8 r.cls, .int .i64 r.time, .int .i64 r.till, .int .i64 r.value, .int .i64 r.l0, .int .i64 r.l1, .int .i64 r.l2, lv]] w fun e w' => e = .returned (authV (authR ps r.user r.kind)) ∧ Below w.heap.size w w' := by
  obtain ⟨R, hR⟩ : ∃ R, R = authV (authR ps r.user r.kind) := ⟨_, rfl⟩
  rw [← hR]
  have HR := hide hR
  have HY := hide hY
  have HS := hide hS
  have HG := hide hG
  have hYl := blk_lt hY
  clear hR hY hS hG
  go_enter Tryz.func127, Tryz.ntmps127
  go_upto_region 1 with fail
  have hb0 : Below w.heap.size w (w.alloc (.cells #[.int .u8 r.kind, .int .u32 r.user, .int .i64 r.now, .int .u32 r.id, .int .u32 r.ref, .int .u32 r.kit, .int .u32 r.subject, .int .u32 r.visit, .int .u8 r.role, .int .u8 r.cls, .int .i64 r.time, .int .i64 r.till, .int .i64 r.value, .int .i64 r.l0, .int .i64 r.l1, .int .i64 r.l2, lv] 53)) := (Below.refl _ _).alloc (Nat.le_refl _) _
  have hx0 : (w.alloc (.cells #[.int .u8 r.kind, .int .u32 r.user, .int .i64 r.now, .int .u32 r.id, .int .u32 r.ref, .int .u32 r.kit, .int .u32 r.subject, .int .u32 r.visit, .int .u8 r.role, .int .u8 r.cls, .int .i64 r.time, .int .i64 r.till, .int .i64 r.value, .int .i64 r.l0, .int .i64 r.l1, .int .i64 r.l2, lv] 53)).heap[w.heap.size]? = some (.cells #[.int .u8 r.kind, .int .u32 r.user, .int .i64 r.now, .int .u32 r.id, .int .u32 r.ref, .int .u32 r.kit, .int .u32 r.subject, .int .u32 r.visit, .int .u8 r.role, .int .u8 r.cls, .int .i64 r.time, .int .i64 r.till, .int .i64 r.value, .int .i64 r.l0, .int .i64 r.l1, .int .i64 r.l2, lv] 53 (0, 0)) := heap_alloc_at _ _
  generalize (World.alloc w _) = W at *
  have c1 : W.cell? ⟨w.heap.size, 1, none⟩ = some (.int .u32 r.user) := by rw [World.cell?, hx0]; rfl
  have hl0 := blk_lt hx0
  have HB0 := hide hb0
  have HX0 := hide hx0
  have HYW : Hid (SysAt W Y S LB) := (hb0.block _ hYl).trans HY.out
  have HSW := hide (HS.out.below hb0)
  clear hb0 hx0
  have hov : ∀ x, ones (accCs x) 2 = true := fun _ => rfl
  cases ha : accR ps r.user with
  | error c =>
    rcases accR_err ha with rfl | rfl
    · have HE : Hid (R = authV (.error 3)) := HR.out.trans (by simp [authR, ha])
      go_upto_region 2 with (go_at_call 171; refine (accR_calls _ Y S LB A ps full r.user HYW.out HSW.out hps hu).mono ?_; rintro e w1 ⟨hg, hb1⟩; rw [ha] at hg; have hg2 : e = .returned (.tuple #[.agg (accCs (0, false)), .iface 63 (.int .u8 17)]) := hg; subst hg2)
      have HB1 := hide (HB0.out.trans ((hb1.alloc hb1.size (.cells (accCs (0, false)) 314)).mono (by omega)))
      have hx1 := (Below.heap_alloc w1 (.cells (accCs (0, false)) 314) w.heap.size (by have := hb1.size; omega)).trans ((hb1.block _ hl0).trans HX0.out)
      have ha1 : (w1.alloc (.cells (accCs (0, false)) 314)).heap[w1.heap.size]? = some (.cells (accCs (0, false)) 314 (0, 0)) := heap_alloc_at _ _
      generalize hK : w1.heap.size = K at *
      generalize (World.alloc w1 _) = V at *
      simp only [accCs] at ha1
      go_wp2
      go_ret2
      exact ⟨ret_v HE, HB1.out⟩
    · have HE : Hid (R = authV (.error 28)) := HR.out.trans (by simp [authR, ha])
      go_upto_region 2 with (go_at_call 171; refine (accR_calls _ Y S LB A ps full r.user HYW.out HSW.out hps hu).mono ?_; rintro e w1 ⟨hg, hb1⟩; rw [ha] at hg; have hg2 : e = .returned (.tuple #[.agg (accCs (0, false)), .iface 63 (.int .u8 28)]) := hg; subst hg2)
      have HB1 := hide (HB0.out.trans ((hb1.alloc hb1.size (.cells (accCs (0, false)) 314)).mono (by omega)))
      have hx1 := (Below.heap_alloc w1 (.cells (accCs (0, false)) 314) w.heap.size (by have := hb1.size; omega)).trans ((hb1.block _ hl0).trans HX0.out)
      have ha1 : (w1.alloc (.cells (accCs (0, false)) 314)).heap[w1.heap.size]? = some (.cells (accCs (0, false)) 314 (0, 0)) := heap_alloc_at _ _
      generalize hK : w1.heap.size = K at *
      generalize (World.alloc w1 _) = V at *
      simp only [accCs] at ha1
      go_wp2
      go_ret2
      exact ⟨ret_v HE, HB1.out⟩
  | ok a =>
    obtain ⟨ro, ac⟩ := a
    cases ac with
    | false =>
      have HE : Hid (R = authV (.error 3)) := HR.out.trans (by simp [authR, ha])
      go_upto_region 2 with (go_at_call 171; refine (accR_calls _ Y S LB A ps full r.user HYW.out HSW.out hps hu).mono ?_; rintro e w1 ⟨hg, hb1⟩; rw [ha] at hg; have hg2 : e = .returned (.tuple #[.agg (accCs (ro, false)), .nilIface]) := hg; subst hg2)
      have HB1 := hide (HB0.out.trans ((hb1.alloc hb1.size (.cells (accCs (ro, false)) 314)).mono (by omega)))
      have hx1 := (Below.heap_alloc w1 (.cells (accCs (ro, false)) 314) w.heap.size (by have := hb1.size; omega)).trans ((hb1.block _ hl0).trans HX0.out)
      have ha1 : (w1.alloc (.cells (accCs (ro, false)) 314)).heap[w1.heap.size]? = some (.cells (accCs (ro, false)) 314 (0, 0)) := heap_alloc_at _ _
      generalize hK : w1.heap.size = K at *
      generalize (World.alloc w1 _) = V at *
      simp only [accCs] at ha1
      obtain ⟨d0, d1, -, hdl⟩ := cell_two ha1
      go_wp2
      go_ret2
      exact ⟨ret_v HE, HB1.out⟩
    | true =>
      cases tm : mayP ro r.kind with
      | false =>
        have HE : Hid (R = authV (.error 4)) := HR.out.trans (by simp [authR, ha, tm])
        go_upto_region 2 with (go_at_call 171; refine (accR_calls _ Y S LB A ps full r.user HYW.out HSW.out hps hu).mono ?_; rintro e w1 ⟨hg, hb1⟩; rw [ha] at hg; have hg2 : e = .returned (.tuple #[.agg (accCs (ro, true)), .nilIface]) := hg; subst hg2)
        have HB1 := hide (HB0.out.trans ((hb1.alloc hb1.size (.cells (accCs (ro, true)) 314)).mono (by omega)))
        have hx1 := (Below.heap_alloc w1 (.cells (accCs (ro, true)) 314) w.heap.size (by have := hb1.size; omega)).trans ((hb1.block _ hl0).trans HX0.out)
        have ha1 : (w1.alloc (.cells (accCs (ro, true)) 314)).heap[w1.heap.size]? = some (.cells (accCs (ro, true)) 314 (0, 0)) := heap_alloc_at _ _
        generalize hK : w1.heap.size = K at *
        generalize (World.alloc w1 _) = V at *
        simp only [accCs] at ha1
        obtain ⟨d0, d1, -, hdl⟩ := cell_two ha1
        have e0 : V.cell? ⟨w.heap.size, 0, none⟩ = some (.int .u8 r.kind) := by rw [World.cell?, hx1]; rfl
        have hl1 := blk_lt hx1
        go_wp2_with (go_at_call 40; refine (may_calls _ ok ro r.kind (HG.out.below HB1.out) hk).mono ?_; rintro e w9 ⟨rfl, rfl⟩; rw [tm])
        go_ret2
        exact ⟨ret_v HE, HB1.out⟩
      | true =>
        have HE : Hid (R = authV (.ok ro)) := HR.out.trans (by simp [authR, ha, tm])
        go_upto_region 2 with (go_at_call 171; refine (accR_calls _ Y S LB A ps full r.user HYW.out HSW.out hps hu).mono ?_; rintro e w1 ⟨hg, hb1⟩; rw [ha] at hg; have hg2 : e = .returned (.tuple #[.agg (accCs (ro, true)), .nilIface]) := hg; subst hg2)
        have HB1 := hide (HB0.out.trans ((hb1.alloc hb1.size (.cells (accCs (ro, true)) 314)).mono (by omega)))
        have hx1 := (Below.heap_alloc w1 (.cells (accCs (ro, true)) 314) w.heap.size (by have := hb1.size; omega)).trans ((hb1.block _ hl0).trans HX0.out)
        have ha1 : (w1.alloc (.cells (accCs (ro, true)) 314)).heap[w1.heap.size]? = some (.cells (accCs (ro, true)) 314 (0, 0)) := heap_alloc_at _ _
        generalize hK : w1.heap.size = K at *
        generalize (World.alloc w1 _) = V at *
        simp only [accCs] at ha1
        obtain ⟨d0, d1, -, hdl⟩ := cell_two ha1
        have e0 : V.cell? ⟨w.heap.size, 0, none⟩ = some (.int .u8 r.kind) := by rw [World.cell?, hx1]; rfl
        have hl1 := blk_lt hx1
        go_wp2_with (go_at_call 40; refine (may_calls _ ok ro r.kind (HG.out.below HB1.out) hk).mono ?_; rintro e w9 ⟨rfl, rfl⟩; rw [tm])
        go_ret2
        exact ⟨ret_v HE, HB1.out⟩

def isCmd (k : Int) : Bool := decide (1 ≤ k) && decide (k ≤ 20)
def isRdg (k : Int) : Bool := decide (20 < k) && decide (k ≤ 30)
set_option maxRecDepth 100000 in
theorem isCmd_calls (w : World) (k : Int) : Calls Tryz.prog 26 #[.int .u8 k] w fun e w' => e = .returned (.bool (isCmd k)) ∧ w' = w := by
  unfold isCmd
  cases t0 : decide (1 ≤ k) with
  | false =>
    go_enter Tryz.func26, Tryz.ntmps26
    go_wp2
    go_ret
    exact ⟨rfl, rfl⟩
  | true =>
    go_enter Tryz.func26, Tryz.ntmps26
    go_wp2
    go_ret
    exact ⟨rfl, rfl⟩
set_option maxRecDepth 100000 in
theorem isRdg_calls (w : World) (k : Int) : Calls Tryz.prog 39 #[.int .u8 k] w fun e w' => e = .returned (.bool (isRdg k)) ∧ w' = w := by
  unfold isRdg
  cases t0 : decide (20 < k) with
  | false =>
    go_enter Tryz.func39, Tryz.ntmps39
    go_wp2
    go_ret
    exact ⟨rfl, rfl⟩
  | true =>
    go_enter Tryz.func39, Tryz.ntmps39
    go_wp2
    go_ret
    exact ⟨rfl, rfl⟩
set_option maxRecDepth 100000 in
theorem tcodeOf_calls (w : World) (c : Int) : Calls Tryz.prog 170 #[.iface 63 (.int .u8 c)] w fun e w' => e = .returned (.int .u8 c) ∧ w' = w := by
  have hta : ∀ w : World, (Instr.typeAssert (.iface 63 (.int .u8 c)) 113 63 true).run Tryz.prog w = .ok (.tuple #[.int .u8 c, .bool true]) w := fun _ => by kernel_rfl
  go_enter Tryz.func170, Tryz.ntmps170
  go_wp2
  go_ret
  exact ⟨rfl, rfl⟩

end Go.Proofs.Qxb6500666aGreatDoor
