/- The readings, kind by kind. -/
import Derived.Test.Qxb6500666aGreatDoorReadK
namespace Go.Proofs.Qxb6500666aGreatDoor
open Go.RowKit
attribute [local go_sem] ext_const Ext.cell Ext.frozen Ext.rng Ext.whole
attribute [local go_sem ↓] exec_ldRsp exec_stRsp exec_bdRsp exec_ldStat exec_stStat exec_ldAcc exec_stAcc exec_ldHd exec_stHd exec_ldEnt exec_stEnt
attribute [local go_sem] run_ldRsp run_stRsp run_bdRsp0 run_bdRsp1 respCs_ones run_ldStat run_stStat run_ldAcc run_stAcc run_ldHd run_stHd whole_alloc_lt whole_alloc_at whole_drew setRow_alloc_at setRow_alloc_lt rng_alloc_lt rng_alloc_at rng_drew rng_drewN rng_setCell_other whole_setCell_other


set_option maxRecDepth 100000 in
set_option maxHeartbeats 2000000 in
theorem read22 (w : World) (Y S LB : Nat) (A ok : Nat → Prop) (ps : List KV) (full : Bool) (x : LV) (L : Low) (r : Req) (lv : Value) (h : SysSt w Y S LB A ok ps full x L) :
    Calls Tryz.prog 128 #[.pointer (some ⟨Y, 0, none⟩), .agg #[.int .u8 22, .int .u32 r.user, .int .i64 r.now, .int .u32 r.id, .int .u32 r.ref, .int .u32 r.kit, .int .u32 r.subject, .int .u32 r.visit, .int .u8 r.role, .int .u8 r.cls, .int .i64 r.time, .int .i64 r.till, .int .i64 r.value, .int .i64 r.l0, .int .i64 r.l1, .int .i64 r.l2, lv]] w fun e w' => RdPost w w' e ((statR ps).map fun s x => x = { rsp0 with st := s }) := by
  have HRX : Hid (∀ w' e (P : Except Int (Rsp → Prop)), RdPost w w' e P ↔ RdPost w w' e P) := fun _ _ _ => Iff.rfl
  have HC := hide (fun W (hb : Below w.heap.size w W) => statR_calls W Y S LB A ps full (h.below hb).sys (h.below hb).st h.pk)
  have hYc := (sys_cells h.sys).2
  have hYl := blk_lt h.sys
  clear h HRX
  go_enter Tryz.func128, Tryz.ntmps128
  go_upto_region 3 with fail
  have H0 := hide (RB.start w #[.int .u8 22, .int .u32 r.user, .int .i64 r.now, .int .u32 r.id, .int .u32 r.ref, .int .u32 r.kit, .int .u32 r.subject, .int .u32 r.visit, .int .u8 r.role, .int .u8 r.cls, .int .i64 r.time, .int .i64 r.till, .int .i64 r.value, .int .i64 r.l0, .int .i64 r.l1, .int .i64 r.l2, lv])
  change Code.wp _ _ _ _ (((w.alloc (.cells #[.int .u8 22, .int .u32 r.user, .int .i64 r.now, .int .u32 r.id, .int .u32 r.ref, .int .u32 r.kit, .int .u32 r.subject, .int .u32 r.visit, .int .u8 r.role, .int .u8 r.cls, .int .i64 r.time, .int .i64 r.till, .int .i64 r.value, .int .i64 r.l0, .int .i64 r.l1, .int .i64 r.l2, lv] 53)).alloc (.cells (respCs rsp0) 75)).alloc (.cells (respCs rsp0) 75))
  generalize (((w.alloc (.cells #[.int .u8 22, .int .u32 r.user, .int .i64 r.now, .int .u32 r.id, .int .u32 r.ref, .int .u32 r.kit, .int .u32 r.subject, .int .u32 r.visit, .int .u8 r.role, .int .u8 r.cls, .int .i64 r.time, .int .i64 r.till, .int .i64 r.value, .int .i64 r.l0, .int .i64 r.l1, .int .i64 r.l2, lv] 53)).alloc (.cells (respCs rsp0) 75)).alloc (.cells (respCs rsp0) 75)) = W0 at *
  obtain ⟨-, -, hq, -, -, hz⟩ := H0.out.facts
  have q0 := hq 0
  have q3 := hq 3
  have q4 := hq 4
  simp only [List.getElem?_toArray, List.getElem?_cons_zero, List.getElem?_cons_succ] at q0 q3 q4
  have hy : W0.cell? ⟨Y, 1, none⟩ = some (.pointer (some ⟨LB, 0, none⟩)) := (H0.out.blw.cell (p := ⟨Y, 1, none⟩) hYl).trans hYc
  clear hq hYc
  cases hR : statR ps with
  | ok s =>
    have HR := hide hR
    clear hR
    go_upto_region 32 with (go_at_call 116; refine (HC.out _ H0.out.blw).mono ?_; rintro e W1 hp; obtain ⟨rfl, hb⟩ := hp.isOk HR.out; have H1 := hide (H0.out.next hb); have hst := run_stStat4 _ _ _ s H1.out.rp; clear hp hb)
    have H2 := hide (H1.out.row { rsp0 with st := s })
    generalize World.setRow _ _ _ = W2 at *
    clear hst
    obtain ⟨h1, h2, -, -, -, -⟩ := H2.out.facts
    clear q0 q3 q4
    go_wp2
    obtain ⟨f1, f2⟩ := H2.out.fin (y := { rsp0 with st := s })
    refine bodyPost_ret (results_cell1 Tryz.results128 _ _ (w.heap.size + 1) _ _ _ _ rfl f1 Tryz.underlying75 rfl (by kernel_rfl)) rfl ?_
    rw [HR.out]
    exact ⟨⟨_, rfl, rfl⟩, f2⟩
  | error c =>
    have HR := hide hR
    clear hR
    go_upto_region 32 with (go_at_call 116; refine (HC.out _ H0.out.blw).mono ?_; rintro e W1 hp; obtain ⟨rfl, hb⟩ := hp.isErr HR.out; have H1 := hide (H0.out.next hb); have hst := run_stStat4 _ _ _ ⟨0, 0, 0, 0⟩ H1.out.rp; clear hp hb)
    have H2 := hide (H1.out.row { rsp0 with st := ⟨0, 0, 0, 0⟩ })
    generalize World.setRow _ _ _ = W2 at *
    clear hst
    clear q0 q3 q4
    go_wp2_with (go_at_call 126; refine (refuse_calls _ c).mono ?_; rintro e W3 ⟨rfl, hb⟩; have H3 := hide (H2.out.next hb); obtain ⟨h1, -⟩ := H3.out.facts; clear hb)
    obtain ⟨f1, f2⟩ := H3.out.fin (y := { rsp0 with code := c })
    refine bodyPost_ret (results_cell1 Tryz.results128 _ _ (w.heap.size + 1) _ _ _ _ rfl f1 Tryz.underlying75 rfl (by kernel_rfl)) rfl ?_
    rw [HR.out]
    exact ⟨rfl, f2⟩


set_option maxRecDepth 100000 in
set_option maxHeartbeats 2000000 in
theorem read26 (w : World) (Y S LB : Nat) (A ok : Nat → Prop) (ps : List KV) (full : Bool) (x : LV) (L : Low) (r : Req) (lv : Value) (h : SysSt w Y S LB A ok ps full x L) (hr : r.Ok) :
    Calls Tryz.prog 128 #[.pointer (some ⟨Y, 0, none⟩), .agg #[.int .u8 26, .int .u32 r.user, .int .i64 r.now, .int .u32 r.id, .int .u32 r.ref, .int .u32 r.kit, .int .u32 r.subject, .int .u32 r.visit, .int .u8 r.role, .int .u8 r.cls, .int .i64 r.time, .int .i64 r.till, .int .i64 r.value, .int .i64 r.l0, .int .i64 r.l1, .int .i64 r.l2, lv]] w fun e w' => RdPost w w' e ((hdrR ps r.id).map fun s x => x = { rsp0 with hd := s }) := by
  have HRX : Hid (∀ w' e (P : Except Int (Rsp → Prop)), RdPost w w' e P ↔ RdPost w w' e P) := fun _ _ _ => Iff.rfl
  have HC := hide (fun W (hb : Below w.heap.size w W) => hdrR_calls W Y S LB A ps full r.id (h.below hb).sys (h.below hb).st h.pk hr.id)
  have hYc := (sys_cells h.sys).2
  have hYl := blk_lt h.sys
  clear h HRX
  go_enter Tryz.func128, Tryz.ntmps128
  go_upto_region 3 with fail
  have H0 := hide (RB.start w #[.int .u8 26, .int .u32 r.user, .int .i64 r.now, .int .u32 r.id, .int .u32 r.ref, .int .u32 r.kit, .int .u32 r.subject, .int .u32 r.visit, .int .u8 r.role, .int .u8 r.cls, .int .i64 r.time, .int .i64 r.till, .int .i64 r.value, .int .i64 r.l0, .int .i64 r.l1, .int .i64 r.l2, lv])
  change Code.wp _ _ _ _ (((w.alloc (.cells #[.int .u8 26, .int .u32 r.user, .int .i64 r.now, .int .u32 r.id, .int .u32 r.ref, .int .u32 r.kit, .int .u32 r.subject, .int .u32 r.visit, .int .u8 r.role, .int .u8 r.cls, .int .i64 r.time, .int .i64 r.till, .int .i64 r.value, .int .i64 r.l0, .int .i64 r.l1, .int .i64 r.l2, lv] 53)).alloc (.cells (respCs rsp0) 75)).alloc (.cells (respCs rsp0) 75))
  generalize (((w.alloc (.cells #[.int .u8 26, .int .u32 r.user, .int .i64 r.now, .int .u32 r.id, .int .u32 r.ref, .int .u32 r.kit, .int .u32 r.subject, .int .u32 r.visit, .int .u8 r.role, .int .u8 r.cls, .int .i64 r.time, .int .i64 r.till, .int .i64 r.value, .int .i64 r.l0, .int .i64 r.l1, .int .i64 r.l2, lv] 53)).alloc (.cells (respCs rsp0) 75)).alloc (.cells (respCs rsp0) 75)) = W0 at *
  obtain ⟨-, -, hq, -, -, hz⟩ := H0.out.facts
  have q0 := hq 0
  have q3 := hq 3
  have q4 := hq 4
  simp only [List.getElem?_toArray, List.getElem?_cons_zero, List.getElem?_cons_succ] at q0 q3 q4
  have hy : W0.cell? ⟨Y, 1, none⟩ = some (.pointer (some ⟨LB, 0, none⟩)) := (H0.out.blw.cell (p := ⟨Y, 1, none⟩) hYl).trans hYc
  clear hq hYc
  cases hR : hdrR ps r.id with
  | ok s =>
    have HR := hide hR
    clear hR
    go_upto_region 32 with (go_at_call 174; refine (HC.out _ H0.out.blw).mono ?_; rintro e W1 hp; obtain ⟨rfl, hb⟩ := hp.isOk HR.out; have H1 := hide (H0.out.next hb); have hst := run_stHd30 _ _ _ s H1.out.rp; clear hp hb)
    have H2 := hide (H1.out.row { rsp0 with hd := s })
    generalize World.setRow _ _ _ = W2 at *
    clear hst
    obtain ⟨h1, h2, -, -, -, -⟩ := H2.out.facts
    clear q0 q3 q4
    go_wp2
    obtain ⟨f1, f2⟩ := H2.out.fin (y := { rsp0 with hd := s })
    refine bodyPost_ret (results_cell1 Tryz.results128 _ _ (w.heap.size + 1) _ _ _ _ rfl f1 Tryz.underlying75 rfl (by kernel_rfl)) rfl ?_
    rw [HR.out]
    exact ⟨⟨_, rfl, rfl⟩, f2⟩
  | error c =>
    have HR := hide hR
    clear hR
    go_upto_region 32 with (go_at_call 174; refine (HC.out _ H0.out.blw).mono ?_; rintro e W1 hp; obtain ⟨rfl, hb⟩ := hp.isErr HR.out; have H1 := hide (H0.out.next hb); have hst := run_stHd30 _ _ _ ⟨0, 0, 0, 0, 0, 0, 0⟩ H1.out.rp; clear hp hb)
    have H2 := hide (H1.out.row { rsp0 with hd := ⟨0, 0, 0, 0, 0, 0, 0⟩ })
    generalize World.setRow _ _ _ = W2 at *
    clear hst
    clear q0 q3 q4
    go_wp2_with (go_at_call 126; refine (refuse_calls _ c).mono ?_; rintro e W3 ⟨rfl, hb⟩; have H3 := hide (H2.out.next hb); obtain ⟨h1, -⟩ := H3.out.facts; clear hb)
    obtain ⟨f1, f2⟩ := H3.out.fin (y := { rsp0 with code := c })
    refine bodyPost_ret (results_cell1 Tryz.results128 _ _ (w.heap.size + 1) _ _ _ _ rfl f1 Tryz.underlying75 rfl (by kernel_rfl)) rfl ?_
    rw [HR.out]
    exact ⟨rfl, f2⟩


set_option maxRecDepth 100000 in
set_option maxHeartbeats 2000000 in
theorem read27 (w : World) (Y S LB : Nat) (A ok : Nat → Prop) (ps : List KV) (full : Bool) (x : LV) (L : Low) (r : Req) (lv : Value) (h : SysSt w Y S LB A ok ps full x L) (hr : r.Ok) :
    Calls Tryz.prog 128 #[.pointer (some ⟨Y, 0, none⟩), .agg #[.int .u8 27, .int .u32 r.user, .int .i64 r.now, .int .u32 r.id, .int .u32 r.ref, .int .u32 r.kit, .int .u32 r.subject, .int .u32 r.visit, .int .u8 r.role, .int .u8 r.cls, .int .i64 r.time, .int .i64 r.till, .int .i64 r.value, .int .i64 r.l0, .int .i64 r.l1, .int .i64 r.l2, lv]] w fun e w' => RdPost w w' e ((fbR ps r.id).map fun l x => ∃ a n c, x = { rsp0 with bytes := (a, n, c) } ∧ OwnR w' w.heap.size 5 1 byteCs (.slice a n c) l) := by
  have HRX : Hid (∀ w' e (P : Except Int (Rsp → Prop)), RdPost w w' e P ↔ RdPost w w' e P) := fun _ _ _ => Iff.rfl
  have HC := hide (fun W (hb : Below w.heap.size w W) => fileBytes_calls W Y S LB A ps full r.id (h.below hb).sys (h.below hb).st h.pk h.plen hr.id)
  have hYc := (sys_cells h.sys).2
  have hYl := blk_lt h.sys
  clear h HRX
  go_enter Tryz.func128, Tryz.ntmps128
  go_upto_region 3 with fail
  have H0 := hide (RB.start w #[.int .u8 27, .int .u32 r.user, .int .i64 r.now, .int .u32 r.id, .int .u32 r.ref, .int .u32 r.kit, .int .u32 r.subject, .int .u32 r.visit, .int .u8 r.role, .int .u8 r.cls, .int .i64 r.time, .int .i64 r.till, .int .i64 r.value, .int .i64 r.l0, .int .i64 r.l1, .int .i64 r.l2, lv])
  change Code.wp _ _ _ _ (((w.alloc (.cells #[.int .u8 27, .int .u32 r.user, .int .i64 r.now, .int .u32 r.id, .int .u32 r.ref, .int .u32 r.kit, .int .u32 r.subject, .int .u32 r.visit, .int .u8 r.role, .int .u8 r.cls, .int .i64 r.time, .int .i64 r.till, .int .i64 r.value, .int .i64 r.l0, .int .i64 r.l1, .int .i64 r.l2, lv] 53)).alloc (.cells (respCs rsp0) 75)).alloc (.cells (respCs rsp0) 75))
  generalize (((w.alloc (.cells #[.int .u8 27, .int .u32 r.user, .int .i64 r.now, .int .u32 r.id, .int .u32 r.ref, .int .u32 r.kit, .int .u32 r.subject, .int .u32 r.visit, .int .u8 r.role, .int .u8 r.cls, .int .i64 r.time, .int .i64 r.till, .int .i64 r.value, .int .i64 r.l0, .int .i64 r.l1, .int .i64 r.l2, lv] 53)).alloc (.cells (respCs rsp0) 75)).alloc (.cells (respCs rsp0) 75)) = W0 at *
  obtain ⟨-, -, hq, -, -, hz⟩ := H0.out.facts
  have q0 := hq 0
  have q3 := hq 3
  have q4 := hq 4
  simp only [List.getElem?_toArray, List.getElem?_cons_zero, List.getElem?_cons_succ] at q0 q3 q4
  have hy : W0.cell? ⟨Y, 1, none⟩ = some (.pointer (some ⟨LB, 0, none⟩)) := (H0.out.blw.cell (p := ⟨Y, 1, none⟩) hYl).trans hYc
  clear hq hYc
  cases hR : fbR ps r.id with
  | ok l =>
    have HR := hide hR
    clear hR
    go_upto_region 32 with (go_at_call 102; refine (HC.out _ H0.out.blw).mono ?_; rintro e W1 hp; rw [HR.out] at hp; obtain ⟨v, rfl, ho, hb⟩ := hp; obtain ⟨a, n, c, rfl⟩ := ho.form3; have HO := hide ho; have H1 := hide (H0.out.next hb); have c37 := H1.out.facts.2.2.2.1 37; simp only [respCs, List.getElem?_toArray, List.getElem?_cons_zero, List.getElem?_cons_succ] at c37; have g37 := H1.out.facts.2.2.2.2.1 37; clear hb ho)
    have HO2 : Hid (OwnR (W1.setCell ⟨w.heap.size + 2, 37, none⟩ (.slice a n c)) W0.heap.size 5 1 byteCs (.slice a n c) l) := HO.out.mono fun b hb => Below.heap_setCell _ _ _ _ (fun e => by have := (HO.out.block b hb).1; simp at e; omega)
    have H2 := hide (H1.out.cell (j := 37) (v := .slice a n c) { rsp0 with bytes := (a, n, c) } rfl)
    generalize World.setCell _ _ _ = W2 at *
    clear c37 g37
    obtain ⟨h1, h2, -, -, -, -⟩ := H2.out.facts
    clear q0 q3 q4
    go_wp2
    obtain ⟨f1, f2⟩ := H2.out.fin (y := { rsp0 with bytes := (a, n, c) })
    refine bodyPost_ret (results_cell1 Tryz.results128 _ _ (w.heap.size + 1) _ _ _ _ rfl f1 Tryz.underlying75 rfl (by kernel_rfl)) rfl ?_
    rw [HR.out]
    exact ⟨⟨_, rfl, a, n, c, rfl, (HO2.out.mono fun b hb => setRow_other _ _ _ _ (by have := (HO2.out.block b hb).1; omega)).lower H0.out.blw.size⟩, f2⟩
  | error c =>
    have HR := hide hR
    clear hR
    go_upto_region 32 with (go_at_call 102; refine (HC.out _ H0.out.blw).mono ?_; rintro e W1 hp; rw [HR.out] at hp; obtain ⟨rfl, hb⟩ := hp; have H1 := hide (H0.out.next hb); have c37 := H1.out.facts.2.2.2.1 37; simp only [respCs, List.getElem?_toArray, List.getElem?_cons_zero, List.getElem?_cons_succ] at c37; have g37 := H1.out.facts.2.2.2.2.1 37; clear hb)
    have H2 := hide (H1.out.cell (j := 37) (v := .slice none 0 0) rsp0 rfl)
    generalize World.setCell _ _ _ = W2 at *
    clear c37 g37
    clear q0 q3 q4
    go_wp2_with (go_at_call 126; refine (refuse_calls _ c).mono ?_; rintro e W3 ⟨rfl, hb⟩; have H3 := hide (H2.out.next hb); obtain ⟨h1, -⟩ := H3.out.facts; clear hb)
    obtain ⟨f1, f2⟩ := H3.out.fin (y := { rsp0 with code := c })
    refine bodyPost_ret (results_cell1 Tryz.results128 _ _ (w.heap.size + 1) _ _ _ _ rfl f1 Tryz.underlying75 rfl (by kernel_rfl)) rfl ?_
    rw [HR.out]
    exact ⟨rfl, f2⟩


set_option maxRecDepth 100000 in
set_option maxHeartbeats 2000000 in
theorem read25 (w : World) (Y S LB : Nat) (A ok : Nat → Prop) (ps : List KV) (full : Bool) (x : LV) (L : Low) (r : Req) (lv : Value) (h : SysSt w Y S LB A ok ps full x L) :
    Calls Tryz.prog 128 #[.pointer (some ⟨Y, 0, none⟩), .agg #[.int .u8 25, .int .u32 r.user, .int .i64 r.now, .int .u32 r.id, .int .u32 r.ref, .int .u32 r.kit, .int .u32 r.subject, .int .u32 r.visit, .int .u8 r.role, .int .u8 r.cls, .int .i64 r.time, .int .i64 r.till, .int .i64 r.value, .int .i64 r.l0, .int .i64 r.l1, .int .i64 r.l2, lv]] w fun e w' => RdPost w w' e ((optX (pendR ps L)).map fun l x => ∃ a n c, x = { rsp0 with chg := (a, n, c) } ∧ OwnR w' w.heap.size 111 14 changeCs (.slice a n c) l) := by
  have HRX : Hid (∀ w' e (P : Except Int (Rsp → Prop)), RdPost w w' e P ↔ RdPost w w' e P) := fun _ _ _ => Iff.rfl
  have HC := hide (fun W (hb : Below w.heap.size w W) => pending_calls W Y S LB LB 0 A ok ps full x L (h.below hb).sys (h.below hb).st h.pk (by have := h.plen; omega) (LBlk.of (h.below hb).lb) (h.below hb).low h.small h.times (by have := h.small.sm.b; omega))
  have hYc := (sys_cells h.sys).2
  have hYl := blk_lt h.sys
  clear h HRX
  go_enter Tryz.func128, Tryz.ntmps128
  go_upto_region 3 with fail
  have H0 := hide (RB.start w #[.int .u8 25, .int .u32 r.user, .int .i64 r.now, .int .u32 r.id, .int .u32 r.ref, .int .u32 r.kit, .int .u32 r.subject, .int .u32 r.visit, .int .u8 r.role, .int .u8 r.cls, .int .i64 r.time, .int .i64 r.till, .int .i64 r.value, .int .i64 r.l0, .int .i64 r.l1, .int .i64 r.l2, lv])
  change Code.wp _ _ _ _ (((w.alloc (.cells #[.int .u8 25, .int .u32 r.user, .int .i64 r.now, .int .u32 r.id, .int .u32 r.ref, .int .u32 r.kit, .int .u32 r.subject, .int .u32 r.visit, .int .u8 r.role, .int .u8 r.cls, .int .i64 r.time, .int .i64 r.till, .int .i64 r.value, .int .i64 r.l0, .int .i64 r.l1, .int .i64 r.l2, lv] 53)).alloc (.cells (respCs rsp0) 75)).alloc (.cells (respCs rsp0) 75))
  generalize (((w.alloc (.cells #[.int .u8 25, .int .u32 r.user, .int .i64 r.now, .int .u32 r.id, .int .u32 r.ref, .int .u32 r.kit, .int .u32 r.subject, .int .u32 r.visit, .int .u8 r.role, .int .u8 r.cls, .int .i64 r.time, .int .i64 r.till, .int .i64 r.value, .int .i64 r.l0, .int .i64 r.l1, .int .i64 r.l2, lv] 53)).alloc (.cells (respCs rsp0) 75)).alloc (.cells (respCs rsp0) 75)) = W0 at *
  obtain ⟨-, -, hq, -, -, hz⟩ := H0.out.facts
  have q0 := hq 0
  have q3 := hq 3
  have q4 := hq 4
  simp only [List.getElem?_toArray, List.getElem?_cons_zero, List.getElem?_cons_succ] at q0 q3 q4
  have hy : W0.cell? ⟨Y, 1, none⟩ = some (.pointer (some ⟨LB, 0, none⟩)) := (H0.out.blw.cell (p := ⟨Y, 1, none⟩) hYl).trans hYc
  clear hq hYc
  cases hR : pendR ps L with
  | some l =>
    have HR := hide hR
    clear hR
    go_upto_region 32 with (go_at_call 173; refine (HC.out _ H0.out.blw).mono ?_; rintro e W1 hp; rw [HR.out] at hp; obtain ⟨v, rfl, ho, hb⟩ := hp; obtain ⟨a, n, c, rfl⟩ := ho.form3; have HO := hide ho; have H1 := hide (H0.out.next hb); have c29 := H1.out.facts.2.2.2.1 29; simp only [respCs, List.getElem?_toArray, List.getElem?_cons_zero, List.getElem?_cons_succ] at c29; have g29 := H1.out.facts.2.2.2.2.1 29; clear hb ho)
    have HO2 : Hid (OwnR (W1.setCell ⟨w.heap.size + 2, 29, none⟩ (.slice a n c)) W0.heap.size 111 14 changeCs (.slice a n c) l) := HO.out.mono fun b hb => Below.heap_setCell _ _ _ _ (fun e => by have := (HO.out.block b hb).1; simp at e; omega)
    have H2 := hide (H1.out.cell (j := 29) (v := .slice a n c) { rsp0 with chg := (a, n, c) } rfl)
    generalize World.setCell _ _ _ = W2 at *
    clear c29 g29
    obtain ⟨h1, h2, -, -, -, -⟩ := H2.out.facts
    clear q0 q3 q4
    go_wp2
    obtain ⟨f1, f2⟩ := H2.out.fin (y := { rsp0 with chg := (a, n, c) })
    refine bodyPost_ret (results_cell1 Tryz.results128 _ _ (w.heap.size + 1) _ _ _ _ rfl f1 Tryz.underlying75 rfl (by kernel_rfl)) rfl ?_
    rw [HR.out]
    exact ⟨⟨_, rfl, a, n, c, rfl, (HO2.out.mono fun b hb => setRow_other _ _ _ _ (by have := (HO2.out.block b hb).1; omega)).lower H0.out.blw.size⟩, f2⟩
  | none =>
    have HR := hide hR
    clear hR
    go_upto_region 32 with (go_at_call 173; refine (HC.out _ H0.out.blw).mono ?_; rintro e W1 hp; rw [HR.out] at hp; obtain ⟨he, hb⟩ := hp; have he : e = .returned (.tuple #[.slice none 0 0, .iface 63 (.int .u8 28)]) := he; subst he; have H1 := hide (H0.out.next hb); have c29 := H1.out.facts.2.2.2.1 29; simp only [respCs, List.getElem?_toArray, List.getElem?_cons_zero, List.getElem?_cons_succ] at c29; have g29 := H1.out.facts.2.2.2.2.1 29; clear hb)
    have H2 := hide (H1.out.cell (j := 29) (v := .slice none 0 0) rsp0 rfl)
    generalize World.setCell _ _ _ = W2 at *
    clear c29 g29
    clear q0 q3 q4
    go_wp2_with (go_at_call 126; refine (refuse_calls _ 28).mono ?_; rintro e W3 ⟨rfl, hb⟩; have H3 := hide (H2.out.next hb); obtain ⟨h1, -⟩ := H3.out.facts; clear hb)
    obtain ⟨f1, f2⟩ := H3.out.fin (y := { rsp0 with code := 28 })
    refine bodyPost_ret (results_cell1 Tryz.results128 _ _ (w.heap.size + 1) _ _ _ _ rfl f1 Tryz.underlying75 rfl (by kernel_rfl)) rfl ?_
    rw [HR.out]
    exact ⟨rfl, f2⟩


set_option maxRecDepth 100000 in
set_option maxHeartbeats 2000000 in
theorem read29 (w : World) (Y S LB : Nat) (A ok : Nat → Prop) (ps : List KV) (full : Bool) (x : LV) (L : Low) (r : Req) (lv : Value) (h : SysSt w Y S LB A ok ps full x L) :
    Calls Tryz.prog 128 #[.pointer (some ⟨Y, 0, none⟩), .agg #[.int .u8 29, .int .u32 r.user, .int .i64 r.now, .int .u32 r.id, .int .u32 r.ref, .int .u32 r.kit, .int .u32 r.subject, .int .u32 r.visit, .int .u8 r.role, .int .u8 r.cls, .int .i64 r.time, .int .i64 r.till, .int .i64 r.value, .int .i64 r.l0, .int .i64 r.l1, .int .i64 r.l2, lv]] w fun e w' => RdPost w w' e ((optX (heldRs L)).map fun l x => ∃ a n c, x = { rsp0 with held := (a, n, c) } ∧ OwnR w' w.heap.size 101 3 heldCs (.slice a n c) l) := by
  have HRX : Hid (∀ w' e (P : Except Int (Rsp → Prop)), RdPost w w' e P ↔ RdPost w w' e P) := fun _ _ _ => Iff.rfl
  have HC := hide (fun W (hb : Below w.heap.size w W) => held_calls W LB 0 ok x L (LBlk.of (h.below hb).lb) (h.below hb).low h.small h.times)
  have hYc := (sys_cells h.sys).2
  have hYl := blk_lt h.sys
  clear h HRX
  go_enter Tryz.func128, Tryz.ntmps128
  go_upto_region 3 with fail
  have H0 := hide (RB.start w #[.int .u8 29, .int .u32 r.user, .int .i64 r.now, .int .u32 r.id, .int .u32 r.ref, .int .u32 r.kit, .int .u32 r.subject, .int .u32 r.visit, .int .u8 r.role, .int .u8 r.cls, .int .i64 r.time, .int .i64 r.till, .int .i64 r.value, .int .i64 r.l0, .int .i64 r.l1, .int .i64 r.l2, lv])
  change Code.wp _ _ _ _ (((w.alloc (.cells #[.int .u8 29, .int .u32 r.user, .int .i64 r.now, .int .u32 r.id, .int .u32 r.ref, .int .u32 r.kit, .int .u32 r.subject, .int .u32 r.visit, .int .u8 r.role, .int .u8 r.cls, .int .i64 r.time, .int .i64 r.till, .int .i64 r.value, .int .i64 r.l0, .int .i64 r.l1, .int .i64 r.l2, lv] 53)).alloc (.cells (respCs rsp0) 75)).alloc (.cells (respCs rsp0) 75))
  generalize (((w.alloc (.cells #[.int .u8 29, .int .u32 r.user, .int .i64 r.now, .int .u32 r.id, .int .u32 r.ref, .int .u32 r.kit, .int .u32 r.subject, .int .u32 r.visit, .int .u8 r.role, .int .u8 r.cls, .int .i64 r.time, .int .i64 r.till, .int .i64 r.value, .int .i64 r.l0, .int .i64 r.l1, .int .i64 r.l2, lv] 53)).alloc (.cells (respCs rsp0) 75)).alloc (.cells (respCs rsp0) 75)) = W0 at *
  obtain ⟨-, -, hq, -, -, hz⟩ := H0.out.facts
  have q0 := hq 0
  have q3 := hq 3
  have q4 := hq 4
  simp only [List.getElem?_toArray, List.getElem?_cons_zero, List.getElem?_cons_succ] at q0 q3 q4
  have hy : W0.cell? ⟨Y, 1, none⟩ = some (.pointer (some ⟨LB, 0, none⟩)) := (H0.out.blw.cell (p := ⟨Y, 1, none⟩) hYl).trans hYc
  clear hq hYc
  cases hR : heldRs L with
  | some l =>
    have HR := hide hR
    clear hR
    go_upto_region 32 with (go_at_call 176; refine (HC.out _ H0.out.blw).mono ?_; rintro e W1 hp; rw [HR.out] at hp; obtain ⟨v, rfl, ho, hb⟩ := hp; obtain ⟨a, n, c, rfl⟩ := ho.form3; have HO := hide ho; have H1 := hide (H0.out.next hb); have c39 := H1.out.facts.2.2.2.1 39; simp only [respCs, List.getElem?_toArray, List.getElem?_cons_zero, List.getElem?_cons_succ] at c39; have g39 := H1.out.facts.2.2.2.2.1 39; clear hb ho)
    have HO2 : Hid (OwnR (W1.setCell ⟨w.heap.size + 2, 39, none⟩ (.slice a n c)) W0.heap.size 101 3 heldCs (.slice a n c) l) := HO.out.mono fun b hb => Below.heap_setCell _ _ _ _ (fun e => by have := (HO.out.block b hb).1; simp at e; omega)
    have H2 := hide (H1.out.cell (j := 39) (v := .slice a n c) { rsp0 with held := (a, n, c) } rfl)
    generalize World.setCell _ _ _ = W2 at *
    clear c39 g39
    obtain ⟨h1, h2, -, -, -, -⟩ := H2.out.facts
    clear q0 q3 q4
    go_wp2
    obtain ⟨f1, f2⟩ := H2.out.fin (y := { rsp0 with held := (a, n, c) })
    refine bodyPost_ret (results_cell1 Tryz.results128 _ _ (w.heap.size + 1) _ _ _ _ rfl f1 Tryz.underlying75 rfl (by kernel_rfl)) rfl ?_
    rw [HR.out]
    exact ⟨⟨_, rfl, a, n, c, rfl, (HO2.out.mono fun b hb => setRow_other _ _ _ _ (by have := (HO2.out.block b hb).1; omega)).lower H0.out.blw.size⟩, f2⟩
  | none =>
    have HR := hide hR
    clear hR
    go_upto_region 32 with (go_at_call 176; refine (HC.out _ H0.out.blw).mono ?_; rintro e W1 hp; rw [HR.out] at hp; obtain ⟨he, hb⟩ := hp; have he : e = .returned (.tuple #[.slice none 0 0, .iface 63 (.int .u8 28)]) := he; subst he; have H1 := hide (H0.out.next hb); have c39 := H1.out.facts.2.2.2.1 39; simp only [respCs, List.getElem?_toArray, List.getElem?_cons_zero, List.getElem?_cons_succ] at c39; have g39 := H1.out.facts.2.2.2.2.1 39; clear hb)
    have H2 := hide (H1.out.cell (j := 39) (v := .slice none 0 0) rsp0 rfl)
    generalize World.setCell _ _ _ = W2 at *
    clear c39 g39
    clear q0 q3 q4
    go_wp2_with (go_at_call 126; refine (refuse_calls _ 28).mono ?_; rintro e W3 ⟨rfl, hb⟩; have H3 := hide (H2.out.next hb); obtain ⟨h1, -⟩ := H3.out.facts; clear hb)
    obtain ⟨f1, f2⟩ := H3.out.fin (y := { rsp0 with code := 28 })
    refine bodyPost_ret (results_cell1 Tryz.results128 _ _ (w.heap.size + 1) _ _ _ _ rfl f1 Tryz.underlying75 rfl (by kernel_rfl)) rfl ?_
    rw [HR.out]
    exact ⟨rfl, f2⟩


set_option maxRecDepth 100000 in
set_option maxHeartbeats 2000000 in
theorem read23 (w : World) (Y S LB : Nat) (A ok : Nat → Prop) (ps : List KV) (full : Bool) (x : LV) (L : Low) (r : Req) (lv : Value) (h : SysSt w Y S LB A ok ps full x L) (hr : r.Ok) :
    Calls Tryz.prog 128 #[.pointer (some ⟨Y, 0, none⟩), .agg #[.int .u8 23, .int .u32 r.user, .int .i64 r.now, .int .u32 r.id, .int .u32 r.ref, .int .u32 r.kit, .int .u32 r.subject, .int .u32 r.visit, .int .u8 r.role, .int .u8 r.cls, .int .i64 r.time, .int .i64 r.till, .int .i64 r.value, .int .i64 r.l0, .int .i64 r.l1, .int .i64 r.l2, lv]] w fun e w' => RdPost w w' e ((entR ps r.id).map fun s x => ∃ a n c, x = { rsp0 with en := s, el := (a, n, c) } ∧ U32sAt w' (w.heap.size ≤ ·) (.slice a n c) s.req.list) := by
  have HRX : Hid (∀ w' e (P : Except Int (Rsp → Prop)), RdPost w w' e P ↔ RdPost w w' e P) := fun _ _ _ => Iff.rfl
  have HC := hide (fun W (hb : Below w.heap.size w W) => entR_calls W Y S LB A ps full r.id (h.below hb).sys (h.below hb).st h.pk hr.id)
  have hYc := (sys_cells h.sys).2
  have hYl := blk_lt h.sys
  clear h HRX
  go_enter Tryz.func128, Tryz.ntmps128
  go_upto_region 3 with fail
  have H0 := hide (RB.start w #[.int .u8 23, .int .u32 r.user, .int .i64 r.now, .int .u32 r.id, .int .u32 r.ref, .int .u32 r.kit, .int .u32 r.subject, .int .u32 r.visit, .int .u8 r.role, .int .u8 r.cls, .int .i64 r.time, .int .i64 r.till, .int .i64 r.value, .int .i64 r.l0, .int .i64 r.l1, .int .i64 r.l2, lv])
  change Code.wp _ _ _ _ (((w.alloc (.cells #[.int .u8 23, .int .u32 r.user, .int .i64 r.now, .int .u32 r.id, .int .u32 r.ref, .int .u32 r.kit, .int .u32 r.subject, .int .u32 r.visit, .int .u8 r.role, .int .u8 r.cls, .int .i64 r.time, .int .i64 r.till, .int .i64 r.value, .int .i64 r.l0, .int .i64 r.l1, .int .i64 r.l2, lv] 53)).alloc (.cells (respCs rsp0) 75)).alloc (.cells (respCs rsp0) 75))
  generalize (((w.alloc (.cells #[.int .u8 23, .int .u32 r.user, .int .i64 r.now, .int .u32 r.id, .int .u32 r.ref, .int .u32 r.kit, .int .u32 r.subject, .int .u32 r.visit, .int .u8 r.role, .int .u8 r.cls, .int .i64 r.time, .int .i64 r.till, .int .i64 r.value, .int .i64 r.l0, .int .i64 r.l1, .int .i64 r.l2, lv] 53)).alloc (.cells (respCs rsp0) 75)).alloc (.cells (respCs rsp0) 75)) = W0 at *
  obtain ⟨-, -, hq, -, -, hz⟩ := H0.out.facts
  have q0 := hq 0
  have q3 := hq 3
  have q4 := hq 4
  simp only [List.getElem?_toArray, List.getElem?_cons_zero, List.getElem?_cons_succ] at q0 q3 q4
  have hy : W0.cell? ⟨Y, 1, none⟩ = some (.pointer (some ⟨LB, 0, none⟩)) := (H0.out.blw.cell (p := ⟨Y, 1, none⟩) hYl).trans hYc
  clear hq hYc
  cases hR : entR ps r.id with
  | ok s =>
    have HR := hide hR
    clear hR
    go_upto_region 32 with (go_at_call 117; refine (HC.out _ H0.out.blw).mono ?_; rintro e W1 hp; rw [HR.out] at hp; obtain ⟨a, n, c, rfl, hu, hb⟩ := hp; have H1 := hide (H0.out.next hb); have HU := hide hu; have hst : (stS 67 (.pointer (some ⟨w.heap.size + 2, 8, none⟩)) (.agg (entA s (.slice a n c)))).run Tryz.prog W1 = .ok () (W1.setRow (w.heap.size + 2) (respCs { rsp0 with en := s, el := (a, n, c) })) := run_stEnt8 _ _ _ s (a, n, c) H1.out.rp; clear hb hu)
    have HU2 : Hid (U32sAt (W1.setRow (w.heap.size + 2) (respCs { rsp0 with en := s, el := (a, n, c) })) (W0.heap.size + 1 ≤ ·) (.slice a n c) s.req.list) := RArr.mono HU.out (fun b hb => setRow_other _ _ _ _ (by omega)) (fun _ h => h)
    have H2 := hide (H1.out.row { rsp0 with en := s, el := (a, n, c) })
    generalize World.setRow _ _ _ = W2 at *
    clear hst
    obtain ⟨h1, h2, -, -, -, -⟩ := H2.out.facts
    clear q0 q3 q4
    go_wp2
    obtain ⟨f1, f2⟩ := H2.out.fin (y := { rsp0 with en := s, el := (a, n, c) })
    refine bodyPost_ret (results_cell1 Tryz.results128 _ _ (w.heap.size + 1) _ _ _ _ rfl f1 Tryz.underlying75 rfl (by kernel_rfl)) rfl ?_
    rw [HR.out]
    exact ⟨⟨_, rfl, a, n, c, rfl, RArr.mono HU2.out (fun b hb => setRow_other _ _ _ _ (by omega)) (fun b hb => by omega)⟩, f2⟩
  | error c =>
    have HR := hide hR
    clear hR
    go_upto_region 32 with (go_at_call 117; refine (HC.out _ H0.out.blw).mono ?_; rintro e W1 hp; rw [HR.out] at hp; obtain ⟨rfl, hb⟩ := hp; have H1 := hide (H0.out.next hb); have hst : (stS 67 (.pointer (some ⟨w.heap.size + 2, 8, none⟩)) (.agg (entA zeroEnt (.slice none 0 0)))).run Tryz.prog W1 = .ok () (W1.setRow (w.heap.size + 2) (respCs { rsp0 with en := zeroEnt, el := noS })) := run_stEnt8 _ _ _ zeroEnt noS H1.out.rp; clear hb)
    have H2 := hide (H1.out.row { rsp0 with en := zeroEnt, el := noS })
    generalize World.setRow _ _ _ = W2 at *
    clear hst
    clear q0 q3 q4
    go_wp2_with (go_at_call 126; refine (refuse_calls _ c).mono ?_; rintro e W3 ⟨rfl, hb⟩; have H3 := hide (H2.out.next hb); obtain ⟨h1, -⟩ := H3.out.facts; clear hb)
    obtain ⟨f1, f2⟩ := H3.out.fin (y := { rsp0 with code := c })
    refine bodyPost_ret (results_cell1 Tryz.results128 _ _ (w.heap.size + 1) _ _ _ _ rfl f1 Tryz.underlying75 rfl (by kernel_rfl)) rfl ?_
    rw [HR.out]
    exact ⟨rfl, f2⟩

end Go.Proofs.Qxb6500666aGreatDoor
