/- The readings that draw, or call twice. -/
import Derived.Test.Qxb6500666aGreatDoorReadK
import Derived.Test.Qxb6500666aGreatDoorRep3
import Derived.Test.Qxb6500666aGreatDoorRecon
import Derived.Test.Qxb6500666aGreatDoorRTrail2
namespace Go.Proofs.Qxb6500666aGreatDoor
open Go.RowKit
attribute [local go_sem] ext_const Ext.cell Ext.frozen Ext.rng Ext.whole
attribute [local go_sem ↓] exec_ldRsp exec_stRsp exec_bdRsp exec_ldStat exec_stStat exec_ldAcc exec_stAcc exec_ldHd exec_stHd exec_ldEnt exec_stEnt
attribute [local go_sem] run_ldRsp run_stRsp run_bdRsp0 run_bdRsp1 respCs_ones run_ldStat run_stStat run_ldAcc run_stAcc run_ldHd run_stHd whole_alloc_lt whole_alloc_at whole_drew setRow_alloc_at setRow_alloc_lt rng_alloc_lt rng_alloc_at rng_drew rng_drewN rng_setCell_other whole_setCell_other


set_option maxRecDepth 100000 in
set_option maxHeartbeats 2000000 in
theorem read21 (w : World) (Y S LB : Nat) (A ok : Nat → Prop) (ps : List KV) (full : Bool) (x : LV) (L : Low) (r : Req) (lv : Value) (h : SysSt w Y S LB A ok ps full x L) (hr : r.Ok) :
    Calls Tryz.prog 128 #[.pointer (some ⟨Y, 0, none⟩), .agg #[.int .u8 21, .int .u32 r.user, .int .i64 r.now, .int .u32 r.id, .int .u32 r.ref, .int .u32 r.kit, .int .u32 r.subject, .int .u32 r.visit, .int .u8 r.role, .int .u8 r.cls, .int .i64 r.time, .int .i64 r.till, .int .i64 r.value, .int .i64 r.l0, .int .i64 r.l1, .int .i64 r.l2, lv]] w fun e w' => RdPost w w' e ((accR ps r.id).map fun s x => x = { rsp0 with role := s.1, active := s.2 }) := by
  have HRX : Hid (∀ w' e (P : Except Int (Rsp → Prop)), RdPost w w' e P ↔ RdPost w w' e P) := fun _ _ _ => Iff.rfl
  have HC := hide (fun W (hb : Below w.heap.size w W) => accR_calls W Y S LB A ps full r.id (h.below hb).sys (h.below hb).st h.pk hr.id)
  have hYc := (sys_cells h.sys).2
  have hYl := blk_lt h.sys
  clear h HRX
  go_enter Tryz.func128, Tryz.ntmps128
  go_upto_region 3 with fail
  have H0 := hide (RB.start w #[.int .u8 21, .int .u32 r.user, .int .i64 r.now, .int .u32 r.id, .int .u32 r.ref, .int .u32 r.kit, .int .u32 r.subject, .int .u32 r.visit, .int .u8 r.role, .int .u8 r.cls, .int .i64 r.time, .int .i64 r.till, .int .i64 r.value, .int .i64 r.l0, .int .i64 r.l1, .int .i64 r.l2, lv])
  change Code.wp _ _ _ _ (((w.alloc (.cells #[.int .u8 21, .int .u32 r.user, .int .i64 r.now, .int .u32 r.id, .int .u32 r.ref, .int .u32 r.kit, .int .u32 r.subject, .int .u32 r.visit, .int .u8 r.role, .int .u8 r.cls, .int .i64 r.time, .int .i64 r.till, .int .i64 r.value, .int .i64 r.l0, .int .i64 r.l1, .int .i64 r.l2, lv] 53)).alloc (.cells (respCs rsp0) 75)).alloc (.cells (respCs rsp0) 75))
  generalize (((w.alloc (.cells #[.int .u8 21, .int .u32 r.user, .int .i64 r.now, .int .u32 r.id, .int .u32 r.ref, .int .u32 r.kit, .int .u32 r.subject, .int .u32 r.visit, .int .u8 r.role, .int .u8 r.cls, .int .i64 r.time, .int .i64 r.till, .int .i64 r.value, .int .i64 r.l0, .int .i64 r.l1, .int .i64 r.l2, lv] 53)).alloc (.cells (respCs rsp0) 75)).alloc (.cells (respCs rsp0) 75)) = W0 at *
  obtain ⟨-, -, hq, -, -, hz⟩ := H0.out.facts
  have q0 := hq 0
  have q3 := hq 3
  have q4 := hq 4
  simp only [List.getElem?_toArray, List.getElem?_cons_zero, List.getElem?_cons_succ] at q0 q3 q4
  have hy : W0.cell? ⟨Y, 1, none⟩ = some (.pointer (some ⟨LB, 0, none⟩)) := (H0.out.blw.cell (p := ⟨Y, 1, none⟩) hYl).trans hYc
  clear hq hYc
  go_upto_region 7 with fail
  have H5 : Hid (RB w (W0.alloc (.cells #[.int .u8 0, .bool false] 314)) _ rsp0) := H0.out.next ((Below.refl _ _).alloc (Nat.le_refl _) _)
  have HA5 : Hid ((W0.alloc (.cells #[.int .u8 0, .bool false] 314)).heap[W0.heap.size]? = some (.cells #[.int .u8 0, .bool false] 314 (0, 0))) := heap_alloc_at _ _
  generalize W0.alloc (.cells #[.int .u8 0, .bool false] 314) = V0 at *
  generalize W0.heap.size = K at *
  clear q0 q3 q4 hy H0
  obtain ⟨-, -, hq, -, -, hzV⟩ := H5.out.facts
  have q3 := hq 3
  simp only [List.getElem?_toArray, List.getElem?_cons_zero, List.getElem?_cons_succ] at q3
  have hKl := blk_lt HA5.out
  clear hq
  cases hR : accR ps r.id with
  | ok s =>
    have HR := hide hR
    clear hR
    go_upto_region 8 with (go_at_call 171; refine (HC.out _ H5.out.blw).mono ?_; rintro e W1 hp; obtain ⟨rfl, hb⟩ := hp.isOk HR.out; have H6 := hide (H5.out.next hb); have HA6 := hide ((hb.block _ hKl).trans HA5.out); have hwK := whole_blk HA6.out; have hoa : ones (accCs s) 2 = true := rfl; clear hp hb)
    have H7 : Hid (RB w (W1.setRow K (accCs s)) _ rsp0) := ⟨(setRow_other _ _ _ _ (by omega)).trans H6.out.rq, (setRow_other _ _ _ _ (by omega)).trans H6.out.rs, (setRow_other _ _ _ _ (by omega)).trans H6.out.rp, H6.out.blw.trans ⟨rfl, rfl, rfl, by simp, fun k hk => setRow_other _ _ _ _ (by omega)⟩⟩
    have HA7 := hide (heap_setRow_at (ds := accCs s) HA6.out)
    generalize W1.setRow K (accCs s) = V7 at *
    have hK7 := blk_lt HA7.out
    have a0 := cells_all HA7.out 0
    have a1 := cells_all HA7.out 1
    simp only [accCs, List.getElem?_toArray, List.getElem?_cons_zero, List.getElem?_cons_succ] at a0 a1
    obtain ⟨-, -, -, hcs, hfs, hz7⟩ := H7.out.facts
    have c2 := hcs 2
    have c3 := hcs 3
    simp only [respCs, List.getElem?_toArray, List.getElem?_cons_zero, List.getElem?_cons_succ] at c2 c3
    have g2 := hfs 2
    have g3 := hfs 3
    clear hcs hfs q3
    have n1 : K ≠ w.heap.size + 2 := by omega
    have n2 : K ≠ w.heap.size + 1 + 1 := by omega
    go_region
    go_upto_region 32 with fail
    have H2 := hide (((H7.out.cell (j := 2) (v := .int .u8 s.1) { rsp0 with role := s.1 } rfl).cell (j := 3) (v := .bool s.2) { rsp0 with role := s.1, active := s.2 } rfl).next (Below.refl _ _).drew)
    generalize World.drew _ = W2 at *
    clear c2 c3 g2 g3 a0 a1
    obtain ⟨h1, h2, -, -, -, -⟩ := H2.out.facts
    go_wp2
    obtain ⟨f1, f2⟩ := H2.out.fin (y := { rsp0 with role := s.1, active := s.2 })
    refine bodyPost_ret (results_cell1 Tryz.results128 _ _ (w.heap.size + 1) _ _ _ _ rfl f1 Tryz.underlying75 rfl (by kernel_rfl)) rfl ?_
    rw [HR.out]
    exact ⟨⟨_, rfl, rfl⟩, f2⟩
  | error c =>
    have HR := hide hR
    clear hR
    go_upto_region 8 with (go_at_call 171; refine (HC.out _ H5.out.blw).mono ?_; rintro e W1 hp; obtain ⟨rfl, hb⟩ := hp.isErr HR.out; have H6 := hide (H5.out.next hb); have HA6 := hide ((hb.block _ hKl).trans HA5.out); have hwK := whole_blk HA6.out; have hoa : ones (accCs ((0, false) : Int × Bool)) 2 = true := rfl; clear hp hb)
    have H7 : Hid (RB w (W1.setRow K (accCs ((0, false) : Int × Bool))) _ rsp0) := ⟨(setRow_other _ _ _ _ (by omega)).trans H6.out.rq, (setRow_other _ _ _ _ (by omega)).trans H6.out.rs, (setRow_other _ _ _ _ (by omega)).trans H6.out.rp, H6.out.blw.trans ⟨rfl, rfl, rfl, by simp, fun k hk => setRow_other _ _ _ _ (by omega)⟩⟩
    have HA7 := hide (heap_setRow_at (ds := accCs ((0, false) : Int × Bool)) HA6.out)
    generalize W1.setRow K (accCs ((0, false) : Int × Bool)) = V7 at *
    have hK7 := blk_lt HA7.out
    have a0 := cells_all HA7.out 0
    have a1 := cells_all HA7.out 1
    simp only [accCs, List.getElem?_toArray, List.getElem?_cons_zero, List.getElem?_cons_succ] at a0 a1
    obtain ⟨-, -, -, hcs, hfs, hz7⟩ := H7.out.facts
    have c2 := hcs 2
    have c3 := hcs 3
    simp only [respCs, List.getElem?_toArray, List.getElem?_cons_zero, List.getElem?_cons_succ] at c2 c3
    have g2 := hfs 2
    have g3 := hfs 3
    clear hcs hfs q3
    have n1 : K ≠ w.heap.size + 2 := by omega
    have n2 : K ≠ w.heap.size + 1 + 1 := by omega
    go_region
    go_upto_region 32 with fail
    have H2 := hide (((H7.out.cell (j := 2) (v := .int .u8 ((0, false) : Int × Bool).1) { rsp0 with role := ((0, false) : Int × Bool).1 } rfl).cell (j := 3) (v := .bool ((0, false) : Int × Bool).2) { rsp0 with role := ((0, false) : Int × Bool).1, active := ((0, false) : Int × Bool).2 } rfl).next (Below.refl _ _).drew)
    generalize World.drew _ = W2 at *
    clear c2 c3 g2 g3 a0 a1
    go_wp2_with (go_at_call 126; refine (refuse_calls _ c).mono ?_; rintro e W3 ⟨rfl, hb⟩; have H3 := hide (H2.out.next hb); obtain ⟨h1, -⟩ := H3.out.facts; clear hb)
    obtain ⟨f1, f2⟩ := H3.out.fin (y := { rsp0 with code := c })
    refine bodyPost_ret (results_cell1 Tryz.results128 _ _ (w.heap.size + 1) _ _ _ _ rfl f1 Tryz.underlying75 rfl (by kernel_rfl)) rfl ?_
    rw [HR.out]
    exact ⟨rfl, f2⟩


set_option maxRecDepth 100000 in
set_option maxHeartbeats 2000000 in
theorem read24 (w : World) (Y S LB : Nat) (A ok : Nat → Prop) (ps : List KV) (full : Bool) (x : LV) (L : Low) (r : Req) (lv : Value) (h : SysSt w Y S LB A ok ps full x L) :
    Calls Tryz.prog 128 #[.pointer (some ⟨Y, 0, none⟩), .agg #[.int .u8 24, .int .u32 r.user, .int .i64 r.now, .int .u32 r.id, .int .u32 r.ref, .int .u32 r.kit, .int .u32 r.subject, .int .u32 r.visit, .int .u8 r.role, .int .u8 r.cls, .int .i64 r.time, .int .i64 r.till, .int .i64 r.value, .int .i64 r.l0, .int .i64 r.l1, .int .i64 r.l2, lv]] w fun e w' => RdPost w w' e (eligX L r.id r.ref) := by
  have HRX : Hid (∀ w' e (P : Except Int (Rsp → Prop)), RdPost w w' e P ↔ RdPost w w' e P) := fun _ _ _ => Iff.rfl
  have HC := hide (fun W (hb : Below w.heap.size w W) => eligibility_calls W LB 0 ok x L r.id r.ref (LBlk.of (h.below hb).lb) (h.below hb).low h.times)
  have hYc := (sys_cells h.sys).2
  have hYl := blk_lt h.sys
  clear h HRX
  go_enter Tryz.func128, Tryz.ntmps128
  go_upto_region 3 with fail
  have H0 := hide (RB.start w #[.int .u8 24, .int .u32 r.user, .int .i64 r.now, .int .u32 r.id, .int .u32 r.ref, .int .u32 r.kit, .int .u32 r.subject, .int .u32 r.visit, .int .u8 r.role, .int .u8 r.cls, .int .i64 r.time, .int .i64 r.till, .int .i64 r.value, .int .i64 r.l0, .int .i64 r.l1, .int .i64 r.l2, lv])
  change Code.wp _ _ _ _ (((w.alloc (.cells #[.int .u8 24, .int .u32 r.user, .int .i64 r.now, .int .u32 r.id, .int .u32 r.ref, .int .u32 r.kit, .int .u32 r.subject, .int .u32 r.visit, .int .u8 r.role, .int .u8 r.cls, .int .i64 r.time, .int .i64 r.till, .int .i64 r.value, .int .i64 r.l0, .int .i64 r.l1, .int .i64 r.l2, lv] 53)).alloc (.cells (respCs rsp0) 75)).alloc (.cells (respCs rsp0) 75))
  generalize (((w.alloc (.cells #[.int .u8 24, .int .u32 r.user, .int .i64 r.now, .int .u32 r.id, .int .u32 r.ref, .int .u32 r.kit, .int .u32 r.subject, .int .u32 r.visit, .int .u8 r.role, .int .u8 r.cls, .int .i64 r.time, .int .i64 r.till, .int .i64 r.value, .int .i64 r.l0, .int .i64 r.l1, .int .i64 r.l2, lv] 53)).alloc (.cells (respCs rsp0) 75)).alloc (.cells (respCs rsp0) 75)) = W0 at *
  obtain ⟨-, -, hq, -, -, hz⟩ := H0.out.facts
  have q0 := hq 0
  have q3 := hq 3
  have q4 := hq 4
  simp only [List.getElem?_toArray, List.getElem?_cons_zero, List.getElem?_cons_succ] at q0 q3 q4
  have hy : W0.cell? ⟨Y, 1, none⟩ = some (.pointer (some ⟨LB, 0, none⟩)) := (H0.out.blw.cell (p := ⟨Y, 1, none⟩) hYl).trans hYc
  clear hq hYc
  have hYz : Y < W0.heap.size := by have := H0.out.blw.size; omega
  obtain ⟨R, hR⟩ : ∃ R, eligibR L r.id r.ref = R := ⟨_, rfl⟩
  have HR := hide hR
  clear hR
  obtain ⟨hv, cd⟩ := R
  go_upto_region 14 with fail
  have hz0 : w.heap.size < W0.heap.size := by omega
  refine wp_region_mixT (W0.heap.size) [3, 5, 7] (by kernel_rfl) ?_
  refine mixT_slots [0, 1, 2, 4, 6] (fuel := 10) rfl (by kernel_rfl) (by kernel_rfl) (fun d _ _ _ _ h => by cases d <;> exact h) ?_
  simp only [opersAt, List.getElem?_toArray, List.getElem?_cons_zero, List.getElem?_cons_succ]
  repeat (go_big_quiet_step (fail))
  refine wpQuiet_nil ?_
  refine mixT_reads [3, 5, 7] (fuel := 7) rfl (by kernel_rfl) (by decide) (by kernel_rfl) (fun d _ _ _ _ h => by cases d <;> exact h) (ext_drew _ _) ?_
  simp only [opersAt, List.getElem?_toArray, List.getElem?_cons_zero, List.getElem?_cons_succ]
  repeat (go_big_quiet_step (fail))
  refine wpQuiet_nil ?_
  refine mixT_one (k := 8) (by kernel_rfl) rfl ?_
  go_wp2_with (go_at_call 172; refine (HC.out _ H0.out.blw.drew).mono ?_; rintro e W1 ⟨rfl, hb⟩; rw [HR.out]; have H1 := hide (H0.out.next ((Below.refl _ _).drew.trans hb)); have c28 := H1.out.facts.2.2.2.1 28; simp only [respCs, List.getElem?_toArray, List.getElem?_cons_zero, List.getElem?_cons_succ] at c28; have g28 := H1.out.facts.2.2.2.2.1 28; clear hb)
  refine ⟨Or.inl (by kernel_rfl), ?_⟩
  refine mixT_slots [9, 10] (fuel := 4) rfl (by kernel_rfl) (by kernel_rfl) (fun d _ _ _ _ h => by cases d <;> exact h) ?_
  simp only [opersAt, List.getElem?_toArray, List.getElem?_cons_zero, List.getElem?_cons_succ]
  repeat (go_big_quiet_step (fail))
  refine wpQuiet_nil ?_
  refine mixT_two (k := 11) (k' := 12) (by kernel_rfl) rfl rfl ?_ ?_
  · go_wp2
    (first | refine ⟨Or.inl (by kernel_rfl), ?_⟩ | refine ⟨Or.inr (fun h => h), ?_⟩ | skip)
    refine mixT_one (k := 12) (by kernel_rfl) rfl ?_
    go_wp2
    (first | refine ⟨Or.inl (by kernel_rfl), ?_⟩ | refine ⟨Or.inr (fun h => h), ?_⟩ | skip)
    refine mixT_one (k := 13) (by kernel_rfl) rfl ?_
    go_wp2
    (first | refine ⟨Or.inl (by kernel_rfl), ?_⟩ | refine ⟨Or.inr (fun h => h), ?_⟩ | skip)
    refine mixT_one (k := 14) (by kernel_rfl) rfl ?_
    go_wp2
    (first | refine ⟨Or.inl (by kernel_rfl), ?_⟩ | refine ⟨Or.inr (fun h => h), ?_⟩ | skip)
    refine mixT_nil (by kernel_rfl) ?_
    go_upto_region 32 with fail
    have H2 := hide (H1.out.cell (j := 28) (v := .int .u16 hv) { rsp0 with holds := hv } rfl)
    generalize World.setCell _ _ _ = W2 at *
    clear c28 g28
    by_cases hcd : cd = 0
    · subst hcd
      rw [show errV 0 = .nilIface from rfl]
      obtain ⟨h1, h2, -, -, -, -⟩ := H2.out.facts
      clear q0 q3 q4
      go_wp2
      obtain ⟨f1, f2⟩ := H2.out.fin (y := { rsp0 with holds := hv })
      refine bodyPost_ret (results_cell1 Tryz.results128 _ _ (w.heap.size + 1) _ _ _ _ rfl f1 Tryz.underlying75 rfl (by kernel_rfl)) rfl ?_
      unfold eligX
      rw [HR.out, if_pos rfl]
      exact ⟨⟨_, rfl, rfl⟩, f2⟩
    · rw [show errV cd = .iface 63 (.int .u8 cd) from if_neg hcd]
      have HN := hide hcd
      clear hcd
      clear q0 q3 q4
      go_wp2_with (go_at_call 126; refine (refuse_calls _ cd).mono ?_; rintro e W3 ⟨rfl, hb⟩; have H3 := hide (H2.out.next hb); obtain ⟨h1, -⟩ := H3.out.facts; clear hb)
      obtain ⟨f1, f2⟩ := H3.out.fin (y := { rsp0 with code := cd })
      refine bodyPost_ret (results_cell1 Tryz.results128 _ _ (w.heap.size + 1) _ _ _ _ rfl f1 Tryz.underlying75 rfl (by kernel_rfl)) rfl ?_
      unfold eligX
      rw [HR.out, if_neg HN.out]
      exact ⟨rfl, f2⟩
  · go_wp2
    (first | refine ⟨Or.inl (by kernel_rfl), ?_⟩ | refine ⟨Or.inr (fun h => h), ?_⟩ | skip)
    refine mixT_two (k := 11) (k' := 13) (by kernel_rfl) rfl rfl ?_ ?_
    · go_wp2
      (first | refine ⟨Or.inl (by kernel_rfl), ?_⟩ | refine ⟨Or.inr (fun h => h), ?_⟩ | skip)
      refine mixT_one (k := 13) (by kernel_rfl) rfl ?_
      go_wp2
      (first | refine ⟨Or.inl (by kernel_rfl), ?_⟩ | refine ⟨Or.inr (fun h => h), ?_⟩ | skip)
      refine mixT_one (k := 14) (by kernel_rfl) rfl ?_
      go_wp2
      (first | refine ⟨Or.inl (by kernel_rfl), ?_⟩ | refine ⟨Or.inr (fun h => h), ?_⟩ | skip)
      refine mixT_nil (by kernel_rfl) ?_
      go_upto_region 32 with fail
      have H2 := hide (H1.out.cell (j := 28) (v := .int .u16 hv) { rsp0 with holds := hv } rfl)
      generalize World.setCell _ _ _ = W2 at *
      clear c28 g28
      by_cases hcd : cd = 0
      · subst hcd
        rw [show errV 0 = .nilIface from rfl]
        obtain ⟨h1, h2, -, -, -, -⟩ := H2.out.facts
        clear q0 q3 q4
        go_wp2
        obtain ⟨f1, f2⟩ := H2.out.fin (y := { rsp0 with holds := hv })
        refine bodyPost_ret (results_cell1 Tryz.results128 _ _ (w.heap.size + 1) _ _ _ _ rfl f1 Tryz.underlying75 rfl (by kernel_rfl)) rfl ?_
        unfold eligX
        rw [HR.out, if_pos rfl]
        exact ⟨⟨_, rfl, rfl⟩, f2⟩
      · rw [show errV cd = .iface 63 (.int .u8 cd) from if_neg hcd]
        have HN := hide hcd
        clear hcd
        clear q0 q3 q4
        go_wp2_with (go_at_call 126; refine (refuse_calls _ cd).mono ?_; rintro e W3 ⟨rfl, hb⟩; have H3 := hide (H2.out.next hb); obtain ⟨h1, -⟩ := H3.out.facts; clear hb)
        obtain ⟨f1, f2⟩ := H3.out.fin (y := { rsp0 with code := cd })
        refine bodyPost_ret (results_cell1 Tryz.results128 _ _ (w.heap.size + 1) _ _ _ _ rfl f1 Tryz.underlying75 rfl (by kernel_rfl)) rfl ?_
        unfold eligX
        rw [HR.out, if_neg HN.out]
        exact ⟨rfl, f2⟩
    · go_wp2
      (first | refine ⟨Or.inl (by kernel_rfl), ?_⟩ | refine ⟨Or.inr (fun h => h), ?_⟩ | skip)
      refine mixT_one (k := 11) (by kernel_rfl) rfl ?_
      go_wp2
      (first | refine ⟨Or.inl (by kernel_rfl), ?_⟩ | refine ⟨Or.inr (fun h => h), ?_⟩ | skip)
      refine mixT_one (k := 14) (by kernel_rfl) rfl ?_
      go_wp2
      (first | refine ⟨Or.inl (by kernel_rfl), ?_⟩ | refine ⟨Or.inr (fun h => h), ?_⟩ | skip)
      refine mixT_nil (by kernel_rfl) ?_
      go_upto_region 32 with fail
      have H2 := hide (H1.out.cell (j := 28) (v := .int .u16 hv) { rsp0 with holds := hv } rfl)
      generalize World.setCell _ _ _ = W2 at *
      clear c28 g28
      by_cases hcd : cd = 0
      · subst hcd
        rw [show errV 0 = .nilIface from rfl]
        obtain ⟨h1, h2, -, -, -, -⟩ := H2.out.facts
        clear q0 q3 q4
        go_wp2
        obtain ⟨f1, f2⟩ := H2.out.fin (y := { rsp0 with holds := hv })
        refine bodyPost_ret (results_cell1 Tryz.results128 _ _ (w.heap.size + 1) _ _ _ _ rfl f1 Tryz.underlying75 rfl (by kernel_rfl)) rfl ?_
        unfold eligX
        rw [HR.out, if_pos rfl]
        exact ⟨⟨_, rfl, rfl⟩, f2⟩
      · rw [show errV cd = .iface 63 (.int .u8 cd) from if_neg hcd]
        have HN := hide hcd
        clear hcd
        clear q0 q3 q4
        go_wp2_with (go_at_call 126; refine (refuse_calls _ cd).mono ?_; rintro e W3 ⟨rfl, hb⟩; have H3 := hide (H2.out.next hb); obtain ⟨h1, -⟩ := H3.out.facts; clear hb)
        obtain ⟨f1, f2⟩ := H3.out.fin (y := { rsp0 with code := cd })
        refine bodyPost_ret (results_cell1 Tryz.results128 _ _ (w.heap.size + 1) _ _ _ _ rfl f1 Tryz.underlying75 rfl (by kernel_rfl)) rfl ?_
        unfold eligX
        rw [HR.out, if_neg HN.out]
        exact ⟨rfl, f2⟩


set_option maxRecDepth 100000 in
set_option maxHeartbeats 2000000 in
theorem read28 (w : World) (Y S LB : Nat) (A ok : Nat → Prop) (ps : List KV) (full : Bool) (x : LV) (L : Low) (r : Req) (lv : Value) (h : SysSt w Y S LB A ok ps full x L) (hr : r.Ok) :
    Calls Tryz.prog 128 #[.pointer (some ⟨Y, 0, none⟩), .agg #[.int .u8 28, .int .u32 r.user, .int .i64 r.now, .int .u32 r.id, .int .u32 r.ref, .int .u32 r.kit, .int .u32 r.subject, .int .u32 r.visit, .int .u8 r.role, .int .u8 r.cls, .int .i64 r.time, .int .i64 r.till, .int .i64 r.value, .int .i64 r.l0, .int .i64 r.l1, .int .i64 r.l2, lv]] w fun e w' => RdPost w w' e (reconX w w' ps r.id r.ref) := by
  have HRX : Hid (∀ w' e (P : Except Int (Rsp → Prop)), RdPost w w' e P ↔ RdPost w w' e P) := fun _ _ _ => Iff.rfl
  have HC := hide (fun W (hb : Below w.heap.size w W) => recon_calls W Y S LB A ps full r.id r.ref (h.below hb).sys (h.below hb).st h.pk h.plen hr.id hr.ref)
  have hYc := (sys_cells h.sys).2
  have hYl := blk_lt h.sys
  have HPK := hide h.pk
  have HPL := hide h.plen
  have HRR := hide (fun W (a : Option Addr) (n c : Nat) (ds : List Diff) (ho : RArr W (fun _ => True) 5 diffCs (.slice a n c) ds) (hR : recR ps r.id r.ref = .ok ds) => renderReport_calls W (fun _ => True) r.id r.ref a n c ds ho (by obtain ⟨_, _, _, _, hv, _⟩ := ho; injection hv with q1 q2 q3; have := recR_len h.pk h.plen hr.id hr.ref hR; omega) hr.id hr.ref (recR_ok h.pk hR))
  clear h HRX
  go_enter Tryz.func128, Tryz.ntmps128
  go_upto_region 3 with fail
  have H0 := hide (RB.start w #[.int .u8 28, .int .u32 r.user, .int .i64 r.now, .int .u32 r.id, .int .u32 r.ref, .int .u32 r.kit, .int .u32 r.subject, .int .u32 r.visit, .int .u8 r.role, .int .u8 r.cls, .int .i64 r.time, .int .i64 r.till, .int .i64 r.value, .int .i64 r.l0, .int .i64 r.l1, .int .i64 r.l2, lv])
  change Code.wp _ _ _ _ (((w.alloc (.cells #[.int .u8 28, .int .u32 r.user, .int .i64 r.now, .int .u32 r.id, .int .u32 r.ref, .int .u32 r.kit, .int .u32 r.subject, .int .u32 r.visit, .int .u8 r.role, .int .u8 r.cls, .int .i64 r.time, .int .i64 r.till, .int .i64 r.value, .int .i64 r.l0, .int .i64 r.l1, .int .i64 r.l2, lv] 53)).alloc (.cells (respCs rsp0) 75)).alloc (.cells (respCs rsp0) 75))
  generalize (((w.alloc (.cells #[.int .u8 28, .int .u32 r.user, .int .i64 r.now, .int .u32 r.id, .int .u32 r.ref, .int .u32 r.kit, .int .u32 r.subject, .int .u32 r.visit, .int .u8 r.role, .int .u8 r.cls, .int .i64 r.time, .int .i64 r.till, .int .i64 r.value, .int .i64 r.l0, .int .i64 r.l1, .int .i64 r.l2, lv] 53)).alloc (.cells (respCs rsp0) 75)).alloc (.cells (respCs rsp0) 75)) = W0 at *
  obtain ⟨-, -, hq, -, -, hz⟩ := H0.out.facts
  have q0 := hq 0
  have q3 := hq 3
  have q4 := hq 4
  simp only [List.getElem?_toArray, List.getElem?_cons_zero, List.getElem?_cons_succ] at q0 q3 q4
  have hy : W0.cell? ⟨Y, 1, none⟩ = some (.pointer (some ⟨LB, 0, none⟩)) := (H0.out.blw.cell (p := ⟨Y, 1, none⟩) hYl).trans hYc
  clear hq hYc
  cases hR : recR ps r.id r.ref with
  | error c =>
    have HR := hide hR
    clear hR
    go_upto_region 32 with (go_at_call 175; refine (HC.out _ H0.out.blw).mono ?_; rintro e W1 hp; rw [HR.out] at hp; obtain ⟨rfl, hb⟩ := hp; have H1 := hide (H0.out.next hb); have c38 := H1.out.facts.2.2.2.1 38; simp only [respCs, List.getElem?_toArray, List.getElem?_cons_zero, List.getElem?_cons_succ] at c38; have g38 := H1.out.facts.2.2.2.2.1 38; clear hb)
    have H2 := hide (H1.out.cell (j := 38) (v := .slice none 0 0) rsp0 rfl)
    generalize World.setCell _ _ _ = W2 at *
    clear c38 g38
    clear q0 q3 q4
    go_wp2_with (go_at_call 126; refine (refuse_calls _ c).mono ?_; rintro e W3 ⟨rfl, hb⟩; have H3 := hide (H2.out.next hb); obtain ⟨h1, -⟩ := H3.out.facts; clear hb)
    obtain ⟨f1, f2⟩ := H3.out.fin (y := { rsp0 with code := c })
    refine bodyPost_ret (results_cell1 Tryz.results128 _ _ (w.heap.size + 1) _ _ _ _ rfl f1 Tryz.underlying75 rfl (by kernel_rfl)) rfl ?_
    unfold reconX
    rw [HR.out]
    exact ⟨rfl, f2⟩
  | ok ds =>
    have HR := hide hR
    clear hR
    go_upto_region 24 with (go_at_call 175; refine (HC.out _ H0.out.blw).mono ?_; rintro e W1 hp; rw [HR.out] at hp; obtain ⟨v, rfl, ho, hb⟩ := hp; obtain ⟨a, n, c, rfl⟩ := ho.form3; have HO := hide ho; have H1 := hide (H0.out.next hb); have c38 := H1.out.facts.2.2.2.1 38; simp only [respCs, List.getElem?_toArray, List.getElem?_cons_zero, List.getElem?_cons_succ] at c38; have g38 := H1.out.facts.2.2.2.2.1 38; clear hb ho)
    have HO2 : Hid (OwnR (W1.setCell ⟨w.heap.size + 2, 38, none⟩ (.slice a n c)) W0.heap.size 166 5 diffCs (.slice a n c) ds) := HO.out.mono fun b hb => Below.heap_setCell _ _ _ _ (fun e => by have := (HO.out.block b hb).1; simp at e; omega)
    have H2 := hide (H1.out.cell (j := 38) (v := .slice a n c) { rsp0 with diffs := (a, n, c) } rfl)
    generalize World.setCell _ _ _ = W2 at *
    clear c38 g38 q0 q3 q4
    obtain ⟨-, -, hq, hcs, -, hz2⟩ := H2.out.facts
    have q3 := hq 3
    have q4 := hq 4
    have c38 := hcs 38
    simp only [respCs, sv, List.getElem?_toArray, List.getElem?_cons_zero, List.getElem?_cons_succ] at q3 q4 c38
    clear hq hcs
    have HX := hide (HRR.out W2 a n c ds (RArr.mono (HO2.out.rows diffCs_size (by decide) (by have := recR_len HPK.out HPL.out hr.id hr.ref HR.out; omega)) (fun _ _ => rfl) (fun _ _ => trivial)) HR.out)
    cases hT : repR r.id r.ref ds with
    | error c' =>
      have HT := hide hT
      clear hT
      go_upto_region 32 with (go_at_call 121; refine HX.out.mono ?_; rintro e W3 hp; rw [HT.out] at hp; obtain ⟨rfl, hb⟩ := hp; have H5 := hide (H2.out.next hb); have c37 := H5.out.facts.2.2.2.1 37; simp only [respCs, rsp0, noS, sv, List.getElem?_toArray, List.getElem?_cons_zero, List.getElem?_cons_succ] at c37; have g37 := H5.out.facts.2.2.2.2.1 37; clear hb)
      have H2' := hide (H5.out.cell (j := 37) (v := .slice none 0 0) { rsp0 with diffs := (a, n, c) } rfl)
      generalize World.setCell _ _ _ = W4 at *
      clear c37 g37
      clear H2
      have H2 := H2'
      clear q3 q4 c38
      go_wp2_with (go_at_call 126; refine (refuse_calls _ c').mono ?_; rintro e W3 ⟨rfl, hb⟩; have H3 := hide (H2.out.next hb); obtain ⟨h1, -⟩ := H3.out.facts; clear hb)
      obtain ⟨f1, f2⟩ := H3.out.fin (y := { rsp0 with code := c' })
      refine bodyPost_ret (results_cell1 Tryz.results128 _ _ (w.heap.size + 1) _ _ _ _ rfl f1 Tryz.underlying75 rfl (by kernel_rfl)) rfl ?_
      unfold reconX
      rw [HR.out]
      simp only [HT.out]
      exact ⟨rfl, f2⟩
    | ok t =>
      have HT := hide hT
      clear hT
      go_upto_region 32 with (go_at_call 121; refine HX.out.mono ?_; rintro e W3 hp; rw [HT.out] at hp; obtain ⟨v, rfl, ho, hb⟩ := hp; obtain ⟨a', n', c', rfl⟩ := ho.form3; have HO4 := hide ho; have HO3 := hide (HO2.out.below hb (Nat.le_refl _)); have H5 := hide (H2.out.next hb); have c37 := H5.out.facts.2.2.2.1 37; simp only [respCs, rsp0, noS, sv, List.getElem?_toArray, List.getElem?_cons_zero, List.getElem?_cons_succ] at c37; have g37 := H5.out.facts.2.2.2.2.1 37; clear hb ho)
      have HOa : Hid (OwnR (W3.setCell ⟨w.heap.size + 2, 37, none⟩ (.slice a' n' c')) W0.heap.size 166 5 diffCs (.slice a n c) ds) := HO3.out.mono fun b hb => Below.heap_setCell _ _ _ _ (fun e => by have := (HO3.out.block b hb).1; simp at e; omega)
      have HOb : Hid (OwnR (W3.setCell ⟨w.heap.size + 2, 37, none⟩ (.slice a' n' c')) W2.heap.size 5 1 byteCs (.slice a' n' c') t) := HO4.out.mono fun b hb => Below.heap_setCell _ _ _ _ (fun e => by have := (HO4.out.block b hb).1; simp at e; omega)
      have H2' := hide (H5.out.cell (j := 37) (v := .slice a' n' c') { rsp0 with diffs := (a, n, c), bytes := (a', n', c') } rfl)
      generalize World.setCell _ _ _ = W4 at *
      have hzz := H2.out.blw.size
      clear c37 g37
      clear H2
      have H2 := H2'
      obtain ⟨h1, h2, -, -, -, -⟩ := H2.out.facts
      clear q3 q4 c38
      go_wp2
      obtain ⟨f1, f2⟩ := H2.out.fin (y := { rsp0 with diffs := (a, n, c), bytes := (a', n', c') })
      refine bodyPost_ret (results_cell1 Tryz.results128 _ _ (w.heap.size + 1) _ _ _ _ rfl f1 Tryz.underlying75 rfl (by kernel_rfl)) rfl ?_
      unfold reconX
      rw [HR.out]
      simp only [HT.out]
      exact ⟨⟨_, rfl, a, n, c, a', n', c', rfl, (HOa.out.mono fun b hb => setRow_other _ _ _ _ (by have := (HOa.out.block b hb).1; omega)).lower H0.out.blw.size, (HOb.out.mono fun b hb => setRow_other _ _ _ _ (by have := (HOb.out.block b hb).1; omega)).lower hzz⟩, f2⟩

end Go.Proofs.Qxb6500666aGreatDoor
