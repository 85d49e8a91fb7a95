/- The model's change: kinds 3, 4, 5, 6. (Made by tools/mk_mch.py.) -/
import Derived.Test.Qxb6500666aGreatDoorMdC
namespace Go.Proofs.Qxb6500666aGreatDoor
open Go.RowKit
attribute [local go_sem] ext_const Ext.cell Ext.frozen Ext.rng Ext.whole
attribute [local go_sem ↓] exec_ldPrS exec_ldKtS exec_ldSmS
attribute [local go_sem] run_ldPrS run_ldKtS run_ldSmS whole_alloc_lt whole_alloc_at whole_drew setRow_alloc_at setRow_alloc_lt setRow_drew rng_alloc_lt rng_alloc_at rng_drew rng_drewN

set_option maxRecDepth 100000 in
set_option maxHeartbeats 8000000 in
theorem mch3_calls (w : World) (M : Nat) (ok okv : Nat → Prop) (v : MV) (m : Mod) (r : Req) (lv : Value) (h : ChX w M ok okv v m r lv) (hk : r.kind = 3) :
    Calls Tryz.prog 146 #[.pointer (some ⟨M, 0, none⟩), .agg (reqA r lv)] w fun e w' => ChP w w' M ok e ⟨{ m with low := { m.low with pr := (defineP m.low.pr r.id r.l0 r.l1 r.l2).1 } }, 0, (defineP m.low.pr r.id r.l0 r.l1 r.l2).2⟩ := by
  obtain ⟨R, hR⟩ : ∃ R, R = defineP m.low.pr r.id r.l0 r.l1 r.l2 := ⟨_, rfl⟩
  rw [← hR]
  have HR := hide hR
  have hsm := h.small
  have HH := hide h
  have zM := blk_lt h.at'.top
  clear hR h
  go_enter Tryz.func146, Tryz.ntmps146
  go_upto_region 1 with fail
  have hb1 : Below w.heap.size w (w.alloc (.cells (reqA r lv) 53)) := (Below.refl _ _).alloc (Nat.le_refl _) _
  have hq : (w.alloc (.cells (reqA r lv) 53)).heap[w.heap.size]? = some (.cells (reqA r lv) 53 (0, 0)) := heap_alloc_at _ _
  have hsz : (w.alloc (.cells (reqA r lv) 53)).heap.size = w.heap.size + 1 := World.size_alloc _ _
  have HB1 := hide hb1
  have HM := hide (HH.out.at'.below hb1)
  generalize w.alloc (.cells (reqA r lv) 53) = W at *
  have q0 := cells_all hq 0
  have q3 := cells_all hq 3
  have q13 := cells_all hq 13
  have q14 := cells_all hq 14
  have q15 := cells_all hq 15
  simp only [reqA, List.getElem?_toArray, List.getElem?_cons_succ, List.getElem?_cons_zero] at q0 q3 q13 q14 q15
  rw [hk] at q0
  have zq := blk_lt hq
  obtain ⟨g0, g4, g5, zM1⟩ := HM.out.lb
  simp only [Nat.zero_add] at g0 g4 g5
  have hok : ∀ b, W.heap.size ≤ b → ok b := fun b hb => HH.out.new b (by omega)
  have HVIS := hide (fun V (hb : Below W.heap.size W V) => RArr.below HH.out.vis (HB1.out.trans (hb.mono (by omega))))
  have hMW : M ≤ W.heap.size := by omega
  clear hq hb1
  generalize hQ : w.heap.size = Q at *
  have HQS := hide hQ
  clear hQ
  go_upto_region 27 with fail
  refine wp_region_mixT (W.heap.size) [4, 6, 8] (by kernel_rfl) ?_
  refine mixT_slots [0, 1, 2, 3, 5, 7] (fuel := 11) rfl (by kernel_rfl) (by kernel_rfl) (fun d _ _ _ _ h => by cases d <;> exact h) ?_
  simp only [opersAt, List.getElem?_toArray, List.getElem?_cons_zero, List.getElem?_cons_succ]
  repeat (go_big_quiet_step (fail))
  refine wpQuiet_nil ?_
  refine mixT_reads [4, 6, 8] (fuel := 8) rfl (by kernel_rfl) (by decide) (by kernel_rfl) (fun d _ _ _ _ h => by cases d <;> exact h) (ext_drew _ _) ?_
  simp only [opersAt, List.getElem?_toArray, List.getElem?_cons_zero, List.getElem?_cons_succ]
  repeat (go_big_quiet_step (fail))
  refine wpQuiet_nil ?_
  refine mixT_one (k := 9) (by kernel_rfl) rfl ?_
  go_wp2_with (go_at_call 187; refine (defineAna_calls _ ok _ _ _ _ m.low.pr r.id r.l0 r.l1 r.l2 (HM.out.inn.low.pr.below (Below.refl _ _).drew) hsm.pr hok).mono ?_; rintro e w1 ⟨y0, y1, y2, y3, rfl, hpr, hbc⟩; obtain ⟨⟨a0, n0, c0, rfl⟩, ⟨a1, n1, c1, rfl⟩, ⟨a2, n2, c2, rfl⟩, ⟨a3, n3, c3, rfl⟩⟩ := hpr.forms)
  rw [← HR.out] at hpr ⊢
  have hbw : Below W.heap.size W w1 := (Below.refl _ _).drew.trans hbc
  refine ⟨Or.inr (by intros; exact ⟨⟨_, hbw⟩, rfl⟩), ?_⟩
  have HM1 := hide (HM.out.below hbw)
  have HPR := hide hpr
  have HBW := hide hbw
  have d0 := cells_all HM1.out.top 0
  have f0 := HM1.out.fz 0
  have d1 := cells_all HM1.out.top 1
  have f1 := HM1.out.fz 1
  have d2 := cells_all HM1.out.top 2
  have f2 := HM1.out.fz 2
  have d3 := cells_all HM1.out.top 3
  have f3 := HM1.out.fz 3
  simp only [mvCs, List.getElem?_toArray, List.getElem?_cons_succ, List.getElem?_cons_zero] at d0 d1 d2 d3
  have zM2 := blk_lt HM1.out.top
  clear hpr hbc hbw q0 q3 q13 q14 q15 g0 g4 g5
  refine mixT_slots [10, 11, 12, 13, 14] (fuel := 2) rfl (by kernel_rfl) (by kernel_rfl) (fun d _ _ _ _ h => by cases d <;> exact h) ?_
  simp only [opersAt, List.getElem?_toArray, List.getElem?_cons_zero, List.getElem?_cons_succ]
  repeat (go_big_quiet_step (fail))
  refine wpQuiet_nil ?_
  refine mixT_one (k := 15) (by kernel_rfl) rfl ?_
  go_wp2
  refine ⟨Or.inl (by kernel_rfl), ?_⟩
  refine mixT_one (k := 16) (by kernel_rfl) rfl ?_
  go_wp2
  refine ⟨Or.inr (fun h => h), ?_⟩
  refine mixT_nil (by kernel_rfl) ?_
  go_wp2
  refine bodyPost_ret (v := .tuple #[.int .u32 0, .int .u8 R.2]) (by simp [results, Tryz.results146]) rfl ?_
  have hput := HM1.out.putPr HH.out.nok HPR.out
  exact ⟨rfl, ⟨_, hput.1⟩, ⟨((HB1.out.mono (by omega)).trans (HBW.out.mono hMW)).trans hput.2.bel, fun b hb hn => (hput.2.fr b (by have := HBW.out.size; have := HB1.out.size; have := HQS.out; omega) hn).trans ((HBW.out.block b (by have := HB1.out.size; have := HQS.out; omega)).trans (HB1.out.block b (by have := HQS.out; omega)))⟩⟩

set_option maxRecDepth 100000 in
set_option maxHeartbeats 8000000 in
theorem mch4_calls (w : World) (M : Nat) (ok okv : Nat → Prop) (v : MV) (m : Mod) (r : Req) (lv : Value) (h : ChX w M ok okv v m r lv) (hk : r.kind = 4) :
    Calls Tryz.prog 146 #[.pointer (some ⟨M, 0, none⟩), .agg (reqA r lv)] w fun e w' => ChP w w' M ok e ⟨{ m with low := { m.low with pr := (amendP m.low.pr r.time r.list).1 } }, 0, (amendP m.low.pr r.time r.list).2⟩ := by
  obtain ⟨R, hR⟩ : ∃ R, R = amendP m.low.pr r.time r.list := ⟨_, rfl⟩
  rw [← hR]
  have HR := hide hR
  have hsm := h.small
  have HH := hide h
  have zM := blk_lt h.at'.top
  clear hR h
  go_enter Tryz.func146, Tryz.ntmps146
  go_upto_region 1 with fail
  have hb1 : Below w.heap.size w (w.alloc (.cells (reqA r lv) 53)) := (Below.refl _ _).alloc (Nat.le_refl _) _
  have hq : (w.alloc (.cells (reqA r lv) 53)).heap[w.heap.size]? = some (.cells (reqA r lv) 53 (0, 0)) := heap_alloc_at _ _
  have hsz : (w.alloc (.cells (reqA r lv) 53)).heap.size = w.heap.size + 1 := World.size_alloc _ _
  have HB1 := hide hb1
  have HM := hide (HH.out.at'.below hb1)
  generalize w.alloc (.cells (reqA r lv) 53) = W at *
  have q0 := cells_all hq 0
  have q10 := cells_all hq 10
  have q16 := cells_all hq 16
  simp only [reqA, List.getElem?_toArray, List.getElem?_cons_succ, List.getElem?_cons_zero] at q0 q10 q16
  rw [hk] at q0
  have zq := blk_lt hq
  obtain ⟨g0, g4, g5, zM1⟩ := HM.out.lb
  simp only [Nat.zero_add] at g0 g4 g5
  have hok : ∀ b, W.heap.size ≤ b → ok b := fun b hb => HH.out.new b (by omega)
  have HVIS := hide (fun V (hb : Below W.heap.size W V) => RArr.below HH.out.vis (HB1.out.trans (hb.mono (by omega))))
  have hMW : M ≤ W.heap.size := by omega
  clear hq hb1
  generalize hQ : w.heap.size = Q at *
  have HQS := hide hQ
  clear hQ
  go_upto_region 29 with fail
  refine wp_region_mixT (W.heap.size) [4, 6, 8] (by kernel_rfl) ?_
  refine mixT_slots [0, 1, 2, 3, 5, 7] (fuel := 11) rfl (by kernel_rfl) (by kernel_rfl) (fun d _ _ _ _ h => by cases d <;> exact h) ?_
  simp only [opersAt, List.getElem?_toArray, List.getElem?_cons_zero, List.getElem?_cons_succ]
  repeat (go_big_quiet_step (fail))
  refine wpQuiet_nil ?_
  refine mixT_reads [4, 6, 8] (fuel := 8) rfl (by kernel_rfl) (by decide) (by kernel_rfl) (fun d _ _ _ _ h => by cases d <;> exact h) (ext_drew _ _) ?_
  simp only [opersAt, List.getElem?_toArray, List.getElem?_cons_zero, List.getElem?_cons_succ]
  repeat (go_big_quiet_step (fail))
  refine wpQuiet_nil ?_
  refine mixT_one (k := 9) (by kernel_rfl) rfl ?_
  go_wp2_with (go_at_call 188; refine (amend_calls _ ok okv _ _ _ _ _ m.low.pr r.time r.list (HM.out.inn.low.pr.below (Below.refl _ _).drew) (HVIS.out _ (Below.refl _ _).drew) hsm.pr hok).mono ?_; rintro e w1 ⟨y0, y1, y2, y3, rfl, hpr, hbc⟩; obtain ⟨⟨a0, n0, c0, rfl⟩, ⟨a1, n1, c1, rfl⟩, ⟨a2, n2, c2, rfl⟩, ⟨a3, n3, c3, rfl⟩⟩ := hpr.forms)
  rw [← HR.out] at hpr ⊢
  have hbw : Below W.heap.size W w1 := (Below.refl _ _).drew.trans hbc
  refine ⟨Or.inr (by intros; exact ⟨⟨_, hbw⟩, rfl⟩), ?_⟩
  have HM1 := hide (HM.out.below hbw)
  have HPR := hide hpr
  have HBW := hide hbw
  have d0 := cells_all HM1.out.top 0
  have f0 := HM1.out.fz 0
  have d1 := cells_all HM1.out.top 1
  have f1 := HM1.out.fz 1
  have d2 := cells_all HM1.out.top 2
  have f2 := HM1.out.fz 2
  have d3 := cells_all HM1.out.top 3
  have f3 := HM1.out.fz 3
  simp only [mvCs, List.getElem?_toArray, List.getElem?_cons_succ, List.getElem?_cons_zero] at d0 d1 d2 d3
  have zM2 := blk_lt HM1.out.top
  clear hpr hbc hbw q0 q10 q16 g0 g4 g5
  refine mixT_slots [10, 11, 12, 13, 14] (fuel := 2) rfl (by kernel_rfl) (by kernel_rfl) (fun d _ _ _ _ h => by cases d <;> exact h) ?_
  simp only [opersAt, List.getElem?_toArray, List.getElem?_cons_zero, List.getElem?_cons_succ]
  repeat (go_big_quiet_step (fail))
  refine wpQuiet_nil ?_
  refine mixT_one (k := 15) (by kernel_rfl) rfl ?_
  go_wp2
  refine ⟨Or.inl (by kernel_rfl), ?_⟩
  refine mixT_one (k := 16) (by kernel_rfl) rfl ?_
  go_wp2
  refine ⟨Or.inr (fun h => h), ?_⟩
  refine mixT_nil (by kernel_rfl) ?_
  go_wp2
  refine bodyPost_ret (v := .tuple #[.int .u32 0, .int .u8 R.2]) (by simp [results, Tryz.results146]) rfl ?_
  have hput := HM1.out.putPr HH.out.nok HPR.out
  exact ⟨rfl, ⟨_, hput.1⟩, ⟨((HB1.out.mono (by omega)).trans (HBW.out.mono hMW)).trans hput.2.bel, fun b hb hn => (hput.2.fr b (by have := HBW.out.size; have := HB1.out.size; have := HQS.out; omega) hn).trans ((HBW.out.block b (by have := HB1.out.size; have := HQS.out; omega)).trans (HB1.out.block b (by have := HQS.out; omega)))⟩⟩

set_option maxRecDepth 100000 in
set_option maxHeartbeats 8000000 in
theorem mch5_calls (w : World) (M : Nat) (ok okv : Nat → Prop) (v : MV) (m : Mod) (r : Req) (lv : Value) (h : ChX w M ok okv v m r lv) (hk : r.kind = 5) :
    Calls Tryz.prog 146 #[.pointer (some ⟨M, 0, none⟩), .agg (reqA r lv)] w fun e w' => ChP w w' M ok e ⟨{ m with low := { m.low with pr := (addSiteP m.low.pr r.id).1 } }, 0, (addSiteP m.low.pr r.id).2⟩ := by
  obtain ⟨R, hR⟩ : ∃ R, R = addSiteP m.low.pr r.id := ⟨_, rfl⟩
  rw [← hR]
  have HR := hide hR
  have hsm := h.small
  have HH := hide h
  have zM := blk_lt h.at'.top
  clear hR h
  go_enter Tryz.func146, Tryz.ntmps146
  go_upto_region 1 with fail
  have hb1 : Below w.heap.size w (w.alloc (.cells (reqA r lv) 53)) := (Below.refl _ _).alloc (Nat.le_refl _) _
  have hq : (w.alloc (.cells (reqA r lv) 53)).heap[w.heap.size]? = some (.cells (reqA r lv) 53 (0, 0)) := heap_alloc_at _ _
  have hsz : (w.alloc (.cells (reqA r lv) 53)).heap.size = w.heap.size + 1 := World.size_alloc _ _
  have HB1 := hide hb1
  have HM := hide (HH.out.at'.below hb1)
  generalize w.alloc (.cells (reqA r lv) 53) = W at *
  have q0 := cells_all hq 0
  have q3 := cells_all hq 3
  simp only [reqA, List.getElem?_toArray, List.getElem?_cons_succ, List.getElem?_cons_zero] at q0 q3
  rw [hk] at q0
  have zq := blk_lt hq
  obtain ⟨g0, g4, g5, zM1⟩ := HM.out.lb
  simp only [Nat.zero_add] at g0 g4 g5
  have hok : ∀ b, W.heap.size ≤ b → ok b := fun b hb => HH.out.new b (by omega)
  have HVIS := hide (fun V (hb : Below W.heap.size W V) => RArr.below HH.out.vis (HB1.out.trans (hb.mono (by omega))))
  have hMW : M ≤ W.heap.size := by omega
  clear hq hb1
  generalize hQ : w.heap.size = Q at *
  have HQS := hide hQ
  clear hQ
  go_upto_region 31 with fail
  refine wp_region_mixT (W.heap.size) [4, 6] (by kernel_rfl) ?_
  refine mixT_slots [0, 1, 2, 3, 5] (fuel := 10) rfl (by kernel_rfl) (by kernel_rfl) (fun d _ _ _ _ h => by cases d <;> exact h) ?_
  simp only [opersAt, List.getElem?_toArray, List.getElem?_cons_zero, List.getElem?_cons_succ]
  repeat (go_big_quiet_step (fail))
  refine wpQuiet_nil ?_
  refine mixT_reads [4, 6] (fuel := 8) rfl (by kernel_rfl) (by decide) (by kernel_rfl) (fun d _ _ _ _ h => by cases d <;> exact h) (ext_drew _ _) ?_
  simp only [opersAt, List.getElem?_toArray, List.getElem?_cons_zero, List.getElem?_cons_succ]
  repeat (go_big_quiet_step (fail))
  refine wpQuiet_nil ?_
  refine mixT_one (k := 7) (by kernel_rfl) rfl ?_
  go_wp2_with (go_at_call 189; refine (addSite_calls _ ok _ _ _ _ m.low.pr r.id (HM.out.inn.low.pr.below (Below.refl _ _).drew) hsm.pr hok).mono ?_; rintro e w1 ⟨y0, y1, y2, y3, rfl, hpr, hbc⟩; obtain ⟨⟨a0, n0, c0, rfl⟩, ⟨a1, n1, c1, rfl⟩, ⟨a2, n2, c2, rfl⟩, ⟨a3, n3, c3, rfl⟩⟩ := hpr.forms)
  rw [← HR.out] at hpr ⊢
  have hbw : Below W.heap.size W w1 := (Below.refl _ _).drew.trans hbc
  refine ⟨Or.inr (by intros; exact ⟨⟨_, hbw⟩, rfl⟩), ?_⟩
  have HM1 := hide (HM.out.below hbw)
  have HPR := hide hpr
  have HBW := hide hbw
  have d0 := cells_all HM1.out.top 0
  have f0 := HM1.out.fz 0
  have d1 := cells_all HM1.out.top 1
  have f1 := HM1.out.fz 1
  have d2 := cells_all HM1.out.top 2
  have f2 := HM1.out.fz 2
  have d3 := cells_all HM1.out.top 3
  have f3 := HM1.out.fz 3
  simp only [mvCs, List.getElem?_toArray, List.getElem?_cons_succ, List.getElem?_cons_zero] at d0 d1 d2 d3
  have zM2 := blk_lt HM1.out.top
  clear hpr hbc hbw q0 q3 g0 g4 g5
  refine mixT_slots [8, 9, 10, 11, 12] (fuel := 2) rfl (by kernel_rfl) (by kernel_rfl) (fun d _ _ _ _ h => by cases d <;> exact h) ?_
  simp only [opersAt, List.getElem?_toArray, List.getElem?_cons_zero, List.getElem?_cons_succ]
  repeat (go_big_quiet_step (fail))
  refine wpQuiet_nil ?_
  refine mixT_one (k := 13) (by kernel_rfl) rfl ?_
  go_wp2
  refine ⟨Or.inl (by kernel_rfl), ?_⟩
  refine mixT_one (k := 14) (by kernel_rfl) rfl ?_
  go_wp2
  refine ⟨Or.inr (fun h => h), ?_⟩
  refine mixT_nil (by kernel_rfl) ?_
  go_wp2
  refine bodyPost_ret (v := .tuple #[.int .u32 0, .int .u8 R.2]) (by simp [results, Tryz.results146]) rfl ?_
  have hput := HM1.out.putPr HH.out.nok HPR.out
  exact ⟨rfl, ⟨_, hput.1⟩, ⟨((HB1.out.mono (by omega)).trans (HBW.out.mono hMW)).trans hput.2.bel, fun b hb hn => (hput.2.fr b (by have := HBW.out.size; have := HB1.out.size; have := HQS.out; omega) hn).trans ((HBW.out.block b (by have := HB1.out.size; have := HQS.out; omega)).trans (HB1.out.block b (by have := HQS.out; omega)))⟩⟩

set_option maxRecDepth 100000 in
set_option maxHeartbeats 8000000 in
theorem mch6_calls (w : World) (M : Nat) (ok okv : Nat → Prop) (v : MV) (m : Mod) (r : Req) (lv : Value) (h : ChX w M ok okv v m r lv) (hk : r.kind = 6) :
    Calls Tryz.prog 146 #[.pointer (some ⟨M, 0, none⟩), .agg (reqA r lv)] w fun e w' => ChP w w' M ok e ⟨{ m with low := { m.low with pr := (enrolP m.low.pr r.id r.ref).1 } }, 0, (enrolP m.low.pr r.id r.ref).2⟩ := by
  obtain ⟨R, hR⟩ : ∃ R, R = enrolP m.low.pr r.id r.ref := ⟨_, rfl⟩
  rw [← hR]
  have HR := hide hR
  have hsm := h.small
  have HH := hide h
  have zM := blk_lt h.at'.top
  clear hR h
  go_enter Tryz.func146, Tryz.ntmps146
  go_upto_region 1 with fail
  have hb1 : Below w.heap.size w (w.alloc (.cells (reqA r lv) 53)) := (Below.refl _ _).alloc (Nat.le_refl _) _
  have hq : (w.alloc (.cells (reqA r lv) 53)).heap[w.heap.size]? = some (.cells (reqA r lv) 53 (0, 0)) := heap_alloc_at _ _
  have hsz : (w.alloc (.cells (reqA r lv) 53)).heap.size = w.heap.size + 1 := World.size_alloc _ _
  have HB1 := hide hb1
  have HM := hide (HH.out.at'.below hb1)
  generalize w.alloc (.cells (reqA r lv) 53) = W at *
  have q0 := cells_all hq 0
  have q3 := cells_all hq 3
  have q4 := cells_all hq 4
  simp only [reqA, List.getElem?_toArray, List.getElem?_cons_succ, List.getElem?_cons_zero] at q0 q3 q4
  rw [hk] at q0
  have zq := blk_lt hq
  obtain ⟨g0, g4, g5, zM1⟩ := HM.out.lb
  simp only [Nat.zero_add] at g0 g4 g5
  have hok : ∀ b, W.heap.size ≤ b → ok b := fun b hb => HH.out.new b (by omega)
  have HVIS := hide (fun V (hb : Below W.heap.size W V) => RArr.below HH.out.vis (HB1.out.trans (hb.mono (by omega))))
  have hMW : M ≤ W.heap.size := by omega
  clear hq hb1
  generalize hQ : w.heap.size = Q at *
  have HQS := hide hQ
  clear hQ
  go_upto_region 33 with fail
  refine wp_region_mixT (W.heap.size) [4, 6, 8] (by kernel_rfl) ?_
  refine mixT_slots [0, 1, 2, 3, 5, 7] (fuel := 11) rfl (by kernel_rfl) (by kernel_rfl) (fun d _ _ _ _ h => by cases d <;> exact h) ?_
  simp only [opersAt, List.getElem?_toArray, List.getElem?_cons_zero, List.getElem?_cons_succ]
  repeat (go_big_quiet_step (fail))
  refine wpQuiet_nil ?_
  refine mixT_reads [4, 6, 8] (fuel := 8) rfl (by kernel_rfl) (by decide) (by kernel_rfl) (fun d _ _ _ _ h => by cases d <;> exact h) (ext_drew _ _) ?_
  simp only [opersAt, List.getElem?_toArray, List.getElem?_cons_zero, List.getElem?_cons_succ]
  repeat (go_big_quiet_step (fail))
  refine wpQuiet_nil ?_
  refine mixT_one (k := 9) (by kernel_rfl) rfl ?_
  go_wp2_with (go_at_call 190; refine (enrol_calls _ ok _ _ _ _ m.low.pr r.id r.ref (HM.out.inn.low.pr.below (Below.refl _ _).drew) hsm.pr hok).mono ?_; rintro e w1 ⟨y0, y1, y2, y3, rfl, hpr, hbc⟩; obtain ⟨⟨a0, n0, c0, rfl⟩, ⟨a1, n1, c1, rfl⟩, ⟨a2, n2, c2, rfl⟩, ⟨a3, n3, c3, rfl⟩⟩ := hpr.forms)
  rw [← HR.out] at hpr ⊢
  have hbw : Below W.heap.size W w1 := (Below.refl _ _).drew.trans hbc
  refine ⟨Or.inr (by intros; exact ⟨⟨_, hbw⟩, rfl⟩), ?_⟩
  have HM1 := hide (HM.out.below hbw)
  have HPR := hide hpr
  have HBW := hide hbw
  have d0 := cells_all HM1.out.top 0
  have f0 := HM1.out.fz 0
  have d1 := cells_all HM1.out.top 1
  have f1 := HM1.out.fz 1
  have d2 := cells_all HM1.out.top 2
  have f2 := HM1.out.fz 2
  have d3 := cells_all HM1.out.top 3
  have f3 := HM1.out.fz 3
  simp only [mvCs, List.getElem?_toArray, List.getElem?_cons_succ, List.getElem?_cons_zero] at d0 d1 d2 d3
  have zM2 := blk_lt HM1.out.top
  clear hpr hbc hbw q0 q3 q4 g0 g4 g5
  refine mixT_slots [10, 11, 12, 13, 14] (fuel := 2) rfl (by kernel_rfl) (by kernel_rfl) (fun d _ _ _ _ h => by cases d <;> exact h) ?_
  simp only [opersAt, List.getElem?_toArray, List.getElem?_cons_zero, List.getElem?_cons_succ]
  repeat (go_big_quiet_step (fail))
  refine wpQuiet_nil ?_
  refine mixT_one (k := 15) (by kernel_rfl) rfl ?_
  go_wp2
  refine ⟨Or.inl (by kernel_rfl), ?_⟩
  refine mixT_one (k := 16) (by kernel_rfl) rfl ?_
  go_wp2
  refine ⟨Or.inr (fun h => h), ?_⟩
  refine mixT_nil (by kernel_rfl) ?_
  go_wp2
  refine bodyPost_ret (v := .tuple #[.int .u32 0, .int .u8 R.2]) (by simp [results, Tryz.results146]) rfl ?_
  have hput := HM1.out.putPr HH.out.nok HPR.out
  exact ⟨rfl, ⟨_, hput.1⟩, ⟨((HB1.out.mono (by omega)).trans (HBW.out.mono hMW)).trans hput.2.bel, fun b hb hn => (hput.2.fr b (by have := HBW.out.size; have := HB1.out.size; have := HQS.out; omega) hn).trans ((HBW.out.block b (by have := HB1.out.size; have := HQS.out; omega)).trans (HB1.out.block b (by have := HQS.out; omega)))⟩⟩

end Go.Proofs.Qxb6500666aGreatDoor
