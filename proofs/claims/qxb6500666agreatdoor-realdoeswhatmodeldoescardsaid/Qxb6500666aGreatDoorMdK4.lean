/- The model's change: kinds 15, 16, 17, 18. (Made by tools/mk_mch.py.) -/
import Derived.Test.Qxb6500666aGreatDoorMdC
namespace Go.Proofs.Qxb6500666aGreatDoor
open Go.RowKit
attribute [local go_sem] ext_const Ext.cell Ext.frozen Ext.rng Ext.whole
attribute [local go_sem ↓] exec_ldPrS exec_ldKtS exec_ldSmS
attribute [local go_sem] run_ldPrS run_ldKtS run_ldSmS whole_alloc_lt whole_alloc_at whole_drew setRow_alloc_at setRow_alloc_lt setRow_drew rng_alloc_lt rng_alloc_at rng_drew rng_drewN

set_option maxRecDepth 100000 in
set_option maxHeartbeats 8000000 in
theorem mch15_calls (w : World) (M : Nat) (ok okv : Nat → Prop) (v : MV) (m : Mod) (r : Req) (lv : Value) (h : ChX w M ok okv v m r lv) (hk : r.kind = 15) :
    Calls Tryz.prog 146 #[.pointer (some ⟨M, 0, none⟩), .agg (reqA r lv)] w fun e w' => ChP w w' M ok e ⟨{ m with low := { m.low with sm := (raiseQ m.low.sm r.id r.ref).1 } }, 0, (raiseQ m.low.sm r.id r.ref).2⟩ := by
  obtain ⟨R, hR⟩ : ∃ R, R = raiseQ m.low.sm r.id r.ref := ⟨_, rfl⟩
  rw [← hR]
  have HR := hide hR
  have hsm := h.small
  have HH := hide h
  have zM := blk_lt h.at'.top
  clear hR h
  go_enter Tryz.func146, Tryz.ntmps146
  go_upto_region 1 with fail
  have hb1 : Below w.heap.size w (w.alloc (.cells (reqA r lv) 53)) := (Below.refl _ _).alloc (Nat.le_refl _) _
  have hq : (w.alloc (.cells (reqA r lv) 53)).heap[w.heap.size]? = some (.cells (reqA r lv) 53 (0, 0)) := heap_alloc_at _ _
  have hsz : (w.alloc (.cells (reqA r lv) 53)).heap.size = w.heap.size + 1 := World.size_alloc _ _
  have HB1 := hide hb1
  have HM := hide (HH.out.at'.below hb1)
  generalize w.alloc (.cells (reqA r lv) 53) = W at *
  have q0 := cells_all hq 0
  have q3 := cells_all hq 3
  have q4 := cells_all hq 4
  simp only [reqA, List.getElem?_toArray, List.getElem?_cons_succ, List.getElem?_cons_zero] at q0 q3 q4
  rw [hk] at q0
  have zq := blk_lt hq
  obtain ⟨g0, g4, g5, zM1⟩ := HM.out.lb
  simp only [Nat.zero_add] at g0 g4 g5
  have hok : ∀ b, W.heap.size ≤ b → ok b := fun b hb => HH.out.new b (by omega)
  have HVIS := hide (fun V (hb : Below W.heap.size W V) => RArr.below HH.out.vis (HB1.out.trans (hb.mono (by omega))))
  have hMW : M ≤ W.heap.size := by omega
  clear hq hb1
  generalize hQ : w.heap.size = Q at *
  have HQS := hide hQ
  clear hQ
  go_upto_region 53 with fail
  refine wp_region_mixT (W.heap.size) [4, 6, 8] (by kernel_rfl) ?_
  refine mixT_slots [0, 1, 2, 3, 5, 7] (fuel := 11) rfl (by kernel_rfl) (by kernel_rfl) (fun d _ _ _ _ h => by cases d <;> exact h) ?_
  simp only [opersAt, List.getElem?_toArray, List.getElem?_cons_zero, List.getElem?_cons_succ]
  repeat (go_big_quiet_step (fail))
  refine wpQuiet_nil ?_
  refine mixT_reads [4, 6, 8] (fuel := 8) rfl (by kernel_rfl) (by decide) (by kernel_rfl) (fun d _ _ _ _ h => by cases d <;> exact h) (ext_drew _ _) ?_
  simp only [opersAt, List.getElem?_toArray, List.getElem?_cons_zero, List.getElem?_cons_succ]
  repeat (go_big_quiet_step (fail))
  refine wpQuiet_nil ?_
  refine mixT_one (k := 9) (by kernel_rfl) rfl ?_
  go_wp2_with (go_at_call 200; refine (raiseQ_calls _ ok _ _ _ m.low.sm r.id r.ref (HM.out.inn.low.sm.below (Below.refl _ _).drew) hsm.sm hok).mono ?_; rintro e w1 ⟨y0, y1, y2, rfl, hpr, hbc⟩; obtain ⟨⟨a0, n0, c0, rfl⟩, ⟨a1, n1, c1, rfl⟩, ⟨a2, n2, c2, rfl⟩⟩ := hpr.forms)
  rw [← HR.out] at hpr ⊢
  have hbw : Below W.heap.size W w1 := (Below.refl _ _).drew.trans hbc
  refine ⟨Or.inr (by intros; exact ⟨⟨_, hbw⟩, rfl⟩), ?_⟩
  have HM1 := hide (HM.out.below hbw)
  have HPR := hide hpr
  have HBW := hide hbw
  have d5 := cells_all HM1.out.top 5
  have f5 := HM1.out.fz 5
  have d6 := cells_all HM1.out.top 6
  have f6 := HM1.out.fz 6
  have d7 := cells_all HM1.out.top 7
  have f7 := HM1.out.fz 7
  simp only [mvCs, List.getElem?_toArray, List.getElem?_cons_succ, List.getElem?_cons_zero] at d5 d6 d7
  have zM2 := blk_lt HM1.out.top
  clear hpr hbc hbw q0 q3 q4 g0 g4 g5
  refine mixT_slots [10, 11, 12, 13, 14] (fuel := 2) rfl (by kernel_rfl) (by kernel_rfl) (fun d _ _ _ _ h => by cases d <;> exact h) ?_
  simp only [opersAt, List.getElem?_toArray, List.getElem?_cons_zero, List.getElem?_cons_succ]
  repeat (go_big_quiet_step (fail))
  refine wpQuiet_nil ?_
  refine mixT_one (k := 15) (by kernel_rfl) rfl ?_
  go_wp2
  refine ⟨Or.inl (by kernel_rfl), ?_⟩
  refine mixT_one (k := 16) (by kernel_rfl) rfl ?_
  go_wp2
  refine ⟨Or.inr (fun h => h), ?_⟩
  refine mixT_nil (by kernel_rfl) ?_
  go_wp2
  refine bodyPost_ret (v := .tuple #[.int .u32 0, .int .u8 R.2]) (by simp [results, Tryz.results146]) rfl ?_
  have hput := HM1.out.putSm HH.out.nok HPR.out
  exact ⟨rfl, ⟨_, hput.1⟩, ⟨((HB1.out.mono (by omega)).trans (HBW.out.mono hMW)).trans hput.2.bel, fun b hb hn => (hput.2.fr b (by have := HBW.out.size; have := HB1.out.size; have := HQS.out; omega) hn).trans ((HBW.out.block b (by have := HB1.out.size; have := HQS.out; omega)).trans (HB1.out.block b (by have := HQS.out; omega)))⟩⟩

set_option maxRecDepth 100000 in
set_option maxHeartbeats 8000000 in
theorem mch16_calls (w : World) (M : Nat) (ok okv : Nat → Prop) (v : MV) (m : Mod) (r : Req) (lv : Value) (h : ChX w M ok okv v m r lv) (hk : r.kind = 16) :
    Calls Tryz.prog 146 #[.pointer (some ⟨M, 0, none⟩), .agg (reqA r lv)] w fun e w' => ChP w w' M ok e ⟨{ m with low := { m.low with sm := (moveQ m.low.sm r.id 1 2).1 } }, 0, (moveQ m.low.sm r.id 1 2).2⟩ := by
  obtain ⟨R, hR⟩ : ∃ R, R = moveQ m.low.sm r.id 1 2 := ⟨_, rfl⟩
  rw [← hR]
  have HR := hide hR
  have hsm := h.small
  have HH := hide h
  have zM := blk_lt h.at'.top
  clear hR h
  go_enter Tryz.func146, Tryz.ntmps146
  go_upto_region 1 with fail
  have hb1 : Below w.heap.size w (w.alloc (.cells (reqA r lv) 53)) := (Below.refl _ _).alloc (Nat.le_refl _) _
  have hq : (w.alloc (.cells (reqA r lv) 53)).heap[w.heap.size]? = some (.cells (reqA r lv) 53 (0, 0)) := heap_alloc_at _ _
  have hsz : (w.alloc (.cells (reqA r lv) 53)).heap.size = w.heap.size + 1 := World.size_alloc _ _
  have HB1 := hide hb1
  have HM := hide (HH.out.at'.below hb1)
  generalize w.alloc (.cells (reqA r lv) 53) = W at *
  have q0 := cells_all hq 0
  have q3 := cells_all hq 3
  simp only [reqA, List.getElem?_toArray, List.getElem?_cons_succ, List.getElem?_cons_zero] at q0 q3
  rw [hk] at q0
  have zq := blk_lt hq
  obtain ⟨g0, g4, g5, zM1⟩ := HM.out.lb
  simp only [Nat.zero_add] at g0 g4 g5
  have hok : ∀ b, W.heap.size ≤ b → ok b := fun b hb => HH.out.new b (by omega)
  have HVIS := hide (fun V (hb : Below W.heap.size W V) => RArr.below HH.out.vis (HB1.out.trans (hb.mono (by omega))))
  have hMW : M ≤ W.heap.size := by omega
  clear hq hb1
  generalize hQ : w.heap.size = Q at *
  have HQS := hide hQ
  clear hQ
  go_upto_region 55 with fail
  refine wp_region_mixT (W.heap.size) [4, 6] (by kernel_rfl) ?_
  refine mixT_slots [0, 1, 2, 3, 5] (fuel := 10) rfl (by kernel_rfl) (by kernel_rfl) (fun d _ _ _ _ h => by cases d <;> exact h) ?_
  simp only [opersAt, List.getElem?_toArray, List.getElem?_cons_zero, List.getElem?_cons_succ]
  repeat (go_big_quiet_step (fail))
  refine wpQuiet_nil ?_
  refine mixT_reads [4, 6] (fuel := 8) rfl (by kernel_rfl) (by decide) (by kernel_rfl) (fun d _ _ _ _ h => by cases d <;> exact h) (ext_drew _ _) ?_
  simp only [opersAt, List.getElem?_toArray, List.getElem?_cons_zero, List.getElem?_cons_succ]
  repeat (go_big_quiet_step (fail))
  refine wpQuiet_nil ?_
  refine mixT_one (k := 7) (by kernel_rfl) rfl ?_
  go_wp2_with (go_at_call 201; refine (answerQ_calls _ ok _ _ _ m.low.sm r.id (HM.out.inn.low.sm.below (Below.refl _ _).drew) hsm.sm hok).mono ?_; rintro e w1 ⟨y0, y1, y2, rfl, hpr, hbc⟩; obtain ⟨⟨a0, n0, c0, rfl⟩, ⟨a1, n1, c1, rfl⟩, ⟨a2, n2, c2, rfl⟩⟩ := hpr.forms)
  rw [← HR.out] at hpr ⊢
  have hbw : Below W.heap.size W w1 := (Below.refl _ _).drew.trans hbc
  refine ⟨Or.inr (by intros; exact ⟨⟨_, hbw⟩, rfl⟩), ?_⟩
  have HM1 := hide (HM.out.below hbw)
  have HPR := hide hpr
  have HBW := hide hbw
  have d5 := cells_all HM1.out.top 5
  have f5 := HM1.out.fz 5
  have d6 := cells_all HM1.out.top 6
  have f6 := HM1.out.fz 6
  have d7 := cells_all HM1.out.top 7
  have f7 := HM1.out.fz 7
  simp only [mvCs, List.getElem?_toArray, List.getElem?_cons_succ, List.getElem?_cons_zero] at d5 d6 d7
  have zM2 := blk_lt HM1.out.top
  clear hpr hbc hbw q0 q3 g0 g4 g5
  refine mixT_slots [8, 9, 10, 11, 12] (fuel := 2) rfl (by kernel_rfl) (by kernel_rfl) (fun d _ _ _ _ h => by cases d <;> exact h) ?_
  simp only [opersAt, List.getElem?_toArray, List.getElem?_cons_zero, List.getElem?_cons_succ]
  repeat (go_big_quiet_step (fail))
  refine wpQuiet_nil ?_
  refine mixT_one (k := 13) (by kernel_rfl) rfl ?_
  go_wp2
  refine ⟨Or.inl (by kernel_rfl), ?_⟩
  refine mixT_one (k := 14) (by kernel_rfl) rfl ?_
  go_wp2
  refine ⟨Or.inr (fun h => h), ?_⟩
  refine mixT_nil (by kernel_rfl) ?_
  go_wp2
  refine bodyPost_ret (v := .tuple #[.int .u32 0, .int .u8 R.2]) (by simp [results, Tryz.results146]) rfl ?_
  have hput := HM1.out.putSm HH.out.nok HPR.out
  exact ⟨rfl, ⟨_, hput.1⟩, ⟨((HB1.out.mono (by omega)).trans (HBW.out.mono hMW)).trans hput.2.bel, fun b hb hn => (hput.2.fr b (by have := HBW.out.size; have := HB1.out.size; have := HQS.out; omega) hn).trans ((HBW.out.block b (by have := HB1.out.size; have := HQS.out; omega)).trans (HB1.out.block b (by have := HQS.out; omega)))⟩⟩

set_option maxRecDepth 100000 in
set_option maxHeartbeats 8000000 in
theorem mch17_calls (w : World) (M : Nat) (ok okv : Nat → Prop) (v : MV) (m : Mod) (r : Req) (lv : Value) (h : ChX w M ok okv v m r lv) (hk : r.kind = 17) :
    Calls Tryz.prog 146 #[.pointer (some ⟨M, 0, none⟩), .agg (reqA r lv)] w fun e w' => ChP w w' M ok e ⟨{ m with low := { m.low with sm := (moveQ m.low.sm r.id 2 3).1 } }, 0, (moveQ m.low.sm r.id 2 3).2⟩ := by
  obtain ⟨R, hR⟩ : ∃ R, R = moveQ m.low.sm r.id 2 3 := ⟨_, rfl⟩
  rw [← hR]
  have HR := hide hR
  have hsm := h.small
  have HH := hide h
  have zM := blk_lt h.at'.top
  clear hR h
  go_enter Tryz.func146, Tryz.ntmps146
  go_upto_region 1 with fail
  have hb1 : Below w.heap.size w (w.alloc (.cells (reqA r lv) 53)) := (Below.refl _ _).alloc (Nat.le_refl _) _
  have hq : (w.alloc (.cells (reqA r lv) 53)).heap[w.heap.size]? = some (.cells (reqA r lv) 53 (0, 0)) := heap_alloc_at _ _
  have hsz : (w.alloc (.cells (reqA r lv) 53)).heap.size = w.heap.size + 1 := World.size_alloc _ _
  have HB1 := hide hb1
  have HM := hide (HH.out.at'.below hb1)
  generalize w.alloc (.cells (reqA r lv) 53) = W at *
  have q0 := cells_all hq 0
  have q3 := cells_all hq 3
  simp only [reqA, List.getElem?_toArray, List.getElem?_cons_succ, List.getElem?_cons_zero] at q0 q3
  rw [hk] at q0
  have zq := blk_lt hq
  obtain ⟨g0, g4, g5, zM1⟩ := HM.out.lb
  simp only [Nat.zero_add] at g0 g4 g5
  have hok : ∀ b, W.heap.size ≤ b → ok b := fun b hb => HH.out.new b (by omega)
  have HVIS := hide (fun V (hb : Below W.heap.size W V) => RArr.below HH.out.vis (HB1.out.trans (hb.mono (by omega))))
  have hMW : M ≤ W.heap.size := by omega
  clear hq hb1
  generalize hQ : w.heap.size = Q at *
  have HQS := hide hQ
  clear hQ
  go_upto_region 57 with fail
  refine wp_region_mixT (W.heap.size) [4, 6] (by kernel_rfl) ?_
  refine mixT_slots [0, 1, 2, 3, 5] (fuel := 10) rfl (by kernel_rfl) (by kernel_rfl) (fun d _ _ _ _ h => by cases d <;> exact h) ?_
  simp only [opersAt, List.getElem?_toArray, List.getElem?_cons_zero, List.getElem?_cons_succ]
  repeat (go_big_quiet_step (fail))
  refine wpQuiet_nil ?_
  refine mixT_reads [4, 6] (fuel := 8) rfl (by kernel_rfl) (by decide) (by kernel_rfl) (fun d _ _ _ _ h => by cases d <;> exact h) (ext_drew _ _) ?_
  simp only [opersAt, List.getElem?_toArray, List.getElem?_cons_zero, List.getElem?_cons_succ]
  repeat (go_big_quiet_step (fail))
  refine wpQuiet_nil ?_
  refine mixT_one (k := 7) (by kernel_rfl) rfl ?_
  go_wp2_with (go_at_call 202; refine (closeQ_calls _ ok _ _ _ m.low.sm r.id (HM.out.inn.low.sm.below (Below.refl _ _).drew) hsm.sm hok).mono ?_; rintro e w1 ⟨y0, y1, y2, rfl, hpr, hbc⟩; obtain ⟨⟨a0, n0, c0, rfl⟩, ⟨a1, n1, c1, rfl⟩, ⟨a2, n2, c2, rfl⟩⟩ := hpr.forms)
  rw [← HR.out] at hpr ⊢
  have hbw : Below W.heap.size W w1 := (Below.refl _ _).drew.trans hbc
  refine ⟨Or.inr (by intros; exact ⟨⟨_, hbw⟩, rfl⟩), ?_⟩
  have HM1 := hide (HM.out.below hbw)
  have HPR := hide hpr
  have HBW := hide hbw
  have d5 := cells_all HM1.out.top 5
  have f5 := HM1.out.fz 5
  have d6 := cells_all HM1.out.top 6
  have f6 := HM1.out.fz 6
  have d7 := cells_all HM1.out.top 7
  have f7 := HM1.out.fz 7
  simp only [mvCs, List.getElem?_toArray, List.getElem?_cons_succ, List.getElem?_cons_zero] at d5 d6 d7
  have zM2 := blk_lt HM1.out.top
  clear hpr hbc hbw q0 q3 g0 g4 g5
  refine mixT_slots [8, 9, 10, 11, 12] (fuel := 2) rfl (by kernel_rfl) (by kernel_rfl) (fun d _ _ _ _ h => by cases d <;> exact h) ?_
  simp only [opersAt, List.getElem?_toArray, List.getElem?_cons_zero, List.getElem?_cons_succ]
  repeat (go_big_quiet_step (fail))
  refine wpQuiet_nil ?_
  refine mixT_one (k := 13) (by kernel_rfl) rfl ?_
  go_wp2
  refine ⟨Or.inl (by kernel_rfl), ?_⟩
  refine mixT_one (k := 14) (by kernel_rfl) rfl ?_
  go_wp2
  refine ⟨Or.inr (fun h => h), ?_⟩
  refine mixT_nil (by kernel_rfl) ?_
  go_wp2
  refine bodyPost_ret (v := .tuple #[.int .u32 0, .int .u8 R.2]) (by simp [results, Tryz.results146]) rfl ?_
  have hput := HM1.out.putSm HH.out.nok HPR.out
  exact ⟨rfl, ⟨_, hput.1⟩, ⟨((HB1.out.mono (by omega)).trans (HBW.out.mono hMW)).trans hput.2.bel, fun b hb hn => (hput.2.fr b (by have := HBW.out.size; have := HB1.out.size; have := HQS.out; omega) hn).trans ((HBW.out.block b (by have := HB1.out.size; have := HQS.out; omega)).trans (HB1.out.block b (by have := HQS.out; omega)))⟩⟩

set_option maxRecDepth 100000 in
set_option maxHeartbeats 8000000 in
theorem mch18_calls (w : World) (M : Nat) (ok okv : Nat → Prop) (v : MV) (m : Mod) (r : Req) (lv : Value) (h : ChX w M ok okv v m r lv) (hk : r.kind = 18) :
    Calls Tryz.prog 146 #[.pointer (some ⟨M, 0, none⟩), .agg (reqA r lv)] w fun e w' => ChP w w' M ok e ⟨{ m with low := { m.low with sm := (moveQ m.low.sm r.id 2 1).1 } }, 0, (moveQ m.low.sm r.id 2 1).2⟩ := by
  obtain ⟨R, hR⟩ : ∃ R, R = moveQ m.low.sm r.id 2 1 := ⟨_, rfl⟩
  rw [← hR]
  have HR := hide hR
  have hsm := h.small
  have HH := hide h
  have zM := blk_lt h.at'.top
  clear hR h
  go_enter Tryz.func146, Tryz.ntmps146
  go_upto_region 1 with fail
  have hb1 : Below w.heap.size w (w.alloc (.cells (reqA r lv) 53)) := (Below.refl _ _).alloc (Nat.le_refl _) _
  have hq : (w.alloc (.cells (reqA r lv) 53)).heap[w.heap.size]? = some (.cells (reqA r lv) 53 (0, 0)) := heap_alloc_at _ _
  have hsz : (w.alloc (.cells (reqA r lv) 53)).heap.size = w.heap.size + 1 := World.size_alloc _ _
  have HB1 := hide hb1
  have HM := hide (HH.out.at'.below hb1)
  generalize w.alloc (.cells (reqA r lv) 53) = W at *
  have q0 := cells_all hq 0
  have q3 := cells_all hq 3
  simp only [reqA, List.getElem?_toArray, List.getElem?_cons_succ, List.getElem?_cons_zero] at q0 q3
  rw [hk] at q0
  have zq := blk_lt hq
  obtain ⟨g0, g4, g5, zM1⟩ := HM.out.lb
  simp only [Nat.zero_add] at g0 g4 g5
  have hok : ∀ b, W.heap.size ≤ b → ok b := fun b hb => HH.out.new b (by omega)
  have HVIS := hide (fun V (hb : Below W.heap.size W V) => RArr.below HH.out.vis (HB1.out.trans (hb.mono (by omega))))
  have hMW : M ≤ W.heap.size := by omega
  clear hq hb1
  generalize hQ : w.heap.size = Q at *
  have HQS := hide hQ
  clear hQ
  go_upto_region 59 with fail
  refine wp_region_mixT (W.heap.size) [4, 6] (by kernel_rfl) ?_
  refine mixT_slots [0, 1, 2, 3, 5] (fuel := 10) rfl (by kernel_rfl) (by kernel_rfl) (fun d _ _ _ _ h => by cases d <;> exact h) ?_
  simp only [opersAt, List.getElem?_toArray, List.getElem?_cons_zero, List.getElem?_cons_succ]
  repeat (go_big_quiet_step (fail))
  refine wpQuiet_nil ?_
  refine mixT_reads [4, 6] (fuel := 8) rfl (by kernel_rfl) (by decide) (by kernel_rfl) (fun d _ _ _ _ h => by cases d <;> exact h) (ext_drew _ _) ?_
  simp only [opersAt, List.getElem?_toArray, List.getElem?_cons_zero, List.getElem?_cons_succ]
  repeat (go_big_quiet_step (fail))
  refine wpQuiet_nil ?_
  refine mixT_one (k := 7) (by kernel_rfl) rfl ?_
  go_wp2_with (go_at_call 203; refine (reopenQ_calls _ ok _ _ _ m.low.sm r.id (HM.out.inn.low.sm.below (Below.refl _ _).drew) hsm.sm hok).mono ?_; rintro e w1 ⟨y0, y1, y2, rfl, hpr, hbc⟩; obtain ⟨⟨a0, n0, c0, rfl⟩, ⟨a1, n1, c1, rfl⟩, ⟨a2, n2, c2, rfl⟩⟩ := hpr.forms)
  rw [← HR.out] at hpr ⊢
  have hbw : Below W.heap.size W w1 := (Below.refl _ _).drew.trans hbc
  refine ⟨Or.inr (by intros; exact ⟨⟨_, hbw⟩, rfl⟩), ?_⟩
  have HM1 := hide (HM.out.below hbw)
  have HPR := hide hpr
  have HBW := hide hbw
  have d5 := cells_all HM1.out.top 5
  have f5 := HM1.out.fz 5
  have d6 := cells_all HM1.out.top 6
  have f6 := HM1.out.fz 6
  have d7 := cells_all HM1.out.top 7
  have f7 := HM1.out.fz 7
  simp only [mvCs, List.getElem?_toArray, List.getElem?_cons_succ, List.getElem?_cons_zero] at d5 d6 d7
  have zM2 := blk_lt HM1.out.top
  clear hpr hbc hbw q0 q3 g0 g4 g5
  refine mixT_slots [8, 9, 10, 11, 12] (fuel := 2) rfl (by kernel_rfl) (by kernel_rfl) (fun d _ _ _ _ h => by cases d <;> exact h) ?_
  simp only [opersAt, List.getElem?_toArray, List.getElem?_cons_zero, List.getElem?_cons_succ]
  repeat (go_big_quiet_step (fail))
  refine wpQuiet_nil ?_
  refine mixT_one (k := 13) (by kernel_rfl) rfl ?_
  go_wp2
  refine ⟨Or.inl (by kernel_rfl), ?_⟩
  refine mixT_one (k := 14) (by kernel_rfl) rfl ?_
  go_wp2
  refine ⟨Or.inr (fun h => h), ?_⟩
  refine mixT_nil (by kernel_rfl) ?_
  go_wp2
  refine bodyPost_ret (v := .tuple #[.int .u32 0, .int .u8 R.2]) (by simp [results, Tryz.results146]) rfl ?_
  have hput := HM1.out.putSm HH.out.nok HPR.out
  exact ⟨rfl, ⟨_, hput.1⟩, ⟨((HB1.out.mono (by omega)).trans (HBW.out.mono hMW)).trans hput.2.bel, fun b hb hn => (hput.2.fr b (by have := HBW.out.size; have := HB1.out.size; have := HQS.out; omega) hn).trans ((HBW.out.block b (by have := HB1.out.size; have := HQS.out; omega)).trans (HB1.out.block b (by have := HQS.out; omega)))⟩⟩

end Go.Proofs.Qxb6500666aGreatDoor
