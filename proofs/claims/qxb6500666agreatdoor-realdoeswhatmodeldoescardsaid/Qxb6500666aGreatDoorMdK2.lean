/- The model's change: kinds 7, 8, 9, 10. (Made by tools/mk_mch.py.) -/
import Derived.Test.Qxb6500666aGreatDoorMdC
namespace Go.Proofs.Qxb6500666aGreatDoor
open Go.RowKit
attribute [local go_sem] ext_const Ext.cell Ext.frozen Ext.rng Ext.whole
attribute [local go_sem ↓] exec_ldPrS exec_ldKtS exec_ldSmS
attribute [local go_sem] run_ldPrS run_ldKtS run_ldSmS whole_alloc_lt whole_alloc_at whole_drew setRow_alloc_at setRow_alloc_lt setRow_drew rng_alloc_lt rng_alloc_at rng_drew rng_drewN

set_option maxRecDepth 100000 in
set_option maxHeartbeats 8000000 in
theorem mch7_calls (w : World) (M : Nat) (ok okv : Nat → Prop) (v : MV) (m : Mod) (r : Req) (lv : Value) (h : ChX w M ok okv v m r lv) (hk : r.kind = 7) :
    Calls Tryz.prog 146 #[.pointer (some ⟨M, 0, none⟩), .agg (reqA r lv)] w fun e w' => ChP w w' M ok e ⟨{ m with low := { m.low with kit := (buildP m.low.kit r.id).1 } }, 0, (buildP m.low.kit r.id).2⟩ := by
  obtain ⟨R, hR⟩ : ∃ R, R = buildP m.low.kit r.id := ⟨_, rfl⟩
  rw [← hR]
  have HR := hide hR
  have hsm := h.small
  have HH := hide h
  have zM := blk_lt h.at'.top
  clear hR h
  go_enter Tryz.func146, Tryz.ntmps146
  go_upto_region 1 with fail
  have hb1 : Below w.heap.size w (w.alloc (.cells (reqA r lv) 53)) := (Below.refl _ _).alloc (Nat.le_refl _) _
  have hq : (w.alloc (.cells (reqA r lv) 53)).heap[w.heap.size]? = some (.cells (reqA r lv) 53 (0, 0)) := heap_alloc_at _ _
  have hsz : (w.alloc (.cells (reqA r lv) 53)).heap.size = w.heap.size + 1 := World.size_alloc _ _
  have HB1 := hide hb1
  have HM := hide (HH.out.at'.below hb1)
  generalize w.alloc (.cells (reqA r lv) 53) = W at *
  have q0 := cells_all hq 0
  have q3 := cells_all hq 3
  simp only [reqA, List.getElem?_toArray, List.getElem?_cons_succ, List.getElem?_cons_zero] at q0 q3
  rw [hk] at q0
  have zq := blk_lt hq
  obtain ⟨g0, g4, g5, zM1⟩ := HM.out.lb
  simp only [Nat.zero_add] at g0 g4 g5
  have hok : ∀ b, W.heap.size ≤ b → ok b := fun b hb => HH.out.new b (by omega)
  have HVIS := hide (fun V (hb : Below W.heap.size W V) => RArr.below HH.out.vis (HB1.out.trans (hb.mono (by omega))))
  have hMW : M ≤ W.heap.size := by omega
  clear hq hb1
  generalize hQ : w.heap.size = Q at *
  have HQS := hide hQ
  clear hQ
  go_upto_region 35 with fail
  refine wp_region_mixT (W.heap.size) [4, 6] (by kernel_rfl) ?_
  refine mixT_slots [0, 1, 2, 3, 5] (fuel := 10) rfl (by kernel_rfl) (by kernel_rfl) (fun d _ _ _ _ h => by cases d <;> exact h) ?_
  simp only [opersAt, List.getElem?_toArray, List.getElem?_cons_zero, List.getElem?_cons_succ]
  repeat (go_big_quiet_step (fail))
  refine wpQuiet_nil ?_
  refine mixT_reads [4, 6] (fuel := 8) rfl (by kernel_rfl) (by decide) (by kernel_rfl) (fun d _ _ _ _ h => by cases d <;> exact h) (ext_drew _ _) ?_
  simp only [opersAt, List.getElem?_toArray, List.getElem?_cons_zero, List.getElem?_cons_succ]
  repeat (go_big_quiet_step (fail))
  refine wpQuiet_nil ?_
  refine mixT_one (k := 7) (by kernel_rfl) rfl ?_
  go_wp2_with (go_at_call 191; refine (build_calls _ ok _ m.low.kit r.id (HM.out.inn.low.kit.below (Below.refl _ _).drew) hsm.kit hok).mono ?_; rintro e w1 ⟨y0, rfl, hpr, hbc⟩; obtain ⟨a0, n0, c0, rfl, -⟩ := Src.of hpr)
  rw [← HR.out] at hpr ⊢
  have hbw : Below W.heap.size W w1 := (Below.refl _ _).drew.trans hbc
  refine ⟨Or.inr (by intros; exact ⟨⟨_, hbw⟩, rfl⟩), ?_⟩
  have HM1 := hide (HM.out.below hbw)
  have HPR := hide hpr
  have HBW := hide hbw
  have d4 := cells_all HM1.out.top 4
  have f4 := HM1.out.fz 4
  simp only [mvCs, List.getElem?_toArray, List.getElem?_cons_succ, List.getElem?_cons_zero] at d4
  have zM2 := blk_lt HM1.out.top
  clear hpr hbc hbw q0 q3 g0 g4 g5
  refine mixT_slots [8, 9, 10, 11, 12] (fuel := 2) rfl (by kernel_rfl) (by kernel_rfl) (fun d _ _ _ _ h => by cases d <;> exact h) ?_
  simp only [opersAt, List.getElem?_toArray, List.getElem?_cons_zero, List.getElem?_cons_succ]
  repeat (go_big_quiet_step (fail))
  refine wpQuiet_nil ?_
  refine mixT_one (k := 13) (by kernel_rfl) rfl ?_
  go_wp2
  refine ⟨Or.inl (by kernel_rfl), ?_⟩
  refine mixT_one (k := 14) (by kernel_rfl) rfl ?_
  go_wp2
  refine ⟨Or.inr (fun h => h), ?_⟩
  refine mixT_nil (by kernel_rfl) ?_
  go_wp2
  refine bodyPost_ret (v := .tuple #[.int .u32 0, .int .u8 R.2]) (by simp [results, Tryz.results146]) rfl ?_
  have hput := HM1.out.putKt HH.out.nok HPR.out
  exact ⟨rfl, ⟨_, hput.1⟩, ⟨((HB1.out.mono (by omega)).trans (HBW.out.mono hMW)).trans hput.2.bel, fun b hb hn => (hput.2.fr b (by have := HBW.out.size; have := HB1.out.size; have := HQS.out; omega) hn).trans ((HBW.out.block b (by have := HB1.out.size; have := HQS.out; omega)).trans (HB1.out.block b (by have := HQS.out; omega)))⟩⟩

set_option maxRecDepth 100000 in
set_option maxHeartbeats 8000000 in
theorem mch8_calls (w : World) (M : Nat) (ok okv : Nat → Prop) (v : MV) (m : Mod) (r : Req) (lv : Value) (h : ChX w M ok okv v m r lv) (hk : r.kind = 8) (hst : m.low.pr.site.any (fun x : Int => (x == r.ref)) = true) :
    Calls Tryz.prog 146 #[.pointer (some ⟨M, 0, none⟩), .agg (reqA r lv)] w fun e w' => ChP w w' M ok e ⟨{ m with low := { m.low with kit := (shipP m.low.kit r.id r.ref).1 } }, 0, (shipP m.low.kit r.id r.ref).2⟩ := by
  obtain ⟨R, hR⟩ : ∃ R, R = shipP m.low.kit r.id r.ref := ⟨_, rfl⟩
  rw [← hR]
  have HR := hide hR
  have hsm := h.small
  have HH := hide h
  have zM := blk_lt h.at'.top
  clear hR h
  go_enter Tryz.func146, Tryz.ntmps146
  go_upto_region 1 with fail
  have hb1 : Below w.heap.size w (w.alloc (.cells (reqA r lv) 53)) := (Below.refl _ _).alloc (Nat.le_refl _) _
  have hq : (w.alloc (.cells (reqA r lv) 53)).heap[w.heap.size]? = some (.cells (reqA r lv) 53 (0, 0)) := heap_alloc_at _ _
  have hsz : (w.alloc (.cells (reqA r lv) 53)).heap.size = w.heap.size + 1 := World.size_alloc _ _
  have HB1 := hide hb1
  have HM := hide (HH.out.at'.below hb1)
  generalize w.alloc (.cells (reqA r lv) 53) = W at *
  have q0 := cells_all hq 0
  have q3 := cells_all hq 3
  have q4 := cells_all hq 4
  simp only [reqA, List.getElem?_toArray, List.getElem?_cons_succ, List.getElem?_cons_zero] at q0 q3 q4
  rw [hk] at q0
  have zq := blk_lt hq
  obtain ⟨g0, g4, g5, zM1⟩ := HM.out.lb
  simp only [Nat.zero_add] at g0 g4 g5
  have hok : ∀ b, W.heap.size ≤ b → ok b := fun b hb => HH.out.new b (by omega)
  have HVIS := hide (fun V (hb : Below W.heap.size W V) => RArr.below HH.out.vis (HB1.out.trans (hb.mono (by omega))))
  have hMW : M ≤ W.heap.size := by omega
  have HKQ := hide hq
  clear hq hb1
  generalize hQ : w.heap.size = Q at *
  have HQS := hide hQ
  clear hQ
  have HQ : Hid (∀ V, Below W.heap.size W V → MAt V M ok v m) := fun V hb => HM.out.below hb
  go_upto_region 37 with fail
  refine wp_region_mixT (W.heap.size) [3, 5] (by kernel_rfl) ?_
  refine mixT_slots [0, 1, 2, 4] (fuel := 4) rfl (by kernel_rfl) (by kernel_rfl) (fun d _ _ _ _ h => by cases d <;> exact h) ?_
  simp only [opersAt, List.getElem?_toArray, List.getElem?_cons_zero, List.getElem?_cons_succ]
  repeat (go_big_quiet_step (fail))
  refine wpQuiet_nil ?_
  refine mixT_reads [3, 5] (fuel := 2) rfl (by kernel_rfl) (by decide) (by kernel_rfl) (fun d _ _ _ _ h => by cases d <;> exact h) (ext_drew _ _) ?_
  simp only [opersAt, List.getElem?_toArray, List.getElem?_cons_zero, List.getElem?_cons_succ]
  repeat (go_big_quiet_step (fail))
  refine wpQuiet_nil ?_
  refine mixT_one (k := 6) (by kernel_rfl) rfl ?_
  go_wp2_with (go_at_call 192; refine (hasSite_calls _ ok _ _ _ _ m.low.pr.site r.ref (HM.out.inn.low.pr.below (Below.refl _ _).drew).s).mono ?_; rintro e w0 ⟨rfl, hb0⟩; rw [findV_any, hst])
  have hbw : Below W.heap.size W w0 := (Below.refl _ _).drew.trans hb0
  refine ⟨Or.inr (by intros; exact ⟨⟨_, hbw⟩, rfl⟩), ?_⟩
  refine mixT_one (k := 7) (by kernel_rfl) rfl ?_
  go_wp2
  refine ⟨Or.inr (fun h => h), ?_⟩
  refine mixT_nil (by kernel_rfl) ?_
  have HB9 := hide hbw
  have HM9 := hide (HM.out.below hbw)
  have hz9 := hbw.size
  have q3' : w0.cell? ⟨Q, 3, none⟩ = some (.int .u32 r.id) := cells_all ((hbw.block _ zq).trans HKQ.out) 3
  have q4' : w0.cell? ⟨Q, 4, none⟩ = some (.int .u32 r.ref) := cells_all ((hbw.block _ zq).trans HKQ.out) 4
  clear q3 q4 g0 g4 g5 q0
  have HVIS9 := hide (fun V (hb : Below w0.heap.size w0 V) => HVIS.out V (hbw.trans (hb.mono hz9)))
  have hok9 : ∀ b, w0.heap.size ≤ b → ok b := fun b hb => hok b (by omega)
  have hMW9 : M ≤ w0.heap.size := by omega
  have HB19 : Hid (Below Q w w0) := HB1.out.trans (hbw.mono (by omega))
  have zq9 : Q < w0.heap.size := by omega
  have zM9 : M < w0.heap.size := by omega
  clear HVIS hok hMW HB1 zq zM1 hbw hb0 HM HQ HB9 hsz
  obtain ⟨g0, g4, g5, zM1⟩ := HM9.out.lb
  simp only [Nat.zero_add] at g0 g4 g5
  have HM := HM9
  have HB1 := HB19
  have hok := hok9
  have q3 := q3'
  have q4 := q4'
  have hMW := hMW9
  clear HM9 HB19 hok9 q3' q4' hMW9 zM9
  generalize w0 = W at *
  go_upto_region 39 with fail
  refine wp_region_mixT (W.heap.size) [4, 6, 8] (by kernel_rfl) ?_
  refine mixT_slots [0, 1, 2, 3, 5, 7] (fuel := 11) rfl (by kernel_rfl) (by kernel_rfl) (fun d _ _ _ _ h => by cases d <;> exact h) ?_
  simp only [opersAt, List.getElem?_toArray, List.getElem?_cons_zero, List.getElem?_cons_succ]
  repeat (go_big_quiet_step (fail))
  refine wpQuiet_nil ?_
  refine mixT_reads [4, 6, 8] (fuel := 8) rfl (by kernel_rfl) (by decide) (by kernel_rfl) (fun d _ _ _ _ h => by cases d <;> exact h) (ext_drew _ _) ?_
  simp only [opersAt, List.getElem?_toArray, List.getElem?_cons_zero, List.getElem?_cons_succ]
  repeat (go_big_quiet_step (fail))
  refine wpQuiet_nil ?_
  refine mixT_one (k := 9) (by kernel_rfl) rfl ?_
  go_wp2_with (go_at_call 193; refine (ship_calls _ ok _ m.low.kit r.id r.ref (HM.out.inn.low.kit.below (Below.refl _ _).drew) hsm.kit hok).mono ?_; rintro e w1 ⟨y0, rfl, hpr, hbc⟩; obtain ⟨a0, n0, c0, rfl, -⟩ := Src.of hpr)
  rw [← HR.out] at hpr ⊢
  have hbw : Below W.heap.size W w1 := (Below.refl _ _).drew.trans hbc
  refine ⟨Or.inr (by intros; exact ⟨⟨_, hbw⟩, rfl⟩), ?_⟩
  have HM1 := hide (HM.out.below hbw)
  have HPR := hide hpr
  have HBW := hide hbw
  have d4 := cells_all HM1.out.top 4
  have f4 := HM1.out.fz 4
  simp only [mvCs, List.getElem?_toArray, List.getElem?_cons_succ, List.getElem?_cons_zero] at d4
  have zM2 := blk_lt HM1.out.top
  clear hpr hbc hbw q3 q4 g0 g4 g5
  refine mixT_slots [10, 11, 12, 13, 14] (fuel := 2) rfl (by kernel_rfl) (by kernel_rfl) (fun d _ _ _ _ h => by cases d <;> exact h) ?_
  simp only [opersAt, List.getElem?_toArray, List.getElem?_cons_zero, List.getElem?_cons_succ]
  repeat (go_big_quiet_step (fail))
  refine wpQuiet_nil ?_
  refine mixT_one (k := 15) (by kernel_rfl) rfl ?_
  go_wp2
  refine ⟨Or.inl (by kernel_rfl), ?_⟩
  refine mixT_one (k := 16) (by kernel_rfl) rfl ?_
  go_wp2
  refine ⟨Or.inr (fun h => h), ?_⟩
  refine mixT_nil (by kernel_rfl) ?_
  go_wp2
  refine bodyPost_ret (v := .tuple #[.int .u32 0, .int .u8 R.2]) (by simp [results, Tryz.results146]) rfl ?_
  have hput := HM1.out.putKt HH.out.nok HPR.out
  exact ⟨rfl, ⟨_, hput.1⟩, ⟨((HB1.out.mono (by omega)).trans (HBW.out.mono hMW)).trans hput.2.bel, fun b hb hn => (hput.2.fr b (by have := HBW.out.size; have := HB1.out.size; have := HQS.out; omega) hn).trans ((HBW.out.block b (by have := HB1.out.size; have := HQS.out; omega)).trans (HB1.out.block b (by have := HQS.out; omega)))⟩⟩

set_option maxRecDepth 100000 in
set_option maxHeartbeats 8000000 in
theorem mch9_calls (w : World) (M : Nat) (ok okv : Nat → Prop) (v : MV) (m : Mod) (r : Req) (lv : Value) (h : ChX w M ok okv v m r lv) (hk : r.kind = 9) :
    Calls Tryz.prog 146 #[.pointer (some ⟨M, 0, none⟩), .agg (reqA r lv)] w fun e w' => ChP w w' M ok e ⟨{ m with low := { m.low with sm := (accession m.low.sm ⟨r.id, r.kit, r.subject, r.visit, r.cls, r.time, r.till, false⟩).1 } }, 0, (accession m.low.sm ⟨r.id, r.kit, r.subject, r.visit, r.cls, r.time, r.till, false⟩).2⟩ := by
  obtain ⟨R, hR⟩ : ∃ R, R = accession m.low.sm ⟨r.id, r.kit, r.subject, r.visit, r.cls, r.time, r.till, false⟩ := ⟨_, rfl⟩
  rw [← hR]
  have HR := hide hR
  have hsm := h.small
  have HH := hide h
  have zM := blk_lt h.at'.top
  clear hR h
  go_enter Tryz.func146, Tryz.ntmps146
  go_upto_region 1 with fail
  have hb1 : Below w.heap.size w (w.alloc (.cells (reqA r lv) 53)) := (Below.refl _ _).alloc (Nat.le_refl _) _
  have hq : (w.alloc (.cells (reqA r lv) 53)).heap[w.heap.size]? = some (.cells (reqA r lv) 53 (0, 0)) := heap_alloc_at _ _
  have hsz : (w.alloc (.cells (reqA r lv) 53)).heap.size = w.heap.size + 1 := World.size_alloc _ _
  have HB1 := hide hb1
  have HM := hide (HH.out.at'.below hb1)
  generalize w.alloc (.cells (reqA r lv) 53) = W at *
  have q0 := cells_all hq 0
  have q3 := cells_all hq 3
  have q5 := cells_all hq 5
  have q6 := cells_all hq 6
  have q7 := cells_all hq 7
  have q9 := cells_all hq 9
  have q10 := cells_all hq 10
  have q11 := cells_all hq 11
  simp only [reqA, List.getElem?_toArray, List.getElem?_cons_succ, List.getElem?_cons_zero] at q0 q3 q5 q6 q7 q9 q10 q11
  rw [hk] at q0
  have zq := blk_lt hq
  obtain ⟨g0, g4, g5, zM1⟩ := HM.out.lb
  simp only [Nat.zero_add] at g0 g4 g5
  have hok : ∀ b, W.heap.size ≤ b → ok b := fun b hb => HH.out.new b (by omega)
  have HVIS := hide (fun V (hb : Below W.heap.size W V) => RArr.below HH.out.vis (HB1.out.trans (hb.mono (by omega))))
  have hMW : M ≤ W.heap.size := by omega
  clear hq hb1
  generalize hQ : w.heap.size = Q at *
  have HQS := hide hQ
  clear hQ
  go_upto_region 41 with fail
  refine wp_region_mixT (W.heap.size) [4, 6, 8, 10, 12, 14, 16, 18] (by kernel_rfl) ?_
  refine mixT_slots [0, 1, 2, 3, 5, 7, 9, 11, 13, 15, 17] (fuel := 17) rfl (by kernel_rfl) (by kernel_rfl) (fun d _ _ _ _ h => by cases d <;> exact h) ?_
  simp only [opersAt, List.getElem?_toArray, List.getElem?_cons_zero, List.getElem?_cons_succ]
  repeat (go_big_quiet_step (fail))
  refine wpQuiet_nil ?_
  refine mixT_reads [4, 6, 8, 10, 12, 14, 16, 18] (fuel := 9) rfl (by kernel_rfl) (by decide) (by kernel_rfl) (fun d _ _ _ _ h => by cases d <;> exact h) (ext_drew _ _) ?_
  simp only [opersAt, List.getElem?_toArray, List.getElem?_cons_zero, List.getElem?_cons_succ]
  repeat (go_big_quiet_step (fail))
  refine wpQuiet_nil ?_
  refine mixT_slots [19] (fuel := 8) rfl (by kernel_rfl) (by kernel_rfl) (fun d _ _ _ _ h => by cases d <;> exact h) ?_
  simp only [opersAt, List.getElem?_toArray, List.getElem?_cons_zero, List.getElem?_cons_succ]
  repeat (go_big_quiet_step (fail))
  refine wpQuiet_nil ?_
  refine mixT_one (k := 20) (by kernel_rfl) rfl ?_
  go_wp2_with (go_at_call 194; refine (accession_calls _ ok _ _ _ m.low.sm r.id r.kit r.subject r.visit r.cls r.time r.till false (HM.out.inn.low.sm.below (Below.refl _ _).drew) hsm.sm hok).mono ?_; rintro e w1 ⟨y0, y1, y2, rfl, hpr, hbc⟩; obtain ⟨⟨a0, n0, c0, rfl⟩, ⟨a1, n1, c1, rfl⟩, ⟨a2, n2, c2, rfl⟩⟩ := hpr.forms)
  rw [← HR.out] at hpr ⊢
  have hbw : Below W.heap.size W w1 := (Below.refl _ _).drew.trans hbc
  refine ⟨Or.inr (by intros; exact ⟨⟨_, hbw⟩, rfl⟩), ?_⟩
  have HM1 := hide (HM.out.below hbw)
  have HPR := hide hpr
  have HBW := hide hbw
  have d5 := cells_all HM1.out.top 5
  have f5 := HM1.out.fz 5
  have d6 := cells_all HM1.out.top 6
  have f6 := HM1.out.fz 6
  have d7 := cells_all HM1.out.top 7
  have f7 := HM1.out.fz 7
  simp only [mvCs, List.getElem?_toArray, List.getElem?_cons_succ, List.getElem?_cons_zero] at d5 d6 d7
  have zM2 := blk_lt HM1.out.top
  clear hpr hbc hbw q0 q3 q5 q6 q7 q9 q10 q11 g0 g4 g5
  refine mixT_slots [21, 22, 23, 24, 25] (fuel := 2) rfl (by kernel_rfl) (by kernel_rfl) (fun d _ _ _ _ h => by cases d <;> exact h) ?_
  simp only [opersAt, List.getElem?_toArray, List.getElem?_cons_zero, List.getElem?_cons_succ]
  repeat (go_big_quiet_step (fail))
  refine wpQuiet_nil ?_
  refine mixT_one (k := 26) (by kernel_rfl) rfl ?_
  go_wp2
  refine ⟨Or.inl (by kernel_rfl), ?_⟩
  refine mixT_one (k := 27) (by kernel_rfl) rfl ?_
  go_wp2
  refine ⟨Or.inr (fun h => h), ?_⟩
  refine mixT_nil (by kernel_rfl) ?_
  go_wp2
  refine bodyPost_ret (v := .tuple #[.int .u32 0, .int .u8 R.2]) (by simp [results, Tryz.results146]) rfl ?_
  have hput := HM1.out.putSm HH.out.nok HPR.out
  exact ⟨rfl, ⟨_, hput.1⟩, ⟨((HB1.out.mono (by omega)).trans (HBW.out.mono hMW)).trans hput.2.bel, fun b hb hn => (hput.2.fr b (by have := HBW.out.size; have := HB1.out.size; have := HQS.out; omega) hn).trans ((HBW.out.block b (by have := HB1.out.size; have := HQS.out; omega)).trans (HB1.out.block b (by have := HQS.out; omega)))⟩⟩

set_option maxRecDepth 100000 in
set_option maxHeartbeats 8000000 in
theorem mch10_calls (w : World) (M : Nat) (ok okv : Nat → Prop) (v : MV) (m : Mod) (r : Req) (lv : Value) (h : ChX w M ok okv v m r lv) (hk : r.kind = 10) :
    Calls Tryz.prog 146 #[.pointer (some ⟨M, 0, none⟩), .agg (reqA r lv)] w fun e w' => ChP w w' M ok e ⟨{ m with low := { m.low with sm := (excursion m.low.sm r.id).1 } }, 0, (excursion m.low.sm r.id).2⟩ := by
  obtain ⟨R, hR⟩ : ∃ R, R = excursion m.low.sm r.id := ⟨_, rfl⟩
  rw [← hR]
  have HR := hide hR
  have hsm := h.small
  have HH := hide h
  have zM := blk_lt h.at'.top
  clear hR h
  go_enter Tryz.func146, Tryz.ntmps146
  go_upto_region 1 with fail
  have hb1 : Below w.heap.size w (w.alloc (.cells (reqA r lv) 53)) := (Below.refl _ _).alloc (Nat.le_refl _) _
  have hq : (w.alloc (.cells (reqA r lv) 53)).heap[w.heap.size]? = some (.cells (reqA r lv) 53 (0, 0)) := heap_alloc_at _ _
  have hsz : (w.alloc (.cells (reqA r lv) 53)).heap.size = w.heap.size + 1 := World.size_alloc _ _
  have HB1 := hide hb1
  have HM := hide (HH.out.at'.below hb1)
  generalize w.alloc (.cells (reqA r lv) 53) = W at *
  have q0 := cells_all hq 0
  have q3 := cells_all hq 3
  simp only [reqA, List.getElem?_toArray, List.getElem?_cons_succ, List.getElem?_cons_zero] at q0 q3
  rw [hk] at q0
  have zq := blk_lt hq
  obtain ⟨g0, g4, g5, zM1⟩ := HM.out.lb
  simp only [Nat.zero_add] at g0 g4 g5
  have hok : ∀ b, W.heap.size ≤ b → ok b := fun b hb => HH.out.new b (by omega)
  have HVIS := hide (fun V (hb : Below W.heap.size W V) => RArr.below HH.out.vis (HB1.out.trans (hb.mono (by omega))))
  have hMW : M ≤ W.heap.size := by omega
  clear hq hb1
  generalize hQ : w.heap.size = Q at *
  have HQS := hide hQ
  clear hQ
  go_upto_region 43 with fail
  refine wp_region_mixT (W.heap.size) [4, 6] (by kernel_rfl) ?_
  refine mixT_slots [0, 1, 2, 3, 5] (fuel := 10) rfl (by kernel_rfl) (by kernel_rfl) (fun d _ _ _ _ h => by cases d <;> exact h) ?_
  simp only [opersAt, List.getElem?_toArray, List.getElem?_cons_zero, List.getElem?_cons_succ]
  repeat (go_big_quiet_step (fail))
  refine wpQuiet_nil ?_
  refine mixT_reads [4, 6] (fuel := 8) rfl (by kernel_rfl) (by decide) (by kernel_rfl) (fun d _ _ _ _ h => by cases d <;> exact h) (ext_drew _ _) ?_
  simp only [opersAt, List.getElem?_toArray, List.getElem?_cons_zero, List.getElem?_cons_succ]
  repeat (go_big_quiet_step (fail))
  refine wpQuiet_nil ?_
  refine mixT_one (k := 7) (by kernel_rfl) rfl ?_
  go_wp2_with (go_at_call 195; refine (excursion_calls _ ok _ _ _ m.low.sm r.id (HM.out.inn.low.sm.below (Below.refl _ _).drew) hsm.sm hok).mono ?_; rintro e w1 ⟨y0, y1, y2, rfl, hpr, hbc⟩; obtain ⟨⟨a0, n0, c0, rfl⟩, ⟨a1, n1, c1, rfl⟩, ⟨a2, n2, c2, rfl⟩⟩ := hpr.forms)
  rw [← HR.out] at hpr ⊢
  have hbw : Below W.heap.size W w1 := (Below.refl _ _).drew.trans hbc
  refine ⟨Or.inr (by intros; exact ⟨⟨_, hbw⟩, rfl⟩), ?_⟩
  have HM1 := hide (HM.out.below hbw)
  have HPR := hide hpr
  have HBW := hide hbw
  have d5 := cells_all HM1.out.top 5
  have f5 := HM1.out.fz 5
  have d6 := cells_all HM1.out.top 6
  have f6 := HM1.out.fz 6
  have d7 := cells_all HM1.out.top 7
  have f7 := HM1.out.fz 7
  simp only [mvCs, List.getElem?_toArray, List.getElem?_cons_succ, List.getElem?_cons_zero] at d5 d6 d7
  have zM2 := blk_lt HM1.out.top
  clear hpr hbc hbw q0 q3 g0 g4 g5
  refine mixT_slots [8, 9, 10, 11, 12] (fuel := 2) rfl (by kernel_rfl) (by kernel_rfl) (fun d _ _ _ _ h => by cases d <;> exact h) ?_
  simp only [opersAt, List.getElem?_toArray, List.getElem?_cons_zero, List.getElem?_cons_succ]
  repeat (go_big_quiet_step (fail))
  refine wpQuiet_nil ?_
  refine mixT_one (k := 13) (by kernel_rfl) rfl ?_
  go_wp2
  refine ⟨Or.inl (by kernel_rfl), ?_⟩
  refine mixT_one (k := 14) (by kernel_rfl) rfl ?_
  go_wp2
  refine ⟨Or.inr (fun h => h), ?_⟩
  refine mixT_nil (by kernel_rfl) ?_
  go_wp2
  refine bodyPost_ret (v := .tuple #[.int .u32 0, .int .u8 R.2]) (by simp [results, Tryz.results146]) rfl ?_
  have hput := HM1.out.putSm HH.out.nok HPR.out
  exact ⟨rfl, ⟨_, hput.1⟩, ⟨((HB1.out.mono (by omega)).trans (HBW.out.mono hMW)).trans hput.2.bel, fun b hb hn => (hput.2.fr b (by have := HBW.out.size; have := HB1.out.size; have := HQS.out; omega) hn).trans ((HBW.out.block b (by have := HB1.out.size; have := HQS.out; omega)).trans (HB1.out.block b (by have := HQS.out; omega)))⟩⟩

end Go.Proofs.Qxb6500666aGreatDoor
