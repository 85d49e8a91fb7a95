/- A step of any bench that is a reading leaves all as it was. -/
import Derived.Test.Qxb6500666aGreatDoorAskB
import Derived.Test.Qxb6500666aGreatDoorStXB
namespace Go.Proofs.Qxb6500666aGreatDoor
open Go.RowKit
attribute [local go_sem] ext_const Ext.cell Ext.frozen Ext.rng Ext.whole
attribute [local go_sem ↓] exec_ldAns exec_stAns exec_ldFile exec_stFile exec_ldReq exec_stRsp
attribute [local go_sem] run_ldAns run_stAns run_ldFile run_ldReq ansCs_ones opA_size whole_alloc_lt whole_alloc_at whole_drew setRow_alloc_at setRow_alloc_lt rng_alloc_lt rng_alloc_at rng_drew rng_drewN rng_setCell_other whole_setCell_other

set_option maxRecDepth 100000 in
set_option maxHeartbeats 4000000 in
theorem step_b (w : World) (Bn Y S LB base : Nat) (sv lv' : Value) (A ok okg : Nat → Prop) (ps : List KV) (full : Bool) (off lar : Int) (x : LV) (L : Low) (o : Op) (lv dv : Value) (ca : Option Addr) (cn cc : Nat) (rn kn ft : Nat → ByteArray) (hbn : w.heap[Bn]? = some (.cells #[sv, lv', .pointer (some ⟨Y, 0, none⟩)] 88 (0, 0))) (h : SysSt w Y S LB A ok ps full x L) (hbl : base ≤ w.heap.size) (hgl : Gl w base rn kn ft okg) (hr : o.req.Ok) (hk : o.kind = 1) (hrd : isRdg o.req.kind = true) :
    Calls Tryz.prog 21 #[.pointer (some ⟨Bn, 0, none⟩), .agg (opA o lv dv ca cn cc)] w fun e w' => ∃ rsp, e = .returned (.agg (ansCs { ans0 with resp := rsp })) ∧ Below w.heap.size w w' ∧ RspP rn kn w w' ps full off lar L o.req rsp := by
  have HS := hide (fun W' (hb : Below w.heap.size w W') => h.below hb)
  have HGL := hide (fun W' (hb : Below w.heap.size w W') => hgl.same hb hbl)
  have HBN := hide hbn
  have HRQ := hide hr
  have HRD := hide hrd
  have hBl := blk_lt hbn
  clear h hgl hbn hr hrd
  go_enter Tryz.func21, Tryz.ntmps21
  go_upto_region 3 with fail
  have HS0 := hide (SB.start w (opA o lv dv ca cn cc)).1
  have HB0 := hide (SB.start w (opA o lv dv ca cn cc)).2
  change Code.wp _ _ _ _ (((w.alloc (.cells (opA o lv dv ca cn cc) 61)).alloc (.cells (ansCs ans0) 77)).alloc (.cells (ansCs ans0) 77))
  generalize (((w.alloc (.cells (opA o lv dv ca cn cc) 61)).alloc (.cells (ansCs ans0) 77)).alloc (.cells (ansCs ans0) 77)) = W0 at *
  obtain ⟨-, -, hq, -, -, hz⟩ := HS0.out.facts
  have hNl : w.heap.size < W0.heap.size := by omega
  have q0 := hq 0
  simp only [opA, List.getElem?_toArray, List.getElem?_cons_zero] at q0
  rw [hk] at q0
  clear hq
  have y2 : W0.cell? ⟨Bn, 2, none⟩ = some (.pointer (some ⟨Y, 0, none⟩)) := cells_all ((HB0.out.block _ hBl).trans HBN.out) 2
  have hBz : Bn < W0.heap.size := by omega
  have hrq : rng W0 w.heap.size 1 17 = some (reqA o.req lv) := by unfold rng; rw [HS0.out.op]; rfl
  have HEX := hide (execute_b W0.drew Y S LB base A ok okg ps full off lar x L o.req lv rn kn ft (HS.out _ HB0.out.drew) HRQ.out (Nat.le_trans hbl HB0.out.size) (HGL.out _ HB0.out.drew) HRD.out)
  go_upto_region 6 with fail
  refine wp_region_mixT (W0.heap.size) [3, 5] (by kernel_rfl) ?_
  refine mixT_slots [0, 1, 2, 4] (fuel := 5) rfl (by kernel_rfl) (by kernel_rfl) (fun d _ _ _ _ h => by cases d <;> exact h) ?_
  simp only [opersAt, List.getElem?_toArray, List.getElem?_cons_zero, List.getElem?_cons_succ]
  repeat (go_big_quiet_step (fail))
  refine wpQuiet_nil ?_
  refine mixT_reads [3, 5] (fuel := 3) rfl (by kernel_rfl) (by decide) (by kernel_rfl) (fun d _ _ _ _ h => by cases d <;> exact h) (ext_drew _ _) ?_
  simp only [opersAt, List.getElem?_toArray, List.getElem?_cons_zero, List.getElem?_cons_succ]
  repeat (go_big_quiet_step (fail))
  refine wpQuiet_nil ?_
  refine mixT_one (k := 6) (by kernel_rfl) rfl ?_
  go_wp2_with (go_at_call 78; refine HEX.out.mono ?_; rintro e W1 ⟨rsp, rfl, hb1, hrp⟩; have HRP := hide hrp; have HB1 : Hid (Below W0.heap.size W0 W1) := (((Below.refl _ _).drew).trans hb1); have HS1 := hide (HS0.out.next HB1.out); have hst := run_stRspA _ _ _ rsp HS1.out.an; clear hrp hb1)
  refine ⟨Or.inl (by kernel_rfl), ?_⟩
  refine mixT_slots [7] (fuel := 1) rfl (by kernel_rfl) (by kernel_rfl) (fun d _ _ _ _ h => by cases d <;> exact h) ?_
  simp only [opersAt, List.getElem?_toArray, List.getElem?_cons_zero, List.getElem?_cons_succ]
  repeat (go_big_quiet_step (fail))
  refine wpQuiet_nil ?_
  refine mixT_one (k := 8) (by kernel_rfl) rfl ?_
  go_wp2
  refine ⟨Or.inl (by kernel_rfl), ?_⟩
  refine mixT_nil (by kernel_rfl) ?_
  go_upto_region 28 with fail
  have hzW := HB0.out.size
  have hzV := HB1.out.size
  have HS2 := hide (HS1.out.row { ans0 with resp := rsp })
  have HB2 : Hid (Below w.heap.size w (W1.setRow (w.heap.size + 2) (ansCs { ans0 with resp := rsp }))) := (HB0.out.trans (HB1.out.mono hzW)).trans ⟨rfl, rfl, rfl, by simp, fun k hk => setRow_other _ _ _ _ (by omega)⟩
  have HNM := hide (HGL.out _ HB2.out).nm
  have HK2 : Hid (∀ b, W0.heap.size ≤ b → b < W1.heap.size → (W1.setRow (w.heap.size + 2) (ansCs { ans0 with resp := rsp })).heap[b]? = W1.heap[b]?) := fun b p0 p1 => setRow_other _ _ _ _ (by omega)
  have HZ2 : Hid (W1.heap.size ≤ (W1.setRow (w.heap.size + 2) (ansCs { ans0 with resp := rsp })).heap.size) := (by simp : W1.heap.size ≤ (World.setRow _ _ _).heap.size)
  clear hst HS1 y2 hrq
  generalize World.setRow _ _ _ = W2 at *
  go_upto_region 29 with (go_at_call 49; refine (benchCode_calls _ rn kn ft _ 0 HNM.out ErrV.nil).mono ?_; rintro e W5 ⟨rfl, hb⟩; have HS5 := hide (HS2.out.next hb); have HB5 := hide (HB2.out.trans (hb.mono HB2.out.size)); have c40 := HS5.out.facts.2.2.2.1 40; simp only [ansCs, List.getElem?_toArray, List.getElem?_cons_zero, List.getElem?_cons_succ] at c40; have HK5 : Hid (∀ b, W0.heap.size ≤ b → b < W1.heap.size → W5.heap[b]? = W1.heap[b]?) := (fun b p0 p1 => (hb.block b (by have := HZ2.out; omega)).trans (HK2.out b p0 p1)); have g40 := HS5.out.facts.2.2.2.2.1 40)
  have e6 := (HS5.out.cell (j := 40) (v := .int .u8 0) { { ans0 with resp := rsp } with code := 0 } rfl)
  have HS6 := hide e6.1
  have HB6 := hide (HB5.out.setCell (p := ⟨w.heap.size + 2, 40, none⟩) (by show w.heap.size ≤ w.heap.size + 2; omega) (.int .u8 0))
  have HK6 : Hid (∀ b, W0.heap.size ≤ b → b < W1.heap.size → (World.setCell W5 ⟨w.heap.size + 2, 40, none⟩ (.int .u8 0)).heap[b]? = W1.heap[b]?) := fun b p0 p1 => (Below.heap_setCell _ _ _ _ (by show b ≠ w.heap.size + 2; omega)).trans (HK5.out b p0 p1)
  clear e6
  generalize World.setCell _ _ _ = W6 at *
  clear c40 g40
  have h1 := HS6.out.facts.1
  have h2 := HS6.out.facts.2.1
  go_wp2
  have f1 := heap_setRow_at (ds := ansCs { { ans0 with resp := rsp } with code := 0 }) HS6.out.rs
  refine bodyPost_ret (results_cell1 Tryz.results21 _ _ (w.heap.size + 1) _ _ _ _ rfl f1 Tryz.underlying77 rfl (by kernel_rfl)) rfl ?_
  exact ⟨rsp, rfl, HB6.out.trans ⟨rfl, rfl, rfl, by simp, fun k hk => setRow_other _ _ _ _ (by omega)⟩, HRP.out.keep (show w.heap.size ≤ W0.heap.size by omega) (fun b p0 p1 => (setRow_other _ _ _ _ (by have : W0.heap.size ≤ b := p0; omega)).trans (HK6.out b p0 p1))⟩
end Go.Proofs.Qxb6500666aGreatDoor
