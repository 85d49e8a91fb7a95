/- A step of the bench: requests, the full store, reopen. (Made by tools/mk_sty.py.) -/
import Derived.Test.Qxb6500666aGreatDoorStY
namespace Go.Proofs.Qxb6500666aGreatDoor
open Go.RowKit
attribute [local go_sem] ext_const Ext.cell Ext.frozen Ext.rng Ext.whole
attribute [local go_sem ↓] exec_ldAns exec_stAns exec_ldFile exec_stFile exec_ldReq exec_stRsp
attribute [local go_sem] run_ldAns run_stAns run_ldFile run_ldReq ansCs_ones opA_size whole_alloc_lt whole_alloc_at whole_drew setRow_alloc_at setRow_alloc_lt rng_alloc_lt rng_alloc_at rng_drew rng_drewN rng_setCell_other whole_setCell_other


set_option maxRecDepth 100000 in
set_option maxHeartbeats 4000000 in
theorem step3y (w : World) (Bn Y S LB base : Nat) (pv : Value) (A ok oko okg : Nat → Prop) (zs : List ZP) (full : Bool) (off lar : Int) (x : LV) (L : Low) (o : Op) (lv dv : Value) (ca : Option Addr) (cn cc : Nat) (rn kn ft : Nat → ByteArray) (h : BN w Bn Y S LB base pv A ok zs full off lar x L) (hp : PO (zs.map (·.2)) L) (ho : OpIn w oko o lv dv ca cn cc) (hgl : Gl w base rn kn ft okg) (htx : TxOk rn kn (zs.map (·.2)) o) (hg : NmG rn kn) (hk : o.kind = 3) :
    Calls Tryz.prog 21 #[.pointer (some ⟨Bn, 0, none⟩), .agg (opA o lv dv ca cn cc)] w fun e w' => StY w w' Bn Y S LB base pv A ok e (stepR ⟨zs.map (·.2), full, off, lar, L⟩ o) (AnsQ rn kn w w' ⟨zs.map (·.2), full, off, lar, L⟩ o) := by
  obtain ⟨s', hs'⟩ : ∃ s', s' = stepR ⟨zs.map (·.2), full, off, lar, L⟩ o := ⟨_, rfl⟩
  rw [← hs']
  have HSE : Hid (s' = ⟨zs.map (·.2), full, off, lar, L⟩) := hs'.trans (by unfold stepR; rw [if_neg (by omega), if_neg (by omega)])
  clear hs'
  have H := hide h
  have HP := hide hp
  have HO := hide (fun W (hb : Below w.heap.size w W) => ho.below hb)
  have hbl : base ≤ w.heap.size := by have := h.bs.bs; have := blk_lt h.bs.lb; omega
  have HGL := hide (fun W (hb : Below w.heap.size w W) => hgl.same hb hbl)
  have HSY := hide (fun W (hb : Below w.heap.size w W) => (h.bs.toSys hp).below hb)
  have hBl := blk_lt h.bn
  have HGB := hide (fun W (hb : Below base w W) => (hgl.same hb (Nat.le_refl _)).nm)


  have HTX := hide htx
  have HNG := hide hg
  clear h hp ho hgl htx hg
  go_enter Tryz.func21, Tryz.ntmps21
  go_upto_region 3 with fail
  have HS0 := hide (SB.start w (opA o lv dv ca cn cc)).1
  have HB0 := hide (SB.start w (opA o lv dv ca cn cc)).2
  change Code.wp _ _ _ _ (((w.alloc (.cells (opA o lv dv ca cn cc) 61)).alloc (.cells (ansCs ans0) 77)).alloc (.cells (ansCs ans0) 77))
  generalize (((w.alloc (.cells (opA o lv dv ca cn cc) 61)).alloc (.cells (ansCs ans0) 77)).alloc (.cells (ansCs ans0) 77)) = W0 at *
  obtain ⟨-, -, hq, -, -, hz⟩ := HS0.out.facts
  have hNl : w.heap.size < W0.heap.size := by omega
  have q0 := hq 0
  simp only [opA, List.getElem?_toArray, List.getElem?_cons_zero] at q0
  rw [hk] at q0
  clear hq
  have y0 : W0.cell? ⟨Bn, 0, none⟩ = some (.pointer (some ⟨S, 0, none⟩)) := (HB0.out.cell (p := ⟨Bn, 0, none⟩) hBl).trans (cells_all H.out.bn 0)
  have y1 : W0.cell? ⟨Bn, 1, none⟩ = some (.pointer (some ⟨LB, 0, none⟩)) := (HB0.out.cell (p := ⟨Bn, 1, none⟩) hBl).trans (cells_all H.out.bn 1)
  have hBz : Bn < W0.heap.size := by have := HB0.out.size; omega
  have HN0 := hide (H.out.below HB0.out)
  have y2 : W0.cell? ⟨Bn, 2, none⟩ = some (.pointer (some ⟨Y, 0, none⟩)) := cells_all HN0.out.bn 2
  have fz : ∀ j, W0.frozen? ⟨Bn, j, none⟩ = false := fun j => by simp [World.frozen?, HN0.out.bn]
  go_upto_region 10 with fail
  refine wp_region_mixT (W0.heap.size) [4, 8] (by kernel_rfl) ?_
  refine mixT_slots [0, 1, 2, 3, 5, 6, 7] (fuel := 6) rfl (by kernel_rfl) (by kernel_rfl) (fun d _ _ _ _ h => by cases d <;> exact h) ?_
  simp only [opersAt, List.getElem?_toArray, List.getElem?_cons_zero, List.getElem?_cons_succ]
  repeat (go_big_quiet_step (fail))
  refine wpQuiet_nil ?_
  refine mixT_reads [4, 8] (fuel := 4) rfl (by kernel_rfl) (by decide) (by kernel_rfl) (fun d _ _ _ _ h => by cases d <;> exact h) (ext_drew _ _) ?_
  simp only [opersAt, List.getElem?_toArray, List.getElem?_cons_zero, List.getElem?_cons_succ]
  repeat (go_big_quiet_step (fail))
  refine wpQuiet_nil ?_
  refine mixT_one (k := 9) (by kernel_rfl) rfl ?_
  go_wp2_with (go_at_call 75; refine (sysOpen_calls _ S LB).mono ?_; rintro e W1 ⟨rfl, hw1⟩; have HN1 : Hid (BN (W1.setCell ⟨Bn, 2, none⟩ (.pointer (some ⟨W0.heap.size, 0, none⟩))) Bn W0.heap.size S LB base pv A ok zs full off lar x L) := (by rw [hw1]; exact (HN0.out.below (Below.refl _ _).drew).reopen); have hb1 : Below W0.heap.size W0 W1 := (by rw [hw1]; exact ((Below.refl _ W0).drew).alloc (Nat.le_refl _) _); have HS1 := hide (HS0.out.next hb1); have HBB := hide (hb1); have b2 : W1.cell? ⟨Bn, 2, none⟩ = some (.pointer (some ⟨Y, 0, none⟩)) := ((hb1.cell (p := ⟨Bn, 2, none⟩) hBz).trans y2); have b3 : W1.frozen? ⟨Bn, 2, none⟩ = false := (by simp [World.frozen?, (hb1.block Bn hBz).trans HN0.out.bn]); clear hw1 hb1)
  refine ⟨Or.inl (by kernel_rfl), ?_⟩
  refine mixT_slots [10, 11] (fuel := 1) rfl (by kernel_rfl) (by kernel_rfl) (fun d _ _ _ _ h => by cases d <;> exact h) ?_
  simp only [opersAt, List.getElem?_toArray, List.getElem?_cons_zero, List.getElem?_cons_succ]
  repeat (go_big_quiet_step (fail))
  refine wpQuiet_nil ?_
  refine mixT_one (k := 12) (by kernel_rfl) rfl ?_
  go_wp2
  refine ⟨Or.inl (by kernel_rfl), ?_⟩
  refine mixT_nil (by kernel_rfl) ?_
  go_upto_region 28 with fail
  have hzW := HB0.out.size
  have hBw := hBl
  have HS2 : Hid (SB w (W1.setCell ⟨Bn, 2, none⟩ (.pointer (some ⟨W0.heap.size, 0, none⟩))) (opA o lv dv ca cn cc) ans0) := ⟨(Below.heap_setCell _ _ _ _ (by show w.heap.size ≠ Bn; omega)).trans HS1.out.op, (Below.heap_setCell _ _ _ _ (by show w.heap.size + 1 ≠ Bn; omega)).trans HS1.out.rs, (Below.heap_setCell _ _ _ _ (by show w.heap.size + 2 ≠ Bn; omega)).trans HS1.out.an⟩
  have HB2 : Hid (Below base w (W1.setCell ⟨Bn, 2, none⟩ (.pointer (some ⟨W0.heap.size, 0, none⟩)))) := ((HB0.out.mono hbl).trans (HBB.out.mono (by omega))).setCell (p := ⟨Bn, 2, none⟩) H.out.bb _
  have HNM := hide (HGB.out _ HB2.out)
  have HG2 : Hid (∀ b, b < w.heap.size → b ≠ S → b ≠ LB → b ≠ Bn → pv.ownBlock ≠ some b → (W1.setCell ⟨Bn, 2, none⟩ (.pointer (some ⟨W0.heap.size, 0, none⟩))).heap[b]? = w.heap[b]?) := fun b p0 p1 p2 p3 p4 => (Below.heap_setCell _ _ _ _ p3).trans ((HBB.out.block b (by omega)).trans (HB0.out.block b p0))
  have HA1 : Hid (Aw (w.heap.size + 1) Bn W0.heap.size S LB pv A ok) := ⟨⟨by omega, (H.out.aw (by omega)).1.2.1, (H.out.aw (by omega)).1.2.2⟩, (H.out.aw (by omega)).2⟩
  have HA2 : Hid (Aw (w.heap.size + 2) Bn W0.heap.size S LB pv A ok) := ⟨⟨by omega, (H.out.aw (by omega)).1.2.1, (H.out.aw (by omega)).1.2.2⟩, (H.out.aw (by omega)).2⟩
  clear b2 b3 y0 y1 y2 fz HS1 HBB
  generalize World.setCell _ _ _ = W2 at *
  go_upto_region 29 with (go_at_call 49; refine (benchCode_calls _ rn kn ft _ 0 HNM.out ErrV.nil).mono ?_; rintro e W5 ⟨rfl, hb⟩; have HS5 := hide (HS2.out.next hb); have HN5 := hide (HN1.out.below hb); have HB5 := hide (HB2.out.trans (hb.mono (by have := HB2.out.size; omega))); have c40 := HS5.out.facts.2.2.2.1 40; simp only [ansCs, List.getElem?_toArray, List.getElem?_cons_zero, List.getElem?_cons_succ] at c40; have HG5 : Hid (∀ b, b < w.heap.size → b ≠ S → b ≠ LB → b ≠ Bn → pv.ownBlock ≠ some b → W5.heap[b]? = w.heap[b]?) := (fun b p0 p1 p2 p3 p4 => (hb.block b (Nat.lt_of_lt_of_le p0 HB2.out.size)).trans (HG2.out b p0 p1 p2 p3 p4)); have g40 := HS5.out.facts.2.2.2.2.1 40; clear hb)
  have e6 := (HS5.out.cell (j := 40) (v := .int .u8 0) { ans0 with code := 0 } rfl)
  have HS6 := hide e6.1
  have HN6 := hide (HN5.out.away (cs := ansCs { ans0 with code := 0 }) HA2.out)
  rw [← e6.2] at HN6
  have HB6 := hide (HB5.out.setCell (p := ⟨w.heap.size + 2, 40, none⟩) (by show base ≤ w.heap.size + 2; omega) (.int .u8 0))
  have HG6 : Hid (∀ b, b < w.heap.size → b ≠ S → b ≠ LB → b ≠ Bn → pv.ownBlock ≠ some b → (World.setCell W5 ⟨w.heap.size + 2, 40, none⟩ (.int .u8 0)).heap[b]? = w.heap[b]?) := fun b p0 p1 p2 p3 p4 => (Below.heap_setCell _ _ _ _ (by show b ≠ w.heap.size + 2; omega)).trans (HG5.out b p0 p1 p2 p3 p4)
  clear e6
  generalize World.setCell _ _ _ = W6 at *
  clear c40 g40
  have h1 := HS6.out.facts.1
  have h2 := HS6.out.facts.2.1
  go_wp2
  have f1 := heap_setRow_at (ds := ansCs { ans0 with code := 0 }) HS6.out.rs
  refine bodyPost_ret (results_cell1 Tryz.results21 _ _ (w.heap.size + 1) _ _ _ _ rfl f1 Tryz.underlying77 rfl (by kernel_rfl)) rfl ?_
  rw [HSE.out]
  exact ⟨_, _, _, _, _, _, _, HN6.out.away HA1.out, rfl, rfl, ⟨fun b p0 p1 p2 p3 p4 => (setRow_other _ _ _ _ (by omega)).trans (HG6.out b p0 p1 p2 p3 p4), HB6.out.trans ⟨rfl, rfl, rfl, by simp, fun k hk => setRow_other _ _ _ _ (by omega)⟩, Or.inl rfl, Nw.refl _ _, Nw.refl _ _, Or.inr (by omega)⟩, ⟨fun k => by omega, fun _ => rfl, fun k => by omega, fun k => by omega, fun k => by omega, fun k => by omega, fun k => by omega⟩⟩


set_option maxRecDepth 100000 in
set_option maxHeartbeats 4000000 in
theorem step2y (w : World) (Bn Y S LB base : Nat) (pv : Value) (A ok oko okg : Nat → Prop) (zs : List ZP) (full : Bool) (off lar : Int) (x : LV) (L : Low) (o : Op) (lv dv : Value) (ca : Option Addr) (cn cc : Nat) (rn kn ft : Nat → ByteArray) (h : BN w Bn Y S LB base pv A ok zs full off lar x L) (hp : PO (zs.map (·.2)) L) (ho : OpIn w oko o lv dv ca cn cc) (hgl : Gl w base rn kn ft okg) (htx : TxOk rn kn (zs.map (·.2)) o) (hg : NmG rn kn) (hk : o.kind = 2) :
    Calls Tryz.prog 21 #[.pointer (some ⟨Bn, 0, none⟩), .agg (opA o lv dv ca cn cc)] w fun e w' => StY w w' Bn Y S LB base pv A ok e (stepR ⟨zs.map (·.2), full, off, lar, L⟩ o) (AnsQ rn kn w w' ⟨zs.map (·.2), full, off, lar, L⟩ o) := by
  obtain ⟨s', hs'⟩ : ∃ s', s' = stepR ⟨zs.map (·.2), full, off, lar, L⟩ o := ⟨_, rfl⟩
  rw [← hs']
  have HSE : Hid (s' = ⟨zs.map (·.2), o.num == 1, off, lar, L⟩) := hs'.trans (by unfold stepR; rw [if_neg (by omega), if_pos hk])
  clear hs'
  have H := hide h
  have HP := hide hp
  have HO := hide (fun W (hb : Below w.heap.size w W) => ho.below hb)
  have hbl : base ≤ w.heap.size := by have := h.bs.bs; have := blk_lt h.bs.lb; omega
  have HGL := hide (fun W (hb : Below w.heap.size w W) => hgl.same hb hbl)
  have HSY := hide (fun W (hb : Below w.heap.size w W) => (h.bs.toSys hp).below hb)
  have hBl := blk_lt h.bn
  have HGB := hide (fun W (hb : Below base w W) => (hgl.same hb (Nat.le_refl _)).nm)


  have HTX := hide htx
  have HNG := hide hg
  clear h hp ho hgl htx hg
  go_enter Tryz.func21, Tryz.ntmps21
  go_upto_region 3 with fail
  have HS0 := hide (SB.start w (opA o lv dv ca cn cc)).1
  have HB0 := hide (SB.start w (opA o lv dv ca cn cc)).2
  change Code.wp _ _ _ _ (((w.alloc (.cells (opA o lv dv ca cn cc) 61)).alloc (.cells (ansCs ans0) 77)).alloc (.cells (ansCs ans0) 77))
  generalize (((w.alloc (.cells (opA o lv dv ca cn cc) 61)).alloc (.cells (ansCs ans0) 77)).alloc (.cells (ansCs ans0) 77)) = W0 at *
  obtain ⟨-, -, hq, -, -, hz⟩ := HS0.out.facts
  have hNl : w.heap.size < W0.heap.size := by omega
  have q0 := hq 0
  simp only [opA, List.getElem?_toArray, List.getElem?_cons_zero] at q0
  have q20 := hq 20
  simp only [opA, List.getElem?_toArray, List.getElem?_cons_zero, List.getElem?_cons_succ] at q20
  rw [hk] at q0
  clear hq
  have y0 : W0.cell? ⟨Bn, 0, none⟩ = some (.pointer (some ⟨S, 0, none⟩)) := (HB0.out.cell (p := ⟨Bn, 0, none⟩) hBl).trans (cells_all H.out.bn 0)
  have y1 : W0.cell? ⟨Bn, 1, none⟩ = some (.pointer (some ⟨LB, 0, none⟩)) := (HB0.out.cell (p := ⟨Bn, 1, none⟩) hBl).trans (cells_all H.out.bn 1)
  have hBz : Bn < W0.heap.size := by have := HB0.out.size; omega
  have HN0 := hide (H.out.below HB0.out)
  have s1 : W0.cell? ⟨S, 1, none⟩ = some (.bool full) := cells_all HN0.out.bs.stm.top 1
  have s2 : W0.frozen? ⟨S, 1, none⟩ = false := by simp [World.frozen?, HN0.out.bs.stm.top]
  have hSl : S < W0.heap.size := blk_lt HN0.out.bs.stm.top
  have HN1 := hide ((HN0.out.setFull (o.num == 1)).below (W' := World.drew _) (Below.refl _ _).drew)
  go_upto_region 8 with fail
  refine wp_region_mixT (W0.heap.size) [3, 5] (by kernel_rfl) ?_
  refine mixT_slots [0, 1, 2, 4] (fuel := 6) rfl (by kernel_rfl) (by kernel_rfl) (fun d _ _ _ _ h => by cases d <;> exact h) ?_
  simp only [opersAt, List.getElem?_toArray, List.getElem?_cons_zero, List.getElem?_cons_succ]
  repeat (go_big_quiet_step (fail))
  refine wpQuiet_nil ?_
  refine mixT_reads [3, 5] (fuel := 4) rfl (by kernel_rfl) (by decide) (by kernel_rfl) (fun d _ _ _ _ h => by cases d <;> exact h) (ext_drew _ _) ?_
  simp only [opersAt, List.getElem?_toArray, List.getElem?_cons_zero, List.getElem?_cons_succ]
  repeat (go_big_quiet_step (fail))
  refine wpQuiet_nil ?_
  refine mixT_slots [6, 7, 8] (fuel := 1) rfl (by kernel_rfl) (by kernel_rfl) (fun d _ _ _ _ h => by cases d <;> exact h) ?_
  simp only [opersAt, List.getElem?_toArray, List.getElem?_cons_zero, List.getElem?_cons_succ]
  repeat (go_big_quiet_step (fail))
  refine wpQuiet_nil ?_
  refine mixT_one (k := 9) (by kernel_rfl) rfl ?_
  go_wp2
  refine ⟨Or.inl (by kernel_rfl), ?_⟩
  refine mixT_nil (by kernel_rfl) ?_
  go_upto_region 28 with fail
  have hzW := HB0.out.size
  have hSw := blk_lt H.out.bs.stm.top
  have HS2 : Hid (SB w (W0.setCell ⟨S, 1, none⟩ (.bool (o.num == 1))).drew (opA o lv dv ca cn cc) ans0) := ⟨(Below.heap_setCell _ _ _ _ (by show w.heap.size ≠ S; omega)).trans HS0.out.op, (Below.heap_setCell _ _ _ _ (by show w.heap.size + 1 ≠ S; omega)).trans HS0.out.rs, (Below.heap_setCell _ _ _ _ (by show w.heap.size + 2 ≠ S; omega)).trans HS0.out.an⟩
  have HB2 : Hid (Below base w (W0.setCell ⟨S, 1, none⟩ (.bool (o.num == 1))).drew) := ((HB0.out.mono hbl).setCell (p := ⟨S, 1, none⟩) H.out.bs.stm.baseS _).drew
  have HNM := hide (HGB.out _ HB2.out)
  have HG2 : Hid (∀ b, b < w.heap.size → b ≠ S → b ≠ LB → b ≠ Bn → pv.ownBlock ≠ some b → (W0.setCell ⟨S, 1, none⟩ (.bool (o.num == 1))).drew.heap[b]? = w.heap[b]?) := fun b p0 p1 p2 p3 p4 => (Below.heap_setCell _ _ _ _ p1).trans (HB0.out.block b p0)
  have HA1 : Hid (Aw (w.heap.size + 1) Bn Y S LB pv A ok) := H.out.aw (by omega)
  have HA2 : Hid (Aw (w.heap.size + 2) Bn Y S LB pv A ok) := H.out.aw (by omega)
  clear y0 y1 s1 s2 q20
  generalize World.drew _ = W2 at *
  go_upto_region 29 with (go_at_call 49; refine (benchCode_calls _ rn kn ft _ 0 HNM.out ErrV.nil).mono ?_; rintro e W5 ⟨rfl, hb⟩; have HS5 := hide (HS2.out.next hb); have HN5 := hide (HN1.out.below hb); have HB5 := hide (HB2.out.trans (hb.mono (by have := HB2.out.size; omega))); have c40 := HS5.out.facts.2.2.2.1 40; simp only [ansCs, List.getElem?_toArray, List.getElem?_cons_zero, List.getElem?_cons_succ] at c40; have HG5 : Hid (∀ b, b < w.heap.size → b ≠ S → b ≠ LB → b ≠ Bn → pv.ownBlock ≠ some b → W5.heap[b]? = w.heap[b]?) := (fun b p0 p1 p2 p3 p4 => (hb.block b (Nat.lt_of_lt_of_le p0 HB2.out.size)).trans (HG2.out b p0 p1 p2 p3 p4)); have g40 := HS5.out.facts.2.2.2.2.1 40; clear hb)
  have e6 := (HS5.out.cell (j := 40) (v := .int .u8 0) { ans0 with code := 0 } rfl)
  have HS6 := hide e6.1
  have HN6 := hide (HN5.out.away (cs := ansCs { ans0 with code := 0 }) HA2.out)
  rw [← e6.2] at HN6
  have HB6 := hide (HB5.out.setCell (p := ⟨w.heap.size + 2, 40, none⟩) (by show base ≤ w.heap.size + 2; omega) (.int .u8 0))
  have HG6 : Hid (∀ b, b < w.heap.size → b ≠ S → b ≠ LB → b ≠ Bn → pv.ownBlock ≠ some b → (World.setCell W5 ⟨w.heap.size + 2, 40, none⟩ (.int .u8 0)).heap[b]? = w.heap[b]?) := fun b p0 p1 p2 p3 p4 => (Below.heap_setCell _ _ _ _ (by show b ≠ w.heap.size + 2; omega)).trans (HG5.out b p0 p1 p2 p3 p4)
  clear e6
  generalize World.setCell _ _ _ = W6 at *
  clear c40 g40
  have h1 := HS6.out.facts.1
  have h2 := HS6.out.facts.2.1
  go_wp2
  have f1 := heap_setRow_at (ds := ansCs { ans0 with code := 0 }) HS6.out.rs
  refine bodyPost_ret (results_cell1 Tryz.results21 _ _ (w.heap.size + 1) _ _ _ _ rfl f1 Tryz.underlying77 rfl (by kernel_rfl)) rfl ?_
  rw [HSE.out]
  exact ⟨_, _, _, _, _, _, _, HN6.out.away HA1.out, rfl, rfl, ⟨fun b p0 p1 p2 p3 p4 => (setRow_other _ _ _ _ (by omega)).trans (HG6.out b p0 p1 p2 p3 p4), HB6.out.trans ⟨rfl, rfl, rfl, by simp, fun k hk => setRow_other _ _ _ _ (by omega)⟩, Or.inl rfl, Nw.refl _ _, Nw.refl _ _, Or.inl rfl⟩, ⟨fun k => by omega, fun _ => rfl, fun k => by omega, fun k => by omega, fun k => by omega, fun k => by omega, fun k => by omega⟩⟩


set_option maxRecDepth 100000 in
set_option maxHeartbeats 4000000 in
theorem step1y (w : World) (Bn Y S LB base : Nat) (pv : Value) (A ok oko okg : Nat → Prop) (zs : List ZP) (full : Bool) (off lar : Int) (x : LV) (L : Low) (o : Op) (lv dv : Value) (ca : Option Addr) (cn cc : Nat) (rn kn ft : Nat → ByteArray) (h : BN w Bn Y S LB base pv A ok zs full off lar x L) (hp : PO (zs.map (·.2)) L) (ho : OpIn w oko o lv dv ca cn cc) (hgl : Gl w base rn kn ft okg) (htx : TxOk rn kn (zs.map (·.2)) o) (hg : NmG rn kn) (hoff : 0 ≤ off ∧ off ≤ 1000000000000000) (hk : o.kind = 1) :
    Calls Tryz.prog 21 #[.pointer (some ⟨Bn, 0, none⟩), .agg (opA o lv dv ca cn cc)] w fun e w' => StY w w' Bn Y S LB base pv A ok e (stepR ⟨zs.map (·.2), full, off, lar, L⟩ o) (AnsQ rn kn w w' ⟨zs.map (·.2), full, off, lar, L⟩ o) := by
  obtain ⟨s', hs'⟩ : ∃ s', s' = stepR ⟨zs.map (·.2), full, off, lar, L⟩ o := ⟨_, rfl⟩
  rw [← hs']
  have HSE : Hid (s' = ⟨(exR (zs.map (·.2)) full off lar L o.req).ps, full, (exR (zs.map (·.2)) full off lar L o.req).off, (exR (zs.map (·.2)) full off lar L o.req).lar, (exR (zs.map (·.2)) full off lar L o.req).low⟩) := hs'.trans (by unfold stepR; rw [if_pos hk])
  clear hs'
  have H := hide h
  have HP := hide hp
  have HO := hide (fun W (hb : Below w.heap.size w W) => ho.below hb)
  have hbl : base ≤ w.heap.size := by have := h.bs.bs; have := blk_lt h.bs.lb; omega
  have HGL := hide (fun W (hb : Below w.heap.size w W) => hgl.same hb hbl)
  have HSY := hide (fun W (hb : Below w.heap.size w W) => (h.bs.toSys hp).below hb)
  have hBl := blk_lt h.bn
  have HGB := hide (fun W (hb : Below base w W) => (hgl.same hb (Nat.le_refl _)).nm)


  have HTX := hide htx
  have HNG := hide hg
  clear h hp ho hgl htx hg
  go_enter Tryz.func21, Tryz.ntmps21
  go_upto_region 3 with fail
  have HS0 := hide (SB.start w (opA o lv dv ca cn cc)).1
  have HB0 := hide (SB.start w (opA o lv dv ca cn cc)).2
  change Code.wp _ _ _ _ (((w.alloc (.cells (opA o lv dv ca cn cc) 61)).alloc (.cells (ansCs ans0) 77)).alloc (.cells (ansCs ans0) 77))
  generalize (((w.alloc (.cells (opA o lv dv ca cn cc) 61)).alloc (.cells (ansCs ans0) 77)).alloc (.cells (ansCs ans0) 77)) = W0 at *
  obtain ⟨-, -, hq, -, -, hz⟩ := HS0.out.facts
  have hNl : w.heap.size < W0.heap.size := by omega
  have q0 := hq 0
  simp only [opA, List.getElem?_toArray, List.getElem?_cons_zero] at q0
  rw [hk] at q0
  clear hq
  have HN0 := hide (H.out.below HB0.out)
  have y2 : W0.cell? ⟨Bn, 2, none⟩ = some (.pointer (some ⟨Y, 0, none⟩)) := cells_all HN0.out.bn 2
  have hBz : Bn < W0.heap.size := blk_lt HN0.out.bn
  have hrq : rng W0 w.heap.size 1 17 = some (reqA o.req lv) := by unfold rng; rw [HS0.out.op]; rfl
  have HEX := hide (execute_x W0.drew Y S LB base pv A ok _ okg zs full off lar x L o.req lv rn kn ft (HN0.out.bs.below (Below.refl _ _).drew) HP.out (HO.out _ HB0.out).req (HO.out _ HB0.out.drew).list (HO.out _ HB0.out).ids hoff (HGL.out _ HB0.out.drew))
  obtain ⟨R, hR⟩ : ∃ R, exR (zs.map (·.2)) full off lar L o.req = R := ⟨_, rfl⟩
  rw [hR] at HEX HSE
  clear hR
  go_upto_region 6 with fail
  refine wp_region_mixT (W0.heap.size) [3, 5] (by kernel_rfl) ?_
  refine mixT_slots [0, 1, 2, 4] (fuel := 5) rfl (by kernel_rfl) (by kernel_rfl) (fun d _ _ _ _ h => by cases d <;> exact h) ?_
  simp only [opersAt, List.getElem?_toArray, List.getElem?_cons_zero, List.getElem?_cons_succ]
  repeat (go_big_quiet_step (fail))
  refine wpQuiet_nil ?_
  refine mixT_reads [3, 5] (fuel := 3) rfl (by kernel_rfl) (by decide) (by kernel_rfl) (fun d _ _ _ _ h => by cases d <;> exact h) (ext_drew _ _) ?_
  simp only [opersAt, List.getElem?_toArray, List.getElem?_cons_zero, List.getElem?_cons_succ]
  repeat (go_big_quiet_step (fail))
  refine wpQuiet_nil ?_
  refine mixT_one (k := 6) (by kernel_rfl) rfl ?_
  go_wp2_with (go_at_call 78; refine HEX.out.mono ?_; rintro e W1 ⟨pv', A', ok', zs', x', rsp, hbs, hmap, rfl, hfr, hna, hno, hrp⟩; have HRP := hide hrp; clear hrp; have HBS := hide hbs; have HMP := hide hmap; have HFR := hide hfr; have HNA := hide hna; have HNO := hide hno; have HS1 : Hid (SB w W1 (opA o lv dv ca cn cc) ans0) := ⟨(hfr.fr _ (by have := blk_lt HS0.out.an; show _ < W0.heap.size; omega) (H.out.aw (by omega)).1.2.1 (H.out.aw (by omega)).1.2.2 (H.out.aw (by omega)).2.2.1).trans HS0.out.op, (hfr.fr _ (by have := blk_lt HS0.out.an; show _ < W0.heap.size; omega) (H.out.aw (by omega)).1.2.1 (H.out.aw (by omega)).1.2.2 (H.out.aw (by omega)).2.2.1).trans HS0.out.rs, (hfr.fr _ (by have := blk_lt HS0.out.an; show _ < W0.heap.size; omega) (H.out.aw (by omega)).1.2.1 (H.out.aw (by omega)).1.2.2 (H.out.aw (by omega)).2.2.1).trans HS0.out.an⟩; have hst := run_stRspA _ _ _ rsp HS1.out.an; clear hbs hmap hfr hna hno)
  refine ⟨Or.inl (by kernel_rfl), ?_⟩
  refine mixT_slots [7] (fuel := 1) rfl (by kernel_rfl) (by kernel_rfl) (fun d _ _ _ _ h => by cases d <;> exact h) ?_
  simp only [opersAt, List.getElem?_toArray, List.getElem?_cons_zero, List.getElem?_cons_succ]
  repeat (go_big_quiet_step (fail))
  refine wpQuiet_nil ?_
  refine mixT_one (k := 8) (by kernel_rfl) rfl ?_
  go_wp2
  refine ⟨Or.inl (by kernel_rfl), ?_⟩
  refine mixT_nil (by kernel_rfl) ?_
  go_upto_region 28 with fail
  have hzW := HB0.out.size
  have hz2 := blk_lt HS0.out.an
  have hW0d : W0.drew.heap.size = W0.heap.size := rfl
  have hAw : ∀ g, w.heap.size ≤ g → g < W0.heap.size → Aw g Bn Y S LB pv' A' ok' := fun g h1 h2 => by
    have h3 := H.out.aw h1
    refine ⟨h3.1, h3.2.1, fun e => ?_, fun e => ?_, fun e => ?_⟩
    · rcases HFR.out.own with e1 | e1
      · exact h3.2.2.1 (e1 ▸ e)
      · have := e1 g e; omega
    · rcases HNA.out g e with e1 | e1
      · exact h3.2.2.2.1 e1
      · omega
    · rcases HNO.out g e with e1 | e1
      · exact h3.2.2.2.2 e1
      · omega
  have HN1 : Hid (BN W1 Bn Y S LB base pv' A' ok' zs' full R.off R.lar x' R.low) := ⟨HBS.out, (HFR.out.fr Bn hBz H.out.ne.2.1 H.out.ne.2.2 H.out.n2).trans HN0.out.bn, H.out.ne, fun e => by
    rcases HFR.out.own with e1 | e1
    · exact H.out.n2 (e1 ▸ e)
    · have := e1 Bn e; omega, fun e => by
    rcases HNA.out Bn e with e1 | e1
    · exact H.out.n3 e1
    · omega, fun e => by
    rcases HNO.out Bn e with e1 | e1
    · exact H.out.n4 e1
    · omega, H.out.bb⟩
  have HA1 := hide (hAw (w.heap.size + 1) (by omega) (by omega))
  have HA2 := hide (hAw (w.heap.size + 2) (by omega) (by omega))
  have HS2 := hide (HS1.out.row { ans0 with resp := rsp })
  have HN2 := hide (HN1.out.away (cs := ansCs { ans0 with resp := rsp }) HA2.out)
  have HB2 : Hid (Below base w (W1.setRow (w.heap.size + 2) (ansCs { ans0 with resp := rsp }))) := ((HB0.out.mono hbl).drew.trans HFR.out.bel).trans ⟨rfl, rfl, rfl, by simp, fun k hk => setRow_other _ _ _ _ (by omega)⟩
  have HNM := hide (HGB.out _ HB2.out)
  have HG2 : Hid (∀ b, b < w.heap.size → b ≠ S → b ≠ LB → b ≠ Bn → pv.ownBlock ≠ some b → (W1.setRow (w.heap.size + 2) (ansCs { ans0 with resp := rsp })).heap[b]? = w.heap[b]?) := fun b p0 p1 p2 p3 p4 => (setRow_other _ _ _ _ (by omega)).trans ((HFR.out.fr b (by omega) p1 p2 p4).trans (HB0.out.block b p0))
  have HK2 : Hid (∀ b, W0.heap.size ≤ b → b < W1.heap.size → (W1.setRow (w.heap.size + 2) (ansCs { ans0 with resp := rsp })).heap[b]? = W1.heap[b]?) := fun b p0 p1 => setRow_other _ _ _ _ (by omega)
  have HZ2 : Hid (W1.heap.size ≤ (W1.setRow (w.heap.size + 2) (ansCs { ans0 with resp := rsp })).heap.size) := (by simp : W1.heap.size ≤ (World.setRow _ _ _).heap.size)
  clear hst hAw HN1 HS1 y2 hrq hW0d
  generalize World.setRow _ _ _ = W2 at *
  go_upto_region 29 with (go_at_call 49; refine (benchCode_calls _ rn kn ft _ 0 HNM.out ErrV.nil).mono ?_; rintro e W5 ⟨rfl, hb⟩; have HS5 := hide (HS2.out.next hb); have HN5 := hide (HN2.out.below hb); have HB5 := hide (HB2.out.trans (hb.mono (by have := HB2.out.size; omega))); have c40 := HS5.out.facts.2.2.2.1 40; simp only [ansCs, List.getElem?_toArray, List.getElem?_cons_zero, List.getElem?_cons_succ] at c40; have HG5 : Hid (∀ b, b < w.heap.size → b ≠ S → b ≠ LB → b ≠ Bn → pv.ownBlock ≠ some b → W5.heap[b]? = w.heap[b]?) := (fun b p0 p1 p2 p3 p4 => (hb.block b (Nat.lt_of_lt_of_le p0 HB2.out.size)).trans (HG2.out b p0 p1 p2 p3 p4)); have HK5 : Hid (∀ b, W0.heap.size ≤ b → b < W1.heap.size → W5.heap[b]? = W1.heap[b]?) := (fun b p0 p1 => (hb.block b (Nat.lt_of_lt_of_le p1 HZ2.out)).trans (HK2.out b p0 p1)); have g40 := HS5.out.facts.2.2.2.2.1 40; clear hb)
  have e6 := (HS5.out.cell (j := 40) (v := .int .u8 0) { { ans0 with resp := rsp } with code := 0 } rfl)
  have HS6 := hide e6.1
  have HN6 := hide (HN5.out.away (cs := ansCs { { ans0 with resp := rsp } with code := 0 }) HA2.out)
  rw [← e6.2] at HN6
  have HB6 := hide (HB5.out.setCell (p := ⟨w.heap.size + 2, 40, none⟩) (by show base ≤ w.heap.size + 2; omega) (.int .u8 0))
  have HG6 : Hid (∀ b, b < w.heap.size → b ≠ S → b ≠ LB → b ≠ Bn → pv.ownBlock ≠ some b → (World.setCell W5 ⟨w.heap.size + 2, 40, none⟩ (.int .u8 0)).heap[b]? = w.heap[b]?) := fun b p0 p1 p2 p3 p4 => (Below.heap_setCell _ _ _ _ (by show b ≠ w.heap.size + 2; omega)).trans (HG5.out b p0 p1 p2 p3 p4)
  have HK6 : Hid (∀ b, W0.heap.size ≤ b → b < W1.heap.size → (World.setCell W5 ⟨w.heap.size + 2, 40, none⟩ (.int .u8 0)).heap[b]? = W1.heap[b]?) := fun b p0 p1 => (Below.heap_setCell _ _ _ _ (by show b ≠ w.heap.size + 2; omega)).trans (HK5.out b p0 p1)
  clear e6
  generalize World.setCell _ _ _ = W6 at *
  clear c40 g40
  have h1 := HS6.out.facts.1
  have h2 := HS6.out.facts.2.1
  go_wp2
  have f1 := heap_setRow_at (ds := ansCs { { ans0 with resp := rsp } with code := 0 }) HS6.out.rs
  refine bodyPost_ret (results_cell1 Tryz.results21 _ _ (w.heap.size + 1) _ _ _ _ rfl f1 Tryz.underlying77 rfl (by kernel_rfl)) rfl ?_
  rw [HSE.out]
  exact ⟨_, _, _, _, _, _, _, HN6.out.away HA1.out, HMP.out, rfl, ⟨fun b p0 p1 p2 p3 p4 => (setRow_other _ _ _ _ (by omega)).trans (HG6.out b p0 p1 p2 p3 p4), HB6.out.trans ⟨rfl, rfl, rfl, by simp, fun k hk => setRow_other _ _ _ _ (by omega)⟩, HFR.out.own.imp id (fun q b e => by have : W0.heap.size ≤ b := q b e; omega), fun b q => (HNA.out b q).imp id (fun q => by have : W0.heap.size ≤ b := q; omega), fun b q => (HNO.out b q).imp id (fun q => by have : W0.heap.size ≤ b := q; omega), Or.inl rfl⟩, ⟨fun _ => ⟨_, rfl, HRP.out.keep (show w.heap.size ≤ W0.heap.size by omega) (fun b q1 q2 => (setRow_other _ _ _ _ (by have : W0.heap.size ≤ b := q1; omega)).trans (HK6.out b q1 q2))⟩, fun k => by omega, fun k => by omega, fun k => by omega, fun k => by omega, fun k => by omega, fun k => by omega⟩⟩

end Go.Proofs.Qxb6500666aGreatDoor
