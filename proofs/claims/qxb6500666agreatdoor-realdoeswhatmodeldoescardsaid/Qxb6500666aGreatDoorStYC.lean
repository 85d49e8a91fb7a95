/- A step of the bench: the damaging kinds, reopen. (Made by tools/mk_sty.py.) -/
import Derived.Test.Qxb6500666aGreatDoorStY
import Derived.Test.Qxb6500666aGreatDoorStXC
namespace Go.Proofs.Qxb6500666aGreatDoor
open Go.RowKit
attribute [local go_sem] ext_const Ext.cell Ext.frozen Ext.rng Ext.whole
attribute [local go_sem ↓] exec_ldAns exec_stAns exec_ldFile exec_stFile exec_ldReq exec_stRsp
attribute [local go_sem] run_ldAns run_stAns run_ldFile run_ldReq ansCs_ones opA_size whole_alloc_lt whole_alloc_at whole_drew setRow_alloc_at setRow_alloc_lt rng_alloc_lt rng_alloc_at rng_drew rng_drewN rng_setCell_other whole_setCell_other


set_option maxRecDepth 100000 in
set_option maxHeartbeats 4000000 in
theorem step5y (w : World) (Bn Y S LB base : Nat) (pv : Value) (A ok oko okg : Nat → Prop) (zs : List ZP) (full : Bool) (off lar : Int) (x : LV) (L : Low) (o : Op) (lv dv : Value) (ca : Option Addr) (cn cc : Nat) (rn kn ft : Nat → ByteArray) (h : BN w Bn Y S LB base pv A ok zs full off lar x L) (hp : PO (zs.map (·.2)) L) (ho : OpIn w oko o lv dv ca cn cc) (hgl : Gl w base rn kn ft okg) (htx : TxOk rn kn (zs.map (·.2)) o) (hg : NmG rn kn) (hk : o.kind = 5) :
    Calls Tryz.prog 21 #[.pointer (some ⟨Bn, 0, none⟩), .agg (opA o lv dv ca cn cc)] w fun e w' => StY w w' Bn Y S LB base pv A ok e (stepR ⟨zs.map (·.2), full, off, lar, L⟩ o) (AnsQ rn kn w w' ⟨zs.map (·.2), full, off, lar, L⟩ o) := by
  obtain ⟨s', hs'⟩ : ∃ s', s' = stepR ⟨zs.map (·.2), full, off, lar, L⟩ o := ⟨_, rfl⟩
  rw [← hs']
  have HSE : Hid (s' = ⟨zs.map (·.2), full, off, lar, L⟩) := hs'.trans (by unfold stepR; rw [if_neg (by omega), if_neg (by omega)])
  clear hs'
  have H := hide h
  have HP := hide hp
  have HO := hide (fun W (hb : Below w.heap.size w W) => ho.below hb)
  have hbl : base ≤ w.heap.size := by have := h.bs.bs; have := blk_lt h.bs.lb; omega
  have HGL := hide (fun W (hb : Below w.heap.size w W) => hgl.same hb hbl)
  have HSY := hide (fun W (hb : Below w.heap.size w W) => (h.bs.toSys hp).below hb)
  have hBl := blk_lt h.bn
  have HSQ := hide ho.seq
  have HMO := hide ho.mode
  have HNU := hide ho.num

  have HTX := hide htx
  have HNG := hide hg
  clear h hp ho hgl htx hg
  go_enter Tryz.func21, Tryz.ntmps21
  go_upto_region 3 with fail
  have HS0 := hide (SB.start w (opA o lv dv ca cn cc)).1
  have HB0 := hide (SB.start w (opA o lv dv ca cn cc)).2
  change Code.wp _ _ _ _ (((w.alloc (.cells (opA o lv dv ca cn cc) 61)).alloc (.cells (ansCs ans0) 77)).alloc (.cells (ansCs ans0) 77))
  generalize (((w.alloc (.cells (opA o lv dv ca cn cc) 61)).alloc (.cells (ansCs ans0) 77)).alloc (.cells (ansCs ans0) 77)) = W0 at *
  obtain ⟨-, -, hq, -, -, hz⟩ := HS0.out.facts
  have hNl : w.heap.size < W0.heap.size := by omega
  have q0 := hq 0
  simp only [opA, List.getElem?_toArray, List.getElem?_cons_zero] at q0
  have q18 := hq 18
  have q19 := hq 19
  have q20 := hq 20
  have q21 := hq 21
  simp only [opA, List.getElem?_toArray, List.getElem?_cons_zero, List.getElem?_cons_succ] at q18 q19 q20 q21
  rw [hk] at q0
  clear hq
  have y2 : W0.cell? ⟨Bn, 2, none⟩ = some (.pointer (some ⟨Y, 0, none⟩)) := (HB0.out.cell (p := ⟨Bn, 2, none⟩) hBl).trans (cells_all H.out.bn 2)
  have hBz : Bn < W0.heap.size := by have := HB0.out.size; omega
  have HFI := hide (sysFile_callsX W0.drew Y S LB _ _ full o.seq (HSY.out _ HB0.out.drew).sys (HSY.out _ HB0.out.drew).st (HSY.out _ HB0.out.drew).pk (HSY.out _ HB0.out.drew).plen HSQ.out)
  go_upto_region 15 with fail
  cases hR : fbR (zs.map (·.2)) o.seq with
  | error c =>
    have HCE := hide (fbR_err hR)
    have HFR := hide hR
    rw [hR] at HFI
    clear hR
    refine wp_region_mixT (W0.heap.size) [3, 5] (by kernel_rfl) ?_
    refine mixT_slots [0, 1, 2, 4] (fuel := 8) rfl (by kernel_rfl) (by kernel_rfl) (fun d _ _ _ _ h => by cases d <;> exact h) ?_
    simp only [opersAt, List.getElem?_toArray, List.getElem?_cons_zero, List.getElem?_cons_succ]
    repeat (go_big_quiet_step (fail))
    refine wpQuiet_nil ?_
    refine mixT_reads [3, 5] (fuel := 6) rfl (by kernel_rfl) (by decide) (by kernel_rfl) (fun d _ _ _ _ h => by cases d <;> exact h) (ext_drew _ _) ?_
    simp only [opersAt, List.getElem?_toArray, List.getElem?_cons_zero, List.getElem?_cons_succ]
    repeat (go_big_quiet_step (fail))
    refine wpQuiet_nil ?_
    refine mixT_one (k := 6) (by kernel_rfl) rfl ?_
    go_wp2_with (go_at_call 32; refine HFI.out.mono ?_; rintro e W1 ⟨rfl, hb⟩; have HS1 := hide (HS0.out.next ((Below.refl _ _).drew.trans hb)); have HB1 := hide (HB0.out.drew.trans (hb.mono HB0.out.size)); clear hb)
    refine ⟨Or.inl (by kernel_rfl), ?_⟩
    refine mixT_slots [7, 8, 9] (fuel := 2) rfl (by kernel_rfl) (by kernel_rfl) (fun d _ _ _ _ h => by cases d <;> exact h) ?_
    simp only [opersAt, List.getElem?_toArray, List.getElem?_cons_zero, List.getElem?_cons_succ]
    repeat (go_big_quiet_step (fail))
    refine wpQuiet_nil ?_
    refine mixT_one (k := 10) (by kernel_rfl) rfl ?_
    go_wp2
    refine ⟨Or.inl (by kernel_rfl), ?_⟩
    refine mixT_one (k := 11) (by kernel_rfl) rfl ?_
    go_wp2
    refine ⟨Or.inl (by kernel_rfl), ?_⟩
    refine mixT_nil (by kernel_rfl) ?_
    go_upto_region 28 with fail
    have HEV : Hid (ErrV W1 (.iface 63 (.int .u8 c)) c) := ErrV.code c HCE.out.1 HCE.out.2
    go_upto_region 29 with (go_at_call 49; refine (benchCode_calls _ rn kn ft _ c (HGL.out _ HB1.out).nm HEV.out).mono ?_; rintro e W5 ⟨rfl, hb⟩; have HS5 := hide (HS1.out.next hb); have HB5 := hide (HB1.out.trans (hb.mono (HB1.out.size))); have c40 := HS5.out.facts.2.2.2.1 40; simp only [ansCs, List.getElem?_toArray, List.getElem?_cons_zero, List.getElem?_cons_succ] at c40; have g40 := HS5.out.facts.2.2.2.2.1 40; clear hb)
    have HS6 := hide (HS5.out.cell (j := 40) (v := .int .u8 c) { ans0 with code := c } rfl).1
    have HB6 := hide (HB5.out.setCell (p := ⟨w.heap.size + 2, 40, none⟩) (by simp) (.int .u8 c))
    generalize World.setCell _ _ _ = W6 at *
    clear c40 g40
    have h1 := HS6.out.facts.1
    have h2 := HS6.out.facts.2.1
    go_wp2
    have f1 := heap_setRow_at (ds := ansCs { ans0 with code := c }) HS6.out.rs
    refine bodyPost_ret (results_cell1 Tryz.results21 _ _ (w.heap.size + 1) _ _ _ _ rfl f1 Tryz.underlying77 rfl (by kernel_rfl)) rfl ?_
    exact StY.same H.out (HB6.out.trans ⟨rfl, rfl, rfl, by simp, fun k hk => setRow_other _ _ _ _ (by omega)⟩) HSE.out ⟨fun k => by omega, fun k => by omega, fun k => by omega, fun _ => ⟨fun c h => (by cases Except.error.inj (HFR.out.symm.trans h); rfl), fun b h => (by cases (HFR.out.symm.trans h))⟩, fun k => by omega, fun k => by omega, fun k => by omega⟩
  | ok tx =>
    have HTL := hide (fbR_ok (HSY.out W0 HB0.out).pk (HSY.out W0 HB0.out).plen HSQ.out hR)
    have HFR := hide hR
    have HTB := hide (HTX.out.f tx hR)
    rw [hR] at HFI
    clear hR
    refine wp_region_mixT (W0.heap.size) [3, 5] (by kernel_rfl) ?_
    refine mixT_slots [0, 1, 2, 4] (fuel := 8) rfl (by kernel_rfl) (by kernel_rfl) (fun d _ _ _ _ h => by cases d <;> exact h) ?_
    simp only [opersAt, List.getElem?_toArray, List.getElem?_cons_zero, List.getElem?_cons_succ]
    repeat (go_big_quiet_step (fail))
    refine wpQuiet_nil ?_
    refine mixT_reads [3, 5] (fuel := 6) rfl (by kernel_rfl) (by decide) (by kernel_rfl) (fun d _ _ _ _ h => by cases d <;> exact h) (ext_drew _ _) ?_
    simp only [opersAt, List.getElem?_toArray, List.getElem?_cons_zero, List.getElem?_cons_succ]
    repeat (go_big_quiet_step (fail))
    refine wpQuiet_nil ?_
    refine mixT_one (k := 6) (by kernel_rfl) rfl ?_
    go_wp2_with (go_at_call 32; refine HFI.out.mono ?_; rintro e W1 ⟨v, rfl, hown, hb⟩; obtain ⟨va, vn, vc, rfl⟩ := hown.form3; have HOW := hide hown; have HW01 : Hid (W0.heap.size ≤ W1.heap.size) := hb.size; have HS1 := hide (HS0.out.next ((Below.refl _ _).drew.trans hb)); have HB1 := hide (HB0.out.drew.trans (hb.mono HB0.out.size)); clear hb hown)
    refine ⟨Or.inl (by kernel_rfl), ?_⟩
    refine mixT_slots [7, 8, 9] (fuel := 2) rfl (by kernel_rfl) (by kernel_rfl) (fun d _ _ _ _ h => by cases d <;> exact h) ?_
    simp only [opersAt, List.getElem?_toArray, List.getElem?_cons_zero, List.getElem?_cons_succ]
    repeat (go_big_quiet_step (fail))
    refine wpQuiet_nil ?_
    refine mixT_one (k := 10) (by kernel_rfl) rfl ?_
    go_wp2
    refine ⟨Or.inl (by kernel_rfl), ?_⟩
    refine mixT_one (k := 11) (by kernel_rfl) rfl ?_
    go_wp2
    refine ⟨Or.inl (by kernel_rfl), ?_⟩
    refine mixT_nil (by kernel_rfl) ?_
    go_upto_region 17 with fail
    clear q18 q19 q20 q21 y2 hBz hz hNl q0
    obtain ⟨-, -, hq, -, -, hz⟩ := HS1.out.facts
    have q19 := hq 19
    have q20 := hq 20
    have q21 := hq 21
    simp only [opA, List.getElem?_toArray, List.getElem?_cons_zero, List.getElem?_cons_succ] at q19 q20 q21
    clear hq
    have HDM := hide (damage_x W1 _ _ (.slice va vn vc) dv tx o.data o.mode o.num (HOW.out.rows byteCs_size (by decide) (by have := HTL.out; omega)) (HO.out W1 HB1.out).data ⟨HMO.out.1, HMO.out.2⟩ ⟨HNU.out.1, HNU.out.2⟩ (by have := HTL.out; omega) (by have := (HO.out W1 HB1.out).ld; omega))
    have HLD := hide (HO.out W1 HB1.out).ld
    have HDB : Hid (ByteL (dmgP tx o.mode o.num o.data)) := dmgP_byte _ _ HTB.out.2 HTX.out.d
    have HDL : Hid ((dmgP tx o.mode o.num o.data).length ≤ 100000000) := Nat.le_trans (dmgP_len _ _ _ _) (by have := HTB.out.1; have := HLD.out; omega)
    obtain ⟨bs', hbs'⟩ : ∃ bs', bs' = dmgP tx o.mode o.num o.data := ⟨_, rfl⟩
    rw [← hbs'] at HDM HDB HDL
    have HBS := hide hbs'
    clear hbs'
    go_upto_region 28 with (first
      | (go_at_call 51; refine HDM.out.mono ?_; rintro e W3 ⟨dv', rfl, hby, hb⟩; have HBY := hide hby; have HW03 : Hid (W0.heap.size ≤ W3.heap.size) := Nat.le_trans HW01.out hb.size; have HS3 := hide (HS1.out.next hb); have HB3 := hide (HB1.out.trans (hb.mono HB1.out.size)); clear hby hb)
      | (go_at_call 33; refine (parse_q _ _ _ bs' HBY.out HDB.out HDL.out).mono ?_; rintro e W4 ⟨k, s, i, bb, fa, fn, fc, ev, ec, rfl, hev, hpf, hb⟩; have HPF := hide hpf; have HEN := hide hev; have HS4 := hide (HS3.out.next hb); have HB4 := hide (HB3.out.trans (hb.mono HB3.out.size)); have hst := run_stFileA _ _ _ k s i bb fa fn fc HS4.out.an; clear hev hpf hb))
    have HS2 := hide (HS4.out.row { ans0 with fk := k, fs := s, fi := i, fb := bb, fc := (fa, fn, fc) })
    have HB2 : Hid (Below w.heap.size w (W4.setRow (w.heap.size + 2) (ansCs { ans0 with fk := k, fs := s, fi := i, fb := bb, fc := (fa, fn, fc) }))) := HB4.out.trans ⟨rfl, rfl, rfl, by simp, fun k hk => setRow_other _ _ _ _ (by omega)⟩
    have HEV : Hid (ErrV (W4.setRow (w.heap.size + 2) (ansCs { ans0 with fk := k, fs := s, fi := i, fb := bb, fc := (fa, fn, fc) })) ev ec) := HEN.out.keep (fun E h1 _ => setRow_other _ _ _ _ (by have := HS3.out.facts.2.2.2.2.2; omega))
    have HZP : Hid (W0.heap.size ≤ W3.heap.size) := HW03.out
    have HK2 : Hid (∀ b, W3.heap.size ≤ b → b < W4.heap.size → (W4.setRow (w.heap.size + 2) (ansCs { ans0 with fk := k, fs := s, fi := i, fb := bb, fc := (fa, fn, fc) })).heap[b]? = W4.heap[b]?) := fun b p0 p1 => setRow_other _ _ _ _ (by have := HS3.out.facts.2.2.2.2.2; omega)
    have HZ2 : Hid (W4.heap.size ≤ (W4.setRow (w.heap.size + 2) (ansCs { ans0 with fk := k, fs := s, fi := i, fb := bb, fc := (fa, fn, fc) })).heap.size) := (by simp : W4.heap.size ≤ (World.setRow _ _ _).heap.size)
    clear hst HEN HS4 HB4 HDM
    generalize World.setRow _ _ _ = W2 at *
    go_upto_region 29 with (go_at_call 49; refine (benchCode_calls _ rn kn ft _ ec (HGL.out _ HB2.out).nm HEV.out).mono ?_; rintro e W5 ⟨rfl, hb⟩; have HS5 := hide (HS2.out.next hb); have HB5 := hide (HB2.out.trans (hb.mono (HB2.out.size))); have c40 := HS5.out.facts.2.2.2.1 40; simp only [ansCs, List.getElem?_toArray, List.getElem?_cons_zero, List.getElem?_cons_succ] at c40; have HK5 : Hid (∀ b, W3.heap.size ≤ b → b < W4.heap.size → W5.heap[b]? = W4.heap[b]?) := (fun b p0 p1 => (hb.block b (Nat.lt_of_lt_of_le p1 HZ2.out)).trans (HK2.out b p0 p1)); have g40 := HS5.out.facts.2.2.2.2.1 40; clear hb)
    have HS6 := hide (HS5.out.cell (j := 40) (v := .int .u8 ec) { { ans0 with fk := k, fs := s, fi := i, fb := bb, fc := (fa, fn, fc) } with code := ec } rfl).1
    have HB6 := hide (HB5.out.setCell (p := ⟨w.heap.size + 2, 40, none⟩) (by simp) (.int .u8 ec))
    have HK6 : Hid (∀ b, W3.heap.size ≤ b → b < W4.heap.size → (World.setCell W5 ⟨w.heap.size + 2, 40, none⟩ (.int .u8 ec)).heap[b]? = W4.heap[b]?) := fun b p0 p1 => (Below.heap_setCell _ _ _ _ (by have := HS0.out.facts.2.2.2.2.2; have := HZP.out; show b ≠ w.heap.size + 2; omega)).trans (HK5.out b p0 p1)
    generalize World.setCell _ _ _ = W6 at *
    clear c40 g40
    have h1 := HS6.out.facts.1
    have h2 := HS6.out.facts.2.1
    go_wp2
    have f1 := heap_setRow_at (ds := ansCs { { ans0 with fk := k, fs := s, fi := i, fb := bb, fc := (fa, fn, fc) } with code := ec }) HS6.out.rs
    refine bodyPost_ret (results_cell1 Tryz.results21 _ _ (w.heap.size + 1) _ _ _ _ rfl f1 Tryz.underlying77 rfl (by kernel_rfl)) rfl ?_
    exact StY.same H.out (HB6.out.trans ⟨rfl, rfl, rfl, by simp, fun k hk => setRow_other _ _ _ _ (by omega)⟩) HSE.out ⟨fun k => by omega, fun k => by omega, fun k => by omega, fun _ => ⟨fun c h => (by cases (HFR.out.symm.trans h)), fun b h => (by cases Except.ok.inj (HFR.out.symm.trans h); rw [← HBS.out]; exact HPF.out.ans (show w.heap.size ≤ W3.heap.size by have := HS0.out.facts.2.2.2.2.2; have := HZP.out; omega) (fun b q1 q2 => (setRow_other _ _ _ _ (by have := HS0.out.facts.2.2.2.2.2; have := HZP.out; omega)).trans (HK6.out b q1 q2)))⟩, fun k => by omega, fun k => by omega, fun k => by omega⟩


set_option maxRecDepth 100000 in
set_option maxHeartbeats 4000000 in
theorem step7y (w : World) (Bn Y S LB base : Nat) (pv : Value) (A ok oko okg : Nat → Prop) (zs : List ZP) (full : Bool) (off lar : Int) (x : LV) (L : Low) (o : Op) (lv dv : Value) (ca : Option Addr) (cn cc : Nat) (rn kn ft : Nat → ByteArray) (h : BN w Bn Y S LB base pv A ok zs full off lar x L) (hp : PO (zs.map (·.2)) L) (ho : OpIn w oko o lv dv ca cn cc) (hgl : Gl w base rn kn ft okg) (htx : TxOk rn kn (zs.map (·.2)) o) (hg : NmG rn kn) (hk : o.kind = 7) :
    Calls Tryz.prog 21 #[.pointer (some ⟨Bn, 0, none⟩), .agg (opA o lv dv ca cn cc)] w fun e w' => StY w w' Bn Y S LB base pv A ok e (stepR ⟨zs.map (·.2), full, off, lar, L⟩ o) (AnsQ rn kn w w' ⟨zs.map (·.2), full, off, lar, L⟩ o) := by
  obtain ⟨s', hs'⟩ : ∃ s', s' = stepR ⟨zs.map (·.2), full, off, lar, L⟩ o := ⟨_, rfl⟩
  rw [← hs']
  have HSE : Hid (s' = ⟨zs.map (·.2), full, off, lar, L⟩) := hs'.trans (by unfold stepR; rw [if_neg (by omega), if_neg (by omega)])
  clear hs'
  have H := hide h
  have HP := hide hp
  have HO := hide (fun W (hb : Below w.heap.size w W) => ho.below hb)
  have hbl : base ≤ w.heap.size := by have := h.bs.bs; have := blk_lt h.bs.lb; omega
  have HGL := hide (fun W (hb : Below w.heap.size w W) => hgl.same hb hbl)
  have HSY := hide (fun W (hb : Below w.heap.size w W) => (h.bs.toSys hp).below hb)
  have hBl := blk_lt h.bn
  have HMO := hide ho.mode
  have HNU := hide ho.num

  have HTX := hide htx
  have HNG := hide hg
  clear h hp ho hgl htx hg
  go_enter Tryz.func21, Tryz.ntmps21
  go_upto_region 3 with fail
  have HS0 := hide (SB.start w (opA o lv dv ca cn cc)).1
  have HB0 := hide (SB.start w (opA o lv dv ca cn cc)).2
  change Code.wp _ _ _ _ (((w.alloc (.cells (opA o lv dv ca cn cc) 61)).alloc (.cells (ansCs ans0) 77)).alloc (.cells (ansCs ans0) 77))
  generalize (((w.alloc (.cells (opA o lv dv ca cn cc) 61)).alloc (.cells (ansCs ans0) 77)).alloc (.cells (ansCs ans0) 77)) = W0 at *
  obtain ⟨-, -, hq, -, -, hz⟩ := HS0.out.facts
  have hNl : w.heap.size < W0.heap.size := by omega
  have q0 := hq 0
  simp only [opA, List.getElem?_toArray, List.getElem?_cons_zero] at q0
  have q19 := hq 19
  have q20 := hq 20
  have q21 := hq 21
  simp only [opA, List.getElem?_toArray, List.getElem?_cons_zero, List.getElem?_cons_succ] at q19 q20 q21
  rw [hk] at q0
  clear hq
  have y2 : W0.cell? ⟨Bn, 2, none⟩ = some (.pointer (some ⟨Y, 0, none⟩)) := (HB0.out.cell (p := ⟨Bn, 2, none⟩) hBl).trans (cells_all H.out.bn 2)
  have hBz : Bn < W0.heap.size := by have := HB0.out.size; omega
  have HTR := hide (trail_calls W0 Y S LB _ _ full (HSY.out _ HB0.out).sys (HSY.out _ HB0.out).st (HSY.out _ HB0.out).pk (HSY.out _ HB0.out).plen)
  have HPK := hide (HSY.out W0 HB0.out).pk
  have HPL := hide (HSY.out W0 HB0.out).plen
  obtain ⟨l, tx, hR, hT, hTB1, hTB2⟩ := HTX.out.l
  have HRR0 := hide hR
  have HRT0 := hide hT
  have HTB := hide (And.intro hTB1 hTB2)
  clear hTB1 hTB2
  have HTO := hide (trailR_ok HPK.out hR)
  rw [hR] at HTR
  clear hR
  go_upto_region 25 with (go_at_call 37; refine HTR.out.mono ?_; rintro e W1 hp; obtain ⟨v, zt, rfl, ho, hzp, hzl, hb⟩ := hp; obtain ⟨a, n, c, rfl⟩ := ho.form3; have HOW := hide ho; have HZP := hide hzp; have HZL := hide hzl; have HW01 : Hid (W0.heap.size ≤ W1.heap.size) := hb.size; have HS1 := hide (HS0.out.next hb); have HB1 := hide (HB0.out.trans (hb.mono HB0.out.size)); clear hb ho hzp hzl)
  have hzt : zt.length ≤ 4000000 := by
    have h1 := congrArg List.length HZL.out
    rw [List.length_map] at h1
    have h2 := HTO.out.2
    have h3 := HPL.out
    omega
  have hnn : n ≤ 4000000 := by
    obtain ⟨a', c', e⟩ := HOW.out.form
    injection e with e1 e2 e3
    omega
  have hrr := renderTrail_calls W1 (fun _ => True) rn kn ft a n c zt (RArr.mono (HOW.out.rows zeCs_size (by decide) (by omega)) (fun _ _ => rfl) (fun _ _ => trivial)) (fun z hz => RArr.mono (HZP.out z hz) (fun _ _ => rfl) (fun _ _ => trivial)) (by omega) (HGL.out _ HB1.out).nm (fun z hz => HTO.out.1 _ (by rw [← HZL.out]; exact List.mem_map_of_mem hz))
  rw [HZL.out] at hrr
  have HRR := hide hrr
  have hll : l.length ≤ 4000000 := by have h2 := HTO.out.2; have h3 := HPL.out; omega
  clear hrr q19 q20 q21 y2 hBz hz hNl q0 hzt hnn
  have HTL := hide (rtR_len (HGL.out _ HB1.out).nm.rs (HGL.out _ HB1.out).nm.ks HTO.out.1 hll hT)
  rw [hT] at HRR
  clear hT
  go_upto_region 27 with (go_at_call 79; refine HRR.out.mono ?_; rintro e W3 ⟨v, rfl, hown, hb⟩; obtain ⟨va, vn, vc, rfl⟩ := hown.form3; have HOX := hide hown; have HW03 : Hid (W0.heap.size ≤ W3.heap.size) := Nat.le_trans HW01.out hb.size; have HS3 := hide (HS1.out.next hb); have HB3 := hide (HB1.out.trans (hb.mono HB1.out.size)); clear hb hown)
  obtain ⟨-, -, hq, -, -, hz⟩ := HS3.out.facts
  have q19 := hq 19
  have q20 := hq 20
  have q21 := hq 21
  simp only [opA, List.getElem?_toArray, List.getElem?_cons_zero, List.getElem?_cons_succ] at q19 q20 q21
  clear hq
  have HDM := hide (damage_x W3 _ _ (.slice va vn vc) dv tx o.data o.mode o.num (HOX.out.rows byteCs_size (by decide) (by have := HTL.out; omega)) (HO.out W3 HB3.out).data ⟨HMO.out.1, HMO.out.2⟩ ⟨HNU.out.1, HNU.out.2⟩ (by have := HTL.out; omega) (by have := (HO.out W3 HB3.out).ld; omega))
  have HLD := hide (HO.out W3 HB3.out).ld
  have HDB : Hid (ByteL (dmgP tx o.mode o.num o.data)) := dmgP_byte _ _ HTB.out.2 HTX.out.d
  have HDL : Hid ((dmgP tx o.mode o.num o.data).length ≤ 100000000) := Nat.le_trans (dmgP_len _ _ _ _) (by have := HTB.out.1; have := HLD.out; omega)
  obtain ⟨bs', hbs'⟩ : ∃ bs', bs' = dmgP tx o.mode o.num o.data := ⟨_, rfl⟩
  rw [← hbs'] at HDM HDB HDL
  have HBS := hide hbs'
  clear hbs'
  go_upto_region 28 with (first
    | (go_at_call 51; refine HDM.out.mono ?_; rintro e W6 ⟨dv', rfl, hby, hb⟩; have HBY := hide hby; have HW06 : Hid (W0.heap.size ≤ W6.heap.size) := Nat.le_trans HW03.out hb.size; have HS6 := hide (HS3.out.next hb); have HB6 := hide (HB3.out.trans (hb.mono HB3.out.size)); clear hby hb)
    | (go_at_call 80; refine (parseTrail_q _ _ rn kn ft _ bs' HBY.out HDB.out HDL.out (HGL.out _ HB6.out).nm HNG.out).mono ?_; rintro e W4 ⟨fa, fn, fc, ev, ec, rfl, hev, hpf, hb⟩; have HPF := hide hpf; have HEN := hide hev; have HS4 := hide (HS6.out.next hb); have HB4 := hide (HB6.out.trans (hb.mono HB6.out.size)); have c47 := HS4.out.facts.2.2.2.1 47; simp only [ansCs, ans0, noS, sv, List.getElem?_toArray, List.getElem?_cons_zero, List.getElem?_cons_succ] at c47; have g47 := HS4.out.facts.2.2.2.2.1 47; clear hev hpf hb))
  have HS2 := hide (HS4.out.cell (j := 47) (v := .slice fa fn fc) { ans0 with trail := (fa, fn, fc) } rfl).1
  have HB2 := hide (HB4.out.setCell (p := ⟨w.heap.size + 2, 47, none⟩) (by simp) (.slice fa fn fc))
  have HEV : Hid (ErrV (W4.setCell ⟨w.heap.size + 2, 47, none⟩ (.slice fa fn fc)) ev ec) := HEN.out.keep (fun E h1 _ => Below.heap_setCell _ _ _ _ (by have := HS6.out.facts.2.2.2.2.2; show E ≠ w.heap.size + 2; omega))
  have HZP : Hid (W0.heap.size ≤ W6.heap.size) := HW06.out
  have HK2 : Hid (∀ b, W6.heap.size ≤ b → b < W4.heap.size → (W4.setCell ⟨w.heap.size + 2, 47, none⟩ (.slice fa fn fc)).heap[b]? = W4.heap[b]?) := fun b p0 p1 => Below.heap_setCell _ _ _ _ (by have := HS6.out.facts.2.2.2.2.2; show b ≠ w.heap.size + 2; omega)
  have HZ2 : Hid (W4.heap.size ≤ (W4.setCell ⟨w.heap.size + 2, 47, none⟩ (.slice fa fn fc)).heap.size) := (by simp : W4.heap.size ≤ (World.setCell _ _ _).heap.size)
  clear HEN HS4 HB4 HDM c47 g47
  generalize World.setCell _ _ _ = W2 at *
  go_upto_region 29 with (go_at_call 49; refine (benchCode_calls _ rn kn ft _ ec (HGL.out _ HB2.out).nm HEV.out).mono ?_; rintro e W5 ⟨rfl, hb⟩; have HS5 := hide (HS2.out.next hb); have HB5 := hide (HB2.out.trans (hb.mono (HB2.out.size))); have c40 := HS5.out.facts.2.2.2.1 40; simp only [ansCs, List.getElem?_toArray, List.getElem?_cons_zero, List.getElem?_cons_succ] at c40; have HK5 : Hid (∀ b, W6.heap.size ≤ b → b < W4.heap.size → W5.heap[b]? = W4.heap[b]?) := (fun b p0 p1 => (hb.block b (Nat.lt_of_lt_of_le p1 HZ2.out)).trans (HK2.out b p0 p1)); have g40 := HS5.out.facts.2.2.2.2.1 40; clear hb)
  have HS8 := hide (HS5.out.cell (j := 40) (v := .int .u8 ec) { { ans0 with trail := (fa, fn, fc) } with code := ec } rfl).1
  have HB8 := hide (HB5.out.setCell (p := ⟨w.heap.size + 2, 40, none⟩) (by simp) (.int .u8 ec))
  have HK6 : Hid (∀ b, W6.heap.size ≤ b → b < W4.heap.size → (World.setCell W5 ⟨w.heap.size + 2, 40, none⟩ (.int .u8 ec)).heap[b]? = W4.heap[b]?) := fun b p0 p1 => (Below.heap_setCell _ _ _ _ (by have := HS0.out.facts.2.2.2.2.2; have := HZP.out; show b ≠ w.heap.size + 2; omega)).trans (HK5.out b p0 p1)
  generalize World.setCell _ _ _ = W8 at *
  clear c40 g40
  have h1 := HS8.out.facts.1
  have h2 := HS8.out.facts.2.1
  go_wp2
  have f1 := heap_setRow_at (ds := ansCs { { ans0 with trail := (fa, fn, fc) } with code := ec }) HS8.out.rs
  refine bodyPost_ret (results_cell1 Tryz.results21 _ _ (w.heap.size + 1) _ _ _ _ rfl f1 Tryz.underlying77 rfl (by kernel_rfl)) rfl ?_
  exact StY.same H.out (HB8.out.trans ⟨rfl, rfl, rfl, by simp, fun k hk => setRow_other _ _ _ _ (by omega)⟩) HSE.out ⟨fun k => by omega, fun k => by omega, fun k => by omega, fun k => by omega, fun k => by omega, fun _ l' b h1 h2 => (by cases Option.some.inj (HRR0.out.symm.trans h1); cases Except.ok.inj (HRT0.out.symm.trans h2); rw [← HBS.out]; exact HPF.out.ans (show w.heap.size ≤ W6.heap.size by have := HS0.out.facts.2.2.2.2.2; have := HZP.out; omega) (fun b q1 q2 => (setRow_other _ _ _ _ (by have := HS0.out.facts.2.2.2.2.2; have := HZP.out; omega)).trans (HK6.out b q1 q2))), fun k => by omega⟩

end Go.Proofs.Qxb6500666aGreatDoor
