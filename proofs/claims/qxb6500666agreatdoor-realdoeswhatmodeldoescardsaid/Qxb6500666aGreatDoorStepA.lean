/- A step of the bench, kind by kind. (Made by tools/mk_zstep.py.) -/
import Derived.Test.Qxb6500666aGreatDoorStepP
namespace Go.Proofs.Qxb6500666aGreatDoor
open Go.RowKit
attribute [local go_sem] ext_const Ext.cell Ext.frozen Ext.rng Ext.whole
attribute [local go_sem ↓] exec_ldAns exec_stAns exec_ldFile exec_stFile exec_ldReq exec_stRsp
attribute [local go_sem] run_ldAns run_stAns run_ldFile run_ldReq ansCs_ones opA_size whole_alloc_lt whole_alloc_at whole_drew setRow_alloc_at setRow_alloc_lt rng_alloc_lt rng_alloc_at rng_drew rng_drewN rng_setCell_other whole_setCell_other


set_option maxRecDepth 100000 in
set_option maxHeartbeats 4000000 in
theorem stepD (w : World) (Bn Y S LB base : Nat) (pv : Value) (A ok oko okg : Nat → Prop) (zs : List ZP) (full : Bool) (off lar : Int) (x : LV) (L : Low) (o : Op) (lv dv : Value) (ca : Option Addr) (cn cc : Nat) (rn kn ft : Nat → ByteArray) (h : BN w Bn Y S LB base pv A ok zs full off lar x L) (hp : PO (zs.map (·.2)) L) (ho : OpIn w oko o lv dv ca cn cc) (hgl : Gl w base rn kn ft okg) (hk : o.kind ≠ 1 ∧ o.kind ≠ 2 ∧ o.kind ≠ 3 ∧ o.kind ≠ 4 ∧ o.kind ≠ 5 ∧ o.kind ≠ 6 ∧ o.kind ≠ 7) :
    Calls Tryz.prog 21 #[.pointer (some ⟨Bn, 0, none⟩), .agg (opA o lv dv ca cn cc)] w fun e w' => StPost w w' Bn S LB base e (stepR ⟨zs.map (·.2), full, off, lar, L⟩ o) := by
  obtain ⟨s', hs'⟩ : ∃ s', s' = stepR ⟨zs.map (·.2), full, off, lar, L⟩ o := ⟨_, rfl⟩
  rw [← hs']
  have HSE : Hid (s' = ⟨zs.map (·.2), full, off, lar, L⟩) := hs'.trans (by unfold stepR; rw [if_neg (by omega), if_neg (by omega)])
  clear hs'
  have H := hide h
  have HP := hide hp
  have HO := hide (fun W (hb : Below w.heap.size w W) => ho.below hb)
  have hbl : base ≤ w.heap.size := by have := h.bs.bs; have := blk_lt h.bs.lb; omega
  have HGL := hide (fun W (hb : Below w.heap.size w W) => hgl.same hb hbl)
  have HSY := hide (fun W (hb : Below w.heap.size w W) => (h.bs.toSys hp).below hb)
  have hBl := blk_lt h.bn
  have n1 : (o.kind == 1) = false := by simp; omega
  have n2 : (o.kind == 2) = false := by simp; omega
  have n3 : (o.kind == 3) = false := by simp; omega
  have n4 : (o.kind == 4) = false := by simp; omega
  have n5 : (o.kind == 5) = false := by simp; omega
  have n6 : (o.kind == 6) = false := by simp; omega
  have n7 : (o.kind == 7) = false := by simp; omega

  clear h hp ho hgl
  go_enter Tryz.func21, Tryz.ntmps21
  go_upto_region 3 with fail
  have HS0 := hide (SB.start w (opA o lv dv ca cn cc)).1
  have HB0 := hide (SB.start w (opA o lv dv ca cn cc)).2
  change Code.wp _ _ _ _ (((w.alloc (.cells (opA o lv dv ca cn cc) 61)).alloc (.cells (ansCs ans0) 77)).alloc (.cells (ansCs ans0) 77))
  generalize (((w.alloc (.cells (opA o lv dv ca cn cc) 61)).alloc (.cells (ansCs ans0) 77)).alloc (.cells (ansCs ans0) 77)) = W0 at *
  obtain ⟨-, -, hq, -, -, hz⟩ := HS0.out.facts
  have hNl : w.heap.size < W0.heap.size := by omega
  have q0 := hq 0
  simp only [opA, List.getElem?_toArray, List.getElem?_cons_zero] at q0
  clear hq
  go_upto_region 28 with fail
  have HEV : Hid (ErrV W0 (.iface 63 (.int .u8 1)) 1) := ErrV.code 1 (u8c 1 (by decide)) (by decide)
  go_upto_region 29 with (go_at_call 49; refine (benchCode_calls _ rn kn ft _ 1 (HGL.out _ HB0.out).nm HEV.out).mono ?_; rintro e W5 ⟨rfl, hb⟩; have HS5 := hide (HS0.out.next hb); have HB5 := hide (HB0.out.trans (hb.mono (HB0.out.size))); have c40 := HS5.out.facts.2.2.2.1 40; simp only [ansCs, List.getElem?_toArray, List.getElem?_cons_zero, List.getElem?_cons_succ] at c40; have g40 := HS5.out.facts.2.2.2.2.1 40; clear hb)
  have HS6 := hide (HS5.out.cell (j := 40) (v := .int .u8 1) { ans0 with code := 1 } rfl).1
  have HB6 := hide (HB5.out.setCell (p := ⟨w.heap.size + 2, 40, none⟩) (by simp) (.int .u8 1))
  generalize World.setCell _ _ _ = W6 at *
  clear c40 g40
  have h1 := HS6.out.facts.1
  have h2 := HS6.out.facts.2.1
  go_wp2
  have f1 := heap_setRow_at (ds := ansCs { ans0 with code := 1 }) HS6.out.rs
  refine bodyPost_ret (results_cell1 Tryz.results21 _ _ (w.heap.size + 1) _ _ _ _ rfl f1 Tryz.underlying77 rfl (by kernel_rfl)) rfl ?_
  exact StPost.same H.out (HB6.out.trans ⟨rfl, rfl, rfl, by simp, fun k hk => setRow_other _ _ _ _ (by omega)⟩) HSE.out


set_option maxRecDepth 100000 in
set_option maxHeartbeats 4000000 in
theorem step4 (w : World) (Bn Y S LB base : Nat) (pv : Value) (A ok oko okg : Nat → Prop) (zs : List ZP) (full : Bool) (off lar : Int) (x : LV) (L : Low) (o : Op) (lv dv : Value) (ca : Option Addr) (cn cc : Nat) (rn kn ft : Nat → ByteArray) (h : BN w Bn Y S LB base pv A ok zs full off lar x L) (hp : PO (zs.map (·.2)) L) (ho : OpIn w oko o lv dv ca cn cc) (hgl : Gl w base rn kn ft okg) (hk : o.kind = 4) :
    Calls Tryz.prog 21 #[.pointer (some ⟨Bn, 0, none⟩), .agg (opA o lv dv ca cn cc)] w fun e w' => StPost w w' Bn S LB base e (stepR ⟨zs.map (·.2), full, off, lar, L⟩ o) := by
  obtain ⟨s', hs'⟩ : ∃ s', s' = stepR ⟨zs.map (·.2), full, off, lar, L⟩ o := ⟨_, rfl⟩
  rw [← hs']
  have HSE : Hid (s' = ⟨zs.map (·.2), full, off, lar, L⟩) := hs'.trans (by unfold stepR; rw [if_neg (by omega), if_neg (by omega)])
  clear hs'
  have H := hide h
  have HP := hide hp
  have HO := hide (fun W (hb : Below w.heap.size w W) => ho.below hb)
  have hbl : base ≤ w.heap.size := by have := h.bs.bs; have := blk_lt h.bs.lb; omega
  have HGL := hide (fun W (hb : Below w.heap.size w W) => hgl.same hb hbl)
  have HSY := hide (fun W (hb : Below w.heap.size w W) => (h.bs.toSys hp).below hb)
  have hBl := blk_lt h.bn


  clear h hp ho hgl
  go_enter Tryz.func21, Tryz.ntmps21
  go_upto_region 3 with fail
  have HS0 := hide (SB.start w (opA o lv dv ca cn cc)).1
  have HB0 := hide (SB.start w (opA o lv dv ca cn cc)).2
  change Code.wp _ _ _ _ (((w.alloc (.cells (opA o lv dv ca cn cc) 61)).alloc (.cells (ansCs ans0) 77)).alloc (.cells (ansCs ans0) 77))
  generalize (((w.alloc (.cells (opA o lv dv ca cn cc) 61)).alloc (.cells (ansCs ans0) 77)).alloc (.cells (ansCs ans0) 77)) = W0 at *
  obtain ⟨-, -, hq, -, -, hz⟩ := HS0.out.facts
  have hNl : w.heap.size < W0.heap.size := by omega
  have q0 := hq 0
  simp only [opA, List.getElem?_toArray, List.getElem?_cons_zero] at q0
  have q21 := hq 21
  simp only [opA, List.getElem?_toArray, List.getElem?_cons_zero, List.getElem?_cons_succ] at q21
  rw [hk] at q0
  clear hq
  have HPA := hide (parse_any W0 _ dv o.data (HO.out W0 HB0.out).data (by have := (HO.out W0 HB0.out).ld; omega))
  go_upto_region 28 with (go_at_call 33; refine HPA.out.mono ?_; rintro e W1 hans; obtain ⟨k, s, i, bb, fa, fn, fc, ev, ec, rfl, hev, hb⟩ := hans.one; have HEN := hide hev; have HS1 := hide (HS0.out.next hb); have HB1 := hide (HB0.out.trans (hb.mono HB0.out.size)); have hst := run_stFileA _ _ _ k s i bb fa fn fc HS1.out.an; clear hans hev hb)
  have HS2 := hide (HS1.out.row { ans0 with fk := k, fs := s, fi := i, fb := bb, fc := (fa, fn, fc) })
  have HB2 : Hid (Below w.heap.size w (W1.setRow (w.heap.size + 2) (ansCs { ans0 with fk := k, fs := s, fi := i, fb := bb, fc := (fa, fn, fc) }))) := HB1.out.trans ⟨rfl, rfl, rfl, by simp, fun k hk => setRow_other _ _ _ _ (by omega)⟩
  have HEV : Hid (ErrV (W1.setRow (w.heap.size + 2) (ansCs { ans0 with fk := k, fs := s, fi := i, fb := bb, fc := (fa, fn, fc) })) ev ec) := HEN.out.keep (fun E h1 _ => setRow_other _ _ _ _ (by have := HS0.out.facts.2.2.2.2.2; omega))
  clear hst HEN HS1 HB1 HPA
  generalize World.setRow _ _ _ = W2 at *
  go_upto_region 29 with (go_at_call 49; refine (benchCode_calls _ rn kn ft _ ec (HGL.out _ HB2.out).nm HEV.out).mono ?_; rintro e W5 ⟨rfl, hb⟩; have HS5 := hide (HS2.out.next hb); have HB5 := hide (HB2.out.trans (hb.mono (HB2.out.size))); have c40 := HS5.out.facts.2.2.2.1 40; simp only [ansCs, List.getElem?_toArray, List.getElem?_cons_zero, List.getElem?_cons_succ] at c40; have g40 := HS5.out.facts.2.2.2.2.1 40; clear hb)
  have HS6 := hide (HS5.out.cell (j := 40) (v := .int .u8 ec) { { ans0 with fk := k, fs := s, fi := i, fb := bb, fc := (fa, fn, fc) } with code := ec } rfl).1
  have HB6 := hide (HB5.out.setCell (p := ⟨w.heap.size + 2, 40, none⟩) (by simp) (.int .u8 ec))
  generalize World.setCell _ _ _ = W6 at *
  clear c40 g40
  have h1 := HS6.out.facts.1
  have h2 := HS6.out.facts.2.1
  go_wp2
  have f1 := heap_setRow_at (ds := ansCs { { ans0 with fk := k, fs := s, fi := i, fb := bb, fc := (fa, fn, fc) } with code := ec }) HS6.out.rs
  refine bodyPost_ret (results_cell1 Tryz.results21 _ _ (w.heap.size + 1) _ _ _ _ rfl f1 Tryz.underlying77 rfl (by kernel_rfl)) rfl ?_
  exact StPost.same H.out (HB6.out.trans ⟨rfl, rfl, rfl, by simp, fun k hk => setRow_other _ _ _ _ (by omega)⟩) HSE.out


set_option maxRecDepth 100000 in
set_option maxHeartbeats 4000000 in
theorem step6 (w : World) (Bn Y S LB base : Nat) (pv : Value) (A ok oko okg : Nat → Prop) (zs : List ZP) (full : Bool) (off lar : Int) (x : LV) (L : Low) (o : Op) (lv dv : Value) (ca : Option Addr) (cn cc : Nat) (rn kn ft : Nat → ByteArray) (h : BN w Bn Y S LB base pv A ok zs full off lar x L) (hp : PO (zs.map (·.2)) L) (ho : OpIn w oko o lv dv ca cn cc) (hgl : Gl w base rn kn ft okg) (hk : o.kind = 6) :
    Calls Tryz.prog 21 #[.pointer (some ⟨Bn, 0, none⟩), .agg (opA o lv dv ca cn cc)] w fun e w' => StPost w w' Bn S LB base e (stepR ⟨zs.map (·.2), full, off, lar, L⟩ o) := by
  obtain ⟨s', hs'⟩ : ∃ s', s' = stepR ⟨zs.map (·.2), full, off, lar, L⟩ o := ⟨_, rfl⟩
  rw [← hs']
  have HSE : Hid (s' = ⟨zs.map (·.2), full, off, lar, L⟩) := hs'.trans (by unfold stepR; rw [if_neg (by omega), if_neg (by omega)])
  clear hs'
  have H := hide h
  have HP := hide hp
  have HO := hide (fun W (hb : Below w.heap.size w W) => ho.below hb)
  have hbl : base ≤ w.heap.size := by have := h.bs.bs; have := blk_lt h.bs.lb; omega
  have HGL := hide (fun W (hb : Below w.heap.size w W) => hgl.same hb hbl)
  have HSY := hide (fun W (hb : Below w.heap.size w W) => (h.bs.toSys hp).below hb)
  have hBl := blk_lt h.bn


  clear h hp ho hgl
  go_enter Tryz.func21, Tryz.ntmps21
  go_upto_region 3 with fail
  have HS0 := hide (SB.start w (opA o lv dv ca cn cc)).1
  have HB0 := hide (SB.start w (opA o lv dv ca cn cc)).2
  change Code.wp _ _ _ _ (((w.alloc (.cells (opA o lv dv ca cn cc) 61)).alloc (.cells (ansCs ans0) 77)).alloc (.cells (ansCs ans0) 77))
  generalize (((w.alloc (.cells (opA o lv dv ca cn cc) 61)).alloc (.cells (ansCs ans0) 77)).alloc (.cells (ansCs ans0) 77)) = W0 at *
  obtain ⟨-, -, hq, -, -, hz⟩ := HS0.out.facts
  have hNl : w.heap.size < W0.heap.size := by omega
  have q0 := hq 0
  simp only [opA, List.getElem?_toArray, List.getElem?_cons_zero] at q0
  rw [hk] at q0
  clear hq
  have hrf : rng W0 w.heap.size 22 5 = some (fileCs o.file.kind o.file.seq o.file.issued o.file.base ca cn cc) := by unfold rng; rw [HS0.out.op]; rfl
  have HCH := hide (HO.out W0 HB0.out).ch
  obtain ⟨cn', hcn⟩ : ∃ cn' : Nat, cn' = cn := ⟨_, rfl⟩
  have hcl : cn = o.file.changes.length := by
    obtain ⟨_, _, _, _, e, _⟩ := HCH.out
    injection e
  by_cases hF : FileOk o.file.kind o.file.seq o.file.issued o.file.base o.file.changes
  · have hre := render_ok W0 oko o.file.kind o.file.seq o.file.issued o.file.base ca cc o.file.changes (hcl ▸ HCH.out) (by have := (HO.out W0 HB0.out).lf; omega) (HO.out W0 HB0.out).fok.seq (HO.out W0 HB0.out).fok.issued (HO.out W0 HB0.out).fok.base (HO.out W0 HB0.out).cok hF
    rw [← hcl] at hre
    have HRE := hide hre
    clear hre hF hcl
    go_upto_region 28 with (go_at_call 71; refine HRE.out.mono ?_; rintro e W1 ⟨v, rfl, hown, hb⟩; obtain ⟨va, vn, vc, rfl⟩ := hown.form3; have HS1 := hide (HS0.out.next hb); have HB1 := hide (HB0.out.trans (hb.mono HB0.out.size)); have c46 := HS1.out.facts.2.2.2.1 46; simp only [ansCs, ans0, noS, sv, List.getElem?_toArray, List.getElem?_cons_zero, List.getElem?_cons_succ] at c46; have g46 := HS1.out.facts.2.2.2.2.1 46; clear hown hb)
    have HS2 := hide (HS1.out.cell (j := 46) (v := .slice va vn vc) { ans0 with bytes := (va, vn, vc) } rfl).1
    have HB2 := hide (HB1.out.setCell (p := ⟨w.heap.size + 2, 46, none⟩) (by simp) (.slice va vn vc))
    generalize World.setCell _ _ _ = W2 at *
    have HEV : Hid (ErrV W2 .nilIface 0) := ErrV.nil
    clear c46 g46 HRE
    go_upto_region 29 with (go_at_call 49; refine (benchCode_calls _ rn kn ft _ 0 (HGL.out _ HB2.out).nm HEV.out).mono ?_; rintro e W5 ⟨rfl, hb⟩; have HS5 := hide (HS2.out.next hb); have HB5 := hide (HB2.out.trans (hb.mono (HB2.out.size))); have c40 := HS5.out.facts.2.2.2.1 40; simp only [ansCs, List.getElem?_toArray, List.getElem?_cons_zero, List.getElem?_cons_succ] at c40; have g40 := HS5.out.facts.2.2.2.2.1 40; clear hb)
    have HS6 := hide (HS5.out.cell (j := 40) (v := .int .u8 0) { { ans0 with bytes := (va, vn, vc) } with code := 0 } rfl).1
    have HB6 := hide (HB5.out.setCell (p := ⟨w.heap.size + 2, 40, none⟩) (by simp) (.int .u8 0))
    generalize World.setCell _ _ _ = W6 at *
    clear c40 g40
    have h1 := HS6.out.facts.1
    have h2 := HS6.out.facts.2.1
    go_wp2
    have f1 := heap_setRow_at (ds := ansCs { { ans0 with bytes := (va, vn, vc) } with code := 0 }) HS6.out.rs
    refine bodyPost_ret (results_cell1 Tryz.results21 _ _ (w.heap.size + 1) _ _ _ _ rfl f1 Tryz.underlying77 rfl (by kernel_rfl)) rfl ?_
    exact StPost.same H.out (HB6.out.trans ⟨rfl, rfl, rfl, by simp, fun k hk => setRow_other _ _ _ _ (by omega)⟩) HSE.out
  · have hre := render_bad W0 oko o.file.kind o.file.seq o.file.issued o.file.base ca cc o.file.changes (hcl ▸ HCH.out) hF
    rw [← hcl] at hre
    have HRE := hide hre
    clear hre hF hcl
    go_upto_region 28 with (go_at_call 71; refine HRE.out.mono ?_; rintro e W1 ⟨rfl, hb⟩; have HS1 := hide (HS0.out.next hb); have HB1 := hide (HB0.out.trans (hb.mono HB0.out.size)); have c46 := HS1.out.facts.2.2.2.1 46; simp only [ansCs, ans0, noS, sv, List.getElem?_toArray, List.getElem?_cons_zero, List.getElem?_cons_succ] at c46; have g46 := HS1.out.facts.2.2.2.2.1 46; clear hb)
    have HS2 := hide (HS1.out.cell (j := 46) (v := .slice none 0 0) ans0 rfl).1
    have HB2 := hide (HB1.out.setCell (p := ⟨w.heap.size + 2, 46, none⟩) (by simp) (.slice none 0 0))
    generalize World.setCell _ _ _ = W2 at *
    have HEV : Hid (ErrV W2 (.iface 63 (.int .u8 29)) 29) := ErrV.code 29 (u8c 29 (by decide)) (by decide)
    clear c46 g46 HRE
    go_upto_region 29 with (go_at_call 49; refine (benchCode_calls _ rn kn ft _ 29 (HGL.out _ HB2.out).nm HEV.out).mono ?_; rintro e W5 ⟨rfl, hb⟩; have HS5 := hide (HS2.out.next hb); have HB5 := hide (HB2.out.trans (hb.mono (HB2.out.size))); have c40 := HS5.out.facts.2.2.2.1 40; simp only [ansCs, List.getElem?_toArray, List.getElem?_cons_zero, List.getElem?_cons_succ] at c40; have g40 := HS5.out.facts.2.2.2.2.1 40; clear hb)
    have HS6 := hide (HS5.out.cell (j := 40) (v := .int .u8 29) { ans0 with code := 29 } rfl).1
    have HB6 := hide (HB5.out.setCell (p := ⟨w.heap.size + 2, 40, none⟩) (by simp) (.int .u8 29))
    generalize World.setCell _ _ _ = W6 at *
    clear c40 g40
    have h1 := HS6.out.facts.1
    have h2 := HS6.out.facts.2.1
    go_wp2
    have f1 := heap_setRow_at (ds := ansCs { ans0 with code := 29 }) HS6.out.rs
    refine bodyPost_ret (results_cell1 Tryz.results21 _ _ (w.heap.size + 1) _ _ _ _ rfl f1 Tryz.underlying77 rfl (by kernel_rfl)) rfl ?_
    exact StPost.same H.out (HB6.out.trans ⟨rfl, rfl, rfl, by simp, fun k hk => setRow_other _ _ _ _ (by omega)⟩) HSE.out

end Go.Proofs.Qxb6500666aGreatDoor
