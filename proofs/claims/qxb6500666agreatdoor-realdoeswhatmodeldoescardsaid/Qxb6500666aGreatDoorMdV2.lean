/- The model's Step: parsing. (Made by tools/mk_mst.py.) -/
import Derived.Test.Qxb6500666aGreatDoorMdV
namespace Go.Proofs.Qxb6500666aGreatDoor
open Go.RowKit
attribute [local go_sem] ext_const Ext.cell Ext.frozen Ext.rng Ext.whole
attribute [local go_sem ↓] exec_ldAns exec_stAns exec_ldFile exec_stFile exec_ldReq exec_stRsp
attribute [local go_sem] run_ldAns run_stAns run_ldFile run_stFile run_ldReq ansCs_ones opA_size fileCs_size fileCs_ones fileCs_all file_ones whole_alloc_lt whole_alloc_at whole_drew setRow_alloc_at setRow_alloc_lt rng_alloc_lt rng_alloc_at rng_drew rng_drewN rng_setCell_other whole_setCell_other

set_option maxRecDepth 100000 in
set_option maxHeartbeats 8000000 in
theorem mst4_calls (rn kn ft : Nat → ByteArray) (okg : Nat → Prop) (w : World) (M : Nat) (ok : Nat → Prop) (v : MV) (m : Mod) (o : Op) (lv dv : Value) (ca : Option Addr) (cn cc : Nat) (h : StI rn kn ft okg w M ok v m o lv dv ca cn cc) (hk : o.kind = 4) :
    Calls Tryz.prog 22 #[.pointer (some ⟨M, 0, none⟩), .agg (opA o lv dv ca cn cc)] w fun e w' => MStp rn kn w w' M ok m o e := by
  have HH := hide h
  have zM := blk_lt h.at'.top
  clear h
  go_enter Tryz.func22, Tryz.ntmps22
  go_upto_region 2 with fail
  have HS0 := hide (SB.start w (opA o lv dv ca cn cc)).1
  have HB0 := hide (SB.start w (opA o lv dv ca cn cc)).2
  change Code.wp _ _ _ _ (((w.alloc (.cells (opA o lv dv ca cn cc) 61)).alloc (.cells (ansCs ans0) 77)).alloc (.cells (ansCs ans0) 77))
  generalize (((w.alloc (.cells (opA o lv dv ca cn cc) 61)).alloc (.cells (ansCs ans0) 77)).alloc (.cells (ansCs ans0) 77)) = W0 at *
  obtain ⟨-, -, hq, -, -, hz⟩ := HS0.out.facts
  have q0 := hq 0
  have q21 := hq 21
  simp only [opA, List.getElem?_toArray, List.getElem?_cons_zero, List.getElem?_cons_succ] at q0 q21
  clear hq
  have zM0 : M < W0.heap.size := by omega
  rw [hk] at q0
  obtain ⟨p, hp⟩ : ∃ p, p = pkF o.data := ⟨_, rfl⟩
  have HP : Hid (pkF o.data = p) := hp.symm
  clear hp
  have hzb := HB0.out.size
  cases ht : p.t with
  | false =>
    have HPC := hide (mparse_no W0 ok dv o.data (RArr.below HH.out.op.data HB0.out) HH.out.by' (by have := HH.out.op.ld; omega) HP.out ht)
    go_upto_region 24 with (go_at_call 82; refine HPC.out.mono ?_; rintro e W1 ⟨rfl, hb⟩; have HS1 := hide (HS0.out.next hb); have HB1 := hide (HB0.out.trans (hb.mono hzb)); have hst : (stS 59 (.pointer (some ⟨w.heap.size + 2, 41, none⟩)) (.agg zFile)).run Tryz.prog W1 = .ok () (W1.setRow (w.heap.size + 2) (ansCs { ans0 with fk := 0, fs := 0, fi := 0, fb := 0, fc := (none, 0, 0) })) := run_stFileA W1 (w.heap.size + 2) ans0 0 0 0 0 none 0 0 HS1.out.an; have HSa := hide (HS1.out.row { ans0 with fk := 0, fs := 0, fi := 0, fb := 0, fc := (none, 0, 0) }); have c40 : (W1.setRow (w.heap.size + 2) (ansCs { ans0 with fk := 0, fs := 0, fi := 0, fb := 0, fc := (none, 0, 0) })).cell? ⟨w.heap.size + 2, 40, none⟩ = some (.int .u8 0) := (HSa.out.facts.2.2.2.1 40).trans rfl; have g40 := HSa.out.facts.2.2.2.2.1 40; have zz := HSa.out.facts.2.2.2.2.2; have HBa : Hid (Below w.heap.size w (W1.setRow (w.heap.size + 2) (ansCs { ans0 with fk := 0, fs := 0, fi := 0, fb := 0, fc := (none, 0, 0) }))) := HB1.out.trans ⟨rfl, rfl, rfl, (by simp), fun k hk => setRow_other _ _ _ _ (by omega)⟩; clear hb)
    have HSb := hide (HSa.out.cell (j := 40) (v := .int .u8 29) { ans0 with code := 29 } rfl).1
    have HBb : Hid (Below w.heap.size w ((W1.setRow (w.heap.size + 2) (ansCs { ans0 with fk := 0, fs := 0, fi := 0, fb := 0, fc := (none, 0, 0) })).setCell ⟨w.heap.size + 2, 40, none⟩ (.int .u8 29))) := HBa.out.setCell (p := ⟨w.heap.size + 2, 40, none⟩) (by simp) _
    have HFb : Hid (∀ b, b ≠ w.heap.size + 2 → ((W1.setRow (w.heap.size + 2) (ansCs { ans0 with fk := 0, fs := 0, fi := 0, fb := 0, fc := (none, 0, 0) })).setCell ⟨w.heap.size + 2, 40, none⟩ (.int .u8 29)).heap[b]? = W1.heap[b]?) := fun b hb => (Below.heap_setCell _ _ _ _ hb).trans (setRow_other _ _ _ _ hb)
    generalize World.setCell _ _ _ = W5 at *
    clear c40 g40 hst HSa HBa zz
    have s1 := HSb.out.facts.1
    have s2 := HSb.out.facts.2.1
    have s3 := HSb.out.facts.2.2.2.2.2
    go_wp2
    have HF := hide (heap_setRow_at (ds := ansCs { ans0 with code := 29 }) HSb.out.rs)
    refine bodyPost_ret (results_cell1 Tryz.results22 _ _ (w.heap.size + 1) _ _ _ _ rfl HF.out Tryz.underlying77 rfl (by kernel_rfl)) rfl ?_
    have hfb : Below w.heap.size w (W5.setRow (w.heap.size + 1) (ansCs { ans0 with code := 29 })) := HBb.out.trans ⟨rfl, rfl, rfl, by simp, fun k hk => setRow_other _ _ _ _ (by omega)⟩
    exact MStp.same HH.out.at' hfb (by omega) (by omega) ⟨fun k => by omega, fun k => by omega, fun _ => by rw [HP.out]; exact Or.inl ⟨ht, rfl⟩, fun k => by omega, fun k => by omega, fun k => by omega, fun k => by omega⟩
  | true =>
    have HPC := hide (mparse_yes W0 ok dv o.data (RArr.below HH.out.op.data HB0.out) HH.out.by' (by have := HH.out.op.ld; omega) HP.out ht)
    go_upto_region 24 with (go_at_call 82; refine HPC.out.mono ?_; rintro e W1 ⟨ad, cap, rfl, hch, hb⟩; have HCH := hide hch; have HS1 := hide (HS0.out.next hb); have HB1 := hide (HB0.out.trans (hb.mono hzb)); have hst : (stS 59 (.pointer (some ⟨w.heap.size + 2, 41, none⟩)) (.agg (fileCs p.k p.s p.i p.bb ad p.cs.length cap))).run Tryz.prog W1 = .ok () (W1.setRow (w.heap.size + 2) (ansCs { ans0 with fk := p.k, fs := p.s, fi := p.i, fb := p.bb, fc := (ad, p.cs.length, cap) })) := run_stFileA W1 (w.heap.size + 2) ans0 p.k p.s p.i p.bb ad p.cs.length cap HS1.out.an; have HSa := hide (HS1.out.row { ans0 with fk := p.k, fs := p.s, fi := p.i, fb := p.bb, fc := (ad, p.cs.length, cap) }); have c40 : (W1.setRow (w.heap.size + 2) (ansCs { ans0 with fk := p.k, fs := p.s, fi := p.i, fb := p.bb, fc := (ad, p.cs.length, cap) })).cell? ⟨w.heap.size + 2, 40, none⟩ = some (.int .u8 0) := (HSa.out.facts.2.2.2.1 40).trans rfl; have g40 := HSa.out.facts.2.2.2.2.1 40; have zz := HSa.out.facts.2.2.2.2.2; have HBa : Hid (Below w.heap.size w (W1.setRow (w.heap.size + 2) (ansCs { ans0 with fk := p.k, fs := p.s, fi := p.i, fb := p.bb, fc := (ad, p.cs.length, cap) }))) := HB1.out.trans ⟨rfl, rfl, rfl, (by simp), fun k hk => setRow_other _ _ _ _ (by omega)⟩; clear hb hch)
    have HSb := hide (HSa.out.cell (j := 40) (v := .int .u8 0) { ans0 with fk := p.k, fs := p.s, fi := p.i, fb := p.bb, fc := (ad, p.cs.length, cap) } rfl).1
    have HBb : Hid (Below w.heap.size w ((W1.setRow (w.heap.size + 2) (ansCs { ans0 with fk := p.k, fs := p.s, fi := p.i, fb := p.bb, fc := (ad, p.cs.length, cap) })).setCell ⟨w.heap.size + 2, 40, none⟩ (.int .u8 0))) := HBa.out.setCell (p := ⟨w.heap.size + 2, 40, none⟩) (by simp) _
    have HFb : Hid (∀ b, b ≠ w.heap.size + 2 → ((W1.setRow (w.heap.size + 2) (ansCs { ans0 with fk := p.k, fs := p.s, fi := p.i, fb := p.bb, fc := (ad, p.cs.length, cap) })).setCell ⟨w.heap.size + 2, 40, none⟩ (.int .u8 0)).heap[b]? = W1.heap[b]?) := fun b hb => (Below.heap_setCell _ _ _ _ hb).trans (setRow_other _ _ _ _ hb)
    generalize World.setCell _ _ _ = W5 at *
    clear c40 g40 hst HSa HBa zz
    have s1 := HSb.out.facts.1
    have s2 := HSb.out.facts.2.1
    have s3 := HSb.out.facts.2.2.2.2.2
    go_wp2
    have HF := hide (heap_setRow_at (ds := ansCs { ans0 with fk := p.k, fs := p.s, fi := p.i, fb := p.bb, fc := (ad, p.cs.length, cap) }) HSb.out.rs)
    refine bodyPost_ret (results_cell1 Tryz.results22 _ _ (w.heap.size + 1) _ _ _ _ rfl HF.out Tryz.underlying77 rfl (by kernel_rfl)) rfl ?_
    have hfb : Below w.heap.size w (W5.setRow (w.heap.size + 1) (ansCs { ans0 with fk := p.k, fs := p.s, fi := p.i, fb := p.bb, fc := (ad, p.cs.length, cap) })) := HBb.out.trans ⟨rfl, rfl, rfl, by simp, fun k hk => setRow_other _ _ _ _ (by omega)⟩
    exact MStp.same HH.out.at' hfb (by omega) (by omega) ⟨fun k => by omega, fun k => by omega, fun _ => by rw [HP.out]; exact Or.inr ⟨ht, ad, cap, rfl, RArr.mono HCH.out (fun b hb => (setRow_other _ _ _ _ (by omega)).trans (HFb.out b (by omega))) (fun b hb => by omega)⟩, fun k => by omega, fun k => by omega, fun k => by omega, fun k => by omega⟩

set_option maxRecDepth 100000 in
set_option maxHeartbeats 8000000 in
theorem mst5_calls (rn kn ft : Nat → ByteArray) (okg : Nat → Prop) (w : World) (M : Nat) (ok : Nat → Prop) (v : MV) (m : Mod) (o : Op) (lv dv : Value) (ca : Option Addr) (cn cc : Nat) (h : StI rn kn ft okg w M ok v m o lv dv ca cn cc) (hk : o.kind = 5) :
    Calls Tryz.prog 22 #[.pointer (some ⟨M, 0, none⟩), .agg (opA o lv dv ca cn cc)] w fun e w' => MStp rn kn w w' M ok m o e := by
  have HH := hide h
  have zM := blk_lt h.at'.top
  clear h
  go_enter Tryz.func22, Tryz.ntmps22
  go_upto_region 2 with fail
  have HS0 := hide (SB.start w (opA o lv dv ca cn cc)).1
  have HB0 := hide (SB.start w (opA o lv dv ca cn cc)).2
  change Code.wp _ _ _ _ (((w.alloc (.cells (opA o lv dv ca cn cc) 61)).alloc (.cells (ansCs ans0) 77)).alloc (.cells (ansCs ans0) 77))
  generalize (((w.alloc (.cells (opA o lv dv ca cn cc) 61)).alloc (.cells (ansCs ans0) 77)).alloc (.cells (ansCs ans0) 77)) = W0 at *
  obtain ⟨-, -, hq, -, -, hz⟩ := HS0.out.facts
  have q0 := hq 0
  have q18 := hq 18
  have q19 := hq 19
  have q20 := hq 20
  have q21 := hq 21
  simp only [opA, List.getElem?_toArray, List.getElem?_cons_zero, List.getElem?_cons_succ] at q0 q18 q19 q20 q21
  clear hq
  have zM0 : M < W0.heap.size := by omega
  rw [hk] at q0
  have HM0 := hide (HH.out.at'.below HB0.out)
  have HUI := hide (mIss_calls W0 M ok v m o.seq HM0.out HH.out.op.seq (by have := HH.out.inv.fl; omega))
  have hzb := HB0.out.size
  cases hf : mIss m o.seq with
  | none =>
    rw [hf] at HUI
    go_upto_region 14 with (go_at_call 83; refine HUI.out.mono ?_; rintro e W1 ⟨hp, hb⟩; have hp : e = .returned (.tuple #[.agg zFile, .bool false]) := hp; subst hp)
    have HS1 := hide (HS0.out.next (hb.alloc hb.size (.cells zFile 59)))
    have HB1 := hide (HB0.out.trans ((hb.alloc hb.size (.cells zFile 59)).mono hzb))
    generalize W1.alloc (.cells zFile 59) = W2 at *
    have c40 := HS1.out.facts.2.2.2.1 40
    simp only [ansCs, List.getElem?_toArray, List.getElem?_cons_zero, List.getElem?_cons_succ] at c40
    have g40 := HS1.out.facts.2.2.2.2.1 40
    have zz := HS1.out.facts.2.2.2.2.2
    go_upto_region 24 with fail
    have HS3 := hide (HS1.out.cell (j := 40) (v := .int .u8 23) { ans0 with code := 23 } rfl).1
    have HB3 : Hid (Below w.heap.size w (W2.setCell ⟨w.heap.size + 2, 40, none⟩ (.int .u8 23))) := HB1.out.setCell (p := ⟨w.heap.size + 2, 40, none⟩) (by simp) _
    generalize World.setCell _ _ _ = W3 at *
    clear c40 g40 zz
    have s1 := HS3.out.facts.1
    have s2 := HS3.out.facts.2.1
    have s3 := HS3.out.facts.2.2.2.2.2
    go_wp2
    have HF := hide (heap_setRow_at (ds := ansCs { ans0 with code := 23 }) HS3.out.rs)
    refine bodyPost_ret (results_cell1 Tryz.results22 _ _ (w.heap.size + 1) _ _ _ _ rfl HF.out Tryz.underlying77 rfl (by kernel_rfl)) rfl ?_
    have hfb : Below w.heap.size w (W3.setRow (w.heap.size + 1) (ansCs { ans0 with code := 23 })) := HB3.out.trans ⟨rfl, rfl, rfl, by simp, fun k hk => setRow_other _ _ _ _ (by omega)⟩
    exact MStp.same HH.out.at' hfb (by omega) (by omega) ⟨fun k => by omega, fun k => by omega, fun k => by omega, fun _ => ⟨fun _ => rfl, fun f h => by rw [hf] at h; cases h⟩, fun k => by omega, fun k => by omega, fun k => by omega⟩
  | some f =>
    have HF := hide (HH.out.inv.file f (mIss_mem hf))
    have hcl := HH.out.inv.cl f (mIss_mem hf)
    rw [hf] at HUI
    go_upto_region 15 with (go_at_call 83; refine HUI.out.mono ?_; rintro e W1 ⟨⟨a, n, c, rfl, hch⟩, hb⟩)
    have hn : n = f.changes.length := by obtain ⟨_, _, _, _, e, -⟩ := hch; injection e
    have hb2 : Below W1.heap.size W1 (W1.alloc (.cells (fileCs f.kind f.seq f.issued f.base a n c) 59)) := (Below.refl _ _).alloc (Nat.le_refl _) _
    have hkf : (W1.alloc (.cells (fileCs f.kind f.seq f.issued f.base a n c) 59)).heap[W1.heap.size]? = some (.cells (fileCs f.kind f.seq f.issued f.base a n c) 59 (0, 0)) := heap_alloc_at _ _
    have HCH := hide (RArr.below hch hb2)
    have hbc : Below W0.heap.size W0 (W1.alloc (.cells (fileCs f.kind f.seq f.issued f.base a n c) 59)) := hb.trans (hb2.mono hb.size)
    generalize W1.alloc (.cells (fileCs f.kind f.seq f.issued f.base a n c) 59) = W2 at *
    have HS2 := hide (HS0.out.next hbc)
    have HB2 := hide (HB0.out.trans (hbc.mono hzb))
    generalize W1.heap.size = D at *
    have HRN := hide (mrender_calls W2 ok f.kind f.seq f.issued f.base a n c f.changes hn HCH.out HF.out.1 HF.out.2.1 HF.out.2.2.1 HF.out.2.2.2.1 HF.out.2.2.2.2 (by omega))
    rw [show fileText f.kind f.seq f.issued f.base f.changes = txt f from rfl] at HRN
    have HTB : Hid ((txt f).length ≤ 90000000 ∧ ByteL (txt f)) := fileText_le HF.out.1 HF.out.2.1 HF.out.2.2.1 HF.out.2.2.2.1 HF.out.2.2.2.2 hcl
    have rf : rng W2 D 0 5 = some (fileCs f.kind f.seq f.issued f.base a n c) := rng_whole hkf
    have zD := blk_lt hkf
    obtain ⟨p, hp⟩ : ∃ p, p = pkF (dmgP (txt f) o.mode o.num o.data) := ⟨_, rfl⟩
    have HP : Hid (pkF (dmgP (txt f) o.mode o.num o.data) = p) := hp.symm
    have hzb2 := HB2.out.size
    clear hch hb hkf HUI hn hcl hp hb2 hbc HCH
    generalize crc (bodyText f.kind f.seq f.issued f.base f.changes) = cr at *
    go_upto_region 16 with (go_at_call 84; refine HRN.out.mono ?_; rintro e W6 ⟨vt, rfl, hby⟩; obtain ⟨ta, tn, tc, rfl, hts⟩ := Src.of hby.at')
    have HS6 := hide (HS2.out.next hby.bel)
    have HB6 := hide (HB2.out.trans (hby.bel.mono hzb2))
    have hzb6 := HB6.out.size
    have HDM := hide (damage_x W6 _ ok _ dv (txt f) o.data o.mode o.num hby.at' (RArr.below HH.out.op.data HB6.out) HH.out.op.mode HH.out.op.num (by have := HTB.out.1; omega) (by have := HH.out.op.ld; omega))
    have hq6 := HS6.out.facts.2.2.1
    have r19 := hq6 19
    have r20 := hq6 20
    have r21 := hq6 21
    simp only [opA, List.getElem?_toArray, List.getElem?_cons_zero, List.getElem?_cons_succ] at r19 r20 r21
    have zz6 := HS6.out.facts.2.2.2.2.2
    clear hq6 hby hts HRN rf zD q18 q19 q20 q21
    cases ht : p.t with
    | false =>
      go_upto_region 24 with (first | (go_at_call 51; refine HDM.out.mono ?_; rintro e W7 ⟨vd, rfl, hby, hb7⟩; have HS7 := hide (HS6.out.next hb7); have hz67 := hb7.size; have HB7 := hide (HB6.out.trans (hb7.mono hzb6)); have hzb7 := HB7.out.size; have HPC := hide (mparse_no W7 _ vd _ hby (dmgP_byte _ _ HTB.out.2 HH.out.by') (by have h1 := dmgP_len (txt f) o.mode o.num o.data; have h2 := HH.out.op.ld; have h3 := HTB.out.1; omega) HP.out ht); clear hby hb7 HDM) | (go_at_call 82; refine HPC.out.mono ?_; rintro e W1 ⟨rfl, hb⟩; have HS1 := hide (HS7.out.next hb); have HB1 := hide (HB7.out.trans (hb.mono hzb7)); have hst : (stS 59 (.pointer (some ⟨w.heap.size + 2, 41, none⟩)) (.agg zFile)).run Tryz.prog W1 = .ok () (W1.setRow (w.heap.size + 2) (ansCs { ans0 with fk := 0, fs := 0, fi := 0, fb := 0, fc := (none, 0, 0) })) := run_stFileA W1 (w.heap.size + 2) ans0 0 0 0 0 none 0 0 HS1.out.an; have HSa := hide (HS1.out.row { ans0 with fk := 0, fs := 0, fi := 0, fb := 0, fc := (none, 0, 0) }); have c40 : (W1.setRow (w.heap.size + 2) (ansCs { ans0 with fk := 0, fs := 0, fi := 0, fb := 0, fc := (none, 0, 0) })).cell? ⟨w.heap.size + 2, 40, none⟩ = some (.int .u8 0) := (HSa.out.facts.2.2.2.1 40).trans rfl; have g40 := HSa.out.facts.2.2.2.2.1 40; have zz := HSa.out.facts.2.2.2.2.2; have HBa : Hid (Below w.heap.size w (W1.setRow (w.heap.size + 2) (ansCs { ans0 with fk := 0, fs := 0, fi := 0, fb := 0, fc := (none, 0, 0) }))) := HB1.out.trans ⟨rfl, rfl, rfl, (by simp), fun k hk => setRow_other _ _ _ _ (by omega)⟩; clear hb))
      have HSb := hide (HSa.out.cell (j := 40) (v := .int .u8 29) { ans0 with code := 29 } rfl).1
      have HBb : Hid (Below w.heap.size w ((W1.setRow (w.heap.size + 2) (ansCs { ans0 with fk := 0, fs := 0, fi := 0, fb := 0, fc := (none, 0, 0) })).setCell ⟨w.heap.size + 2, 40, none⟩ (.int .u8 29))) := HBa.out.setCell (p := ⟨w.heap.size + 2, 40, none⟩) (by simp) _
      have HFb : Hid (∀ b, b ≠ w.heap.size + 2 → ((W1.setRow (w.heap.size + 2) (ansCs { ans0 with fk := 0, fs := 0, fi := 0, fb := 0, fc := (none, 0, 0) })).setCell ⟨w.heap.size + 2, 40, none⟩ (.int .u8 29)).heap[b]? = W1.heap[b]?) := fun b hb => (Below.heap_setCell _ _ _ _ hb).trans (setRow_other _ _ _ _ hb)
      generalize World.setCell _ _ _ = W5 at *
      clear c40 g40 hst HSa HBa zz
      have s1 := HSb.out.facts.1
      have s2 := HSb.out.facts.2.1
      have s3 := HSb.out.facts.2.2.2.2.2
      go_wp2
      have HF := hide (heap_setRow_at (ds := ansCs { ans0 with code := 29 }) HSb.out.rs)
      refine bodyPost_ret (results_cell1 Tryz.results22 _ _ (w.heap.size + 1) _ _ _ _ rfl HF.out Tryz.underlying77 rfl (by kernel_rfl)) rfl ?_
      have hfb : Below w.heap.size w (W5.setRow (w.heap.size + 1) (ansCs { ans0 with code := 29 })) := HBb.out.trans ⟨rfl, rfl, rfl, by simp, fun k hk => setRow_other _ _ _ _ (by omega)⟩
      exact MStp.same HH.out.at' hfb (by omega) (by omega) ⟨fun k => by omega, fun k => by omega, fun k => by omega, fun _ => ⟨fun h => (by rw [hf] at h; cases h), fun f' h => by rw [hf] at h; injection h with h; subst h; rw [HP.out]; exact Or.inl ⟨ht, rfl⟩⟩, fun k => by omega, fun k => by omega, fun k => by omega⟩
    | true =>
      go_upto_region 24 with (first | (go_at_call 51; refine HDM.out.mono ?_; rintro e W7 ⟨vd, rfl, hby, hb7⟩; have HS7 := hide (HS6.out.next hb7); have hz67 := hb7.size; have HB7 := hide (HB6.out.trans (hb7.mono hzb6)); have hzb7 := HB7.out.size; have HPC := hide (mparse_yes W7 _ vd _ hby (dmgP_byte _ _ HTB.out.2 HH.out.by') (by have h1 := dmgP_len (txt f) o.mode o.num o.data; have h2 := HH.out.op.ld; have h3 := HTB.out.1; omega) HP.out ht); clear hby hb7 HDM) | (go_at_call 82; refine HPC.out.mono ?_; rintro e W1 ⟨ad, cap, rfl, hch, hb⟩; have HCH := hide hch; have HS1 := hide (HS7.out.next hb); have HB1 := hide (HB7.out.trans (hb.mono hzb7)); have hst : (stS 59 (.pointer (some ⟨w.heap.size + 2, 41, none⟩)) (.agg (fileCs p.k p.s p.i p.bb ad p.cs.length cap))).run Tryz.prog W1 = .ok () (W1.setRow (w.heap.size + 2) (ansCs { ans0 with fk := p.k, fs := p.s, fi := p.i, fb := p.bb, fc := (ad, p.cs.length, cap) })) := run_stFileA W1 (w.heap.size + 2) ans0 p.k p.s p.i p.bb ad p.cs.length cap HS1.out.an; have HSa := hide (HS1.out.row { ans0 with fk := p.k, fs := p.s, fi := p.i, fb := p.bb, fc := (ad, p.cs.length, cap) }); have c40 : (W1.setRow (w.heap.size + 2) (ansCs { ans0 with fk := p.k, fs := p.s, fi := p.i, fb := p.bb, fc := (ad, p.cs.length, cap) })).cell? ⟨w.heap.size + 2, 40, none⟩ = some (.int .u8 0) := (HSa.out.facts.2.2.2.1 40).trans rfl; have g40 := HSa.out.facts.2.2.2.2.1 40; have zz := HSa.out.facts.2.2.2.2.2; have HBa : Hid (Below w.heap.size w (W1.setRow (w.heap.size + 2) (ansCs { ans0 with fk := p.k, fs := p.s, fi := p.i, fb := p.bb, fc := (ad, p.cs.length, cap) }))) := HB1.out.trans ⟨rfl, rfl, rfl, (by simp), fun k hk => setRow_other _ _ _ _ (by omega)⟩; clear hb hch))
      have HSb := hide (HSa.out.cell (j := 40) (v := .int .u8 0) { ans0 with fk := p.k, fs := p.s, fi := p.i, fb := p.bb, fc := (ad, p.cs.length, cap) } rfl).1
      have HBb : Hid (Below w.heap.size w ((W1.setRow (w.heap.size + 2) (ansCs { ans0 with fk := p.k, fs := p.s, fi := p.i, fb := p.bb, fc := (ad, p.cs.length, cap) })).setCell ⟨w.heap.size + 2, 40, none⟩ (.int .u8 0))) := HBa.out.setCell (p := ⟨w.heap.size + 2, 40, none⟩) (by simp) _
      have HFb : Hid (∀ b, b ≠ w.heap.size + 2 → ((W1.setRow (w.heap.size + 2) (ansCs { ans0 with fk := p.k, fs := p.s, fi := p.i, fb := p.bb, fc := (ad, p.cs.length, cap) })).setCell ⟨w.heap.size + 2, 40, none⟩ (.int .u8 0)).heap[b]? = W1.heap[b]?) := fun b hb => (Below.heap_setCell _ _ _ _ hb).trans (setRow_other _ _ _ _ hb)
      generalize World.setCell _ _ _ = W5 at *
      clear c40 g40 hst HSa HBa zz
      have s1 := HSb.out.facts.1
      have s2 := HSb.out.facts.2.1
      have s3 := HSb.out.facts.2.2.2.2.2
      go_wp2
      have HF := hide (heap_setRow_at (ds := ansCs { ans0 with fk := p.k, fs := p.s, fi := p.i, fb := p.bb, fc := (ad, p.cs.length, cap) }) HSb.out.rs)
      refine bodyPost_ret (results_cell1 Tryz.results22 _ _ (w.heap.size + 1) _ _ _ _ rfl HF.out Tryz.underlying77 rfl (by kernel_rfl)) rfl ?_
      have hfb : Below w.heap.size w (W5.setRow (w.heap.size + 1) (ansCs { ans0 with fk := p.k, fs := p.s, fi := p.i, fb := p.bb, fc := (ad, p.cs.length, cap) })) := HBb.out.trans ⟨rfl, rfl, rfl, by simp, fun k hk => setRow_other _ _ _ _ (by omega)⟩
      exact MStp.same HH.out.at' hfb (by omega) (by omega) ⟨fun k => by omega, fun k => by omega, fun k => by omega, fun _ => ⟨fun h => (by rw [hf] at h; cases h), fun f' h => by rw [hf] at h; injection h with h; subst h; rw [HP.out]; exact Or.inr ⟨ht, ad, cap, rfl, RArr.mono HCH.out (fun b hb => (setRow_other _ _ _ _ (by omega)).trans (HFb.out b (by omega))) (fun b hb => by omega)⟩⟩, fun k => by omega, fun k => by omega, fun k => by omega⟩
end Go.Proofs.Qxb6500666aGreatDoor
