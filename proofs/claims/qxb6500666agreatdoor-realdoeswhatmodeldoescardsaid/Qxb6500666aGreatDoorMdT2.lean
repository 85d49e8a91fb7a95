/- The model's read: kinds 26, 27. (Made by tools/mk_mrd.py.) -/
import Derived.Test.Qxb6500666aGreatDoorMdT1
namespace Go.Proofs.Qxb6500666aGreatDoor
open Go.RowKit
attribute [local go_sem] ext_const Ext.cell Ext.frozen Ext.rng Ext.whole
attribute [local go_sem ↓] exec_ldRsp exec_stRsp exec_bdRsp exec_stStat exec_stHd exec_ldFile exec_stFile exec_bdHd7 exec_bdFile1 exec_ldEnt exec_stEnt exec_ldSmS exec_ldRes exec_stRes exec_ldSmp exec_stSmp exec_ldRow exec_stRow exec_bsRow exec_bdRow2 exec_bdHeld exec_bsHeld
attribute [local go_sem] run_ldRsp run_stRsp run_bdRsp0 run_bdRsp1 respCs_ones run_ldFile run_stFile run_bdHd7 run_bdFile1 fileCs_size fileCs_ones fileCs_all file_ones zfCs_size run_ldEnt run_ldSmS run_ldRes run_stRes resCs_size resCs_ones run_ldSmp run_stSmp smpCs_size smpCs_ones run_ldRow run_stRow run_bsRow run_bdRow2 run_bdHeld run_bsHeld rowCs_size rowCs_ones rowCs_all whole_alloc_lt whole_alloc_at whole_drew setRow_alloc_at setRow_alloc_lt setRow_drew rng_alloc_lt rng_alloc_at rng_drew rng_drewN rng_setCell_other whole_setCell_other

set_option maxRecDepth 100000 in
set_option maxHeartbeats 8000000 in
theorem mrd26_calls (rn kn ft : Nat → ByteArray) (w : World) (M : Nat) (ok : Nat → Prop) (v : MV) (m : Mod) (r : Req) (lv : Value) (h : RdI rn kn ft w M ok v m r) (hk : r.kind = 26) :
    Calls Tryz.prog 145 #[.pointer (some ⟨M, 0, none⟩), .agg (reqA r lv)] w fun e w' => RdPost w w' e (rdM26 m r) := by
  have HH := hide h
  have zM := blk_lt h.at'.top
  clear h
  go_enter Tryz.func145, Tryz.ntmps145
  go_upto_region 2 with fail
  have H0 := hide (RB.start w (reqA r lv))
  change Code.wp _ _ _ _ (((w.alloc (.cells (reqA r lv) 53)).alloc (.cells (respCs rsp0) 75)).alloc (.cells (respCs rsp0) 75))
  generalize (((w.alloc (.cells (reqA r lv) 53)).alloc (.cells (respCs rsp0) 75)).alloc (.cells (respCs rsp0) 75)) = W0 at *
  obtain ⟨-, -, hq, -, -, hz⟩ := H0.out.facts
  have q0 := hq 0
  have q3 := hq 3
  simp only [reqA, List.getElem?_toArray, List.getElem?_cons_zero, List.getElem?_cons_succ] at q0 q3
  rw [hk] at q0
  have HM := hide (HH.out.at'.below H0.out.blw)
  have zM0 : M < W0.heap.size := by omega
  clear hq
  have HRD : Hid (rdM26 m r = match mIss m r.id with | none => .error 23 | some f => .ok (fun x => x = { rsp0 with hd := hdrM f })) := rfl
  have HU := hide (mIss_calls W0 M ok v m r.id HM.out HH.out.req.id (by have := HH.out.fl; omega))
  cases hf : mIss m r.id with
  | none =>
    rw [hf] at HU HRD
    go_upto_region 25 with (go_at_call 83; refine HU.out.mono ?_; rintro e W1 ⟨hp, hb⟩; have hp : e = .returned (.tuple #[.agg zFile, .bool false]) := hp; subst hp)
    have H1 := hide (H0.out.next (hb.alloc hb.size (.cells zFile 59)))
    generalize W1.alloc (.cells zFile 59) = W2 at *
    obtain ⟨h1, -⟩ := H1.out.facts
    go_wp2
    obtain ⟨f1, f2⟩ := H1.out.fin (y := { rsp0 with code := 23 })
    refine bodyPost_ret (results_cell1 Tryz.results145 _ _ (w.heap.size + 1) _ _ _ _ rfl f1 Tryz.underlying75 rfl (by kernel_rfl)) rfl ?_
    rw [HRD.out]
    exact ⟨rfl, f2⟩
  | some f =>
    have HF := hide (HH.out.file f (mIss_mem hf))
    have hcl := HH.out.cl f (mIss_mem hf)
    rw [hf] at HU HRD
    go_upto_region 26 with (go_at_call 83; refine HU.out.mono ?_; rintro e W1 ⟨⟨a, n, c, rfl, hch⟩, hb⟩)
    have hn : n = f.changes.length := by obtain ⟨_, _, _, _, e, -⟩ := hch; injection e
    have HCH := hide (RArr.below hch ((Below.refl _ _).alloc (Nat.le_refl _) (.cells (fileCs f.kind f.seq f.issued f.base a n c) 59)))
    have H1 := hide (H0.out.next (hb.alloc hb.size (.cells (fileCs f.kind f.seq f.issued f.base a n c) 59)))
    have hkf : (W1.alloc (.cells (fileCs f.kind f.seq f.issued f.base a n c) 59)).heap[W1.heap.size]? = some (.cells (fileCs f.kind f.seq f.issued f.base a n c) 59 (0, 0)) := heap_alloc_at _ _
    have hge : W0.heap.size ≤ W1.heap.size := hb.size
    generalize W1.alloc (.cells (fileCs f.kind f.seq f.issued f.base a n c) 59) = W2 at *
    generalize W1.heap.size = D at *
    have HRN := hide (mrender_calls W2 ok f.kind f.seq f.issued f.base a n c f.changes hn HCH.out HF.out.1 HF.out.2.1 HF.out.2.2.1 HF.out.2.2.2.1 HF.out.2.2.2.2 (by omega))
    have rf : rng W2 D 0 5 = some (fileCs f.kind f.seq f.issued f.base a n c) := rng_whole hkf
    have zD := blk_lt hkf
    have HHD : Hid (hdrM f = ⟨f.kind, f.seq, f.issued, f.base, n, crc (bodyText f.kind f.seq f.issued f.base f.changes), ((fileText f.kind f.seq f.issued f.base f.changes).length : Int) % 4294967296⟩) := by show _ = _; rw [hn]; rfl
    have hnm : (n : Int) % 4294967296 = n := by omega
    have HKF := hide hkf
    have hnb : n ≤ 65536 := by omega
    clear hch hb hkf HU hf hn hcl
    generalize crc (bodyText f.kind f.seq f.issued f.base f.changes) = cr at *
    generalize fileText f.kind f.seq f.issued f.base f.changes = ft' at *
    go_upto_region 27 with (go_at_call 84; refine HRN.out.mono ?_; rintro e W3 ⟨vt, rfl, hby⟩; obtain ⟨ta, tn, tc, rfl, hts⟩ := Src.of hby.at')
    have htn : tn = ft'.length := hts.len
    have H3 := hide (H1.out.next hby.bel)
    have hkf := (hby.bel.block _ zD).trans HKF.out
    have e0 := cells_all hkf 0
    have e1 := cells_all hkf 1
    have e2 := cells_all hkf 2
    have e3 := cells_all hkf 3
    have e4 := cells_all hkf 4
    simp only [fileCs, List.getElem?_toArray, List.getElem?_cons_zero, List.getElem?_cons_succ] at e0 e1 e2 e3 e4
    have zD3 := blk_lt hkf
    have hst := run_stHd30 _ _ _ ⟨f.kind, f.seq, f.issued, f.base, (n : Int), cr, (tn : Int) % 4294967296⟩ H3.out.rp
    have HTN := hide htn
    clear hby hts hkf htn rf zD
    go_upto_region 66 with fail
    have H2 := hide (H3.out.row { rsp0 with hd := ⟨f.kind, f.seq, f.issued, f.base, (n : Int), cr, (tn : Int) % 4294967296⟩ })
    generalize World.setRow _ _ _ = W4 at *
    clear hst e0 e1 e2 e3 e4
    obtain ⟨h1, h2, -, -, -, -⟩ := H2.out.facts
    go_wp2
    obtain ⟨f1, f2⟩ := H2.out.fin (y := { rsp0 with hd := ⟨f.kind, f.seq, f.issued, f.base, (n : Int), cr, (tn : Int) % 4294967296⟩ })
    refine bodyPost_ret (results_cell1 Tryz.results145 _ _ (w.heap.size + 1) _ _ _ _ rfl f1 Tryz.underlying75 rfl (by kernel_rfl)) rfl ?_
    rw [HRD.out]
    exact ⟨⟨_, rfl, by rw [HHD.out, HTN.out]⟩, f2⟩

set_option maxRecDepth 100000 in
set_option maxHeartbeats 8000000 in
theorem mrd27_calls (rn kn ft : Nat → ByteArray) (w : World) (M : Nat) (ok : Nat → Prop) (v : MV) (m : Mod) (r : Req) (lv : Value) (h : RdI rn kn ft w M ok v m r) (hk : r.kind = 27) :
    Calls Tryz.prog 145 #[.pointer (some ⟨M, 0, none⟩), .agg (reqA r lv)] w fun e w' => RdPost w w' e (rdM27 w w' m r) := by
  have HH := hide h
  have zM := blk_lt h.at'.top
  clear h
  go_enter Tryz.func145, Tryz.ntmps145
  go_upto_region 2 with fail
  have H0 := hide (RB.start w (reqA r lv))
  change Code.wp _ _ _ _ (((w.alloc (.cells (reqA r lv) 53)).alloc (.cells (respCs rsp0) 75)).alloc (.cells (respCs rsp0) 75))
  generalize (((w.alloc (.cells (reqA r lv) 53)).alloc (.cells (respCs rsp0) 75)).alloc (.cells (respCs rsp0) 75)) = W0 at *
  obtain ⟨-, -, hq, -, -, hz⟩ := H0.out.facts
  have q0 := hq 0
  have q3 := hq 3
  simp only [reqA, List.getElem?_toArray, List.getElem?_cons_zero, List.getElem?_cons_succ] at q0 q3
  rw [hk] at q0
  have HM := hide (HH.out.at'.below H0.out.blw)
  have zM0 : M < W0.heap.size := by omega
  clear hq
  have HRD : Hid (∀ w', rdM27 w w' m r = match mIss m r.id with | none => .error 23 | some f => .ok (fun x => ∃ a n c, x = { rsp0 with bytes := (a, n, c) } ∧ BytesAt w' (w.heap.size ≤ ·) (.slice a n c) (txt f))) := fun _ => rfl
  have HU := hide (mIss_calls W0 M ok v m r.id HM.out HH.out.req.id (by have := HH.out.fl; omega))
  cases hf : mIss m r.id with
  | none =>
    rw [hf] at HU HRD
    go_upto_region 31 with (go_at_call 83; refine HU.out.mono ?_; rintro e W1 ⟨hp, hb⟩; have hp : e = .returned (.tuple #[.agg zFile, .bool false]) := hp; subst hp)
    have H1 := hide (H0.out.next (hb.alloc hb.size (.cells zFile 59)))
    generalize W1.alloc (.cells zFile 59) = W2 at *
    obtain ⟨h1, -⟩ := H1.out.facts
    go_wp2
    obtain ⟨f1, f2⟩ := H1.out.fin (y := { rsp0 with code := 23 })
    refine bodyPost_ret (results_cell1 Tryz.results145 _ _ (w.heap.size + 1) _ _ _ _ rfl f1 Tryz.underlying75 rfl (by kernel_rfl)) rfl ?_
    rw [HRD.out]
    exact ⟨rfl, f2⟩
  | some f =>
    have HF := hide (HH.out.file f (mIss_mem hf))
    have hcl := HH.out.cl f (mIss_mem hf)
    rw [hf] at HU HRD
    go_upto_region 32 with (go_at_call 83; refine HU.out.mono ?_; rintro e W1 ⟨⟨a, n, c, rfl, hch⟩, hb⟩)
    have hn : n = f.changes.length := by obtain ⟨_, _, _, _, e, -⟩ := hch; injection e
    have HCH := hide (RArr.below hch ((Below.refl _ _).alloc (Nat.le_refl _) (.cells (fileCs f.kind f.seq f.issued f.base a n c) 59)))
    have H1 := hide (H0.out.next (hb.alloc hb.size (.cells (fileCs f.kind f.seq f.issued f.base a n c) 59)))
    have hkf : (W1.alloc (.cells (fileCs f.kind f.seq f.issued f.base a n c) 59)).heap[W1.heap.size]? = some (.cells (fileCs f.kind f.seq f.issued f.base a n c) 59 (0, 0)) := heap_alloc_at _ _
    have hge : W0.heap.size ≤ W1.heap.size := hb.size
    have hgf : W1.heap.size ≤ (W1.alloc (.cells (fileCs f.kind f.seq f.issued f.base a n c) 59)).heap.size := by simp
    generalize W1.alloc (.cells (fileCs f.kind f.seq f.issued f.base a n c) 59) = W2 at *
    generalize W1.heap.size = D at *
    have HRN := hide (mrender_calls W2 ok f.kind f.seq f.issued f.base a n c f.changes hn HCH.out HF.out.1 HF.out.2.1 HF.out.2.2.1 HF.out.2.2.2.1 HF.out.2.2.2.2 (by omega))
    have rf : rng W2 D 0 5 = some (fileCs f.kind f.seq f.issued f.base a n c) := rng_whole hkf
    have zD := blk_lt hkf
    clear hch hb hkf HU hf hn hcl
    rw [show fileText f.kind f.seq f.issued f.base f.changes = txt f from rfl] at HRN
    generalize crc (bodyText f.kind f.seq f.issued f.base f.changes) = cr at *
    generalize txt f = ft' at *
    go_upto_region 66 with (go_at_call 84; refine HRN.out.mono ?_; rintro e W3 ⟨vt, rfl, hby⟩; obtain ⟨ta, tn, tc, rfl, hts⟩ := Src.of hby.at'; have HBY := hide hby; have H3 := hide (H1.out.next hby.bel); have c37 := H3.out.facts.2.2.2.1 37; simp only [respCs, List.getElem?_toArray, List.getElem?_cons_zero, List.getElem?_cons_succ] at c37; have g37 := H3.out.facts.2.2.2.2.1 37; clear hts hby)
    have HBT : Hid (BytesAt (W3.setCell ⟨w.heap.size + 2, 37, none⟩ (.slice ta tn tc)) (W2.heap.size ≤ ·) (.slice ta tn tc) ft') := RArr.mono HBY.out.at' (fun b hb => Below.heap_setCell _ _ _ _ (fun e => by simp at e; omega)) (fun _ q => q)
    have H2 := hide (H3.out.cell (j := 37) (v := .slice ta tn tc) { rsp0 with bytes := (ta, tn, tc) } rfl)
    generalize World.setCell _ _ _ = W4 at *
    clear c37 g37
    obtain ⟨h1, h2, -, -, -, -⟩ := H2.out.facts
    go_wp2
    obtain ⟨f1, f2⟩ := H2.out.fin (y := { rsp0 with bytes := (ta, tn, tc) })
    refine bodyPost_ret (results_cell1 Tryz.results145 _ _ (w.heap.size + 1) _ _ _ _ rfl f1 Tryz.underlying75 rfl (by kernel_rfl)) rfl ?_
    rw [HRD.out]
    exact ⟨⟨_, rfl, ta, tn, tc, rfl, RArr.mono HBT.out (fun b hb => setRow_other _ _ _ _ (by omega)) (fun b hb => by omega)⟩, f2⟩
end Go.Proofs.Qxb6500666aGreatDoor
