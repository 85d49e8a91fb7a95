/- IssuedFilesParseToModelRows, walked. -/
import Derived.Test.Qxb6500666aGreatDoorIfpM
import Derived.Test.Qxb6500666aGreatDoorIfpBits
import Derived.Test.Qxb6500666aGreatDoorMdJ
import Derived.Test.Qxb6500666aGreatDoorDamR
import Derived.Test.Qxb6500666aGreatDoorCorM
import Derived.Test.Qxb6500666aGreatDoorRoles
import Derived.BigQuiet
import Derived.Deep.CutBlock
namespace Go.Proofs.Qxb6500666aGreatDoor
open Go.RowKit
attribute [local go_sem] ext_const Ext.cell Ext.frozen Ext.rng Ext.whole exS_const ExS.cell ExS.rng
attribute [local go_sem ↓] exec_ldOpz exec_stOpz exec_ldAns exec_stAns exec_ldChange exec_stChange exec_ldFile exec_stFile exec_ldRow exec_stRow exec_ldHd exec_stHd exec_neqHdr exec_fldRsp exec_bdHd7
attribute [local go_sem] run_ldOpz run_stOpz opA_size run_ldAns run_stAns ansCs_size ansCs_ones run_ldChange run_stChange changeCs_size changeCs_ones run_ldFile run_stFile fileCs_size fileCs_ones fileCs_4 run_ldRow run_stRow run_ldHd run_stHd run_fldHd run_bdHd7 rowCs_size whole_alloc_lt whole_alloc_at whole_drew setRow_alloc_at setRow_alloc_lt setRow_drew rng_alloc_lt rng_alloc_at rng_drew rng_drewN

theorem hdr_is (k s i bb : Int) (cs : List Change) : hdrOf k s i bb cs = ⟨k, s, i, bb, cs.length, crc (bodyText k s i bb cs), ((fileText k s i bb cs).length : Int) % 4294967296⟩ := by unfold hdrOf; rfl
theorem Tryz.size5_i (w : World) : (sizeOf 5).run Tryz.prog w = .ok 1 w := by kernel_rfl
theorem run_slOn (w : World) (b off n cap lo : Nat) (h1 : lo ≤ n) (h2 : n ≤ cap) (h3 : lo < n) :
    (Instr.sliceAt 55 (.slice (some ⟨b, off, none⟩) n cap) (some (.int .i64 (lo : Int))) none none).run Tryz.prog w = .ok (.slice (some ⟨b, off + lo, none⟩) (n - lo) (cap - lo)) w := by
  simp [Instr.sliceAt, Instr.slice, run_underlying Tryz.underlying55, Instr.sliceBounds, Instr.sliceBound, asIntOf, h1, Nat.ne_of_gt (show lo < cap by omega), Addr.add_lit]
theorem two_allocs (w : World) (o1 o2 : Obj) : ((w.alloc o1).alloc o2).drew.heap[w.heap.size]? = some o1 ∧ ((w.alloc o1).alloc o2).drew.heap[w.heap.size + 1]? = some o2 ∧ Below w.heap.size w ((w.alloc o1).alloc o2).drew :=
  ⟨(Below.heap_alloc (w.alloc o1) o2 _ (by simp)).trans (heap_alloc_at _ _), by rw [show w.heap.size + 1 = (w.alloc o1).heap.size by simp]; exact heap_alloc_at (w.alloc o1) o2, (below2 w o1 o2).drew⟩
theorem run_cvT (w : World) : (convert 55 55 (.slice (some ⟨w.heap.size, 0, none⟩) 2 2)).run Tryz.prog (w.alloc (.cells #[.int .u8 84, .int .u8 124] 5)) = .ok (.slice (some ⟨w.heap.size, 0, none⟩) 2 2) (w.alloc (.cells #[.int .u8 84, .int .u8 124] 5 (2, 3))) :=
  Go.Lib.run_convert_bytes_const (P := Tryz.prog) w 55 5 #[.int .u8 84, .int .u8 124] 2 2 Tryz.underlying55 Tryz.underlying5
attribute [local go_sem] run_cvT
theorem rng_chgRow {W : World} {b o : Nat} {c : Change} (h : rng W b o 14 = some (changeCs c)) : rng W b (o + 1) 13 = some (rowCs c.row) := by
  have hc := (rng_cell h).2
  have hz : (rowCs c.row).toList.length = 13 := rfl
  have := rng_of_cells (w := W) (b := b) (off := o + 1) (cs := (rowCs c.row).toList) (by rw [hz]; decide) (fun j hj => by
    rw [Nat.add_assoc, hc (1 + j) (by omega), show changeCs c = #[.int .u8 c.action] ++ rowCs c.row from rfl, Array.getElem?_append_right (by simp)]
    simp at hj ⊢)
  rw [hz] at this
  exact this
set_option maxRecDepth 100000 in
set_option maxHeartbeats 16000000 in
theorem ifp_walk (w : World) (v : Value) (s : List Op) (rn kn ft : Nat → ByteArray) (okg : Nat → Prop) (h : Script w (· < w.heap.size) v s) (hgl : Gl w w.heap.size rn kn ft okg) (hng : NmG rn kn) :
    Calls Tryz.prog 10 #[v] w fun e w' => e = .returned (.bool true) ∧ Below w.heap.size w w' := by
  have HSm := hide (small_calls w _ v s h)
  have HGL := hide (fun W (hb : Below w.heap.size w W) => hgl.same hb (Nat.le_refl _))
  have HNG := hide hng
  have HNB := hide (newBench_calls w)
  obtain ⟨a, cap, b, off, rfl, hl, hm, hr, ha, hc⟩ := h
  obtain ⟨n, hn⟩ : ∃ n, n = s.length := ⟨_, rfl⟩
  have Hn : Hid (n = s.length) := hn
  rw [← hn] at hl hr ha HSm ⊢
  have hi := run_indexAt_arr (P := Tryz.prog) (cap := cap) Tryz.underlying22 Tryz.size61 (fun h => (ha h).1)
  have HB : Hid (0 < n → b < w.heap.size) := fun h => (ha h).2
  by_cases hsm : total s ≤ 65536
  · have HC : Hid (∀ k (h : k < s.length), ∃ lv dv ca cn cc, rng w b (off + k * 27) 27 = some (opA s[k] lv dv ca cn cc) ∧ OpIn w (· < w.heap.size) s[k] lv dv ca cn cc ∧ ones (opA s[k] lv dv ca cn cc) 27 = true ∧ ByteL s[k].data) := fun k h => by
      obtain ⟨cs, hlen, hE, hcell⟩ := hc k h
      have ht := total_le h hsm
      obtain ⟨lv, dv, ca, cn, cc, e, hO, h1⟩ := opIn_of hE ht.2.1 ht.2.2
      refine ⟨lv, dv, ca, cn, cc, ?_, hO, h1, opByte_of hE⟩
      rw [← e]
      have hl27 : cs.length = 27 := by have := congrArg Array.size e; simpa [opA] using this
      have := rng_of_cells (w := w) (b := b) (off := off + k * 27) (by omega) hcell
      rw [hl27] at this
      exact this
    have HRO : Hid (∀ k (hk : k < s.length), s[k].req.Ok) := fun k hk => by
      obtain ⟨_, _, _, _, _, _, h1, _⟩ := HC.out k hk
      exact h1.req
    have HID : Hid (∀ k (hk : k < s.length), ∀ y ∈ s[k].req.list, U32 y) := fun k hk => by
      obtain ⟨_, _, _, _, _, _, h1, _⟩ := HC.out k hk
      exact h1.ids
    have HIV : Hid (∀ q, q ≤ s.length → Inv q (stAt s q)) := inv_all HRO.out
    have hn2 : n ≤ 65536 := by have := hsm; unfold total at this; omega
    have HVI : Hid (∀ q, q ≤ s.length → VI q (stAt s q).low) := vi_all s (by omega)
    have HSU : Hid (∀ q, q ≤ s.length → SU (stAt s q).low.sm) := su_all s
    have HTJ : Hid (∀ q, q ≤ s.length → ∃ rows, TJ q (stAt s q) (mdAt s q) rows) := ti_all HRO.out HID.out (by omega)
    have hd : decide (total s ≤ 65536) = true := by simpa using hsm
    rw [hd] at HSm
    clear hd hsm ha hc hn hgl hng
    go_enter Tryz.func10, Tryz.ntmps10
    go_upto_region 3 with (go_at_call 18; refine HSm.out.mono ?_; rintro e w1 ⟨rfl, rfl⟩)
    go_upto_region 4 with (go_at_call 19; refine HNB.out.mono ?_; rintro e W0 ⟨rfl, hbn, hb0⟩)
    have HQ0 : Hid (BX w W0 (fun _ => False) (stAt s 0)) := BX.start hbn hb0
    clear hbn hb0 HSm HNB
    go_upto_region 5 with fail
    have HE0 : Hid (∃ K, MX w (W0.alloc (.cells (mvCs mv0 false) 45)) W0.heap.size K (stAt s 0) (mdAt s 0)) := by
      refine ⟨fun g => g = W0.heap.size, HQ0.out.more ((Below.refl _ _).alloc (Nat.le_refl _) _) (fun g q => Or.inr ?_), ⟨mv0, MAt.start _ (heap_alloc_at _ _)⟩, rfl, HQ0.out.blw.size⟩
      rw [q]
      exact ⟨Nat.le_refl _, by simp⟩
    change Code.wp _ _ _ _ (W0.alloc (.cells (mvCs mv0 false) 45))
    generalize W0.alloc (.cells (mvCs mv0 false) 45) = W1 at *
    generalize W0.heap.size = M at *
    clear HQ0
    refine wp_loop_mask ifL1 (fun g x wr => ∃ q : Nat, q ≤ n ∧ g = n - q ∧ x = .int .i64 q ∧ Hid (∃ K, MX w wr M K (stAt s q) (mdAt s q))) n (.int .i64 0) ⟨0, by omega, by omega, rfl, HE0⟩ (by kernel_rfl) ?_
    clear HE0
    intro gk1 x1 u1 wr hrel J1 K1 hJ1 hK1
    dsimp only [ifL1, maskL_keep, maskL_any, maskL_is, maskL_nil]
    obtain ⟨q, hq, rfl, rfl, HQ⟩ := hrel
    by_cases hlt : q < n
    · as_aux_lemma =>
      have hqs : q < s.length := by rw [← Hn.out]; exact hlt
      have hn2q : q < 65536 := by omega
      have hbb := HB.out (by omega)
      obtain ⟨lv, dv, ca, cn, cc, hcl, hO, hones, hby⟩ := HC.out q hqs
      have HIQ := hide (HIV.out q (by omega))
      have HIS := hide (HIV.out (q + 1) (by omega))
      have HVQ := hide (HVI.out q (by omega))
      have HUQ := hide (HSU.out q (by omega))
      have HUS := hide (HSU.out (q + 1) (by omega))
      have HSQ := hide (stAt_succ hqs)
      have HMQ := hide (mdAt_succ hqs)
      rw [HSQ.out] at HIS HUS
      obtain ⟨rows, htj⟩ := HTJ.out q (by omega)
      obtain ⟨K, hmx⟩ := HQ.out
      have HTI := hide htj
      have HMX := hide hmx
      have HBY := hide hby
      have hmm := htj.minv (by omega) HIQ.out HUQ.out
      have HMI := hide hmm
      obtain ⟨rows', htj', hfst⟩ := htj.step (o := s[q]) hn2q HIQ.out HUQ.out HVQ.out hO.req hO.ids
      have HTI' := hide htj'
      have HFS := hide hfst
      generalize s[q] = p at *
      clear htj hmx hmm htj' hfst hby HQ
      have hMl : M < wr.heap.size := by obtain ⟨v, hv⟩ := HMX.out.md; exact blk_lt hv.top
      have hcells : rng wr b (off + q * 27) 27 = some (opA p lv dv ca cn cc) := by rw [rng_of_block (HMX.out.bx.blw.block _ hbb)]; exact hcl
      have hbw : b < wr.heap.size := by have := HMX.out.bx.blw.size; omega
      have HOI := hide hO
      clear hO hcl
      go_upto_region 7 with fail
      have hb1 : Below wr.heap.size wr (wr.alloc (.cells (opA p lv dv ca cn cc) 61)) := (Below.refl _ _).alloc (Nat.le_refl _) _
      have HX1 : Hid (MX w (wr.alloc (.cells (opA p lv dv ca cn cc) 61)) M (fun g => K g ∨ g = wr.heap.size) (stAt s q) (mdAt s q)) := HMX.out.more hb1 (fun g q => by
        rcases q with q | rfl
        · exact Or.inl q
        · exact Or.inr ⟨Nat.le_refl _, by simp⟩) (fun g q => Or.inl q)
      have hk1 : (wr.alloc (.cells (opA p lv dv ca cn cc) 61)).heap[wr.heap.size]? = some (.cells (opA p lv dv ca cn cc) 61 (0, 0)) := heap_alloc_at _ _
      clear HMX hb1
      generalize wr.alloc (.cells (opA p lv dv ca cn cc) 61) = U1 at *
      generalize wr.heap.size = D at *
      generalize hte : stAt s q = t at *
      generalize hme : mdAt s q = m at *
      clear hte hme
      have hr1 : rng U1 D 0 27 = some (opA p lv dv ca cn cc) := rng_whole hk1
      have HK1 := hide hk1
      have HST := hide (HX1.out.bx.step (HIQ.out.po (by omega)) (HOI.out.below HX1.out.bx.blw) (HGL.out _ HX1.out.bx.blw) ⟨HIQ.out.off.1, by have := HIQ.out.off.2; omega⟩)
      clear hk1 hcells hbw
      go_upto_region 8 with (go_at_call 21; refine HST.out.mono ?_; rintro e U2 ⟨ans, rfl, hq2, hf2, ha2⟩; have HX2 := hide (HX1.out.real hq2 hf2); have HF2 := hide hf2; have HA2 := hide ha2; clear hq2 hf2 ha2)
      clear hr1 HST
      have k2 : U2.heap[D]? = some (.cells (opA p lv dv ca cn cc) 61 (0, 0)) := (HF2.out D (Or.inr rfl)).trans HK1.out
      clear HK1 HX1 HF2 HA2
      have r3 : rng U2 D 0 27 = some (opA p lv dv ca cn cc) := rng_whole k2
      have z3 := blk_lt k2
      have HMS := hide (HX2.out.step HMI.out (HOI.out.below HX2.out.bx.blw) HBY.out (HGL.out _ HX2.out.bx.blw) HNG.out)
      go_wp2_with (go_at_call 22; refine HMS.out.mono ?_; rintro e U4 ⟨am, rfl, hx4, hbt4, -⟩)
      have HX4 : Hid (∃ K', MX w U4 M K' (stAt s (q + 1)) (mdAt s (q + 1))) := ⟨_, by rw [HSQ.out, HMQ.out]; exact hx4⟩
      refine Handed.intro (n - (q + 1)) (by omega) ?_
      exact hJ1.out _ (.int .i64 ((q + 1 : Nat) : Int)) _ _ ⟨q + 1, by omega, rfl, rfl, HX4⟩ (by kernel_rfl)
    · as_aux_lemma =>
      obtain rfl : q = n := by omega
      have hql : q ≤ s.length := by rw [← Hn.out]; exact Nat.le_refl _
      obtain ⟨rows, htj⟩ := HTJ.out q hql
      have HTI := hide htj
      have HIQ := hide (HIV.out q hql)
      clear hql
      obtain ⟨K, hmx⟩ := HQ.out
      clear HQ htj
      generalize hte : stAt s q = t at *
      generalize hme : mdAt s q = m at *
      clear hte hme
      have HMX := hide hmx
      have HPO : Hid (PO t.ps t.low) := HIQ.out.po (by omega)
      have HST := hide (HMX.out.bx.step HPO.out (reOp_in wr (fun _ => True)) (HGL.out _ HMX.out.bx.blw) ⟨HIQ.out.off.1, by have := HIQ.out.off.2; omega⟩)
      rw [reOp_step] at HST
      clear hmx HC HRO HID HIV HVI HSU HTJ
      go_upto_region 11 with (go_at_call 21; refine HST.out.mono ?_; rintro e U2 ⟨ans, rfl, hq2, hf2, -⟩; have HX2 := hide (HMX.out.real hq2 hf2); clear hq2 hf2)
      clear HST HMX
      obtain ⟨v, hv⟩ := HX2.out.md
      have HV := hide hv
      obtain ⟨zf, hz1, hz2, hz3⟩ := hv.inn.fs
      have HZ3 := hide hz3
      have HZ2 := hide hz2
      obtain ⟨fa, fcap, fb, foff, hfv, hfl1, hfm, hfr, hfa, hfc⟩ := RArr.lt hz1
      obtain ⟨nf, hnf⟩ : ∃ nf, nf = zf.length := ⟨_, rfl⟩
      have hfl : m.fs.length = nf := by rw [← hz2, List.length_map, hnf]
      rw [← hnf] at hfl1 hfr hfa hfv
      have Hnf := hide hnf
      have HFL := hide hfl
      have cu : U2.cell? ⟨M, 10, none⟩ = some (.slice fa nf fcap) := by rw [← hfv]; exact cells_all hv.top 10
      have zM := blk_lt hv.top
      have hif := run_indexAt_arr (P := Tryz.prog) (n := nf) (cap := fcap) Tryz.underlying43 Tryz.size59 (fun h => (hfa h).1)
      have HFB : Hid (0 < nf → fb < U2.heap.size) := fun h => (hfa h).2.2
      have HFC := hide hfc
      have hnf6 : nf ≤ 65536 := by have := HTI.out.fl; omega
      clear hfa hfc hnf hfm hv hfv hz1 hz2 hz3 hfl
      have HCU := hide cu
      go_upto_region 12 with fail
      clear cu
      have HB0 := hide (Below.refl U2.heap.size U2)
      refine wp_loop_mask ifL2 (fun g x wr => ∃ i : Nat, i ≤ nf ∧ g = nf - i ∧ x = .int .i64 i ∧ Hid (Below U2.heap.size U2 wr)) nf (.int .i64 0) ⟨0, by omega, by omega, rfl, HB0⟩ (by kernel_rfl) ?_
      clear HB0
      intro gk2 x2 u2 wr hrel J2 K2 hJ2 hK2
      dsimp only [ifL2, maskL_keep, maskL_any, maskL_is, maskL_nil]
      obtain ⟨i, hiN, rfl, rfl, HBW⟩ := hrel
      by_cases hin : i < nf
      · as_aux_lemma =>
        have his : i < zf.length := by rw [← Hnf.out]; exact hin
        have him : i < m.fs.length := by rw [HFL.out]; exact hin
        have hbb := HFB.out (by omega)
        have c0 := HFC.out i his
        rw [← rng_of_block (HBW.out.block _ hbb)] at c0
        have hbw : fb < wr.heap.size := by have := HBW.out.size; omega
        have hzi : zf[i].1 = m.fs[i] := by simp [← HZ2.out]
        have hzc := HZ3.out _ (List.getElem_mem his)
        have hmf : m.fs.length ≤ 1000000 := by rw [HFL.out]; omega
        have hfbr := HTI.out.fi.fbR hmf him
        have hhd := HTI.out.fi.hdrR hmf him
        have hsq := (HTI.out.fi.seq i him).1
        have hfok := HTI.out.fi.fok _ (List.getElem_mem him)
        obtain ⟨n1, n2, n3, n4, -⟩ := HTI.out.fi.nums hmf him
        have hcok := HTI.out.fi.cok _ (List.getElem_mem him)
        obtain ⟨vf9, lf9, hci⟩ := HTI.out.ci
        have hcl : (m.fs[i]).changes.length ≤ 65536 := hci.cl _ (List.getElem_mem him)
        rw [← hzi] at hfbr hhd hsq hfok n1 n2 n3 n4 hcok hcl
        generalize zf[i] = z at *
        obtain ⟨f, wa, wn, wcp⟩ := z
        dsimp only at hfbr hhd hsq hfok n1 n2 n3 n4 hcok hcl hzc
        rw [show zfCs (f, wa, wn, wcp) = fileCs f.kind f.seq f.issued f.base wa wn wcp from rfl] at c0
        have hwn : wn = f.changes.length := by
          obtain ⟨_, _, _, _, e, -⟩ := hzc
          injection e
        have Hm : Hid (wn = f.changes.length) := hwn
        have hle : (fileText f.kind f.seq f.issued f.base f.changes).length ≤ 99000000000 := fileText_len n2 n3 n4 hcok (by omega)
        have HFBR := hide hfbr
        have HHD := hide hhd
        have HSQ := hide hsq
        have HFOK := hide hfok
        have HNM := hide (And.intro n1 (And.intro n2 (And.intro n3 n4)))
        have HCOK := hide hcok
        have HCL := hide hcl
        have HZC := hide hzc
        have HLE := hide hle
        clear hzi hzc hfbr hhd hsq hfok n1 n2 n3 n4 hcok hcl hci hmf hwn hle him his
        have HXr : Hid (MX w wr M K t m) := HX2.out.below HBW.out
        go_upto_region 14 with fail
        have hb1 : Below wr.heap.size wr (wr.alloc (.cells (fileCs f.kind f.seq f.issued f.base wa wn wcp) 59)) := (Below.refl _ _).alloc (Nat.le_refl _) _
        have hk8 : (wr.alloc (.cells (fileCs f.kind f.seq f.issued f.base wa wn wcp) 59)).heap[wr.heap.size]? = some (.cells (fileCs f.kind f.seq f.issued f.base wa wn wcp) 59 (0, 0)) := heap_alloc_at _ _
        have HB1 : Hid (Below U2.heap.size U2 (wr.alloc (.cells (fileCs f.kind f.seq f.issued f.base wa wn wcp) 59))) := HBW.out.trans (hb1.mono HBW.out.size)
        have HX1 : Hid (MX w (wr.alloc (.cells (fileCs f.kind f.seq f.issued f.base wa wn wcp) 59)) M K t m) := HXr.out.below hb1
        clear hb1 c0 hbw HBW HXr hif
        generalize wr.alloc (.cells (fileCs f.kind f.seq f.issued f.base wa wn wcp) 59) = V1 at *
        generalize wr.heap.size = D8 at *
        have hmod : ((i : Int) + 1) % 4294967296 = (i : Int) + 1 := by omega
        have hiu : U32 ((i : Int) + 1) := ⟨by omega, by omega⟩
        have HK8 := hide hk8
        obtain ⟨Y, hbn, hfile⟩ := HX1.out.bx.fileB HPO.out hiu
        rw [HFBR.out] at hfile
        have HFI := hide hfile
        have b2 := cells_all hbn 2
        simp only [List.getElem?_toArray, List.getElem?_cons_zero, List.getElem?_cons_succ] at b2
        have zB := blk_lt hbn
        clear hbn hfile hk8 hiu HFBR
        go_upto_region 16 with (go_at_call 32; refine (HFI.out _ (Below.refl _ _)).mono ?_; rintro e V2 ⟨v1, rfl, hown, hb2⟩)
        obtain ⟨db, dof, dc, rfl, hD⟩ := data_at (hown.rows byteCs_size (by decide) (by have := HLE.out; omega)) (fileText_pos _ _ _ _ _)
        obtain ⟨pa, pn, pc, he, hparse⟩ := parse_own hown HFOK.out HNM.out.1 HNM.out.2.1 HNM.out.2.2.1 HNM.out.2.2.2 HCOK.out HCL.out
        rw [← he] at hparse
        have HPA := hide (hparse V2 (Below.refl _ _))
        have HD := hide hD
        have HB2 : Hid (Below U2.heap.size U2 V2) := HB1.out.trans (hb2.mono HB1.out.size)
        have HK82 : Hid (V2.heap[D8]? = some (.cells (fileCs f.kind f.seq f.issued f.base wa wn wcp) 59 (0, 0))) := (hb2.block _ (blk_lt HK8.out)).trans HK8.out
        have HX3 : Hid (MX w V2 M K t m) := HX1.out.below hb2
        clear hparse he hD hown hb2 b2 zB HFI HB1 HK8 HX1 hmod
        obtain ⟨ln, hln⟩ : ∃ ln, ln = (fileText f.kind f.seq f.issued f.base f.changes).length := ⟨_, rfl⟩
        have HLN := hide hln
        rw [← hln] at HPA HD ⊢
        have hln9 : ln ≤ 99000000000 := by rw [hln]; exact HLE.out
        clear hln HLE
        go_upto_region 18 with fail
        go_upto_region 19 with (go_at_call 33; refine HPA.out.mono ?_; rintro e V3 ⟨qa, qc, rfl, hch, hb3⟩; have HCH := hide hch; have HB3 := hide hb3; clear hch hb3)
        rw [← Hm.out] at HCH ⊢
        have hkF : (V3.alloc (.cells (fileCs f.kind f.seq f.issued f.base qa wn qc) 59)).heap[V3.heap.size]? = some (.cells (fileCs f.kind f.seq f.issued f.base qa wn qc) 59 (0, 0)) := heap_alloc_at _ _
        have hb4 : Below V2.heap.size V2 (V3.alloc (.cells (fileCs f.kind f.seq f.issued f.base qa wn qc) 59)) := HB3.out.alloc HB3.out.size _
        have hch4 := RArr.below HCH.out ((Below.refl _ _).alloc (Nat.le_refl _) (.cells (fileCs f.kind f.seq f.issued f.base qa wn qc) 59))
        clear HCH HB3 HPA
        generalize V3.alloc (.cells (fileCs f.kind f.seq f.issued f.base qa wn qc) 59) = V4 at *
        generalize V3.heap.size = FB at *
        have HB4 : Hid (Below U2.heap.size U2 V4) := HB2.out.trans (hb4.mono HB2.out.size)
        have HX4 : Hid (MX w V4 M K t m) := HX3.out.below hb4
        have hk84 := (hb4.block _ (blk_lt HK82.out)).trans HK82.out
        have HD4 : Hid (DataAt V4 db dof ln dc (fileText f.kind f.seq f.issued f.base f.changes)) := HD.out.next (hb4.block _ HD.out.lt) hb4.size
        have HSF := hide (sameFile_calls V4 _ _ f.kind f.seq f.issued f.base qa wa wn qc wcp f.changes hch4 (RArr.below HZC.out HB4.out))
        have HCH := hide hch4
        have HKF := hide hkF
        have HK84 := hide hk84
        have r12 : rng V4 FB 0 5 = some (fileCs f.kind f.seq f.issued f.base qa wn qc) := rng_whole hkF
        have r8 : rng V4 D8 0 5 = some (fileCs f.kind f.seq f.issued f.base wa wn wcp) := rng_whole hk84
        have c1 : V4.cell? ⟨FB, 1, none⟩ = some (.int .u32 ((i : Int) + 1)) := by rw [← HSQ.out]; exact cells_all hkF 1
        have zF := blk_lt hkF
        have z8 := blk_lt hk84
        clear hb4 HX3 HB2 HK82 HD hch4 hkF hk84
        go_upto_region 21 with (go_at_call 45; refine HSF.out.mono ?_; rintro e V5 ⟨rfl, hb5⟩; have c1' := (hb5.cell (p := ⟨FB, 1, none⟩) zF).trans c1; have zF' := Nat.lt_of_lt_of_le zF hb5.size)
        have HB5 : Hid (Below U2.heap.size U2 V5) := HB4.out.trans (hb5.mono HB4.out.size)
        have HX5 : Hid (MX w V5 M K t m) := HX4.out.below hb5
        have HKF5 : Hid (V5.heap[FB]? = some (.cells (fileCs f.kind f.seq f.issued f.base qa wn qc) 59 (0, 0))) := (hb5.block _ (blk_lt HKF.out)).trans HKF.out
        have HK85 : Hid (V5.heap[D8]? = some (.cells (fileCs f.kind f.seq f.issued f.base wa wn wcp) 59 (0, 0))) := (hb5.block _ (blk_lt HK84.out)).trans HK84.out
        have HD5 : Hid (DataAt V5 db dof ln dc (fileText f.kind f.seq f.issued f.base f.changes)) := HD4.out.next (hb5.block _ HD4.out.lt) hb5.size
        obtain ⟨ca', ccap, cb, coff, ce, cl1, cl2, cl3, cha, chc⟩ := RArr.lt (RArr.below HCH.out hb5)
        injection ce with ce1 ce2 ce3
        subst ce1
        subst ce3
        have hic := run_indexAt_arr (P := Tryz.prog) (n := wn) (cap := qc) (a := qa) (b := cb) (off := coff) Tryz.underlying57 Tryz.size111 (fun h => (cha (by rw [← Hm.out]; exact h)).1)
        have HIC := hide hic
        have HCB : Hid (0 < wn → cb < V5.heap.size) := fun h => (cha (by rw [← Hm.out]; exact h)).2.2
        have HCC := hide chc
        have hwn6 : wn ≤ 65536 := by rw [Hm.out]; exact HCL.out
        clear ce2 cl1 cl2 cl3 cha chc hb5 HCH HB4 HX4 HKF HK84 HD4 HSF r12 r8 c1 c1' zF zF' z8 hic
        have HB0 := hide (Below.refl V5.heap.size V5)
        go_upto_region 22 with fail
        refine wp_loop_mask ifL3 (fun g x W => ∃ j : Nat, 1 ≤ j ∧ (j ≤ wn ∨ j = 1) ∧ g = wn - j ∧ x = .int .i64 j ∧ Hid (Below V5.heap.size V5 W)) (wn - 1) (.int .i64 1) ⟨1, by omega, Or.inr rfl, rfl, rfl, HB0⟩ (by kernel_rfl) ?_
        clear HB0
        intro gk3 x3 u3 wr hrel J3 K3 hJ3 hK3
        dsimp only [ifL3, maskL_keep, maskL_any, maskL_is, maskL_nil]
        obtain ⟨j, hj1, hj2, rfl, rfl, HBL⟩ := hrel
        have hkF6 := (HBL.out.block _ (blk_lt HKF5.out)).trans HKF5.out
        have f4 : wr.cell? ⟨FB, 4, none⟩ = some (.slice qa wn qc) := cells_all hkF6 4
        have zF := blk_lt hkF6
        by_cases hjm : j < wn
        · as_aux_lemma =>
          have hjl : j < f.changes.length := by rw [← Hm.out]; exact hjm
          have hjp : j - 1 < f.changes.length := by omega
          have hcbw := HCB.out (by omega)
          have e1 := HCC.out (j - 1) hjp
          have e2 := HCC.out j hjl
          rw [← rng_of_block (HBL.out.block _ hcbw)] at e1 e2
          have e1 := rng_chgRow e1
          have e2 := rng_chgRow e2
          have hcw : cb < wr.heap.size := by have := HBL.out.size; omega
          have hrs := file_rise HFOK.out (j := j - 1) (by omega)
          simp only [Nat.sub_add_cancel hj1] at hrs
          have hix0 : ∀ W, (Instr.indexAt 57 (.slice qa wn qc) (.int .i64 ((j : Int) - 1))).run Tryz.prog W = .ok (.pointer (some ⟨cb, coff + (j - 1) * 14, none⟩)) W := fun W => by
            have h9 := HIC.out W ((j - 1 : Nat) : Int) (by omega) (by omega)
            rw [Int.toNat_natCast] at h9
            rw [show (j : Int) - 1 = ((j - 1 : Nat) : Int) by omega]
            exact h9
          have hix1 : ∀ W, (Instr.indexAt 57 (.slice qa wn qc) (.int .i64 (j : Int))).run Tryz.prog W = .ok (.pointer (some ⟨cb, coff + j * 14, none⟩)) W := fun W => by
            have h9 := HIC.out W (j : Int) (by omega) (by omega)
            rw [Int.toNat_natCast] at h9
            exact h9
          generalize coff + (j - 1) * 14 = A0 at *
          generalize coff + j * 14 = A1 at *
          generalize f.changes[j - 1].row = rp at *
          generalize f.changes[j].row = rq at *
          obtain ⟨hrs1, hrs2⟩ := hrs
          have HR2 := hide hrs2
          clear hrs2
          go_upto_region 24 with fail
          go_cut [14, 15] (fun pv qv V => ∃ N1 N2, pv = .pointer (some ⟨N1, 0, none⟩) ∧ qv = .pointer (some ⟨N2, 0, none⟩) ∧ Hid (V.heap[N1]? = some (.cells (rowCs rp) 109 (0, 0))) ∧ Hid (V.heap[N2]? = some (.cells (rowCs rq) 109 (0, 0))) ∧ Hid (Below wr.heap.size wr V))
          case first =>
            as_aux_lemma =>
            have hbd : Below wr.heap.size wr wr.drew := (Below.refl _ _).drew
            refine wp_region_mixT (wr.heap.size) [1, 6, 8, 12] (by kernel_rfl) ?_
            refine mixT_slots [0, 2, 3, 7, 9] (fuel := 12) rfl (by kernel_rfl) (by kernel_rfl) (fun d _ _ _ _ h => by cases d <;> exact h) ?_
            simp only [opersAt, List.getElem?_toArray, List.getElem?_cons_zero, List.getElem?_cons_succ]
            repeat (go_big_quiet_step (fail))
            refine wpQuiet_nil ?_
            refine mixT_reads [1, 8] (fuel := 10) rfl (by kernel_rfl) (by decide) (by kernel_rfl) (fun d _ _ _ _ h => by cases d <;> exact h) (ext_drew _ _) ?_
            simp only [opersAt, List.getElem?_toArray, List.getElem?_cons_zero, List.getElem?_cons_succ]
            repeat (go_big_quiet_step (fail))
            refine wpQuiet_nil ?_
            refine mixT_slots [4, 5, 10, 11] (fuel := 6) rfl (by kernel_rfl) (by kernel_rfl) (fun d _ _ _ _ h => by cases d <;> exact h) ?_
            simp only [opersAt, List.getElem?_toArray, List.getElem?_cons_zero, List.getElem?_cons_succ]
            repeat (go_big_quiet_step (fail))
            refine wpQuiet_nil ?_
            refine mixT_reads [6, 12] (fuel := 4) rfl (by kernel_rfl) (by decide) (by kernel_rfl) (fun d _ _ _ _ h => by cases d <;> exact h) (ext_drew _ _) ?_
            simp only [opersAt, List.getElem?_toArray, List.getElem?_cons_zero, List.getElem?_cons_succ]
            repeat (go_big_quiet_step (fail))
            refine wpQuiet_nil ?_
            refine mixT_two (k := 13) (k' := 14) (by kernel_rfl) rfl rfl ?_ ?_
            · go_wp2
              refine ⟨Or.inr (by intros; exact ⟨⟨_, hbd.alloc (Nat.le_refl _) _⟩, rfl⟩), ?_⟩
              refine mixT_one (k := 14) (by kernel_rfl) rfl ?_
              go_wp2
              refine ⟨Or.inr (by intros; exact ⟨⟨_, (hbd.alloc (Nat.le_refl _) _).alloc (by simp) _⟩, rfl⟩), ?_⟩
              refine mixT_one (k := 15) (by kernel_rfl) rfl ?_
              go_wp2
              refine ⟨Or.inr (by intros; exact ⟨⟨_, (hbd.alloc (Nat.le_refl _) _).alloc (by simp) _⟩, rfl⟩), ?_⟩
              refine mixT_one (k := 16) (by kernel_rfl) rfl ?_
              go_wp2
              refine ⟨Or.inr (by intros; exact ⟨⟨_, (hbd.alloc (Nat.le_refl _) _).alloc (by simp) _⟩, rfl⟩), ?_⟩
              refine mixT_nil (by kernel_rfl) ?_
              go_wp2
              go_meet
              case rel => exact ⟨wr.heap.size, wr.heap.size + 1, rfl, rfl, (two_allocs _ _ _).1, (two_allocs _ _ _).2.1, (two_allocs _ _ _).2.2⟩
            · go_wp2
              refine ⟨Or.inr (by intros; exact ⟨⟨_, hbd.alloc (Nat.le_refl _) _⟩, rfl⟩), ?_⟩
              refine mixT_one (k := 13) (by kernel_rfl) rfl ?_
              go_wp2
              refine ⟨Or.inr (by intros; exact ⟨⟨_, (hbd.alloc (Nat.le_refl _) _).alloc (by simp) _⟩, rfl⟩), ?_⟩
              refine mixT_one (k := 15) (by kernel_rfl) rfl ?_
              go_wp2
              refine ⟨Or.inr (by intros; exact ⟨⟨_, (hbd.alloc (Nat.le_refl _) _).alloc (by simp) _⟩, rfl⟩), ?_⟩
              refine mixT_one (k := 16) (by kernel_rfl) rfl ?_
              go_wp2
              refine ⟨Or.inr (by intros; exact ⟨⟨_, (hbd.alloc (Nat.le_refl _) _).alloc (by simp) _⟩, rfl⟩), ?_⟩
              refine mixT_nil (by kernel_rfl) ?_
              go_wp2
              go_meet
              case rel => exact ⟨wr.heap.size + 1, wr.heap.size, rfl, rfl, (two_allocs _ _ _).2.1, (two_allocs _ _ _).1, (two_allocs _ _ _).2.2⟩
          case rest =>
          as_aux_lemma =>
          obtain ⟨N1, N2, rfl, rfl, HN1, HN2, HBN⟩ := hcut
          have p0 : wc.cell? ⟨N1, 0, none⟩ = some (.int .u32 rp.sample) := cells_all HN1.out 0
          have p1 : wc.cell? ⟨N1, 1, none⟩ = some (.int .u32 rp.analyte) := cells_all HN1.out 1
          have q0 : wc.cell? ⟨N2, 0, none⟩ = some (.int .u32 rq.sample) := cells_all HN2.out 0
          have q1 : wc.cell? ⟨N2, 1, none⟩ = some (.int .u32 rq.analyte) := cells_all HN2.out 1
          have HBZ : Hid (Below V5.heap.size V5 wc) := HBL.out.trans (HBN.out.mono HBL.out.size)
          by_cases hse : rp.sample = rq.sample
          · have hra : ¬ rq.analyte ≤ rp.analyte := fun h => HR2.out ⟨hse, h⟩
            go_wp2
            refine Handed.intro (wn - (j + 1)) (by omega) ?_
            exact hJ3.out _ (.int .i64 ((j + 1 : Nat) : Int)) _ _ ⟨j + 1, by omega, Or.inl (by omega), rfl, rfl, HBZ⟩ (by kernel_rfl)
          · go_wp2
            refine Handed.intro (wn - (j + 1)) (by omega) ?_
            exact hJ3.out _ (.int .i64 ((j + 1 : Nat) : Int)) _ _ ⟨j + 1, by omega, Or.inl (by omega), rfl, rfl, HBZ⟩ (by kernel_rfl)
        · as_aux_lemma =>
          obtain ⟨bp, bl, blast, bne⟩ := last_at f.kind f.seq f.issued f.base f.changes
          have HTK := hide (take_body f.kind f.seq f.issued f.base f.changes)
          have HDR := hide (drop_body f.kind f.seq f.issued f.base f.changes)
          have HTT := hide (trl_text f.kind f.seq f.issued f.base f.changes)
          rw [← HLN.out] at bl
          obtain ⟨B, hB⟩ : ∃ B, B = (bodyText f.kind f.seq f.issued f.base f.changes).length := ⟨_, rfl⟩
          obtain ⟨T, hT⟩ : ∃ T, T = (trlI f.kind f.seq f.issued f.base f.changes).length := ⟨_, rfl⟩
          rw [← hB] at bp bl blast bne HTK HDR
          rw [← hT] at bl bne
          have HD6 : Hid (DataAt wr db dof ln dc (fileText f.kind f.seq f.issued f.base f.changes)) := HD5.out.next (HBL.out.block _ HD5.out.lt) HBL.out.size
          have zd := HD6.out.lt
          have HCE : Hid (∀ r, r < T → ∃ c, wr.cell? ⟨db, dof + (B + r), none⟩ = some (.int .u8 c) ∧ c ≠ 10) := fun r hr => by
            obtain ⟨c, h1, h2⟩ := bne r hr
            obtain ⟨h3, h4⟩ := List.getElem?_eq_some_iff.1 h1
            exact ⟨c, by rw [HD6.out.cell (B + r) h3, h4], h2⟩
          have HCL0 : Hid (wr.cell? ⟨db, dof + (B - 1), none⟩ = some (.int .u8 10)) := by
            obtain ⟨h3, h4⟩ := List.getElem?_eq_some_iff.1 blast
            show _ = _
            rw [HD6.out.cell (B - 1) h3, h4]
          have hib := run_indexAt_arr (P := Tryz.prog) (n := ln) (cap := dc) (a := some ⟨db, dof, none⟩) (b := db) (off := dof) Tryz.underlying55 Tryz.size5_i (fun _ => rfl)
          have HIB := hide hib
          have bl1 : ln ≤ B + T + 1 := by omega
          have bl2 : B + T + 1 ≤ ln := by omega
          clear bne blast hB hT hib bl
          go_upto_region 28 with fail
          refine wp_loop_mask ifL4 (fun g x W => ∃ e : Nat, B ≤ e ∧ e ≤ B + T ∧ g = e - B ∧ x = .int .i64 (e : Int) ∧ wr = W) T (.int .i64 ((ln : Int) - 1)) ⟨B + T, by omega, by omega, by omega, by congr 1; omega, rfl⟩ (by kernel_rfl) ?_
          intro gk4 x4 u4 wr4 hrel J4 K4 hJ4 hK4
          dsimp only [ifL4, maskL_keep, maskL_any, maskL_is, maskL_nil]
          obtain ⟨e, he1, he2, rfl, rfl, rfl⟩ := hrel
          have hixe : ∀ W, (Instr.indexAt 55 (.slice (some ⟨db, dof, none⟩) ln dc) (.int .i64 ((e : Int) - 1))).run Tryz.prog W = .ok (.pointer (some ⟨db, dof + (e - 1), none⟩)) W := fun W => by
            have h9 := HIB.out W ((e - 1 : Nat) : Int) (by omega) (by omega)
            rw [Int.toNat_natCast, Nat.mul_one] at h9
            rw [show (e : Int) - 1 = ((e - 1 : Nat) : Int) by omega]
            exact h9
          by_cases heB : B < e
          · as_aux_lemma =>
            obtain ⟨c, hc1, hc2⟩ := HCE.out (e - 1 - B) (by omega)
            rw [show B + (e - 1 - B) = e - 1 by omega] at hc1
            have hep : (0 : Int) < (e : Int) := by omega
            generalize dof + (e - 1) = A2 at *
            go_wp2
            refine Handed.intro (e - 1 - B) (by omega) ?_
            exact hJ4.out _ (.int .i64 ((e : Int) - 1)) _ _ ⟨e - 1, by omega, by omega, rfl, by congr 1; omega, rfl⟩ (by kernel_rfl)
          · as_aux_lemma =>
            obtain rfl : B = e := by omega
            have hc1 := HCL0.out
            have hep : (0 : Int) < (B : Int) := by omega
            generalize dof + (B - 1) = A2 at *
            go_upto_region 30 with fail
            have hdc := HD6.out.cap.1
            have hsl1 : ∀ W, (Instr.sliceAt 55 (.slice (some ⟨db, dof, none⟩) ln dc) none (some (.int .i64 (B : Int))) none).run Tryz.prog W = .ok (.slice (some ⟨db, dof, none⟩) B dc) W := fun W => run_slUpto W db dof ln dc B (by omega) (by omega)
            have hsl2 : ∀ W, (Instr.sliceAt 55 (.slice (some ⟨db, dof, none⟩) ln dc) (some (.int .i64 (B : Int))) none none).run Tryz.prog W = .ok (.slice (some ⟨db, dof + B, none⟩) (ln - B) (dc - B)) W := fun W => run_slOn W db dof ln dc B (by omega) hdc (by omega)
            have HCK := hide (checksum_calls wr _ _ _ (HD6.out.pre (q := B) (by omega)))
            rw [HTK.out] at HCK
            obtain ⟨su, hsu⟩ : ∃ su, su = crc (bodyText f.kind f.seq f.issued f.base f.changes) := ⟨_, rfl⟩
            rw [← hsu] at HCK HTT
            have hsu0 : 0 ≤ su := by rw [hsu]; exact crc_lo _
            have hsu1 : su ≤ 4294967295 := by rw [hsu]; exact crc_hi _
            have HSU2 := hide hsu
            clear hsu hc1 hixe
            go_upto_region 31 with (go_at_call 46; refine HCK.out.mono ?_; rintro e w5 ⟨rfl, rfl⟩)
            clear HCK hsl1
            have hk8r := (HBL.out.block _ (blk_lt HK85.out)).trans HK85.out
            have c84 : wr.cell? ⟨D8, 4, none⟩ = some (.slice wa wn wcp) := cells_all hk8r 4
            have z8 := blk_lt hk8r
            have HAI : Hid (∀ W, Calls Tryz.prog 47 #[.slice none 0 0, .int .i64 (wn : Int)] W fun e w' => ∃ v', e = .returned v' ∧ OwnR w' W.heap.size 5 1 byteCs v' (dec wn) ∧ Below W.heap.size W w') := fun W => (appendInt_calls W W.heap.size (.slice none 0 0) [] wn (OwnR.nil _ _ _ _ _) (Nat.le_refl _) (by simp) (by omega) (by omega)).mono (fun e w' ⟨v', h1, h2, _, h4, _⟩ => ⟨v', h1, h2, h4⟩)
            have hdl := dec_len (v := (wn : Int)) (by omega) (by omega)
            have hdp := dec_pos (wn : Int)
            go_upto_region 32 with first
              | (go_at_call 47; refine (HAI.out _).mono ?_; rintro e W2 ⟨v2, rfl, hown2, hb2⟩; obtain ⟨b2, o2, c2, rfl, hbz2, hc2⟩ := own_src (by omega) (by omega) hown2; have hgc := tl_cells _ _ hb2)
              | (at_builtin; refine wpList_appG rfl _ _ rfl wr.heap.size 2 2 [84, 124] rfl rfl hgc b2 o2 (dec (wn : Int)).length c2 rfl (dec (wn : Int)) rfl hc2 (by omega) (by omega) hbz2 ?_; intro v3 W3 hown3 hb3)
            have h23 : wr.heap.size ≤ W2.heap.size := by have := hb2.size; simp at this; omega
            have HO3 : Hid (OwnR W3 wr.heap.size 5 1 byteCs v3 ([84, 124] ++ dec (wn : Int))) := hown3.lower h23
            have HBW3 : Hid (Below wr.heap.size wr W3) := (((Below.refl _ _).alloc (Nat.le_refl _) _).trans (hb2.mono (by simp))).trans (hb3.mono h23)
            have hz3 := HBW3.out.size
            have hdl2 := dec_len (v := su) (by omega) (by omega)
            have HAJ : Hid (∀ W v bs, OwnR W wr.heap.size 5 1 byteCs v bs → wr.heap.size ≤ W.heap.size → bs.length ≤ 100 → Calls Tryz.prog 47 #[v, .int .i64 su] W fun e w' => ∃ v', e = .returned v' ∧ OwnR w' wr.heap.size 5 1 byteCs v' (bs ++ dec su) ∧ Below wr.heap.size W w' ∧ W.heap.size ≤ w'.heap.size) := fun W v bs h1 h2 h3 => (appendInt_calls W wr.heap.size v bs su h1 h2 (by omega) (by omega) (by omega)).mono (fun e w' ⟨v', g1, g2, _, g4, _⟩ => ⟨v', g1, g2, g4, g4.size⟩)
            clear hown3 hb3 hb2 hgc hc2 hbz2 c84 HAI
            go_upto_region 33 with first
              | (go_at_call 47; refine (HAJ.out _ _ _ hown4 (by have := hbel4.size; simp at this; omega) (by simp only [List.length_append, List.length_cons, List.length_nil]; omega)).mono ?_; rintro e W5 ⟨v5, rfl, hown5, hb5, hz5⟩; have HO5 : Hid (OwnR W5 wr.heap.size 5 1 byteCs v5 ([84, 124] ++ dec (wn : Int) ++ [124] ++ dec su)) := hown5; have hz4 : wr.heap.size ≤ W5.heap.size := (by have := hbel4.size; simp at this; omega); have HB5w : Hid (Below wr.heap.size wr W5) := ((HBW3.out.alloc hz3 _).trans hbel4).trans hb5; clear hown5 hown4 hsame4 hbel4 hat4 hb5 hz5)
              | (at_builtin; refine wpList_app1 (α := Int) rfl _ _ 55 rfl wr.heap.size 5 byteCs Tryz.underlying55 Tryz.info5 rfl (by decide) byteCs_size byteCs_one v5 ([84, 124] ++ dec (wn : Int) ++ [124] ++ dec su) rfl (OwnR.below HO5.out ((Below.refl _ _).alloc (Nat.le_refl _) _) (Nat.le_refl _)) _ rfl 10 ((rng_alloc_at _ _ _ _ _ _ _ rfl).trans rfl) (by simp only [List.length_append, List.length_cons, List.length_nil]; omega) (by unfold maxLen; simp only [List.length_append, List.length_cons, List.length_nil]; omega) (by simp; omega) ?_; intro v6 W6 hown6 hsame6 hbel6 hat6; have HO6 : Hid (OwnR W6 wr.heap.size 5 1 byteCs v6 ([84, 124] ++ dec (wn : Int) ++ [124] ++ dec su ++ [10])) := hown6; have HB6w : Hid (Below wr.heap.size wr W6) := (HB5w.out.alloc hz4 _).trans hbel6; clear hown6 hsame6 hbel6 hat6)
              | (at_builtin; refine wpList_app1 (α := Int) rfl _ _ 55 rfl wr.heap.size 5 byteCs Tryz.underlying55 Tryz.info5 rfl (by decide) byteCs_size byteCs_one v3 ([84, 124] ++ dec (wn : Int)) rfl (OwnR.below HO3.out ((Below.refl _ _).alloc (Nat.le_refl _) _) (Nat.le_refl _)) _ rfl 124 ((rng_alloc_at _ _ _ _ _ _ _ rfl).trans rfl) (by simp only [List.length_append, List.length_cons, List.length_nil]; omega) (by unfold maxLen; simp only [List.length_append, List.length_cons, List.length_nil]; omega) (by simp; omega) ?_; intro v4 W4 hown4 hsame4 hbel4 hat4)
            have hD6w := HD6.out.next (HB6w.out.block _ HD6.out.lt) HB6w.out.size
            have HSB := hide (sameBytes_calls W6 _ _ _ _ _ _ (hD6w.post (q := B) (by omega)) (HO6.out.rows byteCs_size (by decide) (by simp only [List.length_append, List.length_cons, List.length_nil]; omega)))
            have heq : (fileText f.kind f.seq f.issued f.base f.changes).drop B = [84, 124] ++ dec (wn : Int) ++ [124] ++ dec su ++ [10] := by rw [HDR.out, ← HTT.out, Hm.out]
            rw [decide_eq_true heq] at HSB
            clear heq hD6w
            go_upto_region 35 with (go_at_call 48; refine HSB.out.mono ?_; rintro e W7 ⟨rfl, n7, rfl⟩)
            have HB7 : Hid (Below wr.heap.size wr (W6.drewN n7)) := below_drewN HB6w.out _
            clear HSB HB6w HO6 hsl2 z8
            generalize W6.drewN n7 = W7 at *
            have HB7v : Hid (Below U2.heap.size U2 W7) := (HB5.out.trans (HBL.out.mono HB5.out.size)).trans (HB7.out.mono (Nat.le_trans HB5.out.size HBL.out.size))
            have HX7 : Hid (MX w W7 M K t m) := (HX5.out.below HBL.out).below HB7.out
            have hk87 : W7.heap[D8]? = some (.cells (fileCs f.kind f.seq f.issued f.base wa wn wcp) 59 (0, 0)) := (HB7.out.block _ (blk_lt hk8r)).trans hk8r
            have HAK := hide (HX7.out.bx.askB HPO.out (HGL.out _ HX7.out.bx.blw) 26 ((i : Int) + 1) 0 rfl ⟨by omega, by omega⟩ ⟨by omega, by omega⟩)
            have HK87 := hide hk87
            clear hk87
            go_upto_region 36 with (go_at_call 27; refine HAK.out.mono ?_; rintro e W8 ⟨rsp, rfl, hb8, hrp⟩; have hhd8 : rsp.hd = hdrOf f.kind f.seq f.issued f.base f.changes := ask_hdr hrp HHD.out)
            obtain ⟨Hd, hHd⟩ : ∃ Hd, Hd = hdrOf f.kind f.seq f.issued f.base f.changes := ⟨_, rfl⟩
            have hHe : (⟨f.kind, (i : Int) + 1, f.issued, f.base, (wn : Int), su, (ln : Int) % 4294967296⟩ : Hdr) = Hd := by
              rw [hHd, hdr_is, ← HLN.out, ← HSU2.out, ← Hm.out, HSQ.out]
            have hne : ∀ W x y, (cmpS .neq 71 x y (.agg (hdrCs Hd)) (.agg (hdrCs ⟨f.kind, (i : Int) + 1, f.issued, f.base, (wn : Int), su, (ln : Int) % 4294967296⟩))).run Tryz.prog W = .ok (.bool false) W := fun W x y => by
              rw [hHe]
              exact run_neqHdr x y Hd W
            have HNEQ := hide hne
            clear hHe hne
            rw [← hHd]
            have hb9 : Below W7.heap.size W7 (W8.alloc (.cells (hdrCs Hd) 71)) := hb8.alloc hb8.size _
            have hk19 : (W8.alloc (.cells (hdrCs Hd) 71)).heap[W8.heap.size]? = some (.cells (hdrCs Hd) 71 (0, 0)) := heap_alloc_at _ _
            clear hb8 hrp hhd8 hHd HAK
            generalize W8.alloc (.cells (hdrCs Hd) 71) = V9 at *
            generalize W8.heap.size = D19 at *
            have HB9 : Hid (Below U2.heap.size U2 V9) := HB7v.out.trans (hb9.mono HB7v.out.size)
            have hk89 : V9.heap[D8]? = some (.cells (fileCs f.kind f.seq f.issued f.base wa wn wcp) 59 (0, 0)) := (hb9.block _ (blk_lt HK87.out)).trans HK87.out
            have r19 : rng V9 D19 0 7 = some (hdrCs Hd) := rng_whole hk19
            have d0 : V9.cell? ⟨D8, 0, none⟩ = some (.int .u8 f.kind) := cells_all hk89 0
            have d2 : V9.cell? ⟨D8, 2, none⟩ = some (.int .i64 f.issued) := cells_all hk89 2
            have d3 : V9.cell? ⟨D8, 3, none⟩ = some (.int .u32 f.base) := cells_all hk89 3
            have d4 : V9.cell? ⟨D8, 4, none⟩ = some (.slice wa wn wcp) := cells_all hk89 4
            have z19 := blk_lt hk19
            have z89 := blk_lt hk89
            have hmw : (wn : Int) % 4294967296 = wn := by omega
            clear hk19 hk89 hb9
            have hne := HNEQ.out
            go_wp2
            refine Handed.intro (nf - (i + 1)) (by omega) ?_
            exact hJ2.out _ (.int .i64 ((i + 1 : Nat) : Int)) _ _ ⟨i + 1, by omega, rfl, rfl, HB9⟩ (by kernel_rfl)
      · as_aux_lemma =>
        obtain rfl : i = nf := by omega
        have HXf : Hid (MX w wr M K t m) := HX2.out.below HBW.out
        have hiu : U32 ((i : Int) + 1) := ⟨by omega, by omega⟩
        obtain ⟨Y, hbn, hfile⟩ := HXf.out.bx.fileB HPO.out hiu
        rw [HTI.out.fi.fbNo hiu (Or.inr (by rw [HFL.out]; omega))] at hfile
        have HFI := hide hfile
        have b2 := cells_all hbn 2
        simp only [List.getElem?_toArray, List.getElem?_cons_zero, List.getElem?_cons_succ] at b2
        have zB := blk_lt hbn
        have cu : wr.cell? ⟨M, 10, none⟩ = some (.slice fa i fcap) := (HBW.out.cell (p := ⟨M, 10, none⟩) zM).trans HCU.out
        have zM2 : M < wr.heap.size := Nat.lt_of_lt_of_le zM HBW.out.size
        have hmod : ((i : Int) + 1) % 4294967296 = (i : Int) + 1 := by omega
        have HFW := hide HXf.out.bx.blw
        clear hbn hfile hif
        go_upto_region 39 with fail
        refine wp_region_mixT (wr.heap.size) [3, 7] (by kernel_rfl) ?_
        refine mixT_slots [0, 1, 2, 4, 5, 6] (fuel := 11) rfl (by kernel_rfl) (by kernel_rfl) (fun d _ _ _ _ h => by cases d <;> exact h) ?_
        simp only [opersAt, List.getElem?_toArray, List.getElem?_cons_zero, List.getElem?_cons_succ]
        repeat (go_big_quiet_step (fail))
        refine wpQuiet_nil ?_
        refine mixT_reads [3, 7] (fuel := 9) rfl (by kernel_rfl) (by decide) (by kernel_rfl) (fun d _ _ _ _ h => by cases d <;> exact h) (ext_drew _ _) ?_
        simp only [opersAt, List.getElem?_toArray, List.getElem?_cons_zero, List.getElem?_cons_succ]
        repeat (go_big_quiet_step (fail))
        refine wpQuiet_nil ?_
        refine mixT_slots [8, 9, 10] (fuel := 6) rfl (by kernel_rfl) (by kernel_rfl) (fun d _ _ _ _ h => by cases d <;> exact h) ?_
        simp only [opersAt, List.getElem?_toArray, List.getElem?_cons_zero, List.getElem?_cons_succ]
        repeat (go_big_quiet_step (fail))
        refine wpQuiet_nil ?_
        refine mixT_one (k := 11) (by kernel_rfl) rfl ?_
        go_wp2_with (go_at_call 32; refine (HFI.out _ (Below.refl _ _).drew).mono ?_; rintro e V1 ⟨rfl, hb1⟩)
        have hbV : Below wr.heap.size wr V1 := (Below.refl _ _).drew.trans hb1
        refine ⟨Or.inr (by intros; exact ⟨⟨_, hbV⟩, rfl⟩), ?_⟩
        refine mixT_slots [12, 13, 14, 15, 16] (fuel := 0) rfl (by kernel_rfl) (by kernel_rfl) (fun d _ _ _ _ h => by cases d <;> exact h) ?_
        simp only [opersAt, List.getElem?_toArray, List.getElem?_cons_zero, List.getElem?_cons_succ]
        repeat (go_big_quiet_step (fail))
        refine wpQuiet_nil ?_
        refine mixT_nil (by kernel_rfl) ?_
        have HFV : Hid (Below w.heap.size w V1) := HFW.out.trans (hbV.mono HFW.out.size)
        clear hb1 hbV
        go_wp2_with (go_at_call 49; refine (codeOf_err 23 _ rfl).mono ?_; rintro e V2 ⟨rfl, rfl⟩)
        go_ret
        exact ⟨rfl, HFV.out⟩
  · have hd : decide (total s ≤ 65536) = false := by simpa using hsm
    rw [hd] at HSm
    clear hd hsm ha hc hn hgl HNB hng
    go_enter Tryz.func10, Tryz.ntmps10
    go_wp2_with (go_at_call 18; refine HSm.out.mono ?_; rintro e w1 ⟨rfl, rfl⟩)
    go_ret
    exact ⟨rfl, Below.refl _ _⟩
end Go.Proofs.Qxb6500666aGreatDoor
