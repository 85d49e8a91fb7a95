/- LedgerRefusesTamperedFiles, walked. (Written by tools/mk_cumw.py out of TamW0.txt.) -/
import Derived.Test.Qxb6500666aGreatDoorTamI
import Derived.Test.Qxb6500666aGreatDoorTamS
import Derived.Test.Qxb6500666aGreatDoorTamBits
import Derived.Test.Qxb6500666aGreatDoorLedF
import Derived.Test.Qxb6500666aGreatDoorCumM
import Derived.BigQuiet
import Derived.Deep.CutBlock
namespace Go.Proofs.Qxb6500666aGreatDoor
open Go.RowKit
attribute [local go_sem] ext_const Ext.cell Ext.frozen Ext.rng Ext.whole
attribute [local go_sem ↓] exec_ldOpz exec_stOpz exec_ldFile exec_stFile exec_ldChange exec_stChange exec_ldLed exec_stLed
attribute [local go_sem] run_ldOpz run_stOpz opA_size run_ldFile run_stFile fileCs_size fileCs_ones run_ldChange run_stChange changeCs_size changeCs_ones changeCs_row changeCs_all run_ldLed run_stLed ledCs_ones zfCs_size whole_alloc_lt whole_alloc_at whole_drew setRow_alloc_at setRow_alloc_lt setRow_drew rng_alloc_lt rng_alloc_at rng_drew rng_drewN tf_ones tf_ex change_ones

set_option maxRecDepth 100000 in
set_option maxHeartbeats 8000000 in
theorem tamper_walk (w : World) (v : Value) (s : List Op) (rn kn ft : Nat → ByteArray) (okg : Nat → Prop) (h : Script w (· < w.heap.size) v s) (hgl : Gl w w.heap.size rn kn ft okg) :
    Calls Tryz.prog 13 #[v] w fun e w' => e = .returned (.bool true) ∧ Below w.heap.size w w' := by
  have HSm := hide (small_calls w _ v s h)
  have HGL := hide (fun W (hb : Below w.heap.size w W) => hgl.same hb (Nat.le_refl _))
  have HNB := hide (newBench_calls w)
  obtain ⟨a, cap, b, off, rfl, hl, hm, hr, ha, hc⟩ := h
  obtain ⟨n, hn⟩ : ∃ n, n = s.length := ⟨_, rfl⟩
  have Hn : Hid (n = s.length) := hn
  rw [← hn] at hl hr ha HSm ⊢
  have hi := run_indexAt_arr (P := Tryz.prog) (cap := cap) Tryz.underlying22 Tryz.size61 (fun h => (ha h).1)
  have HB : Hid (0 < n → b < w.heap.size) := fun h => (ha h).2
  by_cases hsm : total s ≤ 65536
  · have HC : Hid (∀ k (h : k < s.length), ∃ lv dv ca cn cc, rng w b (off + k * 27) 27 = some (opA s[k] lv dv ca cn cc) ∧ OpIn w (· < w.heap.size) s[k] lv dv ca cn cc ∧ ones (opA s[k] lv dv ca cn cc) 27 = true) := fun k h => by
      obtain ⟨cs, hlen, hE, hcell⟩ := hc k h
      have ht := total_le h hsm
      obtain ⟨lv, dv, ca, cn, cc, e, hO, h1⟩ := opIn_of hE ht.2.1 ht.2.2
      refine ⟨lv, dv, ca, cn, cc, ?_, hO, h1⟩
      rw [← e]
      have hl27 : cs.length = 27 := by have := congrArg Array.size e; simpa [opA] using this
      have := rng_of_cells (w := w) (b := b) (off := off + k * 27) (by omega) hcell
      rw [hl27] at this
      exact this
    have HRO : Hid (∀ k (hk : k < s.length), s[k].req.Ok) := fun k hk => by
      obtain ⟨_, _, _, _, _, _, h1, _⟩ := HC.out k hk
      exact h1.req
    have HIV : Hid (∀ q, q ≤ s.length → Inv q (stAt s q)) := inv_all HRO.out
    have hn2 : n ≤ 65536 := by have := hsm; unfold total at this; omega
    have HCI : Hid (∃ fs rows vf lf, CI (stAt s n) fs rows vf lf ∧ fs.length ≤ n) := ci_all HRO.out (by omega) n (by omega)
    have hd : decide (total s ≤ 65536) = true := by simpa using hsm
    rw [hd] at HSm
    clear hd hsm ha hc hn hgl HRO
    go_enter Tryz.func13, Tryz.ntmps13
    go_upto_region 3 with (go_at_call 18; refine HSm.out.mono ?_; rintro e w1 ⟨rfl, rfl⟩)
    go_upto_region 4 with (go_at_call 19; refine HNB.out.mono ?_; rintro e W0 ⟨rfl, hbn, hb0⟩)
    have HQ0 : Hid (BX w W0 (fun _ => False) (stAt s 0)) := BX.start hbn hb0
    clear hbn hb0 HSm HNB
    go_upto_region 5 with fail
    refine wp_loop_mask tmL1 (fun g x wr => ∃ q : Nat, q ≤ n ∧ g = n - q ∧ x = .int .i64 q ∧ Hid (BX w wr (fun _ => False) (stAt s q))) n (.int .i64 0) ⟨0, by omega, by omega, rfl, HQ0⟩ (by kernel_rfl) ?_
    clear HQ0
    intro gk1 x1 u1 wr hrel J1 K1 hJ1 hK1
    dsimp only [tmL1, maskL_keep, maskL_any, maskL_is, maskL_nil]
    obtain ⟨q, hq, rfl, rfl, HQ⟩ := hrel
    by_cases hlt : q < n
    · as_aux_lemma =>
      have hqs : q < s.length := by rw [← Hn.out]; exact hlt
      have hbb := HB.out (by omega)
      obtain ⟨lv, dv, ca, cn, cc, hcl, hO, hones⟩ := HC.out q hqs
      have HIQ := hide (HIV.out q (by omega))
      have HSQ := hide (stAt_succ hqs)
      generalize s[q] = p at *
      have hcells : rng wr b (off + q * 27) 27 = some (opA p lv dv ca cn cc) := by rw [rng_of_block (HQ.out.blw.block _ hbb)]; exact hcl
      have hbw : b < wr.heap.size := by have := HQ.out.blw.size; omega
      have HOI := hide hO
      clear hO hcl HCI
      go_upto_region 7 with fail
      have HQ1 := hide (HQ.out.below ((Below.refl _ _).alloc (Nat.le_refl _) (.cells (opA p lv dv ca cn cc) 61)))
      have hk1 : (wr.alloc (.cells (opA p lv dv ca cn cc) 61)).heap[wr.heap.size]? = some (.cells (opA p lv dv ca cn cc) 61 (0, 0)) := heap_alloc_at _ _
      generalize wr.alloc (.cells (opA p lv dv ca cn cc) 61) = U1 at *
      generalize wr.heap.size = D at *
      have hr1 : rng U1 D 0 27 = some (opA p lv dv ca cn cc) := rng_whole hk1
      have HST := hide (HQ1.out.step (HIQ.out.po (by omega)) (HOI.out.below HQ1.out.blw) (HGL.out _ HQ1.out.blw) ⟨HIQ.out.off.1, by have := HIQ.out.off.2; omega⟩)
      clear hk1 hcells hbw HQ
      go_wp2_with (go_at_call 21; refine HST.out.mono ?_; rintro e U2 ⟨ans, rfl, hq2, hf2, ha2⟩; have HQ2 : Hid (BX w U2 (fun _ => False) (stAt s (q + 1))) := (by rw [HSQ.out]; exact hq2); clear hq2 hf2 ha2)
      refine Handed.intro (n - (q + 1)) (by omega) ?_
      exact hJ1.out _ (.int .i64 ((q + 1 : Nat) : Int)) _ _ ⟨q + 1, by omega, rfl, rfl, HQ2⟩ (by kernel_rfl)
    · as_aux_lemma =>
      obtain rfl : q = n := by omega
      obtain ⟨fs, rows, vf, lf, hci, hfl⟩ := HCI.out
      have HFI := hide hci.fi
      have HCL := hide hci.cl
      have HPO := hide ((HIV.out q (by have := Hn.out; omega)).po (by omega))
      have HGW := hide (fun W (hb : Below w.heap.size w W) => HGL.out W hb)
      have hfl2 : fs.length ≤ 65536 := by omega
      clear hci HCI HIV HGL hl hr
      generalize stAt s q = t at *
      have HCH := hide (chain_calls HQ.out HPO.out HGW.out HFI.out hfl2 HCL.out)
      go_upto_region 12 with (go_at_call 52; refine HCH.out.mono ?_; rintro e V1 ⟨fv, tv, zf, zt, rfl, hchi, hzf, hzt⟩; have HCHI := hide hchi; have HZF := hide hzf; have HZT := hide hzt; clear hchi hzf hzt)
      have HB1 : Hid (Below w.heap.size w V1) := HQ.out.blw.trans (HCHI.out.bel.mono HQ.out.blw.size)
      clear HCH HQ HPO HGW
      have HTX : Hid (TxAt V1 (· < V1.heap.size) tv zt fs) := HCHI.out.texts HZT.out (by omega)
      have HFK := hide (HFI.out.fk (by omega) HCL.out)
      obtain ⟨fa, fc, hfv⟩ := HCHI.out.a.form
      subst hfv
      obtain ⟨ta, tc, htv⟩ := HCHI.out.b.form
      subst htv
      have hzl : zf.length = fs.length := by have := congrArg List.length HZF.out; simpa using this
      have htl : zt.length = fs.length := by have := congrArg List.length HZT.out; simpa using this
      obtain ⟨N, hN⟩ : ∃ N, N = fs.length := ⟨_, rfl⟩
      rw [htl, ← hN] at HTX
      rw [← hN] at hfl2
      obtain ⟨ra, rc, rb, ro, re, rl1, rl2, rl3, rha, rhc⟩ := RArr.lt (HCHI.out.a.rows zfCs_size (by decide) (by omega))
      injection re with re1 re2 re3
      subst re1
      subst re3
      rw [hzl, ← hN] at rha
      have hif := run_indexAt_arr (P := Tryz.prog) (n := N) (cap := fc) Tryz.underlying43 Tryz.size59 (fun h => (rha h).1)
      have HRB : Hid (0 < N → rb < V1.heap.size) := fun h => (rha h).2.2
      have HRC := hide rhc
      have HCF : Hid (∀ z ∈ zf, ChangesAt V1 (· < V1.heap.size) (sv z.2) z.1.changes) := fun z hz => RArr.mono (HCHI.out.cf z hz) (Same.refl _ _) (fun _ q => q.1.2)
      rw [hzl, htl, ← hN]
      have HN := hide hN
      have HZL : Hid (zf.length = N) := hzl.trans hN.symm
      have HZL2 : Hid (zt.length = N) := htl.trans hN.symm
      clear re2 rl1 rl2 rl3 rha rhc hzl htl hN hfl HCHI
      have hmf : ∀ (fn : Fn) (first cap : Array Value) (w : World), (Instr.makeFunc fn first cap).run Tryz.prog w = .ok (.func fn first cap) w := fun _ _ _ _ => rfl
      go_upto_region 15 with fail
      have HT0 : Hid (TI V1 ((V1.alloc (.cells (ledCs led0 (none, 0, 0)) 154)).alloc (.cells #[.int .i64 0] 2)) fs 0 (none, 0, 0)) := TI.start V1 fs
      change Code.wp _ _ _ _ ((V1.alloc (.cells (ledCs led0 (none, 0, 0)) 154)).alloc (.cells #[.int .i64 0] 2))
      generalize (V1.alloc (.cells (ledCs led0 (none, 0, 0)) 154)).alloc (.cells #[.int .i64 0] 2) = V2 at *
      refine wp_loop_mask tmL2 (fun g x wr => ∃ (i : Nat) (v : SV), i ≤ N ∧ g = N - i ∧ x = .int .i64 i ∧ Hid (TI V1 wr fs i v)) N (.int .i64 0) ⟨0, _, by omega, by omega, rfl, HT0⟩ (by kernel_rfl) ?_
      clear HT0
      intro gk2 x2 u2 wr hrel J2 K2 hJ2 hK2
      dsimp only [tmL2, maskL_keep, maskL_any, maskL_is, maskL_nil]
      obtain ⟨i, v, hiN, rfl, rfl, HTI⟩ := hrel
      by_cases hilt : i < N
      · as_aux_lemma =>
        have hif1 : i < fs.length := by rw [← HN.out]; exact hilt
        have hiz : i < zf.length := by rw [HZL.out]; exact hilt
        have hrbw := HRB.out (by omega)
        have hfc : rng wr rb (ro + i * 5) 5 = some (zfCs zf[i]) := by rw [rng_of_block (HTI.out.bel.block _ hrbw)]; exact HRC.out i hiz
        have hrbl : rb < wr.heap.size := by have := HTI.out.bel.size; omega
        obtain ⟨ze, hze⟩ : ∃ ze, ze = zf[i] := ⟨_, rfl⟩
        have hzef : ze.1 = fs[i] := by
          have := congrArg (fun l => l[i]?) HZF.out
          simp only [List.getElem?_map, List.getElem?_eq_getElem hiz, List.getElem?_eq_getElem hif1] at this
          rw [hze]
          simpa using this
        have HCHG : Hid (ChangesAt V1 (· < V1.heap.size) (sv ze.2) ze.1.changes) := HCF.out ze (by rw [hze]; exact List.getElem_mem hiz)
        rw [← hze] at hfc
        obtain ⟨f, ⟨ca, cn, cc⟩⟩ := ze
        dsimp only at hzef
        have HREF : Hid (∀ g ∈ fgN f (ledAt fs i).issued f.changes.length, g ≠ f → takeR (ledAt fs i) g = none) := by
          rw [hzef]
          exact HFI.out.refuse (by have := HN.out; omega) hif1 _ (Nat.le_refl _)
        have HQK : Hid (FK f) := by rw [hzef]; exact HFK.out fs[i] (List.getElem_mem hif1)
        have hnum : f.seq = (i : Int) + 1 ∧ 0 ≤ f.base ∧ f.base < f.seq := by
          rw [hzef]
          have h1 := HFI.out.nums (by have := HN.out; omega) hif1
          exact ⟨(HFI.out.seq i hif1).1, h1.2.2.2.1.1, h1.2.2.2.2.1⟩
        have HTOK : Hid (takeR (ledAt fs i) f = some (ledAt fs (i + 1))) := by rw [hzef]; exact HFI.out.take_ok (by have := HN.out; omega) hif1
        have hiss : 0 ≤ (ledAt fs i).issued ∧ (ledAt fs i).issued ≤ 157785119 := HFI.out.ledIss (by have := HN.out; omega) i (by omega)
        have hrl : (ledAt fs i).rows.length ≤ 100000000 := by
          have h1 := HFI.out.preLen (HFI.out.relAt_some i)
          have h2 : (ledAt fs i).rows = relAt fs i := rfl
          rw [h2]
          have := HN.out
          omega
        have HISN : Hid ((ledAt fs (i + 1)).issued = f.issued) := by
          show _ = _
          rw [hzef]
          simp [ledAt, List.getElem?_eq_getElem hif1]
        have hcn : cn = f.changes.length := by
          obtain ⟨_, _, _, _, e, _⟩ := HCHG.out
          injection e
        have HCN := hide hcn
        have hcn6 : cn ≤ 65536 := by rw [hcn]; exact HQK.out.len
        have HGK : Hid (∀ g ∈ fgN f (ledAt fs i).issued f.changes.length, GK g) := fgN_gk HQK.out hnum.2.2 (by have := HN.out; omega) ⟨by omega, by omega⟩ hiss.1 _
        clear hze hiz hzef hcn
        go_upto_region 17 with fail
        have hke : (wr.alloc (.cells (zfCs (f, (ca, cn, cc))) 59)).heap[wr.heap.size]? = some (.cells (zfCs (f, (ca, cn, cc))) 59 (0, 0)) := heap_alloc_at _ _
        have HTI1 := hide (HTI.out.below ((Below.refl _ _).alloc (Nat.le_refl _) (.cells (zfCs (f, (ca, cn, cc))) 59)))
        have hz1 : (wr.alloc (.cells (zfCs (f, (ca, cn, cc))) 59)).heap.size = wr.heap.size + 1 := by simp
        generalize wr.alloc (.cells (zfCs (f, (ca, cn, cc))) 59) = U1 at *
        have HEV : Hid (V1.heap.size + 2 ≤ wr.heap.size) := by have h1 := blk_lt HTI.out.last; show _ ≤ _; omega
        generalize wr.heap.size = E at *
        obtain ⟨xa, xc, xb, xo, xe, xl1, xl2, xl3, xha, xhc⟩ := RArr.lt HCHG.out
        injection xe with xe1 xe2 xe3
        subst xe1
        subst xe3
        rw [← xe2] at xha
        have hiC := run_indexAt_arr (P := Tryz.prog) (n := cn) (cap := cc) Tryz.underlying57 Tryz.size111 (fun h => (xha h).1)
        have HXB : Hid (0 < cn → xb < V1.heap.size) := fun h => (xha h).2.2
        have HXC := hide xhc
        have HKE := hide hke
        clear hke hfc hrbl hrbw HTI xe2 xl1 xl2 xl3 xha xhc hif HRB HRC HCF HZL HZF
        go_upto_region 18 with fail
        have HF0 := hide (FgI.start U1)
        generalize hU2 : U1.alloc (.cells #[.slice none 0 0] 43) = U2 at *
        rw [hz1] at HF0
        obtain ⟨T, hT⟩ : ∃ T, T = E + 1 := ⟨_, rfl⟩
        rw [← hT] at HF0 hz1 ⊢
        have HTT : Hid (U1.heap.size = T) := hz1
        have HET : Hid (E < T) := by show E < T; omega
        -- what every tamper finds
        have HTF : Hid (∀ {U : World} {K : Nat → Prop} {zs : List ZF} {v' : SV}, FgI U1 U T K zs v' → U.heap[E]? = some (.cells (zfCs (f, (ca, cn, cc))) 59 (0, 0)) ∧ ChangesAt U (fun _ => True) (sv (ca, cn, cc)) f.changes ∧ U.heap[V1.heap.size + 1]? = some (.cells #[.int .i64 (ledAt fs i).issued] 2 (0, 0)) ∧ Below V1.heap.size V1 U) := fun {U K zs v'} h => by
          have hb := h.bel
          rw [← HTT.out] at hb
          refine ⟨(hb.block _ (blk_lt HKE.out)).trans HKE.out, RArr.mono HCHG.out (fun b q => (hb.block b (Nat.lt_of_lt_of_le q HTI1.out.bel.size)).trans (HTI1.out.bel.block b q)) (fun _ _ => trivial), (hb.block _ (blk_lt HTI1.out.last)).trans HTI1.out.last, HTI1.out.bel.trans (hb.mono HTI1.out.bel.size)⟩
        clear hU2 hT hz1
        go_upto_region 19 with fail
        have HA1 := hide (tamper60 U1 U2 T E _ [] _ f (seqF f) (ca, cn, cc) HF0.out (HTF.out HF0.out).1 (HTF.out HF0.out).2.1 HQK.out.len HQK.out.len (by simp) (chg60 U2 f (by omega)))
        go_upto_region 20 with (go_at_call 59; refine HA1.out.mono ?_; rintro e U3 ⟨rfl, ⟨c1, v1, hf1⟩, -⟩; have HF1 := hide hf1; clear hf1)
        clear HA1 HF0
        have HA2 := hide (tamper61 U1 U3 T E _ _ _ f (baseF f) (ca, cn, cc) HF1.out (HTF.out HF1.out).1 (HTF.out HF1.out).2.1 HQK.out.len HQK.out.len (by simp) (chg61 U3 f (by omega) hnum.2))
        go_upto_region 21 with (go_at_call 59; refine HA2.out.mono ?_; rintro e U4 ⟨rfl, ⟨c2, v2, hf2⟩, -⟩; have HF2 := hide hf2; clear hf2)
        clear HA2 HF1
        have HA3 := hide (tamper62 U1 U4 T E _ _ _ f (issF f (ledAt fs i).issued) (ca, cn, cc) (.pointer (some ⟨V1.heap.size + 1, 0, none⟩)) HF2.out (HTF.out HF2.out).1 (HTF.out HF2.out).2.1 HQK.out.len HQK.out.len (by simp) (chg62 U4 f (V1.heap.size + 1) (ledAt fs i).issued (HTF.out HF2.out).2.2.1 (by omega)))
        go_upto_region 22 with (go_at_call 59; refine HA3.out.mono ?_; rintro e U5 ⟨rfl, ⟨c3, v3, hf3⟩, -⟩; have HF3 := hide hf3; clear hf3)
        clear HA3 HF2
        have HFF : Hid (FgI U1 U5 T (fun _ => False) (((([] : List ZF) ++ [(seqF f, c1)]) ++ [(baseF f, c2)]) ++ [(issF f (ledAt fs i).issued, c3)]) v3 ∧ (((([] : List ZF) ++ [(seqF f, c1)]) ++ [(baseF f, c2)]) ++ [(issF f (ledAt fs i).issued, c3)]).map (·.1) = fgN f (ledAt fs i).issued 0) := ⟨HF3.out, rfl⟩
        have e4 : U5.cell? ⟨E, 4, none⟩ = some (.slice ca cn cc) := cells_all (HTF.out HF3.out).1 4
        have zE := blk_lt (HTF.out HF3.out).1
        clear HF3
        generalize ((([] : List ZF) ++ [(seqF f, c1)]) ++ [(baseF f, c2)]) ++ [(issF f (ledAt fs i).issued, c3)] = zs0 at *
        go_upto_region 23 with fail
        clear e4 zE
        refine wp_loop_mask tmL3 (fun g x wx => ∃ (n : Nat) (zs : List ZF) (v : SV), n ≤ cn ∧ g = cn - n ∧ x = .int .i64 n ∧ Hid (FgI U1 wx T (fun _ => False) zs v ∧ zs.map (·.1) = fgN f (ledAt fs i).issued n)) cn (.int .i64 0) ⟨0, zs0, v3, by omega, by omega, rfl, HFF⟩ (by kernel_rfl) ?_
        clear HFF
        intro gk3 x3 u3 wx hrel J3 K3 hJ3 hK3
        dsimp only [tmL3, maskL_keep, maskL_any, maskL_is, maskL_nil]
        obtain ⟨n, zs, vz, hncn, rfl, rfl, HFN⟩ := hrel
        by_cases hnlt : n < cn
        · as_aux_lemma =>
          have hnf : n < f.changes.length := by rw [← HCN.out]; exact hnlt
          have hxb := HXB.out (by omega)
          have hbx := (HTF.out HFN.out.1).2.2.2
          have hrc : rng wx xb (xo + n * 14) 14 = some (changeCs f.changes[n]) := (rng_of_block (hbx.block _ hxb) _ _).trans (HXC.out n hnf)
          have hxbw : xb < wx.heap.size := Nat.lt_of_lt_of_le hxb hbx.size
          have HSUC : Hid (fgN f (ledAt fs i).issued (n + 1) = fgN f (ledAt fs i).issued n ++ fgLine f n f.changes[n]) := fgN_succ hnf
          have hzs : zs.length ≤ 200000 := by
            have h1 := congrArg List.length HFN.out.2
            have h2 := fgN_len f (ledAt fs i).issued n
            rw [List.length_map] at h1
            omega
          clear hbx hxb
          go_upto_region 25 with fail
          have HBX : Hid (Below wx.heap.size wx ((wx.alloc (.cells #[.int .i64 n] 3)).alloc (.cells (changeCs f.changes[n]) 111))) := ((Below.refl _ _).alloc (Nat.le_refl _) _).alloc (by simp) _
          have hk15 : ((wx.alloc (.cells #[.int .i64 n] 3)).alloc (.cells (changeCs f.changes[n]) 111)).heap[wx.heap.size]? = some (.cells #[.int .i64 n] 3 (0, 0)) := (Below.heap_alloc _ _ _ (by simp)).trans (heap_alloc_at _ _)
          have hk16 : ((wx.alloc (.cells #[.int .i64 n] 3)).alloc (.cells (changeCs f.changes[n]) 111)).heap[wx.heap.size + 1]? = some (.cells (changeCs f.changes[n]) 111 (0, 0)) := box2 wx _ _ _ _
          generalize (wx.alloc (.cells #[.int .i64 n] 3)).alloc (.cells (changeCs f.changes[n]) 111) = X1 at *
          have HFX := hide (HFN.out.1.more (K' := fun b => b = wx.heap.size) HBX.out (fun b q => Or.inr ⟨by omega, by have := blk_lt hk15; omega⟩))
          have HZN := hide HFN.out.2
          have a0 : X1.cell? ⟨wx.heap.size + 1, 0, none⟩ = some (.int .u8 f.changes[n].action) := cells_all hk16 0
          have e0 : X1.cell? ⟨E, 0, none⟩ = some (.int .u8 f.kind) := cells_all (HTF.out HFX.out).1 0
          have zA := blk_lt hk16
          have zE := blk_lt (HTF.out HFX.out).1
          have HK15 := hide hk15
          clear hk15 hk16 hrc hxbw HFN HBX
          generalize wx.heap.size = D at *
          have HLS : Hid (∀ c', (chAt f n c').changes.length ≤ 65536) := fun c' => by
            show (f.changes.set n c').length ≤ _
            rw [List.length_set]
            exact HQK.out.len
          have HLD : Hid ((dropAt f n).changes.length ≤ 65536) := by
            have h1 := HQK.out.len
            have h2 := List.length_eraseIdx_le (l := f.changes) (i := n)
            show (f.changes.eraseIdx n).length ≤ _
            omega
          by_cases hk67 : f.kind = 67
          · as_aux_lemma =>
            have dk : (f.kind == 67) = true := by simpa using hk67
            go_upto_region 26 with fail
            have HA1 := hide (tamper63 U1 X1 T E _ zs vz f (chAt f n (valC f.changes[n])) (ca, cn, cc) (.pointer (some ⟨D, 0, none⟩)) HFX.out (HTF.out HFX.out).1 (HTF.out HFX.out).2.1 HQK.out.len (HLS.out _) (by omega) (chg63 X1 f D n HK15.out hnf HQK.out.len))
            go_upto_region 27 with (go_at_call 59; refine HA1.out.mono ?_; rintro e X2 ⟨rfl, ⟨d1, s1, hf1⟩, hfr1⟩; have HF1 := hide hf1; have HK2 := hide ((hfr1 D rfl).trans HK15.out); clear hf1 hfr1)
            clear HA1 HFX HK15
            have HA2 := hide (tamper64 U1 X2 T E _ (zs ++ [((chAt f n (valC f.changes[n])), d1)]) _ f (dropAt f n) (ca, cn, cc) (.pointer (some ⟨D, 0, none⟩)) HF1.out (HTF.out HF1.out).1 (HTF.out HF1.out).2.1 HQK.out.len HLD.out (by rw [List.length_append]; show zs.length + 1 ≤ _; omega) (chg64 X2 f D n HK2.out hnf HQK.out.len))
            go_wp2_with (go_at_call 59; refine HA2.out.mono ?_; rintro e X3 ⟨rfl, ⟨d2, s2, hf2⟩, -⟩; have HF2 := hide hf2; clear hf2)
            have HNX : Hid (FgI U1 X3 T (fun _ => False) ((zs ++ [((chAt f n (valC f.changes[n])), d1)]) ++ [((dropAt f n), d2)]) s2 ∧ ((zs ++ [((chAt f n (valC f.changes[n])), d1)]) ++ [((dropAt f n), d2)]).map (·.1) = fgN f (ledAt fs i).issued (n + 1)) := by
              refine ⟨HF2.out.more (Below.refl _ _) (fun _ q => False.elim q), ?_⟩
              rw [HSUC.out, List.map_append, List.map_append, HZN.out]
              unfold fgLine
              rw [if_pos hk67]
              simp
            refine Handed.intro (cn - (n + 1)) (by omega) ?_
            exact hJ3.out _ (.int .i64 ((n + 1 : Nat) : Int)) _ _ ⟨n + 1, _, _, by omega, rfl, rfl, HNX⟩ (by kernel_rfl)
          have dk : (f.kind == 67) = false := by simpa using hk67
          by_cases ha87 : f.changes[n].action = 87
          · as_aux_lemma =>
            have da : (f.changes[n].action == 87) = true := by simpa using ha87
            go_upto_region 29 with fail
            have HA1 := hide (tamper65 U1 X1 T E _ zs vz f (chAt f n (valC f.changes[n])) (ca, cn, cc) (.pointer (some ⟨D, 0, none⟩)) HFX.out (HTF.out HFX.out).1 (HTF.out HFX.out).2.1 HQK.out.len (HLS.out _) (by omega) (chg65 X1 f D n HK15.out hnf HQK.out.len))
            go_upto_region 30 with (go_at_call 59; refine HA1.out.mono ?_; rintro e X2 ⟨rfl, ⟨d1, s1, hf1⟩, hfr1⟩; have HF1 := hide hf1; have HK2 := hide ((hfr1 D rfl).trans HK15.out); clear hf1 hfr1)
            clear HA1 HFX HK15
            have HA2 := hide (tamper66 U1 X2 T E _ (zs ++ [((chAt f n (valC f.changes[n])), d1)]) _ f (chAt f n (actC f.changes[n] 78)) (ca, cn, cc) (.pointer (some ⟨D, 0, none⟩)) HF1.out (HTF.out HF1.out).1 (HTF.out HF1.out).2.1 HQK.out.len (HLS.out _) (by rw [List.length_append]; show zs.length + 1 ≤ _; omega) (chg66 X2 f D n HK2.out hnf HQK.out.len))
            go_wp2_with (go_at_call 59; refine HA2.out.mono ?_; rintro e X3 ⟨rfl, ⟨d2, s2, hf2⟩, -⟩; have HF2 := hide hf2; clear hf2)
            have HNX : Hid (FgI U1 X3 T (fun _ => False) ((zs ++ [((chAt f n (valC f.changes[n])), d1)]) ++ [((chAt f n (actC f.changes[n] 78)), d2)]) s2 ∧ ((zs ++ [((chAt f n (valC f.changes[n])), d1)]) ++ [((chAt f n (actC f.changes[n] 78)), d2)]).map (·.1) = fgN f (ledAt fs i).issued (n + 1)) := by
              refine ⟨HF2.out.more (Below.refl _ _) (fun _ q => False.elim q), ?_⟩
              rw [HSUC.out, List.map_append, List.map_append, HZN.out]
              unfold fgLine
              rw [if_neg hk67, if_pos ha87]
              simp
            refine Handed.intro (cn - (n + 1)) (by omega) ?_
            exact hJ3.out _ (.int .i64 ((n + 1 : Nat) : Int)) _ _ ⟨n + 1, _, _, by omega, rfl, rfl, HNX⟩ (by kernel_rfl)
          have da1 : (f.changes[n].action == 87) = false := by simpa using ha87
          by_cases ha78 : f.changes[n].action = 78
          · as_aux_lemma =>
            have da : (f.changes[n].action == 78) = true := by simpa using ha78
            go_upto_region 32 with fail
            have HA1 := hide (tamper67 U1 X1 T E _ zs vz f (chAt f n (actC f.changes[n] 67)) (ca, cn, cc) (.pointer (some ⟨D, 0, none⟩)) HFX.out (HTF.out HFX.out).1 (HTF.out HFX.out).2.1 HQK.out.len (HLS.out _) (by omega) (chg67 X1 f D n HK15.out hnf HQK.out.len))
            go_upto_region 33 with (go_at_call 59; refine HA1.out.mono ?_; rintro e X2 ⟨rfl, ⟨d1, s1, hf1⟩, hfr1⟩; have HF1 := hide hf1; have HK2 := hide ((hfr1 D rfl).trans HK15.out); clear hf1 hfr1)
            clear HA1 HFX HK15
            have HA2 := hide (tamper68 U1 X2 T E _ (zs ++ [((chAt f n (actC f.changes[n] 67)), d1)]) _ f (chAt f n (actC f.changes[n] 87)) (ca, cn, cc) (.pointer (some ⟨D, 0, none⟩)) HF1.out (HTF.out HF1.out).1 (HTF.out HF1.out).2.1 HQK.out.len (HLS.out _) (by rw [List.length_append]; show zs.length + 1 ≤ _; omega) (chg68 X2 f D n HK2.out hnf HQK.out.len))
            go_wp2_with (go_at_call 59; refine HA2.out.mono ?_; rintro e X3 ⟨rfl, ⟨d2, s2, hf2⟩, -⟩; have HF2 := hide hf2; clear hf2)
            have HNX : Hid (FgI U1 X3 T (fun _ => False) ((zs ++ [((chAt f n (actC f.changes[n] 67)), d1)]) ++ [((chAt f n (actC f.changes[n] 87)), d2)]) s2 ∧ ((zs ++ [((chAt f n (actC f.changes[n] 67)), d1)]) ++ [((chAt f n (actC f.changes[n] 87)), d2)]).map (·.1) = fgN f (ledAt fs i).issued (n + 1)) := by
              refine ⟨HF2.out.more (Below.refl _ _) (fun _ q => False.elim q), ?_⟩
              rw [HSUC.out, List.map_append, List.map_append, HZN.out]
              unfold fgLine
              rw [if_neg hk67, if_neg ha87, if_pos ha78]
              simp
            refine Handed.intro (cn - (n + 1)) (by omega) ?_
            exact hJ3.out _ (.int .i64 ((n + 1 : Nat) : Int)) _ _ ⟨n + 1, _, _, by omega, rfl, rfl, HNX⟩ (by kernel_rfl)
          have da2 : (f.changes[n].action == 78) = false := by simpa using ha78
          by_cases ha67 : f.changes[n].action = 67
          · as_aux_lemma =>
            have da : (f.changes[n].action == 67) = true := by simpa using ha67
            go_upto_region 35 with fail
            have HA1 := hide (tamper69 U1 X1 T E _ zs vz f (chAt f n (actC f.changes[n] 78)) (ca, cn, cc) (.pointer (some ⟨D, 0, none⟩)) HFX.out (HTF.out HFX.out).1 (HTF.out HFX.out).2.1 HQK.out.len (HLS.out _) (by omega) (chg69 X1 f D n HK15.out hnf HQK.out.len))
            go_upto_region 36 with (go_at_call 59; refine HA1.out.mono ?_; rintro e X2 ⟨rfl, ⟨d1, s1, hf1⟩, hfr1⟩; have HF1 := hide hf1; have HK2 := hide ((hfr1 D rfl).trans HK15.out); clear hf1 hfr1)
            clear HA1 HFX HK15
            have HA2 := hide (tamper70 U1 X2 T E _ (zs ++ [((chAt f n (actC f.changes[n] 78)), d1)]) _ f (chAt f n (actC f.changes[n] 87)) (ca, cn, cc) (.pointer (some ⟨D, 0, none⟩)) HF1.out (HTF.out HF1.out).1 (HTF.out HF1.out).2.1 HQK.out.len (HLS.out _) (by rw [List.length_append]; show zs.length + 1 ≤ _; omega) (chg70 X2 f D n HK2.out hnf HQK.out.len))
            go_wp2_with (go_at_call 59; refine HA2.out.mono ?_; rintro e X3 ⟨rfl, ⟨d2, s2, hf2⟩, -⟩; have HF2 := hide hf2; clear hf2)
            have HNX : Hid (FgI U1 X3 T (fun _ => False) ((zs ++ [((chAt f n (actC f.changes[n] 78)), d1)]) ++ [((chAt f n (actC f.changes[n] 87)), d2)]) s2 ∧ ((zs ++ [((chAt f n (actC f.changes[n] 78)), d1)]) ++ [((chAt f n (actC f.changes[n] 87)), d2)]).map (·.1) = fgN f (ledAt fs i).issued (n + 1)) := by
              refine ⟨HF2.out.more (Below.refl _ _) (fun _ q => False.elim q), ?_⟩
              rw [HSUC.out, List.map_append, List.map_append, HZN.out]
              unfold fgLine
              rw [if_neg hk67, if_neg ha87, if_neg ha78, if_pos ha67]
              simp
            refine Handed.intro (cn - (n + 1)) (by omega) ?_
            exact hJ3.out _ (.int .i64 ((n + 1 : Nat) : Int)) _ _ ⟨n + 1, _, _, by omega, rfl, rfl, HNX⟩ (by kernel_rfl)
          · as_aux_lemma =>
            have da : (f.changes[n].action == 67) = false := by simpa using ha67
            have HNX : Hid (FgI U1 X1 T (fun _ => False) zs vz ∧ zs.map (·.1) = fgN f (ledAt fs i).issued (n + 1)) := by
              refine ⟨HFX.out.more (Below.refl _ _) (fun _ q => False.elim q), ?_⟩
              rw [HSUC.out, HZN.out]
              unfold fgLine
              rw [if_neg hk67, if_neg ha87, if_neg ha78, if_neg ha67, List.append_nil]
            go_wp2
            refine Handed.intro (cn - (n + 1)) (by omega) ?_
            exact hJ3.out _ (.int .i64 ((n + 1 : Nat) : Int)) _ _ ⟨n + 1, _, _, by omega, rfl, rfl, HNX⟩ (by kernel_rfl)
        · as_aux_lemma =>
          have hncE : n = f.changes.length := by rw [← HCN.out]; omega
          have HZM : Hid (zs.map (·.1) = fgN f (ledAt fs i).issued f.changes.length) := by show _ = _; rw [← hncE]; exact HFN.out.2
          have HFZ := hide HFN.out.1
          have hzs : zs.length ≤ 200000 := by
            have h1 := congrArg List.length HFN.out.2
            have h2 := fgN_len f (ledAt fs i).issued n
            rw [List.length_map] at h1
            omega
          obtain ⟨va, vn, vc⟩ := vz
          have t13 : wx.cell? ⟨T, 0, none⟩ = some (.slice va vn vc) := cells_all HFZ.out.cell 0
          have zT := HFZ.out.lt
          obtain ⟨ya, yc, yb, yo, ye, yl1, yl2, yl3, yha, yhc⟩ := RArr.lt (HFZ.out.own.rows zfCs_size (by decide) (by omega))
          injection ye with ye1 ye2 ye3
          subst ye1
          subst ye3
          rw [← ye2] at yha
          have hiY := run_indexAt_arr (P := Tryz.prog) (n := vn) (cap := vc) Tryz.underlying43 Tryz.size59 (fun h => (yha h).1)
          have HYB : Hid (0 < vn → yb < wx.heap.size) := fun h => (yha h).2.2
          have HYC := hide yhc
          have HVN : Hid (vn = zs.length) := ye2
          have hvn : vn ≤ 200000 := by have h9 : vn = zs.length := ye2; omega
          have HZC := hide HFZ.out.ch
          have HIW : Hid (TI V1 wx fs i v) := HTI1.out.below (by have := HFZ.out.bel; rw [← HTT.out] at this; exact this)
          have HEW : Hid (wx.heap[E]? = some (.cells (zfCs (f, (ca, cn, cc))) 59 (0, 0))) := (HTF.out HFZ.out).1
          have HCW : Hid (ChangesAt wx (fun _ => True) (sv (ca, cn, cc)) f.changes) := (HTF.out HFZ.out).2.1
          clear hncE HFN yl1 yl2 yl3 yha yhc ye2 HFZ HTF hiC HXB HXC
          go_upto_region 39 with fail
          clear t13 hnlt
          refine wp_loop_mask tmL4 (fun g x wy => ∃ k : Nat, k ≤ vn ∧ g = vn - k ∧ x = .int .i64 k ∧ Hid (Below wx.heap.size wx wy)) vn (.int .i64 0) ⟨0, by omega, by omega, rfl, Below.refl _ _⟩ (by kernel_rfl) ?_
          intro gk4 x4 u4 wy hrel J4 K4 hJ4 hK4
          dsimp only [tmL4, maskL_keep, maskL_any, maskL_is, maskL_nil]
          obtain ⟨k, hkv, rfl, rfl, HBY⟩ := hrel
          by_cases hklt : k < vn
          · as_aux_lemma =>
            have hkz : k < zs.length := by rw [← HVN.out]; exact hklt
            have hyb := HYB.out (by omega)
            have hzc : rng wy yb (yo + k * 5) 5 = some (zfCs zs[k]) := (rng_of_block (HBY.out.block _ hyb) _ _).trans (HYC.out k hkz)
            have hybw : yb < wy.heap.size := by have := HBY.out.size; omega
            have hzm := HZC.out _ (List.getElem_mem hkz)
            have hgm : zs[k].1 ∈ fgN f (ledAt fs i).issued f.changes.length := by rw [← HZM.out]; exact List.mem_map_of_mem (List.getElem_mem hkz)
            generalize zs[k] = z at *
            obtain ⟨g, ⟨ga, gn, gc⟩⟩ := z
            have hgm : g ∈ fgN f (ledAt fs i).issued f.changes.length := hgm
            have HG1 := hide (HGK.out g hgm)
            have HG2 := hide (HREF.out g hgm)
            have hgn : gn = g.changes.length := by
              obtain ⟨_, _, _, _, e, _⟩ := hzm
              injection e
            subst hgn
            have HGC : Hid (ChangesAt wy (fun _ => True) (sv (ga, g.changes.length, gc)) g.changes) := RArr.mono hzm (fun b q => HBY.out.block b q.2.1) (fun _ _ => trivial)
            have HIY := hide (HIW.out.below HBY.out)
            have HCY : Hid (ChangesAt wy (fun _ => True) (sv (ca, cn, cc)) f.changes) := RArr.below HCW.out HBY.out
            have HEY := (HBY.out.block _ (blk_lt HEW.out)).trans HEW.out
            have rE : rng wy E 0 5 = some (zfCs (f, (ca, cn, cc))) := rng_whole HEY
            have zE := blk_lt HEY
            clear hzm hgm HZM hyb HEY
            go_upto_region 41 with fail
            have HBU : Hid (Below wy.heap.size wy (wy.alloc (.cells (zfCs (g, (ga, g.changes.length, gc))) 59))) := (Below.refl _ _).alloc (Nat.le_refl _) _
            have hkU : (wy.alloc (.cells (zfCs (g, (ga, g.changes.length, gc))) 59)).heap[wy.heap.size]? = some (.cells (zfCs (g, (ga, g.changes.length, gc))) 59 (0, 0)) := heap_alloc_at _ _
            replace rE : rng (wy.alloc (.cells (zfCs (g, (ga, g.changes.length, gc))) 59)) E 0 5 = some (zfCs (f, (ca, cn, cc))) := (rng_of_block (HBU.out.block _ zE) _ _).trans rE
            generalize wy.alloc (.cells (zfCs (g, (ga, g.changes.length, gc))) 59) = Y1 at *
            have rG : rng Y1 wy.heap.size 0 5 = some (zfCs (g, (ga, g.changes.length, gc))) := rng_whole hkU
            have zG := blk_lt hkU
            have HKU := hide hkU
            have HGC1 := hide (RArr.below HGC.out HBU.out)
            have HCY1 := hide (RArr.below HCY.out HBU.out)
            have HIY1 := hide (HIY.out.below HBU.out)
            have HBY1 : Hid (Below wx.heap.size wx Y1) := HBY.out.trans (HBU.out.mono HBY.out.size)
            replace zE : E < Y1.heap.size := Nat.lt_of_lt_of_le zE HBU.out.size
            clear hkU hzc hybw HGC HCY HIY HBU HBY
            generalize wy.heap.size = D18 at *
            have HSF : Hid (Calls Tryz.prog 45 #[.agg (zfCs (g, (ga, g.changes.length, gc))), .agg (zfCs (f, (ca, cn, cc)))] Y1 fun e w' => (e = .returned (.bool true) ∧ Below Y1.heap.size Y1 w') ∨ (e = .returned (.bool false) ∧ Below Y1.heap.size Y1 w' ∧ g ≠ f)) := by
              by_cases hgf : g = f
              · have hcn : g.changes.length = cn := by rw [hgf]; exact HCN.out.symm
                have h1 := HGC1.out
                rw [hcn] at h1 ⊢
                rw [hgf] at h1 ⊢
                exact (sameFile_calls Y1 _ _ f.kind f.seq f.issued f.base ga ca cn gc cc f.changes h1 HCY1.out).mono (fun e w' q => Or.inl q)
              · exact (sameFileAny_calls Y1 _ _ g.kind g.seq g.issued g.base f.kind f.seq f.issued f.base ga ca g.changes.length cn gc cc g.changes f.changes HGC1.out HCY1.out).mono (fun e w' q => by
                  obtain ⟨⟨β, q1⟩, q2⟩ := q
                  cases β with
                  | true => exact Or.inl ⟨q1, q2⟩
                  | false => exact Or.inr ⟨q1, q2, hgf⟩)
            by_cases hF : FileOk g.kind g.seq g.issued g.base g.changes
            · as_aux_lemma =>
              have HFO := hide hF
              have HTL : Hid ((txt g).length ≤ 99000000000) := fileText_len HG1.out.s HG1.out.i HG1.out.b HG1.out.c (by have := HG1.out.len; omega)
              clear hF
              go_upto_region 44 with (first
                | (go_at_call 45; refine HSF.out.mono ?_; rintro e Y2 hor; have hb2 : Below Y1.heap.size Y1 Y2 := hor.elim (fun q => q.2) (fun q => q.2.1); have HB2 : Hid (Below wx.heap.size wx Y2) := (HBY1.out.trans (hb2.mono HBY1.out.size)); have HY2 := hide hb2; have rG2 : rng Y2 D18 0 5 = some (zfCs (g, (ga, g.changes.length, gc))) := ((rng_of_block (hb2.block _ zG) _ _).trans rG); have HGC2 := hide (RArr.below HGC1.out hb2); clear hb2 rG rE HSF; rcases hor with ⟨rfl, -⟩ | ⟨rfl, -, hgf⟩)
                | (go_at_call 71; refine (render_ok Y2 _ g.kind g.seq g.issued g.base ga gc g.changes HGC2.out (by have := HG1.out.len; omega) HG1.out.s HG1.out.i HG1.out.b HG1.out.c HFO.out).mono ?_; rintro e Y3 ⟨dv, rfl, hown3, hb3⟩; obtain ⟨db, dc, rfl, hD3⟩ := data_of_own hown3 (txt_pos g) (by have := HTL.out; show (txt g).length ≤ _; omega); have HD3 : Hid (DataAt Y3 db 0 (txt g).length dc (txt g)) := hD3; have HB3 := hide hb3; clear hown3 hb3 hD3))
              · as_aux_lemma =>
                refine Handed.intro (vn - (k + 1)) (by omega) ?_
                exact hJ4.out _ (.int .i64 ((k + 1 : Nat) : Int)) _ _ ⟨k + 1, by omega, rfl, rfl, HB2⟩ (by kernel_rfl)
              · have hno : takeR (ledAt fs i) g = none := HG2.out hgf
                have HI3 := hide ((HIY1.out.below HY2.out).below HB3.out)
                have rL : rng Y3 V1.heap.size 0 4 = some (ledCs (ledAt fs i) v) := rng_whole HI3.out.led.top
                have zL := HI3.out.led.lt
                have hB4 : Below Y3.heap.size Y3 (Y3.alloc (.cells (ledCs (ledAt fs i) v) 154)) := (Below.refl _ _).alloc (Nat.le_refl _) _
                go_upto_region 45 with fail
                have HLP := hide HI3.out.led.copy
                have HLG := hide (HI3.out.led.below hB4)
                have HD4 := hide (HD3.out.next (hB4.block _ HD3.out.lt) hB4.size)
                have HB4 : Hid (Below wx.heap.size wx (Y3.alloc (.cells (ledCs (ledAt fs i) v) 154))) := (HB2.out.trans (HB3.out.mono HB2.out.size)).trans (hB4.mono (Nat.le_trans HB2.out.size HB3.out.size))
                clear hB4 rL
                generalize Y3.alloc (.cells (ledCs (ledAt fs i) v) 154) = Y4 at *
                have HTK := hide (ledTake_calls Y4 Y3.heap.size (ledAt fs i) v g db 0 (txt g).length dc HLP.out HD4.out ⟨HFO.out, HG1.out.k, HG1.out.s, HG1.out.i, HG1.out.b, HG1.out.c, HG1.out.len⟩ ⟨by simp only [ledAt]; omega, by simp only [ledAt]; omega⟩ hrl)
                unfold TakeP at HTK
                rw [hno] at HTK
                generalize Y3.heap.size = PB at *
                clear hno HD4 HD3 HB3 HI3
                go_wp2_with (first
                  | (go_at_call 54; refine HTK.out.mono ?_; rintro e Y5 ⟨rfl, hb5⟩; have HLP5 := hide (HLP.out.below hb5); have HLG5 := hide (HLG.out.below hb5); have HB5 : Hid (Below wx.heap.size wx Y5) := (HB4.out.trans (hb5.mono HB4.out.size)); clear hb5 HTK)
                  | (go_at_call 55; refine (taken_calls _ _ (ledAt fs i) v (by first | exact HLP5.out | exact HLG5.out)).mono ?_; rintro e Y5' ⟨rfl, rfl⟩)
                  | (go_at_call 58; refine (ledRows_calls _ _ (ledAt fs i) v HLP5.out hrl).mono ?_; rintro e Y6 ⟨r6, rfl, ho6, hb6⟩; have HO6 := hide ho6; have HLG6 := hide (HLG5.out.below hb6); have HB6 : Hid (Below wx.heap.size wx Y6) := (HB5.out.trans (hb6.mono HB5.out.size)); clear ho6 hb6 HLP5 HLG5)
                  | (go_at_call 58; refine (ledRows_calls _ _ (ledAt fs i) v HLG6.out hrl).mono ?_; rintro e Y7 ⟨r7, rfl, ho7, hb7⟩; have HO7 := hide ho7; have HO67 := hide (HO6.out.below hb7 (Nat.le_refl _)); have HB7 : Hid (Below wx.heap.size wx Y7) := (HB6.out.trans (hb7.mono HB6.out.size)); clear ho7 hb7 HLG6)
                  | (go_at_call 57; refine (sameRows_calls _ _ _ _ _ (ledAt fs i).rows (HO67.out.rows rowCs_size (by decide) (by omega)) (HO7.out.rows rowCs_size (by decide) (by omega))).mono ?_; rintro e Y8 ⟨rfl, m8, rfl⟩; have HB8 : Hid (Below wx.heap.size wx (Y7.drewN m8)) := (below_drewN HB7.out m8)))
                refine Handed.intro (vn - (k + 1)) (by omega) ?_
                exact hJ4.out _ (.int .i64 ((k + 1 : Nat) : Int)) _ _ ⟨k + 1, by omega, rfl, rfl, HB8⟩ (by kernel_rfl)
            · as_aux_lemma =>
              have HFO := hide hF
              clear hF
              go_wp2_with (first
                | (go_at_call 45; refine HSF.out.mono ?_; rintro e Y2 hor; have hb2 : Below Y1.heap.size Y1 Y2 := hor.elim (fun q => q.2) (fun q => q.2.1); have HB2 : Hid (Below wx.heap.size wx Y2) := (HBY1.out.trans (hb2.mono HBY1.out.size)); have HY2 := hide hb2; have rG2 : rng Y2 D18 0 5 = some (zfCs (g, (ga, g.changes.length, gc))) := ((rng_of_block (hb2.block _ zG) _ _).trans rG); have HGC2 := hide (RArr.below HGC1.out hb2); clear hb2 rG rE HSF; rcases hor with ⟨rfl, -⟩ | ⟨rfl, -, hgf⟩)
                | (go_at_call 71; refine (render_bad Y2 _ g.kind g.seq g.issued g.base ga gc g.changes HGC2.out HFO.out).mono ?_; rintro e Y3 ⟨rfl, hb3⟩; have HB3 : Hid (Below wx.heap.size wx Y3) := (HB2.out.trans (hb3.mono HB2.out.size)); clear hb3))
              · as_aux_lemma =>
                refine Handed.intro (vn - (k + 1)) (by omega) ?_
                exact hJ4.out _ (.int .i64 ((k + 1 : Nat) : Int)) _ _ ⟨k + 1, by omega, rfl, rfl, HB2⟩ (by kernel_rfl)
              · as_aux_lemma =>
                refine Handed.intro (vn - (k + 1)) (by omega) ?_
                exact hJ4.out _ (.int .i64 ((k + 1 : Nat) : Int)) _ _ ⟨k + 1, by omega, rfl, rfl, HB3⟩ (by kernel_rfl)
          · as_aux_lemma =>
            have hif1 : i < fs.length := by rw [← HN.out]; exact hilt
            have hiz : i < zt.length := by rw [HZL2.out]; exact hilt
            have HIY := hide (HIW.out.below HBY.out)
            obtain ⟨b6, o6, n6, c6, hz, hD, -⟩ := (HTX.out.mono (fun b q => HIY.out.bel.block b q) (fun _ q => q)).data hif1 hiz
            have hfe : takeR (ledAt fs i) fs[i] = some (ledAt fs (i + 1)) := HFI.out.take_ok (by have := HN.out; omega) hif1
            obtain ⟨qa, qc, qb, qo, qe, ql1, ql2, ql3, qha, qhc⟩ := RArr.lt HTX.out.a
            injection qe with qe1 qe2 qe3
            subst qe1
            subst qe3
            rw [← qe2] at qha
            have hiT := run_indexAt_arr (P := Tryz.prog) (n := N) (cap := tc) Tryz.underlying144 Tryz.size55 (fun h => (qha h).1)
            have hqb := (qha (by omega)).2.2
            have hcl : wy.cell? ⟨qb, qo + i, none⟩ = some (.slice (some ⟨b6, o6, none⟩) n6 c6) := by
              have h1 := (rng_cell (qhc i hiz)).2 0 (by decide)
              simp only [ztCs, hz, sv] at h1
              rw [World.cell?_of_block (w := V1) (HIY.out.bel.block _ hqb)]
              simpa using h1
            have hqw : qb < wy.heap.size := Nat.lt_of_lt_of_le hqb HIY.out.bel.size
            have HTK := hide (ledTake_calls wy V1.heap.size (ledAt fs i) v fs[i] b6 o6 n6 c6 HIY.out.led hD (HFK.out _ (List.getElem_mem hif1)) ⟨by simp only [ledAt]; omega, by simp only [ledAt]; omega⟩ hrl)
            unfold TakeP at HTK
            rw [hfe] at HTK
            have HEY : Hid (wy.heap[E]? = some (.cells (zfCs (f, (ca, cn, cc))) 59 (0, 0))) := (HBY.out.block _ (blk_lt HEW.out)).trans HEW.out
            have HEN : Hid (E ≠ V1.heap.size ∧ E < wy.heap.size) := ⟨by have h1 := HTI1.out.bel.size; have h2 := HTI1.out.led.lt; have h3 := HEV.out; omega, blk_lt HEY.out⟩
            clear hz hD hfe qha qhc ql1 ql2 ql3 qe2 hqb hif1 hiz
            go_upto_region 50 with (go_at_call 54; refine HTK.out.mono ?_; rintro e U6 ⟨rfl, hl6, hs6, hb6⟩; obtain ⟨v6, hl6⟩ := hl6; have HNX := hide (HIY.out.next hl6 hs6 hb6); have e2 : U6.cell? ⟨E, 2, none⟩ = some (.int .i64 f.issued) := cells_all ((hs6 E ⟨HEN.out.2, HEN.out.1⟩).trans HEY.out) 2; have hk10 := (hs6 (V1.heap.size + 1) ⟨blk_lt HIY.out.last, by omega⟩).trans HIY.out.last; have t10 : U6.cell? ⟨V1.heap.size + 1, 0, none⟩ = some (.int .i64 (ledAt fs i).issued) := cells_all hk10 0; have hf10 : U6.frozen? ⟨V1.heap.size + 1, 0, none⟩ = false := (by simp [World.frozen?, hk10]); have z10 := blk_lt hk10; have zE6 : E < U6.heap.size := blk_lt ((hs6 E ⟨HEN.out.2, HEN.out.1⟩).trans HEY.out); clear hl6 hs6 hb6 hk10 HTK)
            rw [HISN.out] at HNX
            clear hcl hqw hiT
            go_wp2
            refine Handed.intro (N - (i + 1)) (by omega) ?_
            exact hJ2.out _ (.int .i64 ((i + 1 : Nat) : Int)) _ _ ⟨i + 1, v6, by omega, rfl, rfl, HNX⟩ (by kernel_rfl)
      · as_aux_lemma =>
        have HEND : Hid (Below w.heap.size w wr) := HB1.out.trans (HTI.out.bel.mono HB1.out.size)
        obtain rfl : i = N := by omega
        go_wp2
        go_ret
        exact ⟨rfl, HEND.out⟩
  · have hd : decide (total s ≤ 65536) = false := by simpa using hsm
    rw [hd] at HSm
    clear hd hsm ha hc hn hgl HNB HGL
    go_enter Tryz.func13, Tryz.ntmps13
    go_wp2_with (go_at_call 18; refine HSm.out.mono ?_; rintro e w1 ⟨rfl, rfl⟩)
    go_ret
    exact ⟨rfl, Below.refl _ _⟩

end Go.Proofs.Qxb6500666aGreatDoor
