/- ReconciliationListsSetDifferences, walked. -/
import Derived.Test.Qxb6500666aGreatDoorRcnM
import Derived.Test.Qxb6500666aGreatDoorRcnBits
import Derived.Test.Qxb6500666aGreatDoorNote
import Derived.BigQuiet
import Derived.Deep.CutBlock
namespace Go.Proofs.Qxb6500666aGreatDoor
open Go.RowKit
attribute [local go_sem] ext_const Ext.cell Ext.frozen Ext.rng Ext.whole
attribute [local go_sem ↓] exec_ldOpz exec_stOpz exec_ldRsp exec_stRsp exec_ldFile exec_stFile exec_bsFile exec_bdFile1 exec_ldRow exec_stRow exec_ldDiff exec_stDiff exec_bdDif4 exec_neqRow exec_neqDif
attribute [local go_sem] run_ldOpz run_stOpz opA_size run_ldRsp run_stRsp respCs_size respCs_ones run_ldFile run_stFile run_bsFile run_bdFile1 fileCs_size fileCs_ones run_ldRow run_stRow rowCs_size rowCs_ones rowCs_all run_ldDiff run_stDiff run_bdDif4 diffCs_size diff_ones diffCs_ex run_neqRow run_neqDif zfCs_size whole_alloc_lt whole_alloc_at whole_drew setRow_alloc_at setRow_alloc_lt setRow_drew rng_alloc_lt rng_alloc_at rng_drew rng_drewN

/-- The law's files: number nought is no file. -/
def z0 : ZF := (file0, (none, 0, 0))
theorem z0_cs : zfCs z0 = fileCs 67 0 0 0 none 0 0 := rfl
/-- The files in memory, all in blocks below H. -/
structure RF (V : World) (fa : Option Addr) (fn fc : Nat) (zs : List ZF) : Prop where
  a : RArr V (· < V.heap.size) 5 zfCs (.slice fa fn fc) zs
  c : ∀ z ∈ zs, ChangesAt V (· < V.heap.size) (sv z.2) z.1.changes

theorem changes_nil (w : World) (ok : Nat → Prop) : ChangesAt w ok (.slice none 0 0) [] := ⟨none, 0, 0, 0, rfl, Nat.le_refl _, ⟨by unfold maxLen; omega, fun _ => rfl⟩, by simp, fun h => absurd h (by simp), fun i h => absurd h (by simp)⟩
theorem zf_ones (z : ZF) : ones (zfCs z) 5 = true := rfl
theorem zf_ex (z : ZF) : (zfCs z).extract 0 5 = zfCs z := rfl
attribute [local go_sem] zf_ones zf_ex

theorem rows_zf {V : World} {z : ZF} (h : ChangesAt V (· < V.heap.size) (sv z.2) z.1.changes) (hl : z.1.changes.length ≤ 65536) (W : World) (hb : Below V.heap.size V W) :
    Calls Tryz.prog 72 #[.agg (zfCs z)] W fun e w' => ∃ v, e = .returned v ∧ OwnR w' W.heap.size 109 13 rowCs v (rowsF z.1) ∧ Below W.heap.size W w' := by
  have h' : ChangesAt W (· < V.heap.size) (sv z.2) z.1.changes := RArr.mono h (fun g q => hb.block g q) (fun _ q => q)
  obtain ⟨⟨k, sq, is, ba, cs⟩, ⟨a, n, c⟩⟩ := z
  have hn : n = cs.length := by
    obtain ⟨_, _, _, _, e, _⟩ := h'
    injection e with _ e2 _
  subst hn
  exact rowsOf_calls W _ k sq is ba a c cs h' (by have : cs.length ≤ 65536 := hl; omega)
/-- The two maps of the law, in new memory. -/
structure MS (Y wr : World) (n1 n2 : Nat) (m1 m2 : List Row) : Prop where
  bel : Below Y.heap.size Y wr
  m1 : MapAt wr Y.heap.size n1 m1
  m2 : MapAt wr (Y.heap.size + 1) n2 m2
  up : Y.heap.size + 2 ≤ wr.heap.size
theorem MS.start (Y : World) : MS Y ((Y.alloc (.map #[] 0)).alloc (.map #[] 0)) 0 0 [] [] := by
  have hz : (Y.alloc (.map #[] 0)).heap.size = Y.heap.size + 1 := by simp
  refine ⟨((Below.refl _ _).alloc (Nat.le_refl _) _).alloc (by simp) _, (MapAt.made Y).same (Below.heap_alloc _ _ _ (by simp)), ?_, by simp⟩
  rw [← hz]
  exact MapAt.made _
section
variable {Y wr wr' : World} {n1 n2 : Nat} {m1 m2 : List Row}
theorem MS.below (h : MS Y wr n1 n2 m1 m2) (hb : Below wr.heap.size wr wr') : MS Y wr' n1 n2 m1 m2 :=
  ⟨h.bel.trans (hb.mono h.bel.size), h.m1.same (hb.block _ h.m1.lt), h.m2.same (hb.block _ h.m2.lt), Nat.le_trans h.up hb.size⟩
theorem MS.iter {I : Nat} (h : MS Y wr n1 n2 m1 m2) (hg : wr.grownBy wr' (some I)) (hI : Y.heap.size + 2 ≤ I) : MS Y wr' n1 n2 m1 m2 :=
  ⟨h.bel.grown hg h.bel.size (fun k hk => by cases hk; omega), h.m1.same (hg.block _ h.m1.lt (by simp; omega)), h.m2.same (hg.block _ h.m2.lt (by simp; omega)), Nat.le_trans h.up hg.size⟩
theorem MS.put1 {n1' : Nat} {m1' : List Row} (h : MS Y wr n1 n2 m1 m2) (hg : wr.grownBy wr' (some Y.heap.size)) (hm : MapAt wr' Y.heap.size n1' m1') : MS Y wr' n1' n2 m1' m2 :=
  ⟨h.bel.grown hg h.bel.size (fun k hk => by cases hk; exact Nat.le_refl _), hm, h.m2.same (hg.block _ h.m2.lt (by simp)), Nat.le_trans h.up hg.size⟩
theorem MS.put2 {n2' : Nat} {m2' : List Row} (h : MS Y wr n1 n2 m1 m2) (hg : wr.grownBy wr' (some (Y.heap.size + 1))) (hm : MapAt wr' (Y.heap.size + 1) n2' m2') : MS Y wr' n1 n2' m1 m2' :=
  ⟨h.bel.grown hg h.bel.size (fun k hk => by cases hk; omega), h.m1.same (hg.block _ h.m1.lt (by simp)), hm, Nat.le_trans h.up hg.size⟩
end

set_option maxRecDepth 100000 in
set_option maxHeartbeats 8000000 in
theorem rcn_walk (w : World) (v : Value) (s : List Op) (rn kn ft : Nat → ByteArray) (okg : Nat → Prop) (h : Script w (· < w.heap.size) v s) (hgl : Gl w w.heap.size rn kn ft okg) :
    Calls Tryz.prog 14 #[v] w fun e w' => e = .returned (.bool true) ∧ Below w.heap.size w w' := by
  have HSm := hide (small_calls w _ v s h)
  have HGL := hide (fun W (hb : Below w.heap.size w W) => hgl.same hb (Nat.le_refl _))
  have HNB := hide (newBench_calls w)
  obtain ⟨a, cap, b, off, rfl, hl, hm, hr, ha, hc⟩ := h
  obtain ⟨n, hn⟩ : ∃ n, n = s.length := ⟨_, rfl⟩
  have Hn : Hid (n = s.length) := hn
  rw [← hn] at hl hr ha HSm ⊢
  have hi := run_indexAt_arr (P := Tryz.prog) (cap := cap) Tryz.underlying22 Tryz.size61 (fun h => (ha h).1)
  have HB : Hid (0 < n → b < w.heap.size) := fun h => (ha h).2
  by_cases hsm : total s ≤ 65536
  · have HC : Hid (∀ k (h : k < s.length), ∃ lv dv ca cn cc, rng w b (off + k * 27) 27 = some (opA s[k] lv dv ca cn cc) ∧ OpIn w (· < w.heap.size) s[k] lv dv ca cn cc ∧ ones (opA s[k] lv dv ca cn cc) 27 = true) := fun k h => by
      obtain ⟨cs, hlen, hE, hcell⟩ := hc k h
      have ht := total_le h hsm
      obtain ⟨lv, dv, ca, cn, cc, e, hO, h1⟩ := opIn_of hE ht.2.1 ht.2.2
      refine ⟨lv, dv, ca, cn, cc, ?_, hO, h1⟩
      rw [← e]
      have hl27 : cs.length = 27 := by have := congrArg Array.size e; simpa [opA] using this
      have := rng_of_cells (w := w) (b := b) (off := off + k * 27) (by omega) hcell
      rw [hl27] at this
      exact this
    have HRO : Hid (∀ k (hk : k < s.length), s[k].req.Ok) := fun k hk => by
      obtain ⟨_, _, _, _, _, _, h1, _⟩ := HC.out k hk
      exact h1.req
    have HIV : Hid (∀ q, q ≤ s.length → Inv q (stAt s q)) := inv_all HRO.out
    have hn2 : n ≤ 65536 := by have := hsm; unfold total at this; omega
    have HCI : Hid (∃ fs rows vf lf, CI (stAt s n) fs rows vf lf ∧ fs.length ≤ n) := ci_all HRO.out (by omega) n (by omega)
    have hd : decide (total s ≤ 65536) = true := by simpa using hsm
    rw [hd] at HSm
    clear hd hsm ha hc hn hgl HRO
    go_enter Tryz.func14, Tryz.ntmps14
    go_upto_region 3 with (go_at_call 18; refine HSm.out.mono ?_; rintro e w1 ⟨rfl, rfl⟩)
    go_upto_region 4 with (go_at_call 19; refine HNB.out.mono ?_; rintro e W0 ⟨rfl, hbn, hb0⟩)
    have HQ0 : Hid (BX w W0 (fun _ => False) (stAt s 0)) := BX.start hbn hb0
    clear hbn hb0 HSm HNB
    go_upto_region 5 with fail
    refine wp_loop_mask rcL1 (fun g x wr => ∃ q : Nat, q ≤ n ∧ g = n - q ∧ x = .int .i64 q ∧ Hid (BX w wr (fun _ => False) (stAt s q))) n (.int .i64 0) ⟨0, by omega, by omega, rfl, HQ0⟩ (by kernel_rfl) ?_
    clear HQ0
    intro gk1 x1 u1 wr hrel J1 K1 hJ1 hK1
    dsimp only [rcL1, maskL_keep, maskL_any, maskL_is, maskL_nil]
    obtain ⟨q, hq, rfl, rfl, HQ⟩ := hrel
    by_cases hlt : q < n
    · as_aux_lemma =>
      have hqs : q < s.length := by rw [← Hn.out]; exact hlt
      have hbb := HB.out (by omega)
      obtain ⟨lv, dv, ca, cn, cc, hcl, hO, hones⟩ := HC.out q hqs
      have HIQ := hide (HIV.out q (by omega))
      have HSQ := hide (stAt_succ hqs)
      generalize s[q] = p at *
      have hcells : rng wr b (off + q * 27) 27 = some (opA p lv dv ca cn cc) := by rw [rng_of_block (HQ.out.blw.block _ hbb)]; exact hcl
      have hbw : b < wr.heap.size := by have := HQ.out.blw.size; omega
      have HOI := hide hO
      clear hO hcl HCI
      go_upto_region 7 with fail
      have HQ1 := hide (HQ.out.below ((Below.refl _ _).alloc (Nat.le_refl _) (.cells (opA p lv dv ca cn cc) 61)))
      have hk1 : (wr.alloc (.cells (opA p lv dv ca cn cc) 61)).heap[wr.heap.size]? = some (.cells (opA p lv dv ca cn cc) 61 (0, 0)) := heap_alloc_at _ _
      generalize wr.alloc (.cells (opA p lv dv ca cn cc) 61) = U1 at *
      generalize wr.heap.size = D at *
      have hr1 : rng U1 D 0 27 = some (opA p lv dv ca cn cc) := rng_whole hk1
      have HST := hide (HQ1.out.step (HIQ.out.po (by omega)) (HOI.out.below HQ1.out.blw) (HGL.out _ HQ1.out.blw) ⟨HIQ.out.off.1, by have := HIQ.out.off.2; omega⟩)
      clear hk1 hcells hbw HQ
      go_wp2_with (go_at_call 21; refine HST.out.mono ?_; rintro e U2 ⟨ans, rfl, hq2, hf2, ha2⟩; have HQ2 : Hid (BX w U2 (fun _ => False) (stAt s (q + 1))) := (by rw [HSQ.out]; exact hq2); clear hq2 hf2 ha2)
      refine Handed.intro (n - (q + 1)) (by omega) ?_
      exact hJ1.out _ (.int .i64 ((q + 1 : Nat) : Int)) _ _ ⟨q + 1, by omega, rfl, rfl, HQ2⟩ (by kernel_rfl)
    · as_aux_lemma =>
      obtain rfl : q = n := by omega
      obtain ⟨fs, rows, vf, lf, hci, hfl⟩ := HCI.out
      have HFI := hide hci.fi
      have HCL := hide hci.cl
      have HPO := hide ((HIV.out q (by have := Hn.out; omega)).po (by omega))
      have HGW := hide (fun W (hb : Below w.heap.size w W) => HGL.out W hb)
      have hfl2 : fs.length ≤ 65536 := by omega
      clear hci HCI HIV HC HGL hi hl hr HB
      generalize stAt s q = t at *
      have HCH := hide (chain_calls HQ.out HPO.out HGW.out HFI.out hfl2 HCL.out)
      go_upto_region 12 with (go_at_call 52; refine HCH.out.mono ?_; rintro e V1 ⟨fv, tv, zf, zt, rfl, hchi, hzf, -⟩; have HCHI := hide hchi; have HZF := hide hzf; clear hchi hzf)
      have HB1 : Hid (Below w.heap.size w V1) := HQ.out.blw.trans (HCHI.out.bel.mono HQ.out.blw.size)
      have HQ1 : Hid (BX w V1 (fun _ => False) t) := HQ.out.below HCHI.out.bel
      clear HCH HQ
      obtain ⟨fa, fc, hfv⟩ := HCHI.out.a.form
      subst hfv
      have hzl : zf.length = fs.length := by have := congrArg List.length HZF.out; simpa using this
      have HO0 : Hid (OwnR (V1.alloc (.cells (fileCs 67 0 0 0 none 0 0) 59)) V1.heap.size 59 5 zfCs (.slice (some ⟨V1.heap.size, 0, none⟩) 1 1) [z0]) :=
        ⟨rfl, Or.inr ⟨V1.heap.size, 1, fileCs 67 0 0 0 none 0 0, rfl, Nat.le_refl _, heap_alloc_at _ _, by decide, by unfold maxLen; omega, rfl, rfl⟩⟩
      have HF1 := hide (HCHI.out.below ((Below.refl _ _).alloc (Nat.le_refl _) (.cells (fileCs 67 0 0 0 none 0 0) 59)))
      have HSRC : Hid (0 < zf.length → ∃ b off, fa = some ⟨b, off, none⟩ ∧ ∀ i (h : i < zf.length), rng (V1.alloc (.cells (fileCs 67 0 0 0 none 0 0) 59)) b (off + i * 5) 5 = some (zfCs zf[i])) := fun h => by
        obtain ⟨a', c', b', o', e, r1, r2, r3, r4, r5⟩ := HF1.out.a.rows zfCs_size (by decide) (by omega)
        injection e with e1 e2 e3
        exact ⟨b', o', by rw [e1]; exact (r4 h).1, r5⟩
      have HNIL : Hid (fa = none → fc = 0) := fun e => by
        obtain ⟨a', c', b', o', e', r1, r2, r3, r4, r5⟩ := HF1.out.a.rows zfCs_size (by decide) (by omega)
        injection e' with e1 e2 e3
        subst e1
        subst e3
        exact r2.2 e
      go_upto_region 13 with (at_builtin; refine wpList_appN (α := ZF) rfl _ _ 43 rfl V1.heap.size 59 zfCs Tryz.underlying43 Tryz.info59_c rfl (by decide) zfCs_size zfCs_one _ [z0] rfl HO0.out fa zf.length fc rfl zf rfl HNIL.out HSRC.out (by simp; omega) (by unfold maxLen; simp; omega) (by simp) ?_; intro v2 V2 hown2 hsame2 hbel2 hat2)
      obtain ⟨fa2, fc2, hv2⟩ := hown2.form
      subst hv2
      have HRF : Hid (RF V2 fa2 ([z0] ++ zf).length fc2 ([z0] ++ zf)) := by
        have hb01 : Below V1.heap.size V1 (V1.alloc (.cells (fileCs 67 0 0 0 none 0 0) 59)) := (Below.refl _ _).alloc (Nat.le_refl _) _
        refine ⟨RArr.mono (RArr.lt (hown2.rows zfCs_size (by decide) (by simp; omega))) (Same.refl _ _) (fun _ q => q.2), fun z hz => ?_⟩
        rcases List.mem_append.1 hz with hz | hz
        · rw [List.mem_singleton.1 hz]
          exact changes_nil _ _
        · refine RArr.mono (HCHI.out.cf z hz) (fun g q => ?_) (fun g q => ?_)
          · rw [hbel2.block g q.1.2]
            exact hb01.block g q.1.2
          · have := q.1.2
            have := hbel2.size
            have := hb01.size
            show g < _
            omega
      have HZM : Hid (([z0] ++ zf).map (·.1) = file0 :: fs) := by
        show _ = _
        rw [List.map_append, HZF.out]
        rfl
      have HB2 : Hid (Below w.heap.size w V2) := (HB1.out.trans (((Below.refl V1.heap.size V1).alloc (Nat.le_refl _) _).mono HB1.out.size)).trans (hbel2.mono HB1.out.size)
      have HQ2 : Hid (BX w V2 (fun _ => False) t) := HQ1.out.below (((Below.refl V1.heap.size V1).alloc (Nat.le_refl _) _).trans hbel2)
      obtain ⟨zs, hzs⟩ : ∃ zs, zs = [z0] ++ zf := ⟨_, rfl⟩
      obtain ⟨N, hN⟩ : ∃ N, N = zs.length := ⟨_, rfl⟩
      have hNl : N = fs.length + 1 := by rw [hN, hzs, List.length_append, hzl]; simp; omega
      rw [← hzs] at HRF HZM ⊢
      rw [← hN] at HRF ⊢
      have HN := hide hN
      have HNL := hide hNl
      have hN65 : N ≤ 65537 := by omega
      clear hzs hN hNl hown2 hsame2 hbel2 hat2 HO0 HSRC HNIL HF1 HCHI HZF HB1 HQ1 hzl
      obtain ⟨ra, rc, rb, ro, re, rl1, rl2, rl3, rha, rhc⟩ := HRF.out.a
      injection re with re1 re2 re3
      subst re1
      subst re3
      have hif := run_indexAt_arr (P := Tryz.prog) (n := N) (cap := fc2) Tryz.underlying43 Tryz.size59 (fun h => (rha (by rw [← HN.out]; exact h)).1)
      have HRB : Hid (0 < N → rb < V2.heap.size) := fun h => (rha (by rw [← HN.out]; exact h)).2
      have HRC := hide rhc
      clear re2 rl1 rl2 rl3 rha rhc
      have HFR : Hid (∀ f ∈ file0 :: fs, FR f) := fun f hf => by
        rcases List.mem_cons.1 hf with rfl | hf
        · exact FR.zero
        · obtain ⟨k, hk, rfl⟩ := List.getElem_of_mem hf
          exact FR.of HFI.out hk
      have HCL0 : Hid (∀ f ∈ file0 :: fs, f.changes.length ≤ 65536) := fun f hf => by
        rcases List.mem_cons.1 hf with rfl | hf
        · exact Nat.zero_le _
        · exact HCL.out f hf
      clear HCL
      go_upto_region 14 with fail
      refine wp_loop_mask rcL2 (fun g x wr => ∃ i : Nat, i ≤ N ∧ g = N - i ∧ x = .int .i64 i ∧ Hid (Below V2.heap.size V2 wr)) N (.int .i64 0) ⟨0, by omega, by omega, rfl, Below.refl _ _⟩ (by kernel_rfl) ?_
      intro gk2 x2 u2 wr hrel J2 K2 hJ2 hK2
      dsimp only [rcL2, maskL_keep, maskL_any, maskL_is, maskL_nil]
      obtain ⟨i, hiN, rfl, rfl, HBI⟩ := hrel
      by_cases hilt : i < N
      · as_aux_lemma =>
        have hiz : i < zs.length := by rw [← HN.out]; exact hilt
        have hrbw := HRB.out (by omega)
        have hfc : rng wr rb (ro + i * 5) 5 = some (zfCs zs[i]) := by rw [rng_of_block (HBI.out.block _ hrbw)]; exact HRC.out i hiz
        have hrbl : rb < wr.heap.size := by have := HBI.out.size; omega
        obtain ⟨ze, hze⟩ : ∃ ze, ze = zs[i] := ⟨_, rfl⟩
        have HZE : Hid (ze ∈ zs ∧ ∃ h : i < (file0 :: fs).length, ze.1 = (file0 :: fs)[i]) := by
          refine ⟨by rw [hze]; exact List.getElem_mem hiz, by have := HNL.out; simp; omega, ?_⟩
          have := congrArg (fun l => l[i]?) HZM.out
          simp only [List.getElem?_map, List.getElem?_eq_getElem hiz] at this
          rw [List.getElem?_eq_getElem (by have := HNL.out; simp; omega)] at this
          rw [hze]
          simpa using this
        rw [← hze] at hfc
        clear hze
        go_upto_region 16 with fail
        have hke : (wr.alloc (.cells (zfCs ze) 59)).heap[wr.heap.size]? = some (.cells (zfCs ze) 59 (0, 0)) := heap_alloc_at _ _
        have HBE : Hid (Below V2.heap.size V2 (wr.alloc (.cells (zfCs ze) 59))) := HBI.out.alloc HBI.out.size _
        generalize wr.alloc (.cells (zfCs ze) 59) = U1 at *
        generalize wr.heap.size = E at *
        have HKE := hide hke
        clear hfc hrbl hke HBI
        go_upto_region 17 with fail
        refine wp_loop_mask rcL3 (fun g x wr => ∃ j : Nat, j ≤ N ∧ g = N - j ∧ x = .int .i64 j ∧ Hid (Below U1.heap.size U1 wr)) N (.int .i64 0) ⟨0, by omega, by omega, rfl, Below.refl _ _⟩ (by kernel_rfl) ?_
        intro gk3 x3 u3 wr hrel J3 K3 hJ3 hK3
        dsimp only [rcL3, maskL_keep, maskL_any, maskL_is, maskL_nil]
        obtain ⟨j, hjN, rfl, rfl, HBJ⟩ := hrel
        by_cases hjlt : j < N
        · as_aux_lemma =>
          have hjz : j < zs.length := by rw [← HN.out]; exact hjlt
          have hfc : rng wr rb (ro + j * 5) 5 = some (zfCs zs[j]) := by rw [rng_of_block (HBJ.out.block _ (by have := HBE.out.size; omega)), rng_of_block (HBE.out.block _ hrbw)]; exact HRC.out j hjz
          have hrbl : rb < wr.heap.size := by have := HBJ.out.size; have := HBE.out.size; omega
          obtain ⟨zl, hzl⟩ : ∃ zl, zl = zs[j] := ⟨_, rfl⟩
          have HZL : Hid (zl ∈ zs ∧ ∃ h : j < (file0 :: fs).length, zl.1 = (file0 :: fs)[j]) := by
            refine ⟨by rw [hzl]; exact List.getElem_mem hjz, by have := HNL.out; simp; omega, ?_⟩
            have := congrArg (fun l => l[j]?) HZM.out
            simp only [List.getElem?_map, List.getElem?_eq_getElem hjz] at this
            rw [List.getElem?_eq_getElem (by have := HNL.out; simp; omega)] at this
            rw [hzl]
            simpa using this
          rw [← hzl] at hfc
          clear hzl
          go_upto_region 19 with fail
          have hkl : (wr.alloc (.cells (zfCs zl) 59)).heap[wr.heap.size]? = some (.cells (zfCs zl) 59 (0, 0)) := heap_alloc_at _ _
          have HBL : Hid (Below U1.heap.size U1 (wr.alloc (.cells (zfCs zl) 59))) := HBJ.out.alloc HBJ.out.size _
          generalize wr.alloc (.cells (zfCs zl) 59) = U2 at *
          generalize wr.heap.size = F at *
          have HBV : Hid (Below V2.heap.size V2 U2) := HBE.out.trans (HBL.out.mono HBE.out.size)
          have HQU := hide (HQ2.out.below HBV.out)
          have HAK := hide (HQU.out.askB HPO.out (HGW.out _ HQU.out.blw) 28 i j rfl ⟨by omega, by omega⟩ ⟨by omega, by omega⟩)
          have HKL := hide hkl
          clear hfc hrbl hkl HBJ
          go_upto_region 20 with (go_at_call 27; refine HAK.out.mono ?_; rintro e U3 ⟨rsp, rfl, hb3, hp3⟩)
          have hkr : (U3.alloc (.cells (respCs rsp) 75)).heap[U3.heap.size]? = some (.cells (respCs rsp) 75 (0, 0)) := heap_alloc_at _ _
          have hb4 : Below U2.heap.size U2 (U3.alloc (.cells (respCs rsp) 75)) := hb3.alloc hb3.size _
          have hb4' : Below U3.heap.size U3 (U3.alloc (.cells (respCs rsp) 75)) := (Below.refl _ _).alloc (Nat.le_refl _) _
          have HBD := hide (fun hb => ask_bad (i := i) (j := j) hp3 HFI.out (by omega) (by have := HNL.out; omega) (by have := HNL.out; omega) hb)
          have HGD : Hid (¬ badP fs i j → i < j ∧ ∃ bs ts, bs = rowsF ze.1 ∧ ts = rowsF zl.1 ∧ rpC i j (reconcile bs ts) = 0 ∧ ∃ a n c a' n' c', rsp = { rsp0 with diffs := (a, n, c), bytes := (a', n', c') } ∧ OwnR (U3.alloc (.cells (respCs rsp) 75)) U2.heap.size 166 5 diffCs (.slice a n c) (reconcile bs ts) ∧ OwnR (U3.alloc (.cells (respCs rsp) 75)) U2.heap.size 5 1 byteCs (.slice a' n' c') (repText i j (reconcile bs ts))) := fun hb => by
            obtain ⟨-, hi0, e1⟩ := HZE.out
            obtain ⟨-, hj0, e2⟩ := HZL.out
            obtain ⟨g1, g2, a1, a2, a3, a4, a5, a6, g3, g4, g5⟩ := ask_good (i := i) (j := j) hp3 HFI.out (by omega) hi0 hj0 hb HFR.out
            rw [← e1, ← e2] at g2 g4 g5
            exact ⟨g1, _, _, rfl, rfl, g2, a1, a2, a3, a4, a5, a6, g3, g4.below hb4' (Nat.le_refl _), g5.below hb4' (Nat.le_refl _)⟩
          have HKE4 : Hid ((U3.alloc (.cells (respCs rsp) 75)).heap[E]? = some (.cells (zfCs ze) 59 (0, 0))) := (hb4.block _ (by have := blk_lt HKE.out; have := HBL.out.size; omega)).trans ((HBL.out.block _ (blk_lt HKE.out)).trans HKE.out)
          have HKL4 : Hid ((U3.alloc (.cells (respCs rsp) 75)).heap[F]? = some (.cells (zfCs zl) 59 (0, 0))) := (hb4.block _ (blk_lt HKL.out)).trans HKL.out
          have HB4 : Hid (Below U1.heap.size U1 (U3.alloc (.cells (respCs rsp) 75))) := HBL.out.trans (hb4.mono HBL.out.size)
          have HBVY : Hid (Below V2.heap.size V2 (U3.alloc (.cells (respCs rsp) 75))) := HBV.out.trans (hb4.mono HBV.out.size)
          have HBP : Hid (badP fs i j ↔ ((j : Int) = 0 ∨ ze.1.kind ≠ 67 ∨ zl.1.kind ≠ 67 ∨ j ≤ i)) := by
            obtain ⟨-, hi0, e1⟩ := HZE.out
            obtain ⟨-, hj0, e2⟩ := HZL.out
            show _ ↔ _
            unfold badP
            rw [List.getElem?_eq_getElem hi0, List.getElem?_eq_getElem hj0, ← e1, ← e2]
            simp
          clear hb3 hp3 hb4 hb4' HAK HKE HKL HBL HBV HQU
          generalize U3.alloc (.cells (respCs rsp) 75) = Y at *
          generalize U3.heap.size = R at *
          have k10 := cells_all HKE4.out 0
          have k12 := cells_all HKL4.out 0
          simp only [zfCs, List.getElem?_toArray, List.getElem?_cons_zero] at k10 k12
          refine wp_cut_mask rcC20 (fun x W => ∃ tb, x = .bool tb ∧ Y = W ∧ Hid (tb = true ↔ badP fs i j)) ?first ?rest
          case first =>
            intro J K' hJ hK'
            as_aux_lemma =>
            by_cases c1 : (j : Int) = 0
            · have HT : Hid (badP fs i j) := by show badP fs i j; rw [HBP.out]; simp [c1]
              obtain rfl : j = 0 := by omega
              clear c1
              go_wp2
              refine Met.intro ?_
              exact hJ.out (.bool true) _ _ ⟨true, rfl, rfl, fun _ => HT.out, fun _ => rfl⟩ (by kernel_rfl)
            · have d1 : ((j : Int) == 0) = false := by simpa using c1
              by_cases c2 : ze.1.kind = 67
              · have d2 : (ze.1.kind != 67) = false := by simp [c2]
                by_cases c3 : zl.1.kind = 67
                · have d3 : (zl.1.kind != 67) = false := by simp [c3]
                  by_cases c4 : j ≤ i
                  · have d4 : decide (j ≤ i) = true := by simpa using c4
                    have HT : Hid (badP fs i j) := by show badP fs i j; rw [HBP.out]; simp [c4]
                    clear c1 c2 c3 c4
                    go_wp2
                    refine Met.intro ?_
                    exact hJ.out (.bool true) _ _ ⟨true, rfl, rfl, fun _ => HT.out, fun _ => rfl⟩ (by kernel_rfl)
                  · have d4 : decide (j ≤ i) = false := by simpa using c4
                    have HT : Hid (¬ badP fs i j) := by show ¬ badP fs i j; rw [HBP.out]; simp only [c1, c2, c3, c4]; simp
                    clear c1 c2 c3 c4
                    go_wp2
                    refine Met.intro ?_
                    exact hJ.out (.bool false) _ _ ⟨false, rfl, rfl, fun h => (by cases h), fun h => absurd h HT.out⟩ (by kernel_rfl)
                · have d3 : (zl.1.kind != 67) = true := by simpa using c3
                  have HT : Hid (badP fs i j) := by show badP fs i j; rw [HBP.out]; simp [c3]
                  clear c1 c2 c3
                  go_wp2
                  refine Met.intro ?_
                  exact hJ.out (.bool true) _ _ ⟨true, rfl, rfl, fun _ => HT.out, fun _ => rfl⟩ (by kernel_rfl)
              · have d2 : (ze.1.kind != 67) = true := by simpa using c2
                have HT : Hid (badP fs i j) := by show badP fs i j; rw [HBP.out]; simp [c2]
                clear c1 c2
                go_wp2
                refine Met.intro ?_
                exact hJ.out (.bool true) _ _ ⟨true, rfl, rfl, fun _ => HT.out, fun _ => rfl⟩ (by kernel_rfl)
          case rest =>
          intro x103 u20 wc hcut
          dsimp only [rcC20, maskL_keep, maskL_any, maskL_is, maskL_nil]
          obtain ⟨tb, rfl, rfl, HTB⟩ := hcut
          have HENDJ : Hid (∀ W, Below Y.heap.size Y W → Below U1.heap.size U1 W) := fun W hW => HB4.out.trans (hW.mono HB4.out.size)
          clear k10 k12 HBP
          cases tb with
          | true =>
            as_aux_lemma =>
            obtain ⟨c, hc0, hrsp⟩ := HBD.out (HTB.out.1 rfl)
            have r0 := cells_all hkr 0
            have r37 := cells_all hkr 37
            have r38 := cells_all hkr 38
            rw [hrsp] at r0 r37 r38
            simp only [respCs, rsp0, noS, sv, List.getElem?_toArray, List.getElem?_cons_zero, List.getElem?_cons_succ] at r0 r37 r38
            have hcb : (c == 0) = false := by simpa using hc0
            have HEND := hide (HENDJ.out Y (Below.refl _ _))
            clear hrsp hkr hc0
            go_wp2
            refine Handed.intro (N - (j + 1)) (by omega) ?_
            exact hJ3.out _ (.int .i64 ((j + 1 : Nat) : Int)) _ _ ⟨j + 1, by omega, rfl, rfl, HEND⟩ (by kernel_rfl)
          | false =>
            as_aux_lemma =>
            obtain ⟨hij, bs, ts, hbs, hts, hrp, da, dn, dc, ya, yn, yc, hrsp, hod, hoy⟩ := HGD.out (fun h => by have := HTB.out.2 h; cases this)
            subst hrsp
            have HRP := hide hrp
            have HOD := hide hod
            have HOY := hide hoy
            have HFE : Hid (FR ze.1) := by
              obtain ⟨-, hi0, e1⟩ := HZE.out
              show FR ze.1
              rw [e1]
              exact HFR.out _ (List.getElem_mem hi0)
            have HFL : Hid (FR zl.1) := by
              obtain ⟨-, hj0, e2⟩ := HZL.out
              show FR zl.1
              rw [e2]
              exact HFR.out _ (List.getElem_mem hj0)
            have hnb : bs.length ≤ 65536 := by
              obtain ⟨-, hi0, e1⟩ := HZE.out
              rw [hbs, e1]
              unfold rowsF
              rw [List.length_map]
              exact HCL0.out _ (List.getElem_mem hi0)
            have hnt : ts.length ≤ 65536 := by
              obtain ⟨-, hj0, e2⟩ := HZL.out
              rw [hts, e2]
              unfold rowsF
              rw [List.length_map]
              exact HCL0.out _ (List.getElem_mem hj0)
            have hcE : ChangesAt Y (· < Y.heap.size) (sv ze.2) ze.1.changes := RArr.mono (HRF.out.c ze HZE.out.1) (fun g q => HBVY.out.block g q) (fun g q => Nat.lt_of_lt_of_le q HBVY.out.size)
            have hcL : ChangesAt Y (· < Y.heap.size) (sv zl.2) zl.1.changes := RArr.mono (HRF.out.c zl HZL.out.1) (fun g q => HBVY.out.block g q) (fun g q => Nat.lt_of_lt_of_le q HBVY.out.size)
            have HRE := hide (rows_zf hcE (by have := hnb; rw [hbs] at this; unfold rowsF at this; rw [List.length_map] at this; omega))
            have HRL := hide (rows_zf hcL (by have := hnt; rw [hts] at this; unfold rowsF at this; rw [List.length_map] at this; omega))
            rw [← hbs] at HRE
            rw [← hts] at HRL
            have HE : Hid (Rise bs ∧ (∀ r ∈ bs, RowOk r ∧ r.Ok)) := by rw [hbs]; exact ⟨HFE.out.rise, HFE.out.ok⟩
            have HL : Hid (Rise ts ∧ (∀ r ∈ ts, RowOk r ∧ r.Ok)) := by rw [hts]; exact ⟨HFL.out.rise, HFL.out.ok⟩
            have r0 := cells_all hkr 0
            simp only [respCs, rsp0, List.getElem?_toArray, List.getElem?_cons_zero] at r0
            have HKR := hide hkr
            clear hrp hod hoy hbs hts hcE hcL HFE HFL hkr HBD HGD HTB
            have hmm := @run_makeMap Tryz.prog
            go_upto_region 26 with fail
            clear hmm r0
            have HM0 : Hid (MS Y ((Y.alloc (.map #[] 0)).alloc (.map #[] 0)) 0 0 [] []) := MS.start Y
            generalize (Y.alloc (.map #[] 0)).alloc (.map #[] 0) = Z0 at *
            have hke : rng Z0 E 0 5 = some (zfCs ze) := by rw [rng_of_block (HM0.out.bel.block _ (blk_lt HKE4.out))]; exact rng_whole HKE4.out
            have HR0 := hide (HRE.out Z0 HM0.out.bel)
            go_upto_region 27 with (go_at_call 72; refine HR0.out.mono ?_; rintro e Z1 ⟨rv1, rfl, hown1, hb1⟩; obtain ⟨ga, gc, hrv1⟩ := hown1.form; subst hrv1)
            obtain ⟨nb, hnbe⟩ : ∃ nb, nb = bs.length := ⟨_, rfl⟩
            obtain ⟨nt, hnte⟩ : ∃ nt, nt = ts.length := ⟨_, rfl⟩
            rw [← hnbe] at hnb
            rw [← hnte] at hnt
            have HNB := hide hnbe
            have HNT := hide hnte
            obtain ⟨ga', gc', gb, go, ge, gl1, gl2, gl3, gha, ghc⟩ := RArr.lt (hown1.rows rowCs_size (by decide) (by omega))
            injection ge with ge1 ge2 ge3
            subst ge1
            subst ge3
            rw [← hnbe] at hown1 gl1 gha ⊢
            have hig := run_indexAt_arr (P := Tryz.prog) (n := nb) (cap := gc) Tryz.underlying150 Tryz.size109 (fun h => (gha h).1)
            have HGB : Hid (0 < nb → Z0.heap.size ≤ gb ∧ gb < Z1.heap.size) := fun h => (gha h).2
            have HGC := hide ghc
            have HM1 := hide (HM0.out.below hb1)
            have HZ01 : Hid (Z0.heap.size ≤ Z1.heap.size) := hb1.size
            clear hown1 hb1 ge2 gl1 gl2 gl3 gha ghc hke HR0 HRE hnbe hnte
            refine wp_loop_mask rcL4 (fun g x wr => ∃ k : Nat, k ≤ nb ∧ g = nb - k ∧ x = .int .i64 k ∧ Hid (MS Y wr k 0 (bs.take k) [] ∧ (∀ g, Z0.heap.size ≤ g → g < Z1.heap.size → wr.heap[g]? = Z1.heap[g]?) ∧ Z1.heap.size ≤ wr.heap.size)) nb (.int .i64 0) ⟨0, by omega, by omega, rfl, HM1.out, fun _ _ _ => rfl, Nat.le_refl _⟩ (by kernel_rfl) ?_
            intro gk4 x4 u4 wr hrel J4 K4 hJ4 hK4
            dsimp only [rcL4, maskL_keep, maskL_any, maskL_is, maskL_nil]
            obtain ⟨k, hkn, rfl, rfl, HI4⟩ := hrel
            by_cases hklt : k < nb
            · as_aux_lemma =>
              have hkb : k < bs.length := by rw [← HNB.out]; exact hklt
              obtain ⟨hg1, hg2⟩ := HGB.out (by omega)
              have hrk : rng wr gb (go + k * 13) 13 = some (rowCs bs[k]) := by rw [rng_of_block (HI4.out.2.1 gb hg1 hg2)]; exact HGC.out k hkb
              have hgw : gb < wr.heap.size := Nat.lt_of_lt_of_le hg2 HI4.out.2.2
              have HTK := hide (mput_take HE.out.1 hkb)
              have HOK := hide (HE.out.2 _ (List.getElem_mem hkb)).2
              generalize bs[k] = r at *
              clear hg1 hg2
              go_upto_region 29 with fail
              have hkw : (wr.alloc (.cells (rowCs r) 109)).heap[wr.heap.size]? = some (.cells (rowCs r) 109 (0, 0)) := heap_alloc_at _ _
              have HA := hide (HI4.out.1.below ((Below.refl _ _).alloc (Nat.le_refl _) (.cells (rowCs r) 109)))
              have HAS : Hid (∀ g, g < wr.heap.size → (wr.alloc (.cells (rowCs r) 109)).heap[g]? = wr.heap[g]?) := fun g hg => ((Below.refl wr.heap.size wr).alloc (Nat.le_refl _) _).block g hg
              have HAZ : Hid (wr.heap.size ≤ (wr.alloc (.cells (rowCs r) 109)).heap.size) := by show _ ≤ _; simp
              generalize wr.alloc (.cells (rowCs r) 109) = X at *
              obtain ⟨B, hB⟩ : ∃ B, B = wr.heap.size := ⟨_, rfl⟩
              rw [← hB] at hkw ⊢
              have s0 : X.cell? ⟨B, 0, none⟩ = some (.int .u32 r.sample) := cells_all hkw 0
              have s1 : X.cell? ⟨B, 1, none⟩ = some (.int .u32 r.analyte) := cells_all hkw 1
              have s2 : rng X B 0 13 = some (rowCs r) := rng_whole hkw
              obtain ⟨X', hup, hmap, hgr⟩ := HA.out.m1.put (show k < maxLen by unfold maxLen; omega) r HOK.out.sample HOK.out.analyte
              rw [HTK.out] at hmap
              have HEND : Hid (MS Y X' (k + 1) 0 (bs.take (k + 1)) [] ∧ (∀ g, Z0.heap.size ≤ g → g < Z1.heap.size → X'.heap[g]? = Z1.heap[g]?) ∧ Z1.heap.size ≤ X'.heap.size) := by
                refine ⟨HA.out.put1 hgr hmap, fun g q1 q2 => ?_, ?_⟩
                · have hz := HI4.out.2.2
                  have hz2 := HAZ.out
                  rw [hgr.block g (by omega) (by have := HM0.out.up; simp; omega), HAS.out g (by omega)]
                  exact HI4.out.2.1 g q1 q2
                · have := hgr.size; have := HAZ.out; have := HI4.out.2.2; omega
              simp only [keyV] at hup
              clear hmap hgr hkw hrk hgw hB hig
              go_wp2
              refine Handed.intro (nb - (k + 1)) (by omega) ?_
              exact hJ4.out _ (.int .i64 ((k + 1 : Nat) : Int)) _ _ ⟨k + 1, by omega, rfl, rfl, HEND⟩ (by kernel_rfl)
            · as_aux_lemma =>
              obtain rfl : k = nb := by omega
              have hbt : bs.take k = bs := List.take_of_length_le (by rw [← HNB.out]; exact Nat.le_refl _)
              have HM2 : Hid (MS Y wr k 0 bs []) := by have := HI4.out.1; rw [hbt] at this; exact this
              clear hbt HI4 HGB HGC HZ01 HM0 HM1 hig HKE4
              have hkl : rng wr F 0 5 = some (zfCs zl) := by rw [rng_of_block (HM2.out.bel.block _ (blk_lt HKL4.out))]; exact rng_whole HKL4.out
              have HR2 := hide (HRL.out wr HM2.out.bel)
              go_upto_region 32 with (go_at_call 72; refine HR2.out.mono ?_; rintro e Z2 ⟨rv2, rfl, hown2, hb2⟩; obtain ⟨ga, gc, hrv2⟩ := hown2.form; subst hrv2)
              obtain ⟨ga', gc', gb, go, ge, gl1, gl2, gl3, gha, ghc⟩ := RArr.lt (hown2.rows rowCs_size (by decide) (by rw [← HNT.out]; omega))
              injection ge with ge1 ge2 ge3
              subst ge1
              subst ge3
              rw [← HNT.out] at hown2 gl1 gha ⊢
              have hig := run_indexAt_arr (P := Tryz.prog) (n := nt) (cap := gc) Tryz.underlying150 Tryz.size109 (fun h => (gha h).1)
              have HGB : Hid (0 < nt → wr.heap.size ≤ gb ∧ gb < Z2.heap.size) := fun h => (gha h).2
              have HGC := hide ghc
              have HM3 := hide (HM2.out.below hb2)
              have HUP : Hid (Y.heap.size + 2 ≤ wr.heap.size) := HM2.out.up
              clear hown2 hb2 ge2 gl1 gl2 gl3 gha ghc hkl HR2 HRL HKL4 HM2
              obtain ⟨Z, hZ⟩ : ∃ Z, Z = wr.heap.size := ⟨_, rfl⟩
              rw [← hZ] at HGB HUP
              clear hZ
              refine wp_loop_mask rcL5 (fun g x wr => ∃ m : Nat, m ≤ nt ∧ g = nt - m ∧ x = .int .i64 m ∧ Hid (MS Y wr k m bs (ts.take m) ∧ (∀ g, Z ≤ g → g < Z2.heap.size → wr.heap[g]? = Z2.heap[g]?) ∧ Z2.heap.size ≤ wr.heap.size)) nt (.int .i64 0) ⟨0, by omega, by omega, rfl, HM3.out, fun _ _ _ => rfl, Nat.le_refl _⟩ (by kernel_rfl) ?_
              clear HM3
              intro gk5 x5 u5 wr hrel J5 K5 hJ5 hK5
              dsimp only [rcL5, maskL_keep, maskL_any, maskL_is, maskL_nil]
              obtain ⟨m, hmn, rfl, rfl, HI5⟩ := hrel
              by_cases hmlt : m < nt
              · as_aux_lemma =>
                have hkb : m < ts.length := by rw [← HNT.out]; exact hmlt
                obtain ⟨hg1, hg2⟩ := HGB.out (by omega)
                have hrk : rng wr gb (go + m * 13) 13 = some (rowCs ts[m]) := by rw [rng_of_block (HI5.out.2.1 gb hg1 hg2)]; exact HGC.out m hkb
                have hgw : gb < wr.heap.size := Nat.lt_of_lt_of_le hg2 HI5.out.2.2
                have HTK := hide (mput_take HL.out.1 hkb)
                have HOK := hide (HL.out.2 _ (List.getElem_mem hkb)).2
                generalize ts[m] = r at *
                clear hg1 hg2
                go_upto_region 34 with fail
                have hkw : (wr.alloc (.cells (rowCs r) 109)).heap[wr.heap.size]? = some (.cells (rowCs r) 109 (0, 0)) := heap_alloc_at _ _
                have HA := hide (HI5.out.1.below ((Below.refl _ _).alloc (Nat.le_refl _) (.cells (rowCs r) 109)))
                have HAS : Hid (∀ g, g < wr.heap.size → (wr.alloc (.cells (rowCs r) 109)).heap[g]? = wr.heap[g]?) := fun g hg => ((Below.refl wr.heap.size wr).alloc (Nat.le_refl _) _).block g hg
                have HAZ : Hid (wr.heap.size ≤ (wr.alloc (.cells (rowCs r) 109)).heap.size) := by show _ ≤ _; simp
                generalize wr.alloc (.cells (rowCs r) 109) = X at *
                obtain ⟨B, hB⟩ : ∃ B, B = wr.heap.size := ⟨_, rfl⟩
                rw [← hB] at hkw ⊢
                have s0 : X.cell? ⟨B, 0, none⟩ = some (.int .u32 r.sample) := cells_all hkw 0
                have s1 : X.cell? ⟨B, 1, none⟩ = some (.int .u32 r.analyte) := cells_all hkw 1
                have s2 : rng X B 0 13 = some (rowCs r) := rng_whole hkw
                obtain ⟨X', hup, hmap, hgr⟩ := HA.out.m2.put (show m < maxLen by unfold maxLen; omega) r HOK.out.sample HOK.out.analyte
                rw [HTK.out] at hmap
                have HEND : Hid (MS Y X' k (m + 1) bs (ts.take (m + 1)) ∧ (∀ g, Z ≤ g → g < Z2.heap.size → X'.heap[g]? = Z2.heap[g]?) ∧ Z2.heap.size ≤ X'.heap.size) := by
                  refine ⟨HA.out.put2 hgr hmap, fun g q1 q2 => ?_, ?_⟩
                  · have hz := HI5.out.2.2
                    have hz2 := HAZ.out
                    rw [hgr.block g (by omega) (by have := HUP.out; simp; omega), HAS.out g (by omega)]
                    exact HI5.out.2.1 g q1 q2
                  · have := hgr.size; have := HAZ.out; have := HI5.out.2.2; omega
                simp only [keyV] at hup
                clear hmap hgr hkw hrk hgw hB hig
                go_wp2
                refine Handed.intro (nt - (m + 1)) (by omega) ?_
                exact hJ5.out _ (.int .i64 ((m + 1 : Nat) : Int)) _ _ ⟨m + 1, by omega, rfl, rfl, HEND⟩ (by kernel_rfl)
              · as_aux_lemma =>
                obtain rfl : m = nt := by omega
                have hbt : ts.take m = ts := List.take_of_length_le (by rw [← HNT.out]; exact Nat.le_refl _)
                have HM4 : Hid (MS Y wr k m bs ts) := by have := HI5.out.1; rw [hbt] at this; exact this
                have HU1 : Hid (∀ q ∈ bs, U32 q.sample ∧ U32 q.analyte) := fun q hq => ⟨(HE.out.2 q hq).2.sample, (HE.out.2 q hq).2.analyte⟩
                have HU2 : Hid (∀ q ∈ ts, U32 q.sample ∧ U32 q.analyte) := fun q hq => ⟨(HL.out.2 q hq).2.sample, (HL.out.2 q hq).2.analyte⟩
                clear hbt HI5 HGB HGC HUP hig
                go_upto_region 38 with (at_range; refine HM4.out.m1.range HU1.out rfl _ rfl rfl ?_; intro W6 cn hit0 hg0 hs6)
                first | go_frame | skip
                have hb6 : Below wr.heap.size wr W6 := (Below.refl _ _).grown hg0 (Nat.le_refl _) (fun k hk => by cases hk)
                have HM6 := hide (HM4.out.below hb6)
                have HIT0 := hide hit0
                have HI6 : Hid (Y.heap.size + 2 ≤ wr.heap.size) := HM4.out.up
                obtain ⟨I6, hI6⟩ : ∃ I, I = wr.heap.size := ⟨_, rfl⟩
                rw [← hI6] at HIT0 HI6 ⊢
                clear hit0 hg0 hs6 hI6 hb6 HM4
                refine wp_loop_mask rcL6 (fun g x wr => ∃ (c : Nat) (todo : List Row), x = .int .i64 c ∧ Hid (c + (todo.filter (offA ts)).length = (bs.filter (offA ts)).length) ∧ Hid (MapIt wr Y.heap.size I6 k bs todo g) ∧ Hid (MS Y wr k m bs ts)) cn (.int .i64 0) ⟨0, bs, rfl, Nat.zero_add _, HIT0, HM6⟩ (by kernel_rfl) ?_
                clear HIT0 HM6
                intro gk6 x6 u6 wr hrel J6 K6 hJ6 hK6
                dsimp only [rcL6, maskL_keep, maskL_any, maskL_is, maskL_nil]
                obtain ⟨c6, todo, rfl, HCT, HIT, HM7⟩ := hrel
                have hc6 : c6 ≤ 65536 := by
                  have h1 := HCT.out
                  have h2 := List.length_filter_le (offA ts) bs
                  have h3 := HNB.out
                  omega
                go_wp2_with (at_next; refine HIT.out.next rfl _ rfl rfl ?_ ?_)
                · as_aux_lemma =>
                  intro htodo
                  have HC6 : Hid (c6 = (bs.filter (offA ts)).length) := by have := HCT.out; rw [htodo] at this; exact this
                  clear htodo HCT HIT
                  go_upto_region 44 with (at_range; refine HM7.out.m2.range HU2.out rfl _ rfl rfl ?_; intro W7 cn7 hit7 hg7 hs7)
                  first | go_frame | skip
                  have hb7 : Below wr.heap.size wr W7 := (Below.refl _ _).grown hg7 (Nat.le_refl _) (fun k hk => by cases hk)
                  have HM8 := hide (HM7.out.below hb7)
                  have HIT0 := hide hit7
                  have HI7 : Hid (Y.heap.size + 2 ≤ wr.heap.size) := HM7.out.up
                  obtain ⟨I7, hI7⟩ : ∃ I, I = wr.heap.size := ⟨_, rfl⟩
                  rw [← hI7] at HIT0 HI7 ⊢
                  clear hit7 hg7 hs7 hI7 hb7 HM7
                  refine wp_loop_mask rcL7 (fun g x wr => ∃ (c : Nat) (todo : List Row), x = .int .i64 c ∧ Hid (c + (todo.filter (offB bs)).length = (bs.filter (offA ts)).length + (ts.filter (offB bs)).length) ∧ Hid (MapIt wr (Y.heap.size + 1) I7 m ts todo g) ∧ Hid (MS Y wr k m bs ts)) cn7 (.int .i64 c6) ⟨c6, ts, rfl, congrArg (· + (ts.filter (offB bs)).length) HC6.out, HIT0, HM8⟩ (by kernel_rfl) ?_
                  clear HIT0 HM8 HC6 hc6
                  intro gk7 x7 u7 wr hrel J7 K7 hJ7 hK7
                  dsimp only [rcL7, maskL_keep, maskL_any, maskL_is, maskL_nil]
                  obtain ⟨c7, todo, rfl, HCT, HIT, HM7⟩ := hrel
                  have hc7 : c7 ≤ 131072 := by
                    have h1 := HCT.out
                    have h2 := List.length_filter_le (offA ts) bs
                    have h4 := List.length_filter_le (offB bs) ts
                    have h3 := HNB.out
                    have h5 := HNT.out
                    omega
                  go_wp2_with (at_next; refine HIT.out.next rfl _ rfl rfl ?_ ?_)
                  · as_aux_lemma =>
                    intro htodo
                    have HC7 : Hid (c7 = (reconcile bs ts).length) := by
                      have := HCT.out
                      rw [htodo] at this
                      rw [count_rec HE.out.1 HL.out.1]
                      exact this
                    clear htodo HCT HIT
                    have hdn : dn = (reconcile bs ts).length := by
                      obtain ⟨_, _, e⟩ := HOD.out.form
                      injection e with _ e2 _
                    obtain rfl : dn = c7 := by rw [hdn]; exact HC7.out.symm
                    have HOKD : Hid (∀ d ∈ reconcile bs ts, d.Ok) := fun d hd => rec_okD HE.out.1 HL.out.1 HE.out.2 HL.out.2 hd
                    have HWD : Hid (∀ d ∈ reconcile bs ts, d = ⟨actD (mlook bs d.sample d.analyte) (mlook ts d.sample d.analyte), d.sample, d.analyte, (rowD (mlook bs d.sample d.analyte)).version, (rowD (mlook ts d.sample d.analyte)).version⟩ ∧ d.action ≠ 0) := fun d hd => want_rec HE.out.1 HL.out.1 hd
                    have HKB := hide (rise_rec HE.out.1 HL.out.1)
                    have HDP := hide (HOD.out.below HM7.out.bel (Nat.le_refl _))
                    have HYP := hide (HOY.out.below HM7.out.bel (Nat.le_refl _))
                    have HKP : Hid (wr.heap[R]? = _) := (HM7.out.bel.block _ (blk_lt HKR.out)).trans HKR.out
                    have HJP : Hid (∀ W, Below wr.heap.size wr W → Below U1.heap.size U1 W) := fun W hW => HENDJ.out W (HM7.out.bel.trans (hW.mono HM7.out.bel.size))
                    have HDN := hide hdn
                    generalize reconcile bs ts = ds at *
                    have r37 := cells_all HKP.out 37
                    have r38 := cells_all HKP.out 38
                    simp only [respCs, rsp0, sv, List.getElem?_toArray, List.getElem?_cons_zero, List.getElem?_cons_succ] at r37 r38
                    clear hdn HC7 HOD HOY HKR HENDJ HE HL HU1 HU2 HI6 HI7
                    obtain ⟨P, hP⟩ : ∃ P, P = wr := ⟨_, rfl⟩
                    rw [← hP] at HM7 HDP HYP HKP HJP r37 r38 ⊢
                    clear hP
                    obtain ⟨da', dc', db, dof, de, dl1, dl2, dl3, dha, dhc⟩ := RArr.lt (HDP.out.rows diffCs_size (by decide) (by rw [← HDN.out]; omega))
                    injection de with de1 de2 de3
                    subst de1
                    subst de3
                    rw [← de2] at dha
                    have hid := run_indexAt_arr (P := Tryz.prog) (n := dn) (cap := dc) Tryz.underlying72 Tryz.size166_z (fun h => (dha h).1)
                    have HDB : Hid (0 < dn → db < P.heap.size) := fun h => (dha h).2.2
                    have HDC := hide dhc
                    have zR := blk_lt HKP.out
                    clear de2 dl1 dl2 dl3 dha dhc
                    go_upto_region 52 with fail
                    refine wp_loop_mask rcL8 (fun g x wr => ∃ n : Nat, n ≤ dn ∧ g = dn - n ∧ x = .int .i64 n ∧ Hid (Below P.heap.size P wr)) dn (.int .i64 0) ⟨0, by omega, by omega, rfl, Below.refl _ _⟩ (by kernel_rfl) ?_
                    intro gk8 x8 u8 wr hrel J8 K8 hJ8 hK8
                    dsimp only [rcL8, maskL_keep, maskL_any, maskL_is, maskL_nil]
                    obtain ⟨n, hnn, rfl, rfl, HBN⟩ := hrel
                    by_cases hnlt : n < dn
                    · as_aux_lemma =>
                      have hnd : n < ds.length := by rw [← HDN.out]; exact hnlt
                      have hdbw := HDB.out (by omega)
                      have hrd : rng wr db (dof + n * 5) 5 = some (diffCs ds[n]) := by rw [rng_of_block (HBN.out.block _ hdbw)]; exact HDC.out n hnd
                      have hdw : db < wr.heap.size := by have := HBN.out.size; omega
                      have HWN := hide (HWD.out _ (List.getElem_mem hnd))
                      have HON := hide (HOKD.out _ (List.getElem_mem hnd))
                      have HPV : Hid (0 < n → ∃ p, rng P db (dof + (n - 1) * 5) 5 = some (diffCs p) ∧ kbB p ds[n] = true) := fun h => by
                        have hn1 : n - 1 < ds.length := by omega
                        exact ⟨ds[n - 1], HDC.out (n - 1) hn1, List.pairwise_iff_getElem.1 HKB.out (n - 1) n hn1 hnd (by omega)⟩
                      generalize ds[n] = d at *
                      obtain ⟨da0, ds0, dn0, db0, df0⟩ := d
                      have hds0 : U32 ds0 := HON.out.sample
                      have hdn0 : U32 dn0 := HON.out.analyte
                      obtain ⟨hw1, hw2⟩ := HWN.out
                      dsimp only at hw1 hw2
                      injection hw1 with hw3 _ _ hw4 hw5
                      have HW3 := hide hw3
                      have HW2 := hide hw2
                      have HW4 := hide hw4
                      have HW5 := hide hw5
                      clear hw2 hw3 hw4 hw5 HWN HON
                      go_upto_region 54 with fail
                      have hkd : (wr.alloc (.cells (diffCs ⟨da0, ds0, dn0, db0, df0⟩) 166)).heap[wr.heap.size]? = some (.cells (diffCs ⟨da0, ds0, dn0, db0, df0⟩) 166 (0, 0)) := heap_alloc_at _ _
                      have HB1 : Hid (Below P.heap.size P (wr.alloc (.cells (diffCs ⟨da0, ds0, dn0, db0, df0⟩) 166))) := HBN.out.alloc HBN.out.size _
                      generalize wr.alloc (.cells (diffCs ⟨da0, ds0, dn0, db0, df0⟩) 166) = X1 at *
                      generalize wr.heap.size = D1 at *
                      have c1 : X1.cell? ⟨D1, 1, none⟩ = some (.int .u32 ds0) := cells_all hkd 1
                      have c2 : X1.cell? ⟨D1, 2, none⟩ = some (.int .u32 dn0) := cells_all hkd 2
                      have z1 := blk_lt hkd
                      clear hrd hdw HBN
                      go_upto_region 55 with fail
                      have hkk : (X1.alloc (.cells #[.int .u32 ds0, .int .u32 dn0] 106)).heap[X1.heap.size]? = some (.cells #[.int .u32 ds0, .int .u32 dn0] 106 (0, 0)) := heap_alloc_at _ _
                      have HB2 : Hid (Below P.heap.size P (X1.alloc (.cells #[.int .u32 ds0, .int .u32 dn0] 106))) := HB1.out.alloc HB1.out.size _
                      have hkd2 : (X1.alloc (.cells #[.int .u32 ds0, .int .u32 dn0] 106)).heap[D1]? = some (.cells (diffCs ⟨da0, ds0, dn0, db0, df0⟩) 166 (0, 0)) := (((Below.refl X1.heap.size X1).alloc (Nat.le_refl _) _).block D1 z1).trans hkd
                      generalize X1.alloc (.cells #[.int .u32 ds0, .int .u32 dn0] 106) = X2 at *
                      generalize X1.heap.size = K2 at *
                      have e0 := cells_all hkk 0
                      have e1 := cells_all hkk 1
                      simp only [List.getElem?_toArray, List.getElem?_cons_zero, List.getElem?_cons_succ] at e0 e1
                      have z2 := blk_lt hkk
                      have z1' := blk_lt hkd2
                      have hl1 := (HM7.out.below HB2.out).m1.look_ok hds0 hdn0
                      simp only [keyV] at hl1
                      obtain ⟨ob, hob⟩ : ∃ ob, ob = mlook bs ds0 dn0 := ⟨_, rfl⟩
                      obtain ⟨nb, hnb'⟩ : ∃ nb, nb = mlook ts ds0 dn0 := ⟨_, rfl⟩
                      rw [← hob] at hl1
                      rw [← hob, ← hnb'] at HW3
                      rw [← hob] at HW4
                      rw [← hnb'] at HW5
                      have HNBE := hide hnb'
                      clear hob hnb' c1 c2 z1 hkd
                      go_upto_region 56 with fail
                      have hko : (X2.alloc (.cells (rowCs (ob.getD zeroRow)) 109)).heap[X2.heap.size]? = some (.cells (rowCs (ob.getD zeroRow)) 109 (0, 0)) := heap_alloc_at _ _
                      have hb23 : Below X2.heap.size X2 (X2.alloc (.cells (rowCs (ob.getD zeroRow)) 109)) := (Below.refl _ _).alloc (Nat.le_refl _) _
                      have HB3 : Hid (Below P.heap.size P (X2.alloc (.cells (rowCs (ob.getD zeroRow)) 109))) := HB2.out.alloc HB2.out.size _
                      have hkk3 := (hb23.block K2 z2).trans hkk
                      have hkd3 := (hb23.block D1 z1').trans hkd2
                      generalize X2.alloc (.cells (rowCs (ob.getD zeroRow)) 109) = X3 at *
                      generalize X2.heap.size = OB at *
                      have e0' := cells_all hkk3 0
                      have e1' := cells_all hkk3 1
                      simp only [List.getElem?_toArray, List.getElem?_cons_zero, List.getElem?_cons_succ] at e0' e1'
                      have hl2 := (HM7.out.below HB3.out).m2.look_ok hds0 hdn0
                      rw [← HNBE.out] at hl2
                      simp only [keyV] at hl2
                      clear e0 e1 hl1 z2 z1' hkk hkd2 hb23
                      go_upto_region 57 with fail
                      have hkn : (X3.alloc (.cells (rowCs (nb.getD zeroRow)) 109)).heap[X3.heap.size]? = some (.cells (rowCs (nb.getD zeroRow)) 109 (0, 0)) := heap_alloc_at _ _
                      have hb34 : Below X3.heap.size X3 (X3.alloc (.cells (rowCs (nb.getD zeroRow)) 109)) := (Below.refl _ _).alloc (Nat.le_refl _) _
                      have HB4 : Hid (Below P.heap.size P (X3.alloc (.cells (rowCs (nb.getD zeroRow)) 109))) := HB3.out.alloc HB3.out.size _
                      have hko4 := (hb34.block OB (blk_lt hko)).trans hko
                      have hkd4 := (hb34.block D1 (blk_lt hkd3)).trans hkd3
                      generalize X3.alloc (.cells (rowCs (nb.getD zeroRow)) 109) = X4 at *
                      generalize X3.heap.size = NB at *
                      have c1 : X4.cell? ⟨D1, 1, none⟩ = some (.int .u32 ds0) := cells_all hkd4 1
                      have c2 : X4.cell? ⟨D1, 2, none⟩ = some (.int .u32 dn0) := cells_all hkd4 2
                      have c3 : X4.cell? ⟨OB, 2, none⟩ = some (.int .u32 (ob.getD zeroRow).version) := cells_all hko4 2
                      have c4 : X4.cell? ⟨NB, 2, none⟩ = some (.int .u32 (nb.getD zeroRow).version) := cells_all hkn 2
                      have hv1 : (ob.getD zeroRow).version = db0 := HW4.out.symm
                      have hv2 : (nb.getD zeroRow).version = df0 := HW5.out.symm
                      rw [hv1] at c3
                      rw [hv2] at c4
                      clear e0' e1' hl2 hv1 hv2 hkk3 hkd3 hko hb34
                      go_upto_block 16 with fail
                      have hkw : (X4.alloc (.cells (diffCs ⟨0, ds0, dn0, db0, df0⟩) 166)).heap[X4.heap.size]? = some (.cells (diffCs ⟨0, ds0, dn0, db0, df0⟩) 166 (0, 0)) := heap_alloc_at _ _
                      have hb45 : Below X4.heap.size X4 (X4.alloc (.cells (diffCs ⟨0, ds0, dn0, db0, df0⟩) 166)) := (Below.refl _ _).alloc (Nat.le_refl _) _
                      have HB5 : Hid (Below P.heap.size P (X4.alloc (.cells (diffCs ⟨0, ds0, dn0, db0, df0⟩) 166))) := HB4.out.alloc HB4.out.size _
                      have hkd5 := (hb45.block D1 (blk_lt hkd4)).trans hkd4
                      have hko5 := (hb45.block OB (blk_lt hko4)).trans hko4
                      have hkn5 := (hb45.block NB (blk_lt hkn)).trans hkn
                      have hDW : D1 ≠ X4.heap.size := by have := blk_lt hkd4; omega
                      have hPW : P.heap.size ≤ X4.heap.size := HB4.out.size
                      generalize X4.alloc (.cells (diffCs ⟨0, ds0, dn0, db0, df0⟩) 166) = X5 at *
                      generalize X4.heap.size = WB at *
                      clear c1 c2 c3 c4 hkd4 hko4 hkn hb45
                      have ro : rng X5 OB 0 13 = some (rowCs (ob.getD zeroRow)) := rng_whole hko5
                      have rn' : rng X5 NB 0 13 = some (rowCs (nb.getD zeroRow)) := rng_whole hkn5
                      have fw : X5.frozen? ⟨WB, 0, none⟩ = false := by simp [World.frozen?, hkw]
                      have cw : X5.cell? ⟨WB, 0, none⟩ = some (.int .u8 0) := cells_all hkw 0
                      refine wp_cut_mask rcSw (fun (_ : Unit) W => Hid (X5.setCell ⟨WB, 0, none⟩ (.int .u8 da0) = W)) ?first ?rest
                      case first =>
                        intro J K' hJ hK'
                        as_aux_lemma =>
                        cases ob with
                        | none =>
                          cases nb with
                          | none => exact absurd HW3.out HW2.out
                          | some y =>
                            have hda : da0 = 78 := HW3.out
                            subst hda
                            simp only [Option.getD_none, Option.getD_some] at ro rn'
                            go_wp2
                            refine Met.intro ?_
                            exact hJ.out () _ _ rfl (by kernel_rfl)
                        | some x =>
                          cases nb with
                          | none =>
                            have hda : da0 = 87 := HW3.out
                            subst hda
                            simp only [Option.getD_none, Option.getD_some] at ro rn'
                            go_wp2
                            refine Met.intro ?_
                            exact hJ.out () _ _ rfl (by kernel_rfl)
                          | some y =>
                            have hxy : x.eqB y = false := by
                              cases he : x.eqB y with
                              | false => rfl
                              | true =>
                                have := HW3.out
                                unfold actD at this
                                dsimp only at this
                                rw [if_pos he] at this
                                exact absurd this HW2.out
                            have hda : da0 = 67 := by
                              have := HW3.out
                              unfold actD at this
                              dsimp only at this
                              rw [if_neg (by rw [hxy]; decide)] at this
                              exact this
                            subst hda
                            simp only [Option.getD_some] at ro rn'
                            go_wp2
                            refine Met.intro ?_
                            exact hJ.out () _ _ rfl (by kernel_rfl)
                      case rest =>
                      intro _ u58 X6 hcut
                      dsimp only [rcSw, maskL_keep, maskL_any, maskL_is, maskL_nil]
                      have hx6 := hcut.out
                      have hkw6 : X6.heap[WB]? = some (.cells (diffCs ⟨da0, ds0, dn0, db0, df0⟩) 166 (0, 0)) := by
                        rw [← hx6]
                        exact heap_set3 (j := 0) (v := .int .u8 da0) hkw
                      have hkd6 : X6.heap[D1]? = some (.cells (diffCs ⟨da0, ds0, dn0, db0, df0⟩) 166 (0, 0)) := by
                        rw [← hx6, Below.heap_setCell _ _ _ _ hDW]
                        exact hkd5
                      have HB6 : Hid (Below P.heap.size P X6) := by
                        show Below _ _ _
                        rw [← hx6]
                        exact HB5.out.setCell (p := ⟨WB, 0, none⟩) hPW _
                      clear hx6 hcut hkw ro rn' fw cw hkd5 hko5 hkn5 hDW hPW
                      have rd6 : rng X6 D1 0 5 = some (diffCs ⟨da0, ds0, dn0, db0, df0⟩) := rng_whole hkd6
                      have rw6 : rng X6 WB 0 5 = some (diffCs ⟨da0, ds0, dn0, db0, df0⟩) := rng_whole hkw6
                      have cw6 : X6.cell? ⟨WB, 0, none⟩ = some (.int .u8 da0) := cells_all hkw6 0
                      have hd0 : (da0 == 0) = false := by simpa using HW2.out
                      have hr38 : X6.cell? ⟨R, 38, none⟩ = some (.slice da dn dc) := (HB6.out.cell (p := ⟨R, 38, none⟩) zR).trans r38
                      by_cases hn0 : 0 < n
                      · as_aux_lemma =>
                        obtain ⟨⟨pa, ps, pn, pb, pf⟩, hp1, hp2⟩ := HPV.out hn0
                        have hp3 : rng X6 db (dof + (n - 1) * 5) 5 = some (diffCs ⟨pa, ps, pn, pb, pf⟩) := by rw [rng_of_block (HB6.out.block _ hdbw)]; exact hp1
                        have hdb6 : db < X6.heap.size := by have := HB6.out.size; omega
                        have hix : ∀ W : World, (Instr.indexAt 72 (.slice da dn dc) (.int .i64 ((n : Int) - 1))).run Tryz.prog W = .ok (.pointer (some ⟨db, dof + (n - 1) * 5, none⟩)) W := fun W => by
                          have := hid W ((n : Int) - 1) (by omega) (by omega)
                          rwa [show ((n : Int) - 1).toNat = n - 1 by omega] at this
                        have hq0 : decide (0 < n) = true := by simpa using hn0
                        clear hp1
                        go_upto_region 68 with fail
                        have hkq : (X6.alloc (.cells (diffCs ⟨pa, ps, pn, pb, pf⟩) 166)).heap[X6.heap.size]? = some (.cells (diffCs ⟨pa, ps, pn, pb, pf⟩) 166 (0, 0)) := heap_alloc_at _ _
                        have hkd7 : (X6.alloc (.cells (diffCs ⟨pa, ps, pn, pb, pf⟩) 166)).heap[D1]? = some (.cells (diffCs ⟨da0, ds0, dn0, db0, df0⟩) 166 (0, 0)) := (((Below.refl X6.heap.size X6).alloc (Nat.le_refl _) _).block D1 (blk_lt hkd6)).trans hkd6
                        have HB7 : Hid (Below P.heap.size P (X6.alloc (.cells (diffCs ⟨pa, ps, pn, pb, pf⟩) 166))) := HB6.out.alloc HB6.out.size _
                        clear rd6 rw6 cw6 hr38 hp3 hdb6 hix hq0 hkd6 hkw6
                        generalize X6.alloc (.cells (diffCs ⟨pa, ps, pn, pb, pf⟩) 166) = X7 at *
                        generalize X6.heap.size = QB at *
                        have q1 : X7.cell? ⟨QB, 1, none⟩ = some (.int .u32 ps) := cells_all hkq 1
                        have q2 : X7.cell? ⟨QB, 2, none⟩ = some (.int .u32 pn) := cells_all hkq 2
                        have q3 : X7.cell? ⟨D1, 1, none⟩ = some (.int .u32 ds0) := cells_all hkd7 1
                        have q4 : X7.cell? ⟨D1, 2, none⟩ = some (.int .u32 dn0) := cells_all hkd7 2
                        unfold kbB at hp2
                        dsimp only at hp2
                        by_cases hlt' : ps < ds0
                        · have b1 : decide (ds0 < ps) = false := by simp; omega
                          have b2 : (ps == ds0) = false := by simp; omega
                          clear hlt' hp2 hkq hkd7
                          go_wp2
                          refine Handed.intro (dn - (n + 1)) (by omega) ?_
                          exact hJ8.out _ (.int .i64 ((n + 1 : Nat) : Int)) _ _ ⟨n + 1, by omega, rfl, rfl, HB7⟩ (by kernel_rfl)
                        · rw [if_neg (by simpa using hlt')] at hp2
                          split at hp2
                          · rename_i heq
                            have heq' : ps = ds0 := by simpa using heq
                            have b1 : decide (ds0 < ps) = false := by simp; omega
                            have b3 : decide (dn0 ≤ pn) = false := by have : pn < dn0 := of_decide_eq_true hp2; simp; omega
                            clear hlt' hp2 hkq hkd7 heq'
                            go_wp2
                            refine Handed.intro (dn - (n + 1)) (by omega) ?_
                            exact hJ8.out _ (.int .i64 ((n + 1 : Nat) : Int)) _ _ ⟨n + 1, by omega, rfl, rfl, HB7⟩ (by kernel_rfl)
                          · cases hp2
                      · as_aux_lemma =>
                        obtain rfl : n = 0 := by omega
                        have HEND := HB6
                        go_wp2
                        refine Handed.intro (dn - (0 + 1)) (by omega) ?_
                        exact hJ8.out _ (.int .i64 ((0 + 1 : Nat) : Int)) _ _ ⟨0 + 1, by omega, rfl, rfl, HEND⟩ (by kernel_rfl)
                    · as_aux_lemma =>
                      obtain rfl : n = dn := by omega
                      have hr37 : wr.cell? ⟨R, 37, none⟩ = some (.slice ya yn yc) := (HBN.out.cell (p := ⟨R, 37, none⟩) zR).trans r37
                      have hr38 : wr.cell? ⟨R, 38, none⟩ = some (.slice da n dc) := (HBN.out.cell (p := ⟨R, 38, none⟩) zR).trans r38
                      have hiu : U32 (i : Int) := ⟨by omega, by omega⟩
                      have hju : U32 (j : Int) := ⟨by omega, by omega⟩
                      have hdl : ds.length ≤ 900000 := by rw [← HDN.out]; omega
                      have HYW := hide (HYP.out.below HBN.out (Nat.le_refl _))
                      have HDW := hide (HDP.out.below HBN.out (Nat.le_refl _))
                      have htl := repText_len hiu hju HOKD.out hdl
                      obtain ⟨tb, tc, hte, hDA⟩ := data_of_own HYW.out (repText_pos _ _ _) (by omega)
                      injection hte with hte1 hte2 hte3
                      subst hte1
                      subst hte2
                      subst hte3
                      have HPR := hide (parseReport_new wr tb 0 _ yc i j ds hDA HRP.out hiu hju HOKD.out hdl)
                      have zR2 : R < wr.heap.size := Nat.lt_of_lt_of_le zR HBN.out.size
                      clear hDA htl hiu hju hdl r37 r38 hid
                      go_upto_region 72 with (go_at_call 73; refine HPR.out.mono ?_; rintro e Q1 ⟨bv, rfl, hbo, hbq⟩)
                      have hq38 : Q1.cell? ⟨R, 38, none⟩ = some (.slice da n dc) := (hbq.cell (p := ⟨R, 38, none⟩) zR2).trans hr38
                      have hdl2 : ds.length ≤ 140737488355328 := by rw [← HDN.out]; omega
                      have HSD := hide (sameDif_calls Q1 _ _ bv (.slice da n dc) ds (hbo.rows diffCs_size (by decide) hdl2) ((HDW.out.below hbq (Nat.le_refl _)).rows diffCs_size (by decide) hdl2))
                      have HEND : Hid (∀ W, Below Q1.heap.size Q1 W → Below U1.heap.size U1 W) := fun W hW => HJP.out W (HBN.out.trans ((hbq.trans (hW.mono hbq.size)).mono HBN.out.size))
                      clear hr37 hr38 HPR hbo hbq hdl2 HDW HYW
                      go_wp2_with (go_at_call 74; refine HSD.out.mono ?_; rintro e Q2 ⟨rfl, nq, rfl⟩; have HEND1 := hide (HEND.out _ (below_drewN (Below.refl _ _) nq)))
                      refine Handed.intro (N - (j + 1)) (by omega) ?_
                      exact hJ3.out _ (.int .i64 ((j + 1 : Nat) : Int)) _ _ ⟨j + 1, by omega, rfl, rfl, HEND1⟩ (by kernel_rfl)
                  · as_aux_lemma =>
                    intro c w1 cnt1 hct hit1 hlt1 hg1 hs1 hen
                    have HM8 := hide (HM7.out.iter hg1 HI7.out)
                    have HCN := hide (count_del (offB bs) HIT.out.apart hct)
                    have hcu := HU2.out c (HIT.out.sub c hct)
                    have HI1 := hide hit1
                    have zI := HI1.out.lt
                    simp only [keyV] at hen
                    clear hg1 hs1 hit1 hct HIT HM7
                    go_upto_region 46 with fail
                    have hbA : Below w1.heap.size w1 (w1.alloc (.cells #[.int .u32 c.sample, .int .u32 c.analyte] 106)) := (Below.refl _ _).alloc (Nat.le_refl _) _
                    have hkK : (w1.alloc (.cells #[.int .u32 c.sample, .int .u32 c.analyte] 106)).heap[w1.heap.size]? = some (.cells #[.int .u32 c.sample, .int .u32 c.analyte] 106 (0, 0)) := heap_alloc_at _ _
                    have HM9 := hide (HM8.out.below hbA)
                    have HI9 := hide (HI1.out.same (hbA.block _ HM8.out.m2.lt) (hbA.block _ zI))
                    clear hbA hen HM8 HI1 zI
                    generalize w1.alloc (.cells #[.int .u32 c.sample, .int .u32 c.analyte] 106) = X at *
                    obtain ⟨B, hB⟩ : ∃ B, B = w1.heap.size := ⟨_, rfl⟩
                    rw [← hB] at hkK ⊢
                    clear hB
                    have e0 := cells_all hkK 0
                    have e1 := cells_all hkK 1
                    simp only [List.getElem?_toArray, List.getElem?_cons_zero, List.getElem?_cons_succ] at e0 e1
                    have hlk := HM9.out.m1.look_ok hcu.1 hcu.2
                    simp only [keyV] at hlk
                    clear hcu hkK
                    have HEND : Hid (∀ y, MapIt (X.alloc (.cells (rowCs y) 109)) (Y.heap.size + 1) I7 m ts (mdel todo c.sample c.analyte) cnt1 ∧ MS Y (X.alloc (.cells (rowCs y) 109)) k m bs ts) := fun y => by
                      have hW : Below X.heap.size X (X.alloc (.cells (rowCs y) 109)) := (Below.refl _ _).alloc (Nat.le_refl _) _
                      exact ⟨HI9.out.same (hW.block _ HM9.out.m2.lt) (hW.block _ HI9.out.lt), HM9.out.below hW⟩
                    cases hml : mlook bs c.sample c.analyte with
                    | none =>
                      as_aux_lemma =>
                      have HN1 : Hid ((c7 + 1 : Nat) + ((mdel todo c.sample c.analyte).filter (offB bs)).length = (bs.filter (offA ts)).length + (ts.filter (offB bs)).length) := by
                        have h1 := HCT.out
                        have h2 := HCN.out
                        have h3 : offB bs c = true := by unfold offB; rw [hml]; rfl
                        rw [h3] at h2
                        simp at h2
                        show _ = _
                        omega
                      rw [hml] at hlk
                      simp only [Option.getD_none, Option.isSome_none] at hlk
                      have HEND1 := hide (HEND.out zeroRow)
                      clear hml HCN HCT
                      go_wp2
                      refine Handed.intro cnt1 hlt1 ?_
                      exact hJ7.out _ (.int .i64 ((c7 + 1 : Nat) : Int)) _ _ ⟨c7 + 1, _, rfl, HN1, HEND1.out.1, HEND1.out.2⟩ (by kernel_rfl)
                    | some y =>
                      as_aux_lemma =>
                      have HN1 : Hid (c7 + ((mdel todo c.sample c.analyte).filter (offB bs)).length = (bs.filter (offA ts)).length + (ts.filter (offB bs)).length) := by
                        have h1 := HCT.out
                        have h2 := HCN.out
                        have h3 : offB bs c = false := by unfold offB; rw [hml]; rfl
                        rw [h3] at h2
                        simp at h2
                        show _ = _
                        omega
                      rw [hml] at hlk
                      simp only [Option.getD_some, Option.isSome_some] at hlk
                      have HEND1 := hide (HEND.out y)
                      clear hml HCN HCT
                      go_wp2
                      refine Handed.intro cnt1 hlt1 ?_
                      exact hJ7.out _ (.int .i64 ((c7 : Nat) : Int)) _ _ ⟨c7, _, rfl, HN1, HEND1.out.1, HEND1.out.2⟩ (by kernel_rfl)
                · as_aux_lemma =>
                  intro c w1 cnt1 hct hit1 hlt1 hg1 hs1 hen
                  have HM8 := hide (HM7.out.iter hg1 HI6.out)
                  have HCN := hide (count_del (offA ts) HIT.out.apart hct)
                  have hcu := HU1.out c (HIT.out.sub c hct)
                  have HCU := hide hcu
                  have HI1 := hide hit1
                  have zI := HI1.out.lt
                  simp only [keyV] at hen
                  clear hg1 hs1 hit1 hct HIT HM7
                  go_upto_region 40 with fail
                  have hbA : Below w1.heap.size w1 ((w1.alloc (.cells #[.int .u32 c.sample, .int .u32 c.analyte] 106)).alloc (.cells (rowCs c) 109)) := ((Below.refl _ _).alloc (Nat.le_refl _) _).alloc (by simp) _
                  have hkK : ((w1.alloc (.cells #[.int .u32 c.sample, .int .u32 c.analyte] 106)).alloc (.cells (rowCs c) 109)).heap[w1.heap.size]? = some (.cells #[.int .u32 c.sample, .int .u32 c.analyte] 106 (0, 0)) := (Below.heap_alloc _ _ _ (by simp)).trans (heap_alloc_at _ _)
                  have hkW : ((w1.alloc (.cells #[.int .u32 c.sample, .int .u32 c.analyte] 106)).alloc (.cells (rowCs c) 109)).heap[w1.heap.size + 1]? = some (.cells (rowCs c) 109 (0, 0)) := by
                    have hz : (w1.alloc (.cells #[.int .u32 c.sample, .int .u32 c.analyte] 106)).heap.size = w1.heap.size + 1 := by simp
                    rw [← hz]
                    exact heap_alloc_at _ _
                  have HM9 := hide (HM8.out.below hbA)
                  have HI9 := hide (HI1.out.same (hbA.block _ HM8.out.m1.lt) (hbA.block _ zI))
                  clear hbA hen HM8 HI1 zI
                  generalize (w1.alloc (.cells #[.int .u32 c.sample, .int .u32 c.analyte] 106)).alloc (.cells (rowCs c) 109) = X at *
                  obtain ⟨B, hB⟩ : ∃ B, B = w1.heap.size := ⟨_, rfl⟩
                  rw [← hB] at hkK hkW ⊢
                  clear hB
                  have e0 := cells_all hkK 0
                  have e1 := cells_all hkK 1
                  simp only [List.getElem?_toArray, List.getElem?_cons_zero, List.getElem?_cons_succ] at e0 e1
                  have hrw : rng X (B + 1) 0 13 = some (rowCs c) := rng_whole hkW
                  have zW := blk_lt hkW
                  have hlk := HM9.out.m2.look_ok hcu.1 hcu.2
                  simp only [keyV] at hlk
                  clear hcu hkK hkW
                  cases hml : mlook ts c.sample c.analyte with
                  | none =>
                    as_aux_lemma =>
                    have HEND : Hid (∀ W, Below X.heap.size X W → ((c6 + 1 : Nat) + ((mdel todo c.sample c.analyte).filter (offA ts)).length = (bs.filter (offA ts)).length) ∧ MapIt W Y.heap.size I6 k bs (mdel todo c.sample c.analyte) cnt1 ∧ MS Y W k m bs ts) := fun W hW => by
                      have h1 := HCT.out
                      have h2 := HCN.out
                      have h3 : offA ts c = true := by unfold offA; rw [hml]
                      rw [h3] at h2
                      simp at h2
                      exact ⟨by omega, HI9.out.same (hW.block _ HM9.out.m1.lt) (hW.block _ HI9.out.lt), HM9.out.below hW⟩
                    rw [hml] at hlk
                    simp only [Option.getD_none, Option.isSome_none] at hlk
                    have HEND1 := hide (HEND.out _ ((Below.refl _ _).alloc (Nat.le_refl _) (.cells (rowCs zeroRow) 109)))
                    clear hml HCN HCT
                    go_wp2
                    refine Handed.intro cnt1 hlt1 ?_
                    exact hJ6.out _ (.int .i64 ((c6 + 1 : Nat) : Int)) _ _ ⟨c6 + 1, _, rfl, HEND1.out.1, HEND1.out.2.1, HEND1.out.2.2⟩ (by kernel_rfl)
                  | some y =>
                    as_aux_lemma =>
                    rw [hml] at hlk
                    simp only [Option.getD_some, Option.isSome_some] at hlk
                    cases heq : y.eqB c with
                    | true =>
                      have HEND1 : Hid ((c6 + ((mdel todo c.sample c.analyte).filter (offA ts)).length = (bs.filter (offA ts)).length) ∧ MapIt (X.alloc (.cells (rowCs y) 109)) Y.heap.size I6 k bs (mdel todo c.sample c.analyte) cnt1 ∧ MS Y (X.alloc (.cells (rowCs y) 109)) k m bs ts) := by
                        have h1 := HCT.out
                        have h2 := HCN.out
                        have h3 : offA ts c = false := by unfold offA; rw [hml]; simp [heq]
                        rw [h3] at h2
                        simp at h2
                        have hW : Below X.heap.size X (X.alloc (.cells (rowCs y) 109)) := (Below.refl _ _).alloc (Nat.le_refl _) _
                        exact ⟨by omega, HI9.out.same (hW.block _ HM9.out.m1.lt) (hW.block _ HI9.out.lt), HM9.out.below hW⟩
                      clear hml HCN HCT
                      go_wp2
                      refine Handed.intro cnt1 hlt1 ?_
                      exact hJ6.out _ (.int .i64 ((c6 : Nat) : Int)) _ _ ⟨c6, _, rfl, HEND1.out.1, HEND1.out.2.1, HEND1.out.2.2⟩ (by kernel_rfl)
                    | false =>
                      have HEND1 : Hid (((c6 + 1 : Nat) + ((mdel todo c.sample c.analyte).filter (offA ts)).length = (bs.filter (offA ts)).length) ∧ MapIt (X.alloc (.cells (rowCs y) 109)) Y.heap.size I6 k bs (mdel todo c.sample c.analyte) cnt1 ∧ MS Y (X.alloc (.cells (rowCs y) 109)) k m bs ts) := by
                        have h1 := HCT.out
                        have h2 := HCN.out
                        have h3 : offA ts c = true := by unfold offA; rw [hml]; simp [heq]
                        rw [h3] at h2
                        simp at h2
                        have hW : Below X.heap.size X (X.alloc (.cells (rowCs y) 109)) := (Below.refl _ _).alloc (Nat.le_refl _) _
                        exact ⟨by omega, HI9.out.same (hW.block _ HM9.out.m1.lt) (hW.block _ HI9.out.lt), HM9.out.below hW⟩
                      clear hml HCN HCT
                      go_wp2
                      refine Handed.intro cnt1 hlt1 ?_
                      exact hJ6.out _ (.int .i64 ((c6 + 1 : Nat) : Int)) _ _ ⟨c6 + 1, _, rfl, HEND1.out.1, HEND1.out.2.1, HEND1.out.2.2⟩ (by kernel_rfl)
        · as_aux_lemma =>
          have HEND : Hid (Below V2.heap.size V2 wr) := HBE.out.trans (HBJ.out.mono HBE.out.size)
          go_wp2
          refine Handed.intro (N - (i + 1)) (by omega) ?_
          exact hJ2.out _ (.int .i64 ((i + 1 : Nat) : Int)) _ _ ⟨i + 1, by omega, rfl, rfl, HEND⟩ (by kernel_rfl)
      · as_aux_lemma =>
        have HEND : Hid (Below w.heap.size w wr) := HB2.out.trans (HBI.out.mono HB2.out.size)
        go_wp2
        go_ret
        exact ⟨by first | rfl | simp, HEND.out⟩
  · have hd : decide (total s ≤ 65536) = false := by simpa using hsm
    rw [hd] at HSm
    clear hd hsm ha hc hn hgl HNB
    go_enter Tryz.func14, Tryz.ntmps14
    go_wp2_with (go_at_call 18; refine HSm.out.mono ?_; rintro e w1 ⟨rfl, rfl⟩)
    go_ret
    exact ⟨rfl, Below.refl _ _⟩

end Go.Proofs.Qxb6500666aGreatDoor
