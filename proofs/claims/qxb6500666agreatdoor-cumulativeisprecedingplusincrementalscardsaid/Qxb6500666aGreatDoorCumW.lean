/- CumulativeIsPrecedingPlusIncrementals, walked. (Written by tools/mk_cumw.py.) -/
import Derived.Test.Qxb6500666aGreatDoorCumM
import Derived.Test.Qxb6500666aGreatDoorCumN
import Derived.Test.Qxb6500666aGreatDoorCumBits
import Derived.Test.Qxb6500666aGreatDoorNote
import Derived.Test.Qxb6500666aGreatDoorRcnW
import Derived.BigQuiet
import Derived.Deep.CutBlock
namespace Go.Proofs.Qxb6500666aGreatDoor
open Go.RowKit
attribute [local go_sem] ext_const Ext.cell Ext.frozen Ext.rng Ext.whole
attribute [local go_sem ↓] exec_ldOpz exec_stOpz exec_ldFile exec_stFile exec_ldRow exec_stRow exec_ldChange exec_stChange exec_neqRow exec_eqlRow exec_ldKey exec_bs7 exec_bsTx
attribute [local go_sem] run_ldKey run_bs7 run_bsTx run_cvNo run_ldOpz run_stOpz opA_size run_ldFile run_stFile fileCs_size fileCs_ones run_ldRow run_stRow rowCs_size rowCs_ones rowCs_all run_ldChange run_stChange changeCs_size changeCs_ones changeCs_row changeCs_all run_neqRow run_eqlRow zfCs_size whole_alloc_lt whole_alloc_at whole_drew setRow_alloc_at setRow_alloc_lt setRow_drew rng_alloc_lt rng_alloc_at rng_drew rng_drewN zf_ones zf_ex change_ones

set_option maxRecDepth 100000 in
set_option maxHeartbeats 8000000 in
theorem cum_walk (w : World) (v : Value) (s : List Op) (rn kn ft : Nat → ByteArray) (okg : Nat → Prop) (h : Script w (· < w.heap.size) v s) (hgl : Gl w w.heap.size rn kn ft okg) :
    Calls Tryz.prog 12 #[v] w fun e w' => e = .returned (.bool true) ∧ Below w.heap.size w w' := by
  have HSm := hide (small_calls w _ v s h)
  have HGL := hide (fun W (hb : Below w.heap.size w W) => hgl.same hb (Nat.le_refl _))
  have HNB := hide (newBench_calls w)
  obtain ⟨a, cap, b, off, rfl, hl, hm, hr, ha, hc⟩ := h
  obtain ⟨n, hn⟩ : ∃ n, n = s.length := ⟨_, rfl⟩
  have Hn : Hid (n = s.length) := hn
  rw [← hn] at hl hr ha HSm ⊢
  have hi := run_indexAt_arr (P := Tryz.prog) (cap := cap) Tryz.underlying22 Tryz.size61 (fun h => (ha h).1)
  have HB : Hid (0 < n → b < w.heap.size) := fun h => (ha h).2
  by_cases hsm : total s ≤ 65536
  · have HC : Hid (∀ k (h : k < s.length), ∃ lv dv ca cn cc, rng w b (off + k * 27) 27 = some (opA s[k] lv dv ca cn cc) ∧ OpIn w (· < w.heap.size) s[k] lv dv ca cn cc ∧ ones (opA s[k] lv dv ca cn cc) 27 = true) := fun k h => by
      obtain ⟨cs, hlen, hE, hcell⟩ := hc k h
      have ht := total_le h hsm
      obtain ⟨lv, dv, ca, cn, cc, e, hO, h1⟩ := opIn_of hE ht.2.1 ht.2.2
      refine ⟨lv, dv, ca, cn, cc, ?_, hO, h1⟩
      rw [← e]
      have hl27 : cs.length = 27 := by have := congrArg Array.size e; simpa [opA] using this
      have := rng_of_cells (w := w) (b := b) (off := off + k * 27) (by omega) hcell
      rw [hl27] at this
      exact this
    have HRO : Hid (∀ k (hk : k < s.length), s[k].req.Ok) := fun k hk => by
      obtain ⟨_, _, _, _, _, _, h1, _⟩ := HC.out k hk
      exact h1.req
    have HIV : Hid (∀ q, q ≤ s.length → Inv q (stAt s q)) := inv_all HRO.out
    have hn2 : n ≤ 65536 := by have := hsm; unfold total at this; omega
    have HCI : Hid (∃ fs rows vf lf, CI (stAt s n) fs rows vf lf ∧ fs.length ≤ n) := ci_all HRO.out (by omega) n (by omega)
    have hd : decide (total s ≤ 65536) = true := by simpa using hsm
    rw [hd] at HSm
    clear hd hsm ha hc hn hgl HRO
    go_enter Tryz.func12, Tryz.ntmps12
    go_upto_region 3 with (go_at_call 18; refine HSm.out.mono ?_; rintro e w1 ⟨rfl, rfl⟩)
    go_upto_region 4 with (go_at_call 19; refine HNB.out.mono ?_; rintro e W0 ⟨rfl, hbn, hb0⟩)
    have HQ0 : Hid (BX w W0 (fun _ => False) (stAt s 0)) := BX.start hbn hb0
    clear hbn hb0 HSm HNB
    go_upto_region 5 with fail
    refine wp_loop_mask cuL1 (fun g x wr => ∃ q : Nat, q ≤ n ∧ g = n - q ∧ x = .int .i64 q ∧ Hid (BX w wr (fun _ => False) (stAt s q))) n (.int .i64 0) ⟨0, by omega, by omega, rfl, HQ0⟩ (by kernel_rfl) ?_
    clear HQ0
    intro gk1 x1 u1 wr hrel J1 K1 hJ1 hK1
    dsimp only [cuL1, maskL_keep, maskL_any, maskL_is, maskL_nil]
    obtain ⟨q, hq, rfl, rfl, HQ⟩ := hrel
    by_cases hlt : q < n
    · as_aux_lemma =>
      have hqs : q < s.length := by rw [← Hn.out]; exact hlt
      have hbb := HB.out (by omega)
      obtain ⟨lv, dv, ca, cn, cc, hcl, hO, hones⟩ := HC.out q hqs
      have HIQ := hide (HIV.out q (by omega))
      have HSQ := hide (stAt_succ hqs)
      generalize s[q] = p at *
      have hcells : rng wr b (off + q * 27) 27 = some (opA p lv dv ca cn cc) := by rw [rng_of_block (HQ.out.blw.block _ hbb)]; exact hcl
      have hbw : b < wr.heap.size := by have := HQ.out.blw.size; omega
      have HOI := hide hO
      clear hO hcl HCI
      go_upto_region 7 with fail
      have HQ1 := hide (HQ.out.below ((Below.refl _ _).alloc (Nat.le_refl _) (.cells (opA p lv dv ca cn cc) 61)))
      have hk1 : (wr.alloc (.cells (opA p lv dv ca cn cc) 61)).heap[wr.heap.size]? = some (.cells (opA p lv dv ca cn cc) 61 (0, 0)) := heap_alloc_at _ _
      generalize wr.alloc (.cells (opA p lv dv ca cn cc) 61) = U1 at *
      generalize wr.heap.size = D at *
      have hr1 : rng U1 D 0 27 = some (opA p lv dv ca cn cc) := rng_whole hk1
      have HST := hide (HQ1.out.step (HIQ.out.po (by omega)) (HOI.out.below HQ1.out.blw) (HGL.out _ HQ1.out.blw) ⟨HIQ.out.off.1, by have := HIQ.out.off.2; omega⟩)
      clear hk1 hcells hbw HQ
      go_wp2_with (go_at_call 21; refine HST.out.mono ?_; rintro e U2 ⟨ans, rfl, hq2, hf2, ha2⟩; have HQ2 : Hid (BX w U2 (fun _ => False) (stAt s (q + 1))) := (by rw [HSQ.out]; exact hq2); clear hq2 hf2 ha2)
      refine Handed.intro (n - (q + 1)) (by omega) ?_
      exact hJ1.out _ (.int .i64 ((q + 1 : Nat) : Int)) _ _ ⟨q + 1, by omega, rfl, rfl, HQ2⟩ (by kernel_rfl)
    · as_aux_lemma =>
      obtain rfl : q = n := by omega
      obtain ⟨fs, rows, vf, lf, hci, hfl⟩ := HCI.out
      have HFI := hide hci.fi
      have HCL := hide hci.cl
      have HPO := hide ((HIV.out q (by have := Hn.out; omega)).po (by omega))
      have HGW := hide (fun W (hb : Below w.heap.size w W) => HGL.out W hb)
      have hfl2 : fs.length ≤ 65536 := by omega
      clear hci HCI HIV HGL hl hr
      generalize stAt s q = t at *
      have HCH := hide (chain_calls HQ.out HPO.out HGW.out HFI.out hfl2 HCL.out)
      go_upto_region 12 with (go_at_call 52; refine HCH.out.mono ?_; rintro e V1 ⟨fv, tv, zf, zt, rfl, hchi, hzf, hzt⟩; have HCHI := hide hchi; have HZF := hide hzf; have HZT := hide hzt; clear hchi hzf hzt)
      have HB1 : Hid (Below w.heap.size w V1) := HQ.out.blw.trans (HCHI.out.bel.mono HQ.out.blw.size)
      clear HCH HQ HPO HGW
      have HTX : Hid (TxAt V1 (· < V1.heap.size) tv zt fs) := HCHI.out.texts HZT.out (by omega)
      have HFK := hide (HFI.out.fk (by omega) HCL.out)
      obtain ⟨fa, fc, hfv⟩ := HCHI.out.a.form
      subst hfv
      obtain ⟨ta, tc, htv⟩ := HCHI.out.b.form
      subst htv
      have hzl : zf.length = fs.length := by have := congrArg List.length HZF.out; simpa using this
      have htl : zt.length = fs.length := by have := congrArg List.length HZT.out; simpa using this
      obtain ⟨N, hN⟩ : ∃ N, N = fs.length := ⟨_, rfl⟩
      rw [htl, ← hN] at HTX
      rw [← hN] at hfl2
      obtain ⟨ra, rc, rb, ro, re, rl1, rl2, rl3, rha, rhc⟩ := RArr.lt (HCHI.out.a.rows zfCs_size (by decide) (by omega))
      injection re with re1 re2 re3
      subst re1
      subst re3
      rw [hzl, ← hN] at rha
      have hif := run_indexAt_arr (P := Tryz.prog) (n := N) (cap := fc) Tryz.underlying43 Tryz.size59 (fun h => (rha h).1)
      have HRB : Hid (0 < N → rb < V1.heap.size) := fun h => (rha h).2.2
      have HRC := hide rhc
      have HCF : Hid (∀ z ∈ zf, ChangesAt V1 (· < V1.heap.size) (sv z.2) z.1.changes) := fun z hz => RArr.mono (HCHI.out.cf z hz) (Same.refl _ _) (fun _ q => q.1.2)
      rw [hzl, htl, ← hN]
      have HN := hide hN
      have HZL : Hid (zf.length = N) := hzl.trans hN.symm
      clear re2 rl1 rl2 rl3 rha rhc hzl htl hN hfl HCHI
      have hmm := @run_makeMap Tryz.prog
      go_upto_region 15 with fail
      clear hmm
      have HM0 : Hid (CMap V1 (V1.alloc (.map #[] 0)) 0 []) := CMap.start V1
      generalize V1.alloc (.map #[] 0) = V2 at *
      refine wp_loop_mask cuL2 (fun g x wr => ∃ (i k : Nat) (m : List Row), i ≤ N ∧ g = N - i ∧ x = (.int .u32 (cumOf (fs.take i)), .int .i64 i) ∧ k ≤ 20 * i ∧ Hid (CMap V1 wr k m) ∧ Hid (Agree m (relAt fs i))) N (.int .u32 0, .int .i64 0) ⟨0, 0, [], by omega, by omega, rfl, by omega, HM0, agree_nil⟩ (by kernel_rfl) ?_
      clear HM0
      intro gk2 x2 u2 wr hrel J2 K2 hJ2 hK2
      dsimp only [cuL2, maskL_keep, maskL_any, maskL_is, maskL_nil]
      obtain ⟨i, k, m, hiN, rfl, rfl, hk20, HM, HAG⟩ := hrel
      dsimp only
      by_cases hilt : i < N
      · as_aux_lemma =>
        have hif1 : i < fs.length := by rw [← HN.out]; exact hilt
        have hiz : i < zf.length := by rw [HZL.out]; exact hilt
        have hrbw := HRB.out (by omega)
        have hfc : rng wr rb (ro + i * 5) 5 = some (zfCs zf[i]) := by rw [rng_of_block (HM.out.bel.block _ hrbw)]; exact HRC.out i hiz
        have hrbl : rb < wr.heap.size := by have := HM.out.bel.size; omega
        obtain ⟨ze, hze⟩ : ∃ ze, ze = zf[i] := ⟨_, rfl⟩
        have hzef : ze.1 = fs[i] := by
          have := congrArg (fun l => l[i]?) HZF.out
          simp only [List.getElem?_map, List.getElem?_eq_getElem hiz, List.getElem?_eq_getElem hif1] at this
          rw [hze]
          simpa using this
        have HCHG : Hid (ChangesAt V1 (· < V1.heap.size) (sv ze.2) ze.1.changes) := HCF.out ze (by rw [hze]; exact List.getElem_mem hiz)
        rw [← hze] at hfc
        obtain ⟨f, ⟨ca, cn, cc⟩⟩ := ze
        dsimp only at hzef
        subst hzef
        have HQK := hide (HFK.out fs[i] (List.getElem_mem hif1))
        have hbase := (HFI.out.seq i hif1).2
        have HC67 := hide (fun h => HFI.out.cumStep hif1 h HAG.out)
        have HC73 := hide (fun h => HFI.out.incStep hif1 h HAG.out)
        have hkind := HFI.out.kind (List.getElem_mem hif1)
        generalize fs[i] = f at *
        have hcn : cn = f.changes.length := by
          obtain ⟨_, _, _, _, e, _⟩ := HCHG.out
          injection e
        have HCN := hide hcn
        clear hze hiz hif1 hcn
        go_upto_region 17 with fail
        have hke : (wr.alloc (.cells (zfCs (f, (ca, cn, cc))) 59)).heap[wr.heap.size]? = some (.cells (zfCs (f, (ca, cn, cc))) 59 (0, 0)) := heap_alloc_at _ _
        have HM1 := hide (HM.out.below ((Below.refl _ _).alloc (Nat.le_refl _) (.cells (zfCs (f, (ca, cn, cc))) 59)))
        generalize wr.alloc (.cells (zfCs (f, (ca, cn, cc))) 59) = U1 at *
        generalize wr.heap.size = E at *
        obtain ⟨q0, q1, q3, q4, hEl⟩ : U1.cell? ⟨E, 0, none⟩ = some (.int .u8 f.kind) ∧ U1.cell? ⟨E, 1, none⟩ = some (.int .u32 f.seq) ∧ U1.cell? ⟨E, 3, none⟩ = some (.int .u32 f.base) ∧ U1.cell? ⟨E, 4, none⟩ = some (.slice ca cn cc) ∧ E < U1.heap.size := ⟨cells_all hke 0, cells_all hke 1, cells_all hke 3, cells_all hke 4, blk_lt hke⟩
        have HKE := hide hke
        have dbs : (f.base != cumOf (fs.take i)) = false := by simp [hbase]
        obtain ⟨xa, xc, xb, xo, xe, xl1, xl2, xl3, xha, xhc⟩ := RArr.lt HCHG.out
        injection xe with xe1 xe2 xe3
        subst xe1
        subst xe3
        rw [← xe2] at xha
        have hiC := run_indexAt_arr (P := Tryz.prog) (n := cn) (cap := cc) Tryz.underlying57 Tryz.size111 (fun h => (xha h).1)
        have HXB : Hid (0 < cn → xb < V1.heap.size) := fun h => (xha h).2.2
        have HXC := hide xhc
        have hcn6 : cn ≤ 65536 := by rw [HCN.out]; exact HQK.out.len
        clear hke hfc hrbl hrbw HM xe2 xl1 xl2 xl3 xha xhc hbase hif
        rcases hkind with hk67 | hk73
        · as_aux_lemma =>
          have dk : (f.kind == 67) = true := by simpa using hk67
          obtain ⟨hlen, hlook, hag, hcum⟩ := HC67.out hk67
          have hlm : cn = m.length := by rw [HCN.out]; exact hlen
          have HLK := hide hlook
          have HAG2 := hide hag
          have HCUM := hide hcum
          have hml := fun ty => HM1.out.mp.len ty
          rw [← hlm] at hml
          clear hk67 HC67 HC73 hlen hlook hag hcum hlm
          go_upto_region 23 with fail
          refine wp_loop_mask cuL3 (fun g x wr => ∃ j : Nat, j ≤ cn ∧ g = cn - j ∧ x = .int .i64 j ∧ Hid (Below U1.heap.size U1 wr)) cn (.int .i64 0) ⟨0, by omega, by omega, rfl, Below.refl _ _⟩ (by kernel_rfl) ?_
          intro gk3 x3 u3 wr hrel J3 K3 hJ3 hK3
          dsimp only [cuL3, maskL_keep, maskL_any, maskL_is, maskL_nil]
          obtain ⟨j, hjn, rfl, rfl, HBJ⟩ := hrel
          have HMJ := hide (HM1.out.below HBJ.out)
          by_cases hjlt : j < cn
          · as_aux_lemma =>
            have hjc : j < f.changes.length := by rw [← HCN.out]; exact hjlt
            have hxb := HXB.out (by omega)
            have hcc : rng wr xb (xo + j * 14) 14 = some (changeCs f.changes[j]) := by rw [rng_of_block (HMJ.out.bel.block _ hxb)]; exact HXC.out j hjc
            have hxw : xb < wr.heap.size := by have := HMJ.out.bel.size; omega
            have HLJ := hide (HLK.out _ (List.getElem_mem hjc))
            have hco := (HQK.out.c _ (List.getElem_mem hjc)).row
            generalize f.changes[j] = c at *
            clear hjc hxb
            go_upto_region 25 with fail
            have hkc : (wr.alloc (.cells (changeCs c) 111)).heap[wr.heap.size]? = some (.cells (changeCs c) 111 (0, 0)) := heap_alloc_at _ _
            have HMC := hide (HMJ.out.below ((Below.refl _ _).alloc (Nat.le_refl _) (.cells (changeCs c) 111)))
            have HBC : Hid (Below U1.heap.size U1 (wr.alloc (.cells (changeCs c) 111))) := HBJ.out.alloc HBJ.out.size _
            generalize wr.alloc (.cells (changeCs c) 111) = U2 at *
            generalize wr.heap.size = C at *
            have c1 : U2.cell? ⟨C, 1, none⟩ = some (.int .u32 c.row.sample) := cells_all hkc 1
            have c2 : U2.cell? ⟨C, 2, none⟩ = some (.int .u32 c.row.analyte) := cells_all hkc 2
            have hcl := blk_lt hkc
            have hcr : rng U2 C 1 13 = some (rowCs c.row) := by
              have h14 : rng U2 C 0 14 = some (changeCs c) := rng_whole hkc
              have := rng_sub (o := 1) (m := 13) h14 (by decide)
              rw [changeCs_row] at this
              simpa using this
            have hlk := HMC.out.mp.look_ok hco.sample hco.analyte
            rw [HLJ.out] at hlk
            simp only [keyV, Option.getD_some, Option.isSome_some] at hlk
            have heq := eqB_refl c.row
            have HEND : Hid (Below U1.heap.size U1 (U2.alloc (.cells (rowCs c.row) 109))) := HBC.out.alloc HBC.out.size _
            clear hkc hcc hxw HMC HBC HBJ HMJ HLJ
            go_wp2
            refine Handed.intro (cn - (j + 1)) (by omega) ?_
            exact hJ3.out _ (.int .i64 ((j + 1 : Nat) : Int)) _ _ ⟨j + 1, by omega, rfl, rfl, HEND⟩ (by kernel_rfl)
          · as_aux_lemma =>
            have q1w : wr.cell? ⟨E, 1, none⟩ = some (.int .u32 f.seq) := by rw [World.cell?_of_block (w := U1) (HBJ.out.block _ hEl)]; exact q1
            go_wp2
            refine Handed.intro (N - (i + 1)) (by omega) ?_
            exact hJ2.out _ (.int .u32 f.seq, .int .i64 ((i + 1 : Nat) : Int)) _ _ ⟨i + 1, k, m, by omega, rfl, by rw [HCUM.out], by omega, HMJ, HAG2⟩ (by kernel_rfl)
        · as_aux_lemma =>
          have dk : (f.kind == 67) = false := by simp; omega
          obtain ⟨m', hgo, hag, hcum⟩ := HC73.out hk73
          have HGO := hide hgo
          have HAG2 := hide hag
          have HCUM := hide hcum
          have h20 : cn ≤ 20 := by
            rw [HCN.out]
            have := HQK.out.ok.2.2.1
            omega
          clear hk73 HC67 HC73 hgo hag hcum
          go_upto_region 31 with fail
          refine wp_loop_mask cuL4 (fun g x wr => ∃ (j k2 : Nat) (mj : List Row), j ≤ cn ∧ g = cn - j ∧ x = .int .i64 j ∧ k2 ≤ 20 * i + j ∧ Hid (CMap V1 wr k2 mj) ∧ Hid (plainGo m (f.changes.take j) = some mj)) cn (.int .i64 0) ⟨0, k, m, by omega, by omega, rfl, by omega, HM1, rfl⟩ (by kernel_rfl) ?_
          intro gk4 x4 u4 wr hrel J4 K4 hJ4 hK4
          dsimp only [cuL4, maskL_keep, maskL_any, maskL_is, maskL_nil]
          obtain ⟨j, k2, mj, hjn, rfl, rfl, hk2, HMJ, HGJ⟩ := hrel
          by_cases hjlt : j < cn
          · as_aux_lemma =>
            have hjc : j < f.changes.length := by rw [← HCN.out]; exact hjlt
            have hxb := HXB.out (by omega)
            have hcc : rng wr xb (xo + j * 14) 14 = some (changeCs f.changes[j]) := by rw [rng_of_block (HMJ.out.bel.block _ hxb)]; exact HXC.out j hjc
            have hxw : xb < wr.heap.size := by have := HMJ.out.bel.size; omega
            obtain ⟨mj', mk, hs1, hs2, hs3⟩ := plainGo_at HGO.out hjc
            rw [HGJ.out] at hs1
            injection hs1 with hs1
            subst hs1
            have HST := hide (plainStep_cases hs2)
            have HG3 := hide hs3
            have hco := (HQK.out.c _ (List.getElem_mem hjc)).row
            generalize f.changes[j] = c at *
            clear hjc hxb hs2 hs3 HGJ HM1
            go_upto_region 33 with fail
            have hkc : (wr.alloc (.cells (changeCs c) 111)).heap[wr.heap.size]? = some (.cells (changeCs c) 111 (0, 0)) := heap_alloc_at _ _
            have HMC := hide (HMJ.out.below ((Below.refl _ _).alloc (Nat.le_refl _) (.cells (changeCs c) 111)))
            generalize wr.alloc (.cells (changeCs c) 111) = U2 at *
            generalize wr.heap.size = C at *
            have c1 : U2.cell? ⟨C, 1, none⟩ = some (.int .u32 c.row.sample) := cells_all hkc 1
            have c2 : U2.cell? ⟨C, 2, none⟩ = some (.int .u32 c.row.analyte) := cells_all hkc 2
            have hcl := blk_lt hkc
            clear hcc hxw HMJ
            go_upto_region 34 with fail
            have hbk : Below U2.heap.size U2 (U2.alloc (.cells #[.int .u32 c.row.sample, .int .u32 c.row.analyte] 106)) := (Below.refl _ _).alloc (Nat.le_refl _) _
            have hkk : (U2.alloc (.cells #[.int .u32 c.row.sample, .int .u32 c.row.analyte] 106)).heap[U2.heap.size]? = some (.cells #[.int .u32 c.row.sample, .int .u32 c.row.analyte] 106 (0, 0)) := heap_alloc_at _ _
            have hkc3 := (hbk.block _ hcl).trans hkc
            have HM3 := hide (HMC.out.below hbk)
            generalize U2.alloc (.cells #[.int .u32 c.row.sample, .int .u32 c.row.analyte] 106) = U3 at *
            generalize U2.heap.size = K at *
            clear hbk hkc c1 c2 hcl HMC
            have c0 : U3.cell? ⟨C, 0, none⟩ = some (.int .u8 c.action) := cells_all hkc3 0
            have hcl := blk_lt hkc3
            have hkl := blk_lt hkk
            have hkr : rng U3 K 0 2 = some #[.int .u32 c.row.sample, .int .u32 c.row.analyte] := rng_whole hkk
            have hcr : rng U3 C 1 13 = some (rowCs c.row) := by
              have h14 : rng U3 C 0 14 = some (changeCs c) := rng_whole hkc3
              have := rng_sub (o := 1) (m := 13) h14 (by decide)
              rw [changeCs_row] at this
              simpa using this
            have hlk := HM3.out.mp.look_ok hco.sample hco.analyte
            simp only [keyV] at hlk
            have HB4 : Hid (∀ r, CMap V1 (U3.alloc (.cells (rowCs r) 109)) k2 mj) := fun r => HM3.out.below ((Below.refl _ _).alloc (Nat.le_refl _) _)
            clear hkc3
            rcases HST.out with ⟨ha, hlo, hmk⟩ | ⟨r, ha, hlo, hne, hmk⟩ | ⟨ha, hlo, hmk⟩
            · as_aux_lemma =>
              rw [hlo] at hlk
              simp only [Option.getD_none, Option.isSome_none] at hlk
              have d78 : (c.action == 78) = true := by simpa using ha
              obtain ⟨X, hup, hmap, hgr⟩ := (HB4.out zeroRow).mp.put (show k2 < maxLen by unfold maxLen; omega) c.row hco.sample hco.analyte
              have HEND : Hid (CMap V1 X (k2 + 1) mk) := by rw [hmk]; exact (HB4.out zeroRow).turn hgr hmap
              simp only [keyV] at hup
              clear ha hlo hmk hmap hgr HST HB4
              go_wp2
              refine Handed.intro (cn - (j + 1)) (by omega) ?_
              exact hJ4.out _ (.int .i64 ((j + 1 : Nat) : Int)) _ _ ⟨j + 1, k2 + 1, mk, by omega, rfl, rfl, by omega, HEND, HG3⟩ (by kernel_rfl)
            · as_aux_lemma =>
              rw [hlo] at hlk
              simp only [Option.getD_some, Option.isSome_some] at hlk
              have d78 : (c.action == 78) = false := by simp; omega
              have d67 : (c.action == 67) = true := by simpa using ha
              obtain ⟨X, hup, hmap, hgr⟩ := (HB4.out r).mp.put (show k2 < maxLen by unfold maxLen; omega) c.row hco.sample hco.analyte
              have HEND : Hid (CMap V1 X (k2 + 1) mk) := by rw [hmk]; exact (HB4.out r).turn hgr hmap
              simp only [keyV] at hup
              clear ha hlo hmk hmap hgr HST HB4
              go_wp2
              refine Handed.intro (cn - (j + 1)) (by omega) ?_
              exact hJ4.out _ (.int .i64 ((j + 1 : Nat) : Int)) _ _ ⟨j + 1, k2 + 1, mk, by omega, rfl, rfl, by omega, HEND, HG3⟩ (by kernel_rfl)
            · as_aux_lemma =>
              rw [hlo] at hlk
              simp only [Option.getD_some, Option.isSome_some] at hlk
              have d78 : (c.action == 78) = false := by simp; omega
              have d67 : (c.action == 67) = false := by simp; omega
              have d87 : (c.action == 87) = true := by simpa using ha
              have heq := eqB_refl c.row
              have HDM : Hid (mdel mj c.row.sample c.row.analyte = mk) := hmk.symm
              clear ha hlo hmk HST
              go_wp2_with (at_delete; refine wpList_dropM rfl _ _ rfl V1.heap.size k2 mj rfl (HB4.out c.row).mp c.row.sample c.row.analyte hco.sample hco.analyte rfl ?_; intro X hmap hgr; have HEND : Hid (CMap V1 X k2 mk) := (by rw [← HDM.out]; exact (HB4.out c.row).turn hgr hmap); clear hmap hgr)
              refine Handed.intro (cn - (j + 1)) (by omega) ?_
              exact hJ4.out _ (.int .i64 ((j + 1 : Nat) : Int)) _ _ ⟨j + 1, k2, mk, by omega, rfl, rfl, by omega, HEND, HG3⟩ (by kernel_rfl)
          · as_aux_lemma =>
            obtain rfl : j = cn := by omega
            have HMM : Hid (m' = mj) := by
              have h1 := HGJ.out
              rw [HCN.out, List.take_length, HGO.out] at h1
              injection h1
            rw [HMM.out] at HAG2
            have HCU2 : Hid (cumOf (fs.take i) = cumOf (fs.take (i + 1))) := HCUM.out.symm
            go_wp2
            refine Handed.intro (N - (i + 1)) (by omega) ?_
            exact hJ2.out _ (.int .u32 (cumOf (fs.take i)), .int .i64 ((i + 1 : Nat) : Int)) _ _ ⟨i + 1, k2, mj, by omega, rfl, by rw [HCU2.out], by omega, HMJ, HAG2⟩ (by kernel_rfl)
      · as_aux_lemma =>
        have hiN2 : N = i := by omega
        subst hiN2
        have HAR : Hid (Agree m rows) := by
          have h1 := HAG.out
          rw [HN.out, HFI.out.relAt_all] at h1
          exact h1
        have HTXW : Hid (∀ W, Below V1.heap.size V1 W → TxAt W (· < V1.heap.size) (.slice ta N tc) zt fs) := fun W hb => HTX.out.mono (fun g hg => hb.block g hg) (fun _ h => h)
        obtain ⟨M, hM⟩ : ∃ M, M = rows.length := ⟨_, rfl⟩
        have HMM := hide hM
        have hM2 : M ≤ 2000000 := by
          have h1 := HFI.out.rowsLen
          rw [← hM] at h1
          have h2 := HN.out
          omega
        have HVC : Hid (Calls Tryz.prog 53 #[.slice ta N tc] wr fun e w' => ∃ a c, e = .returned (.tuple #[.slice a M c, .int .i64 0, .nilIface]) ∧ OwnR w' wr.heap.size 109 13 rowCs (.slice a M c) rows ∧ Below wr.heap.size wr w') := (verify_calls wr _ zt fs _ (HTXW.out wr HM.out.bel) HFK.out (by have := HN.out; omega)).mono fun e w' h => by
          have h0 := HFI.out.all (by have := HN.out; omega)
          cases h with
          | good a c L ht he ho hb =>
            rw [h0] at ht
            injection ht with _ ht
            rw [← ht, HFI.out.ledRows, ← hM] at he
            rw [← ht, HFI.out.ledRows, ← hM] at ho
            exact ⟨a, c, he, ho, hb⟩
          | bad k hk ht he hb =>
            exfalso
            rw [h0] at ht
            have : fs.length = k := ht
            omega
        clear hM HRB HRC HCF HZL HZF hif HCL HAG HTX
        go_upto_region 51 with (go_at_call 53; refine HVC.out.mono ?_; rintro e V3 ⟨na, nc, rfl, hown, hb3⟩)
        have HM3 := hide (HM.out.below hb3)
        have HOW := hide (ownR_base hown HM.out.bel.size)
        obtain ⟨ya, yc, yb, yo, ye, yl1, yl2, yl3, yha, yhc⟩ := RArr.lt (hown.rows rowCs_size (by decide) (by rw [← HMM.out]; omega))
        injection ye with ye1 ye2 ye3
        subst ye1
        subst ye3
        rw [← HMM.out] at yha
        have hiR := run_indexAt_arr (P := Tryz.prog) (n := M) (cap := nc) Tryz.underlying150 Tryz.size109 (fun h => (yha h).1)
        have HYB : Hid (0 < M → yb < V3.heap.size) := fun h => (yha h).2.2
        have HYC := hide yhc
        have hml := fun ty => HM3.out.mp.len ty
        rw [HAR.out.len, ← HMM.out] at hml
        clear hown hb3 ye2 yl1 yl2 yl3 yha yhc HVC HM
        go_upto_region 54 with fail
        clear hml
        refine wp_loop_mask cuL5 (fun g x wr => ∃ j : Nat, j ≤ M ∧ g = M - j ∧ x = .int .i64 j ∧ Hid (Below V3.heap.size V3 wr)) M (.int .i64 0) ⟨0, by omega, by omega, rfl, Below.refl _ _⟩ (by kernel_rfl) ?_
        intro gk5 x5 u5 wr hrel J5 K5 hJ5 hK5
        dsimp only [cuL5, maskL_keep, maskL_any, maskL_is, maskL_nil]
        obtain ⟨j, hjM, rfl, rfl, HBJ⟩ := hrel
        have HM4 := hide (HM3.out.below HBJ.out)
        by_cases hjlt : j < M
        · as_aux_lemma =>
          have hjr : j < rows.length := by rw [← HMM.out]; exact hjlt
          have hyb := HYB.out (by omega)
          have hrr : rng wr yb (yo + j * 13) 13 = some (rowCs rows[j]) := by rw [rng_of_block (HBJ.out.block _ hyb)]; exact HYC.out j hjr
          have hyw : yb < wr.heap.size := by have := HBJ.out.size; omega
          have HLJ : Hid (mlook m rows[j].sample rows[j].analyte = some rows[j]) := by
            show _ = _
            rw [HAR.out.look]
            exact mlook_self HFI.out.rise (List.getElem_mem hjr)
          have hco := HFI.out.rok _ (List.getElem_mem hjr)
          generalize rows[j] = r at *
          clear hjr hyb
          go_upto_region 56 with fail
          have hkr : (wr.alloc (.cells (rowCs r) 109)).heap[wr.heap.size]? = some (.cells (rowCs r) 109 (0, 0)) := heap_alloc_at _ _
          have HMC := hide (HM4.out.below ((Below.refl _ _).alloc (Nat.le_refl _) (.cells (rowCs r) 109)))
          have HBC : Hid (Below V3.heap.size V3 (wr.alloc (.cells (rowCs r) 109))) := HBJ.out.alloc HBJ.out.size _
          generalize wr.alloc (.cells (rowCs r) 109) = U2 at *
          generalize wr.heap.size = C at *
          have c0 : U2.cell? ⟨C, 0, none⟩ = some (.int .u32 r.sample) := cells_all hkr 0
          have c1 : U2.cell? ⟨C, 1, none⟩ = some (.int .u32 r.analyte) := cells_all hkr 1
          have hcr : rng U2 C 0 13 = some (rowCs r) := rng_whole hkr
          have hlk : ∀ k, (Instr.lookup 148 (.map (some V1.heap.size)) (.agg #[.int .u32 r.sample, .int .u32 r.analyte]) false).run Tryz.prog (U2.drewN k) = .ok (.agg (rowCs r)) (U2.drewN k) := fun k => by
            have h1 := (HMC.out.mp.same (w' := U2.drewN k) rfl).look hco.sample hco.analyte
            rw [HLJ.out] at h1
            simpa only [keyV, Option.getD_some] using h1
          have heq := eqB_refl r
          clear hkr hrr hyw HMC HBJ HLJ HM4
          go_quiet (fail)
          have HEND : Hid (Below V3.heap.size V3 (U2.drewN nq)) := below_drewN HBC.out nq
          go_wp2
          refine Handed.intro (M - (j + 1)) (by omega) ?_
          exact hJ5.out _ (.int .i64 ((j + 1 : Nat) : Int)) _ _ ⟨j + 1, by omega, rfl, rfl, HEND⟩ (by kernel_rfl)
        · as_aux_lemma =>
          have HFN := hide (HOW.out.below HBJ.out (Nat.le_refl _))
          obtain ⟨ua, uc, tb, tf, ue, ul1, ul2, ul3, uha, uhc⟩ := (HTXW.out wr HM4.out.bel).a
          injection ue with ue1 ue2 ue3
          subst ue1
          subst ue3
          have HTL : Hid (zt.length = N) := ue2.symm
          rw [← ue2] at uha
          have hiT := run_indexAt_arr (P := Tryz.prog) (n := N) (cap := tc) Tryz.underlying144 Tryz.size55 (fun h => (uha h).1)
          have HTC : Hid (0 < N → ta = some ⟨tb, tf, none⟩ ∧ tb < V1.heap.size) := uha
          have HTCC : Hid (N ≤ tc ∧ tc ≤ maxLen ∧ (ta = none → tc = 0)) := ⟨by rw [ue2]; exact ul1, ul2.1, ul2.2⟩
          have HUC := hide uhc
          clear HOW HYB HYC hiR HM3 HBJ ue2 ul1 ul2 ul3 uha uhc
          go_upto_region 61 with fail
          clear hjlt hjM
          have HL0 : Hid (LedAt (wr.alloc (.cells (ledCs led0 (none, 0, 0)) 154)) wr.heap.size (ledAt fs 0) (none, 0, 0)) := by
            rw [ledAt_zero]
            exact LedAt.new wr
          have HBA : Hid (Below wr.heap.size wr (wr.alloc (.cells (ledCs led0 (none, 0, 0)) 154))) := (Below.refl _ _).alloc (Nat.le_refl _) _
          change Code.wp _ _ _ _ (wr.alloc (.cells (ledCs led0 (none, 0, 0)) 154))
          generalize wr.alloc (.cells (ledCs led0 (none, 0, 0)) 154) = V5 at *
          have HVS : Hid (V1.heap.size < wr.heap.size) := HM4.out.mp.lt
          obtain ⟨V4, hV4⟩ : ∃ V4, V4 = wr := ⟨_, rfl⟩
          rw [← hV4] at HL0 HBA HVS HFN HM4 HUC ⊢
          clear hV4
          obtain ⟨G, hG⟩ : ∃ G, G = V4.heap.size := ⟨_, rfl⟩
          rw [← hG] at HL0 HBA HVS ⊢
          have HG := hide hG
          clear hG
          refine wp_loop_mask cuL6 (fun g x wr => ∃ (j : Nat) (v : SV), j ≤ N ∧ g = N - j ∧ x = .int .i64 j ∧ Hid (LedAt wr G (ledAt fs j) v ∧ Below G V4 wr)) N (.int .i64 0) ⟨0, (none, 0, 0), by omega, by omega, rfl, HL0.out, HBA.out⟩ (by kernel_rfl) ?_
          clear HL0 HBA
          intro gk6 x6 u6 wr hrel J6 K6 hJ6 hK6
          dsimp only [cuL6, maskL_keep, maskL_any, maskL_is, maskL_nil]
          obtain ⟨j, v, hjN, rfl, rfl, HLJ⟩ := hrel
          have HB6 : Hid (Below V1.heap.size V1 wr) := HM4.out.bel.trans (HLJ.out.2.mono (Nat.le_of_lt HVS.out))
          by_cases hjlt : j < N
          · as_aux_lemma =>
            have hjf : j < fs.length := by rw [← HN.out]; exact hjlt
            have hjz : j < zt.length := by rw [HTL.out]; exact hjlt
            obtain ⟨b6, o6, n6, c6, hz, hD, -⟩ := (HTXW.out wr HB6.out).data hjf hjz
            have htb := (HTC.out (by omega)).2
            have hcl : wr.cell? ⟨tb, tf + j, none⟩ = some (.slice (some ⟨b6, o6, none⟩) n6 c6) := by
              have h1 := (rng_cell (HUC.out j hjz)).2 0 (by decide)
              simp only [ztCs, hz, sv] at h1
              rw [World.cell?_of_block (w := V4) (HLJ.out.2.block tb (by have := HVS.out; omega))]
              simpa using h1
            have hok := HFI.out.take_ok (by have := HN.out; omega) hjf
            have hrl : (ledAt fs j).rows.length ≤ 100000000 := by
              have h1 := HFI.out.preLen (HFI.out.relAt_some j)
              have h2 : (ledAt fs j).rows = relAt fs j := rfl
              rw [h2]
              have := HN.out
              omega
            have HTK := hide (ledTake_calls wr G (ledAt fs j) v fs[j] b6 o6 n6 c6 HLJ.out.1 hD (HFK.out _ (List.getElem_mem hjf)) ⟨by simp only [ledAt]; omega, by simp only [ledAt]; omega⟩ hrl)
            unfold TakeP at HTK
            rw [hok] at HTK
            have dt : (((ledAt fs (j + 1)).taken) != ((j : Int) + 1)) = false := by simp [ledAt]
            have htk1 : (ledAt fs (j + 1)).taken = (j : Int) + 1 := by simp [ledAt]
            clear hz hD hok hrl htb hjf hjz
            go_upto_region 63 with fail
            go_wp2_with (first
              | (go_at_call 54; refine HTK.out.mono ?_; rintro e U2 ⟨rfl, hl2, hs2, hb2⟩; obtain ⟨v2, hl2⟩ := hl2; have HL2 := hide hl2; have HB2 := hide hb2; clear hl2 hs2 hb2 HTK)
              | (go_at_call 55; refine (taken_calls _ G _ v2 HL2.out).mono ?_; rintro e U3 ⟨rfl, rfl⟩; rw [htk1]))
            refine Handed.intro (N - (j + 1)) (by omega) ?_
            exact hJ6.out _ (.int .i64 ((j + 1 : Nat) : Int)) _ _ ⟨j + 1, v2, by omega, rfl, rfl, HL2.out, HLJ.out.2.trans HB2.out⟩ (by kernel_rfl)
          · as_aux_lemma =>
            have hjN2 : N = j := by omega
            subst hjN2
            have HLF : Hid (LedAt wr G (ledAt fs N) v) := HLJ.out.1
            have HLR : Hid ((ledAt fs N).rows = rows) := by show _ = _; rw [HN.out]; exact HFI.out.ledRows
            have HMW : Hid (CMap V1 wr k m) := ⟨HB6.out, HM4.out.mp.same (HLJ.out.2.block _ HVS.out)⟩
            have HFW : Hid (OwnR wr V1.heap.size 109 13 rowCs (.slice na M nc) rows) := HFN.out.mono (fun b hb => HLJ.out.2.block _ (by have := (HFN.out.block b hb).2; rw [HG.out]; exact this))
            have HBW : Hid (Below w.heap.size w wr) := HB1.out.trans (HB6.out.mono HB1.out.size)
            obtain ⟨V6, hV6⟩ : ∃ V6, V6 = wr := ⟨_, rfl⟩
            rw [← hV6] at HLF HMW HFW HBW ⊢
            clear hV6 HLJ HB6 HFN HM4 HG hiT HUC
            go_upto_region 67 with fail
            clear hjlt hjN
            have HFIND : Hid (∀ U, Below V6.heap.size V6 U → ∀ s a : Int, Calls Tryz.prog 56 #[.pointer (some ⟨G, 0, none⟩), .int .u32 s, .int .u32 a] U fun e w' => e = .returned (.tuple #[.agg (rowCs ((mlook rows s a).getD zeroRow)), .bool (mlook rows s a).isSome]) ∧ Below U.heap.size U w') := fun U hU s a => by
              have h1 := find_calls U G (ledAt fs N) v s a (HLF.out.below hU) (by rw [HLR.out]; exact HFI.out.rise) (by rw [HLR.out, ← HMM.out]; omega)
              rw [HLR.out] at h1
              exact h1
            refine wp_loop_mask cuL7 (fun g x wr => ∃ j : Nat, j ≤ q ∧ g = q - j ∧ x = .int .i64 j ∧ Hid (Below V6.heap.size V6 wr)) q (.int .i64 0) ⟨0, by omega, by omega, rfl, Below.refl _ _⟩ (by kernel_rfl) ?_
            intro gk7 x7 u7 wr hrel J7 K7 hJ7 hK7
            dsimp only [cuL7, maskL_keep, maskL_any, maskL_is, maskL_nil]
            obtain ⟨j, hjq, rfl, rfl, HBJ⟩ := hrel
            by_cases hjlt : j < q
            · as_aux_lemma =>
              have hjs : j < s.length := by rw [← Hn.out]; exact hjlt
              have hbb := HB.out (by omega)
              obtain ⟨lv, dv, ca, cn, cc, hcl, hO, hones⟩ := HC.out j hjs
              have hro := hO.req
              generalize s[j] = p at *
              have hbx : Below w.heap.size w wr := HBW.out.trans (HBJ.out.mono HBW.out.size)
              have hcells : rng wr b (off + j * 27) 27 = some (opA p lv dv ca cn cc) := by rw [rng_of_block (hbx.block _ hbb)]; exact hcl
              have hbw : b < wr.heap.size := by have := hbx.size; omega
              clear hO hcl hbx hbb hjs
              go_upto_region 69 with fail
              have hk1 : (wr.alloc (.cells (opA p lv dv ca cn cc) 61)).heap[wr.heap.size]? = some (.cells (opA p lv dv ca cn cc) 61 (0, 0)) := heap_alloc_at _ _
              have HB1' : Hid (Below V6.heap.size V6 (wr.alloc (.cells (opA p lv dv ca cn cc) 61))) := HBJ.out.alloc HBJ.out.size _
              generalize wr.alloc (.cells (opA p lv dv ca cn cc) 61) = U1 at *
              generalize wr.heap.size = D at *
              have c4 : U1.cell? ⟨D, 4, none⟩ = some (.int .u32 p.req.id) := cells_all hk1 4
              have c5 : U1.cell? ⟨D, 5, none⟩ = some (.int .u32 p.req.ref) := cells_all hk1 5
              have hdl := blk_lt hk1
              clear hk1 hcells hbw HBJ
              go_upto_region 70 with fail
              have hkk : (U1.alloc (.cells #[.int .u32 p.req.id, .int .u32 p.req.ref] 106)).heap[U1.heap.size]? = some (.cells #[.int .u32 p.req.id, .int .u32 p.req.ref] 106 (0, 0)) := heap_alloc_at _ _
              have HB2' : Hid (Below V6.heap.size V6 (U1.alloc (.cells #[.int .u32 p.req.id, .int .u32 p.req.ref] 106))) := HB1'.out.alloc HB1'.out.size _
              generalize U1.alloc (.cells #[.int .u32 p.req.id, .int .u32 p.req.ref] 106) = U2 at *
              generalize U1.heap.size = K at *
              have hkr : rng U2 K 0 2 = some #[.int .u32 p.req.id, .int .u32 p.req.ref] := rng_whole hkk
              have hlk := (HMW.out.below HB2'.out).mp.look_ok hro.id hro.ref
              rw [HAR.out.look] at hlk
              simp only [keyV] at hlk
              have HFD := hide (fun U hU => HFIND.out U hU p.req.id p.req.ref)
              generalize (mlook rows p.req.id p.req.ref).getD zeroRow = rr at *
              generalize (mlook rows p.req.id p.req.ref).isSome = bo at *
              clear c4 c5 hdl HB1'
              go_upto_region 71 with fail
              have hbr : Below U2.heap.size U2 (U2.alloc (.cells (rowCs rr) 109)) := (Below.refl _ _).alloc (Nat.le_refl _) _
              have hk3 : (U2.alloc (.cells (rowCs rr) 109)).heap[U2.heap.size]? = some (.cells (rowCs rr) 109 (0, 0)) := heap_alloc_at _ _
              have hkk3 := (hbr.block _ (blk_lt hkk)).trans hkk
              have HB3' : Hid (Below V6.heap.size V6 (U2.alloc (.cells (rowCs rr) 109))) := HB2'.out.trans (hbr.mono HB2'.out.size)
              generalize U2.alloc (.cells (rowCs rr) 109) = U3 at *
              generalize U2.heap.size = R3 at *
              have e0 : U3.cell? ⟨K, 0, none⟩ = some (.int .u32 p.req.id) := cells_all hkk3 0
              have e1 : U3.cell? ⟨K, 1, none⟩ = some (.int .u32 p.req.ref) := cells_all hkk3 1
              have HK3 := hide hk3
              clear hlk hkk hkk3 hkr hbr hk3 HB2'
              go_upto_region 72 with (go_at_call 56; refine (HFD.out _ HB3'.out).mono ?_; rintro e U4 ⟨rfl, hb4⟩)
              have hbs : Below U4.heap.size U4 (U4.alloc (.cells (rowCs rr) 109)) := (Below.refl _ _).alloc (Nat.le_refl _) _
              have hk5 : (U4.alloc (.cells (rowCs rr) 109)).heap[U4.heap.size]? = some (.cells (rowCs rr) 109 (0, 0)) := heap_alloc_at _ _
              have hk4 := (hbs.block _ (by have := hb4.size; have := blk_lt HK3.out; omega)).trans ((hb4.block _ (blk_lt HK3.out)).trans HK3.out)
              have HEND : Hid (Below V6.heap.size V6 (U4.alloc (.cells (rowCs rr) 109))) := (HB3'.out.trans (hb4.mono HB3'.out.size)).alloc (by have := hb4.size; have := HB3'.out.size; omega) _
              generalize U4.alloc (.cells (rowCs rr) 109) = U5 at *
              generalize U4.heap.size = R5 at *
              have r3 : rng U5 R3 0 13 = some (rowCs rr) := rng_whole hk4
              have r5 : rng U5 R5 0 13 = some (rowCs rr) := rng_whole hk5
              have heq := eqB_refl rr
              have hbo : (bo != bo) = false := by simp
              clear hbs hk4 hk5 hb4 HFD HK3 e0 e1 HB3'
              go_wp2
              refine Handed.intro (q - (j + 1)) (by omega) ?_
              exact hJ7.out _ (.int .i64 ((j + 1 : Nat) : Int)) _ _ ⟨j + 1, by omega, rfl, rfl, HEND⟩ (by kernel_rfl)
            · as_aux_lemma =>
              have HU8 : Hid (∀ x ∈ m, U32 x.sample ∧ U32 x.analyte) := fun x hx => ⟨(HFI.out.rok x (HAR.out.mem hx)).sample, (HFI.out.rok x (HAR.out.mem hx)).analyte⟩
              have HM7 := hide (HMW.out.below HBJ.out)
              clear HC hi HB HMW
              go_upto_region 76 with (at_range; refine HM7.out.mp.range HU8.out rfl _ rfl rfl ?_; intro W8 c8 hit0 hg0 hs8)
              first | go_frame | skip
              clear hjlt hjq
              have hb8 : Below wr.heap.size wr W8 := (Below.refl _ _).grown hg0 (Nat.le_refl _) (fun k hk => by cases hk)
              have HIT0 := hide hit0
              have HB8 := hide hb8
              obtain ⟨V7, hV7⟩ : ∃ V7, V7 = wr := ⟨_, rfl⟩
              rw [← hV7] at HIT0 HB8 HBJ HM7 ⊢
              clear hit0 hg0 hs8 hb8 hV7
              refine wp_loop_mask cuL8 (fun g _ wr => ∃ todo : List Row, Hid (MapIt wr V1.heap.size V7.heap.size k m todo g) ∧ Hid (Below V7.heap.size V7 wr)) c8 () ⟨m, HIT0, HB8⟩ (by kernel_rfl) ?_
              clear HIT0 HB8
              intro gk8 x8 u8 wr hrel J8 K8 hJ8 hK8
              dsimp only [cuL8, maskL_keep, maskL_any, maskL_is, maskL_nil]
              obtain ⟨todo, HIT, HB9⟩ := hrel
              go_wp2_with (at_next; refine HIT.out.next rfl _ rfl rfl ?_ ?_)
              · as_aux_lemma =>
                intro _
                have HBV : Hid (Below V6.heap.size V6 wr) := HBJ.out.trans (HB9.out.mono HBJ.out.size)
                have HV9 : Hid (Below V1.heap.size V1 wr) := HM7.out.bel.trans (HB9.out.mono HM7.out.bel.size)
                have HW9 : Hid (Below w.heap.size w wr) := HBW.out.trans (HBV.out.mono HBW.out.size)
                have HL9 := hide (HLF.out.below HBV.out)
                have HF9 := hide (HFW.out.below HBV.out (Nat.le_refl _))
                have htk1 : (ledAt fs N).taken = (N : Int) := rfl
                clear HBV HB9 HIT HBJ HM7 HFW HLF HFIND HU8 HBW
                go_upto_region 81 with fail
                have hk7 : (wr.alloc (.cells noFile 5 (7, 8))).heap[wr.heap.size]? = some (.cells noFile 5 (7, 8)) := heap_alloc_at _ _
                have hb7 : Below wr.heap.size wr (wr.alloc (.cells noFile 5 (7, 8))) := (Below.refl _ _).alloc (Nat.le_refl _) _
                have HTN := hide (ledTake_no _ G _ _ _ hk7)
                have HLA := hide (fun U (hU : Below wr.heap.size wr U) => HL9.out.below hU)
                have HFA := hide (fun U (hU : Below wr.heap.size wr U) => HF9.out.below hU (Nat.le_refl _))
                have HB7 := hide hb7
                clear hk7 hb7
                go_upto_region 83 with (first
                  | (go_at_call 54; refine HTN.out.mono ?_; rintro e U2 ⟨E2, rfl, hb2⟩; have HB2 : Hid (Below wr.heap.size wr U2) := (HB7.out.trans (hb2.mono HB7.out.size)); clear hb2 HTN)
                  | (go_at_call 55; refine (taken_calls _ G _ v (HLA.out _ HB2.out)).mono ?_; rintro e U3 ⟨rfl, rfl⟩; rw [htk1])
                  | (go_at_call 58; refine (ledRows_calls _ G _ v (HLA.out _ HB2.out) (by rw [HLR.out, ← HMM.out]; omega)).mono ?_; rintro e U3 ⟨uu, rfl, huo, hb3⟩; rw [HLR.out] at huo; have HUO := hide huo; have HB3 : Hid (Below wr.heap.size wr U3) := (HB2.out.trans (hb3.mono HB2.out.size)); clear huo hb3)
                  | (go_at_call 57; refine (sameRows_calls _ _ _ _ _ rows (HUO.out.rows rowCs_size (by decide) (by rw [← HMM.out]; omega)) ((HFA.out _ HB3.out).rows rowCs_size (by decide) (by rw [← HMM.out]; omega))).mono ?_; rintro e U4 ⟨rfl, dn4, rfl⟩))
                have HB5 : Hid (Below wr.heap.size wr (U3.drewN dn4)) := below_drewN HB3.out dn4
                generalize U3.drewN dn4 = U5 at *
                clear HB2 HB3 HB7 HUO HLA HFA HL9 HF9
                have HV5 : Hid (Below V1.heap.size V1 U5) := HV9.out.trans (HB5.out.mono HV9.out.size)
                have HW5 : Hid (Below w.heap.size w U5) := HW9.out.trans (HB5.out.mono HW9.out.size)
                clear HV9 HW9 HB5
                by_cases hN0 : 0 < N
                rotate_left
                · as_aux_lemma =>
                  obtain rfl : N = 0 := by omega
                  go_wp2
                  go_ret
                  exact ⟨rfl, HW5.out⟩
                obtain ⟨ao, hsl, htx⟩ := (HTXW.out U5 HV5.out).rest hN0
                have HXR := hide htx
                have HFD : Hid (∀ f ∈ fs.drop 1, FK f) := fun f hf => HFK.out f (List.mem_of_mem_drop hf)
                have hfl1 : (fs.drop 1).length = N - 1 := by rw [List.length_drop, ← HN.out]
                have HV1 : Hid (Calls Tryz.prog 53 #[.slice ao (N - 1) (tc - 1)] U5 fun e w' => ∃ (x : Value) (y : Int) (z : Value), e = .returned (.tuple #[x, .int .i64 y, z]) ∧ (1 < N → y = 1 ∧ z = .iface 63 (.int .u8 30)) ∧ Below U5.heap.size U5 w') := (verify_calls U5 _ _ _ _ HXR.out HFD.out (by omega)).mono fun e w' h => by
                  have h0 := HFI.out.all_tail
                  cases h with
                  | good a c L ht he ho hb =>
                    refine ⟨_, _, _, he, fun h1 => ?_, hb⟩
                    exfalso
                    rw [ht] at h0
                    have : (fs.drop 1).length = 0 := h0
                    omega
                  | bad k hk ht he hb =>
                    refine ⟨_, _, _, he, fun _ => ⟨?_, rfl⟩, hb⟩
                    rw [h0] at ht
                    omega
                clear htx HFD hfl1
                go_upto_region 85 with (go_at_call 53; refine HV1.out.mono ?_; rintro e U6 ⟨vx, vy, vz, rfl, hv1, hb6⟩; have HY1 := hide hv1; have HB6 := hide hb6; clear hv1 hb6)
                clear hsl HXR HV1
                have HV6 : Hid (Below V1.heap.size V1 U6) := HV5.out.trans (HB6.out.mono HV5.out.size)
                have HW6 : Hid (Below w.heap.size w U6) := HW5.out.trans (HB6.out.mono HW5.out.size)
                clear HV5 HW5 HB6
                refine wp_cut_mask cuC85 (fun x W => x = .bool false ∧ U6 = W) ?first ?rest
                case first =>
                  intro J K' hJ hK'
                  as_aux_lemma =>
                  by_cases h1 : 1 < N
                  · obtain ⟨rfl, rfl⟩ := HY1.out h1
                    go_wp2
                    refine Met.intro ?_
                    exact hJ.out (.bool false) _ _ ⟨rfl, rfl⟩ (by kernel_rfl)
                  · obtain rfl : N = 1 := by omega
                    go_wp2
                    refine Met.intro ?_
                    exact hJ.out (.bool false) _ _ ⟨rfl, rfl⟩ (by kernel_rfl)
                case rest =>
                intro x85 u85 wc hcut
                dsimp only [cuC85, maskL_keep, maskL_any, maskL_is, maskL_nil]
                obtain ⟨rfl, rfl⟩ := hcut
                have hz0 : 0 < zt.length := by rw [HTL.out]; exact hN0
                have hf0 : 0 < fs.length := by rw [← HN.out]; exact hN0
                have HX6 := hide (HTXW.out U6 HV6.out)
                obtain ⟨b0, o0, n0, c0, hzz, -, -⟩ := HX6.out.data hf0 hz0
                obtain ⟨xa, xc, xb, xo, xe, xl1, xl2, xl3, xha, xhc⟩ := RArr.lt HX6.out.a
                injection xe with xe1 xe2 xe3
                subst xe1
                subst xe3
                rw [HTL.out] at xha
                have hi0 := fun w => run_indexAt_arr (P := Tryz.prog) (n := N) (cap := tc) Tryz.underlying144 Tryz.size55 (fun h => (xha h).1) w 0 (by omega) (by omega)
                simp only [Int.toNat_zero, Nat.zero_mul, Nat.add_zero] at hi0
                have hc0 : U6.cell? ⟨xb, xo, none⟩ = some (.slice (some ⟨b0, o0, none⟩) n0 c0) := by
                  have h1 := (rng_cell (xhc 0 hz0)).2 0 (by decide)
                  simp only [ztCs, hzz, sv] at h1
                  simpa using h1
                have HO1 : Hid (OwnR (U6.alloc (.cells #[.slice (some ⟨b0, o0, none⟩) n0 c0] 55)) U6.heap.size 55 1 ztCs (.slice (some ⟨U6.heap.size, 0, none⟩) 1 1) [zt[0]]) :=
                  ⟨rfl, Or.inr ⟨U6.heap.size, 1, #[.slice (some ⟨b0, o0, none⟩) n0 c0], rfl, Nat.le_refl _, heap_alloc_at _ _, Nat.le_refl _, by unfold maxLen; omega, rfl, by simp [flat, ztCs, hzz, sv]⟩⟩
                have HSRC : Hid (0 < N → ∃ b off, ta = some ⟨b, off, none⟩ ∧ ∀ i (h : i < zt.length), rng (U6.alloc (.cells #[.slice (some ⟨b0, o0, none⟩) n0 c0] 55)) b (off + i * 1) 1 = some (ztCs zt[i])) := fun h =>
                  ⟨xb, xo, (xha h).1, fun i hi => by rw [rng_alloc_lt _ _ _ _ _ (xha h).2.2]; exact xhc i hi⟩
                have HNIL : Hid (ta = none → tc = 0) := HTCC.out.2.2
                have HALB : Hid (Below U6.heap.size U6 (U6.alloc (.cells #[.slice (some ⟨b0, o0, none⟩) n0 c0] 55))) := (Below.refl _ _).alloc (Nat.le_refl _) _
                have HVT : Hid (∀ U vv, OwnR U U6.heap.size 55 1 ztCs vv ([zt[0]] ++ zt) → Below U6.heap.size U6 U → Calls Tryz.prog 53 #[vv] U fun e w' => e = .returned (.tuple #[.slice none 0 0, .int .i64 2, .iface 63 (.int .u8 30)]) ∧ Below U.heap.size U w') := fun U vv ho hb => by
                  have htx : TxAt U (fun _ => True) vv ([zt[0]] ++ zt) (fs[0] :: fs) := by
                    refine ⟨RArr.mono (ho.rows ztCs_size (by decide) (by simp; have := HTL.out; omega)) (Same.refl _ _) (fun _ _ => trivial), fun z hz => ?_, ?_⟩
                    · have hz2 : z ∈ zt := by
                        rcases List.mem_append.1 hz with h | h
                        · rw [List.mem_singleton.1 h]
                          exact List.getElem_mem hz0
                        · exact h
                      exact RArr.mono (RArr.below (HX6.out.t z hz2) hb) (Same.refl _ _) (fun _ _ => trivial)
                    · have h1 := HX6.out.m
                      rw [List.map_append, h1]
                      have h2 := congrArg (fun l => l[0]?) h1
                      simp only [List.getElem?_map, List.getElem?_eq_getElem hz0, List.getElem?_eq_getElem hf0, Option.map_some] at h2
                      injection h2 with h2
                      simp [h2]
                  refine (verify_calls U vv _ _ _ htx (fun f hf => ?_) (by simp; have := HN.out; omega)).mono fun e w' h => ?_
                  · rcases List.mem_cons.1 hf with rfl | hf
                    · exact HFK.out _ (List.getElem_mem hf0)
                    · exact HFK.out f hf
                  · have h0 := HFI.out.all_twice (by have := HN.out; omega) hf0
                    cases h with
                    | good a c L ht he ho hb =>
                      exfalso
                      rw [ht] at h0
                      have : (fs[0] :: fs).length = 1 := h0
                      rw [List.length_cons] at this
                      omega
                    | bad k hk ht he hb =>
                      rw [h0] at ht
                      subst ht
                      exact ⟨he, hb⟩
                clear hzz xe2 xl1 xl2 xl3 xha xhc HX6 HY1
                go_upto_region 88 with (first
                  | (at_builtin; refine wpList_appN (α := ZT) rfl _ _ 144 rfl U6.heap.size 55 ztCs Tryz.underlying144 Tryz.info55 rfl (by decide) ztCs_size ztCs_one _ [zt[0]] rfl HO1.out ta N tc rfl zt HTL.out.symm HNIL.out HSRC.out (by simp; omega) (by unfold maxLen; simp; omega) (by simp) ?_; intro v2 U7 hown2 hsame2 hbel2 hat2; have HB7 : Hid (Below U6.heap.size U6 U7) := (HALB.out.trans hbel2); have HO7 := hide hown2; clear hown2 hsame2 hbel2 hat2)
                  | (go_at_call 53; refine (HVT.out _ _ HO7.out HB7.out).mono ?_; rintro e U8 ⟨rfl, hb8⟩; have HB8 : Hid (Below U6.heap.size U6 U8) := (HB7.out.trans (hb8.mono HB7.out.size)); clear hb8))
                have HEND : Hid (Below w.heap.size w U8) := HW6.out.trans (HB8.out.mono HW6.out.size)
                go_wp2
                go_ret
                exact ⟨rfl, HEND.out⟩
              · as_aux_lemma =>
                intro c w1 cnt1 hct hit1 hlt1 hg1 hs1 hen
                have HLC : Hid (mlook rows c.sample c.analyte = some c) := by
                  show _ = _
                  rw [← HAR.out.look]
                  exact mlook_apart HAR.out.apart (HIT.out.sub c hct)
                have HI1 := hide hit1
                have HBA : Hid (Below V7.heap.size V7 w1) := HB9.out.grown hg1 HB9.out.size (fun k hk => by cases hk; exact Nat.le_refl _)
                simp only [keyV] at hen
                clear hg1 hs1 hit1 hct HIT HB9
                go_upto_region 78 with fail
                have hbA : Below w1.heap.size w1 ((w1.alloc (.cells #[.int .u32 c.sample, .int .u32 c.analyte] 106)).alloc (.cells (rowCs c) 109)) := ((Below.refl _ _).alloc (Nat.le_refl _) _).alloc (by simp) _
                have hkK : ((w1.alloc (.cells #[.int .u32 c.sample, .int .u32 c.analyte] 106)).alloc (.cells (rowCs c) 109)).heap[w1.heap.size]? = some (.cells #[.int .u32 c.sample, .int .u32 c.analyte] 106 (0, 0)) := (Below.heap_alloc _ _ _ (by simp)).trans (heap_alloc_at _ _)
                have hkW : ((w1.alloc (.cells #[.int .u32 c.sample, .int .u32 c.analyte] 106)).alloc (.cells (rowCs c) 109)).heap[w1.heap.size + 1]? = some (.cells (rowCs c) 109 (0, 0)) := by
                  have hz : (w1.alloc (.cells #[.int .u32 c.sample, .int .u32 c.analyte] 106)).heap.size = w1.heap.size + 1 := by simp
                  rw [← hz]
                  exact heap_alloc_at _ _
                have HBX : Hid (Below V7.heap.size V7 ((w1.alloc (.cells #[.int .u32 c.sample, .int .u32 c.analyte] 106)).alloc (.cells (rowCs c) 109))) := HBA.out.trans (hbA.mono HBA.out.size)
                have HI9 := hide (HI1.out.same (hbA.block _ HI1.out.map.lt) (hbA.block _ HI1.out.lt))
                clear hbA hen HI1 HBA
                generalize (w1.alloc (.cells #[.int .u32 c.sample, .int .u32 c.analyte] 106)).alloc (.cells (rowCs c) 109) = X at *
                obtain ⟨B, hB⟩ : ∃ B, B = w1.heap.size := ⟨_, rfl⟩
                rw [← hB] at hkK hkW ⊢
                clear hB
                have e0 : X.cell? ⟨B, 0, none⟩ = some (.int .u32 c.sample) := cells_all hkK 0
                have e1 : X.cell? ⟨B, 1, none⟩ = some (.int .u32 c.analyte) := cells_all hkK 1
                have HKW := hide hkW
                have HFD := hide (HFIND.out X (HBJ.out.trans (HBX.out.mono HBJ.out.size)) c.sample c.analyte)
                rw [HLC.out] at HFD
                simp only [Option.getD_some, Option.isSome_some] at HFD
                clear hkK hkW HLC
                go_upto_region 79 with (go_at_call 56; refine HFD.out.mono ?_; rintro e U4 ⟨rfl, hb4⟩)
                have hbs : Below U4.heap.size U4 (U4.alloc (.cells (rowCs c) 109)) := (Below.refl _ _).alloc (Nat.le_refl _) _
                have hk5 : (U4.alloc (.cells (rowCs c) 109)).heap[U4.heap.size]? = some (.cells (rowCs c) 109 (0, 0)) := heap_alloc_at _ _
                have hk4 := (hbs.block _ (by have := hb4.size; have := blk_lt HKW.out; omega)).trans ((hb4.block _ (blk_lt HKW.out)).trans HKW.out)
                have hbX : Below X.heap.size X (U4.alloc (.cells (rowCs c) 109)) := hb4.alloc hb4.size _
                have HEND1 : Hid (Below V7.heap.size V7 (U4.alloc (.cells (rowCs c) 109))) := HBX.out.trans (hbX.mono HBX.out.size)
                have HEND2 := hide (HI9.out.same (hbX.block _ HI9.out.map.lt) (hbX.block _ HI9.out.lt))
                generalize U4.alloc (.cells (rowCs c) 109) = U5 at *
                generalize U4.heap.size = R5 at *
                have r4 : rng U5 (B + 1) 0 13 = some (rowCs c) := rng_whole hk4
                have r5 : rng U5 R5 0 13 = some (rowCs c) := rng_whole hk5
                have heq := eqB_refl c
                clear hbs hk4 hk5 hb4 hbX HFD HKW e0 e1 HBX HI9
                go_wp2
                refine Handed.intro cnt1 hlt1 ?_
                exact hJ8.out _ () _ _ ⟨_, HEND2, HEND1⟩ (by kernel_rfl)
  · have hd : decide (total s ≤ 65536) = false := by simpa using hsm
    rw [hd] at HSm
    clear hd hsm ha hc hn hgl HNB HGL
    go_enter Tryz.func12, Tryz.ntmps12
    go_wp2_with (go_at_call 18; refine HSm.out.mono ?_; rintro e w1 ⟨rfl, rfl⟩)
    go_ret
    exact ⟨rfl, Below.refl _ _⟩

end Go.Proofs.Qxb6500666aGreatDoor
