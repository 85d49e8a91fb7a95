/- CorrectionGivesNewRowVersion, walked. (Made by tools/mk_corw.py.) -/
import Derived.Test.Qxb6500666aGreatDoorCorM
import Derived.Test.Qxb6500666aGreatDoorCorBits
import Derived.Test.Qxb6500666aGreatDoorDamR
import Derived.Test.Qxb6500666aGreatDoorNote
import Derived.BigQuiet
import Derived.Deep.CutBlock
namespace Go.Proofs.Qxb6500666aGreatDoor
open Go.RowKit
attribute [local go_sem] ext_const Ext.cell Ext.frozen Ext.rng Ext.whole exS_const ExS.cell ExS.rng
attribute [local go_sem ↓] exec_ldOpz exec_stOpz exec_ldAns exec_stAns exec_fldRsp exec_ldChange exec_stChange exec_ldFile exec_stFile
attribute [local go_sem] run_ldOpz run_stOpz opA_size run_ldAns run_stAns ansCs_size ansCs_ones run_fld6 run_fld7 run_ldChange run_stChange changeCs_size changeCs_ones run_ldFile run_stFile fileCs_size fileCs_ones fileCs_4 whole_alloc_lt whole_alloc_at whole_drew setRow_alloc_at setRow_alloc_lt setRow_drew rng_alloc_lt rng_alloc_at rng_drew rng_drewN
theorem chgCells5 {W : World} {C : Nat} {c : Change} (h : W.heap[C]? = some (.cells (changeCs c) 111 (0, 0))) : W.cell? ⟨C, 0, none⟩ = some (.int .u8 c.action) ∧ W.cell? ⟨C, 1, none⟩ = some (.int .u32 c.row.sample) ∧ W.cell? ⟨C, 2, none⟩ = some (.int .u32 c.row.analyte) ∧ W.cell? ⟨C, 3, none⟩ = some (.int .u32 c.row.version) ∧ W.cell? ⟨C, 4, none⟩ = some (.int .i64 c.row.value) :=
  ⟨cells_all h 0, cells_all h 1, cells_all h 2, cells_all h 3, cells_all h 4⟩

set_option maxRecDepth 100000 in
set_option maxHeartbeats 8000000 in
theorem cor_walk (w : World) (v : Value) (s : List Op) (rn kn ft : Nat → ByteArray) (okg : Nat → Prop) (h : Script w (· < w.heap.size) v s) (hgl : Gl w w.heap.size rn kn ft okg) :
    Calls Tryz.prog 5 #[v] w fun e w' => e = .returned (.bool true) ∧ Below w.heap.size w w' := by
  have HSm := hide (small_calls w _ v s h)
  have HGL := hide (fun W (hb : Below w.heap.size w W) => hgl.same hb (Nat.le_refl _))
  have HNB := hide (newBench_calls w)
  obtain ⟨a, cap, b, off, rfl, hl, hm, hr, ha, hc⟩ := h
  obtain ⟨n, hn⟩ : ∃ n, n = s.length := ⟨_, rfl⟩
  have Hn : Hid (n = s.length) := hn
  rw [← hn] at hl hr ha HSm ⊢
  have hi := run_indexAt_arr (P := Tryz.prog) (cap := cap) Tryz.underlying22 Tryz.size61 (fun h => (ha h).1)
  have HB : Hid (0 < n → b < w.heap.size) := fun h => (ha h).2
  by_cases hsm : total s ≤ 65536
  · have HC : Hid (∀ k (h : k < s.length), ∃ lv dv ca cn cc, rng w b (off + k * 27) 27 = some (opA s[k] lv dv ca cn cc) ∧ OpIn w (· < w.heap.size) s[k] lv dv ca cn cc ∧ ones (opA s[k] lv dv ca cn cc) 27 = true) := fun k h => by
      obtain ⟨cs, hlen, hE, hcell⟩ := hc k h
      have ht := total_le h hsm
      obtain ⟨lv, dv, ca, cn, cc, e, hO, h1⟩ := opIn_of hE ht.2.1 ht.2.2
      refine ⟨lv, dv, ca, cn, cc, ?_, hO, h1⟩
      rw [← e]
      have hl27 : cs.length = 27 := by have := congrArg Array.size e; simpa [opA] using this
      have := rng_of_cells (w := w) (b := b) (off := off + k * 27) (by omega) hcell
      rw [hl27] at this
      exact this
    have HIV : Hid (∀ q, q ≤ s.length → Inv q (stAt s q)) := inv_all (fun k hk => by
      obtain ⟨_, _, _, _, _, _, h1, _⟩ := HC.out k hk
      exact h1.req)
    have hn2 : n ≤ 65536 := by have := hsm; unfold total at this; omega
    have HVI : Hid (∀ q, q ≤ s.length → VI q (stAt s q).low) := vi_all s (by omega)
    have HSU : Hid (∀ q, q ≤ s.length → SU (stAt s q).low.sm) := su_all s
    have hd : decide (total s ≤ 65536) = true := by simpa using hsm
    rw [hd] at HSm
    clear hd hsm ha hc hn hgl
    go_enter Tryz.func5, Tryz.ntmps5
    go_upto_region 3 with (go_at_call 18; refine HSm.out.mono ?_; rintro e w1 ⟨rfl, rfl⟩)
    go_upto_region 4 with (go_at_call 19; refine HNB.out.mono ?_; rintro e W0 ⟨rfl, hbn, hb0⟩)
    have HQ0 : Hid (BX w W0 (fun _ => False) (stAt s 0)) := BX.start hbn hb0
    have hmm := @run_makeMap Tryz.prog
    clear hbn hb0 HSm HNB
    go_upto_region 6 with fail
    clear hmm
    have HE0 : Hid (CE w ((W0.alloc (.map #[] 0)).alloc (.map #[] 0)) W0.heap.size (W0.heap.size + 1) 0 (stAt s 0)) := by
      have hz : (W0.alloc (.map #[] 0)).heap.size = W0.heap.size + 1 := by simp
      have hb1 : Below W0.heap.size W0 ((W0.alloc (.map #[] 0)).alloc (.map #[] 0)) := ((Below.refl _ _).alloc (Nat.le_refl _) _).alloc (by simp) _
      have hs := HQ0.out.blw.size
      refine ⟨[], [], fun _ _ => none, fun _ _ => none, ⟨HQ0.out.more hb1 (fun g q => Or.inr ?_), (MapK.made W0 _).same (Below.heap_alloc _ _ _ (by simp)), by rw [← hz]; exact MapK.made (W0.alloc (.map #[] 0)) _, by omega, by omega, by omega⟩, CI.start, Nat.le_refl _⟩
      rcases q with rfl | rfl
      · exact ⟨Nat.le_refl _, by simp; omega⟩
      · exact ⟨by omega, by simp⟩
    generalize (W0.alloc (.map #[] 0)).alloc (.map #[] 0) = W1 at *
    generalize hM2 : W0.heap.size + 1 = M2 at *
    generalize W0.heap.size = M1 at *
    clear hM2 HQ0
    refine wp_loop_mask coL1 (fun g x wr => ∃ q : Nat, q ≤ n ∧ g = n - q ∧ x = .int .i64 q ∧ Hid (CE w wr M1 M2 q (stAt s q))) n (.int .i64 0) ⟨0, by omega, by omega, rfl, HE0⟩ (by kernel_rfl) ?_
    clear HE0
    intro gk1 x1 u1 wr hrel J1 K1 hJ1 hK1
    dsimp only [coL1, maskL_keep, maskL_any, maskL_is, maskL_nil]
    obtain ⟨q, hq, rfl, rfl, HQ⟩ := hrel
    by_cases hlt : q < n
    · as_aux_lemma =>
      have hqs : q < s.length := by rw [← Hn.out]; exact hlt
      have hn2q : q ≤ 65536 := by omega
      have hbb := HB.out (by omega)
      obtain ⟨lv, dv, ca, cn, cc, hcl, hO, hones⟩ := HC.out q hqs
      have HIQ := hide (HIV.out q (by omega))
      have HIS := hide (HIV.out (q + 1) (by omega))
      have HVQ := hide (HVI.out q (by omega))
      have HVS := hide (HVI.out (q + 1) (by omega))
      have HUQ := hide (HSU.out q (by omega))
      have HUS := hide (HSU.out (q + 1) (by omega))
      have HSQ := hide (stAt_succ hqs)
      rw [HSQ.out] at HIS HVS HUS
      generalize s[q] = p at *
      obtain ⟨fs, rows, vf, lf, hcm, hci, hfl⟩ := HQ.out
      have HCM := hide hcm
      have HCI := hide hci
      clear hcm hci HQ
      have hcells : rng wr b (off + q * 27) 27 = some (opA p lv dv ca cn cc) := by rw [rng_of_block (HCM.out.bx.blw.block _ hbb)]; exact hcl
      have hbw : b < wr.heap.size := by have := HCM.out.bx.blw.size; omega
      have HOI := hide hO
      have HRQ := hide hO.req
      clear hO hcl
      go_upto_region 8 with fail
      have HQ1 : Hid (BX w (wr.alloc (.cells (opA p lv dv ca cn cc) 61)) (fun g => KM M1 M2 g ∨ g = wr.heap.size) (stAt s q)) := HCM.out.bx.more ((Below.refl _ _).alloc (Nat.le_refl _) _) (fun g q => by
        rcases q with q | rfl
        · exact Or.inl q
        · exact Or.inr ⟨Nat.le_refl _, by simp⟩)
      have HM1 := hide (HCM.out.below ((Below.refl _ _).alloc (Nat.le_refl _) (.cells (opA p lv dv ca cn cc) 61)))
      have hk1 : (wr.alloc (.cells (opA p lv dv ca cn cc) 61)).heap[wr.heap.size]? = some (.cells (opA p lv dv ca cn cc) 61 (0, 0)) := heap_alloc_at _ _
      clear HCM
      generalize wr.alloc (.cells (opA p lv dv ca cn cc) 61) = U1 at *
      generalize wr.heap.size = D at *
      generalize stAt s q = t at *
      have hr1 : rng U1 D 0 27 = some (opA p lv dv ca cn cc) := rng_whole hk1
      have HK1 := hide hk1
      have HST := hide (HQ1.out.step (HIQ.out.po (by omega)) (HOI.out.below HQ1.out.blw) (HGL.out _ HQ1.out.blw) ⟨HIQ.out.off.1, by have := HIQ.out.off.2; omega⟩)
      clear hk1 hcells hbw
      go_upto_region 9 with (go_at_call 21; refine HST.out.mono ?_; rintro e U2 ⟨ans, rfl, hq2, hf2, ha2⟩; have HQ2 := hide hq2; have HF2 := hide hf2; have HA2 := hide ha2; clear hq2 hf2 ha2)
      clear hr1 HST
      have hb5 : Below U2.heap.size U2 (U2.alloc (.cells (ansCs ans) 77)) := (Below.refl _ _).alloc (Nat.le_refl _) _
      have HM2 : CM w U2 M1 M2 q (stepR t p) vf lf := ⟨HQ2.out.more (Below.refl _ _) (fun g q => Or.inl (Or.inl q)), HM1.out.m1.same (HF2.out _ (Or.inl (Or.inl rfl))), HM1.out.m2.same (HF2.out _ (Or.inl (Or.inr rfl))), HM1.out.ne, HM1.out.lo⟩
      have HM3 : Hid (CM w (U2.alloc (.cells (ansCs ans) 77)) M1 M2 q (stepR t p) vf lf) := HM2.below hb5
      have k2 : U2.heap[D]? = some (.cells (opA p lv dv ca cn cc) 61 (0, 0)) := (HF2.out D (Or.inr rfl)).trans HK1.out
      have k3 : (U2.alloc (.cells (ansCs ans) 77)).heap[D]? = some (.cells (opA p lv dv ca cn cc) 61 (0, 0)) := (hb5.block _ (blk_lt k2)).trans k2
      have k4 : (U2.alloc (.cells (ansCs ans) 77)).heap[U2.heap.size]? = some (.cells (ansCs ans) 77 (0, 0)) := heap_alloc_at _ _
      have HACC := hide (accP_iff HA2.out)
      have HISS : Hid (AccS t p → ans.resp.issued = (exR t.ps t.full t.off t.lar t.low p.req).iss) := fun q => by
        have hrd : isRdg p.req.kind = false := by
          have hc := q.2.1
          unfold isCmd at hc
          unfold isRdg
          simp at hc ⊢
          omega
        rw [(HA2.out.2 q.1).2 (Or.inl hrd)]
      have HCS := hide (HCI.out.step (o := p) hn2q hfl HIQ.out HUQ.out HVQ.out)
      clear k2 HK1 HM1 HM2 HQ1 HQ2 HF2 HA2 hb5
      generalize U2.alloc (.cells (ansCs ans) 77) = U3 at *
      generalize U2.heap.size = D3 at *
      have r3 : rng U3 D 0 27 = some (opA p lv dv ca cn cc) := rng_whole k3
      have r4 : rng U3 D3 0 48 = some (ansCs ans) := rng_whole k4
      cases hac : accP p ans.resp with
      | false =>
        as_aux_lemma =>
        have hna : ¬ AccS t p := fun q => by have := HACC.out.2 q; rw [hac] at this; cases this
        have HE : Hid (∀ W, Below U3.heap.size U3 W → CE w W M1 M2 (q + 1) (stAt s (q + 1))) := fun W hW => ⟨fs, rows, vf, lf, by rw [HSQ.out]; exact (HM3.out.below hW).up, by rw [HSQ.out]; exact HCS.out.1 hna, by omega⟩
        go_wp2_with (go_at_call 31; refine (accepted_calls _ p lv dv ca cn cc ans).mono ?_; rintro e U4 ⟨rfl, hb4⟩; rw [hac]; have HE4 := hide (HE.out _ hb4); clear hb4)
        refine Handed.intro (n - (q + 1)) (by omega) ?_
        exact hJ1.out _ (.int .i64 ((q + 1 : Nat) : Int)) _ _ ⟨q + 1, by omega, rfl, rfl, HE4⟩ (by kernel_rfl)
      | true =>
        as_aux_lemma =>
        have hacs : AccS t p := HACC.out.1 hac
        obtain ⟨fs', rows', hci', hfl', hst'⟩ := HCS.out.2 hacs
        have HCI' := hide hci'
        have HFS := hide hst'
        have HACS := hide hacs
        clear hci' hst' HCS HACC
        go_upto_region 10 with (go_at_call 31; refine (accepted_calls _ p lv dv ca cn cc ans).mono ?_; rintro e U4 ⟨rfl, hb4⟩; rw [hac]; have HM4 := hide (HM3.out.below hb4); have k3' := (hb4.block _ (blk_lt k3)).trans k3; have k4' := (hb4.block _ (blk_lt k4)).trans k4; clear hb4)
        clear r3 r4 k3 k4 HM3
        have d4 := cells_all k3' 4
        have d5 := cells_all k3' 5
        have d1 := cells_all k3' 1
        simp only [opA, List.getElem?_toArray, List.getElem?_cons_zero, List.getElem?_cons_succ] at d4 d5 d1
        have zD := blk_lt k3'
        have hb5 : Below U4.heap.size U4 (U4.alloc (.cells #[.int .u32 p.req.id, .int .u32 p.req.ref] 106)) := (Below.refl _ _).alloc (Nat.le_refl _) _
        have HM5 := hide (HM4.out.below hb5)
        have k5 : (U4.alloc (.cells #[.int .u32 p.req.id, .int .u32 p.req.ref] 106)).heap[U4.heap.size]? = some (.cells #[.int .u32 p.req.id, .int .u32 p.req.ref] 106 (0, 0)) := heap_alloc_at _ _
        have HKD : Hid ((U4.alloc (.cells #[.int .u32 p.req.id, .int .u32 p.req.ref] 106)).heap[D]? = some (.cells (opA p lv dv ca cn cc) 61 (0, 0))) := (hb5.block _ zD).trans k3'
        have HKA : Hid ((U4.alloc (.cells #[.int .u32 p.req.id, .int .u32 p.req.ref] 106)).heap[D3]? = some (.cells (ansCs ans) 77 (0, 0))) := (hb5.block _ (blk_lt k4')).trans k4'
        go_upto_region 12 with fail
        clear d4 d5 d1 hb5 k3' k4' HM4
        generalize U4.alloc (.cells #[.int .u32 p.req.id, .int .u32 p.req.ref] 106) = U5 at *
        generalize U4.heap.size = E at *
        have e0 := cells_all k5 0
        have e1 := cells_all k5 1
        simp only [List.getElem?_toArray, List.getElem?_cons_zero, List.getElem?_cons_succ] at e0 e1
        have dV := cells_all HKD.out 13
        simp only [opA, List.getElem?_toArray, List.getElem?_cons_zero, List.getElem?_cons_succ] at dV
        have zE := blk_lt k5
        have zD5 := blk_lt HKD.out
        have HKE := hide k5
        have hid : U32 p.req.id := HRQ.out.id
        have href : U32 p.req.ref := HRQ.out.ref
        have HIDR : Hid (U32 p.req.id ∧ U32 p.req.ref) := ⟨hid, href⟩
        clear k5
        have hne1 : E ≠ M1 := fun e => by
          have h1 := HM5.out.m1
          subst e
          obtain ⟨D', ⟨es, clock, he, r⟩, -⟩ := h1
          rw [HKE.out] at he
          cases he
        have hne2 : D ≠ M1 := fun e => by
          have h1 := HM5.out.m1
          subst e
          obtain ⟨D', ⟨es, clock, he, r⟩, -⟩ := h1
          rw [HKD.out] at he
          cases he
        by_cases k12 : p.req.kind = 12
        · as_aux_lemma =>
          have t12 : (p.req.kind == 12) = true := by simp [k12]
          have HFIN : Hid (corV p.req vf = upd2 vf p.req.id p.req.ref (some 1) ∧ corL p.req lf = upd2 lf p.req.id p.req.ref (some p.req.value)) := ⟨by unfold corV; rw [if_pos k12], by unfold corL; rw [if_pos k12]⟩
          go_upto_region 13 with fail
          obtain ⟨V1, hup1, hmk1, hg1⟩ := (HM5.out.m1.same (w' := U5.drew) rfl).put Tryz.mapVer (show q < maxLen by unfold maxLen; omega) hid href (.int .u32 1)
          have hV1 : ∀ b, b < U5.heap.size → b ≠ M1 → V1.heap[b]? = U5.heap[b]? := fun b h1 h2 => hg1.block b h1 (by simpa using h2)
          obtain ⟨V2, hup2, hmk2, hg2⟩ := (HM5.out.m2.same (w' := V1) (hV1 _ HM5.out.m2.lt (fun e => HM5.out.ne e.symm))).put Tryz.mapVal (show q < maxLen by unfold maxLen; omega) hid href (.int .i64 p.req.value)
          have HEND : Hid (CE w V2 M1 M2 (q + 1) (stAt s (q + 1))) := by
            have hc := (HM5.out.below (Below.refl _ _).drew).put2 hg1 hmk1 hg2 hmk2
            exact ⟨fs', rows', corV p.req vf, corL p.req lf, by rw [HSQ.out, HFIN.out.1, HFIN.out.2]; exact hc, by rw [HSQ.out]; exact HCI'.out, by omega⟩
          simp only [keyV] at hup1 hup2
          have HV1 := hide hV1
          clear hmk1 hmk2 hg1 hg2 hV1 t12 k12
          refine wp_region_mixX U5.heap.size M1 [1, 3, 6] (by kernel_rfl) ?_
          refine mixT_slots [0, 2, 4, 5] (fuel := 5) rfl (by kernel_rfl) (by kernel_rfl) (fun d _ _ _ _ h => by cases d <;> exact h) ?_
          simp only [opersAt, List.getElem?_toArray, List.getElem?_cons_zero, List.getElem?_cons_succ]
          repeat (go_big_quiet_step (fail))
          refine wpQuiet_nil ?_
          refine mixT_reads [1, 3, 6] (fuel := 2) rfl (by kernel_rfl) (by decide) (by kernel_rfl) (fun d _ _ _ _ h => by cases d <;> exact h) (exS_drew _ _ _) ?_
          simp only [opersAt, List.getElem?_toArray, List.getElem?_cons_zero, List.getElem?_cons_succ]
          repeat (go_big_quiet_step (fail))
          refine wpQuiet_nil ?_
          refine mixT_one (k := 7) (by kernel_rfl) rfl ?_
          go_wp2
          refine ⟨Or.inr (by intros; exact ⟨⟨V1, HV1.out⟩, rfl⟩), ?_⟩
          refine mixT_one (k := 8) (by kernel_rfl) rfl ?_
          go_wp2
          refine ⟨Or.inl (by kernel_rfl), ?_⟩
          refine mixT_nil (by kernel_rfl) ?_
          go_wp2
          refine Handed.intro (n - (q + 1)) (by omega) ?_
          exact hJ1.out _ (.int .i64 ((q + 1 : Nat) : Int)) _ _ ⟨q + 1, by omega, rfl, rfl, HEND⟩ (by kernel_rfl)
        by_cases k13 : p.req.kind = 13
        · as_aux_lemma =>
          have t12 : (p.req.kind == 12) = false := by simpa using k12
          have t13 : (p.req.kind == 13) = true := by simp [k13]
          have HFIN : Hid (corV p.req vf = upd2 vf p.req.id p.req.ref (some (((vf p.req.id p.req.ref).getD 0 + 1) % 4294967296)) ∧ corL p.req lf = upd2 lf p.req.id p.req.ref (some p.req.value)) := ⟨by unfold corV; rw [if_neg k12, if_pos k13], by unfold corL; rw [if_neg k12, if_pos k13]⟩
          obtain ⟨x, sm, EE, a1, a2, a3, a4, a5, a7, a6⟩ := corr_awaited HCI.out hn2q HIQ.out HIS.out HUQ.out HUS.out HVQ.out HVS.out HACS.out k13 hfl
          obtain ⟨ver, hver, hverb⟩ : ∃ ver, vf p.req.id p.req.ref = some ver ∧ (1 ≤ ver ∧ ver ≤ 65536) := by
            obtain ⟨sst, hs, hc, hlow, hiss⟩ := HACS.out.low
            obtain ⟨-, -, r3⟩ := res_step (n := q) (by omega) (ps := t.ps) (s := sst) (r := p.req) HUQ.out HVQ.out hc HCI.out.cv
            obtain ⟨x0, hx0, x', -, e1, e2, -⟩ := r3 k13
            have := HCI.out.cv x0 hx0
            rw [e1, e2] at this
            have hv := HVQ.out.sm.rs x0 hx0
            exact ⟨_, this.1, by omega, by omega⟩
          obtain ⟨hv1, hv2⟩ := hverb
          have hmod : ((vf p.req.id p.req.ref).getD 0 + 1) % 4294967296 = ver + 1 := by rw [hver, Option.getD_some]; omega
          rw [hmod] at HFIN
          have HA1 := hide a1
          have HA2 := hide a2
          have HA3 := hide a3
          have HA6 := hide a6
          have HA7 := hide a7
          have HVX : Hid (upd2 vf p.req.id p.req.ref (some (ver + 1)) p.req.id p.req.ref = some x.version ∧ upd2 lf p.req.id p.req.ref (some p.req.value) p.req.id p.req.ref = some x.value) := by
            rw [HFIN.out.1] at a4
            rw [HFIN.out.2] at a5
            exact ⟨a4, a5⟩
          clear a1 a2 a3 a4 a5 a6 a7 hmod
          go_upto_region 15 with fail
          refine wp_cut_mask coC15 (fun _ V => Hid (MapK V M1 (q + 1) (.int .u32 0) (upd2 (vU vf) p.req.id p.req.ref (some (.int .u32 (ver + 1)))) ∧ (∀ b, b ≠ M1 → V.heap[b]? = U5.heap[b]?) ∧ U5.heap.size = V.heap.size ∧ Below w.heap.size U5 V)) ?first ?rest
          case first =>
            intro J K' hJ hK'
            as_aux_lemma =>
            have hm1 := HM5.out.m1.same (w' := U5.drew) rfl
            have hlk := hm1.look Tryz.mapVer (Tryz.zeroU32z _) hid href
            have hvv : ((vU vf) p.req.id p.req.ref).getD (.int .u32 0) = .int .u32 ver := by unfold vU; rw [hver]; rfl
            rw [hvv] at hlk
            obtain ⟨v0, st, o1, hme, hlk2, hes⟩ := hm1.entry Tryz.mapVer Tryz.zeroU32z (show q < maxLen by unfold maxLen; omega) hid href
            obtain ⟨o2, hst, hMK⟩ := hes (.int .u32 (ver + 1))
            have hml : M1 < U5.heap.size := HM5.out.m1.lt
            have hst' := hst (Go.ChangeMaps.setBlock U5.drew M1 o1) (setBlock_at hml _)
            have hlk2' := hlk2 (Go.ChangeMaps.setBlock U5.drew M1 o1) (setBlock_at hml _)
            rw [hvv] at hlk2'
            simp only [goInt] at hst'
            simp only [keyV] at hlk hme hlk2'
            have HR : Hid (MapK (Go.ChangeMaps.setBlock (Go.ChangeMaps.setBlock U5.drew M1 o1) M1 o2) M1 (q + 1) (.int .u32 0) (upd2 (vU vf) p.req.id p.req.ref (some (.int .u32 (ver + 1)))) ∧ (∀ b, b ≠ M1 → (Go.ChangeMaps.setBlock (Go.ChangeMaps.setBlock U5.drew M1 o1) M1 o2).heap[b]? = U5.heap[b]?) ∧ U5.heap.size = (Go.ChangeMaps.setBlock (Go.ChangeMaps.setBlock U5.drew M1 o1) M1 o2).heap.size ∧ Below w.heap.size U5 (Go.ChangeMaps.setBlock (Go.ChangeMaps.setBlock U5.drew M1 o1) M1 o2)) := by
              have hsz : U5.heap.size = (Go.ChangeMaps.setBlock (Go.ChangeMaps.setBlock U5.drew M1 o1) M1 o2).heap.size := by rw [setBlock_sz, setBlock_sz]; rfl
              have hot : ∀ b, b ≠ M1 → (Go.ChangeMaps.setBlock (Go.ChangeMaps.setBlock U5.drew M1 o1) M1 o2).heap[b]? = U5.heap[b]? := fun b hb => (setBlock_ne hb _).trans (setBlock_ne hb _)
              exact ⟨hMK _ (setBlock_at (by rw [setBlock_sz]; exact hml) _), hot, hsz, ⟨rfl, rfl, rfl, by omega, fun b hb => hot b (by have := HM5.out.lo.1; omega)⟩⟩
            have HX1 : Hid (∃ y : ExS U5 U5.heap.size M1, Go.ChangeMaps.setBlock U5.drew M1 o1 = y.world) := ⟨⟨Go.ChangeMaps.setBlock U5.drew M1 o1, fun b _ h2 => setBlock_ne (w := U5.drew) h2 _⟩, rfl⟩
            clear hes hst hMK hlk2 hm1
            refine wp_region_mixX U5.heap.size M1 [1] (by kernel_rfl) ?_
            refine mixT_slots [0] (fuel := 6) rfl (by kernel_rfl) (by kernel_rfl) (fun d _ _ _ _ h => by cases d <;> exact h) ?_
            simp only [opersAt, List.getElem?_toArray, List.getElem?_cons_zero]
            repeat (go_big_quiet_step (fail))
            refine wpQuiet_nil ?_
            refine mixT_reads [1] (fuel := 5) rfl (by kernel_rfl) (by decide) (by kernel_rfl) (fun d _ _ _ _ h => by cases d <;> exact h) (exS_drew _ _ _) ?_
            simp only [opersAt, List.getElem?_toArray, List.getElem?_cons_zero, List.getElem?_cons_succ]
            repeat (go_big_quiet_step (fail))
            refine wpQuiet_nil ?_
            refine mixT_two (k := 2) (k' := 4) (by kernel_rfl) rfl rfl ?_ ?_
            · go_wp2
              refine ⟨Or.inr (fun h => h), ?_⟩
              refine mixT_slots [3] (fuel := 3) rfl (by kernel_rfl) (by kernel_rfl) (fun d _ _ _ _ h => by cases d <;> exact h) ?_
              simp only [opersAt, List.getElem?_toArray, List.getElem?_cons_zero, List.getElem?_cons_succ]
              repeat (go_big_quiet_step (fail))
              refine wpQuiet_nil ?_
              refine mixT_one (k := 4) (by kernel_rfl) rfl ?_
              go_wp2
              refine ⟨Or.inr (fun _ => HX1.out), ?_⟩
              refine mixT_slots [5] (fuel := 1) rfl (by kernel_rfl) (by kernel_rfl) (fun d _ _ _ _ h => by cases d <;> exact h) ?_
              simp only [opersAt, List.getElem?_toArray, List.getElem?_cons_zero, List.getElem?_cons_succ]
              repeat (go_big_quiet_step (fail))
              refine wpQuiet_nil ?_
              refine mixT_one (k := 6) (by kernel_rfl) rfl ?_
              go_wp2
              refine ⟨Or.inl (by kernel_rfl), ?_⟩
              refine mixT_nil (by kernel_rfl) ?_
              go_wp2
              refine Met.intro ?_
              exact hJ.out () _ _ HR (by kernel_rfl)
            · go_wp2
              refine ⟨Or.inr (fun _ => HX1.out), ?_⟩
              refine mixT_slots [5] (fuel := 3) rfl (by kernel_rfl) (by kernel_rfl) (fun d _ _ _ _ h => by cases d <;> exact h) ?_
              simp only [opersAt, List.getElem?_toArray, List.getElem?_cons_zero, List.getElem?_cons_succ]
              repeat (go_big_quiet_step (fail))
              refine wpQuiet_nil ?_
              refine mixT_one (k := 2) (by kernel_rfl) rfl ?_
              go_wp2
              refine ⟨Or.inr (fun h => h), ?_⟩
              refine mixT_slots [3] (fuel := 1) rfl (by kernel_rfl) (by kernel_rfl) (fun d _ _ _ _ h => by cases d <;> exact h) ?_
              simp only [opersAt, List.getElem?_toArray, List.getElem?_cons_zero, List.getElem?_cons_succ]
              repeat (go_big_quiet_step (fail))
              refine wpQuiet_nil ?_
              refine mixT_one (k := 6) (by kernel_rfl) rfl ?_
              go_wp2
              refine ⟨Or.inl (by kernel_rfl), ?_⟩
              refine mixT_nil (by kernel_rfl) ?_
              go_wp2
              refine Met.intro ?_
              exact hJ.out () _ _ HR (by kernel_rfl)
          case rest =>
            rintro - uC V HCV
            dsimp only [coC15, maskL_keep, maskL_any, maskL_is, maskL_nil]
            as_aux_lemma =>
            obtain ⟨hmk1, hot, hsz, hbV⟩ := HCV.out
            have hml1 := HM5.out.m1.lt
            have hml2 := HM5.out.m2.lt
            obtain ⟨V2, hup2, hmk2, hg2⟩ := (HM5.out.m2.same (w' := V) (hot _ (fun e => HM5.out.ne e.symm))).put Tryz.mapVal (show q < maxLen by unfold maxLen; omega) hid href (.int .i64 p.req.value)
            have hV2 : ∀ b, b < V.heap.size → b ≠ M2 → V2.heap[b]? = V.heap[b]? := fun b h1 h2 => hg2.block b h1 (by simpa using h2)
            have HM6 : Hid (CM w V2 M1 M2 (q + 1) (stepR t p) (upd2 vf p.req.id p.req.ref (some (ver + 1))) (upd2 lf p.req.id p.req.ref (some p.req.value))) := by
              have hz2 := hg2.size
              rw [vU_upd] at hmk1
              rw [vI_upd] at hmk2
              exact HM5.out.wrote (fun b h1 h2 h3 => (hV2 b (by omega) h3).trans (hot b h2)) (by omega) (hbV.trans ((Below.refl w.heap.size V).grown hg2 (by have := HM5.out.bx.blw.size; omega) (fun j hj => by cases hj; exact HM5.out.lo.2))) (hmk1.same (hV2 M1 (by omega) HM5.out.ne)) hmk2
            have hne3 : E ≠ M2 := fun e => by
              have h1 := HM5.out.m2
              subst e
              obtain ⟨D', ⟨es, clock, he, r⟩, -⟩ := h1
              rw [HKE.out] at he
              cases he
            have HKE2 : Hid (V2.heap[E]? = some (.cells #[.int .u32 p.req.id, .int .u32 p.req.ref] 106 (0, 0))) := (hV2 E (by omega) hne3).trans ((hot E hne1).trans HKE.out)
            have g0 := (cells_all ((hot E hne1).trans HKE.out) 0)
            have g1 := (cells_all ((hot E hne1).trans HKE.out) 1)
            have gV := cells_all ((hot D hne2).trans HKD.out) 13
            simp only [opA, List.getElem?_toArray, List.getElem?_cons_zero, List.getElem?_cons_succ] at g0 g1 gV
            simp only [keyV] at hup2
            clear hmk1 hot hsz hbV hmk2 hg2 hV2 HCV HM5 e0 e1 dV
            go_upto_region 17 with fail
            clear hup2 g0 g1 gV
            have HPO : Hid (PO (stepR t p).ps (stepR t p).low) := HIS.out.po (by omega)
            have HAK := hide (HM6.out.bx.askB HPO.out (HGL.out _ HM6.out.bx.blw) 24 p.req.id p.req.ref rfl hid href)
            have g0 := cells_all HKE2.out 0
            have g1 := cells_all HKE2.out 1
            simp only [List.getElem?_toArray, List.getElem?_cons_zero, List.getElem?_cons_succ] at g0 g1
            have HEND : Hid (∀ W, CM w W M1 M2 (q + 1) (stepR t p) (upd2 vf p.req.id p.req.ref (some (ver + 1))) (upd2 lf p.req.id p.req.ref (some p.req.value)) → CE w W M1 M2 (q + 1) (stAt s (q + 1))) := fun W hW => ⟨fs', rows', _, _, by rw [HSQ.out]; exact hW, by rw [HSQ.out, ← HFIN.out.1, ← HFIN.out.2]; exact HCI'.out, hfl'⟩
            by_cases h0 : holdsOf (stepR t p).low sm x = 0
            · as_aux_lemma =>
              go_upto_region 18 with (go_at_call 27; refine HAK.out.mono ?_; rintro e V3 ⟨rsp, rfl, hb3, hp3⟩; have hh : (rsp.holds != 0) = false := (by rw [ask_elig hp3 HA1.out HA2.out, h0]; rfl); have HB3 := hide hb3; clear hb3 hp3 HAK)
              have HM7 := hide (HM6.out.below HB3.out)
              have HKE3 : Hid (V3.heap[E]? = some (.cells #[.int .u32 p.req.id, .int .u32 p.req.ref] 106 (0, 0))) := (HB3.out.block _ (blk_lt HKE2.out)).trans HKE2.out
              have HAW := hide (HA6.out h0)
              clear g0 g1 HB3 HM6 HKE2 HA6 hh
              have HAK := hide (HM7.out.bx.askB HPO.out (HGL.out _ HM7.out.bx.blw) 25 0 0 rfl u32z u32z)
              go_upto_region 20 with (go_at_call 27; refine HAK.out.mono ?_; rintro e V4 ⟨rsp2, rfl, hb4, hp4⟩; obtain ⟨sa, sn, sc, hsl, hown⟩ := ask_pend hp4 HA3.out; have hsv : sv rsp2.chg = .slice sa sn sc := (by rw [hsl]; rfl); clear hsl; have HB4 := hide hb4; have HOW := hide hown; clear hb4 hp4 HAK hown)
              have HM8 := hide (HM7.out.below HB4.out)
              have HKE4 : Hid (V4.heap[E]? = some (.cells #[.int .u32 p.req.id, .int .u32 p.req.ref] 106 (0, 0))) := (HB4.out.block _ (blk_lt HKE3.out)).trans HKE3.out
              clear HB4 HM7 HKE3 hsv
              generalize differ rows EE = l at *
              have hsn : sn = l.length := by
                obtain ⟨a', c', e'⟩ := HOW.out.form
                injection e'
              have HSN : Hid (sn = l.length) := hsn
              have hsnb : sn ≤ 262144 := by have := HA7.out; omega
              have HXV : ∃ xv xl, Hid (xv = x.version ∧ xl = x.value) := ⟨_, _, rfl, rfl⟩
              obtain ⟨xv, xl, HXV⟩ := HXV
              rw [← HXV.out.1, ← HXV.out.2] at HAW
              clear hsn HA7
              refine wp_loop_mask coL2 (fun g y wr => ∃ j : Nat, j ≤ sn ∧ g = sn - j ∧ y.1 = .bool ((l.take j).foldl (awB p.req.id p.req.ref xv xl) false) ∧ y.2 = .int .i64 j ∧ Hid (Below V4.heap.size V4 wr)) sn (.bool false, .int .i64 0) ⟨0, by omega, by omega, rfl, rfl, Below.refl _ _⟩ (by kernel_rfl) ?_
              rintro gk2 ⟨y10, y82⟩ u2 wr hrel J2 K2 hJ2 hK2
              dsimp only [coL2, maskL_keep, maskL_any, maskL_is, maskL_nil]
              obtain ⟨j, hj, rfl, rfl, rfl, HBL⟩ := hrel
              by_cases hjl : j < sn
              · as_aux_lemma =>
                have hjl2 : j < l.length := by rw [← HSN.out]; exact hjl
                obtain ⟨g, gcap, ge, -, hgl, hge⟩ := HOW.out.elem changeCs_size (by decide) (by rw [← HSN.out]; omega) (by omega)
                injection ge with ge1 ge2 ge3
                subst ge1
                subst ge3
                have hce := hge j hjl2
                rw [← rng_of_block (HBL.out.block _ hgl)] at hce
                have hgw : g < wr.heap.size := by have := HBL.out.size; omega
                have HTK : Hid ((l.take (j + 1)).foldl (awB p.req.id p.req.ref xv xl) false = awB p.req.id p.req.ref xv xl ((l.take j).foldl (awB p.req.id p.req.ref xv xl) false) l[j]) := by
                  show _ = _
                  rw [List.take_succ_eq_append_getElem hjl2, List.foldl_append]
                  rfl
                clear hge ge2 hgl
                generalize l[j] = c at *
                generalize (l.take j).foldl (awB p.req.id p.req.ref xv xl) false = bj at *
                have hkc : (wr.alloc (.cells (changeCs c) 111)).heap[wr.heap.size]? = some (.cells (changeCs c) 111 (0, 0)) := heap_alloc_at _ _
                have HBN : Hid (Below V4.heap.size V4 (wr.alloc (.cells (changeCs c) 111))) := HBL.out.alloc HBL.out.size _
                go_upto_region 22 with fail
                generalize wr.alloc (.cells (changeCs c) 111) = V5 at *
                generalize wr.heap.size = C at *
                obtain ⟨c0, c1, c2, c3, c4⟩ := chgCells5 hkc
                have zC := blk_lt hkc
                have hkE := (HBN.out.block _ (blk_lt HKE4.out)).trans HKE4.out
                have g0 := cells_all hkE 0
                have g1 := cells_all hkE 1
                simp only [List.getElem?_toArray, List.getElem?_cons_zero, List.getElem?_cons_succ] at g0 g1
                have zE5 := blk_lt hkE
                have hM5 := HM8.out.below (HBN.out.mono (Nat.le_refl _))
                have hl1 := (hM5.m1.same (w' := V5.drew) rfl).look Tryz.mapVer (Tryz.zeroU32z _) hid href
                have hl2 := (hM5.m2.same (w' := V5.drew) rfl).look Tryz.mapVal (Tryz.zeroI64z _) hid href
                have hv1' : (vU (upd2 vf p.req.id p.req.ref (some (ver + 1))) p.req.id p.req.ref).getD (.int .u32 0) = .int .u32 xv := by unfold vU; rw [HVX.out.1, HXV.out.1]; rfl
                have hv2' : (vI (upd2 lf p.req.id p.req.ref (some p.req.value)) p.req.id p.req.ref).getD (.int .i64 0) = .int .i64 xl := by unfold vI; rw [HVX.out.2, HXV.out.2]; rfl
                rw [hv1'] at hl1
                rw [hv2'] at hl2
                simp only [keyV] at hl1 hl2
                clear hkc hkE hM5 hv1' hv2' hce hgw HBL
                have HNX : Hid (∀ (b' : Bool), b' = awB p.req.id p.req.ref xv xl bj c → Value.bool b' = Value.bool ((l.take (j + 1)).foldl (awB p.req.id p.req.ref xv xl) false)) := fun b' e => by rw [HTK.out, e]
                by_cases hs1 : c.row.sample = p.req.id
                · have q1 : (c.row.sample == p.req.id) = true := by simp [hs1]
                  by_cases hs2 : c.row.analyte = p.req.ref
                  · as_aux_lemma =>
                    have q2 : (c.row.analyte == p.req.ref) = true := by simp [hs2]
                    have hawb : awB p.req.id p.req.ref xv xl bj c = (c.action != 87 && c.row.version == xv && c.row.value == xl) := by unfold awB; rw [if_pos ⟨hs1, hs2⟩]
                    rw [hawb] at HNX
                    clear hawb hs1 hs2
                    go_upto_region 23 with fail
                    clear q1 q2
                    cases p1 : (c.action != 87) with
                    | false =>
                      as_aux_lemma =>
                      rw [p1] at HNX
                      refine wp_region_mixT (V5.heap.size) [1, 6, 8, 15, 17] (by kernel_rfl) ?_
                      refine mixT_slots [0] (fuel := 21) rfl (by kernel_rfl) (by kernel_rfl) (fun d _ _ _ _ h => by cases d <;> exact h) ?_
                      simp only [opersAt, List.getElem?_toArray, List.getElem?_cons_zero]
                      repeat (go_big_quiet_step (fail))
                      refine wpQuiet_nil ?_
                      refine mixT_reads [1] (fuel := 20) rfl (by kernel_rfl) (by decide) (by kernel_rfl) (fun d _ _ _ _ h => by cases d <;> exact h) (ext_drew _ _) ?_
                      simp only [opersAt, List.getElem?_toArray, List.getElem?_cons_zero, List.getElem?_cons_succ]
                      repeat (go_big_quiet_step (fail))
                      refine wpQuiet_nil ?_
                      refine mixT_slots [2, 3, 4, 5, 7] (fuel := 15) rfl (by kernel_rfl) (by kernel_rfl) (fun d _ _ _ _ h => by cases d <;> exact h) ?_
                      simp only [opersAt, List.getElem?_toArray, List.getElem?_cons_zero, List.getElem?_cons_succ]
                      repeat (go_big_quiet_step (fail))
                      refine wpQuiet_nil ?_
                      refine mixT_reads [6, 8] (fuel := 13) rfl (by kernel_rfl) (by decide) (by kernel_rfl) (fun d _ _ _ _ h => by cases d <;> exact h) (ext_drew _ _) ?_
                      simp only [opersAt, List.getElem?_toArray, List.getElem?_cons_zero, List.getElem?_cons_succ]
                      repeat (go_big_quiet_step (fail))
                      refine wpQuiet_nil ?_
                      refine mixT_one (k := 9) (by kernel_rfl) rfl ?_
                      go_wp2
                      refine ⟨Or.inr (fun h => h), ?_⟩
                      refine mixT_slots [10, 11, 12, 13, 14, 16] (fuel := 6) rfl (by kernel_rfl) (by kernel_rfl) (fun d _ _ _ _ h => by cases d <;> exact h) ?_
                      simp only [opersAt, List.getElem?_toArray, List.getElem?_cons_zero, List.getElem?_cons_succ]
                      repeat (go_big_quiet_step (fail))
                      refine wpQuiet_nil ?_
                      refine mixT_reads [15, 17] (fuel := 4) rfl (by kernel_rfl) (by decide) (by kernel_rfl) (fun d _ _ _ _ h => by cases d <;> exact h) (ext_drew _ _) ?_
                      simp only [opersAt, List.getElem?_toArray, List.getElem?_cons_zero, List.getElem?_cons_succ]
                      repeat (go_big_quiet_step (fail))
                      refine wpQuiet_nil ?_
                      refine mixT_one (k := 18) (by kernel_rfl) rfl ?_
                      go_wp2
                      refine ⟨Or.inr (fun h => h), ?_⟩
                      refine mixT_slots [19, 20, 21] (fuel := 0) rfl (by kernel_rfl) (by kernel_rfl) (fun d _ _ _ _ h => by cases d <;> exact h) ?_
                      simp only [opersAt, List.getElem?_toArray, List.getElem?_cons_zero, List.getElem?_cons_succ]
                      repeat (go_big_quiet_step (fail))
                      refine wpQuiet_nil ?_
                      refine mixT_nil (by kernel_rfl) ?_
                      go_wp2
                      refine Handed.intro (sn - (j + 1)) (by omega) ?_
                      exact hJ2.out _ (.bool false, .int .i64 ((j + 1 : Nat) : Int)) _ _ ⟨j + 1, by omega, rfl, HNX.out _ (by simp), rfl, HBN.out.drew⟩ (by kernel_rfl)
                    | true =>
                      cases p2 : (c.row.version == xv) with
                      | false =>
                        as_aux_lemma =>
                        rw [p1, p2] at HNX
                        refine wp_region_mixT (V5.heap.size) [1, 6, 8, 15, 17] (by kernel_rfl) ?_
                        refine mixT_slots [0] (fuel := 21) rfl (by kernel_rfl) (by kernel_rfl) (fun d _ _ _ _ h => by cases d <;> exact h) ?_
                        simp only [opersAt, List.getElem?_toArray, List.getElem?_cons_zero]
                        repeat (go_big_quiet_step (fail))
                        refine wpQuiet_nil ?_
                        refine mixT_reads [1] (fuel := 20) rfl (by kernel_rfl) (by decide) (by kernel_rfl) (fun d _ _ _ _ h => by cases d <;> exact h) (ext_drew _ _) ?_
                        simp only [opersAt, List.getElem?_toArray, List.getElem?_cons_zero, List.getElem?_cons_succ]
                        repeat (go_big_quiet_step (fail))
                        refine wpQuiet_nil ?_
                        refine mixT_slots [2, 3, 4, 5, 7] (fuel := 15) rfl (by kernel_rfl) (by kernel_rfl) (fun d _ _ _ _ h => by cases d <;> exact h) ?_
                        simp only [opersAt, List.getElem?_toArray, List.getElem?_cons_zero, List.getElem?_cons_succ]
                        repeat (go_big_quiet_step (fail))
                        refine wpQuiet_nil ?_
                        refine mixT_reads [6, 8] (fuel := 13) rfl (by kernel_rfl) (by decide) (by kernel_rfl) (fun d _ _ _ _ h => by cases d <;> exact h) (ext_drew _ _) ?_
                        simp only [opersAt, List.getElem?_toArray, List.getElem?_cons_zero, List.getElem?_cons_succ]
                        repeat (go_big_quiet_step (fail))
                        refine wpQuiet_nil ?_
                        refine mixT_one (k := 9) (by kernel_rfl) rfl ?_
                        go_wp2
                        refine ⟨Or.inr (fun h => h), ?_⟩
                        refine mixT_slots [10, 11, 12, 13, 14, 16] (fuel := 6) rfl (by kernel_rfl) (by kernel_rfl) (fun d _ _ _ _ h => by cases d <;> exact h) ?_
                        simp only [opersAt, List.getElem?_toArray, List.getElem?_cons_zero, List.getElem?_cons_succ]
                        repeat (go_big_quiet_step (fail))
                        refine wpQuiet_nil ?_
                        refine mixT_reads [15, 17] (fuel := 4) rfl (by kernel_rfl) (by decide) (by kernel_rfl) (fun d _ _ _ _ h => by cases d <;> exact h) (ext_drew _ _) ?_
                        simp only [opersAt, List.getElem?_toArray, List.getElem?_cons_zero, List.getElem?_cons_succ]
                        repeat (go_big_quiet_step (fail))
                        refine wpQuiet_nil ?_
                        refine mixT_one (k := 18) (by kernel_rfl) rfl ?_
                        go_wp2
                        refine ⟨Or.inr (fun h => h), ?_⟩
                        refine mixT_slots [19, 20, 21] (fuel := 0) rfl (by kernel_rfl) (by kernel_rfl) (fun d _ _ _ _ h => by cases d <;> exact h) ?_
                        simp only [opersAt, List.getElem?_toArray, List.getElem?_cons_zero, List.getElem?_cons_succ]
                        repeat (go_big_quiet_step (fail))
                        refine wpQuiet_nil ?_
                        refine mixT_nil (by kernel_rfl) ?_
                        go_wp2
                        refine Handed.intro (sn - (j + 1)) (by omega) ?_
                        exact hJ2.out _ (.bool false, .int .i64 ((j + 1 : Nat) : Int)) _ _ ⟨j + 1, by omega, rfl, HNX.out _ (by simp), rfl, HBN.out.drew⟩ (by kernel_rfl)
                      | true =>
                        as_aux_lemma =>
                        rw [p1, p2] at HNX
                        refine wp_region_mixT (V5.heap.size) [1, 6, 8, 15, 17] (by kernel_rfl) ?_
                        refine mixT_slots [0] (fuel := 21) rfl (by kernel_rfl) (by kernel_rfl) (fun d _ _ _ _ h => by cases d <;> exact h) ?_
                        simp only [opersAt, List.getElem?_toArray, List.getElem?_cons_zero]
                        repeat (go_big_quiet_step (fail))
                        refine wpQuiet_nil ?_
                        refine mixT_reads [1] (fuel := 20) rfl (by kernel_rfl) (by decide) (by kernel_rfl) (fun d _ _ _ _ h => by cases d <;> exact h) (ext_drew _ _) ?_
                        simp only [opersAt, List.getElem?_toArray, List.getElem?_cons_zero, List.getElem?_cons_succ]
                        repeat (go_big_quiet_step (fail))
                        refine wpQuiet_nil ?_
                        refine mixT_slots [2, 3, 4, 5, 7] (fuel := 15) rfl (by kernel_rfl) (by kernel_rfl) (fun d _ _ _ _ h => by cases d <;> exact h) ?_
                        simp only [opersAt, List.getElem?_toArray, List.getElem?_cons_zero, List.getElem?_cons_succ]
                        repeat (go_big_quiet_step (fail))
                        refine wpQuiet_nil ?_
                        refine mixT_reads [6, 8] (fuel := 13) rfl (by kernel_rfl) (by decide) (by kernel_rfl) (fun d _ _ _ _ h => by cases d <;> exact h) (ext_drew _ _) ?_
                        simp only [opersAt, List.getElem?_toArray, List.getElem?_cons_zero, List.getElem?_cons_succ]
                        repeat (go_big_quiet_step (fail))
                        refine wpQuiet_nil ?_
                        refine mixT_one (k := 9) (by kernel_rfl) rfl ?_
                        go_wp2
                        refine ⟨Or.inr (fun h => h), ?_⟩
                        refine mixT_slots [10, 11, 12, 13, 14, 16] (fuel := 6) rfl (by kernel_rfl) (by kernel_rfl) (fun d _ _ _ _ h => by cases d <;> exact h) ?_
                        simp only [opersAt, List.getElem?_toArray, List.getElem?_cons_zero, List.getElem?_cons_succ]
                        repeat (go_big_quiet_step (fail))
                        refine wpQuiet_nil ?_
                        refine mixT_reads [15, 17] (fuel := 4) rfl (by kernel_rfl) (by decide) (by kernel_rfl) (fun d _ _ _ _ h => by cases d <;> exact h) (ext_drew _ _) ?_
                        simp only [opersAt, List.getElem?_toArray, List.getElem?_cons_zero, List.getElem?_cons_succ]
                        repeat (go_big_quiet_step (fail))
                        refine wpQuiet_nil ?_
                        refine mixT_one (k := 18) (by kernel_rfl) rfl ?_
                        go_wp2
                        refine ⟨Or.inr (fun h => h), ?_⟩
                        refine mixT_slots [19, 20, 21] (fuel := 0) rfl (by kernel_rfl) (by kernel_rfl) (fun d _ _ _ _ h => by cases d <;> exact h) ?_
                        simp only [opersAt, List.getElem?_toArray, List.getElem?_cons_zero, List.getElem?_cons_succ]
                        repeat (go_big_quiet_step (fail))
                        refine wpQuiet_nil ?_
                        refine mixT_nil (by kernel_rfl) ?_
                        go_wp2
                        refine Handed.intro (sn - (j + 1)) (by omega) ?_
                        exact hJ2.out _ (.bool (c.row.value == xl), .int .i64 ((j + 1 : Nat) : Int)) _ _ ⟨j + 1, by omega, rfl, HNX.out _ (by simp), rfl, HBN.out.drew⟩ (by kernel_rfl)
                  · as_aux_lemma =>
                    have q2 : (c.row.analyte == p.req.ref) = false := by simpa using hs2
                    have hawb : awB p.req.id p.req.ref xv xl bj c = bj := by unfold awB; rw [if_neg (fun e => hs2 e.2)]
                    go_wp2
                    refine Handed.intro (sn - (j + 1)) (by omega) ?_
                    exact hJ2.out _ (.bool bj, .int .i64 ((j + 1 : Nat) : Int)) _ _ ⟨j + 1, by omega, rfl, HNX.out _ hawb.symm, rfl, HBN⟩ (by kernel_rfl)
                · as_aux_lemma =>
                  have q1 : (c.row.sample == p.req.id) = false := by simpa using hs1
                  have hawb : awB p.req.id p.req.ref xv xl bj c = bj := by unfold awB; rw [if_neg (fun e => hs1 e.1)]
                  go_wp2
                  refine Handed.intro (sn - (j + 1)) (by omega) ?_
                  exact hJ2.out _ (.bool bj, .int .i64 ((j + 1 : Nat) : Int)) _ _ ⟨j + 1, by omega, rfl, HNX.out _ hawb.symm, rfl, HBN⟩ (by kernel_rfl)
              · as_aux_lemma =>
                obtain rfl : j = sn := by omega
                have haw : (l.take j).foldl (awB p.req.id p.req.ref xv xl) false = true := by
                  rw [List.take_of_length_le (by rw [← HSN.out]; omega)]
                  exact HAW.out
                rw [haw]
                have HE3 := hide (HEND.out _ (HM8.out.below HBL.out))
                go_wp2
                refine Handed.intro (n - (q + 1)) (by omega) ?_
                exact hJ1.out _ (.int .i64 ((q + 1 : Nat) : Int)) _ _ ⟨q + 1, by omega, rfl, rfl, HE3⟩ (by kernel_rfl)
            · as_aux_lemma =>
              go_wp2_with (go_at_call 27; refine HAK.out.mono ?_; rintro e V3 ⟨rsp, rfl, hb3, hp3⟩; have hh : (rsp.holds != 0) = true := (by rw [ask_elig hp3 HA1.out HA2.out]; simpa using h0); have HE3 := hide (HEND.out _ (HM6.out.below hb3)); clear hb3 hp3 HAK)
              refine Handed.intro (n - (q + 1)) (by omega) ?_
              exact hJ1.out _ (.int .i64 ((q + 1 : Nat) : Int)) _ _ ⟨q + 1, by omega, rfl, rfl, HE3⟩ (by kernel_rfl)
        by_cases kis : p.req.kind = 19 ∨ p.req.kind = 20
        · as_aux_lemma =>
          have t12 : (p.req.kind == 12) = false := by simpa using k12
          have t13 : (p.req.kind == 13) = false := by simpa using k13
          obtain ⟨i1, i2, i3, f, i4, i5⟩ := issued_cv HCI.out HUQ.out HFS.out kis
          have hci2 := HCI'.out
          rw [i2, i3] at hci2
          have HCI2 := hide hci2
          have HI5 := hide i5
          have hisd := HISS.out HACS.out
          rw [i1] at hisd
          have hlf : fs.length < fs'.length := by rw [i4]; simp
          have hff : fs'[fs.length] = f := by simp [i4]
          have HFF := hide hff
          have HFM : Hid (f ∈ fs') := by
            show f ∈ fs'
            rw [← hff]
            exact List.getElem_mem hlf
          have HLF : Hid (fs.length < fs'.length) := hlf
          have hcl := HCI2.out.cl _ (List.getElem_mem hlf)
          have HPO : Hid (PO (stepR t p).ps (stepR t p).low) := HIS.out.po (by omega)
          have hiu : U32 ((fs.length : Int) + 1) := ⟨by omega, by omega⟩
          have HFB := hide (HCI2.out.fi.fbR (by omega) hlf)
          obtain ⟨Y, hbn, hfile⟩ := HM5.out.bx.fileB HPO.out hiu
          rw [HFB.out] at hfile
          have HFL := hide hfile
          have b2 := cells_all hbn 2
          have a1 := cells_all HKA.out 1
          simp only [ansCs, List.getElem?_toArray, List.getElem?_cons_zero, List.getElem?_cons_succ] at b2 a1
          rw [hisd] at a1
          have zB := blk_lt hbn
          have zA := blk_lt HKA.out
          have HCL : Hid (fs'[fs.length].changes.length ≤ 65536) := hcl
          clear i1 i2 i3 i4 i5 hci2 hisd hcl hbn hfile hff
          cases t19 : (p.req.kind == 19) with
          | true =>
            as_aux_lemma =>
            go_upto_region 29 with fail
            refine wp_region_mixT (U5.heap.size) [3, 6] (by kernel_rfl) ?_
            refine mixT_slots [0, 1, 2, 4, 5] (fuel := 8) rfl (by kernel_rfl) (by kernel_rfl) (fun d _ _ _ _ h => by cases d <;> exact h) ?_
            simp only [opersAt, List.getElem?_toArray, List.getElem?_cons_zero, List.getElem?_cons_succ]
            repeat (go_big_quiet_step (fail))
            refine wpQuiet_nil ?_
            refine mixT_reads [3, 6] (fuel := 6) rfl (by kernel_rfl) (by decide) (by kernel_rfl) (fun d _ _ _ _ h => by cases d <;> exact h) (ext_drew _ _) ?_
            simp only [opersAt, List.getElem?_toArray, List.getElem?_cons_zero, List.getElem?_cons_succ]
            repeat (go_big_quiet_step (fail))
            refine wpQuiet_nil ?_
            refine mixT_one (k := 7) (by kernel_rfl) rfl ?_
            go_wp2_with (go_at_call 32; refine (HFL.out _ (Below.refl _ _).drew).mono ?_; rintro e V1 ⟨v1, rfl, hown, hb1⟩)
            have hbV : Below U5.heap.size U5 V1 := (Below.refl _ _).drew.trans hb1
            refine ⟨Or.inr (by intros; exact ⟨⟨_, hbV⟩, rfl⟩), ?_⟩
            obtain ⟨pa, pn, pc, rfl, hparse⟩ := HCI2.out.fi.fileAt (by omega) HLF.out HCL.out hown
            have HPA := hide (hparse V1 (Below.refl _ _))
            have HBV := hide hbV
            clear hown hb1 hbV hparse a1 b2
            refine mixT_slots [8, 9, 10, 11, 12] (fuel := 0) rfl (by kernel_rfl) (by kernel_rfl) (fun d _ _ _ _ h => by cases d <;> exact h) ?_
            simp only [opersAt, List.getElem?_toArray, List.getElem?_cons_zero, List.getElem?_cons_succ]
            repeat (go_big_quiet_step (fail))
            refine wpQuiet_nil ?_
            refine mixT_nil (by kernel_rfl) ?_
            go_upto_region 35 with (go_at_call 33; refine HPA.out.mono ?_; rintro e V2 ⟨qa, qc, rfl, hch, hb2⟩; have HCH := hide hch; have HB2 := hide hb2; clear hch hb2)
            generalize hfv : fs'[fs.length] = fv at *
            have hfe : fv = f := HFF.out
            subst hfe
            clear hfv HFB HFL HPA
            obtain ⟨m, hm⟩ : ∃ m, m = fv.changes.length := ⟨_, rfl⟩
            have Hm : Hid (m = fv.changes.length) := hm
            rw [← hm] at HCH ⊢
            have hm65 : m ≤ 65536 := by have := HCL.out; omega
            have hkF : (V2.alloc (.cells (fileCs fv.kind fv.seq fv.issued fv.base qa m qc) 59)).heap[V2.heap.size]? = some (.cells (fileCs fv.kind fv.seq fv.issued fv.base qa m qc) 59 (0, 0)) := heap_alloc_at _ _
            have HBA : Hid (Below U5.heap.size U5 (V2.alloc (.cells (fileCs fv.kind fv.seq fv.issued fv.base qa m qc) 59))) := (HBV.out.trans (HB2.out.mono HBV.out.size)).alloc (Nat.le_trans HBV.out.size HB2.out.size) _
            have hch2 := RArr.below HCH.out ((Below.refl _ _).alloc (Nat.le_refl _) (.cells (fileCs fv.kind fv.seq fv.issued fv.base qa m qc) 59))
            clear hm HCH HB2 HBV
            generalize V2.alloc (.cells (fileCs fv.kind fv.seq fv.issued fv.base qa m qc) 59) = V3 at *
            generalize V2.heap.size = FB at *
            have f4 : V3.cell? ⟨FB, 4, none⟩ = some (.slice qa m qc) := cells_all hkF 4
            obtain ⟨ca', ccap, cb, coff, ce, cl1, cl2, cl3, cha, chc⟩ := RArr.lt hch2
            injection ce with ce1 ce2 ce3
            subst ce1
            subst ce3
            have hic := run_indexAt_arr (P := Tryz.prog) (n := m) (cap := qc) (a := qa) (b := cb) (off := coff) Tryz.underlying57 Tryz.size111 (fun h => (cha (by rw [← Hm.out]; exact h)).1)
            have HCB : Hid (0 < m → cb < V3.heap.size) := fun h => (cha (by rw [← Hm.out]; exact h)).2.2
            have HCC := hide chc
            clear ce2 cl1 cl2 cl3 cha chc hch2 hkF
            go_upto_region 36 with fail
            clear f4
            have HM9 := hide (HM5.out.below HBA.out)
            clear HM5
            refine wp_loop_mask coL3 (fun g y wr => ∃ j : Nat, j ≤ m ∧ g = m - j ∧ y = .int .i64 j ∧ Hid (Below V3.heap.size V3 wr)) m (.int .i64 0) ⟨0, by omega, by omega, rfl, Below.refl _ _⟩ (by kernel_rfl) ?_
            intro gk3 y150 u3 wr hrel J3 K3 hJ3 hK3
            dsimp only [coL3, maskL_keep, maskL_any, maskL_is, maskL_nil]
            obtain ⟨j, hj, rfl, rfl, HBL⟩ := hrel
            by_cases hjm : j < m
            · as_aux_lemma =>
              have hjl : j < fv.changes.length := by rw [← Hm.out]; exact hjm
              have hcbw := HCB.out (by omega)
              have hce := HCC.out j hjl
              rw [← rng_of_block (HBL.out.block _ hcbw)] at hce
              have hcw : cb < wr.heap.size := by have := HBL.out.size; omega
              have HCG := hide (HI5.out _ (List.getElem_mem hjl))
              have HCO := hide ((HCI2.out.fi.cok fv HFM.out _ (List.getElem_mem hjl)).row)
              generalize fv.changes[j] = c at *
              have hkc : (wr.alloc (.cells (changeCs c) 111)).heap[wr.heap.size]? = some (.cells (changeCs c) 111 (0, 0)) := heap_alloc_at _ _
              have HBN : Hid (Below V3.heap.size V3 (wr.alloc (.cells (changeCs c) 111))) := HBL.out.alloc HBL.out.size _
              go_upto_region 38 with fail
              generalize wr.alloc (.cells (changeCs c) 111) = V5 at *
              generalize wr.heap.size = C at *
              obtain ⟨c0, c1, c2, c3, c4⟩ := chgCells5 hkc
              have zC := blk_lt hkc
              clear hce hcw HBL hic
              have hkK : (V5.alloc (.cells #[.int .u32 c.row.sample, .int .u32 c.row.analyte] 106)).heap[V5.heap.size]? = some (.cells #[.int .u32 c.row.sample, .int .u32 c.row.analyte] 106 (0, 0)) := heap_alloc_at _ _
              have hbK : Below V5.heap.size V5 (V5.alloc (.cells #[.int .u32 c.row.sample, .int .u32 c.row.analyte] 106)) := (Below.refl _ _).alloc (Nat.le_refl _) _
              have hkc6 := (hbK.block _ zC).trans hkc
              have HBN6 := hide (HBN.out.trans (hbK.mono HBN.out.size))
              go_upto_region 39 with fail
              clear c0 c1 c2 c3 c4 zC hkc hbK HBN
              generalize V5.alloc (.cells #[.int .u32 c.row.sample, .int .u32 c.row.analyte] 106) = V6 at *
              generalize V5.heap.size = KB at *
              obtain ⟨c0, c1, c2, c3, c4⟩ := chgCells5 hkc6
              have g0 := cells_all hkK 0
              have g1 := cells_all hkK 1
              simp only [List.getElem?_toArray, List.getElem?_cons_zero, List.getElem?_cons_succ] at g0 g1
              have zC := blk_lt hkc6
              have zK := blk_lt hkK
              clear hkc6 hkK
              have HFINR : Hid (∀ W, Below V6.heap.size V6 W → Below V3.heap.size V3 W) := fun W hW => HBN6.out.trans (hW.mono HBN6.out.size)
              cases p1 : (c.action != 87) with
              | false =>
                as_aux_lemma =>
                clear c1 c2
                refine wp_region_mixT (V6.heap.size) [1, 6, 8, 14, 16] (by kernel_rfl) ?_
                refine mixT_slots [0] (fuel := 20) rfl (by kernel_rfl) (by kernel_rfl) (fun d _ _ _ _ h => by cases d <;> exact h) ?_
                simp only [opersAt, List.getElem?_toArray, List.getElem?_cons_zero]
                repeat (go_big_quiet_step (fail))
                refine wpQuiet_nil ?_
                refine mixT_reads [1] (fuel := 19) rfl (by kernel_rfl) (by decide) (by kernel_rfl) (fun d _ _ _ _ h => by cases d <;> exact h) (ext_drew _ _) ?_
                simp only [opersAt, List.getElem?_toArray, List.getElem?_cons_zero, List.getElem?_cons_succ]
                repeat (go_big_quiet_step (fail))
                refine wpQuiet_nil ?_
                refine mixT_slots [2, 3, 4, 5, 7] (fuel := 14) rfl (by kernel_rfl) (by kernel_rfl) (fun d _ _ _ _ h => by cases d <;> exact h) ?_
                simp only [opersAt, List.getElem?_toArray, List.getElem?_cons_zero, List.getElem?_cons_succ]
                repeat (go_big_quiet_step (fail))
                refine wpQuiet_nil ?_
                refine mixT_reads [6, 8] (fuel := 12) rfl (by kernel_rfl) (by decide) (by kernel_rfl) (fun d _ _ _ _ h => by cases d <;> exact h) (ext_drew _ _) ?_
                simp only [opersAt, List.getElem?_toArray, List.getElem?_cons_zero, List.getElem?_cons_succ]
                repeat (go_big_quiet_step (fail))
                refine wpQuiet_nil ?_
                refine mixT_one (k := 9) (by kernel_rfl) rfl ?_
                go_wp2
                refine ⟨Or.inr (fun h => h), ?_⟩
                refine mixT_slots [10, 11, 12, 13, 15] (fuel := 6) rfl (by kernel_rfl) (by kernel_rfl) (fun d _ _ _ _ h => by cases d <;> exact h) ?_
                simp only [opersAt, List.getElem?_toArray, List.getElem?_cons_zero, List.getElem?_cons_succ]
                repeat (go_big_quiet_step (fail))
                refine wpQuiet_nil ?_
                refine mixT_reads [14, 16] (fuel := 4) rfl (by kernel_rfl) (by decide) (by kernel_rfl) (fun d _ _ _ _ h => by cases d <;> exact h) (ext_drew _ _) ?_
                simp only [opersAt, List.getElem?_toArray, List.getElem?_cons_zero, List.getElem?_cons_succ]
                repeat (go_big_quiet_step (fail))
                refine wpQuiet_nil ?_
                refine mixT_one (k := 17) (by kernel_rfl) rfl ?_
                go_wp2
                refine ⟨Or.inr (fun h => h), ?_⟩
                refine mixT_slots [18, 19, 20] (fuel := 0) rfl (by kernel_rfl) (by kernel_rfl) (fun d _ _ _ _ h => by cases d <;> exact h) ?_
                simp only [opersAt, List.getElem?_toArray, List.getElem?_cons_zero, List.getElem?_cons_succ]
                repeat (go_big_quiet_step (fail))
                refine wpQuiet_nil ?_
                refine mixT_nil (by kernel_rfl) ?_
                go_wp2
                refine Handed.intro (m - (j + 1)) (by omega) ?_
                exact hJ3.out _ (.int .i64 ((j + 1 : Nat) : Int)) _ _ ⟨j + 1, by omega, rfl, rfl, HFINR.out _ (Below.refl _ _).drew⟩ (by kernel_rfl)
              | true =>
                as_aux_lemma =>
                have hcg := HCG.out (by simpa using p1)
                have hM6 := HM9.out.below HBN6.out
                have hl1 := (hM6.m1.same (w' := V6.drew) rfl).look Tryz.mapVer (Tryz.zeroU32z _) HCO.out.sample HCO.out.analyte
                have hl2 := (hM6.m2.same (w' := V6.drew) rfl).look Tryz.mapVal (Tryz.zeroI64z _) HCO.out.sample HCO.out.analyte
                have hv1' : (vU vf c.row.sample c.row.analyte).getD (.int .u32 0) = .int .u32 c.row.version := by unfold vU; rw [hcg.1]; rfl
                have hv2' : (vI lf c.row.sample c.row.analyte).getD (.int .i64 0) = .int .i64 c.row.value := by unfold vI; rw [hcg.2]; rfl
                rw [hv1'] at hl1
                rw [hv2'] at hl2
                simp only [keyV] at hl1 hl2
                clear hM6 hv1' hv2' hcg c1 c2
                refine wp_region_mixT (V6.heap.size) [1, 6, 8, 14, 16] (by kernel_rfl) ?_
                refine mixT_slots [0] (fuel := 20) rfl (by kernel_rfl) (by kernel_rfl) (fun d _ _ _ _ h => by cases d <;> exact h) ?_
                simp only [opersAt, List.getElem?_toArray, List.getElem?_cons_zero]
                repeat (go_big_quiet_step (fail))
                refine wpQuiet_nil ?_
                refine mixT_reads [1] (fuel := 19) rfl (by kernel_rfl) (by decide) (by kernel_rfl) (fun d _ _ _ _ h => by cases d <;> exact h) (ext_drew _ _) ?_
                simp only [opersAt, List.getElem?_toArray, List.getElem?_cons_zero, List.getElem?_cons_succ]
                repeat (go_big_quiet_step (fail))
                refine wpQuiet_nil ?_
                refine mixT_slots [2, 3, 4, 5, 7] (fuel := 14) rfl (by kernel_rfl) (by kernel_rfl) (fun d _ _ _ _ h => by cases d <;> exact h) ?_
                simp only [opersAt, List.getElem?_toArray, List.getElem?_cons_zero, List.getElem?_cons_succ]
                repeat (go_big_quiet_step (fail))
                refine wpQuiet_nil ?_
                refine mixT_reads [6, 8] (fuel := 12) rfl (by kernel_rfl) (by decide) (by kernel_rfl) (fun d _ _ _ _ h => by cases d <;> exact h) (ext_drew _ _) ?_
                simp only [opersAt, List.getElem?_toArray, List.getElem?_cons_zero, List.getElem?_cons_succ]
                repeat (go_big_quiet_step (fail))
                refine wpQuiet_nil ?_
                refine mixT_one (k := 9) (by kernel_rfl) rfl ?_
                go_wp2
                refine ⟨Or.inr (fun h => h), ?_⟩
                refine mixT_slots [10, 11, 12, 13, 15] (fuel := 6) rfl (by kernel_rfl) (by kernel_rfl) (fun d _ _ _ _ h => by cases d <;> exact h) ?_
                simp only [opersAt, List.getElem?_toArray, List.getElem?_cons_zero, List.getElem?_cons_succ]
                repeat (go_big_quiet_step (fail))
                refine wpQuiet_nil ?_
                refine mixT_reads [14, 16] (fuel := 4) rfl (by kernel_rfl) (by decide) (by kernel_rfl) (fun d _ _ _ _ h => by cases d <;> exact h) (ext_drew _ _) ?_
                simp only [opersAt, List.getElem?_toArray, List.getElem?_cons_zero, List.getElem?_cons_succ]
                repeat (go_big_quiet_step (fail))
                refine wpQuiet_nil ?_
                refine mixT_one (k := 17) (by kernel_rfl) rfl ?_
                go_wp2
                refine ⟨Or.inr (fun h => h), ?_⟩
                refine mixT_slots [18, 19, 20] (fuel := 0) rfl (by kernel_rfl) (by kernel_rfl) (fun d _ _ _ _ h => by cases d <;> exact h) ?_
                simp only [opersAt, List.getElem?_toArray, List.getElem?_cons_zero, List.getElem?_cons_succ]
                repeat (go_big_quiet_step (fail))
                refine wpQuiet_nil ?_
                refine mixT_nil (by kernel_rfl) ?_
                go_wp2
                refine Handed.intro (m - (j + 1)) (by omega) ?_
                exact hJ3.out _ (.int .i64 ((j + 1 : Nat) : Int)) _ _ ⟨j + 1, by omega, rfl, rfl, HFINR.out _ (Below.refl _ _).drew⟩ (by kernel_rfl)
            · as_aux_lemma =>
              have HE3 : Hid (CE w wr M1 M2 (q + 1) (stAt s (q + 1))) := ⟨fs', rows', vf, lf, by rw [HSQ.out]; exact (HM9.out.below HBL.out).up, by rw [HSQ.out]; exact HCI2.out, hfl'⟩
              go_wp2
              refine Handed.intro (n - (q + 1)) (by omega) ?_
              exact hJ1.out _ (.int .i64 ((q + 1 : Nat) : Int)) _ _ ⟨q + 1, by omega, rfl, rfl, HE3⟩ (by kernel_rfl)
          | false =>
            have t20 : (p.req.kind == 20) = true := by
              have h19 : p.req.kind ≠ 19 := by simpa using t19
              have : p.req.kind = 20 := by omega
              simp [this]
            as_aux_lemma =>
            go_upto_region 29 with fail
            refine wp_region_mixT (U5.heap.size) [3, 6] (by kernel_rfl) ?_
            refine mixT_slots [0, 1, 2, 4, 5] (fuel := 8) rfl (by kernel_rfl) (by kernel_rfl) (fun d _ _ _ _ h => by cases d <;> exact h) ?_
            simp only [opersAt, List.getElem?_toArray, List.getElem?_cons_zero, List.getElem?_cons_succ]
            repeat (go_big_quiet_step (fail))
            refine wpQuiet_nil ?_
            refine mixT_reads [3, 6] (fuel := 6) rfl (by kernel_rfl) (by decide) (by kernel_rfl) (fun d _ _ _ _ h => by cases d <;> exact h) (ext_drew _ _) ?_
            simp only [opersAt, List.getElem?_toArray, List.getElem?_cons_zero, List.getElem?_cons_succ]
            repeat (go_big_quiet_step (fail))
            refine wpQuiet_nil ?_
            refine mixT_one (k := 7) (by kernel_rfl) rfl ?_
            go_wp2_with (go_at_call 32; refine (HFL.out _ (Below.refl _ _).drew).mono ?_; rintro e V1 ⟨v1, rfl, hown, hb1⟩)
            have hbV : Below U5.heap.size U5 V1 := (Below.refl _ _).drew.trans hb1
            refine ⟨Or.inr (by intros; exact ⟨⟨_, hbV⟩, rfl⟩), ?_⟩
            obtain ⟨pa, pn, pc, rfl, hparse⟩ := HCI2.out.fi.fileAt (by omega) HLF.out HCL.out hown
            have HPA := hide (hparse V1 (Below.refl _ _))
            have HBV := hide hbV
            clear hown hb1 hbV hparse a1 b2
            refine mixT_slots [8, 9, 10, 11, 12] (fuel := 0) rfl (by kernel_rfl) (by kernel_rfl) (fun d _ _ _ _ h => by cases d <;> exact h) ?_
            simp only [opersAt, List.getElem?_toArray, List.getElem?_cons_zero, List.getElem?_cons_succ]
            repeat (go_big_quiet_step (fail))
            refine wpQuiet_nil ?_
            refine mixT_nil (by kernel_rfl) ?_
            go_upto_region 35 with (go_at_call 33; refine HPA.out.mono ?_; rintro e V2 ⟨qa, qc, rfl, hch, hb2⟩; have HCH := hide hch; have HB2 := hide hb2; clear hch hb2)
            generalize hfv : fs'[fs.length] = fv at *
            have hfe : fv = f := HFF.out
            subst hfe
            clear hfv HFB HFL HPA
            obtain ⟨m, hm⟩ : ∃ m, m = fv.changes.length := ⟨_, rfl⟩
            have Hm : Hid (m = fv.changes.length) := hm
            rw [← hm] at HCH ⊢
            have hm65 : m ≤ 65536 := by have := HCL.out; omega
            have hkF : (V2.alloc (.cells (fileCs fv.kind fv.seq fv.issued fv.base qa m qc) 59)).heap[V2.heap.size]? = some (.cells (fileCs fv.kind fv.seq fv.issued fv.base qa m qc) 59 (0, 0)) := heap_alloc_at _ _
            have HBA : Hid (Below U5.heap.size U5 (V2.alloc (.cells (fileCs fv.kind fv.seq fv.issued fv.base qa m qc) 59))) := (HBV.out.trans (HB2.out.mono HBV.out.size)).alloc (Nat.le_trans HBV.out.size HB2.out.size) _
            have hch2 := RArr.below HCH.out ((Below.refl _ _).alloc (Nat.le_refl _) (.cells (fileCs fv.kind fv.seq fv.issued fv.base qa m qc) 59))
            clear hm HCH HB2 HBV
            generalize V2.alloc (.cells (fileCs fv.kind fv.seq fv.issued fv.base qa m qc) 59) = V3 at *
            generalize V2.heap.size = FB at *
            have f4 : V3.cell? ⟨FB, 4, none⟩ = some (.slice qa m qc) := cells_all hkF 4
            obtain ⟨ca', ccap, cb, coff, ce, cl1, cl2, cl3, cha, chc⟩ := RArr.lt hch2
            injection ce with ce1 ce2 ce3
            subst ce1
            subst ce3
            have hic := run_indexAt_arr (P := Tryz.prog) (n := m) (cap := qc) (a := qa) (b := cb) (off := coff) Tryz.underlying57 Tryz.size111 (fun h => (cha (by rw [← Hm.out]; exact h)).1)
            have HCB : Hid (0 < m → cb < V3.heap.size) := fun h => (cha (by rw [← Hm.out]; exact h)).2.2
            have HCC := hide chc
            clear ce2 cl1 cl2 cl3 cha chc hch2 hkF
            go_upto_region 36 with fail
            clear f4
            have HM9 := hide (HM5.out.below HBA.out)
            clear HM5
            refine wp_loop_mask coL3 (fun g y wr => ∃ j : Nat, j ≤ m ∧ g = m - j ∧ y = .int .i64 j ∧ Hid (Below V3.heap.size V3 wr)) m (.int .i64 0) ⟨0, by omega, by omega, rfl, Below.refl _ _⟩ (by kernel_rfl) ?_
            intro gk3 y150 u3 wr hrel J3 K3 hJ3 hK3
            dsimp only [coL3, maskL_keep, maskL_any, maskL_is, maskL_nil]
            obtain ⟨j, hj, rfl, rfl, HBL⟩ := hrel
            by_cases hjm : j < m
            · as_aux_lemma =>
              have hjl : j < fv.changes.length := by rw [← Hm.out]; exact hjm
              have hcbw := HCB.out (by omega)
              have hce := HCC.out j hjl
              rw [← rng_of_block (HBL.out.block _ hcbw)] at hce
              have hcw : cb < wr.heap.size := by have := HBL.out.size; omega
              have HCG := hide (HI5.out _ (List.getElem_mem hjl))
              have HCO := hide ((HCI2.out.fi.cok fv HFM.out _ (List.getElem_mem hjl)).row)
              generalize fv.changes[j] = c at *
              have hkc : (wr.alloc (.cells (changeCs c) 111)).heap[wr.heap.size]? = some (.cells (changeCs c) 111 (0, 0)) := heap_alloc_at _ _
              have HBN : Hid (Below V3.heap.size V3 (wr.alloc (.cells (changeCs c) 111))) := HBL.out.alloc HBL.out.size _
              go_upto_region 38 with fail
              generalize wr.alloc (.cells (changeCs c) 111) = V5 at *
              generalize wr.heap.size = C at *
              obtain ⟨c0, c1, c2, c3, c4⟩ := chgCells5 hkc
              have zC := blk_lt hkc
              clear hce hcw HBL hic
              have hkK : (V5.alloc (.cells #[.int .u32 c.row.sample, .int .u32 c.row.analyte] 106)).heap[V5.heap.size]? = some (.cells #[.int .u32 c.row.sample, .int .u32 c.row.analyte] 106 (0, 0)) := heap_alloc_at _ _
              have hbK : Below V5.heap.size V5 (V5.alloc (.cells #[.int .u32 c.row.sample, .int .u32 c.row.analyte] 106)) := (Below.refl _ _).alloc (Nat.le_refl _) _
              have hkc6 := (hbK.block _ zC).trans hkc
              have HBN6 := hide (HBN.out.trans (hbK.mono HBN.out.size))
              go_upto_region 39 with fail
              clear c0 c1 c2 c3 c4 zC hkc hbK HBN
              generalize V5.alloc (.cells #[.int .u32 c.row.sample, .int .u32 c.row.analyte] 106) = V6 at *
              generalize V5.heap.size = KB at *
              obtain ⟨c0, c1, c2, c3, c4⟩ := chgCells5 hkc6
              have g0 := cells_all hkK 0
              have g1 := cells_all hkK 1
              simp only [List.getElem?_toArray, List.getElem?_cons_zero, List.getElem?_cons_succ] at g0 g1
              have zC := blk_lt hkc6
              have zK := blk_lt hkK
              clear hkc6 hkK
              have HFINR : Hid (∀ W, Below V6.heap.size V6 W → Below V3.heap.size V3 W) := fun W hW => HBN6.out.trans (hW.mono HBN6.out.size)
              cases p1 : (c.action != 87) with
              | false =>
                as_aux_lemma =>
                clear c1 c2
                refine wp_region_mixT (V6.heap.size) [1, 6, 8, 14, 16] (by kernel_rfl) ?_
                refine mixT_slots [0] (fuel := 20) rfl (by kernel_rfl) (by kernel_rfl) (fun d _ _ _ _ h => by cases d <;> exact h) ?_
                simp only [opersAt, List.getElem?_toArray, List.getElem?_cons_zero]
                repeat (go_big_quiet_step (fail))
                refine wpQuiet_nil ?_
                refine mixT_reads [1] (fuel := 19) rfl (by kernel_rfl) (by decide) (by kernel_rfl) (fun d _ _ _ _ h => by cases d <;> exact h) (ext_drew _ _) ?_
                simp only [opersAt, List.getElem?_toArray, List.getElem?_cons_zero, List.getElem?_cons_succ]
                repeat (go_big_quiet_step (fail))
                refine wpQuiet_nil ?_
                refine mixT_slots [2, 3, 4, 5, 7] (fuel := 14) rfl (by kernel_rfl) (by kernel_rfl) (fun d _ _ _ _ h => by cases d <;> exact h) ?_
                simp only [opersAt, List.getElem?_toArray, List.getElem?_cons_zero, List.getElem?_cons_succ]
                repeat (go_big_quiet_step (fail))
                refine wpQuiet_nil ?_
                refine mixT_reads [6, 8] (fuel := 12) rfl (by kernel_rfl) (by decide) (by kernel_rfl) (fun d _ _ _ _ h => by cases d <;> exact h) (ext_drew _ _) ?_
                simp only [opersAt, List.getElem?_toArray, List.getElem?_cons_zero, List.getElem?_cons_succ]
                repeat (go_big_quiet_step (fail))
                refine wpQuiet_nil ?_
                refine mixT_one (k := 9) (by kernel_rfl) rfl ?_
                go_wp2
                refine ⟨Or.inr (fun h => h), ?_⟩
                refine mixT_slots [10, 11, 12, 13, 15] (fuel := 6) rfl (by kernel_rfl) (by kernel_rfl) (fun d _ _ _ _ h => by cases d <;> exact h) ?_
                simp only [opersAt, List.getElem?_toArray, List.getElem?_cons_zero, List.getElem?_cons_succ]
                repeat (go_big_quiet_step (fail))
                refine wpQuiet_nil ?_
                refine mixT_reads [14, 16] (fuel := 4) rfl (by kernel_rfl) (by decide) (by kernel_rfl) (fun d _ _ _ _ h => by cases d <;> exact h) (ext_drew _ _) ?_
                simp only [opersAt, List.getElem?_toArray, List.getElem?_cons_zero, List.getElem?_cons_succ]
                repeat (go_big_quiet_step (fail))
                refine wpQuiet_nil ?_
                refine mixT_one (k := 17) (by kernel_rfl) rfl ?_
                go_wp2
                refine ⟨Or.inr (fun h => h), ?_⟩
                refine mixT_slots [18, 19, 20] (fuel := 0) rfl (by kernel_rfl) (by kernel_rfl) (fun d _ _ _ _ h => by cases d <;> exact h) ?_
                simp only [opersAt, List.getElem?_toArray, List.getElem?_cons_zero, List.getElem?_cons_succ]
                repeat (go_big_quiet_step (fail))
                refine wpQuiet_nil ?_
                refine mixT_nil (by kernel_rfl) ?_
                go_wp2
                refine Handed.intro (m - (j + 1)) (by omega) ?_
                exact hJ3.out _ (.int .i64 ((j + 1 : Nat) : Int)) _ _ ⟨j + 1, by omega, rfl, rfl, HFINR.out _ (Below.refl _ _).drew⟩ (by kernel_rfl)
              | true =>
                as_aux_lemma =>
                have hcg := HCG.out (by simpa using p1)
                have hM6 := HM9.out.below HBN6.out
                have hl1 := (hM6.m1.same (w' := V6.drew) rfl).look Tryz.mapVer (Tryz.zeroU32z _) HCO.out.sample HCO.out.analyte
                have hl2 := (hM6.m2.same (w' := V6.drew) rfl).look Tryz.mapVal (Tryz.zeroI64z _) HCO.out.sample HCO.out.analyte
                have hv1' : (vU vf c.row.sample c.row.analyte).getD (.int .u32 0) = .int .u32 c.row.version := by unfold vU; rw [hcg.1]; rfl
                have hv2' : (vI lf c.row.sample c.row.analyte).getD (.int .i64 0) = .int .i64 c.row.value := by unfold vI; rw [hcg.2]; rfl
                rw [hv1'] at hl1
                rw [hv2'] at hl2
                simp only [keyV] at hl1 hl2
                clear hM6 hv1' hv2' hcg c1 c2
                refine wp_region_mixT (V6.heap.size) [1, 6, 8, 14, 16] (by kernel_rfl) ?_
                refine mixT_slots [0] (fuel := 20) rfl (by kernel_rfl) (by kernel_rfl) (fun d _ _ _ _ h => by cases d <;> exact h) ?_
                simp only [opersAt, List.getElem?_toArray, List.getElem?_cons_zero]
                repeat (go_big_quiet_step (fail))
                refine wpQuiet_nil ?_
                refine mixT_reads [1] (fuel := 19) rfl (by kernel_rfl) (by decide) (by kernel_rfl) (fun d _ _ _ _ h => by cases d <;> exact h) (ext_drew _ _) ?_
                simp only [opersAt, List.getElem?_toArray, List.getElem?_cons_zero, List.getElem?_cons_succ]
                repeat (go_big_quiet_step (fail))
                refine wpQuiet_nil ?_
                refine mixT_slots [2, 3, 4, 5, 7] (fuel := 14) rfl (by kernel_rfl) (by kernel_rfl) (fun d _ _ _ _ h => by cases d <;> exact h) ?_
                simp only [opersAt, List.getElem?_toArray, List.getElem?_cons_zero, List.getElem?_cons_succ]
                repeat (go_big_quiet_step (fail))
                refine wpQuiet_nil ?_
                refine mixT_reads [6, 8] (fuel := 12) rfl (by kernel_rfl) (by decide) (by kernel_rfl) (fun d _ _ _ _ h => by cases d <;> exact h) (ext_drew _ _) ?_
                simp only [opersAt, List.getElem?_toArray, List.getElem?_cons_zero, List.getElem?_cons_succ]
                repeat (go_big_quiet_step (fail))
                refine wpQuiet_nil ?_
                refine mixT_one (k := 9) (by kernel_rfl) rfl ?_
                go_wp2
                refine ⟨Or.inr (fun h => h), ?_⟩
                refine mixT_slots [10, 11, 12, 13, 15] (fuel := 6) rfl (by kernel_rfl) (by kernel_rfl) (fun d _ _ _ _ h => by cases d <;> exact h) ?_
                simp only [opersAt, List.getElem?_toArray, List.getElem?_cons_zero, List.getElem?_cons_succ]
                repeat (go_big_quiet_step (fail))
                refine wpQuiet_nil ?_
                refine mixT_reads [14, 16] (fuel := 4) rfl (by kernel_rfl) (by decide) (by kernel_rfl) (fun d _ _ _ _ h => by cases d <;> exact h) (ext_drew _ _) ?_
                simp only [opersAt, List.getElem?_toArray, List.getElem?_cons_zero, List.getElem?_cons_succ]
                repeat (go_big_quiet_step (fail))
                refine wpQuiet_nil ?_
                refine mixT_one (k := 17) (by kernel_rfl) rfl ?_
                go_wp2
                refine ⟨Or.inr (fun h => h), ?_⟩
                refine mixT_slots [18, 19, 20] (fuel := 0) rfl (by kernel_rfl) (by kernel_rfl) (fun d _ _ _ _ h => by cases d <;> exact h) ?_
                simp only [opersAt, List.getElem?_toArray, List.getElem?_cons_zero, List.getElem?_cons_succ]
                repeat (go_big_quiet_step (fail))
                refine wpQuiet_nil ?_
                refine mixT_nil (by kernel_rfl) ?_
                go_wp2
                refine Handed.intro (m - (j + 1)) (by omega) ?_
                exact hJ3.out _ (.int .i64 ((j + 1 : Nat) : Int)) _ _ ⟨j + 1, by omega, rfl, rfl, HFINR.out _ (Below.refl _ _).drew⟩ (by kernel_rfl)
            · as_aux_lemma =>
              have HE3 : Hid (CE w wr M1 M2 (q + 1) (stAt s (q + 1))) := ⟨fs', rows', vf, lf, by rw [HSQ.out]; exact (HM9.out.below HBL.out).up, by rw [HSQ.out]; exact HCI2.out, hfl'⟩
              go_wp2
              refine Handed.intro (n - (q + 1)) (by omega) ?_
              exact hJ1.out _ (.int .i64 ((q + 1 : Nat) : Int)) _ _ ⟨q + 1, by omega, rfl, rfl, HE3⟩ (by kernel_rfl)
        · as_aux_lemma =>
          have t12 : (p.req.kind == 12) = false := by simpa using k12
          have t13 : (p.req.kind == 13) = false := by simpa using k13
          have t19 : (p.req.kind == 19) = false := by simp; omega
          have t20 : (p.req.kind == 20) = false := by simp; omega
          have HEND : Hid (∀ W, Below U5.heap.size U5 W → CE w W M1 M2 (q + 1) (stAt s (q + 1))) := fun W hW => by
            have e1 : corV p.req vf = vf := by unfold corV; rw [if_neg k12, if_neg k13]
            have e2 : corL p.req lf = lf := by unfold corL; rw [if_neg k12, if_neg k13]
            have hc := HCI'.out
            rw [e1, e2] at hc
            exact ⟨fs', rows', vf, lf, by rw [HSQ.out]; exact (HM5.out.below hW).up, by rw [HSQ.out]; exact hc, by omega⟩
          have HE1 := hide (HEND.out _ (Below.refl _ _))
          go_wp2
          refine Handed.intro (n - (q + 1)) (by omega) ?_
          exact hJ1.out _ (.int .i64 ((q + 1 : Nat) : Int)) _ _ ⟨q + 1, by omega, rfl, rfl, HE1⟩ (by kernel_rfl)
    · as_aux_lemma =>
      obtain ⟨fs, rows, vf, lf, hcm, -⟩ := HQ.out
      have HBW := hide hcm.bx.blw
      clear hcm HQ
      go_wp2
      go_ret
      exact ⟨by first | rfl | simp, HBW.out⟩
  · have hd : decide (total s ≤ 65536) = false := by simpa using hsm
    rw [hd] at HSm
    clear hd hsm ha hc hn hgl HNB
    go_enter Tryz.func5, Tryz.ntmps5
    go_wp2_with (go_at_call 18; refine HSm.out.mono ?_; rintro e w1 ⟨rfl, rfl⟩)
    go_ret
    exact ⟨rfl, Below.refl _ _⟩

end Go.Proofs.Qxb6500666aGreatDoor
