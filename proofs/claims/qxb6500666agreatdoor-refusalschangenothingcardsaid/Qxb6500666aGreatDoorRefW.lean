/- RefusalsChangeNothing, walked. -/
import Derived.Test.Qxb6500666aGreatDoorRefQ
import Derived.BigQuiet
namespace Go.Proofs.Qxb6500666aGreatDoor
open Go.RowKit
attribute [local go_sem] ext_const Ext.cell Ext.frozen Ext.rng Ext.whole
attribute [local go_sem ↓] exec_ldOpz exec_stOpz exec_ldAns exec_stAns exec_ldBen exec_stBen
attribute [local go_sem] run_ldOpz run_stOpz opA_size run_ldAns run_stAns ansCs_size ansCs_ones run_ldBen run_stBen whole_alloc_lt whole_alloc_at whole_drew setRow_alloc_at setRow_alloc_lt setRow_drew rng_alloc_lt rng_alloc_at rng_drew rng_drewN

set_option maxRecDepth 100000 in
set_option maxHeartbeats 8000000 in
theorem ref_walk (w : World) (v : Value) (s : List Op) (rn kn ft : Nat → ByteArray) (okg : Nat → Prop) (h : Script w (· < w.heap.size) v s) (hgl : Gl w w.heap.size rn kn ft okg) :
    Calls Tryz.prog 8 #[v] w fun e w' => e = .returned (.bool true) ∧ Below w.heap.size w w' := by
  have HSm := hide (small_calls w _ v s h)
  have HGL := hide (fun W (hb : Below w.heap.size w W) => hgl.same hb (Nat.le_refl _))
  have HNB := hide (newBench_calls w)
  obtain ⟨a, cap, b, off, rfl, hl, hm, hr, ha, hc⟩ := h
  obtain ⟨n, hn⟩ : ∃ n, n = s.length := ⟨_, rfl⟩
  have Hn : Hid (n = s.length) := hn
  rw [← hn] at hl hr ha HSm ⊢
  have hi := run_indexAt_arr (P := Tryz.prog) (cap := cap) Tryz.underlying22 Tryz.size61 (fun h => (ha h).1)
  have HB : Hid (0 < n → b < w.heap.size) := fun h => (ha h).2
  by_cases hsm : total s ≤ 65536
  · have HC : Hid (∀ k (h : k < s.length), ∃ lv dv ca cn cc, rng w b (off + k * 27) 27 = some (opA s[k] lv dv ca cn cc) ∧ OpIn w (· < w.heap.size) s[k] lv dv ca cn cc ∧ ones (opA s[k] lv dv ca cn cc) 27 = true) := fun k h => by
      obtain ⟨cs, hlen, hE, hcell⟩ := hc k h
      have ht := total_le h hsm
      obtain ⟨lv, dv, ca, cn, cc, e, hO, h1⟩ := opIn_of hE ht.2.1 ht.2.2
      refine ⟨lv, dv, ca, cn, cc, ?_, hO, h1⟩
      rw [← e]
      have hl27 : cs.length = 27 := by have := congrArg Array.size e; simpa [opA] using this
      have := rng_of_cells (w := w) (b := b) (off := off + k * 27) (by omega) hcell
      rw [hl27] at this
      exact this
    have HIV : Hid (∀ q, q ≤ s.length → Inv q (stAt s q)) := inv_all (fun k hk => by
      obtain ⟨_, _, _, _, _, _, h1, _⟩ := HC.out k hk
      exact h1.req)
    have HKN : Hid (∀ q, q ≤ s.length → KN (stAt s q).ps) := kn_all s
    have hn2 : n ≤ 65536 := by have := hsm; unfold total at this; omega
    have hd : decide (total s ≤ 65536) = true := by simpa using hsm
    rw [hd] at HSm
    clear hd hsm ha hc hn hgl
    go_enter Tryz.func8, Tryz.ntmps8
    go_upto_region 3 with (go_at_call 18; refine HSm.out.mono ?_; rintro e w1 ⟨rfl, rfl⟩)
    go_upto_region 4 with (go_at_call 19; refine HNB.out.mono ?_; rintro e W0 ⟨rfl, hbn, hb0⟩)
    have HQ0 : Hid (BX w W0 (fun _ => False) (stAt s 0)) := BX.start hbn hb0
    clear hbn hb0 HSm HNB
    go_upto_region 5 with fail
    go_loopg [16] n (fun g j wr => ∃ q : Nat, q ≤ n ∧ g = n - q ∧ j = .int .i64 q ∧ Hid (BX w wr (fun _ => False) (stAt s q)))
    case atStart => exact ⟨0, by omega, by omega, rfl, HQ0⟩
    clear HQ0
    case round =>
      obtain ⟨q, hq, rfl, rfl, HQ⟩ := hrel
      by_cases hlt : q < n
      · have hqs : q < s.length := by rw [← Hn.out]; exact hlt
        have hbb := HB.out (by omega)
        obtain ⟨lv, dv, ca, cn, cc, hcl, hO, hones⟩ := HC.out q hqs
        have HIQ := hide (HIV.out q (by omega))
        have HIS := hide (HIV.out (q + 1) (by omega))
        have HKQ := hide (HKN.out q (by omega))
        have HSQ := hide (stAt_succ hqs)
        rw [HSQ.out] at HIS
        generalize s[q] = p at *
        have hcells : rng wr b (off + q * 27) 27 = some (opA p lv dv ca cn cc) := by rw [rng_of_block (HQ.out.blw.block _ hbb)]; exact hcl
        have hbw : b < wr.heap.size := by have := HQ.out.blw.size; omega
        have HOI := hide hO
        clear hO hcl
        go_upto_region 7 with fail
        have HQ1 : Hid (BX w (wr.alloc (.cells (opA p lv dv ca cn cc) 61)) (fun g => g = wr.heap.size) (stAt s q)) := HQ.out.more ((Below.refl _ _).alloc (Nat.le_refl _) _) (fun g q => Or.inr (by subst q; exact ⟨Nat.le_refl _, by simp⟩))
        have hk1 : (wr.alloc (.cells (opA p lv dv ca cn cc) 61)).heap[wr.heap.size]? = some (.cells (opA p lv dv ca cn cc) 61 (0, 0)) := heap_alloc_at _ _
        generalize wr.alloc (.cells (opA p lv dv ca cn cc) 61) = W1 at *
        generalize wr.heap.size = D at *
        clear hcells hbw HQ
        have HK1 := hide hk1
        have hzD := blk_lt hk1
        have hpl : Hid ((stAt s q).ps.length ≤ 3000000 ∧ (stepR (stAt s q) p).ps.length ≤ 3000000) := ⟨by have := HIQ.out.plen; omega, by have := HIS.out.plen; omega⟩
        obtain ⟨Y, pv, A, x, ok, b1, b2, b3, hpr, hlo⟩ := HQ1.out.all (by have := hpl.out.1; omega)
        have HPO := hide (HIQ.out.po (by omega))
        have hof : 0 ≤ (stAt s q).off ∧ (stAt s q).off ≤ 100000000 := ⟨HIQ.out.off.1, by have := HIQ.out.off.2; omega⟩
        have HLR := hide HIS.out.lar
        generalize stAt s q = t at *
        go_cut [6, 7, 8] (fun vp vl vo W => ∃ N a m c, vp = .slice a m c ∧ vl = .pointer (some ⟨N, 0, none⟩) ∧ vo = .int .i64 t.off ∧ Hid (RefC W1 W N vp x t.ps))
        case first =>
          as_aux_lemma =>
          have e1 := cells_all b1 0
          have e1b := cells_all b1 1
          have e2 := cells_all b2 2
          simp only [List.getElem?_toArray, List.getElem?_cons_zero, List.getElem?_cons_succ] at e1 e1b e2
          have rl : rng W1 (w.heap.size + 1) 0 8 = some (lvCs x) := rng_whole b3
          have z1 := blk_lt b1
          have z2 := blk_lt b2
          have z3 := blk_lt b3
          have ho8 : ones (lvCs x) 8 = true := low_ones hlo
          have HSN : Hid (∀ W, Below W1.heap.size W1 W → Calls Tryz.prog 41 #[.pointer (some ⟨w.heap.size, 0, none⟩)] W fun e w' => ∃ v', e = .returned v' ∧ PairsAt w' (fun b => W.heap.size ≤ b ∧ b < w'.heap.size) v' t.ps ∧ Below W.heap.size W w' ∧ ∃ a n c, v' = .slice a n c) := fun W hW =>
            snapshot_calls W _ _ pv t.ps t.full t.off t.lar ((hW.block _ z2).trans b2) (hpr.lt.mono (fun b q => hW.block b q.2) (fun _ q => q)) (by have := hpl.out.1; omega)
          clear b1 b2 b3 hpr hlo
          refine wp_region_mixT (W1.heap.size) [3, 8, 10, 14, 17] (by kernel_rfl) ?_
          refine mixT_slots [0, 1, 2, 5, 6, 7, 11, 12, 13] (fuel := 13) rfl (by kernel_rfl) (by kernel_rfl) (fun d _ _ _ _ h => by cases d <;> exact h) ?_
          simp only [opersAt, List.getElem?_toArray, List.getElem?_cons_zero, List.getElem?_cons_succ]
          repeat (go_big_quiet_step (fail))
          refine wpQuiet_nil ?_
          refine mixT_reads [3, 8, 14] (fuel := 10) rfl (by kernel_rfl) (by decide) (by kernel_rfl) (fun d _ _ _ _ h => by cases d <;> exact h) (ext_drew _ _) ?_
          simp only [opersAt, List.getElem?_toArray, List.getElem?_cons_zero, List.getElem?_cons_succ]
          repeat (go_big_quiet_step (fail))
          refine wpQuiet_nil ?_
          refine mixT_slots [9, 15, 16] (fuel := 7) rfl (by kernel_rfl) (by kernel_rfl) (fun d _ _ _ _ h => by cases d <;> exact h) ?_
          simp only [opersAt, List.getElem?_toArray, List.getElem?_cons_zero, List.getElem?_cons_succ]
          repeat (go_big_quiet_step (fail))
          refine wpQuiet_nil ?_
          refine mixT_reads [10, 17] (fuel := 5) rfl (by kernel_rfl) (by decide) (by kernel_rfl) (fun d _ _ _ _ h => by cases d <;> exact h) (ext_drew _ _) ?_
          simp only [opersAt, List.getElem?_toArray, List.getElem?_cons_zero, List.getElem?_cons_succ]
          repeat (go_big_quiet_step (fail))
          refine wpQuiet_nil ?_
          refine mixT_two (k := 4) (k' := 18) (by kernel_rfl) rfl rfl ?_ ?_
          · go_wp2_with (go_at_call 41; refine (HSN.out _ (Below.refl _ _).drew).mono ?_; rintro e V ⟨v', rfl, hpv, hbv, va, vn, vc, rfl⟩)
            have hb1 : Below W1.heap.size W1 V := (Below.refl _ _).drew.trans hbv
            have hzv := hb1.size
            refine ⟨Or.inr (by intros; exact ⟨⟨_, hb1⟩, rfl⟩), ?_⟩
            have HB1 := hide hb1
            have HPV : Hid (PairsAt V (fun b => W1.heap.size ≤ b ∧ b < V.heap.size) (.slice va vn vc) t.ps) := hpv
            clear hb1 hbv hpv
            refine mixT_one (k := 18) (by kernel_rfl) rfl ?_
            go_wp2
            refine ⟨Or.inr (by intros; exact ⟨⟨_, HB1.out.alloc hzv _⟩, rfl⟩), ?_⟩
            refine mixT_slots [19] (fuel := 2) rfl (by kernel_rfl) (by kernel_rfl) (fun d _ _ _ _ h => by cases d <;> exact h) ?_
            simp only [opersAt, List.getElem?_toArray, List.getElem?_cons_zero, List.getElem?_cons_succ]
            repeat (go_big_quiet_step (fail))
            refine wpQuiet_nil ?_
            refine mixT_one (k := 20) (by kernel_rfl) rfl ?_
            go_wp2
            refine ⟨Or.inr (by intros; exact ⟨⟨_, HB1.out.alloc hzv _⟩, rfl⟩), ?_⟩
            refine mixT_slots [21] (fuel := 0) rfl (by kernel_rfl) (by kernel_rfl) (fun d _ _ _ _ h => by cases d <;> exact h) ?_
            simp only [opersAt, List.getElem?_toArray, List.getElem?_cons_zero, List.getElem?_cons_succ]
            repeat (go_big_quiet_step (fail))
            refine wpQuiet_nil ?_
            refine mixT_nil (by kernel_rfl) ?_
            go_wp2
            go_meet
            case rel =>
              refine ⟨_, _, _, _, rfl, rfl, rfl, ⟨HB1.out.alloc hzv _, heap_alloc_at _ _, hzv, HPV.out.mono (fun b q => Below.heap_alloc _ _ _ q.2) (fun b q => ⟨q.1, by have := q.2; simp; omega⟩)⟩⟩
          · go_wp2
            obtain ⟨Wz, hWz⟩ : ∃ Wz, Wz = (W1.alloc (.cells #[.slice none 0 0, .slice none 0 0, .slice none 0 0, .slice none 0 0, .slice none 0 0, .slice none 0 0, .slice none 0 0, .slice none 0 0] 83)).drew := ⟨_, rfl⟩
            rw [← hWz]
            have hb1 : Below W1.heap.size W1 Wz := by rw [hWz]; exact ((Below.refl _ _).alloc (Nat.le_refl _) _).drew
            have hkz : Wz.heap[W1.heap.size]? = some (.cells #[.slice none 0 0, .slice none 0 0, .slice none 0 0, .slice none 0 0, .slice none 0 0, .slice none 0 0, .slice none 0 0, .slice none 0 0] 83 (0, 0)) := by rw [hWz]; exact heap_alloc_at W1 _
            have hsz : Wz.heap.size = W1.heap.size + 1 := by rw [hWz]; simp
            refine ⟨Or.inr (by intros; exact ⟨⟨_, hb1⟩, rfl⟩), ?_⟩
            clear hWz
            refine mixT_one (k := 4) (by kernel_rfl) rfl ?_
            go_wp2_with (go_at_call 41; refine (HSN.out _ hb1).mono ?_; rintro e V ⟨v', rfl, hpv, hbv, va, vn, vc, rfl⟩)
            have hb2 : Below W1.heap.size W1 V := hb1.trans (hbv.mono hb1.size)
            refine ⟨Or.inr (by intros; exact ⟨⟨_, hb2⟩, rfl⟩), ?_⟩
            have hkv := (hbv.block _ (blk_lt hkz)).trans hkz
            have hwh : whole V W1.heap.size 8 = true := by unfold whole; rw [hkv]; rfl
            have HKV := hide hkv
            have HB2 := hide hb2
            have HPV := hide hpv
            have HSZ : Hid (Wz.heap.size = W1.heap.size + 1) := hsz
            clear hkv hkz hb1 hb2 hbv hpv hsz
            refine mixT_slots [19] (fuel := 2) rfl (by kernel_rfl) (by kernel_rfl) (fun d _ _ _ _ h => by cases d <;> exact h) ?_
            simp only [opersAt, List.getElem?_toArray, List.getElem?_cons_zero, List.getElem?_cons_succ]
            repeat (go_big_quiet_step (fail))
            refine wpQuiet_nil ?_
            refine mixT_one (k := 20) (by kernel_rfl) rfl ?_
            go_wp2
            have hbs : Below W1.heap.size W1 (V.setRow W1.heap.size (lvCs x)) := ⟨HB2.out.1, HB2.out.2, HB2.out.3, by have := HB2.out.size; simpa using this, fun k hk => (setRow_other _ _ _ _ (by omega)).trans (HB2.out.block k hk)⟩
            refine ⟨Or.inr (by intros; exact ⟨⟨_, hbs⟩, rfl⟩), ?_⟩
            refine mixT_slots [21] (fuel := 0) rfl (by kernel_rfl) (by kernel_rfl) (fun d _ _ _ _ h => by cases d <;> exact h) ?_
            simp only [opersAt, List.getElem?_toArray, List.getElem?_cons_zero, List.getElem?_cons_succ]
            repeat (go_big_quiet_step (fail))
            refine wpQuiet_nil ?_
            refine mixT_nil (by kernel_rfl) ?_
            go_wp2
            go_meet
            case rel =>
              refine ⟨_, _, _, _, rfl, rfl, rfl, ⟨?_, setRow_heap V W1.heap.size _ _ _ _ HKV.out, Nat.le_refl _, HPV.out.mono (fun b q => setRow_other _ _ _ _ (by have := q.1; have := HSZ.out; omega)) (fun b q => ⟨by have := q.1; have := HSZ.out; omega, by have := q.2; simpa using this⟩)⟩⟩
              exact hbs
        case rest =>
          as_aux_lemma =>
          obtain ⟨N, pa, pm, pc, rfl, rfl, rfl, HRC⟩ := hcut
          have hzb := HRC.out.bel.size
          have HQ3 : Hid (BX w wc (fun g => g = D ∨ (W1.heap.size ≤ g ∧ g < wc.heap.size)) t) := HQ1.out.more HRC.out.bel (fun g q => q)
          obtain ⟨x', hx', hst⟩ := HQ3.out.stepL HPO.out (HOI.out.below HQ3.out.blw) (HGL.out _ HQ3.out.blw) hof
          have hxx : x' = x := by
            have h1 := (HRC.out.bel.block _ (blk_lt b3)).trans b3
            have h2 := hx'.symm.trans h1
            injection h2 with h2
            injection h2 with h2
            exact lvCs_inj h2
          subst hxx
          have HST := hide hst
          have hk3 := (HRC.out.bel.block _ hzD).trans HK1.out
          have hr1 : rng wc D 0 27 = some (opA p lv dv ca cn cc) := rng_whole hk3
          have HK3 := hide hk3
          have HLO := hide hlo
          clear hst hx' b1 b2 b3 hpr hlo hk3
          go_upto_region 9 with (go_at_call 21; refine HST.out.mono ?_; rintro e W4 ⟨ans, rfl, hq4, hf4, ha4, hl4⟩; have HQ4 := hide hq4; have HF4 := hide hf4; have HA4 := hide ha4; have HL4 := hide hl4; clear hq4 hf4 ha4 hl4)
          clear hr1 HST
          have hpos : Hid (∀ g, (W1.heap.size ≤ g ∧ g < wc.heap.size) → g < W4.heap.size) := fun g q => by
            apply Classical.byContradiction
            intro hn
            have h1 := HF4.out g (Or.inr q)
            have h2 : W4.heap[g]? = none := by simp; omega
            rw [h2] at h1
            have h3 : ¬ g < wc.heap.size := by simpa using h1.symm
            exact h3 q.2
          have HB5 : Hid (Below W4.heap.size W4 (W4.alloc (.cells (ansCs ans) 77))) := (Below.refl _ _).alloc (Nat.le_refl _) _
          have HQ5 : Hid (BX w (W4.alloc (.cells (ansCs ans) 77)) (fun _ => False) (stepR t p)) := HQ4.out.more HB5.out (fun g q => q.elim)
          have k2 : W4.heap[D]? = some (.cells (opA p lv dv ca cn cc) 61 (0, 0)) := (HF4.out D (Or.inl rfl)).trans HK3.out
          have k3 : (W4.alloc (.cells (ansCs ans) 77)).heap[D]? = some (.cells (opA p lv dv ca cn cc) 61 (0, 0)) := (HB5.out.block _ (blk_lt k2)).trans k2
          have k4 : (W4.alloc (.cells (ansCs ans) 77)).heap[W4.heap.size]? = some (.cells (ansCs ans) 77 (0, 0)) := heap_alloc_at _ _
          have hNl := blk_lt HRC.out.lo
          have kN : (W4.alloc (.cells (ansCs ans) 77)).heap[N]? = some (.cells (lvCs x') 83 (0, 0)) := (HB5.out.block _ (hpos.out N ⟨HRC.out.nn, hNl⟩)).trans ((HF4.out N (Or.inr ⟨HRC.out.nn, hNl⟩)).trans HRC.out.lo)
          have HP5 : Hid (PairsAt (W4.alloc (.cells (ansCs ans) 77)) (fun b => W1.heap.size ≤ b ∧ b < wc.heap.size) (.slice pa pm pc) t.ps) := HRC.out.prs.mono (fun b q => (HB5.out.block _ (hpos.out b q)).trans (HF4.out b (Or.inr q))) (fun _ q => q)
          have HPK : Hid (∀ b, (W1.heap.size ≤ b ∧ b < wc.heap.size) → b < (W4.alloc (.cells (ansCs ans) 77)).heap.size) := fun b q => by have := hpos.out b q; simp; omega
          obtain ⟨okl, hl4⟩ := HL4.out
          have HL5 := hide (hl4.below HB5.out)
          have HREF := hide (ref_first HKQ.out HLR.out HA4.out)
          clear k2 HK3 hl4 HL4 hpos HF4 HQ4 HRC HQ3 HQ1 HK1
          generalize W4.alloc (.cells (ansCs ans) 77) = W5 at *
          generalize W4.heap.size = D5 at *
          have r3 : rng W5 D 0 27 = some (opA p lv dv ca cn cc) := rng_whole k3
          have r4 : rng W5 D5 0 48 = some (ansCs ans) := rng_whole k4
          cases hac : accP p ans.resp with
          | true =>
            as_aux_lemma =>
            obtain ⟨h1, h2, h3⟩ := HREF.out.1 hac
            go_upto_region 10 with (go_at_call 31; refine (accepted_calls _ p lv dv ca cn cc ans).mono ?_; rintro e W6 ⟨rfl, hb6⟩; rw [hac]; have HB6 := hide hb6; clear hb6)
            have HQ6 := hide (HQ5.out.below HB6.out)
            have HP6 := hide (HP5.out.below' HPK.out HB6.out)
            obtain ⟨Y', pv', A', x2, ok2, b1, b2, b3, hpr, hlo⟩ := HQ6.out.all (by have := hpl.out.2; omega)
            obtain ⟨va, vn, vc, rfl⟩ := hpr.form
            have e1 := cells_all b1 0
            have e3 := cells_all b2 0
            have e4 := cells_all b2 1
            have e5 := cells_all b2 2
            simp only [List.getElem?_toArray, List.getElem?_cons_zero, List.getElem?_cons_succ] at e1 e3 e4 e5
            rw [h1] at e4
            rw [h2] at e5
            have HPR := hide hpr
            have H3 := hide h3
            clear b1 b2 b3 hpr hlo h1 h2 h3 r3 r4
            go_wp2_with (go_at_call 42; refine (samePairs_calls _ _ _ _ _ _ _ HP6.out HPR.out).mono ?_; rintro e W7 ⟨rfl, m, rfl⟩; rw [decide_eq_false H3.out])
            have HE : Hid (BX w (W6.drewN m) (fun _ => False) (stAt s (q + 1))) := by show BX _ _ _ _; rw [HSQ.out]; exact HQ6.out.below (below_drewN (Below.refl _ _) m)
            go_roundg (n - (q + 1))
            case measure => omega
            case rel => exact ⟨q + 1, by omega, rfl, by go_num, HE⟩
          | false =>
            as_aux_lemma =>
            obtain ⟨h1, h2, h3⟩ := HREF.out.2 hac
            go_upto_region 12 with (go_at_call 31; refine (accepted_calls _ p lv dv ca cn cc ans).mono ?_; rintro e W6 ⟨rfl, hb6⟩; rw [hac]; have HB6 := hide hb6; clear hb6)
            have HQ6 := hide (HQ5.out.below HB6.out)
            have HP6 := hide (HP5.out.below' HPK.out HB6.out)
            have HL6 := hide (HL5.out.below HB6.out)
            have kN6 := (HB6.out.block _ (blk_lt kN)).trans kN
            have k46 := (HB6.out.block _ (blk_lt k4)).trans k4
            obtain ⟨Y', pv', A', x2, ok2, b1, b2, b3, hpr, hlo⟩ := HQ6.out.all (by have := hpl.out.2; omega)
            obtain ⟨va, vn, vc, rfl⟩ := hpr.form
            rw [h1] at hpr
            rw [h2] at hlo
            have e1 := cells_all b1 0
            have e2 := cells_all b1 1
            have e3 := cells_all b2 0
            have e4 := cells_all b2 1
            have e6 := cells_all k46 0
            simp only [ansCs, List.getElem?_toArray, List.getElem?_cons_zero, List.getElem?_cons_succ] at e1 e2 e3 e4 e6
            have rl1 : rng W6 N 0 8 = some (lvCs x') := rng_whole kN6
            have rl2 : rng W6 (w.heap.size + 1) 0 8 = some (lvCs x2) := rng_whole b3
            have z1 := blk_lt b1
            have z2 := blk_lt b2
            have z3 := blk_lt b3
            have zN := blk_lt kN6
            have z4 := blk_lt k46
            have HSP : Hid (∀ W, Below W6.heap.size W6 W → Calls Tryz.prog 42 #[.slice pa pm pc, .slice va vn vc] W fun e w' => e = .returned (.bool true) ∧ ∃ n, w' = W.drewN n) := fun W hW => by
              have := samePairs_calls W _ _ _ _ _ _ (HP6.out.below' (fun b q => Nat.lt_of_lt_of_le (HPK.out b q) HB6.out.size) hW) (hpr.lt.mono (fun b q => hW.block b q.2) (fun _ q => q))
              rwa [decide_eq_true rfl] at this
            have HSL : Hid (∀ W, Below W6.heap.size W6 W → Calls Tryz.prog 25 #[.agg (lvCs x'), .agg (lvCs x2)] W fun e w' => e = .returned (.bool true) ∧ Below W.heap.size W w') := fun W hW => sameBeneath_calls W _ _ _ _ _ (HL6.out.below hW) (hlo.below hW)
            have H3 := hide h3
            have HE : Hid (∀ W, Below W6.heap.size W6 W → BX w W (fun _ => False) (stAt s (q + 1))) := fun W hW => by rw [HSQ.out]; exact HQ6.out.below hW
            clear b1 b2 b3 hpr hlo h1 h2 h3 r3 r4 kN6 k46 k3 k4 kN
            go_cut [94] (fun vb W => vb = .bool false ∧ Hid (Below W6.heap.size W6 W))
            case first =>
              as_aux_lemma =>
              refine wp_region_mixT (W6.heap.size) [4, 7, 11, 15, 17] (by kernel_rfl) ?_
              refine mixT_slots [0, 1, 2, 3] (fuel := 17) rfl (by kernel_rfl) (by kernel_rfl) (fun d _ _ _ _ h => by cases d <;> exact h) ?_
              simp only [opersAt, List.getElem?_toArray, List.getElem?_cons_zero, List.getElem?_cons_succ]
              repeat (go_big_quiet_step (fail))
              refine wpQuiet_nil ?_
              refine mixT_reads [4] (fuel := 16) rfl (by kernel_rfl) (by decide) (by kernel_rfl) (fun d _ _ _ _ h => by cases d <;> exact h) (ext_drew _ _) ?_
              simp only [opersAt, List.getElem?_toArray, List.getElem?_cons_zero, List.getElem?_cons_succ]
              repeat (go_big_quiet_step (fail))
              refine wpQuiet_nil ?_
              refine mixT_slots [5, 6] (fuel := 14) rfl (by kernel_rfl) (by kernel_rfl) (fun d _ _ _ _ h => by cases d <;> exact h) ?_
              simp only [opersAt, List.getElem?_toArray, List.getElem?_cons_zero, List.getElem?_cons_succ]
              repeat (go_big_quiet_step (fail))
              refine wpQuiet_nil ?_
              refine mixT_reads [7] (fuel := 13) rfl (by kernel_rfl) (by decide) (by kernel_rfl) (fun d _ _ _ _ h => by cases d <;> exact h) (ext_drew _ _) ?_
              simp only [opersAt, List.getElem?_toArray, List.getElem?_cons_zero, List.getElem?_cons_succ]
              repeat (go_big_quiet_step (fail))
              refine wpQuiet_nil ?_
              refine mixT_one (k := 8) (by kernel_rfl) rfl ?_
              go_wp2_with (go_at_call 42; refine (HSP.out _ (Below.refl _ _).drew).mono ?_; rintro e W7 ⟨rfl, m, rfl⟩)
              refine ⟨Or.inr (by intros; exact ⟨⟨_, below_drewN (Below.refl _ _) _⟩, rfl⟩), ?_⟩
              refine mixT_slots [9, 10] (fuel := 10) rfl (by kernel_rfl) (by kernel_rfl) (fun d _ _ _ _ h => by cases d <;> exact h) ?_
              simp only [opersAt, List.getElem?_toArray, List.getElem?_cons_zero, List.getElem?_cons_succ]
              repeat (go_big_quiet_step (fail))
              refine wpQuiet_nil ?_
              refine mixT_slots [12, 13, 14] (fuel := 7) rfl (by kernel_rfl) (by kernel_rfl) (fun d _ _ _ _ h => by cases d <;> exact h) ?_
              simp only [opersAt, List.getElem?_toArray, List.getElem?_cons_zero, List.getElem?_cons_succ]
              repeat (go_big_quiet_step (fail))
              refine wpQuiet_nil ?_
              refine mixT_reads [11, 15] (fuel := 5) rfl (by kernel_rfl) (by decide) (by kernel_rfl) (fun d _ _ _ _ h => by cases d <;> exact h) (⟨⟨_, below_drewN (Below.refl _ _) _⟩, rfl⟩) ?_
              simp only [opersAt, List.getElem?_toArray, List.getElem?_cons_zero, List.getElem?_cons_succ]
              repeat (go_big_quiet_step (fail))
              refine wpQuiet_nil ?_
              refine mixT_slots [16] (fuel := 4) rfl (by kernel_rfl) (by kernel_rfl) (fun d _ _ _ _ h => by cases d <;> exact h) ?_
              simp only [opersAt, List.getElem?_toArray, List.getElem?_cons_zero, List.getElem?_cons_succ]
              repeat (go_big_quiet_step (fail))
              refine wpQuiet_nil ?_
              refine mixT_reads [17] (fuel := 3) rfl (by kernel_rfl) (by decide) (by kernel_rfl) (fun d _ _ _ _ h => by cases d <;> exact h) (⟨⟨_, below_drewN (Below.refl _ _) _⟩, rfl⟩) ?_
              simp only [opersAt, List.getElem?_toArray, List.getElem?_cons_zero, List.getElem?_cons_succ]
              repeat (go_big_quiet_step (fail))
              refine wpQuiet_nil ?_
              refine mixT_one (k := 18) (by kernel_rfl) rfl ?_
              go_wp2_with (go_at_call 25; refine (HSL.out _ (below_drewN (Below.refl _ _) _)).mono ?_; rintro e W8 ⟨rfl, hb8⟩)
              have hb9 : Below W6.heap.size W6 W8 := (below_drewN (Below.refl _ _) _).trans hb8
              refine ⟨Or.inr (by intros; exact ⟨⟨_, hb9⟩, rfl⟩), ?_⟩
              refine mixT_slots [19, 20] (fuel := 0) rfl (by kernel_rfl) (by kernel_rfl) (fun d _ _ _ _ h => by cases d <;> exact h) ?_
              simp only [opersAt, List.getElem?_toArray, List.getElem?_cons_zero, List.getElem?_cons_succ]
              repeat (go_big_quiet_step (fail))
              refine wpQuiet_nil ?_
              refine mixT_nil (by kernel_rfl) ?_
              go_wp2
              go_meet
              case rel => exact ⟨rfl, hb9⟩
            case rest =>
              as_aux_lemma =>
              obtain ⟨rfl, HB7⟩ := hcut
              have f1 := (HB7.out.cell (p := ⟨w.heap.size + 2, 0, none⟩) z1).trans e1
              have f4 := (HB7.out.cell (p := ⟨w.heap.size, 1, none⟩) z2).trans e4
              have f6 := (HB7.out.cell (p := ⟨D5, 0, none⟩) z4).trans e6
              have HEE := hide (HE.out _ HB7.out)
              clear e1 e2 e3 e4 e6 rl1 rl2
              by_cases hcd : ans.resp.code = 27
              · rw [hcd] at f6
                rw [H3.out hcd] at f4
                go_wp2
                go_roundg (n - (q + 1))
                case measure => omega
                case rel => exact ⟨q + 1, by omega, rfl, by go_num, HEE⟩
              · have hcf : (ans.resp.code == 27) = false := by simpa using hcd
                go_wp2
                go_roundg (n - (q + 1))
                case measure => omega
                case rel => exact ⟨q + 1, by omega, rfl, by go_num, HEE⟩
      · obtain rfl : q = n := by omega
        have HBW := hide HQ.out.blw
        go_wp2
        go_ret
        exact ⟨by first | rfl | simp, HBW.out⟩
  · have hd : decide (total s ≤ 65536) = false := by simpa using hsm
    rw [hd] at HSm
    clear hd hsm ha hc hn hgl HNB
    go_enter Tryz.func8, Tryz.ntmps8
    go_wp2_with (go_at_call 18; refine HSm.out.mono ?_; rintro e w1 ⟨rfl, rfl⟩)
    go_ret
    exact ⟨rfl, Below.refl _ _⟩

end Go.Proofs.Qxb6500666aGreatDoor
