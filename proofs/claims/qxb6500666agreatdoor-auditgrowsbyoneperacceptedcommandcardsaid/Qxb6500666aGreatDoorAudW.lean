/- AuditGrowsByOnePerAcceptedCommand, walked. (Made by tools/mk_audw.py.) -/
import Derived.Test.Qxb6500666aGreatDoorAudQ
import Derived.BigQuiet
namespace Go.Proofs.Qxb6500666aGreatDoor
open Go.RowKit
theorem BX.grow {w W W' : World} {K K' : Nat → Prop} {t : ST} (h : BX w W K t) (hs : ∀ b, b < W.heap.size → ¬ K b → W'.heap[b]? = W.heap[b]?) (hz : W.heap.size ≤ W'.heap.size) (hb : Below w.heap.size w W') (hK : ∀ g, K' g → K g ∨ (W.heap.size ≤ g ∧ g < W'.heap.size)) : BX w W' K' t := by
  obtain ⟨Y, pv, A, ok, zs, x, h1, h2, h3, h4⟩ := h
  refine ⟨Y, pv, A, ok, zs, x, h1.mono (fun b hl hq => hs b hl (fun hK => ?_)) hz, h2, hb, fun g hg => ?_⟩
  · obtain ⟨⟨a1, a2, a3⟩, a4, a5, a6, a7⟩ := (h4 b hK).2
    rcases hq with e | e | e | e | e | e | e
    · exact a4 e
    · exact a1 e
    · exact a2 e
    · exact a3 e
    · exact a5 e
    · exact a6 e
    · exact a7 e
  · rcases hK g hg with q | q
    · exact ⟨Nat.lt_of_lt_of_le (h4 g q).1 hz, (h4 g q).2⟩
    · exact ⟨q.2, h1.aw q.1⟩
/-- An entry is appended. -/
theorem AQ.grown {w W W' : World} {B Rb M1 M2 n : Nat} {v v' : Value} {zs' : List ZE} {t : ST} {ro : Int → Option Int} {ac : Int → Option Bool} (hx : BX w W (fun g => PK Rb M1 M2 g ∨ v.ownBlock = some g) t) (hr : RoAt W Rb M1 M2 n ro ac) (hai : AI t.ps (zs'.map (·.1))) (hown : OwnR W' B 67 20 zeCs v' zs') (hzip : ZipE W (· < w.heap.size) zs') (hsep : ∀ g, v.ownBlock = some g → g ≠ Rb ∧ g ≠ M1 ∧ g ≠ M2) (hsame : Same (fun b => b < W.heap.size ∧ v.ownBlock ≠ some b) W W') (hb : Below B W W') (hB : w.heap.size ≤ B) (hat : v'.ownBlock = v.ownBlock ∨ v'.ownBlock = some W.heap.size) : AQ w W' B Rb M1 M2 n v' zs' t ro ac := by
  have hbw : Below w.heap.size w W' := hx.blw.trans (hb.mono hB)
  have hlt : ∀ g, PK Rb M1 M2 g → g < W.heap.size := fun g q => q.elim (fun e => e ▸ blk_lt hr.top) (fun q => q.elim (fun e => e ▸ hr.m1.lt) (fun e => e ▸ hr.m2.lt))
  have hno : ∀ g, PK Rb M1 M2 g → v.ownBlock ≠ some g := fun g q e => by
    have := hsep g e
    rcases q with q | q | q
    · exact this.1 q
    · exact this.2.1 q
    · exact this.2.2 q
  have hx' : BX w W' (fun g => PK Rb M1 M2 g ∨ v'.ownBlock = some g) t := hx.grow (fun b q1 q2 => hsame b ⟨q1, fun e => q2 (Or.inr e)⟩) hb.size hbw (fun g q => by
    rcases q with q | q
    · exact Or.inl (Or.inl q)
    · rcases hat with e | e
      · exact Or.inl (Or.inr (e ▸ q))
      · rw [e] at q
        injection q with q
        exact Or.inr ⟨by omega, (hown.block g (by rw [e, q])).2⟩)
  refine ⟨hx', hr.same (fun g q => hsame g ⟨hlt g q, hno g q⟩), hai, hown, hzip.low hx.blw hbw, fun g q => ?_⟩
  rcases hat with e | e
  · exact hsep g (e ▸ q)
  · rw [e] at q
    injection q with q
    have h1 := blk_lt hr.top
    have h2 := hr.m1.lt
    have h3 := hr.m2.lt
    exact ⟨by omega, by omega, by omega⟩
attribute [local go_sem] ext_const Ext.cell Ext.frozen Ext.rng Ext.whole
attribute [local go_sem ↓] exec_ldOpz exec_stOpz exec_ldAns exec_stAns exec_ldReq exec_ldEnt exec_bdEnt4 exec_bsEnt exec_fldRsp exec_fldSt
attribute [local go_sem] run_ldOpz run_stOpz opA_size run_ldAns run_stAns ansCs_size ansCs_ones run_ldReq run_ldEnt run_bdEnt4 run_bsEnt run_fld0 run_fld4 run_fld5 run_fldSt0 reqA_size whole_alloc_lt whole_alloc_at whole_drew setRow_alloc_at setRow_alloc_lt rng_alloc_lt rng_alloc_at rng_drew rng_drewN

set_option maxRecDepth 100000 in
set_option maxHeartbeats 8000000 in
theorem aud_walk (w : World) (v : Value) (s : List Op) (rn kn ft : Nat → ByteArray) (okg : Nat → Prop) (h : Script w (· < w.heap.size) v s) (hgl : Gl w w.heap.size rn kn ft okg) :
    Calls Tryz.prog 6 #[v] w fun e w' => e = .returned (.bool true) ∧ Below w.heap.size w w' := by
  have HSm := hide (small_calls w _ v s h)
  have HGL := hide (fun W (hb : Below w.heap.size w W) => hgl.same hb (Nat.le_refl _))
  have HNB := hide (newBench_calls w)
  obtain ⟨a, cap, b, off, rfl, hl, hm, hr, ha, hc⟩ := h
  obtain ⟨n, hn⟩ : ∃ n, n = s.length := ⟨_, rfl⟩
  have Hn : Hid (n = s.length) := hn
  rw [← hn] at hl hr ha HSm ⊢
  have hi := run_indexAt_arr (P := Tryz.prog) (cap := cap) Tryz.underlying22 Tryz.size61 (fun h => (ha h).1)
  have HB : Hid (0 < n → b < w.heap.size) := fun h => (ha h).2
  by_cases hsm : total s ≤ 65536
  · have HC : Hid (∀ k (h : k < s.length), ∃ lv dv ca cn cc, rng w b (off + k * 27) 27 = some (opA s[k] lv dv ca cn cc) ∧ OpIn w (· < w.heap.size) s[k] lv dv ca cn cc ∧ ones (opA s[k] lv dv ca cn cc) 27 = true) := fun k h => by
      obtain ⟨cs, hlen, hE, hcell⟩ := hc k h
      have ht := total_le h hsm
      obtain ⟨lv, dv, ca, cn, cc, e, hO, h1⟩ := opIn_of hE ht.2.1 ht.2.2
      refine ⟨lv, dv, ca, cn, cc, ?_, hO, h1⟩
      rw [← e]
      have hl27 : cs.length = 27 := by have := congrArg Array.size e; simpa [opA] using this
      have := rng_of_cells (w := w) (b := b) (off := off + k * 27) (by omega) hcell
      rw [hl27] at this
      exact this
    have HIV : Hid (∀ q, q ≤ s.length → Inv q (stAt s q)) := inv_all (fun k hk => by
      obtain ⟨_, _, _, _, _, _, h1, _⟩ := HC.out k hk
      exact h1.req)
    have hn2 : n ≤ 65536 := by have := hsm; unfold total at this; omega
    have hd : decide (total s ≤ 65536) = true := by simpa using hsm
    rw [hd] at HSm
    clear hd hsm ha hc hn hgl
    go_enter Tryz.func6, Tryz.ntmps6
    go_upto_region 3 with (go_at_call 18; refine HSm.out.mono ?_; rintro e w1 ⟨rfl, rfl⟩)
    go_upto_region 4 with (first | (go_at_call 19; refine HNB.out.mono ?_; rintro e W0 ⟨rfl, hbn, hb0⟩) | (go_at_call 34; refine (newRoles_calls _).mono ?_; rintro e W1 ⟨Rb, M1, M2, rfl, hro, hb1, l1, l2, l3, l4⟩))
    have hz0 := hb0.size
    have HQ0 : Hid (AQ w W1 w.heap.size Rb M1 M2 (0 + 1) (.slice none 0 0) [] (stAt s 0) ro0 ac0 ∧ UI (stAt s 0).ps ro0 ac0) := ⟨⟨(BX.start hbn hb0).more hb1 (fun g q => Or.inr (by
      rcases q with (rfl | rfl | rfl) | q
      · exact ⟨l1, l4⟩
      · exact ⟨l2, hro.m1.lt⟩
      · exact ⟨l3, hro.m2.lt⟩
      · exact (nomatch (show (none : Option Nat) = some _ from q)))), hro, AI.start, OwnR.nil _ _ _ _ _, fun z hz => (by cases hz), fun g q => (nomatch (show (none : Option Nat) = some _ from q))⟩, UI.start⟩
    have HLO : Hid (w.heap.size ≤ Rb ∧ w.heap.size ≤ M1 ∧ w.heap.size ≤ M2) := ⟨by omega, by omega, by omega⟩
    clear hbn hb0 hb1 hro l1 l2 l3 l4 hz0 HSm HNB
    go_upto_region 6 with fail
    go_loopg [5, 19] n (fun g v5 j wr => ∃ (q : Nat) (zs : List ZE) (ro : Int → Option Int) (ac : Int → Option Bool) (a : Option Addr) (c : Nat), q ≤ n ∧ g = n - q ∧ j = .int .i64 q ∧ v5 = .slice a zs.length c ∧ Hid (AQ w wr w.heap.size Rb M1 M2 (q + 1) (.slice a zs.length c) zs (stAt s q) ro ac ∧ UI (stAt s q).ps ro ac ∧ zs.length ≤ q))
    case atStart => exact ⟨0, [], ro0, ac0, none, 0, by omega, by omega, rfl, rfl, ⟨HQ0.out.1, HQ0.out.2, Nat.le_refl _⟩⟩
    clear HQ0
    case round =>
      obtain ⟨q, zs, ro, ac, sa, sc, hq, rfl, rfl, rfl, HQ⟩ := hrel
      by_cases hlt : q < n
      · have hqs : q < s.length := by rw [← Hn.out]; exact hlt
        have hbb := HB.out (by omega)
        obtain ⟨lv, dv, ca, cn, cc, hcl, hO, hones⟩ := HC.out q hqs
        have HIQ := hide (HIV.out q (by omega))
        have HIS := hide (HIV.out (q + 1) (by omega))
        have HSQ := hide (stAt_succ hqs)
        rw [HSQ.out] at HIS
        generalize s[q] = p at *
        obtain ⟨haq, hui, hzl⟩ := HQ.out
        have HAQ := hide haq
        have HUI := hide hui
        clear haq hui HQ
        have hcells : rng wr b (off + q * 27) 27 = some (opA p lv dv ca cn cc) := by rw [rng_of_block (HAQ.out.bx.blw.block _ hbb)]; exact hcl
        have hbw : b < wr.heap.size := by have := HAQ.out.bx.blw.size; omega
        have HOI := hide hO
        have HRQ := hide hO.req
        clear hO hcl
        go_upto_region 8 with fail
        have HQ1 : Hid (BX w (wr.alloc (.cells (opA p lv dv ca cn cc) 61)) (fun g => (PK Rb M1 M2 g ∨ (Value.slice sa zs.length sc).ownBlock = some g) ∨ g = wr.heap.size) (stAt s q)) := HAQ.out.bx.more ((Below.refl _ _).alloc (Nat.le_refl _) _) (fun g q => by
          rcases q with q | rfl
          · exact Or.inl q
          · exact Or.inr ⟨Nat.le_refl _, by simp⟩)
        have HA1 := hide (HAQ.out.below ((Below.refl _ _).alloc (Nat.le_refl _) (.cells (opA p lv dv ca cn cc) 61)))
        have HOW : Hid (∀ g, (Value.slice sa zs.length sc).ownBlock = some g → g < wr.heap.size) := fun g e => (HAQ.out.own.block g e).2
        have hk1 : (wr.alloc (.cells (opA p lv dv ca cn cc) 61)).heap[wr.heap.size]? = some (.cells (opA p lv dv ca cn cc) 61 (0, 0)) := heap_alloc_at _ _
        clear HAQ
        generalize wr.alloc (.cells (opA p lv dv ca cn cc) 61) = U1 at *
        generalize wr.heap.size = D at *
        generalize stAt s q = t at *
        have hr1 : rng U1 D 0 27 = some (opA p lv dv ca cn cc) := rng_whole hk1
        have HK1 := hide hk1
        have HST := hide (HQ1.out.step (HIQ.out.po (by omega)) (HOI.out.below HQ1.out.blw) (HGL.out _ HQ1.out.blw) ⟨HIQ.out.off.1, by have := HIQ.out.off.2; omega⟩)
        clear hk1 hcells hbw
        go_upto_region 9 with (go_at_call 21; refine HST.out.mono ?_; rintro e U2 ⟨ans, rfl, hq2, hf2, ha2⟩; have HQ2 := hide hq2; have HF2 := hide hf2; have HA2 := hide ha2; clear hq2 hf2 ha2)
        clear hr1 HST
        have hb5 : Below U2.heap.size U2 (U2.alloc (.cells (ansCs ans) 77)) := (Below.refl _ _).alloc (Nat.le_refl _) _
        have HX3 : Hid (BX w (U2.alloc (.cells (ansCs ans) 77)) (fun g => PK Rb M1 M2 g ∨ (Value.slice sa zs.length sc).ownBlock = some g) (stepR t p)) := HQ2.out.more hb5 (fun g q => Or.inl (Or.inl q))
        have HR3 : Hid (RoAt (U2.alloc (.cells (ansCs ans) 77)) Rb M1 M2 (q + 1) ro ac) := (HA1.out.ra.same (fun g q => HF2.out g (Or.inl (Or.inl q)))).below hb5
        have HO2 : OwnR U2 w.heap.size 67 20 zeCs (.slice sa zs.length sc) zs := HA1.out.own.mono (fun g q => HF2.out g (Or.inl (Or.inr q)))
        have HO3 : Hid (OwnR (U2.alloc (.cells (ansCs ans) 77)) w.heap.size 67 20 zeCs (.slice sa zs.length sc) zs) := HO2.below hb5 (Nat.le_refl _)
        have HZ3 : Hid (ZipE (U2.alloc (.cells (ansCs ans) 77)) (· < w.heap.size) zs) := HA1.out.zip.low HA1.out.bx.blw HX3.out.blw
        have HSP := hide HA1.out.sep
        have HAS := hide (aud_step HA1.out.ai HUI.out HRQ.out HOI.out.ids (by simp; omega) HA2.out)
        have HU3 := hide (HUI.out.step HRQ.out HA2.out)
        have k2 : U2.heap[D]? = some (.cells (opA p lv dv ca cn cc) 61 (0, 0)) := (HF2.out D (Or.inr rfl)).trans HK1.out
        have k3 : (U2.alloc (.cells (ansCs ans) 77)).heap[D]? = some (.cells (opA p lv dv ca cn cc) 61 (0, 0)) := (hb5.block _ (blk_lt k2)).trans k2
        have k4 : (U2.alloc (.cells (ansCs ans) 77)).heap[U2.heap.size]? = some (.cells (ansCs ans) 77 (0, 0)) := heap_alloc_at _ _
        have HOD : Hid (∀ g, (Value.slice sa zs.length sc).ownBlock = some g → g ≠ D ∧ g ≠ U2.heap.size) := fun g e => ⟨by have := HOW.out g e; omega, by have := (HO2.block g e).2; omega⟩
        clear k2 HK1 HA1 HQ1 HQ2 HF2 HO2 hb5
        generalize U2.alloc (.cells (ansCs ans) 77) = U3 at *
        generalize U2.heap.size = D3 at *
        have r3 : rng U3 D 0 27 = some (opA p lv dv ca cn cc) := rng_whole k3
        have r4 : rng U3 D3 0 48 = some (ansCs ans) := rng_whole k4
        have HPO := hide (HIS.out.po (by omega))
        have hof : 0 ≤ (stepR t p).off ∧ (stepR t p).off ≤ 1000000000000000 := ⟨HIS.out.off.1, by have := HIS.out.off.2; omega⟩
        cases hac : accP p ans.resp with
        | false =>
          as_aux_lemma =>
          have HAQ : Hid (AQ w U3 w.heap.size Rb M1 M2 (q + 1) (.slice sa zs.length sc) zs (stepR t p) ro ac) := ⟨HX3.out, HR3.out, HAS.out.2 hac, HO3.out, HZ3.out, HSP.out⟩
          go_upto_region 11 with (go_at_call 31; refine (accepted_calls _ p lv dv ca cn cc ans).mono ?_; rintro e U4 ⟨rfl, hb4⟩; rw [hac]; have HAW := hide (HAQ.out.below hb4); have k3' := (hb4.block _ (blk_lt k3)).trans k3; have k4' := (hb4.block _ (blk_lt k4)).trans k4; clear hb4)
          have r3 : rng U4 D 0 27 = some (opA p lv dv ca cn cc) := rng_whole k3'
          have r4 : rng U4 D3 0 48 = some (ansCs ans) := rng_whole k4'
          clear k3 k4 k3' k4' HAQ HX3 HR3 HO3 HZ3
          have hzl' : zs.length ≤ q + 1 := by omega
          go_upto_region 12 with (go_at_call 35; refine (note_calls _ Rb M1 M2 (q + 1) ro ac p _ dv ca cn cc ans HAW.out.ra (by omega) HRQ.out).mono ?_; rintro e W6 ⟨rfl, hN⟩; have HA6 := hide (HAW.out.noted hN HLO.out.2.1 HLO.out.2.2); clear hN)
          clear r3 r4 HAW
          have HK22 := hide (HA6.out.bx.ask HPO.out (HGL.out _ HA6.out.bx.blw) hof 22 0 0 rfl u32z u32z)
          go_upto_region 15 with (first
            | (go_at_call 27; refine HK22.out.mono ?_; rintro e W7 ⟨rs1, rfl, hx7, hf7, hp7⟩; have hen := aud_stat HA6.out.ai hp7; rw [List.length_map] at hen; have hen2 : (rs1.st.entries != (zs.length : Int)) = false := (by simp [hen]); have HA7 := hide (HA6.out.asked hx7 hf7); have HK23 := hide (HA7.out.bx.ask HPO.out (HGL.out _ HA7.out.bx.blw) hof 23 ((zs.length : Int) + 1) 0 rfl ⟨by omega, by omega⟩ u32z); clear hx7 hf7 hp7 HK22 HA6 hen)
            | (go_at_call 27; refine HK23.out.mono ?_; rintro e W8 ⟨rs2, rfl, hx8, hf8, hp8⟩; have hcd : rs2.code = 24 := aud_none (es := zs.map (·.1)) HA7.out.ai (by simp; omega) (by rw [List.length_map]; exact hp8); have hcd2 : (rs2.code != 24) = false := (by simp [hcd]); have HA8 := hide (HA7.out.asked hx8 hf8); clear hx8 hf8 hp8 HK23 HA7 hcd))
          have HFN : Hid (∀ W, AQ w W w.heap.size Rb M1 M2 (q + 1 + 1) (.slice sa zs.length sc) zs (stepR t p) (noteRo ro p (accP p ans.resp)) (noteAc ac p (accP p ans.resp)) → Hid (AQ w W w.heap.size Rb M1 M2 (q + 1 + 1) (.slice sa zs.length sc) zs (stAt s (q + 1)) (noteRo ro p (accP p ans.resp)) (noteAc ac p (accP p ans.resp)) ∧ UI (stAt s (q + 1)).ps (noteRo ro p (accP p ans.resp)) (noteAc ac p (accP p ans.resp)) ∧ zs.length ≤ q + 1)) := fun W hA => ⟨by rw [HSQ.out]; exact hA, by rw [HSQ.out]; exact HU3.out, hzl'⟩
          by_cases hpos : 0 < zs.length
          · as_aux_lemma =>
            have hel := HA8.out.own.elem zeCs_size (by decide) (by omega) hpos
            obtain ⟨g, cap', hv, -, hgl, -⟩ := hel
            injection hv with hv1 hv2 hv3
            subst hv1
            subst hv3
            clear hv2
            have HEL : Hid (∀ W, AQ w W w.heap.size Rb M1 M2 (q + 1 + 1) (.slice (some ⟨g, 0, none⟩) zs.length sc) zs (stepR t p) (noteRo ro p (accP p ans.resp)) (noteAc ac p (accP p ans.resp)) → rng W g ((zs.length - 1) * 20) 20 = some (entA (zs[zs.length - 1]'(by omega)).1 (sv (zs[zs.length - 1]'(by omega)).2))) := fun W hA => by
              obtain ⟨g', cap2, hv, -, -, h⟩ := hA.own.elem zeCs_size (by decide) (by omega) hpos
              injection hv with hv1 hv2 hv3
              injection hv1 with hv1
              injection hv1 with hv1
              subst hv1
              exact h _ (by omega)
            have hix : ∀ W, (Instr.indexAt 42 (.slice (some ⟨g, 0, none⟩) zs.length sc) (.int .u32 ((zs.length : Int) - 1))).run Tryz.prog W = .ok (.pointer (some ⟨g, (zs.length - 1) * 20, none⟩)) W := fun W => by
              have := run_indexAt_u32 (P := Tryz.prog) (cap := sc) (n := zs.length) (b := g) (off := 0) Tryz.underlying42 Tryz.size67_z (fun _ => rfl) W ((zs.length : Int) - 1) (by omega) (by omega)
              rwa [show ((zs.length : Int) - 1).toNat = zs.length - 1 by omega, Nat.zero_add] at this
            have hposI : (0 : Int) < (zs.length : Int) := by omega
            have HKN := hide (fun W (hA : AQ w W w.heap.size Rb M1 M2 (q + 1 + 1) (.slice (some ⟨g, 0, none⟩) zs.length sc) zs (stepR t p) (noteRo ro p (accP p ans.resp)) (noteAc ac p (accP p ans.resp))) => hA.bx.ask HPO.out (HGL.out _ hA.bx.blw) hof 23 (zs.length : Int) 0 rfl ⟨by omega, by omega⟩ u32z)
            have hr8 := HEL.out _ HA8.out
            clear hen2 hcd2 hgl
            refine wp_region_mixT (W8.heap.size) [] (by kernel_rfl) ?_
            refine mixT_slots [0, 1, 2] (fuel := 12) rfl (by kernel_rfl) (by kernel_rfl) (fun d _ _ _ _ h => by cases d <;> exact h) ?_
            simp only [opersAt, List.getElem?_toArray, List.getElem?_cons_zero, List.getElem?_cons_succ]
            repeat (go_big_quiet_step (fail))
            refine wpQuiet_nil ?_
            refine mixT_slots [3, 4, 7, 8, 9, 10] (fuel := 6) rfl (by kernel_rfl) (by kernel_rfl) (fun d _ _ _ _ h => by cases d <;> exact h) ?_
            simp only [opersAt, List.getElem?_toArray, List.getElem?_cons_zero, List.getElem?_cons_succ]
            repeat (go_big_quiet_step (fail))
            refine wpQuiet_nil ?_
            refine mixT_two (k := 5) (k' := 11) (by kernel_rfl) rfl rfl ?_ ?_
            · go_wp2_with (go_at_call 27; refine (HKN.out _ (HA8.out.below (Below.refl _ _).drew)).mono ?_; rintro e W9 ⟨rs3, rfl, hx9, hf9, hp9⟩)
              have hA9 := (HA8.out.below (Below.refl _ _).drew).asked hx9 hf9
              have hr9 := HEL.out _ hA9
              have hae := aud_ent (es := zs.map (·.1)) HA8.out.ai (by simp; omega) (by rw [List.length_map]; exact hp9)
              have HSE : Hid (∀ W, Below W9.heap.size W9 W → Calls Tryz.prog 36 #[.agg (entA rs3.en (sv rs3.el)), .agg (entA (zs[zs.length - 1]'(by omega)).1 (sv (zs[zs.length - 1]'(by omega)).2))] W fun e w' => e = .returned (.bool true) ∧ Below W.heap.size W w') := fun W hW => by
                have q1 : rs3.en = (zs[zs.length - 1]'(by omega)).1 := by rw [hae.1]; simp
                have q2 := hae.2
                rw [← hae.1, q1] at q2
                rw [q1]
                exact sameEntry_calls W _ _ _ _ _ (RArr.below q2 hW) (RArr.below (hA9.zip _ (List.getElem_mem _)) hW)
              have HA9 := hide hA9
              refine ⟨Or.inl (by kernel_rfl), ?_⟩
              generalize entA (zs[zs.length - 1]'(by omega)).1 (sv (zs[zs.length - 1]'(by omega)).2) = EW at *
              clear hx9 hf9 hp9 hae hA9
              refine mixT_slots [6] (fuel := 4) rfl (by kernel_rfl) (by kernel_rfl) (fun d _ _ _ _ h => by cases d <;> exact h) ?_
              simp only [opersAt, List.getElem?_toArray, List.getElem?_cons_zero, List.getElem?_cons_succ]
              repeat (go_big_quiet_step (fail))
              refine wpQuiet_nil ?_
              refine mixT_one (k := 11) (by kernel_rfl) rfl ?_
              go_wp2
              first
                | refine ⟨Or.inl (by kernel_rfl), ?_⟩
                | skip
              refine mixT_one (k := 12) (by kernel_rfl) rfl ?_
              go_wp2_with (go_at_call 36; refine (HSE.out _ (Below.refl _ _)).mono ?_; rintro e W10 ⟨rfl, hb10⟩)
              refine ⟨Or.inl (by kernel_rfl), ?_⟩
              refine mixT_slots [13, 14] (fuel := 0) rfl (by kernel_rfl) (by kernel_rfl) (fun d _ _ _ _ h => by cases d <;> exact h) ?_
              simp only [opersAt, List.getElem?_toArray, List.getElem?_cons_zero, List.getElem?_cons_succ]
              repeat (go_big_quiet_step (fail))
              refine wpQuiet_nil ?_
              refine mixT_nil (by kernel_rfl) ?_
              go_wp2
              go_roundg (n - (q + 1))
              case measure => omega
              case rel => exact ⟨q + 1, zs, _, _, _, _, by omega, rfl, by go_num, rfl, HFN.out _ (HA9.out.below hb10)⟩
            · go_wp2
              first
                | refine ⟨Or.inl (by kernel_rfl), ?_⟩
                | skip
              refine mixT_one (k := 5) (by kernel_rfl) rfl ?_
              go_wp2_with (go_at_call 27; refine (HKN.out _ (HA8.out.below (Below.refl _ _).drew)).mono ?_; rintro e W9 ⟨rs3, rfl, hx9, hf9, hp9⟩)
              have hA9 := (HA8.out.below (Below.refl _ _).drew).asked hx9 hf9
              have hr9 := HEL.out _ hA9
              have hae := aud_ent (es := zs.map (·.1)) HA8.out.ai (by simp; omega) (by rw [List.length_map]; exact hp9)
              have HSE : Hid (∀ W, Below W9.heap.size W9 W → Calls Tryz.prog 36 #[.agg (entA rs3.en (sv rs3.el)), .agg (entA (zs[zs.length - 1]'(by omega)).1 (sv (zs[zs.length - 1]'(by omega)).2))] W fun e w' => e = .returned (.bool true) ∧ Below W.heap.size W w') := fun W hW => by
                have q1 : rs3.en = (zs[zs.length - 1]'(by omega)).1 := by rw [hae.1]; simp
                have q2 := hae.2
                rw [← hae.1, q1] at q2
                rw [q1]
                exact sameEntry_calls W _ _ _ _ _ (RArr.below q2 hW) (RArr.below (hA9.zip _ (List.getElem_mem _)) hW)
              have HA9 := hide hA9
              refine ⟨Or.inl (by kernel_rfl), ?_⟩
              generalize entA (zs[zs.length - 1]'(by omega)).1 (sv (zs[zs.length - 1]'(by omega)).2) = EW at *
              clear hx9 hf9 hp9 hae hA9
              refine mixT_slots [6] (fuel := 3) rfl (by kernel_rfl) (by kernel_rfl) (fun d _ _ _ _ h => by cases d <;> exact h) ?_
              simp only [opersAt, List.getElem?_toArray, List.getElem?_cons_zero, List.getElem?_cons_succ]
              repeat (go_big_quiet_step (fail))
              refine wpQuiet_nil ?_
              refine mixT_one (k := 12) (by kernel_rfl) rfl ?_
              go_wp2_with (go_at_call 36; refine (HSE.out _ (Below.refl _ _)).mono ?_; rintro e W10 ⟨rfl, hb10⟩)
              refine ⟨Or.inl (by kernel_rfl), ?_⟩
              refine mixT_slots [13, 14] (fuel := 0) rfl (by kernel_rfl) (by kernel_rfl) (fun d _ _ _ _ h => by cases d <;> exact h) ?_
              simp only [opersAt, List.getElem?_toArray, List.getElem?_cons_zero, List.getElem?_cons_succ]
              repeat (go_big_quiet_step (fail))
              refine wpQuiet_nil ?_
              refine mixT_nil (by kernel_rfl) ?_
              go_wp2
              go_roundg (n - (q + 1))
              case measure => omega
              case rel => exact ⟨q + 1, zs, _, _, _, _, by omega, rfl, by go_num, rfl, HFN.out _ (HA9.out.below hb10)⟩
          · as_aux_lemma =>
            have hgt : decide ((0 : Int) < (zs.length : Int)) = false := decide_eq_false (by omega)
            go_quiet (fail)
            go_wp2
            go_roundg (n - (q + 1))
            case measure => omega
            case rel => exact ⟨q + 1, zs, _, _, _, _, by omega, rfl, by go_num, rfl, HFN.out _ (HA8.out.below (below_drewN (Below.refl _ _) _))⟩
        | true =>
          as_aux_lemma =>
          go_upto_region 10 with (go_at_call 31; refine (accepted_calls _ p lv dv ca cn cc ans).mono ?_; rintro e U4 ⟨rfl, hb4⟩; rw [hac]; have HB4 := hide hb4; clear hb4)
          have HX4 := hide (HX3.out.below HB4.out)
          have HR4 := hide (HR3.out.below HB4.out)
          have HO4 := hide (HO3.out.below HB4.out (Nat.le_refl _))
          have HZ4 := hide (HZ3.out.low HX3.out.blw HX4.out.blw)
          have k3 := (HB4.out.block _ (blk_lt k3)).trans k3
          have k4 := (HB4.out.block _ (blk_lt k4)).trans k4
          have z3 := blk_lt k3
          have z4 := blk_lt k4
          have hzR := blk_lt HR4.out.top
          have hz5 := HX4.out.blw.size
          have e6 := cells_all HR4.out.top 0
          have e7 := cells_all k3 2
          have e8 := cells_all k4 1
          simp only [opA, ansCs, List.getElem?_toArray, List.getElem?_cons_zero, List.getElem?_cons_succ] at e6 e7 e8
          have r5 : rng U4 D 1 17 = some (reqA p.req lv) := by unfold rng; rw [k3]; rfl
          have hlk : ∀ x : Ext U4.heap.size U4, (Instr.lookup 120 (.map (some M1)) (.int .u32 p.req.user) false).run Tryz.prog x.world = .ok (.int .u8 ((ro p.req.user).getD 0)) x.world := fun x => by
            rw [← look_r]
            exact (HR4.out.m1.same (x.below.block _ HR4.out.m1.lt)).look Tryz.mapRole (Tryz.zeroRole _) HRQ.out.user
          obtain ⟨la, lc, _, _, elv, _⟩ := HOI.out.list
          subst elv
          have HLV := hide HOI.out.list
          have hlen2 : zs.length ≤ 65536 := by omega
          have HK3 := hide k3
          have HK4 := hide k4
          have HAI := hide (HAS.out.1 hac)
          rw [List.length_map] at HAI
          generalize (ro p.req.user).getD 0 = rl at *
          clear k3 k4 HX3 HR3 HO3 HZ3 HAS
          refine wp_region_mixT (U4.heap.size) [8, 11, 12, 15, 17] (by kernel_rfl) ?_
          refine mixT_slots [0, 1, 2, 3, 4, 5, 6, 7, 9, 10, 13, 14, 16] (fuel := 9) rfl (by kernel_rfl) (by kernel_rfl) (fun d _ _ _ _ h => by cases d <;> exact h) ?_
          simp only [opersAt, List.getElem?_toArray, List.getElem?_cons_zero, List.getElem?_cons_succ]
          repeat (go_big_quiet_step (fail))
          refine wpQuiet_nil ?_
          refine mixT_reads [8, 11, 15, 17] (fuel := 5) rfl (by kernel_rfl) (by decide) (by kernel_rfl) (fun d _ _ _ _ h => by cases d <;> exact h) (ext_drew _ _) ?_
          simp only [opersAt, List.getElem?_toArray, List.getElem?_cons_zero, List.getElem?_cons_succ]
          repeat (go_big_quiet_step (fail))
          refine wpQuiet_nil ?_
          refine mixT_reads [12] (fuel := 4) rfl (by kernel_rfl) (by decide) (by kernel_rfl) (fun d _ _ _ _ h => by cases d <;> exact h) (ext_drew _ _) ?_
          simp only [opersAt, List.getElem?_toArray, List.getElem?_cons_zero, List.getElem?_cons_succ]
          repeat (go_big_quiet_step (fail))
          refine wpQuiet_nil ?_
          refine mixT_one (k := 18) (by kernel_rfl) rfl ?_
          go_wp2
          refine mixT_one (k := 19) (by kernel_rfl) rfl ?_
          go_wp2
          refine ⟨Or.inr (by intros; exact ⟨⟨_, ((Below.refl _ _).alloc (Nat.le_refl _) _).drew⟩, rfl⟩), ?_⟩
          refine mixT_one (k := 20) (by kernel_rfl) rfl ?_
          have hbd : ∀ o : Obj, Below U4.heap.size U4 (U4.alloc o).drew := fun o => ((Below.refl _ _).alloc (Nat.le_refl _) _).drew
          refine wpList_app1 (α := ZE) rfl _ _ 42 rfl w.heap.size 67 zeCs Tryz.underlying42 Tryz.info67_z rfl (by decide) zeCs_size zeCs_one (.slice sa zs.length sc) zs rfl (HO4.out.below (hbd _) (Nat.le_refl _)) U4.heap.size rfl (⟨(zs.length : Int) + 1, rl, ans.resp.issued, p.req⟩, (la, p.req.list.length, lc)) (rng_whole (heap_alloc_at U4 _)) (by omega) (by unfold maxLen; omega) (by have := (hbd (.cells (entA ⟨(zs.length : Int) + 1, rl, ans.resp.issued, p.req⟩ (.slice la p.req.list.length lc)) 67)).size; omega) ?_
          intro v9 w9 hown9 hsame9 hbel9 hat9
          refine ⟨Or.inl (by kernel_rfl), ?_⟩
          have hz9 := (hbd (.cells (entA ⟨(zs.length : Int) + 1, rl, ans.resp.issued, p.req⟩ (.slice la p.req.list.length lc)) 67)).size
          have k39 := (hsame9 D ⟨by omega, fun e => (HOD.out D e).1 rfl⟩).trans ((hbd _).block D z3 |>.trans HK3.out)
          have k49 := (hsame9 D3 ⟨by omega, fun e => (HOD.out D3 e).2 rfl⟩).trans ((hbd _).block D3 z4 |>.trans HK4.out)
          obtain ⟨va, vc, hv9⟩ := hown9.form
          subst hv9
          have hxd := HX4.out.below (hbd (.cells (entA ⟨(zs.length : Int) + 1, rl, ans.resp.issued, p.req⟩ (.slice la p.req.list.length lc)) 67))
          have HAW := hide (AQ.grown hxd (HR4.out.below (hbd _)) (by simpa using HAI.out) hown9 (fun z hz => by
            rcases List.mem_append.mp hz with hz | hz
            · exact (HZ4.out.low HX4.out.blw hxd.blw) z hz
            · rw [List.mem_singleton.mp hz]
              exact RArr.mono HLV.out (fun b hb => hxd.blw.block b hb) (fun _ q => q)) HSP.out hsame9 hbel9 (Nat.le_refl _) hat9)
          have r3 : rng w9 D 0 27 = some (opA p _ dv ca cn cc) := rng_whole k39
          have r4 : rng w9 D3 0 48 = some (ansCs ans) := rng_whole k49
          have hzl' : (zs ++ [((⟨(zs.length : Int) + 1, rl, ans.resp.issued, p.req⟩, (la, p.req.list.length, lc)) : ZE)]).length ≤ q + 1 := by simp; omega
          generalize zs ++ [((⟨(zs.length : Int) + 1, rl, ans.resp.issued, p.req⟩, (la, p.req.list.length, lc)) : ZE)] = zs2 at *
          clear hown9 hsame9 hbel9 hat9 k39 k49 hxd hbd r5 e6 e7 e8 hlk HX4 HR4 HO4 HZ4 HAI HK3 HK4
          refine mixT_one (k := 21) (by kernel_rfl) rfl ?_
          go_wp2
          first
            | refine ⟨Or.inl (by kernel_rfl), ?_⟩
            | skip
          refine mixT_nil (by kernel_rfl) ?_
          go_upto_region 12 with (go_at_call 35; refine (note_calls _ Rb M1 M2 (q + 1) ro ac p _ dv ca cn cc ans HAW.out.ra (by omega) HRQ.out).mono ?_; rintro e W6 ⟨rfl, hN⟩; have HA6 := hide (HAW.out.noted hN HLO.out.2.1 HLO.out.2.2); clear hN)
          clear r3 r4 HAW
          have HK22 := hide (HA6.out.bx.ask HPO.out (HGL.out _ HA6.out.bx.blw) hof 22 0 0 rfl u32z u32z)
          go_upto_region 15 with (first
            | (go_at_call 27; refine HK22.out.mono ?_; rintro e W7 ⟨rs1, rfl, hx7, hf7, hp7⟩; have hen := aud_stat HA6.out.ai hp7; rw [List.length_map] at hen; have hen2 : (rs1.st.entries != (zs2.length : Int)) = false := (by simp [hen]); have HA7 := hide (HA6.out.asked hx7 hf7); have HK23 := hide (HA7.out.bx.ask HPO.out (HGL.out _ HA7.out.bx.blw) hof 23 ((zs2.length : Int) + 1) 0 rfl ⟨by omega, by omega⟩ u32z); clear hx7 hf7 hp7 HK22 HA6 hen)
            | (go_at_call 27; refine HK23.out.mono ?_; rintro e W8 ⟨rs2, rfl, hx8, hf8, hp8⟩; have hcd : rs2.code = 24 := aud_none (es := zs2.map (·.1)) HA7.out.ai (by simp; omega) (by rw [List.length_map]; exact hp8); have hcd2 : (rs2.code != 24) = false := (by simp [hcd]); have HA8 := hide (HA7.out.asked hx8 hf8); clear hx8 hf8 hp8 HK23 HA7 hcd))
          have HFN : Hid (∀ W, AQ w W w.heap.size Rb M1 M2 (q + 1 + 1) (.slice va zs2.length vc) zs2 (stepR t p) (noteRo ro p (accP p ans.resp)) (noteAc ac p (accP p ans.resp)) → Hid (AQ w W w.heap.size Rb M1 M2 (q + 1 + 1) (.slice va zs2.length vc) zs2 (stAt s (q + 1)) (noteRo ro p (accP p ans.resp)) (noteAc ac p (accP p ans.resp)) ∧ UI (stAt s (q + 1)).ps (noteRo ro p (accP p ans.resp)) (noteAc ac p (accP p ans.resp)) ∧ zs2.length ≤ q + 1)) := fun W hA => ⟨by rw [HSQ.out]; exact hA, by rw [HSQ.out]; exact HU3.out, hzl'⟩
          by_cases hpos : 0 < zs2.length
          · as_aux_lemma =>
            have hel := HA8.out.own.elem zeCs_size (by decide) (by omega) hpos
            obtain ⟨g, cap', hv, -, hgl, -⟩ := hel
            injection hv with hv1 hv2 hv3
            subst hv1
            subst hv3
            clear hv2
            have HEL : Hid (∀ W, AQ w W w.heap.size Rb M1 M2 (q + 1 + 1) (.slice (some ⟨g, 0, none⟩) zs2.length vc) zs2 (stepR t p) (noteRo ro p (accP p ans.resp)) (noteAc ac p (accP p ans.resp)) → rng W g ((zs2.length - 1) * 20) 20 = some (entA (zs2[zs2.length - 1]'(by omega)).1 (sv (zs2[zs2.length - 1]'(by omega)).2))) := fun W hA => by
              obtain ⟨g', cap2, hv, -, -, h⟩ := hA.own.elem zeCs_size (by decide) (by omega) hpos
              injection hv with hv1 hv2 hv3
              injection hv1 with hv1
              injection hv1 with hv1
              subst hv1
              exact h _ (by omega)
            have hix : ∀ W, (Instr.indexAt 42 (.slice (some ⟨g, 0, none⟩) zs2.length vc) (.int .u32 ((zs2.length : Int) - 1))).run Tryz.prog W = .ok (.pointer (some ⟨g, (zs2.length - 1) * 20, none⟩)) W := fun W => by
              have := run_indexAt_u32 (P := Tryz.prog) (cap := vc) (n := zs2.length) (b := g) (off := 0) Tryz.underlying42 Tryz.size67_z (fun _ => rfl) W ((zs2.length : Int) - 1) (by omega) (by omega)
              rwa [show ((zs2.length : Int) - 1).toNat = zs2.length - 1 by omega, Nat.zero_add] at this
            have hposI : (0 : Int) < (zs2.length : Int) := by omega
            have HKN := hide (fun W (hA : AQ w W w.heap.size Rb M1 M2 (q + 1 + 1) (.slice (some ⟨g, 0, none⟩) zs2.length vc) zs2 (stepR t p) (noteRo ro p (accP p ans.resp)) (noteAc ac p (accP p ans.resp))) => hA.bx.ask HPO.out (HGL.out _ hA.bx.blw) hof 23 (zs2.length : Int) 0 rfl ⟨by omega, by omega⟩ u32z)
            have hr8 := HEL.out _ HA8.out
            clear hen2 hcd2 hgl
            refine wp_region_mixT (W8.heap.size) [] (by kernel_rfl) ?_
            refine mixT_slots [0, 1, 2] (fuel := 12) rfl (by kernel_rfl) (by kernel_rfl) (fun d _ _ _ _ h => by cases d <;> exact h) ?_
            simp only [opersAt, List.getElem?_toArray, List.getElem?_cons_zero, List.getElem?_cons_succ]
            repeat (go_big_quiet_step (fail))
            refine wpQuiet_nil ?_
            refine mixT_slots [3, 4, 7, 8, 9, 10] (fuel := 6) rfl (by kernel_rfl) (by kernel_rfl) (fun d _ _ _ _ h => by cases d <;> exact h) ?_
            simp only [opersAt, List.getElem?_toArray, List.getElem?_cons_zero, List.getElem?_cons_succ]
            repeat (go_big_quiet_step (fail))
            refine wpQuiet_nil ?_
            refine mixT_two (k := 5) (k' := 11) (by kernel_rfl) rfl rfl ?_ ?_
            · go_wp2_with (go_at_call 27; refine (HKN.out _ (HA8.out.below (Below.refl _ _).drew)).mono ?_; rintro e W9 ⟨rs3, rfl, hx9, hf9, hp9⟩)
              have hA9 := (HA8.out.below (Below.refl _ _).drew).asked hx9 hf9
              have hr9 := HEL.out _ hA9
              have hae := aud_ent (es := zs2.map (·.1)) HA8.out.ai (by simp; omega) (by rw [List.length_map]; exact hp9)
              have HSE : Hid (∀ W, Below W9.heap.size W9 W → Calls Tryz.prog 36 #[.agg (entA rs3.en (sv rs3.el)), .agg (entA (zs2[zs2.length - 1]'(by omega)).1 (sv (zs2[zs2.length - 1]'(by omega)).2))] W fun e w' => e = .returned (.bool true) ∧ Below W.heap.size W w') := fun W hW => by
                have q1 : rs3.en = (zs2[zs2.length - 1]'(by omega)).1 := by rw [hae.1]; simp
                have q2 := hae.2
                rw [← hae.1, q1] at q2
                rw [q1]
                exact sameEntry_calls W _ _ _ _ _ (RArr.below q2 hW) (RArr.below (hA9.zip _ (List.getElem_mem _)) hW)
              have HA9 := hide hA9
              refine ⟨Or.inl (by kernel_rfl), ?_⟩
              generalize entA (zs2[zs2.length - 1]'(by omega)).1 (sv (zs2[zs2.length - 1]'(by omega)).2) = EW at *
              clear hx9 hf9 hp9 hae hA9
              refine mixT_slots [6] (fuel := 4) rfl (by kernel_rfl) (by kernel_rfl) (fun d _ _ _ _ h => by cases d <;> exact h) ?_
              simp only [opersAt, List.getElem?_toArray, List.getElem?_cons_zero, List.getElem?_cons_succ]
              repeat (go_big_quiet_step (fail))
              refine wpQuiet_nil ?_
              refine mixT_one (k := 11) (by kernel_rfl) rfl ?_
              go_wp2
              first
                | refine ⟨Or.inl (by kernel_rfl), ?_⟩
                | skip
              refine mixT_one (k := 12) (by kernel_rfl) rfl ?_
              go_wp2_with (go_at_call 36; refine (HSE.out _ (Below.refl _ _)).mono ?_; rintro e W10 ⟨rfl, hb10⟩)
              refine ⟨Or.inl (by kernel_rfl), ?_⟩
              refine mixT_slots [13, 14] (fuel := 0) rfl (by kernel_rfl) (by kernel_rfl) (fun d _ _ _ _ h => by cases d <;> exact h) ?_
              simp only [opersAt, List.getElem?_toArray, List.getElem?_cons_zero, List.getElem?_cons_succ]
              repeat (go_big_quiet_step (fail))
              refine wpQuiet_nil ?_
              refine mixT_nil (by kernel_rfl) ?_
              go_wp2
              go_roundg (n - (q + 1))
              case measure => omega
              case rel => exact ⟨q + 1, zs2, _, _, _, _, by omega, rfl, by go_num, rfl, HFN.out _ (HA9.out.below hb10)⟩
            · go_wp2
              first
                | refine ⟨Or.inl (by kernel_rfl), ?_⟩
                | skip
              refine mixT_one (k := 5) (by kernel_rfl) rfl ?_
              go_wp2_with (go_at_call 27; refine (HKN.out _ (HA8.out.below (Below.refl _ _).drew)).mono ?_; rintro e W9 ⟨rs3, rfl, hx9, hf9, hp9⟩)
              have hA9 := (HA8.out.below (Below.refl _ _).drew).asked hx9 hf9
              have hr9 := HEL.out _ hA9
              have hae := aud_ent (es := zs2.map (·.1)) HA8.out.ai (by simp; omega) (by rw [List.length_map]; exact hp9)
              have HSE : Hid (∀ W, Below W9.heap.size W9 W → Calls Tryz.prog 36 #[.agg (entA rs3.en (sv rs3.el)), .agg (entA (zs2[zs2.length - 1]'(by omega)).1 (sv (zs2[zs2.length - 1]'(by omega)).2))] W fun e w' => e = .returned (.bool true) ∧ Below W.heap.size W w') := fun W hW => by
                have q1 : rs3.en = (zs2[zs2.length - 1]'(by omega)).1 := by rw [hae.1]; simp
                have q2 := hae.2
                rw [← hae.1, q1] at q2
                rw [q1]
                exact sameEntry_calls W _ _ _ _ _ (RArr.below q2 hW) (RArr.below (hA9.zip _ (List.getElem_mem _)) hW)
              have HA9 := hide hA9
              refine ⟨Or.inl (by kernel_rfl), ?_⟩
              generalize entA (zs2[zs2.length - 1]'(by omega)).1 (sv (zs2[zs2.length - 1]'(by omega)).2) = EW at *
              clear hx9 hf9 hp9 hae hA9
              refine mixT_slots [6] (fuel := 3) rfl (by kernel_rfl) (by kernel_rfl) (fun d _ _ _ _ h => by cases d <;> exact h) ?_
              simp only [opersAt, List.getElem?_toArray, List.getElem?_cons_zero, List.getElem?_cons_succ]
              repeat (go_big_quiet_step (fail))
              refine wpQuiet_nil ?_
              refine mixT_one (k := 12) (by kernel_rfl) rfl ?_
              go_wp2_with (go_at_call 36; refine (HSE.out _ (Below.refl _ _)).mono ?_; rintro e W10 ⟨rfl, hb10⟩)
              refine ⟨Or.inl (by kernel_rfl), ?_⟩
              refine mixT_slots [13, 14] (fuel := 0) rfl (by kernel_rfl) (by kernel_rfl) (fun d _ _ _ _ h => by cases d <;> exact h) ?_
              simp only [opersAt, List.getElem?_toArray, List.getElem?_cons_zero, List.getElem?_cons_succ]
              repeat (go_big_quiet_step (fail))
              refine wpQuiet_nil ?_
              refine mixT_nil (by kernel_rfl) ?_
              go_wp2
              go_roundg (n - (q + 1))
              case measure => omega
              case rel => exact ⟨q + 1, zs2, _, _, _, _, by omega, rfl, by go_num, rfl, HFN.out _ (HA9.out.below hb10)⟩
          · as_aux_lemma =>
            have hgt : decide ((0 : Int) < (zs2.length : Int)) = false := decide_eq_false (by omega)
            go_quiet (fail)
            go_wp2
            go_roundg (n - (q + 1))
            case measure => omega
            case rel => exact ⟨q + 1, zs2, _, _, _, _, by omega, rfl, by go_num, rfl, HFN.out _ (HA8.out.below (below_drewN (Below.refl _ _) _))⟩
      · obtain rfl : q = n := by omega
        obtain ⟨haq, hui, hzl⟩ := HQ.out
        have hpo := (HIV.out q (by rw [← Hn.out]; omega)).po (by omega)
        have hsl : (stAt s q).ps.length ≤ 4000000 := by have := hpo.plen; omega
        obtain ⟨Y, pv, A, ok, zs0, x, h1, h2, h3, h4⟩ := haq.bx
        have hsy := h1.bs.toSys (by rw [h2]; exact hpo)
        have htr := trail_calls wr Y _ _ _ _ _ hsy.sys hsy.st hsy.pk (by rw [h2]; exact hsl)
        rw [h2, haq.ai.trail] at htr
        have HTR := hide htr
        have y2 : wr.cell? ⟨w.heap.size + 2, 2, none⟩ = some (.pointer (some ⟨Y, 0, none⟩)) := cells_all h1.bn 2
        have HO := hide haq.own
        have HZ := hide haq.zip
        have HBW := hide haq.bx.blw
        have hzq : zs.length ≤ 65536 := by omega
        clear haq hui hpo h1 h2 h3 h4 hsy htr HQ
        go_wp2_with (first
          | (go_at_call 37; refine HTR.out.mono ?_; rintro e W2 ⟨v2, ys, rfl, hown2, hzip2, hmap2, hb2⟩; have hyl : ys.length = zs.length := (by have := congrArg List.length hmap2; simpa using this); have HSM := hide (sameTrail_calls W2 _ _ _ _ v2 (.slice sa zs.length sc) ys zs (hown2.rows zeCs_size (by decide) (by omega)) ((HO.out.below hb2 (Nat.le_refl _)).rows zeCs_size (by decide) (by omega)) hzip2 (HZ.out.low HBW.out (HBW.out.trans (hb2.mono HBW.out.size))) hmap2); have HB2 := hide (HBW.out.trans (hb2.mono HBW.out.size)); obtain ⟨a2, c2, hv2⟩ := hown2.form; subst hv2; clear hown2 hzip2 hmap2 hb2 hyl)
          | (go_at_call 38; refine HSM.out.mono ?_; rintro e W3 ⟨rfl, hb3⟩))
        go_ret
        exact ⟨by first | rfl | simp, HB2.out.trans (hb3.mono HB2.out.size)⟩
  · have hd : decide (total s ≤ 65536) = false := by simpa using hsm
    rw [hd] at HSm
    clear hd hsm ha hc hn hgl HNB
    go_enter Tryz.func6, Tryz.ntmps6
    go_wp2_with (go_at_call 18; refine HSm.out.mono ?_; rintro e w1 ⟨rfl, rfl⟩)
    go_ret
    exact ⟨rfl, Below.refl _ _⟩

end Go.Proofs.Qxb6500666aGreatDoor
