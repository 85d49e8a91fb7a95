/- EligibilityIsThePredicate, walked. (Made by tools/mk_eligw.py.) -/
import Derived.Test.Qxb6500666aGreatDoorEligQ
import Derived.Test.Qxb6500666aGreatDoorHoldW
import Derived.BigQuiet
namespace Go.Proofs.Qxb6500666aGreatDoor
open Go.RowKit
theorem heldCs_all (y : HeldR) : (heldCs y).extract 0 3 = heldCs y := rfl
attribute [local go_sem] ext_const Ext.cell Ext.frozen Ext.rng Ext.whole
attribute [local go_sem ↓] exec_ldOpz exec_stOpz exec_ldPrS exec_ldKtS exec_ldSmS exec_bdMd exec_stMd exec_ldRsp exec_stRsp exec_ldRes exec_stRes exec_ldSmp exec_stSmp exec_ldHeld exec_stHeld exec_bdHeld exec_eqlHeld
attribute [local go_sem] run_ldOpz run_stOpz opA_size run_ldPrS run_ldKtS run_ldSmS run_bdMd run_stMd run_ldRsp run_stRsp respCs_ones run_ldRes run_stRes resCs_size resCs_ones run_ldSmp run_stSmp smpCs_size smpCs_ones run_ldHeld run_stHeld run_bdHeld run_eqlHeld heldCs_size heldCs_all whole_alloc_lt whole_alloc_at whole_drew setRow_alloc_at setRow_alloc_lt setRow_drew rng_alloc_lt rng_alloc_at rng_drew rng_drewN

set_option maxRecDepth 100000 in
set_option maxHeartbeats 8000000 in
theorem eli_walk (w : World) (v : Value) (s : List Op) (rn kn ft : Nat → ByteArray) (okg : Nat → Prop) (nm : Nat → ByteArray) (h : Script w (· < w.heap.size) v s) (hgl : Gl w w.heap.size rn kn ft okg) (hnm : rng w 0 0 20 = some (hnA nm)) (hz0 : 0 < w.heap.size) :
    Calls Tryz.prog 4 #[v] w fun e w' => e = .returned (.bool true) ∧ Below w.heap.size w w' := by
  have HNM := hide hnm
  clear hnm
  have HSm := hide (small_calls w _ v s h)
  have HGL := hide (fun W (hb : Below w.heap.size w W) => hgl.same hb (Nat.le_refl _))
  have HNB := hide (newBench_calls w)
  obtain ⟨a, cap, b, off, rfl, hl, hm, hr, ha, hc⟩ := h
  obtain ⟨n, hn⟩ : ∃ n, n = s.length := ⟨_, rfl⟩
  have Hn : Hid (n = s.length) := hn
  rw [← hn] at hl hr ha HSm ⊢
  have hi := run_indexAt_arr (P := Tryz.prog) (cap := cap) Tryz.underlying22 Tryz.size61 (fun h => (ha h).1)
  have HB : Hid (0 < n → b < w.heap.size) := fun h => (ha h).2
  by_cases hsm : total s ≤ 65536
  · have HC : Hid (∀ k (h : k < s.length), ∃ lv dv ca cn cc, rng w b (off + k * 27) 27 = some (opA s[k] lv dv ca cn cc) ∧ OpIn w (· < w.heap.size) s[k] lv dv ca cn cc ∧ ones (opA s[k] lv dv ca cn cc) 27 = true) := fun k h => by
      obtain ⟨cs, hlen, hE, hcell⟩ := hc k h
      have ht := total_le h hsm
      obtain ⟨lv, dv, ca, cn, cc, e, hO, h1⟩ := opIn_of hE ht.2.1 ht.2.2
      refine ⟨lv, dv, ca, cn, cc, ?_, hO, h1⟩
      rw [← e]
      have hl27 : cs.length = 27 := by have := congrArg Array.size e; simpa [opA] using this
      have := rng_of_cells (w := w) (b := b) (off := off + k * 27) (by omega) hcell
      rw [hl27] at this
      exact this
    have HIV : Hid (∀ q, q ≤ s.length → Inv q (stAt s q)) := inv_all (fun k hk => by
      obtain ⟨_, _, _, _, _, _, h1, _⟩ := HC.out k hk
      exact h1.req)
    have HSU : Hid (∀ q, q ≤ s.length → SU (stAt s q).low.sm) := su_all s
    have hn2 : n ≤ 65536 := by have := hsm; unfold total at this; omega
    have hd : decide (total s ≤ 65536) = true := by simpa using hsm
    rw [hd] at HSm
    clear hd hsm ha hc hn hgl
    go_enter Tryz.func4, Tryz.ntmps4
    go_upto_region 3 with (go_at_call 18; refine HSm.out.mono ?_; rintro e w1 ⟨rfl, rfl⟩)
    go_upto_region 4 with (go_at_call 19; refine HNB.out.mono ?_; rintro e W0 ⟨rfl, hbn, hb0⟩)
    have HQ0 : Hid (BX w W0 (fun _ => False) (stAt s 0)) := BX.start hbn hb0
    clear hbn hb0 HSm HNB
    go_upto_region 5 with fail
    go_loopg [26] n (fun g j wr => ∃ q : Nat, q ≤ n ∧ g = n - q ∧ j = .int .i64 q ∧ Hid (BX w wr (fun _ => False) (stAt s q)))
    case atStart => exact ⟨0, by omega, by omega, rfl, HQ0⟩
    clear HQ0
    case round =>
      obtain ⟨q, hq, rfl, rfl, HQ⟩ := hrel
      by_cases hlt : q < n
      · have hqs : q < s.length := by rw [← Hn.out]; exact hlt
        have hbb := HB.out (by omega)
        obtain ⟨lv, dv, ca, cn, cc, hcl, hO, hones⟩ := HC.out q hqs
        have HIQ := hide (HIV.out q (by omega))
        have HIS := hide (HIV.out (q + 1) (by omega))
        have HUS := hide (HSU.out (q + 1) (by omega))
        have HSQ := hide (stAt_succ hqs)
        rw [HSQ.out] at HIS HUS
        generalize s[q] = p at *
        have hcells : rng wr b (off + q * 27) 27 = some (opA p lv dv ca cn cc) := by rw [rng_of_block (HQ.out.blw.block _ hbb)]; exact hcl
        have hbw : b < wr.heap.size := by have := HQ.out.blw.size; omega
        have HOI := hide hO
        clear hO hcl
        go_upto_region 7 with fail
        have HQ1 : Hid (BX w (wr.alloc (.cells (opA p lv dv ca cn cc) 61)) (fun g => g = wr.heap.size) (stAt s q)) := HQ.out.more ((Below.refl _ _).alloc (Nat.le_refl _) _) (fun g q => Or.inr (by subst q; exact ⟨Nat.le_refl _, by simp⟩))
        have hk1 : (wr.alloc (.cells (opA p lv dv ca cn cc) 61)).heap[wr.heap.size]? = some (.cells (opA p lv dv ca cn cc) 61 (0, 0)) := heap_alloc_at _ _
        generalize wr.alloc (.cells (opA p lv dv ca cn cc) 61) = W1 at *
        generalize wr.heap.size = D at *
        clear hcells hbw HQ
        have HK1 := hide hk1
        have hr1 : rng W1 D 0 27 = some (opA p lv dv ca cn cc) := rng_whole hk1
        generalize stAt s q = t at *
        have HST := hide (HQ1.out.step (HIQ.out.po (by omega)) (HOI.out.below HQ1.out.blw) (HGL.out _ HQ1.out.blw) ⟨HIQ.out.off.1, by have := HIQ.out.off.2; omega⟩)
        clear hk1
        go_upto_region 8 with (go_at_call 21; refine HST.out.mono ?_; rintro e W2 ⟨ans, rfl, hq2, hf2, ha2⟩; have HQ2 := hide hq2; have HF2 := hide hf2; clear hq2 hf2 ha2)
        clear hr1 HST HQ1
        have k2 : W2.heap[D]? = some (.cells (opA p lv dv ca cn cc) 61 (0, 0)) := (HF2.out D rfl).trans HK1.out
        have c0 := cells_all k2 0
        have c1 := cells_all k2 1
        simp only [opA, List.getElem?_toArray, List.getElem?_cons_zero, List.getElem?_cons_succ] at c0 c1
        have hzD := blk_lt k2
        have HPO := hide (HIS.out.po (by omega))
        have HX2 : Hid (BX w W2 (fun _ => False) (stepR t p)) := HQ2.out.more (Below.refl _ _) (fun g q => q.elim)
        clear HF2 HK1 HQ2 k2
        cases hk : (p.kind == 1) with
        | false =>
          as_aux_lemma =>
          have hk' : (p.kind != 1) = true := by simp only [bne, hk]; rfl
          have HE : Hid (BX w W2 (fun _ => False) (stAt s (q + 1))) := by show BX _ _ _ _; rw [HSQ.out]; exact HX2.out
          go_wp2
          go_roundg (n - (q + 1))
          case measure => omega
          case rel => exact ⟨q + 1, by omega, rfl, by go_num, HE⟩
        | true =>
          have hk' : (p.kind != 1) = false := by simp only [bne, hk]; rfl
          cases hcm : isCmd p.req.kind with
          | false =>
            as_aux_lemma =>
            have HE : Hid (BX w W2 (fun _ => False) (stAt s (q + 1))) := by show BX _ _ _ _; rw [HSQ.out]; exact HX2.out
            go_wp2_with (go_at_call 26; refine (isCmd_calls _ _).mono ?_; rintro e w1 ⟨rfl, rfl⟩; rw [hcm])
            go_roundg (n - (q + 1))
            case measure => omega
            case rel => exact ⟨q + 1, by omega, rfl, by go_num, HE⟩
          | true =>
            as_aux_lemma =>
            go_upto_region 9 with (go_at_call 26; refine (isCmd_calls _ _).mono ?_; rintro e w1 ⟨rfl, hw1⟩; rw [hcm, hw1])
            have hpl : (stepR t p).ps.length ≤ 4000000 := by have := HPO.out.plen; omega
            obtain ⟨Y, pv, A, x, ok, b1, b2, b3, hpr, hlo⟩ := HX2.out.all hpl
            have HLO := hide hlo
            have hon := md_ones hlo
            have e1 := cells_all b1 1
            simp only [List.getElem?_toArray, List.getElem?_cons_zero, List.getElem?_cons_succ] at e1
            have z1 := blk_lt b1
            have z3 := blk_lt b3
            have HB1 := hide b1
            have HB3 := hide b3
            obtain ⟨g0, g4, g5, -⟩ := LBlk.of b3
            have HTM := hide HPO.out.times
            have HSL := hide HPO.out.small
            have HLI : Hid (∀ y ∈ (stepR t p).low.sm.rs, U32 y.sample ∧ U32 y.analyte) := fun y hy => ⟨(HIS.out.low.sm.rk y hy).1.sample, (HIS.out.low.sm.rk y hy).1.analyte⟩
            have HBX := hide (fun V (hb : Below W2.heap.size W2 V) => (HX2.out.below hb).askB HPO.out (HGL.out _ (HX2.out.below hb).blw))
            have HFN : Hid (∀ V, Below W2.heap.size W2 V → Hid (BX w V (fun _ => False) (stAt s (q + 1)))) := fun V hb => by show BX _ _ _ _; rw [HSQ.out]; exact HX2.out.below hb
            have HNZ : Hid (rng W2 0 0 20 = some (hnA nm)) := (rng_of_block (HX2.out.blw.block _ hz0) _ _).trans HNM.out
            have hz2 : w.heap.size ≤ W2.heap.size := HX2.out.blw.size
            generalize (stepR t p).low = L at *
            clear b1 b2 b3 hpr hlo c0 c1 hpl HPO HIS HIQ HX2 HOI HC HNM hzD hones HSQ
            obtain ⟨p0, p1, p2, p3, kv, s1, s2, s3⟩ := x
            simp only [Nat.zero_add] at g0 g4 g5
            go_cut [6] (fun v V => ∃ M, v = .pointer (some ⟨M, 0, none⟩) ∧ V.heap[M]? = some (.cells (mdCs ⟨p0, p1, p2, p3, kv, s1, s2, s3⟩) 45 (0, 0)) ∧ Hid (Below W2.heap.size W2 V))
            case first =>
              as_aux_lemma =>
              refine wp_region_mixT (W2.heap.size) [3, 6, 10, 13, 17, 20] (by kernel_rfl) ?_
              refine mixT_slots [0, 1, 2, 7, 8, 9, 14, 15, 16] (fuel := 15) rfl (by kernel_rfl) (by kernel_rfl) (fun d _ _ _ _ h => by cases d <;> exact h) ?_
              simp only [opersAt, List.getElem?_toArray, List.getElem?_cons_zero, List.getElem?_cons_succ]
              repeat (go_big_quiet_step (fail))
              refine wpQuiet_nil ?_
              refine mixT_reads [3, 10, 17] (fuel := 12) rfl (by kernel_rfl) (by decide) (by kernel_rfl) (fun d _ _ _ _ h => by cases d <;> exact h) (ext_drew _ _) ?_
              simp only [opersAt, List.getElem?_toArray, List.getElem?_cons_zero, List.getElem?_cons_succ]
              repeat (go_big_quiet_step (fail))
              refine wpQuiet_nil ?_
              refine mixT_slots [4, 5, 11, 12, 18, 19] (fuel := 6) rfl (by kernel_rfl) (by kernel_rfl) (fun d _ _ _ _ h => by cases d <;> exact h) ?_
              simp only [opersAt, List.getElem?_toArray, List.getElem?_cons_zero, List.getElem?_cons_succ]
              repeat (go_big_quiet_step (fail))
              refine wpQuiet_nil ?_
              refine mixT_reads [6, 13, 20] (fuel := 3) rfl (by kernel_rfl) (by decide) (by kernel_rfl) (fun d _ _ _ _ h => by cases d <;> exact h) (ext_drew _ _) ?_
              simp only [opersAt, List.getElem?_toArray, List.getElem?_cons_zero, List.getElem?_cons_succ]
              repeat (go_big_quiet_step (fail))
              refine wpQuiet_nil ?_
              refine mixT_slots [21] (fuel := 2) rfl (by kernel_rfl) (by kernel_rfl) (fun d _ _ _ _ h => by cases d <;> exact h) ?_
              simp only [opersAt, List.getElem?_toArray, List.getElem?_cons_zero, List.getElem?_cons_succ]
              repeat (go_big_quiet_step (fail))
              refine wpQuiet_nil ?_
              refine mixT_one (k := 22) (by kernel_rfl) rfl ?_
              go_wp2
              refine ⟨Or.inr (by intros; exact ⟨⟨_, (Below.refl _ _).drew.alloc (Nat.le_refl _) _⟩, rfl⟩), ?_⟩
              refine mixT_one (k := 23) (by kernel_rfl) rfl ?_
              go_wp2
              first
                | refine ⟨Or.inl (by kernel_rfl), ?_⟩
                | skip
              refine mixT_nil (by kernel_rfl) ?_
              go_wp2
              go_meet
              case rel => exact ⟨_, rfl, heap_alloc_at _ _, (Below.refl _ _).drew.alloc (Nat.le_refl _) _⟩
            case rest =>
              as_aux_lemma =>
              obtain ⟨M, rfl, hmd, HB4⟩ := hcut
              generalize wc = W3 at *
              have HMD := hide hmd
              have HAK := hide (HBX.out _ HB4.out 29 0 0 rfl u32z u32z)
              clear g0 g4 g5 hmd e1
              go_upto_region 11 with (go_at_call 27; refine HAK.out.mono ?_; rintro e W4 ⟨rsp, rfl, hb4, hp4⟩; have HB5 := hide hb4; have HP4 := hide hp4; clear hb4 hp4)
              clear HAK
              obtain ⟨ha, hm, hc, hrsp, hown⟩ := ask_held HUS.out HP4.out
              obtain ⟨va, vc, hv⟩ := hown.form
              injection hv with hv1 hv2 hv3
              have HB6 : Hid (Below W2.heap.size W2 (W4.alloc (.cells (respCs rsp) 75))) := HB4.out.trans ((HB5.out.trans ((Below.refl _ _).alloc HB5.out.size _)).mono HB4.out.size)
              have HB7 : Hid (Below W3.heap.size W3 (W4.alloc (.cells (respCs rsp) 75))) := HB5.out.trans ((Below.refl _ _).alloc HB5.out.size _)
              have HEC : Hid (EC w (W4.alloc (.cells (respCs rsp) 75)) M W4.heap.size ⟨p0, p1, p2, p3, kv, s1, s2, s3⟩ ok L rsp (heldL L) nm) := ⟨⟨Y, (HB6.out.block _ z1).trans HB1.out⟩, (HB6.out.block _ z3).trans HB3.out, HLO.out.below HB6.out, (HB7.out.block _ (blk_lt HMD.out)).trans HMD.out, heap_alloc_at _ _, by
                rw [hrsp]
                refine (RArr.lt (hown.rows heldCs_size (by decide) ?_)).mono (fun b q => Below.heap_alloc _ _ _ q.2) (fun b q => by have := q.2; simp; omega)
                have := heldL_len L; have := HSL.out.sm.b; omega, (rng_of_block (HB6.out.block _ (by omega)) _ _).trans HNZ.out, by simp⟩
              have HFN2 : Hid (∀ V, Below (W4.alloc (.cells (respCs rsp) 75)).heap.size (W4.alloc (.cells (respCs rsp) 75)) V → Hid (BX w V (fun _ => False) (stAt s (q + 1)))) := fun V hb => HFN.out V (HB6.out.trans (hb.mono HB6.out.size))
              have HBX2 := hide (fun V (hb : Below (W4.alloc (.cells (respCs rsp) 75)).heap.size (W4.alloc (.cells (respCs rsp) 75)) V) => HBX.out V (HB6.out.trans (hb.mono HB6.out.size)))
              have HHL : Hid (rsp.code = 0 ∧ sv rsp.held = .slice ha (heldL L).length hc) := by rw [hrsp]; exact ⟨rfl, by rw [← hv2]; rfl⟩
              clear hrsp hown hv1 hv2 hv3 HB4 HB5 HB6 HB7 HP4 HBX HFN HB1 HB3 HMD HLO HNZ
              generalize W4.alloc (.cells (respCs rsp) 75) = W5 at *
              generalize W4.heap.size = R1 at *
              obtain ⟨Y', b1⟩ := HEC.out.bn
              have f0 := cells_all HEC.out.rs 0
              have f1 := cells_all b1 1
              have f2 := cells_all HEC.out.lb 6
              simp only [respCs, lvCs, List.getElem?_toArray, List.getElem?_cons_zero, List.getElem?_cons_succ] at f0 f1 f2
              rw [HHL.out.1] at f0
              have z5 := blk_lt HEC.out.rs
              have z6 := blk_lt b1
              have z7 := blk_lt HEC.out.lb
              obtain ⟨ra, rcap, rb, roff, hre, hrl, hrm, hrr, hra, hrc⟩ := RArr.lt HEC.out.lo.sm.b
              dsimp only at hre
              subst hre
              obtain ⟨nr, hnr⟩ : ∃ nr, nr = L.sm.rs.length := ⟨_, rfl⟩
              have HNR := hide hnr
              rw [← hnr] at f2 hrl hrr hra
              have hi2 := run_indexAt_arr (P := Tryz.prog) (n := nr) (cap := rcap) Tryz.underlying37 Tryz.size92 (fun h => (hra h).1)
              have HRB : Hid (0 < nr → rb < W5.heap.size) := fun h => (hra h).2.2
              have HRC := hide hrc
              clear hra hrc hnr b1 hrm hrl
              go_upto_region 15 with fail
              have hnr2 : nr ≤ 1000000 := by rw [HNR.out]; exact HSL.out.sm.b
              go_loopg [8, 79] nr (fun g vh j wr => ∃ k : Nat, k ≤ nr ∧ g = nr - k ∧ j = .int .i64 k ∧ vh = .int .i64 (heldN L k) ∧ Hid (Below W5.heap.size W5 wr))
              case atStart => exact ⟨0, by omega, by omega, rfl, rfl, Below.refl _ _⟩
              case round =>
                obtain ⟨k, hk2, rfl, rfl, rfl, HBR⟩ := hrel
                have hsr := HBR.out.size
                by_cases hlt2 : k < nr
                · as_aux_lemma =>
                  have hks : k < L.sm.rs.length := by rw [← HNR.out]; exact hlt2
                  have hrb := HRB.out (by omega)
                  have hrg := HRC.out k hks
                  rw [← rng_of_block (HBR.out.block rb hrb)] at hrg
                  have hbr : rb < wr.heap.size := by omega
                  obtain ⟨sm, hsm⟩ := HUS.out.smp (List.getElem_mem hks)
                  have HHN := hide (heldN_succ hks hsm)
                  have HSM := hide hsm
                  have HSI := hide (smpGet_mem hsm)
                  have HRI : Hid (L.sm.rs[k] ∈ L.sm.rs) := List.getElem_mem hks
                  have HRU : Hid (U32 L.sm.rs[k].sample ∧ U32 L.sm.rs[k].analyte) := ⟨(HLI.out _ HRI.out).1, (HLI.out _ HRI.out).2⟩
                  have hN0 : heldN L k ≤ k := heldN_le L k
                  generalize L.sm.rs[k] = r at *
                  clear hsm f0 f2
                  go_upto_region 17 with fail
                  have HV1 : Hid (Below W5.heap.size W5 (wr.alloc (.cells (resCs r) 92))) := HBR.out.alloc hsr _
                  have hkr : (wr.alloc (.cells (resCs r) 92)).heap[wr.heap.size]? = some (.cells (resCs r) 92 (0, 0)) := heap_alloc_at _ _
                  generalize wr.alloc (.cells (resCs r) 92) = V1 at *
                  generalize wr.heap.size = DR at *
                  clear hrg hbr HBR hsr
                  have HE1 := hide (HEC.out.below HV1.out)
                  obtain ⟨Y1, b1⟩ := HE1.out.bn
                  have e1 := cells_all b1 1
                  have e2 := cells_all hkr 0
                  simp only [resCs, List.getElem?_toArray, List.getElem?_cons_zero, List.getElem?_cons_succ] at e1 e2
                  obtain ⟨-, -, g5, -⟩ := LBlk.of HE1.out.lb
                  simp only [Nat.zero_add] at g5
                  have z1 := blk_lt b1
                  have z2 := blk_lt HE1.out.lb
                  have z3 := blk_lt hkr
                  have HKR := hide hkr
                  clear b1 hkr
                  go_cut [11] (fun v V => ∃ N, v = .pointer (some ⟨N, 0, none⟩) ∧ V.heap[N]? = some (.cells (smpCs sm) 94 (0, 0)) ∧ Hid (Below V1.heap.size V1 V))
                  case first =>
                    as_aux_lemma =>
                    have HSC : Hid (∀ V, Below V1.heap.size V1 V → Calls Tryz.prog 28 #[.agg #[s1, .slice ra L.sm.rs.length rcap, s3], .int .u32 r.sample] V fun e w' => e = .returned (.tuple #[.agg (smpCs sm), .bool true]) ∧ Below V.heap.size V w') := fun V hb => by
                      have := smpGet_calls V ok _ _ _ L.sm r.sample (HE1.out.lo.sm.below hb)
                      rw [HSM.out] at this
                      exact this
                    refine wp_region_mixT (V1.heap.size) [3, 6, 8] (by kernel_rfl) ?_
                    refine mixT_slots [0, 1, 2, 7] (fuel := 12) rfl (by kernel_rfl) (by kernel_rfl) (fun d _ _ _ _ h => by cases d <;> exact h) ?_
                    simp only [opersAt, List.getElem?_toArray, List.getElem?_cons_zero, List.getElem?_cons_succ]
                    repeat (go_big_quiet_step (fail))
                    refine wpQuiet_nil ?_
                    refine mixT_reads [3, 8] (fuel := 10) rfl (by kernel_rfl) (by decide) (by kernel_rfl) (fun d _ _ _ _ h => by cases d <;> exact h) (ext_drew _ _) ?_
                    simp only [opersAt, List.getElem?_toArray, List.getElem?_cons_zero, List.getElem?_cons_succ]
                    repeat (go_big_quiet_step (fail))
                    refine wpQuiet_nil ?_
                    refine mixT_slots [4, 5] (fuel := 8) rfl (by kernel_rfl) (by kernel_rfl) (fun d _ _ _ _ h => by cases d <;> exact h) ?_
                    simp only [opersAt, List.getElem?_toArray, List.getElem?_cons_zero, List.getElem?_cons_succ]
                    repeat (go_big_quiet_step (fail))
                    refine wpQuiet_nil ?_
                    refine mixT_reads [6] (fuel := 7) rfl (by kernel_rfl) (by decide) (by kernel_rfl) (fun d _ _ _ _ h => by cases d <;> exact h) (ext_drew _ _) ?_
                    simp only [opersAt, List.getElem?_toArray, List.getElem?_cons_zero, List.getElem?_cons_succ]
                    repeat (go_big_quiet_step (fail))
                    refine wpQuiet_nil ?_
                    refine mixT_two (k := 9) (k' := 13) (by kernel_rfl) rfl rfl ?_ ?_
                    · go_wp2_with (go_at_call 28; refine (HSC.out _ (Below.refl _ _).drew).mono ?_; rintro e w2 ⟨rfl, hb1⟩)
                      have hbw : Below V1.heap.size V1 w2 := (Below.refl _ _).drew.trans hb1
                      refine ⟨Or.inr (by intros; exact ⟨⟨_, hbw⟩, rfl⟩), ?_⟩
                      have hzz := hbw.size
                      refine mixT_slots [10, 11, 12] (fuel := 3) rfl (by kernel_rfl) (by kernel_rfl) (fun d _ _ _ _ h => by cases d <;> exact h) ?_
                      simp only [opersAt, List.getElem?_toArray, List.getElem?_cons_zero, List.getElem?_cons_succ]
                      repeat (go_big_quiet_step (fail))
                      refine wpQuiet_nil ?_
                      refine mixT_one (k := 13) (by kernel_rfl) rfl ?_
                      go_wp2
                      refine ⟨Or.inr (by intros; exact ⟨⟨_, hbw.alloc hzz _⟩, rfl⟩), ?_⟩
                      refine mixT_one (k := 14) (by kernel_rfl) rfl ?_
                      go_wp2
                      first
                        | refine ⟨Or.inl (by kernel_rfl), ?_⟩
                        | skip
                      refine mixT_one (k := 15) (by kernel_rfl) rfl ?_
                      go_wp2
                      first
                        | refine ⟨Or.inr (fun h => h), ?_⟩
                        | skip
                      refine mixT_nil (by kernel_rfl) ?_
                      go_wp2
                      go_meet
                      case rel => exact ⟨_, rfl, heap_alloc_at _ _, hbw.alloc hzz _⟩
                    · go_wp2
                      have hb0 : Below V1.heap.size V1 (V1.drew.alloc (.cells (smpCs smp0) 94)) := (Below.refl _ _).drew.alloc (Nat.le_refl _) _
                      refine ⟨Or.inr (by intros; exact ⟨⟨_, hb0⟩, rfl⟩), ?_⟩
                      refine mixT_one (k := 9) (by kernel_rfl) rfl ?_
                      go_wp2_with (go_at_call 28; refine (HSC.out _ hb0).mono ?_; rintro e w2 ⟨rfl, hb1⟩)
                      have hbw : Below V1.heap.size V1 w2 := hb0.trans (hb1.mono hb0.size)
                      refine ⟨Or.inr (by intros; exact ⟨⟨_, hbw⟩, rfl⟩), ?_⟩
                      have hgb : w2.heap[V1.heap.size]? = some (.cells (smpCs smp0) 94 (0, 0)) := (hb1.block _ (by simp)).trans (heap_alloc_at _ _)
                      have hwg : whole w2 V1.heap.size 8 = true := whole_blk hgb
                      have hgl := blk_lt hgb
                      refine mixT_slots [10, 11, 12] (fuel := 2) rfl (by kernel_rfl) (by kernel_rfl) (fun d _ _ _ _ h => by cases d <;> exact h) ?_
                      simp only [opersAt, List.getElem?_toArray, List.getElem?_cons_zero, List.getElem?_cons_succ]
                      repeat (go_big_quiet_step (fail))
                      refine wpQuiet_nil ?_
                      refine mixT_one (k := 14) (by kernel_rfl) rfl ?_
                      go_wp2
                      first
                        | refine ⟨Or.inl (by kernel_rfl), ?_⟩
                        | skip
                      refine mixT_one (k := 15) (by kernel_rfl) rfl ?_
                      go_wp2
                      first
                        | refine ⟨Or.inr (fun h => h), ?_⟩
                        | skip
                      refine mixT_nil (by kernel_rfl) ?_
                      go_wp2
                      go_meet
                      case rel => exact ⟨_, rfl, heap_setRow_at hgb, hbw.trans (below_setRow' _ _ (Nat.le_refl _))⟩
                  case rest =>
                    as_aux_lemma =>
                    obtain ⟨N, rfl, hks2, HV2⟩ := hcut
                    generalize wc = V2 at *
                    have hkr2 := (HV2.out.block _ z3).trans HKR.out
                    have HV3 : Hid (Below W5.heap.size W5 V2) := HV1.out.trans (HV2.out.mono HV1.out.size)
                    have HE2 := hide (HEC.out.below HV3.out)
                    have y1 : rng V2 N 0 8 = some (smpCs sm) := rng_whole hks2
                    have y2 : rng V2 DR 0 6 = some (resCs r) := rng_whole hkr2
                    have HHC : Hid (∀ V, Below V2.heap.size V2 V → Calls Tryz.prog 29 #[.pointer (some ⟨M, 0, none⟩), .agg (smpCs sm), .agg (resCs r)] V fun e w' => e = .returned (.int .u16 (holdsOf L sm r)) ∧ Below V.heap.size V w') := fun V hb => mHolds_calls V M 0 ok _ L sm r (md_blk ((hb.block _ (blk_lt HE2.out.md)).trans HE2.out.md)) (HE2.out.lo.below hb) (HTM.out.s _ HSI.out).1 (HTM.out.s _ HSI.out).2 (HTM.out.r _ HRI.out) HTM.out.v
                    have HKR2 := hide hkr2
                    have zr := blk_lt hkr2
                    have HHV := hide (holds_eq L sm r).2
                    have HCI := hide (cnt_itc HHV.out.1 HHV.out.2)
                    have HONE := hide (fun hz => heldL_one HUS.out HRI.out HSM.out hz)
                    have HAE := hide (fun V V' rsp (hx : RspP rn kn V V' (stepR t p).ps (stepR t p).full (stepR t p).off (stepR t p).lar L (askReq 24 r.sample r.analyte) rsp) => ask_elig HUS.out HRI.out HSM.out hx)
                    clear e1 e2 g5 z1 z2 z3 HKR hkr2 hks2 HV1 HE1 HSM HSI HRI HV2
                    generalize holdsOf L sm r = want at *
                    go_upto_region 19 with (go_at_call 29; refine (HHC.out _ (Below.refl _ _)).mono ?_; rintro e V3 ⟨rfl, hb3⟩; have HB3 := hide hb3; clear hb3)
                    clear y1 y2 HHC
                    have HV4 : Hid (Below W5.heap.size W5 V3) := HV3.out.trans (HB3.out.mono HV3.out.size)
                    have hkr3 := (HB3.out.block _ zr).trans HKR2.out
                    have e1 := cells_all hkr3 0
                    have e2 := cells_all hkr3 1
                    simp only [resCs, List.getElem?_toArray, List.getElem?_cons_zero, List.getElem?_cons_succ] at e1 e2
                    have zr3 := blk_lt hkr3
                    have HKR3 := hide hkr3
                    have HAK := hide (HBX2.out _ HV4.out 24 r.sample r.analyte rfl HRU.out.1 HRU.out.2)
                    clear HKR2 HE2 HV3 HB3 zr hkr3
                    go_upto_region 20 with (go_at_call 27; refine HAK.out.mono ?_; rintro e V4 ⟨rs2, rfl, hb4, hp4⟩; have hrs2 := HAE.out _ _ _ hp4; subst hrs2; have HB4 := hide hb4; clear hb4 hp4)
                    clear e1 e2 HAK HAE
                    have HV5 : Hid (Below W5.heap.size W5 (V4.alloc (.cells (respCs { rsp0 with holds := want }) 75))) := (HV4.out.trans (HB4.out.mono HV4.out.size)).alloc (Nat.le_trans HV4.out.size HB4.out.size) _
                    have hk5 : (V4.alloc (.cells (respCs { rsp0 with holds := want }) 75)).heap[V4.heap.size]? = some (.cells (respCs { rsp0 with holds := want }) 75 (0, 0)) := heap_alloc_at _ _
                    have HKR5 : Hid ((V4.alloc (.cells (respCs { rsp0 with holds := want }) 75)).heap[DR]? = some (.cells (resCs r) 92 (0, 0))) := (Below.heap_alloc _ _ _ (Nat.lt_of_lt_of_le zr3 HB4.out.size)).trans ((HB4.out.block _ zr3).trans HKR3.out)
                    generalize V4.alloc (.cells (respCs { rsp0 with holds := want }) 75) = V5 at *
                    generalize V4.heap.size = R2 at *
                    have e1 := cells_all hk5 0
                    have e2 := cells_all hk5 28
                    simp only [respCs, rsp0, List.getElem?_toArray, List.getElem?_cons_zero, List.getElem?_cons_succ] at e1 e2
                    have z5 := blk_lt hk5
                    have hww : (want != want) = false := by simp
                    clear hk5 HKR3 zr3 HB4 HV4
                    go_upto_region 24 with fail
                    clear e1 e2 hww
                    obtain ⟨cn, hcn⟩ : ∃ cn, cn = cntH want := ⟨_, rfl⟩
                    rw [← hcn] at HCI
                    have HCN := hide hcn
                    have hcn2 : cn ≤ 10 := by rw [hcn]; exact cntQ_le want 10
                    clear hcn
                    go_loopg [15, 16] cn (fun g v15 v16 wr => ∃ i : Nat, i ≤ cn ∧ g = cn - i ∧ v15 = .int .i64 i ∧ v16 = .int .u16 (itc i want) ∧ V5 = wr)
                    case atStart => exact ⟨0, by omega, by omega, rfl, rfl, rfl⟩
                    case round =>
                      obtain ⟨i, hi3, rfl, rfl, rfl, rfl⟩ := hrel
                      by_cases hlt3 : i < cn
                      · as_aux_lemma =>
                        obtain ⟨h1, h2⟩ := HCI.out.2 i hlt3
                        have hne : (itc i want != 0) = true := by simp; omega
                        have HIT : Hid (bits .and .u16 (itc i want) (itc i want - 1) = itc (i + 1) want) := rfl
                        generalize itc i want = bt at *
                        go_wp2
                        go_roundg (cn - (i + 1))
                        case measure => omega
                        case rel => exact ⟨i + 1, by omega, rfl, by go_num, by rw [← HIT.out], rfl⟩
                      · as_aux_lemma =>
                        obtain rfl : i = cn := by omega
                        rw [HCI.out.1]
                        have HE5 := hide (HEC.out.below HV5.out)
                        have HXP := hide (explain_calls V5 nm want HE5.out.hn)
                        go_upto_region 29 with (go_at_call 30; refine HXP.out.mono ?_; rintro e V6 ⟨⟨xa, xc, rfl⟩, hb6⟩; rw [← HCN.out]; have HB6 := hide hb6; clear hb6)
                        have HV6 : Hid (Below W5.heap.size W5 V6) := HV5.out.trans (HB6.out.mono HV5.out.size)
                        cases hw0 : (want == 0) with
                        | true =>
                          as_aux_lemma =>
                          have HH2 : Hid (heldN L (k + 1) = heldN L k) := HHN.out.trans (by rw [if_pos (by simpa using hw0)]; rfl)
                          go_wp2
                          go_roundg (nr - (k + 1))
                          case measure => omega
                          case rel => exact ⟨k + 1, by omega, rfl, by go_num, by rw [HH2.out], HV6⟩
                        | false =>
                          as_aux_lemma =>
                          have hwn : ¬ want = 0 := by simpa using hw0
                          have HH2 : Hid (heldN L (k + 1) = heldN L k + 1) := HHN.out.trans (by rw [if_neg hwn])
                          have HON := hide (HONE.out hwn)
                          have HE6 := hide (HEC.out.below HV6.out)
                          have f39 := cells_all HE6.out.rs 39
                          simp only [respCs, List.getElem?_toArray, List.getElem?_cons_zero, List.getElem?_cons_succ] at f39
                          rw [HHL.out.2] at f39
                          have zR := blk_lt HE6.out.rs
                          have hhd := HE6.out.hd
                          rw [HHL.out.2] at hhd
                          obtain ⟨qa, qcap, qb, qoff, hqe, hql, hqm, hqr, hqa, hqc⟩ := RArr.lt hhd
                          injection hqe with hq1 hq2 hq3
                          subst hq1
                          subst hq3
                          clear hq2 hhd
                          have hll : (heldL L).length ≤ 1000000 := Nat.le_trans (heldL_len L) HSL.out.sm.b
                          generalize heldL L = hl at *
                          obtain ⟨nh, hnh⟩ : ∃ nh, nh = hl.length := ⟨_, rfl⟩
                          have HNH := hide hnh
                          rw [← hnh] at f39 hql hqr hqa
                          have hnh2 : nh ≤ 1000000 := by rw [hnh]; exact hll
                          have hi4 := run_indexAt_arr (P := Tryz.prog) (n := nh) (cap := hc) Tryz.underlying73 Tryz.size101_z (fun h => (hqa h).1)
                          have HQB : Hid (0 < nh → qb < V6.heap.size) := fun h => (hqa h).2.2
                          have HQC := hide hqc
                          have hkr6 := (HB6.out.block _ (blk_lt HKR5.out)).trans HKR5.out
                          have r0 := cells_all hkr6 0
                          have r1 := cells_all hkr6 1
                          simp only [resCs, List.getElem?_toArray, List.getElem?_cons_zero, List.getElem?_cons_succ] at r0 r1
                          have zr6 := blk_lt hkr6
                          clear hqa hqc hnh hll hkr6 hqm hql HE6 HKR5
                          go_upto_region 33 with fail
                          clear f39
                          go_loopg [17, 135] nh (fun g vl j wr => ∃ m : Nat, m ≤ nh ∧ g = nh - m ∧ j = .int .i64 m ∧ vl = .int .i64 (cntB ⟨r.sample, r.analyte, want⟩ (hl.take m)) ∧ Hid (Below V6.heap.size V6 wr))
                          case atStart => exact ⟨0, by omega, by omega, rfl, rfl, Below.refl _ _⟩
                          case round =>
                            obtain ⟨m, hm4, rfl, rfl, rfl, HBZ⟩ := hrel
                            have hsz := HBZ.out.size
                            by_cases hlt4 : m < nh
                            · as_aux_lemma =>
                              have hms : m < hl.length := by rw [← HNH.out]; exact hlt4
                              have hqb := HQB.out (by omega)
                              have hrg := HQC.out m hms
                              rw [← rng_of_block (HBZ.out.block qb hqb)] at hrg
                              have hqz : qb < wr.heap.size := by omega
                              have r0' := (HBZ.out.cell (p := ⟨DR, 0, none⟩) zr6).trans r0
                              have r1' := (HBZ.out.cell (p := ⟨DR, 1, none⟩) zr6).trans r1
                              have hzr : DR < wr.heap.size := by omega
                              have HCT := hide (cntB_take (x := ⟨r.sample, r.analyte, want⟩) hms)
                              have hcl : cntB ⟨r.sample, r.analyte, want⟩ (hl.take m) ≤ m := Nat.le_trans (cntB_le _ _) (by rw [List.length_take]; exact Nat.min_le_left _ _)
                              have hho : ones (heldCs hl[m]) 3 = true := rfl
                              generalize hl[m] = y at *
                              generalize cntB ⟨r.sample, r.analyte, want⟩ (hl.take m) = cm at *
                              clear r0 r1
                              cases hye : heldE y ⟨r.sample, r.analyte, want⟩ with
                              | true =>
                                have HC2 : Hid (cntB ⟨r.sample, r.analyte, want⟩ (hl.take (m + 1)) = cm + 1) := HCT.out.trans (by show cm + (if heldE y ⟨r.sample, r.analyte, want⟩ = true then 1 else 0) = cm + 1; rw [if_pos hye])
                                go_wp2
                                go_roundg (nh - (m + 1))
                                case measure => omega
                                case rel => exact ⟨m + 1, by omega, rfl, by go_num, by rw [HC2.out]; go_num, HBZ.out.alloc hsz _⟩
                              | false =>
                                have HC2 : Hid (cntB ⟨r.sample, r.analyte, want⟩ (hl.take (m + 1)) = cm) := HCT.out.trans (by show cm + (if heldE y ⟨r.sample, r.analyte, want⟩ = true then 1 else 0) = cm; rw [if_neg (by rw [hye]; simp)]; rfl)
                                go_wp2
                                go_roundg (nh - (m + 1))
                                case measure => omega
                                case rel => exact ⟨m + 1, by omega, rfl, by go_num, by rw [HC2.out], HBZ.out.alloc hsz _⟩
                            · as_aux_lemma =>
                              obtain rfl : m = nh := by omega
                              rw [List.take_of_length_le (by rw [← HNH.out]; omega), HON.out]
                              have HV7 : Hid (Below W5.heap.size W5 wr) := HV6.out.trans (HBZ.out.mono HV6.out.size)
                              go_wp2
                              go_roundg (nr - (k + 1))
                              case measure => omega
                              case rel => exact ⟨k + 1, by omega, rfl, by go_num, by rw [HH2.out]; go_num, HV7⟩
                · as_aux_lemma =>
                  obtain rfl : k = nr := by omega
                  have HE6 := hide (HEC.out.below HBR.out)
                  have f39 := cells_all HE6.out.rs 39
                  simp only [respCs, List.getElem?_toArray, List.getElem?_cons_zero, List.getElem?_cons_succ] at f39
                  rw [HHL.out.2] at f39
                  have zR := blk_lt HE6.out.rs
                  have hall : heldN L k = (heldL L).length := by rw [HNR.out]; exact heldN_all L
                  rw [hall]
                  have hnl : (((heldL L).length : Int) != ((heldL L).length : Int)) = false := by simp
                  have HE := hide (HFN2.out _ HBR.out).out
                  clear HE6 hall
                  go_wp2
                  go_roundg (n - (q + 1))
                  case measure => omega
                  case rel => exact ⟨q + 1, by omega, rfl, by go_num, HE⟩
      · obtain rfl : q = n := by omega
        have HBW := hide HQ.out.blw
        go_wp2
        go_ret
        exact ⟨by first | rfl | simp, HBW.out⟩
  · have hd : decide (total s ≤ 65536) = false := by simpa using hsm
    rw [hd] at HSm
    clear hd hsm ha hc hn hgl HNB
    go_enter Tryz.func4, Tryz.ntmps4
    go_wp2_with (go_at_call 18; refine HSm.out.mono ?_; rintro e w1 ⟨rfl, rfl⟩)
    go_ret
    exact ⟨rfl, Below.refl _ _⟩

end Go.Proofs.Qxb6500666aGreatDoor
