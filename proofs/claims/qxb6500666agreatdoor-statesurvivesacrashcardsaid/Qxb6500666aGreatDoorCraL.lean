/- StateSurvivesACrash, walked. (Written by tools/mk_cumw.py out of CraL0.txt.) -/
import Derived.Test.Qxb6500666aGreatDoorCraN
import Derived.Test.Qxb6500666aGreatDoorCraA
import Derived.Test.Qxb6500666aGreatDoorCraS
import Derived.Test.Qxb6500666aGreatDoorCraQ
import Derived.Test.Qxb6500666aGreatDoorCrlBits
import Derived.Test.Qxb6500666aGreatDoorDamR
import Derived.BigQuiet
import Derived.Deep.CutBlock
namespace Go.Proofs.Qxb6500666aGreatDoor
open Go.RowKit
attribute [local go_sem] ext_const Ext.cell Ext.frozen Ext.rng Ext.whole
attribute [local go_sem ↓] exec_ldOpz exec_stOpz exec_ldBen exec_stBen exec_fldRsp exec_stStD exec_ldPa exec_stPairS
attribute [local go_sem] run_ldOpz run_stOpz opA_size run_ldBen run_stBen run_fld4 run_stStD run_ldPa qCs_ones whole_alloc_lt whole_alloc_at whole_drew setRow_alloc_at setRow_alloc_lt setRow_drew rng_alloc_lt rng_alloc_at rng_drew rng_drewN

set_option maxRecDepth 100000 in
set_option maxHeartbeats 8000000 in
theorem crash_walk (w : World) (v : Value) (s : List Op) (rn kn ft : Nat → ByteArray) (okg : Nat → Prop) (h : Script w (· < w.heap.size) v s) (hgl : Gl w w.heap.size rn kn ft okg) :
    Calls Tryz.prog 15 #[v] w fun e w' => e = .returned (.bool true) ∧ Below w.heap.size w w' := by
  have HSm := hide (small_calls w _ v s h)
  have HGL := hide (fun W (hb : Below w.heap.size w W) => hgl.same hb (Nat.le_refl _))
  have HNB := hide (newBench_calls w)
  obtain ⟨a, cap, b, off, rfl, hl, hm, hr, ha, hc⟩ := h
  obtain ⟨n, hn⟩ : ∃ n, n = s.length := ⟨_, rfl⟩
  have Hn : Hid (n = s.length) := hn
  rw [← hn] at hl hr ha HSm ⊢
  have hi := run_indexAt_arr (P := Tryz.prog) (cap := cap) Tryz.underlying22 Tryz.size61 (fun h => (ha h).1)
  have HB : Hid (0 < n → b < w.heap.size) := fun h => (ha h).2
  by_cases hsm : total s ≤ 65536
  · have HC : Hid (∀ k (h : k < s.length), ∃ lv dv ca cn cc, rng w b (off + k * 27) 27 = some (opA s[k] lv dv ca cn cc) ∧ OpIn w (· < w.heap.size) s[k] lv dv ca cn cc ∧ ones (opA s[k] lv dv ca cn cc) 27 = true) := fun k h => by
      obtain ⟨cs, hlen, hE, hcell⟩ := hc k h
      have ht := total_le h hsm
      obtain ⟨lv, dv, ca, cn, cc, e, hO, h1⟩ := opIn_of hE ht.2.1 ht.2.2
      refine ⟨lv, dv, ca, cn, cc, ?_, hO, h1⟩
      rw [← e]
      have hl27 : cs.length = 27 := by have := congrArg Array.size e; simpa [opA] using this
      have := rng_of_cells (w := w) (b := b) (off := off + k * 27) (by omega) hcell
      rw [hl27] at this
      exact this
    have HRO : Hid (∀ k (hk : k < s.length), s[k].req.Ok) := fun k hk => by
      obtain ⟨_, _, _, _, _, _, h1, _⟩ := HC.out k hk
      exact h1.req
    have HRU : Hid (∀ k (hk : k < s.length), s[k].req.Ok ∧ ∀ x ∈ s[k].req.list, U32 x) := fun k hk => by
      obtain ⟨_, _, _, _, _, _, h1, _⟩ := HC.out k hk
      exact ⟨h1.req, h1.ids⟩
    have HIV : Hid (∀ q, q ≤ s.length → Inv q (stAt s q)) := inv_all HRO.out
    have hn2 : n ≤ 65536 := by have := hsm; unfold total at this; omega
    have HCI : Hid (∃ es, AI (stAt s n).ps es ∧ es.length ≤ n) := ai_all HRU.out (by omega) n (by omega)
    have hd : decide (total s ≤ 65536) = true := by simpa using hsm
    rw [hd] at HSm
    clear hd hsm ha hc hn hgl HRO HRU
    go_enter Tryz.func15, Tryz.ntmps15
    go_upto_region 3 with (go_at_call 18; refine HSm.out.mono ?_; rintro e w1 ⟨rfl, rfl⟩)
    go_upto_region 4 with (go_at_call 19; refine HNB.out.mono ?_; rintro e W0 ⟨rfl, hbn, hb0⟩)
    have HQ0 : Hid (BX w W0 (fun _ => False) (stAt s 0)) := BX.start hbn hb0
    clear hbn hb0 HSm HNB
    go_upto_region 5 with fail
    refine wp_loop_mask crL1 (fun g x wr => ∃ q : Nat, q ≤ n ∧ g = n - q ∧ x = .int .i64 q ∧ Hid (BX w wr (fun _ => False) (stAt s q))) n (.int .i64 0) ⟨0, by omega, by omega, rfl, HQ0⟩ (by kernel_rfl) ?_
    clear HQ0
    intro gk1 x1 u1 wr hrel J1 K1 hJ1 hK1
    dsimp only [crL1, maskL_keep, maskL_any, maskL_is, maskL_nil]
    obtain ⟨q, hq, rfl, rfl, HQ⟩ := hrel
    by_cases hlt : q < n
    · as_aux_lemma =>
      have hqs : q < s.length := by rw [← Hn.out]; exact hlt
      have hbb := HB.out (by omega)
      obtain ⟨lv, dv, ca, cn, cc, hcl, hO, hones⟩ := HC.out q hqs
      have HIQ := hide (HIV.out q (by omega))
      have HSQ := hide (stAt_succ hqs)
      generalize s[q] = p at *
      have hcells : rng wr b (off + q * 27) 27 = some (opA p lv dv ca cn cc) := by rw [rng_of_block (HQ.out.blw.block _ hbb)]; exact hcl
      have hbw : b < wr.heap.size := by have := HQ.out.blw.size; omega
      have HOI := hide hO
      clear hO hcl HCI
      go_upto_region 7 with fail
      have HQ1 := hide (HQ.out.below ((Below.refl _ _).alloc (Nat.le_refl _) (.cells (opA p lv dv ca cn cc) 61)))
      have hk1 : (wr.alloc (.cells (opA p lv dv ca cn cc) 61)).heap[wr.heap.size]? = some (.cells (opA p lv dv ca cn cc) 61 (0, 0)) := heap_alloc_at _ _
      generalize wr.alloc (.cells (opA p lv dv ca cn cc) 61) = U1 at *
      generalize wr.heap.size = D at *
      have hr1 : rng U1 D 0 27 = some (opA p lv dv ca cn cc) := rng_whole hk1
      have HST := hide (HQ1.out.step (HIQ.out.po (by omega)) (HOI.out.below HQ1.out.blw) (HGL.out _ HQ1.out.blw) ⟨HIQ.out.off.1, by have := HIQ.out.off.2; omega⟩)
      clear hk1 hcells hbw HQ
      go_wp2_with (go_at_call 21; refine HST.out.mono ?_; rintro e U2 ⟨ans, rfl, hq2, hf2, ha2⟩; have HQ2 : Hid (BX w U2 (fun _ => False) (stAt s (q + 1))) := (by rw [HSQ.out]; exact hq2); clear hq2 hf2 ha2)
      refine Handed.intro (n - (q + 1)) (by omega) ?_
      exact hJ1.out _ (.int .i64 ((q + 1 : Nat) : Int)) _ _ ⟨q + 1, by omega, rfl, rfl, HQ2⟩ (by kernel_rfl)
    · as_aux_lemma =>
      obtain rfl : q = n := by omega
      obtain ⟨es, hai, hel⟩ := HCI.out
      have HAI := hide hai
      have hKN := hai.kn
      have HKN := hide hKN
      have HPO := hide ((HIV.out q (by have := Hn.out; omega)).po (by omega))
      have HGW := hide (fun W (hb : Below w.heap.size w W) => HGL.out W hb)
      have hel2 : es.length ≤ 65536 := by omega
      clear hai hKN HCI HIV HGL hl hr
      generalize stAt s q = t at *
      have HBW := hide HQ.out.blw
      obtain ⟨Y, A, ok, x, hbn, hsys⟩ := HQ.out.sysb HPO.out
      have HSY := hide hsys
      have HBN := hide hbn
      obtain ⟨pv, o0, l0, htop, hpa⟩ := hsys.st.ex
      have z1 := blk_lt hbn
      have z2 := blk_lt htop
      have e1 := cells_all hbn 0
      have e1b := cells_all hbn 1
      simp only [List.getElem?_toArray, List.getElem?_cons_zero, List.getElem?_cons_succ] at e1 e1b
      have hpl := hsys.plen
      have HSN := hide (snapshot_own wr w.heap.size _ pv t.ps t.full o0 l0 htop hpa hpl)
      clear hbn hsys htop hpa HQ
      obtain ⟨N, hN⟩ : ∃ N, N = t.ps.length := ⟨_, rfl⟩
      rw [← hN] at HSN hpl
      have HN := hide hN
      clear hN
      go_upto_region 10 with (go_at_call 41; refine HSN.out.mono ?_; rintro e V1 ⟨ns, rfl, hown, hzip, hmap, -, hbv⟩; have HOWN := hide hown; have HZIP := hide hzip; have HMAP := hide hmap; have HBV := hide hbv; clear hown hzip hmap hbv)
      clear HSN
      have hzV := HBV.out.size
      have hG : wr.heap.size < V1.heap.size := (HOWN.out.block _ rfl).2
      have HB2 : Hid (Below V1.heap.size V1 (V1.alloc (.cells #[.slice (some ⟨wr.heap.size, 0, none⟩) N N, .bool false, .int .i64 0, .int .i64 0] 131))) := (Below.refl _ _).alloc (Nat.le_refl _) _
      have hk2 : (V1.alloc (.cells #[.slice (some ⟨wr.heap.size, 0, none⟩) N N, .bool false, .int .i64 0, .int .i64 0] 131)).heap[V1.heap.size]? = some (.cells #[.slice (some ⟨wr.heap.size, 0, none⟩) N N, .bool false, .int .i64 0, .int .i64 0] 131 (0, 0)) := heap_alloc_at _ _
      generalize V1.alloc (.cells #[.slice (some ⟨wr.heap.size, 0, none⟩) N N, .bool false, .int .i64 0, .int .i64 0] 131) = V2 at *
      have HK2 := hide hk2
      have s2 := cells_all hk2 0
      simp only [List.getElem?_toArray, List.getElem?_cons_zero] at s2
      have zS := blk_lt hk2
      have hzV2 := HB2.out.size
      have HNL : Hid (ns.length = N) := by show _ = _; rw [HN.out, ← HMAP.out, List.length_map]
      clear hk2
      go_upto_region 10 with fail
      refine wp_region_ext V2.heap.size (by kernel_rfl) (by kernel_rfl) ?_
      repeat (go_big_quiet_step (fail))
      refine wpQuiet_nil ?_
      intro _ hw'
      obtain ⟨x5, hw2⟩ := hw'
      subst hw2
      obtain ⟨V3', hb3'⟩ := x5
      simp only []
      replace HB2 : Hid (Below V1.heap.size V1 V3') := HB2.out.trans (hb3'.mono HB2.out.size)
      replace HK2 : Hid (V3'.heap[V1.heap.size]? = some (.cells #[.slice (some ⟨wr.heap.size, 0, none⟩) N N, .bool false, .int .i64 0, .int .i64 0] 131 (0, 0))) := (hb3'.block _ zS).trans HK2.out
      replace zS : V1.heap.size < V3'.heap.size := blk_lt HK2.out
      replace hzV2 := HB2.out.size
      clear s2 hb3'
      go_upto_region 11 with fail
      have HL0 : Hid (Lr wr V3' V3' N ns ns 0) := ⟨RevS.start ns, HOWN.out.below HB2.out (Nat.le_refl _), fun _ _ => rfl, rfl, Below.refl _ _⟩
      refine wp_loop_mask crL2 (fun g x wx => ∃ (i : Nat) (j : Int) (xs : List ZP), 2 * i ≤ N ∧ j = (N : Int) - 1 - i ∧ g = N - 2 * i ∧ x = (.int .i64 i, .int .i64 j) ∧ Hid (Lr wr V3' wx N ns xs i)) N (.int .i64 0, .int .i64 ((N : Int) - 1)) ⟨0, (N : Int) - 1, ns, by omega, by omega, by omega, rfl, HL0⟩ (by kernel_rfl) ?_
      clear HL0
      intro gk2 x2 u2 wx hrel J2 K2 hJ2 hK2
      dsimp only [crL2, maskL_keep, maskL_any, maskL_is, maskL_nil]
      obtain ⟨i, j, xs, hi2, hj, rfl, rfl, HL⟩ := hrel
      dsimp only
      by_cases hij : (i : Int) < j
      · as_aux_lemma =>
        obtain ⟨jn, rfl⟩ : ∃ jn : Nat, j = jn := ⟨j.toNat, by omega⟩
        have hjN : jn + i + 1 = N := by omega
        have HJN := hide hjN
        clear hj
        have hxl : xs.length = N := by rw [HL.out.rev.len]; exact HNL.out
        have hi1 : i < xs.length := by omega
        have hj1 : jn < xs.length := by omega
        obtain ⟨g', cap', hv, -, -, hel⟩ := HL.out.own.elem zCs_size (by decide) (by omega) (by omega)
        injection hv with q1 q2 q3
        injection q1 with q1
        injection q1 with q1 q4
        subst q1
        have r1 := hel i hi1
        have r2 := hel jn hj1
        have hix := run_indexAt_arr (P := Tryz.prog) (n := N) (cap := N) (a := some ⟨wr.heap.size, 0, none⟩) (b := wr.heap.size) (off := 0) Tryz.underlying129 Tryz.size171 (fun _ => rfl)
        have hia := fun W => hix W (i : Int) (by omega) (by omega)
        have hja := fun W => hix W (jn : Int) (by omega) (by omega)
        rw [show ((i : Int)).toNat = i by omega] at hia
        rw [show ((jn : Int)).toNat = jn by omega] at hja
        simp only [Nat.zero_add] at hia hja
        have s2' : wx.cell? ⟨V1.heap.size, 0, none⟩ = some (.slice (some ⟨wr.heap.size, 0, none⟩) N N) := by
          have := cells_all ((HL.out.oth V1.heap.size (by omega)).trans HK2.out) 0
          simpa using this
        have hS2x : V1.heap.size < wx.heap.size := by rw [HL.out.size]; exact zS
        have hGx : wr.heap.size < wx.heap.size := by omega
        have HRV := hide (HL.out.rev.step jn (by have := HNL.out; omega) (by omega) hi1 hj1)
        obtain ⟨g1, w3, hg1, hst1, hown3, hoth3, hsz3, hbel3, -, -⟩ := OwnR.put (P := Tryz.prog) (w := wx.drew) (HL.out.own.mono (fun _ _ => rfl)) zCs_size zCs_one i hi1 xs[jn]
        injection hg1 with hg1
        injection hg1 with hg1 _
        subst hg1
        obtain ⟨g2, w4, hg2, hst2, hown4, hoth4, hsz4, hbel4, -, -⟩ := OwnR.put (P := Tryz.prog) hown3 zCs_size zCs_one jn (by simp; omega) xs[i]
        injection hg2 with hg2
        injection hg2 with hg2 _
        subst hg2
        rw [← stPair_eq _ _ _ _ (zCs_size _)] at hst1 hst2
        have HNX : Hid (Lr wr V3' w4 N ns ((xs.set i xs[jn]).set jn xs[i]) (i + 1)) := ⟨HRV.out, hown4, fun b hb => (hoth4 b hb).trans ((hoth3 b hb).trans (HL.out.oth b hb)), by rw [hsz4, hsz3]; exact HL.out.size, HL.out.bel.trans (((Below.refl _ _).drew).trans (hbel3.trans hbel4))⟩
        clear hjN
        generalize hx1 : xs[jn] = zj at *
        generalize hx0 : xs[i] = zi at *
        clear hx1 hx0 hel hix q2 q4 q3 hown3 hoth3 hsz3 hbel3 hown4 hoth4 hsz4 hbel4 HRV e1 e1b
        go_upto_region 13 with fail
        refine wp_region_mixT (wx.heap.size) [3, 8, 13, 16, 20, 23] (by kernel_rfl) ?_
        refine mixT_slots [0, 1, 2, 4, 5, 6, 7, 9, 10, 11, 12, 14, 17, 18, 19, 21] (fuel := 12) rfl (by kernel_rfl) (by kernel_rfl) (fun d _ _ _ _ h => by cases d <;> exact h) ?_
        simp only [opersAt, List.getElem?_toArray, List.getElem?_cons_zero, List.getElem?_cons_succ]
        repeat (go_big_quiet_step (fail))
        refine wpQuiet_nil ?_
        refine mixT_reads [3, 8, 13, 20] (fuel := 8) rfl (by kernel_rfl) (by decide) (by kernel_rfl) (fun d _ _ _ _ h => by cases d <;> exact h) (ext_drew _ _) ?_
        simp only [opersAt, List.getElem?_toArray, List.getElem?_cons_zero, List.getElem?_cons_succ]
        repeat (go_big_quiet_step (fail))
        refine wpQuiet_nil ?_
        refine mixT_slots [15, 22] (fuel := 6) rfl (by kernel_rfl) (by kernel_rfl) (fun d _ _ _ _ h => by cases d <;> exact h) ?_
        simp only [opersAt, List.getElem?_toArray, List.getElem?_cons_zero, List.getElem?_cons_succ]
        repeat (go_big_quiet_step (fail))
        refine wpQuiet_nil ?_
        refine mixT_reads [16, 23] (fuel := 4) rfl (by kernel_rfl) (by decide) (by kernel_rfl) (fun d _ _ _ _ h => by cases d <;> exact h) (ext_drew _ _) ?_
        simp only [opersAt, List.getElem?_toArray, List.getElem?_cons_zero, List.getElem?_cons_succ]
        repeat (go_big_quiet_step (fail))
        refine wpQuiet_nil ?_
        refine mixT_slots [24] (fuel := 3) rfl (by kernel_rfl) (by kernel_rfl) (fun d _ _ _ _ h => by cases d <;> exact h) ?_
        simp only [opersAt, List.getElem?_toArray, List.getElem?_cons_zero, List.getElem?_cons_succ]
        repeat (go_big_quiet_step (fail))
        refine wpQuiet_nil ?_
        refine mixT_one (k := 25) (by kernel_rfl) rfl ?_
        go_wp2
        refine ⟨Or.inl (by kernel_rfl), ?_⟩
        refine mixT_slots [26] (fuel := 1) rfl (by kernel_rfl) (by kernel_rfl) (fun d _ _ _ _ h => by cases d <;> exact h) ?_
        simp only [opersAt, List.getElem?_toArray, List.getElem?_cons_zero, List.getElem?_cons_succ]
        repeat (go_big_quiet_step (fail))
        refine wpQuiet_nil ?_
        refine mixT_one (k := 27) (by kernel_rfl) rfl ?_
        go_wp2
        refine ⟨Or.inl (by kernel_rfl), ?_⟩
        refine mixT_nil (by kernel_rfl) ?_
        go_wp2
        have hjN := HJN.out
        refine Handed.intro (N - 2 * (i + 1)) (by omega) ?_
        exact hJ2.out _ (.int .i64 ((i + 1 : Nat) : Int), .int .i64 ((jn : Int) - 1)) _ _ ⟨i + 1, (jn : Int) - 1, _, by omega, by omega, rfl, rfl, HNX⟩ (by kernel_rfl)
      · as_aux_lemma =>
        have hxs : xs = ns.reverse := HL.out.rev.done (by rw [HNL.out]; omega)
        subst hxs
        have HL2 := hide HL.out
        have ho2 := HL.out.oth
        have hS2x : V1.heap.size < wx.heap.size := by rw [HL.out.size]; exact zS
        have hlow := HSY.out.lb
        have z3 := blk_lt hlow
        have HVW : Hid (Below wr.heap.size wr wx) := (HBV.out.trans (HB2.out.mono hzV)).trans HL.out.bel
        have f1b : wx.cell? ⟨w.heap.size + 2, 1, none⟩ = some (.pointer (some ⟨w.heap.size + 1, 0, none⟩)) := (HVW.out.cell (p := ⟨w.heap.size + 2, 1, none⟩) z1).trans e1b
        have rl : rng wx (w.heap.size + 1) 0 8 = some (lvCs x) := (rng_of_block (HVW.out.block _ z3) _ _).trans (rng_whole hlow)
        have ho8 : ones (lvCs x) 8 = true := low_ones HSY.out.low
        have hzx := HVW.out.size
        have zx1 : w.heap.size + 2 < wx.heap.size := by omega
        have zx3 : w.heap.size + 1 < wx.heap.size := by omega
        clear e1 e1b HL
        go_upto_region 15 with fail
        have hB3 : Below wx.heap.size wx (wx.alloc (.cells (lvCs x) 83)) := (Below.refl _ _).alloc (Nat.le_refl _) _
        have hk3 : (wx.alloc (.cells (lvCs x) 83)).heap[wx.heap.size]? = some (.cells (lvCs x) 83 (0, 0)) := heap_alloc_at _ _
        generalize wx.alloc (.cells (lvCs x) 83) = V3 at *
        clear f1b rl
        go_upto_region 16 with (go_at_call 75; refine (sysOpen_calls _ _ _).mono ?_; rintro e V4 ⟨rfl, rfl⟩)
        have HT : Hid (TwoB w ((V3.alloc (.cells #[.pointer (some ⟨V1.heap.size, 0, none⟩), .pointer (some ⟨wx.heap.size, 0, none⟩)] 264)).alloc (.cells #[.pointer (some ⟨V1.heap.size, 0, none⟩), .pointer (some ⟨wx.heap.size, 0, none⟩), .pointer (some ⟨V3.heap.size, 0, none⟩)] 88)) t (V3.heap.size + 1)) := by
          have b4 : Below V3.heap.size V3 (V3.alloc (.cells #[.pointer (some ⟨V1.heap.size, 0, none⟩), .pointer (some ⟨wx.heap.size, 0, none⟩)] 264)) := (Below.refl _ _).alloc (Nat.le_refl _) _
          have k4 : (V3.alloc (.cells #[.pointer (some ⟨V1.heap.size, 0, none⟩), .pointer (some ⟨wx.heap.size, 0, none⟩)] 264)).heap[V3.heap.size]? = some (.cells #[.pointer (some ⟨V1.heap.size, 0, none⟩), .pointer (some ⟨wx.heap.size, 0, none⟩)] 264 (0, 0)) := heap_alloc_at _ _
          have s4 : (V3.alloc (.cells #[.pointer (some ⟨V1.heap.size, 0, none⟩), .pointer (some ⟨wx.heap.size, 0, none⟩)] 264)).heap.size = V3.heap.size + 1 := by simp
          generalize V3.alloc (.cells #[.pointer (some ⟨V1.heap.size, 0, none⟩), .pointer (some ⟨wx.heap.size, 0, none⟩)] 264) = V4 at *
          have b5 : Below V4.heap.size V4 (V4.alloc (.cells #[.pointer (some ⟨V1.heap.size, 0, none⟩), .pointer (some ⟨wx.heap.size, 0, none⟩), .pointer (some ⟨V3.heap.size, 0, none⟩)] 88)) := (Below.refl _ _).alloc (Nat.le_refl _) _
          have k5 : (V4.alloc (.cells #[.pointer (some ⟨V1.heap.size, 0, none⟩), .pointer (some ⟨wx.heap.size, 0, none⟩), .pointer (some ⟨V3.heap.size, 0, none⟩)] 88)).heap[V4.heap.size]? = some (.cells #[.pointer (some ⟨V1.heap.size, 0, none⟩), .pointer (some ⟨wx.heap.size, 0, none⟩), .pointer (some ⟨V3.heap.size, 0, none⟩)] 88 (0, 0)) := heap_alloc_at _ _
          rw [s4] at k5
          generalize V4.alloc (.cells #[.pointer (some ⟨V1.heap.size, 0, none⟩), .pointer (some ⟨wx.heap.size, 0, none⟩), .pointer (some ⟨V3.heap.size, 0, none⟩)] 88) = V5 at *
          have bx5 : Below wx.heap.size wx V5 := (hB3.trans (b4.mono hB3.size)).trans (b5.mono (Nat.le_trans hB3.size b4.size))
          have br5 : Below wr.heap.size wr V5 := HVW.out.trans (bx5.mono hzx)
          refine TwoB.start ((br5.block _ z1).trans HBN.out) (HSY.out.below br5) ((bx5.block _ (by omega)).trans ((ho2 _ (by omega)).trans HK2.out)) (HL2.out.own.below bx5 (Nat.le_refl _)) ((HZIP.out.memb (fun z hz => List.mem_reverse.1 hz)).mono (fun b hb => ?_) (fun b hb => hb)) ?_ hG ((b5.block _ (by have := blk_lt hk3; have := b4.size; omega)).trans ((b4.block _ (blk_lt hk3)).trans hk3)) ((b5.block _ (by omega)).trans k4) k5
          · exact (bx5.block b (by have := hb.2; omega)).trans ((ho2 b (by have := hb.1; omega)).trans (HB2.out.block b hb.2))
          · rw [List.map_reverse, HMAP.out]
        have HB5 : Hid (Below w.heap.size w ((V3.alloc (.cells #[.pointer (some ⟨V1.heap.size, 0, none⟩), .pointer (some ⟨wx.heap.size, 0, none⟩)] 264)).alloc (.cells #[.pointer (some ⟨V1.heap.size, 0, none⟩), .pointer (some ⟨wx.heap.size, 0, none⟩), .pointer (some ⟨V3.heap.size, 0, none⟩)] 88))) := by
          have h3 := HBW.out.trans ((HVW.out.trans (hB3.mono hzx)).mono HBW.out.size)
          exact (h3.alloc h3.size _).alloc (by have := h3.size; simp; omega) _
        generalize (V3.alloc (.cells #[.pointer (some ⟨V1.heap.size, 0, none⟩), .pointer (some ⟨wx.heap.size, 0, none⟩)] 264)).alloc (.cells #[.pointer (some ⟨V1.heap.size, 0, none⟩), .pointer (some ⟨wx.heap.size, 0, none⟩), .pointer (some ⟨V3.heap.size, 0, none⟩)] 88) = V5 at *
        generalize V3.heap.size + 1 = B2 at *
        clear hB3 hk3 HL2 ho2 hlow z3 HVW ho8 zx1 zx3 HK2 HB2 HBV HOWN HZIP HSY HBN HBW
        have HAK : Hid (Calls Tryz.prog 27 #[.pointer (some ⟨w.heap.size + 2, 0, none⟩), .int .u8 22, .int .u32 0, .int .u32 0] V5 fun e w' => ∃ rsp, e = .returned (.agg (respCs rsp)) ∧ Below V5.heap.size V5 w' ∧ RspP rn kn V5 w' t.ps t.full t.off t.lar t.low (askReq 22 0 0) rsp) := by
          obtain ⟨Yb, Ab, okb, xb, Y2, S2, LB2, A2, full2, t1, t2, t3, t4⟩ := HT.out
          exact ask_b V5 _ Yb _ _ w.heap.size _ _ Ab okb okg t.ps t.full t.off t.lar xb t.low rn kn ft t1 t2 HB5.out.size (HGW.out _ HB5.out) 22 0 0 rfl u32z u32z
        go_upto_region 17 with (go_at_call 27; refine HAK.out.mono ?_; rintro e V6 ⟨rsp, rfl, hb6, hp6⟩; have HB6 := hide hb6; have HP6 := hide hp6; clear hb6 hp6)
        clear HAK
        obtain ⟨f, en, hf, he, hfl, hel⟩ := ask_small HAI.out HP6.out
        have hB7 : Below V5.heap.size V5 (V6.alloc (.cells (statCs rsp.st) 65)) := HB6.out.alloc HB6.out.size _
        have hk7 : (V6.alloc (.cells (statCs rsp.st) 65)).heap[V6.heap.size]? = some (.cells (statCs rsp.st) 65 (0, 0)) := heap_alloc_at _ _
        generalize V6.alloc (.cells (statCs rsp.st) 65) = V7 at *
        generalize V6.heap.size = DS at *
        generalize rsp.st = st at *
        have c0 := cells_all hk7 0
        have c1 := cells_all hk7 1
        simp only [statCs, List.getElem?_toArray, List.getElem?_cons_zero, List.getElem?_cons_succ] at c0 c1
        rw [he] at c0
        rw [hf] at c1
        have HT7 := hide (HT.out.below hB7)
        have HB7 : Hid (Below w.heap.size w V7) := HB5.out.trans (hB7.mono HB5.out.size)
        have HQS := hide (questions_calls V7 a b off q cap s f en (by omega) (by omega) Hn.out hn2 hi (fun h => Nat.lt_of_lt_of_le (HB.out h) HB7.out.size) (fun k hk => by
          obtain ⟨lv, dv, ca, cn, cc, k1, k2, k3⟩ := HC.out k hk
          exact ⟨lv, dv, ca, cn, cc, (rng_of_block (HB7.out.block _ (HB.out (by have := Hn.out; omega))) _ _).trans k1, k2.req, k3⟩))
        clear hk7 HT HB5 HB6 HP6 hB7 hi
        go_upto_region 18 with (go_at_call 24; refine HQS.out.mono ?_; rintro e V8 ⟨qv, qs, rfl, hqa⟩; obtain ⟨qa, qc, rfl⟩ := hqa.own.form; have HQA := hide hqa; clear hqa)
        clear HQS c0 c1
        have HT8 := hide (HT7.out.below HQA.out.bel)
        have HB8 : Hid (Below w.heap.size w V8) := HB7.out.trans (HQA.out.bel.mono HB7.out.size)
        have hql := HQA.out.len
        obtain ⟨ra, rc, rb, ro, re, rl1, rl2, rl3, rha, rhc⟩ := RArr.lt (HQA.out.own.rows qCs_size (by decide) (by omega))
        injection re with re1 re2 re3
        subst re1
        subst re3
        have hiq := run_indexAt_arr (P := Tryz.prog) (n := qs.length) (cap := qc) Tryz.underlying22 Tryz.size61 (fun h => (rha h).1)
        have HRB : Hid (0 < qs.length → rb < V8.heap.size) := fun h => (rha h).2.2
        have HRC := hide rhc
        have HQI := hide HQA.out.ok
        obtain ⟨QN, hQN⟩ : ∃ QN, QN = qs.length := ⟨_, rfl⟩
        rw [← hQN] at hiq HRB hql
        have HQN := hide hQN
        rw [← hQN]
        clear re2 rl1 rl2 rl3 rha rhc HQA HT7 HB7 hQN
        refine wp_loop_mask crL3 (fun g x wy => ∃ k : Nat, k ≤ QN ∧ g = QN - k ∧ x = .int .i64 k ∧ Hid (Below V8.heap.size V8 wy)) QN (.int .i64 0) ⟨0, by omega, by omega, rfl, Below.refl _ _⟩ (by kernel_rfl) ?_
        intro gk3 x3 u3 wy hrel J3 K3 hJ3 hK3
        dsimp only [crL3, maskL_keep, maskL_any, maskL_is, maskL_nil]
        obtain ⟨k, hkN, rfl, rfl, HBY⟩ := hrel
        by_cases hkl : k < QN
        · as_aux_lemma =>
          have hks : k < qs.length := by rw [← HQN.out]; exact hkl
          have hrb := HRB.out (by omega)
          have hqc : rng wy rb (ro + k * 27) 27 = some (qCs qs[k]) := (rng_of_block (HBY.out.block _ hrb) _ _).trans (HRC.out k hks)
          have hrbw : rb < wy.heap.size := by have := HBY.out.size; omega
          obtain ⟨kk, ki, kj, hr0, hkk, hki, hkj⟩ := HQI.out _ (List.getElem_mem hks)
          rw [hr0] at hqc
          have hk8 : U8 kk := by
            unfold isRdg at hkk
            simp at hkk
            exact ⟨by omega, by omega⟩
          have HRQ := hide (askReq_ok hk8 hki hkj)
          have HRD : Hid (isRdg (askReq kk ki kj).kind = true) := hkk
          clear hr0 hkk hki hkj hk8
          have HT9 := hide (HT8.out.below HBY.out)
          generalize askReq kk ki kj = r at *
          go_upto_region 20 with fail
          have HBU : Hid (Below wy.heap.size wy (wy.alloc (.cells (qCs r) 61))) := (Below.refl _ _).alloc (Nat.le_refl _) _
          have hkU : (wy.alloc (.cells (qCs r) 61)).heap[wy.heap.size]? = some (.cells (qCs r) 61 (0, 0)) := heap_alloc_at _ _
          generalize wy.alloc (.cells (qCs r) 61) = U1 at *
          have rU : rng U1 wy.heap.size 0 27 = some (qCs r) := rng_whole hkU
          have zU := blk_lt hkU
          have hDU : wy.heap.size ≤ U1.heap.size := HBU.out.size
          have HT1 : Hid (TwoB w U1 t B2) := HT9.out.below HBU.out
          have HWU : Hid (Below w.heap.size w U1) := (HB8.out.trans (HBY.out.mono HB8.out.size)).trans (HBU.out.mono (Nat.le_trans HB8.out.size HBY.out.size))
          have HVU : Hid (Below V8.heap.size V8 U1) := HBY.out.trans (HBU.out.mono HBY.out.size)
          clear HBU HT9 hkU hqc hiq HBY
          generalize wy.heap.size = D at *
          obtain ⟨Yb, Ab, okb, xb, Y2, S2, LB2, A2, full2, t1, t2, t3, t4⟩ := HT1.out
          have HSA : Hid (∀ W, Below U1.heap.size U1 W → Calls Tryz.prog 21 #[.pointer (some ⟨w.heap.size + 2, 0, none⟩), .agg (qCs r)] W fun e w' => ∃ rsp, e = .returned (.agg (ansCs (ansOf rsp))) ∧ Below W.heap.size W w' ∧ RspP rn kn W w' t.ps t.full t.off t.lar t.low r rsp) := fun W hb => step_b W _ Yb _ _ w.heap.size _ _ Ab okb okg t.ps t.full t.off t.lar xb t.low (qOp r) (.slice none 0 0) (.slice none 0 0) none 0 0 rn kn ft ((hb.block _ (blk_lt t1)).trans t1) (t2.below hb) (Nat.le_trans HWU.out.size hb.size) (HGW.out _ (HWU.out.trans (hb.mono HWU.out.size))) HRQ.out rfl HRD.out
          have HSB : Hid (∀ W, Below U1.heap.size U1 W → Calls Tryz.prog 21 #[.pointer (some ⟨B2, 0, none⟩), .agg (qCs r)] W fun e w' => ∃ rsp, e = .returned (.agg (ansCs (ansOf rsp))) ∧ Below W.heap.size W w' ∧ RspP rn kn W w' t.ps.reverse full2 0 0 t.low r rsp) := fun W hb => step_b W _ Y2 _ _ w.heap.size _ _ A2 okb okg t.ps.reverse full2 0 0 xb t.low (qOp r) (.slice none 0 0) (.slice none 0 0) none 0 0 rn kn ft ((hb.block _ (blk_lt t3)).trans t3) (t4.below hb) (Nat.le_trans HWU.out.size hb.size) (HGW.out _ (HWU.out.trans (hb.mono HWU.out.size))) HRQ.out rfl HRD.out
          clear t1 t2 t3 t4
          refine wp_region_mixT (U1.heap.size) [1, 4] (by kernel_rfl) ?_
          refine mixT_slots [0, 3] (fuel := 6) rfl (by kernel_rfl) (by kernel_rfl) (fun d _ _ _ _ h => by cases d <;> exact h) ?_
          simp only [opersAt, List.getElem?_toArray, List.getElem?_cons_zero, List.getElem?_cons_succ]
          repeat (go_big_quiet_step (fail))
          refine wpQuiet_nil ?_
          refine mixT_reads [1, 4] (fuel := 4) rfl (by kernel_rfl) (by decide) (by kernel_rfl) (fun d _ _ _ _ h => by cases d <;> exact h) (ext_drew _ _) ?_
          simp only [opersAt, List.getElem?_toArray, List.getElem?_cons_zero, List.getElem?_cons_succ]
          repeat (go_big_quiet_step (fail))
          refine wpQuiet_nil ?_
          refine mixT_one (k := 2) (by kernel_rfl) rfl ?_
          go_wp2_with (go_at_call 21; refine (HSA.out _ (Below.refl _ _).drew).mono ?_; rintro e U2 ⟨x1, rfl, hb2, hp2⟩)
          have h12 : Below U1.heap.size U1 U2 := (Below.refl _ _).drew.trans hb2
          refine ⟨Or.inr (by intros; exact ⟨⟨_, h12⟩, rfl⟩), ?_⟩
          have H12 := hide h12
          have HP2 := hide hp2
          clear h12 hp2 hb2 HSA
          refine mixT_one (k := 5) (by kernel_rfl) rfl ?_
          go_wp2_with (go_at_call 21; refine (HSB.out _ H12.out).mono ?_; rintro e U3 ⟨x2, rfl, hb3, hp3⟩)
          have h13 : Below U1.heap.size U1 U3 := H12.out.trans (hb3.mono H12.out.size)
          refine ⟨Or.inr (by intros; exact ⟨⟨_, h13⟩, rfl⟩), ?_⟩
          have HRS : Hid (RS U3 x1 x2) := rsp_same (PsEq.rev HKN.out) HRD.out HP2.out hp3 hb3 (Below.refl _ _)
          have H13 := hide h13
          clear h13 hp3 hb3 HSB HP2
          refine mixT_one (k := 6) (by kernel_rfl) rfl ?_
          go_wp2_with (go_at_call 20; refine (sameAns_calls _ _ _ HRS.out).mono ?_; rintro e U4 ⟨rfl, hb4⟩)
          have h14 : Below U1.heap.size U1 U4 := H13.out.trans (hb4.mono H13.out.size)
          refine ⟨Or.inr (by intros; exact ⟨⟨_, h14⟩, rfl⟩), ?_⟩
          have H14 : Hid (Below V8.heap.size V8 U4) := HVU.out.trans (h14.mono HVU.out.size)
          clear h14 hb4 HRS
          refine mixT_slots [7] (fuel := 0) rfl (by kernel_rfl) (by kernel_rfl) (fun d _ _ _ _ h => by cases d <;> exact h) ?_
          simp only [opersAt, List.getElem?_toArray, List.getElem?_cons_zero, List.getElem?_cons_succ]
          repeat (go_big_quiet_step (fail))
          refine wpQuiet_nil ?_
          refine mixT_nil (by kernel_rfl) ?_
          go_wp2
          refine Handed.intro (QN - (k + 1)) (by omega) ?_
          exact hJ3.out _ (.int .i64 ((k + 1 : Nat) : Int)) _ _ ⟨k + 1, by omega, rfl, rfl, H14⟩ (by kernel_rfl)
        · as_aux_lemma =>
          have HEND : Hid (Below w.heap.size w wy) := HB8.out.trans (HBY.out.mono HB8.out.size)
          obtain rfl : k = QN := by omega
          go_wp2
          go_ret
          exact ⟨rfl, HEND.out⟩
  · have hd : decide (total s ≤ 65536) = false := by simpa using hsm
    rw [hd] at HSm
    clear hd hsm ha hc hn hgl HNB HGL
    go_enter Tryz.func15, Tryz.ntmps15
    go_wp2_with (go_at_call 18; refine HSm.out.mono ?_; rintro e w1 ⟨rfl, rfl⟩)
    go_ret
    exact ⟨rfl, Below.refl _ _⟩

end Go.Proofs.Qxb6500666aGreatDoor
