/- RealDoesWhatModelDoes, walked. -/
import Derived.Test.Qxb6500665aDoorJoint
namespace Go.Proofs.Qxb6500665aDoor
open Go.RowKit Go.Proofs.Qxb6500665aDoor.Cal

attribute [local go_sem] ext_const Ext.cell Ext.frozen Ext.rng Ext.whole
attribute [local go_sem ↓] exec_ldOp exec_stOp
attribute [local go_sem] run_ldOp run_stOp whole_alloc_lt whole_alloc_at whole_drew setRow_alloc_at setRow_alloc_lt rng_alloc_lt rng_drew rng_drewN

set_option maxRecDepth 100000 in
set_option maxHeartbeats 0 in
theorem real_walk (w : World) (v : Value) (s : List Op) (kb ko kc : Nat) (h : Script w (· < w.heap.size) v s) (hq : QK w kb ko kc) :
    Calls Tryd.prog 3 #[v] w fun e w' => e = .returned (.bool true) ∧ Below w.heap.size w w' := by
  have hsm := small_calls w _ v s h
  by_cases htot : total s ≤ 65536
  case neg =>
    rw [decide_eq_false htot] at hsm
    clear htot
    obtain ⟨a, cap, b, off, rfl, hl, hm, hr, ha, hc⟩ := h
    clear ha hc hq
    go_enter Tryd.func3, Tryd.ntmps3
    have HS := hide hsm
    clear hsm
    go_wp2_with (go_at_call 5; refine (HS.out).mono ?_; rintro e w' ⟨rfl, rfl⟩)
    go_ret
    exact ⟨rfl, Below.refl _ _⟩
  rw [decide_eq_true htot] at hsm
  have hlen : s.length ≤ 65536 := by unfold total at htot; omega
  have HSC := hide h
  have HQ := hide hq
  have HTOT := hide htot
  clear htot hq
  obtain ⟨a0, cap, b, off, rfl, hl, hm, hr, ha, hc⟩ := h
  obtain ⟨n, hn⟩ : ∃ n, n = s.length := ⟨_, rfl⟩
  have Hn : Hid (n = s.length) := hn
  rw [← hn] at hl hr ha hlen hsm HSC ⊢
  have hi := run_indexAt_arr (P := Tryd.prog) (cap := cap) Tryd.underlying22 Tryd.size34 (fun h => (ha h).1)
  have HB : Hid (0 < n → b < w.heap.size) := fun h => (ha h).2
  have HC := hide hc
  have HS := hide hsm
  clear ha hc hn hsm hm hl
  go_enter Tryd.func3, Tryd.ntmps3
  go_upto_region 3 with (go_at_call 5; refine (HS.out).mono ?_; rintro e w' ⟨rfl, rfl⟩)
  go_upto_region 4 with (first | (go_at_call 6; refine (newBench_calls _).mono ?_; rintro e w1 ⟨rfl, hB1, hs1, hb1⟩) | (go_at_call 7; refine (new_m _).mono ?_; rintro e w2 ⟨rfl, hM2, hb2, hs2⟩))
  have HJ := hide (joint_start hB1 hs1 hb1 hM2 hb2)
  have hM4 : w.heap.size + 3 + 4 = w.heap.size + 7 := by omega
  rw [hM4]
  obtain ⟨B, hB⟩ : ∃ B, B = w.heap.size + 2 := ⟨_, rfl⟩
  obtain ⟨M, hM⟩ : ∃ M, M = w.heap.size + 7 := ⟨_, rfl⟩
  obtain ⟨a, haa⟩ : ∃ a, a = w.heap.size + 3 := ⟨_, rfl⟩
  obtain ⟨p, hpp⟩ : ∃ p, p = w.heap.size + 4 := ⟨_, rfl⟩
  obtain ⟨si, hss⟩ : ∃ si, si = w.heap.size + 5 := ⟨_, rfl⟩
  obtain ⟨u, huu⟩ : ∃ u, u = w.heap.size + 6 := ⟨_, rfl⟩
  rw [← hB, ← hM, ← haa, ← hpp, ← hss, ← huu] at HJ
  rw [← hB, ← hM]
  clear hB hM haa hpp hss huu HS hB1 hs1 hb1 hM2 hb2 hs2 hM4
  go_upto_region 5 with fail
  go_loopg [16] n (fun g x16 wr => ∃ q : Nat, q ≤ n ∧ g = n - q ∧ x16 = .int .i64 q ∧ Hid (JI w wr (fun _ => False) w B w.heap.size M a p si u (2 * q) q q))
  case atStart => exact ⟨0, by omega, by omega, rfl, HJ⟩
  clear HJ
  case round =>
    obtain ⟨q, hqn, rfl, rfl, HJ⟩ := hrel
    by_cases hlt : q < n
    · --B1
      have hqs : q < s.length := by rw [← Hn.out]; exact hlt
      have hbb := HB.out (by omega)
      obtain ⟨cs, -, hE, hcell⟩ := HC.out q hqs
      obtain ⟨la, ln, lc, va, vn, vc, hrg, hok, hlist, hvis⟩ := op_at hE hcell
      clear hE hcell
      have hbel := HJ.out.below
      rw [← rng_of_block (hbel.block b hbb)] at hrg
      have hbw : b < wr.heap.size := by have := hbel.size; omega
      generalize s[q] = o at *
      obtain ⟨cs, hcs⟩ : ∃ cs, cs = opCs o (.slice la ln lc) (.slice va vn vc) := ⟨_, rfl⟩
      have HCS := hide hcs
      have hones : ones cs 10 = true := by rw [hcs]; rfl
      have hcsz : cs.size = 10 := by rw [hcs]; rfl
      rw [← hcs] at hrg
      clear hcs
      go_upto_region 7 with fail
      obtain ⟨wa, hwa⟩ : ∃ wa, wa = wr.alloc (.cells cs 34) := ⟨_, rfl⟩
      rw [← hwa]
      have hba : Below wr.heap.size wr wa := by rw [hwa]; exact (Below.refl _ _).alloc (Nat.le_refl _) _
      have hga : wa.heap[wr.heap.size]? = some (.cells cs 34 (0, 0)) := by rw [hwa]; exact heap_alloc_at _ _
      have hsa : wa.heap.size = wr.heap.size + 1 := by rw [hwa]; simp
      have hra : rng wa wr.heap.size 0 10 = some cs := by have := rng_whole hga; rw [hcsz] at this; exact this
      obtain ⟨g, hgg⟩ : ∃ g, g = wr.heap.size := ⟨_, rfl⟩
      have HT1 := hide (JI.real (g := g) HJ.out hba.drew (by omega) (by omega) (by omega) hok hlist hvis (by omega) (by show g < wa.heap.size; omega))
      rw [← HCS.out] at HT1
      rw [← hgg] at hra ⊢
      have hgl : g < wa.heap.size := by omega
      have HR1 : Hid (∀ w1 : World, w1.heap[g]? = wa.drew.heap[g]? → rng w1 g 0 10 = some cs) := fun w1 h1 => by rw [rng_of_block h1]; exact hra
      have HMO : Hid (nK o (2 * q) ≤ 2 * (q + 1) ∧ nV o q ≤ q + 1) := ⟨by unfold nK; split <;> omega, by unfold nV; split <;> omega⟩
      clear hwa hlist hvis hok hgg hga hba hrg hbel HCS hsa hbw hbb hqs
      go_cut [27] (fun x27 W => x27 = .bool false ∧ JI w W (fun _ => False) w B w.heap.size M a p si u (nK o (2 * q)) (q + 1) (nV o q))
      case first =>
        as_aux_lemma =>
        refine wp_region_mixT (0) [] (by kernel_rfl) ?_
        refine mixT_slots [0, 3] (fuel := 6) rfl (by kernel_rfl) (by kernel_rfl) (fun d _ _ _ _ h => by cases d <;> exact h) ?_
        simp only [opersAt, List.getElem?_toArray, List.getElem?_cons_zero, List.getElem?_cons_succ]
        repeat (go_big_quiet_step (fail))
        refine wpQuiet_nil ?_
        refine mixT_two (k := 1) (k' := 4) (by kernel_rfl) rfl rfl ?_ ?_
        · go_wp2
          first | refine ⟨Or.inl (by kernel_rfl), ?_⟩ | skip
          refine mixT_two (k := 2) (k' := 4) (by kernel_rfl) rfl rfl ?_ ?_
          · go_wp2_with (go_at_call 9; refine HT1.out.mono ?_; rintro e w1 ⟨x, rfl, hg1, hS⟩)
            first | refine ⟨Or.inl (by kernel_rfl), ?_⟩ | skip
            have hr1 := HR1.out w1 hg1
            refine mixT_one (k := 4) (by kernel_rfl) rfl ?_
            go_wp2
            first | refine ⟨Or.inl (by kernel_rfl), ?_⟩ | skip
            refine mixT_one (k := 5) (by kernel_rfl) rfl ?_
            go_wp2_with (go_at_call 10; refine hS.mono ?_; rintro e w2 ⟨x2, rfl, hD⟩)
            first | refine ⟨Or.inl (by kernel_rfl), ?_⟩ | skip
            refine mixT_one (k := 6) (by kernel_rfl) rfl ?_
            go_wp2_with (go_at_call 8; refine hD.2.mono ?_; rintro e w3 ⟨rfl, hJ⟩)
            first | refine ⟨Or.inl (by kernel_rfl), ?_⟩ | skip
            refine mixT_one (k := 7) (by kernel_rfl) rfl ?_
            go_wp2
            first | refine ⟨Or.inl (by kernel_rfl), ?_⟩ | skip
            refine mixT_nil (by kernel_rfl) ?_
            go_wp2
            go_meet
            case rel => exact ⟨rfl, hJ⟩
          · go_wp2
            first | refine ⟨Or.inl (by kernel_rfl), ?_⟩ | skip
            refine mixT_one (k := 2) (by kernel_rfl) rfl ?_
            go_wp2_with (go_at_call 9; refine HT1.out.mono ?_; rintro e w1 ⟨x, rfl, hg1, hS⟩)
            first | refine ⟨Or.inl (by kernel_rfl), ?_⟩ | skip
            refine mixT_one (k := 5) (by kernel_rfl) rfl ?_
            go_wp2_with (go_at_call 10; refine hS.mono ?_; rintro e w2 ⟨x2, rfl, hD⟩)
            first | refine ⟨Or.inl (by kernel_rfl), ?_⟩ | skip
            refine mixT_one (k := 6) (by kernel_rfl) rfl ?_
            go_wp2_with (go_at_call 8; refine hD.2.mono ?_; rintro e w3 ⟨rfl, hJ⟩)
            first | refine ⟨Or.inl (by kernel_rfl), ?_⟩ | skip
            refine mixT_one (k := 7) (by kernel_rfl) rfl ?_
            go_wp2
            first | refine ⟨Or.inl (by kernel_rfl), ?_⟩ | skip
            refine mixT_nil (by kernel_rfl) ?_
            go_wp2
            go_meet
            case rel => exact ⟨rfl, hJ⟩
        · go_wp2
          first | refine ⟨Or.inl (by kernel_rfl), ?_⟩ | skip
          refine mixT_one (k := 1) (by kernel_rfl) rfl ?_
          go_wp2
          first | refine ⟨Or.inl (by kernel_rfl), ?_⟩ | skip
          refine mixT_one (k := 2) (by kernel_rfl) rfl ?_
          go_wp2_with (go_at_call 9; refine HT1.out.mono ?_; rintro e w1 ⟨x, rfl, hg1, hS⟩)
          first | refine ⟨Or.inl (by kernel_rfl), ?_⟩ | skip
          refine mixT_one (k := 5) (by kernel_rfl) rfl ?_
          go_wp2_with (go_at_call 10; refine hS.mono ?_; rintro e w2 ⟨x2, rfl, hD⟩)
          first | refine ⟨Or.inl (by kernel_rfl), ?_⟩ | skip
          refine mixT_one (k := 6) (by kernel_rfl) rfl ?_
          go_wp2_with (go_at_call 8; refine hD.2.mono ?_; rintro e w3 ⟨rfl, hJ⟩)
          first | refine ⟨Or.inl (by kernel_rfl), ?_⟩ | skip
          refine mixT_one (k := 7) (by kernel_rfl) rfl ?_
          go_wp2
          first | refine ⟨Or.inl (by kernel_rfl), ?_⟩ | skip
          refine mixT_nil (by kernel_rfl) ?_
          go_wp2
          go_meet
          case rel => exact ⟨rfl, hJ⟩
      case rest =>
        as_aux_lemma =>
        obtain ⟨rfl, hJ⟩ := hcut
        have HJ2 := hide (hJ.mono HMO.out.1 HMO.out.2)
        clear hJ HT1 HR1 HMO HJ
        go_wp2
        go_roundg (n - (q + 1))
        case measure => omega
        case rel => exact ⟨q + 1, by omega, rfl, by go_num, HJ2⟩
      --E1
    · have HSC2 : Hid (Script wr (· < wr.heap.size) (.slice a0 n cap) s) := HSC.out.mono (fun b hb => HJ.out.below.block b hb) (fun b hb => Nat.lt_of_lt_of_le hb HJ.out.below.size)
      have HQU := hide (questions_calls wr _ s kb ko kc HSC2.out (HQ.out.below HJ.out.below) HTOT.out)
      clear HSC2
      go_upto_region 11 with (go_at_call 11; refine HQU.out.mono ?_; rintro e wq ⟨qv, rfl, ⟨qs, hown, hqok, hqlen⟩, hbq⟩; obtain ⟨qa, qcap, hqv⟩ := hown.form; subst hqv)
      obtain ⟨qa', qcap', qb, qoff, hqv, ql, qm, qr, qha, qhc⟩ := (hown.rows qqCs_size (by decide) (by omega)).lt
      injection hqv with e1 _ e3
      subst e1 e3
      have HJ2 := hide (HJ.out.guard hbq)
      obtain ⟨m, hm⟩ : ∃ m, m = qs.length := ⟨_, rfl⟩
      have Hm : Hid (m = qs.length) := hm
      rw [← hm] at ql qr qha hqlen ⊢
      have hqi := run_indexAt_arr (P := Tryd.prog) (n := m) (cap := qcap) Tryd.underlying22 Tryd.size34 (fun h => (qha h).1)
      have HQB : Hid (0 < m → wr.heap.size ≤ qb ∧ qb < wq.heap.size) := fun h => (qha h).2
      have HQC := hide qhc
      have HQO := hide hqok
      obtain ⟨g0, hg0⟩ : ∃ g0, g0 = wr.heap.size := ⟨_, rfl⟩
      rw [← hg0] at HJ2 HQB
      obtain ⟨KK, hKK⟩ : ∃ KK, KK = 2 * q := ⟨_, rfl⟩
      rw [← hKK] at HJ2
      have hK8 : KK ≤ 800000 := by omega
      have hq8 : q ≤ 65536 := by omega
      clear hm qha qhc hqok hown hbq HJ HQU hg0 qm hKK
      go_loopg [32] m (fun g x32 W => ∃ j : Nat, j ≤ m ∧ g = m - j ∧ x32 = .int .i64 j ∧ Hid (JI w W (fun b => g0 ≤ b ∧ b < wq.heap.size) wq B w.heap.size M a p si u KK (q + j) q))
      case atStart => exact ⟨0, by omega, by omega, rfl, HJ2⟩
      clear HJ2
      case round =>
        obtain ⟨j, hjm, rfl, rfl, HJ⟩ := hrel
        by_cases hlt2 : j < m
        · have hjs : j < qs.length := by rw [← Hm.out]; exact hlt2
          obtain ⟨k1, -, -, k4⟩ := HJ.out.keep qb (HQB.out (by omega))
          have hrg := HQC.out j hjs
          rw [← rng_of_block k4] at hrg
          have hqo := HQO.out qs[j] (List.getElem_mem hjs)
          generalize qs[j] = qq at *
          obtain ⟨cs, hcs⟩ : ∃ cs, cs = qqCs qq := ⟨_, rfl⟩
          have HCS : Hid (cs = opCs qq.op (.slice none 0 0) (.slice none 0 0)) := hcs
          have hones : ones cs 10 = true := by rw [hcs]; rfl
          have hcsz : cs.size = 10 := by rw [hcs]; rfl
          rw [← hcs] at hrg
          clear hcs k4
          go_upto_region 13 with fail
          obtain ⟨wa, hwa⟩ : ∃ wa, wa = wr.alloc (.cells cs 34) := ⟨_, rfl⟩
          rw [← hwa]
          have hba : Below wr.heap.size wr wa := by rw [hwa]; exact (Below.refl _ _).alloc (Nat.le_refl _) _
          have hga : wa.heap[wr.heap.size]? = some (.cells cs 34 (0, 0)) := by rw [hwa]; exact heap_alloc_at _ _
          have hsa : wa.heap.size = wr.heap.size + 1 := by rw [hwa]; simp
          have hra : rng wa wr.heap.size 0 10 = some cs := by have := rng_whole hga; rw [hcsz] at this; exact this
          obtain ⟨g, hgg⟩ : ∃ g, g = wr.heap.size := ⟨_, rfl⟩
          have HT1 := hide (JI.real (g := g) (o := qq.op) HJ.out hba.drew (by omega) (by omega) (by omega) hqo.op (u32s_nil w _) (visits_nil w _) (by omega) (by show g < wa.heap.size; omega))
          rw [← HCS.out] at HT1
          rw [← hgg] at hra ⊢
          have hgl : g < wa.heap.size := by omega
          have HR1 : Hid (∀ w1 : World, w1.heap[g]? = wa.drew.heap[g]? → rng w1 g 0 10 = some cs) := fun w1 h1 => by rw [rng_of_block h1]; exact hra
          have HMO : Hid (nK qq.op KK ≤ KK ∧ nV qq.op q ≤ q) := ⟨by unfold nK; rw [if_neg (by have := hqo.lo; show ¬ qq.k ≤ 5; omega)]; exact Nat.le_refl _, by unfold nV; rw [if_neg (by have := hqo.lo; show ¬ qq.k ≤ 5; omega)]; exact Nat.le_refl _⟩
          clear hwa hqo hgg hga hba hrg HCS hsa k1 hjs
          go_cut [43] (fun x43 W => x43 = .bool false ∧ JI w W (fun b => g0 ≤ b ∧ b < wq.heap.size) wq B w.heap.size M a p si u (nK qq.op KK) (q + j + 1) (nV qq.op q))
          case first =>
            as_aux_lemma =>
            refine wp_region_mixT (0) [] (by kernel_rfl) ?_
            refine mixT_slots [0, 3] (fuel := 6) rfl (by kernel_rfl) (by kernel_rfl) (fun d _ _ _ _ h => by cases d <;> exact h) ?_
            simp only [opersAt, List.getElem?_toArray, List.getElem?_cons_zero, List.getElem?_cons_succ]
            repeat (go_big_quiet_step (fail))
            refine wpQuiet_nil ?_
            refine mixT_two (k := 1) (k' := 4) (by kernel_rfl) rfl rfl ?_ ?_
            · go_wp2
              first | refine ⟨Or.inl (by kernel_rfl), ?_⟩ | skip
              refine mixT_two (k := 2) (k' := 4) (by kernel_rfl) rfl rfl ?_ ?_
              · go_wp2_with (go_at_call 9; refine HT1.out.mono ?_; rintro e w1 ⟨x, rfl, hg1, hS⟩)
                first | refine ⟨Or.inl (by kernel_rfl), ?_⟩ | skip
                have hr1 := HR1.out w1 hg1
                refine mixT_one (k := 4) (by kernel_rfl) rfl ?_
                go_wp2
                first | refine ⟨Or.inl (by kernel_rfl), ?_⟩ | skip
                refine mixT_one (k := 5) (by kernel_rfl) rfl ?_
                go_wp2_with (go_at_call 10; refine hS.mono ?_; rintro e w2 ⟨x2, rfl, hD⟩)
                first | refine ⟨Or.inl (by kernel_rfl), ?_⟩ | skip
                refine mixT_one (k := 6) (by kernel_rfl) rfl ?_
                go_wp2_with (go_at_call 8; refine hD.2.mono ?_; rintro e w3 ⟨rfl, hJ⟩)
                first | refine ⟨Or.inl (by kernel_rfl), ?_⟩ | skip
                refine mixT_one (k := 7) (by kernel_rfl) rfl ?_
                go_wp2
                first | refine ⟨Or.inl (by kernel_rfl), ?_⟩ | skip
                refine mixT_nil (by kernel_rfl) ?_
                go_wp2
                go_meet
                case rel => exact ⟨rfl, hJ⟩
              · go_wp2
                first | refine ⟨Or.inl (by kernel_rfl), ?_⟩ | skip
                refine mixT_one (k := 2) (by kernel_rfl) rfl ?_
                go_wp2_with (go_at_call 9; refine HT1.out.mono ?_; rintro e w1 ⟨x, rfl, hg1, hS⟩)
                first | refine ⟨Or.inl (by kernel_rfl), ?_⟩ | skip
                refine mixT_one (k := 5) (by kernel_rfl) rfl ?_
                go_wp2_with (go_at_call 10; refine hS.mono ?_; rintro e w2 ⟨x2, rfl, hD⟩)
                first | refine ⟨Or.inl (by kernel_rfl), ?_⟩ | skip
                refine mixT_one (k := 6) (by kernel_rfl) rfl ?_
                go_wp2_with (go_at_call 8; refine hD.2.mono ?_; rintro e w3 ⟨rfl, hJ⟩)
                first | refine ⟨Or.inl (by kernel_rfl), ?_⟩ | skip
                refine mixT_one (k := 7) (by kernel_rfl) rfl ?_
                go_wp2
                first | refine ⟨Or.inl (by kernel_rfl), ?_⟩ | skip
                refine mixT_nil (by kernel_rfl) ?_
                go_wp2
                go_meet
                case rel => exact ⟨rfl, hJ⟩
            · go_wp2
              first | refine ⟨Or.inl (by kernel_rfl), ?_⟩ | skip
              refine mixT_one (k := 1) (by kernel_rfl) rfl ?_
              go_wp2
              first | refine ⟨Or.inl (by kernel_rfl), ?_⟩ | skip
              refine mixT_one (k := 2) (by kernel_rfl) rfl ?_
              go_wp2_with (go_at_call 9; refine HT1.out.mono ?_; rintro e w1 ⟨x, rfl, hg1, hS⟩)
              first | refine ⟨Or.inl (by kernel_rfl), ?_⟩ | skip
              refine mixT_one (k := 5) (by kernel_rfl) rfl ?_
              go_wp2_with (go_at_call 10; refine hS.mono ?_; rintro e w2 ⟨x2, rfl, hD⟩)
              first | refine ⟨Or.inl (by kernel_rfl), ?_⟩ | skip
              refine mixT_one (k := 6) (by kernel_rfl) rfl ?_
              go_wp2_with (go_at_call 8; refine hD.2.mono ?_; rintro e w3 ⟨rfl, hJ⟩)
              first | refine ⟨Or.inl (by kernel_rfl), ?_⟩ | skip
              refine mixT_one (k := 7) (by kernel_rfl) rfl ?_
              go_wp2
              first | refine ⟨Or.inl (by kernel_rfl), ?_⟩ | skip
              refine mixT_nil (by kernel_rfl) ?_
              go_wp2
              go_meet
              case rel => exact ⟨rfl, hJ⟩
          case rest =>
            as_aux_lemma =>
            obtain ⟨rfl, hJ⟩ := hcut
            have HJ2 := hide (hJ.mono HMO.out.1 HMO.out.2)
            clear hJ HT1 HR1 HMO HJ
            go_wp2
            go_roundg (m - (j + 1))
            case measure => omega
            case rel => exact ⟨j + 1, by omega, rfl, by go_num, HJ2⟩
        · go_wp2
          go_ret
          exact ⟨rfl, HJ.out.below⟩

end Go.Proofs.Qxb6500665aDoor
