/- CalendarIsFloorDivision, walked. -/
import Derived.Test.Qxb6500665aSmall
import Derived.Test.Qxb6500665aCalWalks
import Derived.BigQuiet
import Derived.Deep.QuietTactic
namespace Go.Proofs.Qxb6500665a.calFloor
open Go.RowKit Go.Proofs.Qxb6500665a Go.Proofs.Qxb6500665a.Cal

theorem cell4 (w : World) (a b c d : Int) (k : Nat) (hk : k < 4) :
    (w.alloc (.cells #[.int .i64 a, .int .i64 b, .int .i64 c, .int .i64 d] 2)).cell? ⟨w.heap.size, k, none⟩ = some (.int .i64 ([a, b, c, d].getD k 0)) := by
  match k, hk with
  | 0, _ => simp
  | 1, _ => simp
  | 2, _ => simp
  | 3, _ => simp

set_option maxRecDepth 100000 in
set_option maxHeartbeats 1000000 in
theorem walk (w : World) (v : Value) (s : List Op) (h : Script w (· < w.heap.size) v s) :
    Calls Try.prog 7 #[v] w fun e w' => e = .returned (.bool true) ∧ Below w.heap.size w w' := by
  by_cases htot : total s ≤ 65536
  case neg =>
    have hsm := small_calls w _ v s h
    rw [decide_eq_false htot] at hsm
    clear htot
    obtain ⟨a, cap, b, off, rfl, hl, hm, hr, ha, hc⟩ := h
    clear ha hc
    go_enter Try.func7, Try.ntmps7
    have HS := hide hsm
    clear hsm
    go_wp2_with (go_at_call 9; refine (HS.out).mono ?_; rintro e w' ⟨rfl, rfl⟩)
    go_ret
    exact ⟨rfl, Below.refl _ _⟩
  have hsm := small_calls w _ v s h
  rw [decide_eq_true htot] at hsm
  have hlen : s.length ≤ 65536 := by unfold total at htot; omega
  clear htot
  obtain ⟨a, cap, b, off, rfl, hl, hm, hr, ha, hc⟩ := h
  obtain ⟨n, hn⟩ : ∃ n, n = s.length := ⟨_, rfl⟩
  have Hn : Hid (n = s.length) := hn
  rw [← hn] at hl hr ha hlen hsm ⊢
  have hi := run_indexAt_arr (P := Try.prog) (cap := cap) Try.underlying22 Try.size37 (fun h => (ha h).1)
  have HB : Hid (0 < n → b < w.heap.size) := fun h => (ha h).2
  have HC := hide hc
  have HS := hide hsm
  clear ha hc hn hsm hm hl
  go_enter Try.func7, Try.ntmps7
  go_wp2_with (go_at_call 9; refine (HS.out).mono ?_; rintro e w' ⟨rfl, rfl⟩)
  go_loopw [21] (fun i wr => ∃ k : Nat, k ≤ n ∧ i = .int .i64 k ∧ Below w.heap.size w wr) (fun i _ => n - (intOf i).toNat)
  case atStart => exact ⟨0, by omega, rfl, Below.refl _ _⟩
  case round =>
    obtain ⟨k, hk, rfl, hbel⟩ := hrel
    by_cases hlt : k < n
    · have hks : k < s.length := by rw [← Hn.out]; exact hlt
      have hbb := HB.out (by omega)
      obtain ⟨cs, -, ⟨lv, vv, rfl, -, -, -, b3, b4, -, -, -, ⟨la, lcap, -, -, rfl, -, -, -, -, -⟩, ⟨va, vcap, -, -, rfl, -, -, -, -, -⟩⟩, hcell⟩ := HC.out k hks
      have cj : ∀ j (hj : j < 10), wr.cell? ⟨b, off + k * 10 + j, none⟩ = some (([.int .u8 s[k].kind, .int .u32 s[k].id, .int .u32 s[k].ref, .int .i64 s[k].minute, .int .i64 s[k].delta, .int .i64 s[k].l0, .int .i64 s[k].l1, .int .i64 s[k].l2, .slice la s[k].list.length lcap, .slice va s[k].visits.length vcap] : List Value)[j]'(by simpa using hj)) :=
        fun j hj => (hbel.cell (p := ⟨b, off + k * 10 + j, none⟩) hbb).trans (hcell j (by simpa using hj))
      generalize s[k].minute = mi at *
      generalize s[k].delta = de at *
      generalize s[k].kind = q0 at *
      generalize s[k].id = q1 at *
      generalize s[k].ref = q2 at *
      generalize s[k].l0 = q5 at *
      generalize s[k].l1 = q6 at *
      generalize s[k].l2 = q7 at *
      generalize s[k].list.length = q8 at *
      generalize s[k].visits.length = q9 at *
      have c0 := cj 0 (by decide)
      have c1 := cj 1 (by decide)
      have c2 := cj 2 (by decide)
      have c3 := cj 3 (by decide)
      have c4 := cj 4 (by decide)
      have c5 := cj 5 (by decide)
      have c6 := cj 6 (by decide)
      have c7 := cj 7 (by decide)
      have c8 := cj 8 (by decide)
      have c9 := cj 9 (by decide)
      clear cj hcell
      simp only [List.getElem_cons_succ, List.getElem_cons_zero, Nat.add_zero] at c0 c1 c2 c3 c4 c5 c6 c7 c8 c9
      go_wp2_with fail
      have HC4 : Hid (∀ j : Nat, j < 4 → _) := fun j hj => cell4 (wr.alloc (.cells #[.int .u8 q0, .int .u32 q1, .int .u32 q2, .int .i64 mi, .int .i64 de, .int .i64 q5, .int .i64 q6, .int .i64 q7, .slice la q8 lcap, .slice va q9 vcap] 37)) mi de (wrap64 (mi - 1)) (wrap64 (mi + 1)) j hj
      have d3 : ((wr.alloc (.cells #[.int .u8 q0, .int .u32 q1, .int .u32 q2, .int .i64 mi, .int .i64 de, .int .i64 q5, .int .i64 q6, .int .i64 q7, .slice la q8 lcap, .slice va q9 vcap] 37)).alloc (.cells #[.int .i64 mi, .int .i64 de, .int .i64 (wrap64 (mi - 1)), .int .i64 (wrap64 (mi + 1))] 2)).cell? ⟨wr.heap.size, 3, none⟩ = some (.int .i64 mi) := by simp
      have d4 : ((wr.alloc (.cells #[.int .u8 q0, .int .u32 q1, .int .u32 q2, .int .i64 mi, .int .i64 de, .int .i64 q5, .int .i64 q6, .int .i64 q7, .slice la q8 lcap, .slice va q9 vcap] 37)).alloc (.cells #[.int .i64 mi, .int .i64 de, .int .i64 (wrap64 (mi - 1)), .int .i64 (wrap64 (mi + 1))] 2)).cell? ⟨wr.heap.size, 4, none⟩ = some (.int .i64 de) := by simp
      have hbel2 : Below w.heap.size w ((wr.alloc (.cells #[.int .u8 q0, .int .u32 q1, .int .u32 q2, .int .i64 mi, .int .i64 de, .int .i64 q5, .int .i64 q6, .int .i64 q7, .slice la q8 lcap, .slice va q9 vcap] 37)).alloc (.cells #[.int .i64 mi, .int .i64 de, .int .i64 (wrap64 (mi - 1)), .int .i64 (wrap64 (mi + 1))] 2)) :=
        (hbel.alloc hbel.size _).alloc (by have := hbel.size; simp; omega) _
      simp only [World.size_alloc] at HC4
      generalize ((wr.alloc (.cells #[.int .u8 q0, .int .u32 q1, .int .u32 q2, .int .i64 mi, .int .i64 de, .int .i64 q5, .int .i64 q6, .int .i64 q7, .slice la q8 lcap, .slice va q9 vcap] 37)).alloc (.cells #[.int .i64 mi, .int .i64 de, .int .i64 (wrap64 (mi - 1)), .int .i64 (wrap64 (mi + 1))] 2)) = W2 at *
      clear c0 c1 c2 c3 c4 c5 c6 c7 c8 c9
      go_loop [37] (fun i => ∃ k2 : Nat, k2 ≤ 4 ∧ i = .int .i64 k2) (fun i => 4 - (intOf i).toNat)
      case atStart => exact ⟨0, by omega, rfl⟩
      case round =>
        obtain ⟨k2, hk2, rfl⟩ := hrel
        by_cases hlt2 : k2 < 4
        · have hc2 := HC4.out k2 hlt2
          generalize [mi, de, wrap64 (mi - 1), wrap64 (mi + 1)].getD k2 0 = x at hc2
          clear b3 b4 d3 d4
          by_cases hx : x < 0 ∨ 157785119 < x
          · have hx' : Hid (x < 0 ∨ 157785119 < x) := hx
            rcases hx with hx | hx
            · go_wp2_with (first | (go_at_call 24; refine (dayOf_bad _ _ hx'.out).mono ?_; rintro e w' ⟨rfl, rfl⟩) | (go_at_call 18; refine (codeOf_err _ _ (by decide)).mono ?_; rintro e w' ⟨rfl, rfl⟩) | (go_at_call 25; refine (checkMinute_bad _ _ hx'.out).mono ?_; rintro e w' ⟨rfl, rfl⟩))
              go_round
              case rel => exact ⟨k2 + 1, by omega, by go_num⟩
              case measure => simp [intOf]; omega
            · have hx0 : ¬ x < 0 := by omega
              go_wp2_with (first | (go_at_call 24; refine (dayOf_bad _ _ hx'.out).mono ?_; rintro e w' ⟨rfl, rfl⟩) | (go_at_call 18; refine (codeOf_err _ _ (by decide)).mono ?_; rintro e w' ⟨rfl, rfl⟩) | (go_at_call 25; refine (checkMinute_bad _ _ hx'.out).mono ?_; rintro e w' ⟨rfl, rfl⟩))
              go_round
              case rel => exact ⟨k2 + 1, by omega, by go_num⟩
              case measure => simp [intOf]; omega
          · have hx0 : 0 ≤ x := by omega
            have hx1 : x ≤ 157785119 := by omega
            clear hx
            go_wp2_with (first | (go_at_call 24; refine (dayOf_ok _ _ hx0 hx1).mono ?_; rintro e w' ⟨rfl, rfl⟩) | (go_at_call 26; refine (firstMinute_ok _ _ (by omega) (by omega)).mono ?_; rintro e w' ⟨rfl, rfl⟩) | (go_at_call 25; refine (checkMinute_ok _ _ hx0 hx1).mono ?_; rintro e w' ⟨rfl, rfl⟩))
            go_round
            case rel => exact ⟨k2 + 1, by omega, by go_num⟩
            case measure => simp [intOf]; omega
        · clear HC4
          go_wp2_with fail
          go_quiet (fail)
          have hbel3 : Below w.heap.size w (W2.drewN nq) := hbel2.trans ⟨rfl, rfl, rfl, Nat.le_refl _, fun _ _ => rfl⟩
          generalize W2.drewN nq = W3 at *
          clear d3 d4 hbel2
          by_cases hm : mi < 0 ∨ 109572 < mi
          · have hm' : Hid (mi < 0 ∨ 109572 < mi) := hm
            rcases hm with hm | hm
            · go_wp2_with (first | (go_at_call 27; refine (addDays_bad _ _ _ hm'.out).mono ?_; rintro e w' ⟨rfl, rfl⟩) | (go_at_call 18; refine (codeOf_err _ _ (by decide)).mono ?_; rintro e w' ⟨rfl, rfl⟩) | (go_at_call 26; refine (firstMinute_bad _ _ hm'.out).mono ?_; rintro e w' ⟨rfl, rfl⟩))
              go_roundw
              case rel => exact ⟨k + 1, by omega, by go_num, hbel3⟩
              case measure => simp [intOf]; omega
            · have hm0 : ¬ mi < 0 := by omega
              go_wp2_with (first | (go_at_call 27; refine (addDays_bad _ _ _ hm'.out).mono ?_; rintro e w' ⟨rfl, rfl⟩) | (go_at_call 18; refine (codeOf_err _ _ (by decide)).mono ?_; rintro e w' ⟨rfl, rfl⟩) | (go_at_call 26; refine (firstMinute_bad _ _ hm'.out).mono ?_; rintro e w' ⟨rfl, rfl⟩))
              go_roundw
              case rel => exact ⟨k + 1, by omega, by go_num, hbel3⟩
              case measure => simp [intOf]; omega
          · have hm0 : 0 ≤ mi := by omega
            have hm1 : mi ≤ 109572 := by omega
            clear hm
            by_cases hs : 109572 < mi + de ∨ mi + de < 0
            · have hs' : Hid (109572 < mi + de ∨ mi + de < 0) := hs
              by_cases h1 : de < -109572
              · go_wp2_with (first | (go_at_call 27; refine (addDays_over _ _ _ hm0 hm1 hs'.out).mono ?_; rintro e w' ⟨rfl, rfl⟩) | (go_at_call 18; refine (codeOf_err _ _ (by decide)).mono ?_; rintro e w' ⟨rfl, rfl⟩))
                go_roundw
                case rel => exact ⟨k + 1, by omega, by go_num, hbel3⟩
                case measure => simp [intOf]; omega
              · by_cases h2 : 109572 < de
                · go_wp2_with (first | (go_at_call 27; refine (addDays_over _ _ _ hm0 hm1 hs'.out).mono ?_; rintro e w' ⟨rfl, rfl⟩) | (go_at_call 18; refine (codeOf_err _ _ (by decide)).mono ?_; rintro e w' ⟨rfl, rfl⟩))
                  go_roundw
                  case rel => exact ⟨k + 1, by omega, by go_num, hbel3⟩
                  case measure => simp [intOf]; omega
                · by_cases h3 : mi + de < 0
                  · go_wp2_with (first | (go_at_call 27; refine (addDays_over _ _ _ hm0 hm1 hs'.out).mono ?_; rintro e w' ⟨rfl, rfl⟩) | (go_at_call 18; refine (codeOf_err _ _ (by decide)).mono ?_; rintro e w' ⟨rfl, rfl⟩))
                    go_roundw
                    case rel => exact ⟨k + 1, by omega, by go_num, hbel3⟩
                    case measure => simp [intOf]; omega
                  · have h4 : 109572 < mi + de := by omega
                    clear hs
                    go_wp2_with (first | (go_at_call 27; refine (addDays_over _ _ _ hm0 hm1 hs'.out).mono ?_; rintro e w' ⟨rfl, rfl⟩) | (go_at_call 18; refine (codeOf_err _ _ (by decide)).mono ?_; rintro e w' ⟨rfl, rfl⟩))
                    go_roundw
                    case rel => exact ⟨k + 1, by omega, by go_num, hbel3⟩
                    case measure => simp [intOf]; omega
            · have g1 : 0 ≤ mi + de := by omega
              have g2 : mi + de ≤ 109572 := by omega
              have g3 : ¬ de < -109572 := by omega
              have g4 : ¬ 109572 < de := by omega
              clear hs
              go_wp2_with (first | (go_at_call 27; refine (addDays_ok _ _ _ hm0 hm1 g1 g2).mono ?_; rintro e w' ⟨rfl, rfl⟩))
              go_roundw
              case rel => exact ⟨k + 1, by omega, by go_num, hbel3⟩
              case measure => simp [intOf]; omega
    · go_wp2_with fail
      go_ret
      exact ⟨rfl, hbel⟩

end Go.Proofs.Qxb6500665a.calFloor
