import Derived.Test.Qxb6500665aRows
import Derived.Test.Qxb6500665aCalWalks
import Derived.OpenShut
import Derived.ShutString
namespace Go.Proofs.Qxb6500665a.calendarEdges
open Go.ChangeShapes Go.WideShapes Go.ChangeAt Go.RowKit Go.Proofs.Qxb6500665a.Cal
open Go.ChangeMaps (open_string shut_string)

theorem own : ownKnob Try.prog.godebug = none := by kernel_rfl

theorem four {a b c d : Int} {P : Int → Prop} (k : Nat) (hk : k < 4) (ha : P a) (hb : P b) (hc : P c) (hd : P d) : P ([a, b, c, d].getD k 0) := by
  match k, hk with
  | 0, _ => exact ha
  | 1, _ => exact hb
  | 2, _ => exact hc
  | 3, _ => exact hd

theorem cell4 (w : World) (a b c d : Int) (k : Nat) (hk : k < 4) :
    (w.alloc (.cells #[.int .i64 a, .int .i64 b, .int .i64 c, .int .i64 d] 2)).cell? ⟨w.heap.size, k, none⟩ = some (.int .i64 ([a, b, c, d].getD k 0)) := by
  match k, hk with
  | 0, _ => simp
  | 1, _ => simp
  | 2, _ => simp
  | 3, _ => simp

set_option maxHeartbeats 1000000 in
set_option maxRecDepth 100000 in
theorem walk (w : World) :
    Calls Try.prog 8 #[] w fun e w' => e = .returned (.bool true) ∧ Grown w w' := by
  go_enter Try.func8, Try.ntmps8
  go_wp2_with (first | (go_at_call 24; refine (dayOf_ok _ _ (by omega) (by omega)).mono ?_; rintro e w' ⟨rfl, rfl⟩))
  have hG1 : Grown w (w.alloc (.cells #[.int .i64 (-1), .int .i64 157785120, .int .i64 (-9223372036854775808), .int .i64 9223372036854775807] 2)) := (Grown.refl _).alloc _ _
  have HC1 : Hid (∀ k : Nat, k < 4 → (w.alloc (.cells #[.int .i64 (-1), .int .i64 157785120, .int .i64 (-9223372036854775808), .int .i64 9223372036854775807] 2)).cell? ⟨w.heap.size, k, none⟩ = some (.int .i64 ([-1, 157785120, -9223372036854775808, 9223372036854775807].getD k 0))) := fun k hk => cell4 w _ _ _ _ k hk
  have HP1 : Hid (∀ k : Nat, k < 4 → ([-1, 157785120, -9223372036854775808, 9223372036854775807].getD k 0 < (0 : Int) ∨ (157785119 : Int) < [-1, 157785120, -9223372036854775808, 9223372036854775807].getD k 0)) := fun k hk => four (P := fun x => x < 0 ∨ 157785119 < x) k hk (by decide) (by decide) (by decide) (by decide)
  generalize (w.alloc (.cells #[.int .i64 (-1), .int .i64 157785120, .int .i64 (-9223372036854775808), .int .i64 9223372036854775807] 2)) = W1 at *
  go_loop [49] (fun i => ∃ k : Nat, k ≤ 4 ∧ i = .int .i64 k) (fun i => 4 - (intOf i).toNat)
  case atStart => exact ⟨0, by omega, rfl⟩
  case round =>
    obtain ⟨k, hk, rfl⟩ := hrel
    by_cases hlt : k < 4
    · have hc := HC1.out k hlt
      have hp := HP1.out k hlt
      generalize [-1, 157785120, -9223372036854775808, 9223372036854775807].getD k 0 = x at hc hp
      go_wp2_with (first | (go_at_call 24; refine (dayOf_bad _ _ hp).mono ?_; rintro e w' ⟨rfl, rfl⟩) | (go_at_call 18; refine (codeOf_err _ _ (by decide)).mono ?_; rintro e w' ⟨rfl, rfl⟩))
      go_round
      case rel => exact ⟨k + 1, by omega, by go_num⟩
      case measure => simp [intOf]; omega
    · go_wp2_with fail
      have hG2 : Grown w (W1.alloc (.cells #[.int .i64 1, .int .i64 9223372036854775807, .int .i64 (-9223372036854775808), .int .i64 (-109573)] 2)) := hG1.alloc _ _
      have HC2 : Hid (∀ k : Nat, k < 4 → (W1.alloc (.cells #[.int .i64 1, .int .i64 9223372036854775807, .int .i64 (-9223372036854775808), .int .i64 (-109573)] 2)).cell? ⟨W1.heap.size, k, none⟩ = some (.int .i64 ([1, 9223372036854775807, -9223372036854775808, -109573].getD k 0))) := fun k hk => cell4 W1 _ _ _ _ k hk
      have HP2 : Hid (∀ k : Nat, k < 4 → ((109572 : Int) < 109572 + [1, 9223372036854775807, -9223372036854775808, -109573].getD k 0 ∨ 109572 + [1, 9223372036854775807, -9223372036854775808, -109573].getD k 0 < (0 : Int))) := fun k hk => four (P := fun x => 109572 < 109572 + x ∨ 109572 + x < 0) k hk (by decide) (by decide) (by decide) (by decide)
      generalize (W1.alloc (.cells #[.int .i64 1, .int .i64 9223372036854775807, .int .i64 (-9223372036854775808), .int .i64 (-109573)] 2)) = W2 at *
      go_loop [66] (fun i => ∃ k : Nat, k ≤ 4 ∧ i = .int .i64 k) (fun i => 4 - (intOf i).toNat)
      case atStart => exact ⟨0, by omega, rfl⟩
      case round =>
        obtain ⟨k2, hk2, rfl⟩ := hrel
        by_cases hlt2 : k2 < 4
        · have hc2 := HC2.out k2 hlt2
          have hp2 := HP2.out k2 hlt2
          generalize [1, 9223372036854775807, -9223372036854775808, -109573].getD k2 0 = x at hc2 hp2
          go_wp2_with (first | (go_at_call 27; refine (addDays_over _ _ _ (by decide) (by decide) hp2).mono ?_; rintro e w' ⟨rfl, rfl⟩) | (go_at_call 18; refine (codeOf_err _ _ (by decide)).mono ?_; rintro e w' ⟨rfl, rfl⟩))
          go_round
          case rel => exact ⟨k2 + 1, by omega, by go_num⟩
          case measure => simp [intOf]; omega
        · go_wp2_with fail
          have hG3 : Grown w (W2.alloc (.cells #[.int .i64 (-1), .int .i64 9223372036854775807, .int .i64 (-9223372036854775808), .int .i64 109573] 2)) := hG2.alloc _ _
          have HC3 : Hid (∀ k : Nat, k < 4 → (W2.alloc (.cells #[.int .i64 (-1), .int .i64 9223372036854775807, .int .i64 (-9223372036854775808), .int .i64 109573] 2)).cell? ⟨W2.heap.size, k, none⟩ = some (.int .i64 ([-1, 9223372036854775807, -9223372036854775808, 109573].getD k 0))) := fun k hk => cell4 W2 _ _ _ _ k hk
          have HP3 : Hid (∀ k : Nat, k < 4 → ((109572 : Int) < 0 + [-1, 9223372036854775807, -9223372036854775808, 109573].getD k 0 ∨ 0 + [-1, 9223372036854775807, -9223372036854775808, 109573].getD k 0 < (0 : Int))) := fun k hk => four (P := fun x => 109572 < 0 + x ∨ 0 + x < 0) k hk (by decide) (by decide) (by decide) (by decide)
          generalize (W2.alloc (.cells #[.int .i64 (-1), .int .i64 9223372036854775807, .int .i64 (-9223372036854775808), .int .i64 109573] 2)) = W3 at *
          go_loop [83] (fun i => ∃ k : Nat, k ≤ 4 ∧ i = .int .i64 k) (fun i => 4 - (intOf i).toNat)
          case atStart => exact ⟨0, by omega, rfl⟩
          case round =>
            obtain ⟨k3, hk3, rfl⟩ := hrel
            by_cases hlt3 : k3 < 4
            · have hc3 := HC3.out k3 hlt3
              have hp3 := HP3.out k3 hlt3
              generalize [-1, 9223372036854775807, -9223372036854775808, 109573].getD k3 0 = x at hc3 hp3
              go_wp2_with (first | (go_at_call 27; refine (addDays_over _ _ _ (by decide) (by decide) hp3).mono ?_; rintro e w' ⟨rfl, rfl⟩) | (go_at_call 18; refine (codeOf_err _ _ (by decide)).mono ?_; rintro e w' ⟨rfl, rfl⟩))
              go_round
              case rel => exact ⟨k3 + 1, by omega, by go_num⟩
              case measure => simp [intOf]; omega
            · go_wp2_with (first | (go_at_call 27; refine (addDays_ok _ _ _ (by decide) (by decide) (by decide) (by decide)).mono ?_; rintro e w' ⟨rfl, rfl⟩))
              go_ret
              exact ⟨rfl, hG3⟩

set_option maxRecDepth 100000 in
theorem lifted (os : Os) (started : os.Started) (H : Type) (enc : TypeId × Value → H) :
    ReturnsInHanded {} Try.checked os 8 .any (Rows.calendarEdgesSpec.pre6 enc Try.prog Try.f8 Rows.calendarEdgesRow.domain false) (Rows.calendarEdgesSpec.post enc Try.prog Try.f8 false true false false) := by
  refine returnsInHanded_of_change (C := Try.checked) own started (by kernel_rfl) Try.func8
    (ChangeSpec.witness6 (enc := enc) (C := Try.checked) false ⟨#[], #[], []⟩ 8 (by kernel_rfl) (by kernel_rfl) (by kernel_rfl) (by kernel_rfl)) ?_
  intro W base args ds gs before hval0 hW hcnd _
  have hval : ∀ (j : Nat) t v, Try.f8.params[j]? = some t → args[j]? = some v → Value.okWide Try.prog W .any base t v := hval0
  have hW' := hW
  obtain ⟨p, q, hA0, hV, rfl, hfz, hnd⟩ := hW
  have hA : DataW.TrodAll enc Try.prog W 0 (fun _ => true) true Try.f8.params.toList args.toList ds p := hA0
  rw [Try.params8] at hA hval
  obtain ⟨rfl, rfl, rfl⟩ := trodAll_none hA
  obtain ⟨rfl, rfl⟩ := trodVars_none hV
  clear hA0 hval0
  simp only [List.append_nil] at hW'
  refine (walk  W).mono fun e W' ⟨he, hg⟩ => ?_
  subst he
  exact ⟨_, rfl, post_of_same (pa := []) (pv := []) hW' (fun _ _ _ => (trodAll_cons_mk (shut_bool Try.underlying4 _) trodAll_mk0)) (fun sp _ => rfl) (fun _ _ => rfl) rfl
    (hg.frame _) hg.2.1 (ok_one (by kernel_rfl) rfl (okWide_bool_mk Try.underlying4 _))⟩

theorem over : Rows.calendarEdgesRow.holds Try.pinned (OpenSpec.ofChange Rows.calendarEdgesSpec) :=
  OpenClaim.holds_of_wide 8 Try.f8 rfl rfl rfl rfl rfl rfl rfl ⟨rfl, rfl, rfl, rfl, rfl⟩ rfl rfl rfl rfl rfl (by kernel_rfl) Try.func8 (by kernel_rfl)
    (of_decide_eq_true (by kernel_rfl)) (by unfold Func.isWrapper; first | (rw [if_pos (by decide +kernel)]; kernel_rfl) | (rw [if_neg (by decide +kernel)]; exact ⟨rfl, rfl⟩))
    (fun os started H enc _ => lifted os started H enc)

theorem proved : Rows.CalendarEdgesSaid :=
  over
end Go.Proofs.Qxb6500665a.calendarEdges
