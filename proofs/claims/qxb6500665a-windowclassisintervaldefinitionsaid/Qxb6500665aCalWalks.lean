import Derived.Test.Qxb6500665aProg
import Derived.WalkKit
import Derived.ProofKit
import Derived.WalkSpells
import Derived.WalkLawsBesides
namespace Go.Proofs.Qxb6500665a.Cal
open Go.RowKit

/-- the error value of a code -/
abbrev err (c : Int) : Value := .iface 39 (.int .u8 c)

theorem checkMinute_bad (m : Int) (w : World) (h : m < 0 ∨ 157785119 < m) :
    Calls Try.prog 25 #[.int .i64 m] w fun e w' => e = .returned (err 3) ∧ w = w' := by
  rcases h with h | h
  · go_enter Try.func25, Try.ntmps25
    go_wp2
    go_ret
    exact ⟨rfl, rfl⟩
  · have h0 : ¬ m < 0 := by omega
    go_enter Try.func25, Try.ntmps25
    go_wp2
    go_ret
    exact ⟨rfl, rfl⟩

theorem checkMinute_ok (m : Int) (w : World) (h0 : 0 ≤ m) (h1 : m ≤ 157785119) :
    Calls Try.prog 25 #[.int .i64 m] w fun e w' => e = .returned .nilIface ∧ w = w' := by
  go_enter Try.func25, Try.ntmps25
  go_wp2
  go_ret
  exact ⟨rfl, rfl⟩

theorem checkDay_bad (m : Int) (w : World) (h : m < 0 ∨ 109572 < m) :
    Calls Try.prog 47 #[.int .i64 m] w fun e w' => e = .returned (err 3) ∧ w = w' := by
  rcases h with h | h
  · go_enter Try.func47, Try.ntmps47
    go_wp2
    go_ret
    exact ⟨rfl, rfl⟩
  · have h0 : ¬ m < 0 := by omega
    go_enter Try.func47, Try.ntmps47
    go_wp2
    go_ret
    exact ⟨rfl, rfl⟩

theorem checkDay_ok (m : Int) (w : World) (h0 : 0 ≤ m) (h1 : m ≤ 109572) :
    Calls Try.prog 47 #[.int .i64 m] w fun e w' => e = .returned .nilIface ∧ w = w' := by
  go_enter Try.func47, Try.ntmps47
  go_wp2
  go_ret
  exact ⟨rfl, rfl⟩

theorem dayOf_ok (m : Int) (w : World) (h0 : 0 ≤ m) (h1 : m ≤ 157785119) :
    Calls Try.prog 24 #[.int .i64 m] w fun e w' => e = .returned (.tuple #[.int .i64 (m / 1440), .nilIface]) ∧ w = w' := by
  go_enter Try.func24, Try.ntmps24
  go_wp2_with (go_at_call 25; refine (checkMinute_ok _ _ h0 h1).mono ?_; rintro e w' ⟨rfl, rfl⟩)
  go_ret2
  exact ⟨rfl, rfl⟩

theorem dayOf_bad (m : Int) (w : World) (h : m < 0 ∨ 157785119 < m) :
    Calls Try.prog 24 #[.int .i64 m] w fun e w' => e = .returned (.tuple #[.int .i64 0, err 3]) ∧ w = w' := by
  go_enter Try.func24, Try.ntmps24
  go_wp2_with (go_at_call 25; refine (checkMinute_bad _ _ h).mono ?_; rintro e w' ⟨rfl, rfl⟩)
  go_ret2
  exact ⟨rfl, rfl⟩

theorem firstMinute_ok (m : Int) (w : World) (h0 : 0 ≤ m) (h1 : m ≤ 109572) :
    Calls Try.prog 26 #[.int .i64 m] w fun e w' => e = .returned (.tuple #[.int .i64 (m * 1440), .nilIface]) ∧ w = w' := by
  go_enter Try.func26, Try.ntmps26
  go_wp2_with (go_at_call 47; refine (checkDay_ok _ _ h0 h1).mono ?_; rintro e w' ⟨rfl, rfl⟩)
  go_ret2
  exact ⟨rfl, rfl⟩

theorem firstMinute_bad (m : Int) (w : World) (h : m < 0 ∨ 109572 < m) :
    Calls Try.prog 26 #[.int .i64 m] w fun e w' => e = .returned (.tuple #[.int .i64 0, err 3]) ∧ w = w' := by
  go_enter Try.func26, Try.ntmps26
  go_wp2_with (go_at_call 47; refine (checkDay_bad _ _ h).mono ?_; rintro e w' ⟨rfl, rfl⟩)
  go_ret2
  exact ⟨rfl, rfl⟩

theorem addDays_bad (m d : Int) (w : World) (h : m < 0 ∨ 109572 < m) :
    Calls Try.prog 27 #[.int .i64 m, .int .i64 d] w fun e w' => e = .returned (.tuple #[.int .i64 0, err 3]) ∧ w = w' := by
  go_enter Try.func27, Try.ntmps27
  go_wp2_with (go_at_call 47; refine (checkDay_bad _ _ h).mono ?_; rintro e w' ⟨rfl, rfl⟩)
  go_ret2
  exact ⟨rfl, rfl⟩

theorem addDays_over (m d : Int) (w : World) (h0 : 0 ≤ m) (h1 : m ≤ 109572) (h : 109572 < m + d ∨ m + d < 0) :
    Calls Try.prog 27 #[.int .i64 m, .int .i64 d] w fun e w' => e = .returned (.tuple #[.int .i64 0, err 4]) ∧ w = w' := by
  rcases h with h | h
  · have ha : 109572 - m < d := by omega
    clear h
    go_enter Try.func27, Try.ntmps27
    go_wp2_with (go_at_call 47; refine (checkDay_ok _ _ h0 h1).mono ?_; rintro e w' ⟨rfl, rfl⟩)
    go_ret2
    exact ⟨rfl, rfl⟩
  · have ha : ¬ 109572 - m < d := by omega
    have hb : d < - m := by omega
    clear h
    go_enter Try.func27, Try.ntmps27
    go_wp2_with (go_at_call 47; refine (checkDay_ok _ _ h0 h1).mono ?_; rintro e w' ⟨rfl, rfl⟩)
    go_ret2
    exact ⟨rfl, rfl⟩

theorem addDays_ok (m d : Int) (w : World) (h0 : 0 ≤ m) (h1 : m ≤ 109572) (h2 : 0 ≤ m + d) (h3 : m + d ≤ 109572) :
    Calls Try.prog 27 #[.int .i64 m, .int .i64 d] w fun e w' => e = .returned (.tuple #[.int .i64 (m + d), .nilIface]) ∧ w = w' := by
  have ha : ¬ 109572 - m < d := by omega
  have hb : ¬ d < - m := by omega
  go_enter Try.func27, Try.ntmps27
  go_wp2_with (go_at_call 47; refine (checkDay_ok _ _ h0 h1).mono ?_; rintro e w' ⟨rfl, rfl⟩)
  go_ret2
  exact ⟨rfl, rfl⟩

theorem codeOf_nil (w : World) :
    Calls Try.prog 18 #[.nilIface] w fun e w' => e = .returned (.int .u8 0) ∧ w = w' := by
  go_enter Try.func18, Try.ntmps18
  go_wp2
  go_ret
  exact ⟨rfl, rfl⟩

set_option maxRecDepth 100000 in
theorem codeOf_err (c : Int) (w : World) (hc : (c != 0) = true) :
    Calls Try.prog 18 #[err c] w fun e w' => e = .returned (.int .u8 c) ∧ w = w' := by
  have hta : ∀ w : World, (Instr.typeAssert (.iface 39 (.int .u8 c)) 60 39 true).run Try.prog w = .ok (.tuple #[.int .u8 c, .bool true]) w := fun _ => by kernel_rfl
  go_enter Try.func18, Try.ntmps18
  go_wp2
  go_ret
  exact ⟨rfl, rfl⟩

end Go.Proofs.Qxb6500665a.Cal
