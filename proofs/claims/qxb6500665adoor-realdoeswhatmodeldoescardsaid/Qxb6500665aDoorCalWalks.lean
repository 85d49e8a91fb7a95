import Derived.Test.Qxb6500665aDoorProg
import Derived.WalkKit
import Derived.ProofKit
import Derived.WalkSpells
import Derived.WalkLawsBesides
namespace Go.Proofs.Qxb6500665aDoor.Cal
open Go.RowKit

/-- the error value of a code -/
abbrev err (c : Int) : Value := .iface 36 (.int .u8 c)

theorem checkMinute_bad (m : Int) (w : World) (h : m < 0 ∨ 157785119 < m) :
    Calls Tryd.prog 53 #[.int .i64 m] w fun e w' => e = .returned (err 3) ∧ w = w' := by
  rcases h with h | h
  · go_enter Tryd.func53, Tryd.ntmps53
    go_wp2
    go_ret
    exact ⟨rfl, rfl⟩
  · have h0 : ¬ m < 0 := by omega
    go_enter Tryd.func53, Tryd.ntmps53
    go_wp2
    go_ret
    exact ⟨rfl, rfl⟩

theorem checkMinute_ok (m : Int) (w : World) (h0 : 0 ≤ m) (h1 : m ≤ 157785119) :
    Calls Tryd.prog 53 #[.int .i64 m] w fun e w' => e = .returned .nilIface ∧ w = w' := by
  go_enter Tryd.func53, Tryd.ntmps53
  go_wp2
  go_ret
  exact ⟨rfl, rfl⟩

theorem checkDay_bad (m : Int) (w : World) (h : m < 0 ∨ 109572 < m) :
    Calls Tryd.prog 72 #[.int .i64 m] w fun e w' => e = .returned (err 3) ∧ w = w' := by
  rcases h with h | h
  · go_enter Tryd.func72, Tryd.ntmps72
    go_wp2
    go_ret
    exact ⟨rfl, rfl⟩
  · have h0 : ¬ m < 0 := by omega
    go_enter Tryd.func72, Tryd.ntmps72
    go_wp2
    go_ret
    exact ⟨rfl, rfl⟩

theorem checkDay_ok (m : Int) (w : World) (h0 : 0 ≤ m) (h1 : m ≤ 109572) :
    Calls Tryd.prog 72 #[.int .i64 m] w fun e w' => e = .returned .nilIface ∧ w = w' := by
  go_enter Tryd.func72, Tryd.ntmps72
  go_wp2
  go_ret
  exact ⟨rfl, rfl⟩

theorem dayOf_ok (m : Int) (w : World) (h0 : 0 ≤ m) (h1 : m ≤ 157785119) :
    Calls Tryd.prog 31 #[.int .i64 m] w fun e w' => e = .returned (.tuple #[.int .i64 (m / 1440), .nilIface]) ∧ w = w' := by
  go_enter Tryd.func31, Tryd.ntmps31
  go_wp2_with (go_at_call 53; refine (checkMinute_ok _ _ h0 h1).mono ?_; rintro e w' ⟨rfl, rfl⟩)
  go_ret2
  exact ⟨rfl, rfl⟩

theorem dayOf_bad (m : Int) (w : World) (h : m < 0 ∨ 157785119 < m) :
    Calls Tryd.prog 31 #[.int .i64 m] w fun e w' => e = .returned (.tuple #[.int .i64 0, err 3]) ∧ w = w' := by
  go_enter Tryd.func31, Tryd.ntmps31
  go_wp2_with (go_at_call 53; refine (checkMinute_bad _ _ h).mono ?_; rintro e w' ⟨rfl, rfl⟩)
  go_ret2
  exact ⟨rfl, rfl⟩

theorem addDays_bad (m d : Int) (w : World) (h : m < 0 ∨ 109572 < m) :
    Calls Tryd.prog 32 #[.int .i64 m, .int .i64 d] w fun e w' => e = .returned (.tuple #[.int .i64 0, err 3]) ∧ w = w' := by
  go_enter Tryd.func32, Tryd.ntmps32
  go_wp2_with (go_at_call 72; refine (checkDay_bad _ _ h).mono ?_; rintro e w' ⟨rfl, rfl⟩)
  go_ret2
  exact ⟨rfl, rfl⟩

theorem addDays_over (m d : Int) (w : World) (h0 : 0 ≤ m) (h1 : m ≤ 109572) (h : 109572 < m + d ∨ m + d < 0) :
    Calls Tryd.prog 32 #[.int .i64 m, .int .i64 d] w fun e w' => e = .returned (.tuple #[.int .i64 0, err 4]) ∧ w = w' := by
  rcases h with h | h
  · have ha : 109572 - m < d := by omega
    clear h
    go_enter Tryd.func32, Tryd.ntmps32
    go_wp2_with (go_at_call 72; refine (checkDay_ok _ _ h0 h1).mono ?_; rintro e w' ⟨rfl, rfl⟩)
    go_ret2
    exact ⟨rfl, rfl⟩
  · have ha : ¬ 109572 - m < d := by omega
    have hb : d < - m := by omega
    clear h
    go_enter Tryd.func32, Tryd.ntmps32
    go_wp2_with (go_at_call 72; refine (checkDay_ok _ _ h0 h1).mono ?_; rintro e w' ⟨rfl, rfl⟩)
    go_ret2
    exact ⟨rfl, rfl⟩

theorem addDays_ok (m d : Int) (w : World) (h0 : 0 ≤ m) (h1 : m ≤ 109572) (h2 : 0 ≤ m + d) (h3 : m + d ≤ 109572) :
    Calls Tryd.prog 32 #[.int .i64 m, .int .i64 d] w fun e w' => e = .returned (.tuple #[.int .i64 (m + d), .nilIface]) ∧ w = w' := by
  have ha : ¬ 109572 - m < d := by omega
  have hb : ¬ d < - m := by omega
  go_enter Tryd.func32, Tryd.ntmps32
  go_wp2_with (go_at_call 72; refine (checkDay_ok _ _ h0 h1).mono ?_; rintro e w' ⟨rfl, rfl⟩)
  go_ret2
  exact ⟨rfl, rfl⟩

theorem codeOf_nil (w : World) :
    Calls Tryd.prog 33 #[.nilIface] w fun e w' => e = .returned (.int .u8 0) ∧ w = w' := by
  go_enter Tryd.func33, Tryd.ntmps33
  go_wp2
  go_ret
  exact ⟨rfl, rfl⟩

set_option maxRecDepth 100000 in
theorem codeOf_err (c : Int) (w : World) (hc : (c != 0) = true) :
    Calls Tryd.prog 33 #[err c] w fun e w' => e = .returned (.int .u8 c) ∧ w = w' := by
  have hta : ∀ w : World, (Instr.typeAssert (.iface 36 (.int .u8 c)) 74 36 true).run Tryd.prog w = .ok (.tuple #[.int .u8 c, .bool true]) w := fun _ => by kernel_rfl
  go_enter Tryd.func33, Tryd.ntmps33
  go_wp2
  go_ret
  exact ⟨rfl, rfl⟩

end Go.Proofs.Qxb6500665aDoor.Cal
