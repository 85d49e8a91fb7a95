/- What a file is: the real layer's word and the model's, walked. -/
import Derived.Test.Qxb6500666aGreatDoorRowText
import Derived.Test.Qxb6500666aGreatDoorSmall
namespace Go.Proofs.Qxb6500666aGreatDoor
open Go.RowKit
attribute [local go_sem ↓] exec_ldRow exec_ldChange exec_ldFile exec_stRow exec_stChange exec_stFile exec_bsRow exec_bsChange exec_slRows exec_bdChange exec_eqlRow exec_neqRow
attribute [local go_sem] run_ldRow run_ldChange run_ldFile run_stRow run_stChange run_stFile run_bsRow run_bsChange run_bdChange run_neqRow run_eqlRow rng_alloc_lt rng_alloc_at rng_drew rng_drewN rng_setCell_other rng_setRow_other whole_alloc_lt whole_alloc_at whole_drew whole_setCell_other whole_setRow_other setRow_alloc_at setRow_alloc_lt setRow_drew rowCs_size rowCs_ones rowCs_0 rowCs_1 rowCs_2 rowCs_3 rowCs_4 rowCs_5 rowCs_6 rowCs_7 rowCs_8 rowCs_9 rowCs_10 rowCs_11 rowCs_12 rowCs_all changeCs_size changeCs_ones changeCs_0 changeCs_row changeCs_all fileCs_size fileCs_ones fileCs_0 fileCs_1 fileCs_2 fileCs_3 fileCs_4 fileCs_all ext_const Ext.cell Ext.frozen Ext.rng Ext.whole

def KindOk (k : Int) : Prop := k = 67 ∨ k = 73
def NumsOk (s i b : Int) : Prop := s ≠ 0 ∧ b < s ∧ 0 ≤ i ∧ i ≤ 157785119
def ActOk (k a : Int) : Prop := (k = 67 ∧ a = 82) ∨ (k ≠ 67 ∧ (a = 78 ∨ a = 67 ∨ a = 87))
def IdsOk (r : Row) : Prop := r.sample ≠ 0 ∧ r.analyte ≠ 0 ∧ r.version ≠ 0 ∧ r.subject ≠ 0 ∧ r.site ≠ 0 ∧ r.visit ≠ 0 ∧ r.proto ≠ 0 ∧ r.kit ≠ 0
def TimesOk (r : Row) : Prop := 0 ≤ r.collected ∧ r.collected ≤ r.received ∧ r.received ≤ r.tested ∧ r.tested ≤ 157785119
def RowOk (r : Row) : Prop := IdsOk r ∧ (1 ≤ r.cls ∧ r.cls ≤ 3) ∧ TimesOk r

set_option maxRecDepth 100000 in
theorem validMinute_calls (x : Int) (w : World) (t : Bool) (ht : t = true ↔ 0 ≤ x ∧ x ≤ 157785119) : Calls Tryz.prog 159 #[.int .i64 x] w fun e w' => e = .returned (.bool t) ∧ w = w' := by
  by_cases h1 : 0 ≤ x
  · by_cases h2 : x ≤ 157785119
    · obtain rfl : t = true := ht.2 ⟨h1, h2⟩
      clear ht
      go_enter Tryz.func159, Tryz.ntmps159
      go_wp2
      go_ret
      exact ⟨rfl, rfl⟩
    · obtain rfl : t = false := by cases t with | false => rfl | true => exact absurd (ht.1 rfl).2 h2
      clear ht
      go_enter Tryz.func159, Tryz.ntmps159
      go_wp2
      go_ret
      exact ⟨rfl, rfl⟩
  · obtain rfl : t = false := by cases t with | false => rfl | true => exact absurd (ht.1 rfl).1 h1
    clear ht
    go_enter Tryz.func159, Tryz.ntmps159
    go_wp2
    go_ret
    exact ⟨rfl, rfl⟩

set_option maxRecDepth 100000 in
theorem validClass_calls (x : Int) (w : World) (t : Bool) (ht : t = true ↔ 1 ≤ x ∧ x ≤ 3) : Calls Tryz.prog 158 #[.int .u8 x] w fun e w' => e = .returned (.bool t) ∧ w = w' := by
  by_cases h1 : 1 ≤ x
  · by_cases h2 : x ≤ 3
    · obtain rfl : t = true := ht.2 ⟨h1, h2⟩
      clear ht
      go_enter Tryz.func158, Tryz.ntmps158
      go_wp2
      go_ret
      exact ⟨rfl, rfl⟩
    · obtain rfl : t = false := by cases t with | false => rfl | true => exact absurd (ht.1 rfl).2 h2
      clear ht
      go_enter Tryz.func158, Tryz.ntmps158
      go_wp2
      go_ret
      exact ⟨rfl, rfl⟩
  · obtain rfl : t = false := by cases t with | false => rfl | true => exact absurd (ht.1 rfl).1 h1
    clear ht
    go_enter Tryz.func158, Tryz.ntmps158
    go_wp2
    go_ret
    exact ⟨rfl, rfl⟩

theorem bool_of_not {t : Bool} {p : Prop} (ht : t = true ↔ p) (h : ¬ p) : t = false := by cases t with | false => rfl | true => exact absurd (ht.1 rfl) h

set_option maxRecDepth 100000 in
theorem validAction_calls (k a : Int) (w : World) (t : Bool) (ht : t = true ↔ ActOk k a) : Calls Tryz.prog 110 #[.int .u8 k, .int .u8 a] w fun e w' => e = .returned (.bool t) ∧ w = w' := by
  have key : ∀ b1 b2 b3 b4 b5 : Bool, (k == 67) = b1 → (a == 82) = b2 → (a == 78) = b3 → (a == 67) = b4 → (a == 87) = b5 → Calls Tryz.prog 110 #[.int .u8 k, .int .u8 a] w fun e w' => e = .returned (.bool (if b1 then b2 else b3 || b4 || b5)) ∧ w = w' := by
    intro b1 b2 b3 b4 b5 h1 h2 h3 h4 h5
    cases b1 with
    | true =>
      go_enter Tryz.func110, Tryz.ntmps110
      go_wp2
      go_ret
      exact ⟨rfl, rfl⟩
    | false =>
      cases b3 with
      | true =>
        go_enter Tryz.func110, Tryz.ntmps110
        go_wp2
        go_ret
        exact ⟨rfl, rfl⟩
      | false =>
        cases b4 with
        | true =>
          go_enter Tryz.func110, Tryz.ntmps110
          go_wp2
          go_ret
          exact ⟨rfl, rfl⟩
        | false =>
          go_enter Tryz.func110, Tryz.ntmps110
          go_wp2
          go_ret
          exact ⟨rfl, rfl⟩
  refine (key _ _ _ _ _ rfl rfl rfl rfl rfl).mono fun e w' ⟨he, hw⟩ => ⟨?_, hw⟩
  rw [he]
  congr 2
  rw [Bool.eq_iff_iff, ht]
  by_cases h : k = 67 <;> simp [ActOk, h, or_assoc]

def ids (r : Row) : List Int := [r.sample, r.analyte, r.version, r.subject, r.site, r.visit, r.proto, r.kit]
theorem ids_ok {r : Row} : IdsOk r ↔ ∀ i (h : i < (ids r).length), (ids r)[i] ≠ 0 := by
  constructor
  · rintro ⟨h0, h1, h2, h3, h4, h5, h6, h7⟩ i hi
    have h8 : i < 8 := hi
    rcases (show i = 0 ∨ i = 1 ∨ i = 2 ∨ i = 3 ∨ i = 4 ∨ i = 5 ∨ i = 6 ∨ i = 7 by omega) with rfl | rfl | rfl | rfl | rfl | rfl | rfl | rfl <;> assumption
  · intro h
    exact ⟨h 0 (by simp [ids]), h 1 (by simp [ids]), h 2 (by simp [ids]), h 3 (by simp [ids]), h 4 (by simp [ids]), h 5 (by simp [ids]), h 6 (by simp [ids]), h 7 (by simp [ids])⟩

def idVals (r : Row) : Array Value := #[.int .u32 r.sample, .int .u32 r.analyte, .int .u32 r.version, .int .u32 r.subject, .int .u32 r.site, .int .u32 r.visit, .int .u32 r.proto, .int .u32 r.kit]

set_option maxRecDepth 100000 in
theorem run_ids (r : Row) (q : Nat) (hq : q < (ids r).length) (w : World) : (Instr.index 299 (.agg (idVals r)) (.int .i64 (q : Int))).run Tryz.prog w = .ok (.int .u32 (ids r)[q]) w := by
  have h8 : q < 8 := hq
  rcases (show q = 0 ∨ q = 1 ∨ q = 2 ∨ q = 3 ∨ q = 4 ∨ q = 5 ∨ q = 6 ∨ q = 7 by omega) with rfl | rfl | rfl | rfl | rfl | rfl | rfl | rfl
  all_goals rfl

set_option maxRecDepth 100000 in
set_option maxHeartbeats 4000000 in
theorem validRow_calls (r : Row) (w : World) (t : Bool) (ht : t = true ↔ RowOk r) : Calls Tryz.prog 111 #[.agg (rowCs r)] w fun e w' => e = .returned (.bool t) ∧ Below w.heap.size w w' := by
  have Ht := hide ht
  clear ht
  go_enter Tryz.func111, Tryz.ntmps111
  go_wp2
  have hb0 : Below w.heap.size w (w.alloc (.cells (rowCs r) 109)) := (Below.refl _ _).alloc (Nat.le_refl _) _
  have hv : #[.int .u32 r.sample, .int .u32 r.analyte, .int .u32 r.version, .int .u32 r.subject, .int .u32 r.site, .int .u32 r.visit, .int .u32 r.proto, .int .u32 r.kit] = idVals r := rfl
  rw [hv]
  clear hv
  go_loopg [22] 8 (fun g j W => ∃ q : Nat, q ≤ 8 ∧ g = 8 - q ∧ j = .int .i64 q ∧ w.alloc (.cells (rowCs r) 109) = W ∧ ∀ i (h : i < (ids r).length), i < q → (ids r)[i] ≠ 0)
  case atStart => exact ⟨0, by omega, by omega, rfl, rfl, fun i _ h => absurd h (by omega)⟩
  case round =>
    obtain ⟨q, hq, rfl, rfl, rfl, hids⟩ := hrel
    have HI := hide hids
    clear hids
    by_cases hq8 : q < 8
    · have hq8' : q < (ids r).length := hq8
      have hix := run_ids r q hq8'
      have HY : Hid (∃ y, (ids r)[q] = y) := ⟨_, rfl⟩
      obtain ⟨y, hy⟩ := HY.out
      rw [hy] at hix
      have HYy := hide hy
      clear hy HY
      cases h0 : (y == 0) with
      | true =>
        obtain rfl : t = false := bool_of_not Ht.out fun h => ids_ok.1 h.1 q hq8' (by rw [HYy.out]; simpa using h0)
        go_wp2
        go_ret
        exact ⟨rfl, hb0⟩
      | false =>
        go_wp2
        go_roundg (8 - (q + 1))
        case measure => omega
        case rel =>
          refine ⟨q + 1, by omega, rfl, by go_num, rfl, fun i h h' => ?_⟩
          rcases Nat.lt_or_ge i q with h2 | h2
          · exact HI.out i h h2
          · obtain rfl : i = q := by omega
            rw [HYy.out]
            simpa using h0
    · have hIds : IdsOk r := ids_ok.2 fun i hi => HI.out i hi (by have h8 : i < 8 := hi; omega)
      obtain ⟨tc, htc⟩ : ∃ tc : Bool, tc = decide (1 ≤ r.cls ∧ r.cls ≤ 3) := ⟨_, rfl⟩
      have HC : Hid (tc = true ↔ 1 ≤ r.cls ∧ r.cls ≤ 3) := by show _ ↔ _; rw [htc]; simp
      clear htc
      by_cases h1 : 1 ≤ r.cls ∧ r.cls ≤ 3
      · obtain rfl : tc = true := HC.out.2 h1
        by_cases h2 : 0 ≤ r.collected
        · by_cases h3 : r.collected ≤ r.received
          · by_cases h4 : r.received ≤ r.tested
            · by_cases h5 : r.tested ≤ 157785119
              · obtain rfl : t = true := Ht.out.2 ⟨hIds, h1, h2, h3, h4, h5⟩
                clear h1
                go_wp2_with (go_at_call 158; refine (validClass_calls _ _ true HC.out).mono ?_; rintro e w1 ⟨rfl, rfl⟩)
                go_ret
                exact ⟨rfl, hb0⟩
              · obtain rfl : t = false := bool_of_not Ht.out fun h => h5 h.2.2.2.2.2
                have h5' : decide (r.tested ≤ 157785119) = false := by simpa using h5
                clear h1 h5
                go_wp2_with (go_at_call 158; refine (validClass_calls _ _ true HC.out).mono ?_; rintro e w1 ⟨rfl, rfl⟩)
                go_ret
                exact ⟨rfl, hb0⟩
            · obtain rfl : t = false := bool_of_not Ht.out fun h => h4 h.2.2.2.2.1
              clear h1
              go_wp2_with (go_at_call 158; refine (validClass_calls _ _ true HC.out).mono ?_; rintro e w1 ⟨rfl, rfl⟩)
              go_ret
              exact ⟨rfl, hb0⟩
          · obtain rfl : t = false := bool_of_not Ht.out fun h => h3 h.2.2.2.1
            clear h1
            go_wp2_with (go_at_call 158; refine (validClass_calls _ _ true HC.out).mono ?_; rintro e w1 ⟨rfl, rfl⟩)
            go_ret
            exact ⟨rfl, hb0⟩
        · obtain rfl : t = false := bool_of_not Ht.out fun h => h2 h.2.2.1
          clear h1
          go_wp2_with (go_at_call 158; refine (validClass_calls _ _ true HC.out).mono ?_; rintro e w1 ⟨rfl, rfl⟩)
          go_ret
          exact ⟨rfl, hb0⟩
      · obtain rfl : t = false := bool_of_not Ht.out fun h => h1 h.2.1
        obtain rfl : tc = false := bool_of_not HC.out h1
        clear h1
        go_wp2_with (go_at_call 158; refine (validClass_calls _ _ false HC.out).mono ?_; rintro e w1 ⟨rfl, rfl⟩)
        go_ret
        exact ⟨rfl, hb0⟩

end Go.Proofs.Qxb6500666aGreatDoor
