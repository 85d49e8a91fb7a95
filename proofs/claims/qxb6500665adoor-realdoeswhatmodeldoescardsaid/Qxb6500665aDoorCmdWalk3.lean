/- DefineAnalyte, DefinePanel, walked. (Made by tools/mk_cmds.py.) -/
import Derived.Test.Qxb6500665aDoorCmdWalk2
namespace Go.Proofs.Qxb6500665aDoor
open Go.RowKit Go.Proofs.Qxb6500665aDoor.Cal

attribute [local go_sem] ext_const Ext.cell Ext.frozen Ext.rng Ext.whole

def limBad (l : List Int) : Bool := l.any fun x => decide (x < 0) || decide (5256000 < x)
def anErr (ps : List KV) (full : Bool) (id l0 l1 l2 : Int) : Int :=
  if id = 0 then 2 else if limBad [l0, l1, l2] then 5 else if (getB ps (keyB 97 id)).isSome then 9 else if full then 21 else 0
def panErr (ps : List KV) (full : Bool) (id : Int) (ids : List Int) : Int :=
  if id = 0 then 2 else if listErr ids 8 ≠ 0 then listErr ids 8 else if (getB ps (keyB 112 id)).isSome then 9 else if ids.all (fun x => (getB ps (keyB 97 x)).isSome) then (if full then 21 else 0) else 14

set_option maxRecDepth 100000 in
set_option maxHeartbeats 4000000 in
theorem defineAnalyte_calls (w : World) (P S : Nat) (A : Nat → Prop) (ps : List KV) (full : Bool) (id l0 l1 l2 : Int) (h : PAt w P S A ps full) (hid : U32 id) (k0 : I64 l0) (k1 : I64 l1) (k2 : I64 l2) (hps : ps.length ≤ 900000) :
    Calls Tryd.prog 16 #[.pointer (some ⟨P, 0, none⟩), .agg #[.int .u32 id, .int .i64 l0, .int .i64 l1, .int .i64 l2]] w fun e w' => e = .returned (errOr (anErr ps full id l0 l1 l2)) ∧ Cmd w w' S A (cmdPs (anErr ps full id l0 l1 l2) ps [(keyB 97 id, anaB l0 l1 l2)]) full := by
  have HP := hide h
  have hSl := h.store.size
  have hbw0 : Below w.heap.size w (w.alloc (.cells #[.int .u32 id, .int .i64 l0, .int .i64 l1, .int .i64 l2] 43)) := (Below.refl _ _).alloc (Nat.le_refl _) _
  have HP0 := hide (h.below hbw0)
  clear h
  unfold anErr
  by_cases h0 : id = 0
  · subst h0
    go_enter Tryd.func16, Tryd.ntmps16
    go_wp2
    go_ret
    exact ⟨rfl, Cmd.of_below HP.out hbw0⟩
  · have hb0 : (id == 0) = false := by simp [h0]
    rw [if_neg h0]
    clear h0
    cases hlb : limBad [l0, l1, l2] with
    | true =>
      have HLB := hide hlb
      go_enter Tryd.func16, Tryd.ntmps16
      go_upto_region 4 with fail
      go_loopw [13] (fun j wr => ∃ q : Nat, q ≤ 3 ∧ j = .int .i64 q ∧ w.alloc (.cells #[.int .u32 id, .int .i64 l0, .int .i64 l1, .int .i64 l2] 43) = wr ∧ Hid (∀ x ∈ [l0, l1, l2].take q, 0 ≤ x ∧ x ≤ 5256000)) (fun j _ => 3 - (intOf j).toNat)
      case atStart => exact ⟨0, by omega, rfl, rfl, by show ∀ x ∈ List.take 0 [l0, l1, l2], _; simp⟩
      case round =>
        obtain ⟨q, hq, rfl, rfl, HI⟩ := hrel
        by_cases hlt : q < 3
        · obtain ⟨x, pre, htk, htk1, hix, hmem⟩ : ∃ x pre, [l0, l1, l2].take q = pre ∧ [l0, l1, l2].take (q + 1) = pre ++ [x] ∧ (∀ W, (Instr.index 30 (.agg #[.int .i64 l0, .int .i64 l1, .int .i64 l2]) (.int .i64 (q : Int))).run Tryd.prog W = .ok (.int .i64 x) W) ∧ x ∈ [l0, l1, l2] := by
            rcases (show q = 0 ∨ q = 1 ∨ q = 2 by omega) with rfl | rfl | rfl
            · exact ⟨_, _, rfl, rfl, fun W => by kernel_rfl, by simp⟩
            · exact ⟨_, _, rfl, rfl, fun W => by kernel_rfl, by simp⟩
            · exact ⟨_, _, rfl, rfl, fun W => by kernel_rfl, by simp⟩
          have HT0 := hide htk
          have HT1 := hide htk1
          clear htk htk1 hmem
          by_cases b1 : x < 0
          · go_wp2
            go_ret
            exact ⟨rfl, Cmd.of_below HP.out hbw0⟩
          · by_cases b2 : 5256000 < x
            · go_wp2
              go_ret
              exact ⟨rfl, Cmd.of_below HP.out hbw0⟩
            · go_wp2
              go_roundw
              case measure => simp [intOf]; omega
              case rel =>
                refine ⟨q + 1, by omega, by go_num, by first | rfl | trivial, ?_⟩
                show ∀ y ∈ [l0, l1, l2].take (q + 1), 0 ≤ y ∧ y ≤ 5256000
                rw [HT1.out]
                intro y hy
                rcases List.mem_append.1 hy with hy | hy
                · exact HI.out y (by rw [HT0.out]; exact hy)
                · rw [List.mem_singleton.1 hy]; omega
        · exfalso
          have hq3 : q = 3 := by omega
          subst hq3
          have h1 := HLB.out
          simp only [limBad, List.any_eq_true, Bool.or_eq_true, decide_eq_true_eq] at h1
          obtain ⟨x, hx, hb⟩ := h1
          have := HI.out x (by simpa using hx)
          omega
    | false =>
      have hlim : ∀ x ∈ [l0, l1, l2], 0 ≤ x ∧ x ≤ 5256000 := fun x hx => by
        have h1 := List.any_eq_false.1 hlb x hx
        simp only [Bool.or_eq_true, decide_eq_true_eq] at h1
        omega
      have HLIM := hide hlim
      clear hlb hlim
      simp only [Bool.false_eq_true, if_false]
      have HHAS := hide (has_calls _ P S A ps full 97 id HP0.out (by decide) hid)
      cases hg : (getB ps (keyB 97 id)).isSome with
      | true =>
        rw [hg] at HHAS
        go_enter Tryd.func16, Tryd.ntmps16
        go_upto_region 4 with fail
        go_loopw [13] (fun j wr => ∃ q : Nat, q ≤ 3 ∧ j = .int .i64 q ∧ w.alloc (.cells #[.int .u32 id, .int .i64 l0, .int .i64 l1, .int .i64 l2] 43) = wr ∧ Hid (∀ x ∈ [l0, l1, l2].take q, 0 ≤ x ∧ x ≤ 5256000)) (fun j _ => 3 - (intOf j).toNat)
        case atStart => exact ⟨0, by omega, rfl, rfl, by show ∀ x ∈ List.take 0 [l0, l1, l2], _; simp⟩
        case round =>
          obtain ⟨q, hq, rfl, rfl, HI⟩ := hrel
          by_cases hlt : q < 3
          · obtain ⟨x, pre, htk, htk1, hix, hmem⟩ : ∃ x pre, [l0, l1, l2].take q = pre ∧ [l0, l1, l2].take (q + 1) = pre ++ [x] ∧ (∀ W, (Instr.index 30 (.agg #[.int .i64 l0, .int .i64 l1, .int .i64 l2]) (.int .i64 (q : Int))).run Tryd.prog W = .ok (.int .i64 x) W) ∧ x ∈ [l0, l1, l2] := by
              rcases (show q = 0 ∨ q = 1 ∨ q = 2 by omega) with rfl | rfl | rfl
              · exact ⟨_, _, rfl, rfl, fun W => by kernel_rfl, by simp⟩
              · exact ⟨_, _, rfl, rfl, fun W => by kernel_rfl, by simp⟩
              · exact ⟨_, _, rfl, rfl, fun W => by kernel_rfl, by simp⟩
            obtain ⟨b1, b2⟩ := HLIM.out x hmem
            have HT0 := hide htk
            have HT1 := hide htk1
            clear htk htk1 hmem
            have b3 : ¬ x < 0 := by omega
            have b4 : ¬ 5256000 < x := by omega
            go_wp2
            go_roundw
            case measure => simp [intOf]; omega
            case rel =>
              refine ⟨q + 1, by omega, by go_num, by first | rfl | trivial, ?_⟩
              show ∀ y ∈ [l0, l1, l2].take (q + 1), 0 ≤ y ∧ y ≤ 5256000
              rw [HT1.out]
              intro y hy
              rcases List.mem_append.1 hy with hy | hy
              · exact HI.out y (by rw [HT0.out]; exact hy)
              · rw [List.mem_singleton.1 hy]; omega
          · have hq3 : q = 3 := by omega
            subst hq3
            go_wp2_with (go_at_call 47; refine HHAS.out.mono ?_; rintro e w1 ⟨rfl, hb1⟩)
            go_ret
            exact ⟨rfl, Cmd.of_below HP.out (hbw0.trans (hb1.mono (by simp)))⟩
      | false =>
        rw [hg] at HHAS
        cases full with
        | true =>
          go_enter Tryd.func16, Tryd.ntmps16
          go_upto_region 4 with fail
          go_loopw [13] (fun j wr => ∃ q : Nat, q ≤ 3 ∧ j = .int .i64 q ∧ w.alloc (.cells #[.int .u32 id, .int .i64 l0, .int .i64 l1, .int .i64 l2] 43) = wr ∧ Hid (∀ x ∈ [l0, l1, l2].take q, 0 ≤ x ∧ x ≤ 5256000)) (fun j _ => 3 - (intOf j).toNat)
          case atStart => exact ⟨0, by omega, rfl, rfl, by show ∀ x ∈ List.take 0 [l0, l1, l2], _; simp⟩
          case round =>
            obtain ⟨q, hq, rfl, rfl, HI⟩ := hrel
            by_cases hlt : q < 3
            · obtain ⟨x, pre, htk, htk1, hix, hmem⟩ : ∃ x pre, [l0, l1, l2].take q = pre ∧ [l0, l1, l2].take (q + 1) = pre ++ [x] ∧ (∀ W, (Instr.index 30 (.agg #[.int .i64 l0, .int .i64 l1, .int .i64 l2]) (.int .i64 (q : Int))).run Tryd.prog W = .ok (.int .i64 x) W) ∧ x ∈ [l0, l1, l2] := by
                rcases (show q = 0 ∨ q = 1 ∨ q = 2 by omega) with rfl | rfl | rfl
                · exact ⟨_, _, rfl, rfl, fun W => by kernel_rfl, by simp⟩
                · exact ⟨_, _, rfl, rfl, fun W => by kernel_rfl, by simp⟩
                · exact ⟨_, _, rfl, rfl, fun W => by kernel_rfl, by simp⟩
              obtain ⟨b1, b2⟩ := HLIM.out x hmem
              have HT0 := hide htk
              have HT1 := hide htk1
              clear htk htk1 hmem
              have b3 : ¬ x < 0 := by omega
              have b4 : ¬ 5256000 < x := by omega
              go_wp2
              go_roundw
              case measure => simp [intOf]; omega
              case rel =>
                refine ⟨q + 1, by omega, by go_num, by first | rfl | trivial, ?_⟩
                show ∀ y ∈ [l0, l1, l2].take (q + 1), 0 ≤ y ∧ y ≤ 5256000
                rw [HT1.out]
                intro y hy
                rcases List.mem_append.1 hy with hy | hy
                · exact HI.out y (by rw [HT0.out]; exact hy)
                · rw [List.mem_singleton.1 hy]; omega
            · have hq3 : q = 3 := by omega
              subst hq3
              go_upto_region 11 with (go_at_call 47; refine HHAS.out.mono ?_; rintro e w4 ⟨rfl, hb1⟩)
              have hbw4 : Below w.heap.size w w4 := hbw0.trans (hb1.mono (by simp))
              have d0 : w4.cell? ⟨w.heap.size, 0, none⟩ = some (.int .u32 id) := (hb1.cell (p := ⟨w.heap.size, 0, none⟩) (by simp)).trans (by simp)
              have d1 : w4.cell? ⟨w.heap.size, 1, none⟩ = some (.int .i64 l0) := (hb1.cell (p := ⟨w.heap.size, 1, none⟩) (by simp)).trans (by simp)
              have d2 : w4.cell? ⟨w.heap.size, 2, none⟩ = some (.int .i64 l1) := (hb1.cell (p := ⟨w.heap.size, 2, none⟩) (by simp)).trans (by simp)
              have d3 : w4.cell? ⟨w.heap.size, 3, none⟩ = some (.int .i64 l2) := (hb1.cell (p := ⟨w.heap.size, 3, none⟩) (by simp)).trans (by simp)
              have hl4 : w.heap.size + 1 ≤ w4.heap.size := by have := hb1.size; simpa using this
              clear hb1 HHAS
              refine wp_region_mixT (w.heap.size + 1) [2, 4] (by kernel_rfl) ?_
              refine mixT_slots [0, 1] (fuel := 8) rfl (by kernel_rfl) (by kernel_rfl) (fun d _ _ _ _ h => by cases d <;> exact h) ?_
              simp only [opersAt, List.getElem?_toArray, List.getElem?_cons_zero, List.getElem?_cons_succ]
              repeat (go_big_quiet_step (fail))
              refine wpQuiet_nil ?_
              refine mixT_reads [2, 4] (fuel := 6) rfl (by kernel_rfl) (by decide) (by kernel_rfl) (fun d _ _ _ _ h => by cases d <;> exact h) (ext_drew _ _) ?_
              simp only [opersAt, List.getElem?_toArray, List.getElem?_cons_zero, List.getElem?_cons_succ]
              repeat (go_big_quiet_step (fail))
              refine wpQuiet_nil ?_
              refine mixT_one (k := 3) (by kernel_rfl) rfl ?_
              go_wp2_with (go_at_call 49; refine (key_calls _ 97 id (by decide) hid).mono ?_; rintro e y2 ⟨kv, rfl, hownK, hy2⟩)
              have hx2 : Below (w.heap.size + 1) w4 y2 := ((Below.refl _ _).drew).trans (hy2.mono hl4)
              refine ⟨Or.inr (fun _ => ⟨⟨_, hx2⟩, rfl⟩), ?_⟩
              obtain ⟨ka, kn, kc, rfl⟩ := hownK.sform
              refine mixT_one (k := 5) (by kernel_rfl) rfl ?_
              have hyw2 : Below w.heap.size w y2 := hbw4.trans (hx2.mono (by omega))
              go_wp2_with (go_at_call 50; refine (encodeAnalyte_calls _ id l0 l1 l2 k0 k1 k2).mono ?_; rintro e y3 ⟨ev, rfl, hownE, hy3⟩)
              have hx3 : Below (w.heap.size + 1) w4 y3 := hx2.trans (hy3.mono (Nat.le_trans hl4 hx2.size))
              refine ⟨Or.inr (fun _ => ⟨⟨_, hx3⟩, rfl⟩), ?_⟩
              obtain ⟨ea, en, ec, rfl⟩ := hownE.sform
              refine mixT_one (k := 6) (by kernel_rfl) rfl ?_
              go_wp2
              refine ⟨Or.inr (fun h => h), ?_⟩
              refine mixT_one (k := 7) (by kernel_rfl) rfl ?_
              go_wp2
              have hx4 : Below (w.heap.size + 1) w4 (y3.alloc (.cells #[.slice ka kn kc, .slice ea en ec, .bool false] 130)) := hx3.alloc (Nat.le_trans hl4 hx3.size) _
              refine ⟨Or.inr (fun _ => ⟨⟨_, hx4⟩, rfl⟩), ?_⟩
              have hyw4 : Below w.heap.size w (y3.alloc (.cells #[.slice ka kn kc, .slice ea en ec, .bool false] 130)) := hbw4.trans (hx4.mono (by omega))
              have hyw3 : Below w.heap.size w y3 := hbw4.trans (hx3.mono (by omega))
              have HP4 := hide (HP.out.below hyw4)
              refine mixT_one (k := 8) (by kernel_rfl) rfl ?_
              go_wp2_with (go_at_call 48; refine (commit_full _ P S A ps _ HP4.out).mono ?_; rintro e y5 ⟨rfl, rfl⟩)
              refine ⟨Or.inl (by kernel_rfl), ?_⟩
              refine mixT_one (k := 9) (by kernel_rfl) rfl ?_
              go_wp2
              refine ⟨Or.inr (fun h => h), ?_⟩
              refine mixT_nil (by kernel_rfl) ?_
              go_wp2
              go_ret
              exact ⟨rfl, Cmd.of_below HP.out hyw4⟩
        | false =>
          go_enter Tryd.func16, Tryd.ntmps16
          go_upto_region 4 with fail
          go_loopw [13] (fun j wr => ∃ q : Nat, q ≤ 3 ∧ j = .int .i64 q ∧ w.alloc (.cells #[.int .u32 id, .int .i64 l0, .int .i64 l1, .int .i64 l2] 43) = wr ∧ Hid (∀ x ∈ [l0, l1, l2].take q, 0 ≤ x ∧ x ≤ 5256000)) (fun j _ => 3 - (intOf j).toNat)
          case atStart => exact ⟨0, by omega, rfl, rfl, by show ∀ x ∈ List.take 0 [l0, l1, l2], _; simp⟩
          case round =>
            obtain ⟨q, hq, rfl, rfl, HI⟩ := hrel
            by_cases hlt : q < 3
            · obtain ⟨x, pre, htk, htk1, hix, hmem⟩ : ∃ x pre, [l0, l1, l2].take q = pre ∧ [l0, l1, l2].take (q + 1) = pre ++ [x] ∧ (∀ W, (Instr.index 30 (.agg #[.int .i64 l0, .int .i64 l1, .int .i64 l2]) (.int .i64 (q : Int))).run Tryd.prog W = .ok (.int .i64 x) W) ∧ x ∈ [l0, l1, l2] := by
                rcases (show q = 0 ∨ q = 1 ∨ q = 2 by omega) with rfl | rfl | rfl
                · exact ⟨_, _, rfl, rfl, fun W => by kernel_rfl, by simp⟩
                · exact ⟨_, _, rfl, rfl, fun W => by kernel_rfl, by simp⟩
                · exact ⟨_, _, rfl, rfl, fun W => by kernel_rfl, by simp⟩
              obtain ⟨b1, b2⟩ := HLIM.out x hmem
              have HT0 := hide htk
              have HT1 := hide htk1
              clear htk htk1 hmem
              have b3 : ¬ x < 0 := by omega
              have b4 : ¬ 5256000 < x := by omega
              go_wp2
              go_roundw
              case measure => simp [intOf]; omega
              case rel =>
                refine ⟨q + 1, by omega, by go_num, by first | rfl | trivial, ?_⟩
                show ∀ y ∈ [l0, l1, l2].take (q + 1), 0 ≤ y ∧ y ≤ 5256000
                rw [HT1.out]
                intro y hy
                rcases List.mem_append.1 hy with hy | hy
                · exact HI.out y (by rw [HT0.out]; exact hy)
                · rw [List.mem_singleton.1 hy]; omega
            · have hq3 : q = 3 := by omega
              subst hq3
              go_upto_region 11 with (go_at_call 47; refine HHAS.out.mono ?_; rintro e w4 ⟨rfl, hb1⟩)
              have hbw4 : Below w.heap.size w w4 := hbw0.trans (hb1.mono (by simp))
              have d0 : w4.cell? ⟨w.heap.size, 0, none⟩ = some (.int .u32 id) := (hb1.cell (p := ⟨w.heap.size, 0, none⟩) (by simp)).trans (by simp)
              have d1 : w4.cell? ⟨w.heap.size, 1, none⟩ = some (.int .i64 l0) := (hb1.cell (p := ⟨w.heap.size, 1, none⟩) (by simp)).trans (by simp)
              have d2 : w4.cell? ⟨w.heap.size, 2, none⟩ = some (.int .i64 l1) := (hb1.cell (p := ⟨w.heap.size, 2, none⟩) (by simp)).trans (by simp)
              have d3 : w4.cell? ⟨w.heap.size, 3, none⟩ = some (.int .i64 l2) := (hb1.cell (p := ⟨w.heap.size, 3, none⟩) (by simp)).trans (by simp)
              have hl4 : w.heap.size + 1 ≤ w4.heap.size := by have := hb1.size; simpa using this
              clear hb1 HHAS
              refine wp_region_mixT (w.heap.size + 1) [2, 4] (by kernel_rfl) ?_
              refine mixT_slots [0, 1] (fuel := 8) rfl (by kernel_rfl) (by kernel_rfl) (fun d _ _ _ _ h => by cases d <;> exact h) ?_
              simp only [opersAt, List.getElem?_toArray, List.getElem?_cons_zero, List.getElem?_cons_succ]
              repeat (go_big_quiet_step (fail))
              refine wpQuiet_nil ?_
              refine mixT_reads [2, 4] (fuel := 6) rfl (by kernel_rfl) (by decide) (by kernel_rfl) (fun d _ _ _ _ h => by cases d <;> exact h) (ext_drew _ _) ?_
              simp only [opersAt, List.getElem?_toArray, List.getElem?_cons_zero, List.getElem?_cons_succ]
              repeat (go_big_quiet_step (fail))
              refine wpQuiet_nil ?_
              refine mixT_one (k := 3) (by kernel_rfl) rfl ?_
              go_wp2_with (go_at_call 49; refine (key_calls _ 97 id (by decide) hid).mono ?_; rintro e y2 ⟨kv, rfl, hownK, hy2⟩)
              have hx2 : Below (w.heap.size + 1) w4 y2 := ((Below.refl _ _).drew).trans (hy2.mono hl4)
              refine ⟨Or.inr (fun _ => ⟨⟨_, hx2⟩, rfl⟩), ?_⟩
              obtain ⟨ka, kn, kc, rfl⟩ := hownK.sform
              refine mixT_one (k := 5) (by kernel_rfl) rfl ?_
              have hyw2 : Below w.heap.size w y2 := hbw4.trans (hx2.mono (by omega))
              go_wp2_with (go_at_call 50; refine (encodeAnalyte_calls _ id l0 l1 l2 k0 k1 k2).mono ?_; rintro e y3 ⟨ev, rfl, hownE, hy3⟩)
              have hx3 : Below (w.heap.size + 1) w4 y3 := hx2.trans (hy3.mono (Nat.le_trans hl4 hx2.size))
              refine ⟨Or.inr (fun _ => ⟨⟨_, hx3⟩, rfl⟩), ?_⟩
              obtain ⟨ea, en, ec, rfl⟩ := hownE.sform
              refine mixT_one (k := 6) (by kernel_rfl) rfl ?_
              go_wp2
              refine ⟨Or.inr (fun h => h), ?_⟩
              refine mixT_one (k := 7) (by kernel_rfl) rfl ?_
              go_wp2
              have hx4 : Below (w.heap.size + 1) w4 (y3.alloc (.cells #[.slice ka kn kc, .slice ea en ec, .bool false] 130)) := hx3.alloc (Nat.le_trans hl4 hx3.size) _
              refine ⟨Or.inr (fun _ => ⟨⟨_, hx4⟩, rfl⟩), ?_⟩
              have hyw4 : Below w.heap.size w (y3.alloc (.cells #[.slice ka kn kc, .slice ea en ec, .bool false] 130)) := hbw4.trans (hx4.mono (by omega))
              have hyw3 : Below w.heap.size w y3 := hbw4.trans (hx3.mono (by omega))
              have HP4 := hide (HP.out.below hyw4)
              have hl2 : w.heap.size ≤ y2.heap.size := hyw2.size
              have hlX : w.heap.size ≤ w4.heap.size := hbw4.size
              have HWR := hide (writes_one (((OwnR.below hownK hy3 (Nat.le_refl _)).lower (by simpa using hlX)).bytes (by rw [keyB_len]; omega)) ((hownE.lower hl2).bytes (by rw [anaB_len]; omega)) hyw3.size)
              refine mixT_one (k := 8) (by kernel_rfl) rfl ?_
              go_wp2_with (go_at_call 48; refine (commit_calls _ P S A _ ps _ _ HP4.out HWR.out (fun b hb => by have h9 : w.heap.size ≤ b := hb; omega) (by simp; omega)).mono ?_; rintro e y5 ⟨rfl, hk5, hs5⟩)
              refine ⟨Or.inl (by kernel_rfl), ?_⟩
              refine mixT_one (k := 9) (by kernel_rfl) rfl ?_
              go_wp2
              refine ⟨Or.inr (fun h => h), ?_⟩
              refine mixT_nil (by kernel_rfl) ?_
              go_wp2
              go_ret
              exact ⟨rfl, Cmd.of_commit HP.out.store hyw4 hk5 hs5⟩

theorem all_take_succ {ids : List Int} {q : Nat} (p : Int → Bool) (h : q < ids.length) (ha : (ids.take q).all p = true) (hx : p ids[q] = true) : (ids.take (q + 1)).all p = true := by
  rw [List.take_succ_eq_append_getElem h, List.all_append, ha]; simp [hx]

set_option maxRecDepth 100000 in
set_option maxHeartbeats 4000000 in
theorem definePanel_calls (w : World) (P S : Nat) (A ok : Nat → Prop) (ps : List KV) (full : Bool) (id : Int) (lv : Value) (ids : List Int) (h : PAt w P S A ps full) (hid : U32 id) (hl : U32sAt w ok lv ids) (hr : ∀ x ∈ ids, U32 x) (hps : ps.length ≤ 900000) :
    Calls Tryd.prog 17 #[.pointer (some ⟨P, 0, none⟩), .agg #[.int .u32 id, lv]] w fun e w' => e = .returned (errOr (panErr ps full id ids)) ∧ Cmd w w' S A (cmdPs (panErr ps full id ids) ps [(keyB 112 id, idsB ids)]) full := by
  have HP := hide h
  have hSl := h.store.size
  obtain ⟨L, hL⟩ : ∃ L, ids.length = L := ⟨_, rfl⟩
  obtain ⟨la, lc, b, off, rfl, r1, r2, r3, r4, ha, hc⟩ := hl.parts L hL
  have hbw0 : Below w.heap.size w (w.alloc (.cells #[.int .u32 id, .slice la L lc] 78)) := (Below.refl _ _).alloc (Nat.le_refl _) _
  have HP0 := hide (h.below hbw0)
  have HL := hide hl
  have HCK := hide (checkList_calls _ ok _ ids 8 (hl.below hbw0) (by decide))
  have hi := run_indexAt_arr (P := Tryd.prog) (n := L) (cap := lc) Tryd.underlying31 Tryd.size29 (fun h => (ha h).1)
  have HBL : Hid (0 < L → b < w.heap.size) := fun h => (ha h).2.2
  have HC := hide hc
  have HN := hide hL
  have HR := hide hr
  clear h hl ha hc hL hr
  unfold panErr
  by_cases h0 : id = 0
  · subst h0
    go_enter Tryd.func17, Tryd.ntmps17
    go_wp2
    go_ret
    exact ⟨rfl, Cmd.of_below HP.out hbw0⟩
  · have hb0 : (id == 0) = false := by simp [h0]
    rw [if_neg h0]
    clear h0
    by_cases hle : listErr ids 8 = 0
    · have hlen8 : L ≤ 8 := by
        have h1 := hle
        unfold listErr at h1
        rw [← HN.out]
        by_cases hc : ids.length = 0 ∨ 8 < ids.length
        · rw [if_pos hc] at h1; cases h1
        · omega
      rw [if_neg (by simp [hle])]
      rw [hle, errOr_zero] at HCK
      clear hle
      have HHAS := hide (has_calls _ P S A ps full 112 id HP0.out (by decide) hid)
      cases hg : (getB ps (keyB 112 id)).isSome with
      | true =>
        rw [hg] at HHAS
        go_enter Tryd.func17, Tryd.ntmps17
        go_upto_region 6 with (go_at_call 51; refine HCK.out.mono ?_; rintro e w1 ⟨rfl, rfl⟩)
        go_wp2_with (go_at_call 47; refine HHAS.out.mono ?_; rintro e w1 ⟨rfl, hb1⟩)
        go_ret
        exact ⟨rfl, Cmd.of_below HP.out (hbw0.trans (hb1.mono (by simp)))⟩
      | false =>
        rw [hg] at HHAS
        simp only [Bool.false_eq_true, if_false]
        cases hAL : ids.all (fun x => (getB ps (keyB 97 x)).isSome) with
        | false =>
          have HAL := hide hAL
          clear hAL
          simp only [Bool.false_eq_true, if_false]
          go_enter Tryd.func17, Tryd.ntmps17
          go_upto_region 6 with (go_at_call 51; refine HCK.out.mono ?_; rintro e w1 ⟨rfl, rfl⟩)
          go_upto_region 8 with (go_at_call 47; refine HHAS.out.mono ?_; rintro e w1 ⟨rfl, hb1⟩)
          have e1 : w1.cell? ⟨w.heap.size, 1, none⟩ = some (.slice la L lc) := (hb1.cell (p := ⟨w.heap.size, 1, none⟩) (by simp)).trans (by simp)
          have hb1' : Below (w.heap.size + 1) (w.alloc (.cells #[.int .u32 id, .slice la L lc] 78)) w1 := by simpa using hb1
          clear hb1
          go_wp2
          go_loopw [26] (fun j wr => ∃ q : Nat, q ≤ L ∧ j = .int .i64 q ∧ Below (w.heap.size + 1) (w.alloc (.cells #[.int .u32 id, .slice la L lc] 78)) wr ∧ Hid ((ids.take q).all (fun x => (getB ps (keyB 97 x)).isSome) = true)) (fun j _ => L - (intOf j).toNat)
          case atStart => exact ⟨0, by omega, rfl, hb1', by show _ = true; simp⟩
          case round =>
            obtain ⟨q, hq, rfl, hbel, HQ⟩ := hrel
            have hbwr : Below w.heap.size w wr := hbw0.trans (hbel.mono (by omega))
            have hlr : w.heap.size + 1 ≤ wr.heap.size := by have := hbel.size; simpa using this
            by_cases hlt : q < L
            · have hql : q < ids.length := by rw [HN.out]; exact hlt
              have c0 := HC.out q hql
              have hbb := HBL.out (by omega)
              have c1 : wr.cell? ⟨b, off + q, none⟩ = some (.int .u32 ids[q]) := (hbwr.cell (p := ⟨b, off + q, none⟩) hbb).trans c0
              have hxr := HR.out ids[q] (List.getElem_mem hql)
              have HSTEP := hide (fun hx => all_take_succ (fun x => (getB ps (keyB 97 x)).isSome) hql HQ.out hx)
              have HMEM := hide (List.getElem_mem hql)
              have HHA := hide (has_calls wr P S A ps _ 97 ids[q] (HP.out.below hbwr) (by decide) hxr)
              generalize ids[q] = x at *
              clear c0
              cases hx : (getB ps (keyB 97 x)).isSome with
              | true =>
                rw [hx] at HHA
                have HST := hide (HSTEP.out hx)
                go_wp2_with (go_at_call 47; refine HHA.out.mono ?_; rintro e w2 ⟨rfl, hb2⟩)
                go_roundw
                case measure => simp [intOf]; omega
                case rel => exact ⟨q + 1, by omega, by go_num, hbel.trans (hb2.mono hlr), HST⟩
              | false =>
                rw [hx] at HHA
                go_wp2_with (go_at_call 47; refine HHA.out.mono ?_; rintro e w2 ⟨rfl, hb2⟩)
                go_ret
                exact ⟨rfl, Cmd.of_below HP.out (hbwr.trans (hb2.mono hbwr.size))⟩
            · have hqL : q = L := by omega
              exfalso
              have := HQ.out
              rw [List.take_of_length_le (by rw [HN.out]; omega), HAL.out] at this
              cases this
        | true =>
          have HAL := hide hAL
          clear hAL
          simp only [if_true]
          cases full with
          | true =>
            go_enter Tryd.func17, Tryd.ntmps17
            go_upto_region 6 with (go_at_call 51; refine HCK.out.mono ?_; rintro e w1 ⟨rfl, rfl⟩)
            go_upto_region 8 with (go_at_call 47; refine HHAS.out.mono ?_; rintro e w1 ⟨rfl, hb1⟩)
            have e1 : w1.cell? ⟨w.heap.size, 1, none⟩ = some (.slice la L lc) := (hb1.cell (p := ⟨w.heap.size, 1, none⟩) (by simp)).trans (by simp)
            have hb1' : Below (w.heap.size + 1) (w.alloc (.cells #[.int .u32 id, .slice la L lc] 78)) w1 := by simpa using hb1
            clear hb1
            go_wp2
            go_loopw [26] (fun j wr => ∃ q : Nat, q ≤ L ∧ j = .int .i64 q ∧ Below (w.heap.size + 1) (w.alloc (.cells #[.int .u32 id, .slice la L lc] 78)) wr ∧ Hid ((ids.take q).all (fun x => (getB ps (keyB 97 x)).isSome) = true)) (fun j _ => L - (intOf j).toNat)
            case atStart => exact ⟨0, by omega, rfl, hb1', by show _ = true; simp⟩
            case round =>
              obtain ⟨q, hq, rfl, hbel, HQ⟩ := hrel
              have hbwr : Below w.heap.size w wr := hbw0.trans (hbel.mono (by omega))
              have hlr : w.heap.size + 1 ≤ wr.heap.size := by have := hbel.size; simpa using this
              by_cases hlt : q < L
              · have hql : q < ids.length := by rw [HN.out]; exact hlt
                have c0 := HC.out q hql
                have hbb := HBL.out (by omega)
                have c1 : wr.cell? ⟨b, off + q, none⟩ = some (.int .u32 ids[q]) := (hbwr.cell (p := ⟨b, off + q, none⟩) hbb).trans c0
                have hxr := HR.out ids[q] (List.getElem_mem hql)
                have HSTEP := hide (fun hx => all_take_succ (fun x => (getB ps (keyB 97 x)).isSome) hql HQ.out hx)
                have HMEM := hide (List.getElem_mem hql)
                have HHA := hide (has_calls wr P S A ps _ 97 ids[q] (HP.out.below hbwr) (by decide) hxr)
                generalize ids[q] = x at *
                clear c0
                cases hx : (getB ps (keyB 97 x)).isSome with
                | true =>
                  rw [hx] at HHA
                  have HST := hide (HSTEP.out hx)
                  go_wp2_with (go_at_call 47; refine HHA.out.mono ?_; rintro e w2 ⟨rfl, hb2⟩)
                  go_roundw
                  case measure => simp [intOf]; omega
                  case rel => exact ⟨q + 1, by omega, by go_num, hbel.trans (hb2.mono hlr), HST⟩
                | false =>
                  rw [hx] at HHA
                  exfalso
                  have := List.all_eq_true.1 HAL.out x HMEM.out
                  simp only [hx] at this
                  cases this
              · have hqL : q = L := by omega
                go_upto_region 14 with fail
                obtain ⟨w4, hw4⟩ : ∃ w4, w4 = wr := ⟨_, rfl⟩
                subst hw4
                have hbw4 := hbwr
                have hl4 := hlr
                have d0 : w4.cell? ⟨w.heap.size, 0, none⟩ = some (.int .u32 id) := (hbel.cell (p := ⟨w.heap.size, 0, none⟩) (by simp)).trans (by simp)
                have d1 : w4.cell? ⟨w.heap.size, 1, none⟩ = some (.slice la L lc) := (hbel.cell (p := ⟨w.heap.size, 1, none⟩) (by simp)).trans (by simp)
                refine wp_region_mixT (w.heap.size + 1) [2, 4] (by kernel_rfl) ?_
                refine mixT_slots [0, 1] (fuel := 8) rfl (by kernel_rfl) (by kernel_rfl) (fun d _ _ _ _ h => by cases d <;> exact h) ?_
                simp only [opersAt, List.getElem?_toArray, List.getElem?_cons_zero, List.getElem?_cons_succ]
                repeat (go_big_quiet_step (fail))
                refine wpQuiet_nil ?_
                refine mixT_reads [2, 4] (fuel := 6) rfl (by kernel_rfl) (by decide) (by kernel_rfl) (fun d _ _ _ _ h => by cases d <;> exact h) (ext_drew _ _) ?_
                simp only [opersAt, List.getElem?_toArray, List.getElem?_cons_zero, List.getElem?_cons_succ]
                repeat (go_big_quiet_step (fail))
                refine wpQuiet_nil ?_
                refine mixT_one (k := 3) (by kernel_rfl) rfl ?_
                go_wp2_with (go_at_call 49; refine (key_calls _ 112 id (by decide) hid).mono ?_; rintro e y2 ⟨kv, rfl, hownK, hy2⟩)
                have hx2 : Below (w.heap.size + 1) w4 y2 := ((Below.refl _ _).drew).trans (hy2.mono hl4)
                refine ⟨Or.inr (fun _ => ⟨⟨_, hx2⟩, rfl⟩), ?_⟩
                obtain ⟨ka, kn, kc, rfl⟩ := hownK.sform
                refine mixT_one (k := 5) (by kernel_rfl) rfl ?_
                have hyw2 : Below w.heap.size w y2 := hbw4.trans (hx2.mono (by omega))
                go_wp2_with (go_at_call 52; refine (encodePanel_calls _ id ok _ ids (HL.out.below hyw2) HR.out (by rw [HN.out]; omega)).mono ?_; rintro e y3 ⟨ev, rfl, hownE, hy3⟩)
                have hx3 : Below (w.heap.size + 1) w4 y3 := hx2.trans (hy3.mono (Nat.le_trans hl4 hx2.size))
                refine ⟨Or.inr (fun _ => ⟨⟨_, hx3⟩, rfl⟩), ?_⟩
                obtain ⟨ea, en, ec, rfl⟩ := hownE.sform
                refine mixT_one (k := 6) (by kernel_rfl) rfl ?_
                go_wp2
                refine ⟨Or.inr (fun h => h), ?_⟩
                refine mixT_one (k := 7) (by kernel_rfl) rfl ?_
                go_wp2
                have hx4 : Below (w.heap.size + 1) w4 (y3.alloc (.cells #[.slice ka kn kc, .slice ea en ec, .bool false] 130)) := hx3.alloc (Nat.le_trans hl4 hx3.size) _
                refine ⟨Or.inr (fun _ => ⟨⟨_, hx4⟩, rfl⟩), ?_⟩
                have hyw4 : Below w.heap.size w (y3.alloc (.cells #[.slice ka kn kc, .slice ea en ec, .bool false] 130)) := hbw4.trans (hx4.mono (by omega))
                have hyw3 : Below w.heap.size w y3 := hbw4.trans (hx3.mono (by omega))
                have HP4 := hide (HP.out.below hyw4)
                refine mixT_one (k := 8) (by kernel_rfl) rfl ?_
                go_wp2_with (go_at_call 48; refine (commit_full _ P S A ps _ HP4.out).mono ?_; rintro e y5 ⟨rfl, rfl⟩)
                refine ⟨Or.inl (by kernel_rfl), ?_⟩
                refine mixT_one (k := 9) (by kernel_rfl) rfl ?_
                go_wp2
                refine ⟨Or.inr (fun h => h), ?_⟩
                refine mixT_nil (by kernel_rfl) ?_
                go_wp2
                go_ret
                exact ⟨rfl, Cmd.of_below HP.out hyw4⟩
          | false =>
            go_enter Tryd.func17, Tryd.ntmps17
            go_upto_region 6 with (go_at_call 51; refine HCK.out.mono ?_; rintro e w1 ⟨rfl, rfl⟩)
            go_upto_region 8 with (go_at_call 47; refine HHAS.out.mono ?_; rintro e w1 ⟨rfl, hb1⟩)
            have e1 : w1.cell? ⟨w.heap.size, 1, none⟩ = some (.slice la L lc) := (hb1.cell (p := ⟨w.heap.size, 1, none⟩) (by simp)).trans (by simp)
            have hb1' : Below (w.heap.size + 1) (w.alloc (.cells #[.int .u32 id, .slice la L lc] 78)) w1 := by simpa using hb1
            clear hb1
            go_wp2
            go_loopw [26] (fun j wr => ∃ q : Nat, q ≤ L ∧ j = .int .i64 q ∧ Below (w.heap.size + 1) (w.alloc (.cells #[.int .u32 id, .slice la L lc] 78)) wr ∧ Hid ((ids.take q).all (fun x => (getB ps (keyB 97 x)).isSome) = true)) (fun j _ => L - (intOf j).toNat)
            case atStart => exact ⟨0, by omega, rfl, hb1', by show _ = true; simp⟩
            case round =>
              obtain ⟨q, hq, rfl, hbel, HQ⟩ := hrel
              have hbwr : Below w.heap.size w wr := hbw0.trans (hbel.mono (by omega))
              have hlr : w.heap.size + 1 ≤ wr.heap.size := by have := hbel.size; simpa using this
              by_cases hlt : q < L
              · have hql : q < ids.length := by rw [HN.out]; exact hlt
                have c0 := HC.out q hql
                have hbb := HBL.out (by omega)
                have c1 : wr.cell? ⟨b, off + q, none⟩ = some (.int .u32 ids[q]) := (hbwr.cell (p := ⟨b, off + q, none⟩) hbb).trans c0
                have hxr := HR.out ids[q] (List.getElem_mem hql)
                have HSTEP := hide (fun hx => all_take_succ (fun x => (getB ps (keyB 97 x)).isSome) hql HQ.out hx)
                have HMEM := hide (List.getElem_mem hql)
                have HHA := hide (has_calls wr P S A ps _ 97 ids[q] (HP.out.below hbwr) (by decide) hxr)
                generalize ids[q] = x at *
                clear c0
                cases hx : (getB ps (keyB 97 x)).isSome with
                | true =>
                  rw [hx] at HHA
                  have HST := hide (HSTEP.out hx)
                  go_wp2_with (go_at_call 47; refine HHA.out.mono ?_; rintro e w2 ⟨rfl, hb2⟩)
                  go_roundw
                  case measure => simp [intOf]; omega
                  case rel => exact ⟨q + 1, by omega, by go_num, hbel.trans (hb2.mono hlr), HST⟩
                | false =>
                  rw [hx] at HHA
                  exfalso
                  have := List.all_eq_true.1 HAL.out x HMEM.out
                  simp only [hx] at this
                  cases this
              · have hqL : q = L := by omega
                go_upto_region 14 with fail
                obtain ⟨w4, hw4⟩ : ∃ w4, w4 = wr := ⟨_, rfl⟩
                subst hw4
                have hbw4 := hbwr
                have hl4 := hlr
                have d0 : w4.cell? ⟨w.heap.size, 0, none⟩ = some (.int .u32 id) := (hbel.cell (p := ⟨w.heap.size, 0, none⟩) (by simp)).trans (by simp)
                have d1 : w4.cell? ⟨w.heap.size, 1, none⟩ = some (.slice la L lc) := (hbel.cell (p := ⟨w.heap.size, 1, none⟩) (by simp)).trans (by simp)
                refine wp_region_mixT (w.heap.size + 1) [2, 4] (by kernel_rfl) ?_
                refine mixT_slots [0, 1] (fuel := 8) rfl (by kernel_rfl) (by kernel_rfl) (fun d _ _ _ _ h => by cases d <;> exact h) ?_
                simp only [opersAt, List.getElem?_toArray, List.getElem?_cons_zero, List.getElem?_cons_succ]
                repeat (go_big_quiet_step (fail))
                refine wpQuiet_nil ?_
                refine mixT_reads [2, 4] (fuel := 6) rfl (by kernel_rfl) (by decide) (by kernel_rfl) (fun d _ _ _ _ h => by cases d <;> exact h) (ext_drew _ _) ?_
                simp only [opersAt, List.getElem?_toArray, List.getElem?_cons_zero, List.getElem?_cons_succ]
                repeat (go_big_quiet_step (fail))
                refine wpQuiet_nil ?_
                refine mixT_one (k := 3) (by kernel_rfl) rfl ?_
                go_wp2_with (go_at_call 49; refine (key_calls _ 112 id (by decide) hid).mono ?_; rintro e y2 ⟨kv, rfl, hownK, hy2⟩)
                have hx2 : Below (w.heap.size + 1) w4 y2 := ((Below.refl _ _).drew).trans (hy2.mono hl4)
                refine ⟨Or.inr (fun _ => ⟨⟨_, hx2⟩, rfl⟩), ?_⟩
                obtain ⟨ka, kn, kc, rfl⟩ := hownK.sform
                refine mixT_one (k := 5) (by kernel_rfl) rfl ?_
                have hyw2 : Below w.heap.size w y2 := hbw4.trans (hx2.mono (by omega))
                go_wp2_with (go_at_call 52; refine (encodePanel_calls _ id ok _ ids (HL.out.below hyw2) HR.out (by rw [HN.out]; omega)).mono ?_; rintro e y3 ⟨ev, rfl, hownE, hy3⟩)
                have hx3 : Below (w.heap.size + 1) w4 y3 := hx2.trans (hy3.mono (Nat.le_trans hl4 hx2.size))
                refine ⟨Or.inr (fun _ => ⟨⟨_, hx3⟩, rfl⟩), ?_⟩
                obtain ⟨ea, en, ec, rfl⟩ := hownE.sform
                refine mixT_one (k := 6) (by kernel_rfl) rfl ?_
                go_wp2
                refine ⟨Or.inr (fun h => h), ?_⟩
                refine mixT_one (k := 7) (by kernel_rfl) rfl ?_
                go_wp2
                have hx4 : Below (w.heap.size + 1) w4 (y3.alloc (.cells #[.slice ka kn kc, .slice ea en ec, .bool false] 130)) := hx3.alloc (Nat.le_trans hl4 hx3.size) _
                refine ⟨Or.inr (fun _ => ⟨⟨_, hx4⟩, rfl⟩), ?_⟩
                have hyw4 : Below w.heap.size w (y3.alloc (.cells #[.slice ka kn kc, .slice ea en ec, .bool false] 130)) := hbw4.trans (hx4.mono (by omega))
                have hyw3 : Below w.heap.size w y3 := hbw4.trans (hx3.mono (by omega))
                have HP4 := hide (HP.out.below hyw4)
                have hl2 : w.heap.size ≤ y2.heap.size := hyw2.size
                have hlX : w.heap.size ≤ w4.heap.size := hbw4.size
                have HWR := hide (writes_one (((OwnR.below hownK hy3 (Nat.le_refl _)).lower (by simpa using hlX)).bytes (by rw [keyB_len]; omega)) ((hownE.lower hl2).bytes (by rw [idsB_len, HN.out]; omega)) hyw3.size)
                refine mixT_one (k := 8) (by kernel_rfl) rfl ?_
                go_wp2_with (go_at_call 48; refine (commit_calls _ P S A _ ps _ _ HP4.out HWR.out (fun b hb => by have h9 : w.heap.size ≤ b := hb; omega) (by simp; omega)).mono ?_; rintro e y5 ⟨rfl, hk5, hs5⟩)
                refine ⟨Or.inl (by kernel_rfl), ?_⟩
                refine mixT_one (k := 9) (by kernel_rfl) rfl ?_
                go_wp2
                refine ⟨Or.inr (fun h => h), ?_⟩
                refine mixT_nil (by kernel_rfl) ?_
                go_wp2
                go_ret
                exact ⟨rfl, Cmd.of_commit HP.out.store hyw4 hk5 hs5⟩
    · rw [if_pos hle]
      rw [errOr_pos hle]
      rw [errOr_pos hle] at HCK
      have HLE := hide hle
      have HPSE : Hid (cmdPs (listErr ids 8) ps [(keyB 112 id, idsB ids)] = ps) := by show _ = _; rw [cmdPs, if_neg HLE.out]
      rw [HPSE.out]
      generalize listErr ids 8 = LE at *
      clear hle
      go_enter Tryd.func17, Tryd.ntmps17
      go_wp2_with (go_at_call 51; refine HCK.out.mono ?_; rintro e w1 ⟨rfl, rfl⟩)
      go_ret
      exact ⟨rfl, Cmd.of_below HP.out hbw0⟩

end Go.Proofs.Qxb6500665aDoor
