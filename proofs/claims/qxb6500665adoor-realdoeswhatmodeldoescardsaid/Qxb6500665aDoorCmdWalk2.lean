/- Enrol, DefineAnalyte, DefinePanel, walked. (Made by tools/mk_cmds.py.) -/
import Derived.Test.Qxb6500665aDoorCmdWalk
namespace Go.Proofs.Qxb6500665aDoor
open Go.RowKit Go.Proofs.Qxb6500665aDoor.Cal

attribute [local go_sem] ext_const Ext.cell Ext.frozen Ext.rng Ext.whole
attribute [local go_sem ↓] exec_stVersion
attribute [local go_sem] run_stVersion ones_iis whole_alloc_lt whole_alloc_at whole_drew whole_setCell_other whole_setRow_other setRow_alloc_at setRow_alloc_lt

def enrErr (ps : List KV) (vers : List Ver) (full : Bool) (id site anchor : Int) : Int :=
  if id = 0 then 2 else if anchor < 0 ∨ 157785119 < anchor then 3 else if (getB ps (keyB 117 id)).isSome then 9 else if !(getB ps (keyB 115 site)).isSome then 16 else if inF vers anchor = none then 20 else if full then 21 else 0

theorem subB_len (s a : Int) : (subB s a).length = 12 := by simp [subB, d256_len]
theorem anaB_len (a b c : Int) : (anaB a b c).length = 24 := by simp [anaB, d256_len]

set_option maxRecDepth 100000 in
set_option maxHeartbeats 4000000 in
theorem enrol_calls (w : World) (P S : Nat) (A : Nat → Prop) (ps : List KV) (full : Bool) (vers : List Ver) (id site anchor : Int) (h : PAt w P S A ps full) (hv : VersRep ps vers) (hid : U32 id) (hsi : U32 site) (han : I64 anchor) (hps : ps.length ≤ 900000) :
    Calls Tryd.prog 20 #[.pointer (some ⟨P, 0, none⟩), .agg #[.int .u32 id, .int .u32 site, .int .i64 anchor]] w fun e w' => e = .returned (errOr (enrErr ps vers full id site anchor)) ∧ Cmd w w' S A (cmdPs (enrErr ps vers full id site anchor) ps [(keyB 117 id, subB site anchor)]) full := by
  have HP := hide h
  have HV := hide hv
  have hSl := h.store.size
  have hbw0 : Below w.heap.size w (w.alloc (.cells #[.int .u32 id, .int .u32 site, .int .i64 anchor] 45)) := (Below.refl _ _).alloc (Nat.le_refl _) _
  have HP0 := hide (h.below hbw0)
  clear h hv
  unfold enrErr
  by_cases h0 : id = 0
  · subst h0
    go_enter Tryd.func20, Tryd.ntmps20
    go_wp2
    go_ret
    exact ⟨rfl, Cmd.of_below HP.out hbw0⟩
  · have hb0 : (id == 0) = false := by simp [h0]
    rw [if_neg h0]
    clear h0
    by_cases hm : anchor < 0 ∨ 157785119 < anchor
    · rw [if_pos hm]
      have HM := hide hm
      clear hm
      go_enter Tryd.func20, Tryd.ntmps20
      go_wp2_with (go_at_call 53; refine (checkMinute_bad _ _ HM.out).mono ?_; rintro e w' ⟨rfl, rfl⟩)
      go_ret
      exact ⟨rfl, Cmd.of_below HP.out hbw0⟩
    · rw [if_neg hm]
      have m1 : 0 ≤ anchor := by omega
      have m2 : anchor ≤ 157785119 := by omega
      clear hm
      have HHAS := hide (has_calls _ P S A ps full 117 id HP0.out (by decide) hid)
      cases hg : (getB ps (keyB 117 id)).isSome with
      | true =>
        rw [hg] at HHAS
        go_enter Tryd.func20, Tryd.ntmps20
        go_upto_region 6 with (go_at_call 53; refine (checkMinute_ok _ _ m1 m2).mono ?_; rintro e w' ⟨rfl, rfl⟩)
        go_wp2_with (go_at_call 47; refine HHAS.out.mono ?_; rintro e w1 ⟨rfl, hb1⟩)
        go_ret
        exact ⟨rfl, Cmd.of_below HP.out (hbw0.trans (hb1.mono (by simp)))⟩
      | false =>
        rw [hg] at HHAS
        simp only [Bool.false_eq_true, if_false]
        cases hg2 : (getB ps (keyB 115 site)).isSome with
        | false =>
          go_enter Tryd.func20, Tryd.ntmps20
          go_upto_region 6 with (go_at_call 53; refine (checkMinute_ok _ _ m1 m2).mono ?_; rintro e w' ⟨rfl, rfl⟩)
          go_upto_region 8 with (go_at_call 47; refine HHAS.out.mono ?_; rintro e w1 ⟨rfl, hb1⟩)
          have hbw1 : Below w.heap.size w w1 := hbw0.trans (hb1.mono (by simp))
          have c1 : w1.cell? ⟨w.heap.size, 1, none⟩ = some (.int .u32 site) := (hb1.cell (p := ⟨w.heap.size, 1, none⟩) (by simp)).trans (by simp)
          have HHAS2 := hide (has_calls w1 P S A ps full 115 site (HP.out.below hbw1) (by decide) hsi)
          rw [hg2] at HHAS2
          go_wp2_with (go_at_call 47; refine HHAS2.out.mono ?_; rintro e w2 ⟨rfl, hb2⟩)
          go_ret
          exact ⟨rfl, Cmd.of_below HP.out (hbw1.trans (hb2.mono hbw1.size))⟩
        | true =>
          simp only [Bool.not_true, Bool.false_eq_true, if_false]
          cases hin : inF vers anchor with
          | none =>
            go_enter Tryd.func20, Tryd.ntmps20
            go_upto_region 6 with (go_at_call 53; refine (checkMinute_ok _ _ m1 m2).mono ?_; rintro e w' ⟨rfl, rfl⟩)
            go_upto_region 8 with (go_at_call 47; refine HHAS.out.mono ?_; rintro e w1 ⟨rfl, hb1⟩)
            have hbw1 : Below w.heap.size w w1 := hbw0.trans (hb1.mono (by simp))
            have c1 : w1.cell? ⟨w.heap.size, 1, none⟩ = some (.int .u32 site) := (hb1.cell (p := ⟨w.heap.size, 1, none⟩) (by simp)).trans (by simp)
            have HHAS2 := hide (has_calls w1 P S A ps full 115 site (HP.out.below hbw1) (by decide) hsi)
            rw [hg2] at HHAS2
            have hl1 : w.heap.size < w1.heap.size := by have := hb1.size; simp at this; omega
            go_upto_region 10 with (go_at_call 47; refine HHAS2.out.mono ?_; rintro e w2 ⟨rfl, hb2⟩)
            have hbw2 : Below w.heap.size w w2 := hbw1.trans (hb2.mono hbw1.size)
            have c2 : w2.cell? ⟨w.heap.size, 2, none⟩ = some (.int .i64 anchor) := (hb2.cell (p := ⟨w.heap.size, 2, none⟩) hl1).trans ((hb1.cell (p := ⟨w.heap.size, 2, none⟩) (by simp)).trans (by simp))
            have HVA := hide (versionAt_calls w2 P S A ps full vers anchor (HP.out.below hbw2) HV.out m1 m2)
            rw [hin] at HVA
            go_wp2_with (go_at_call 22; refine HVA.out.mono ?_; rintro e w3 ⟨hres, hb3⟩; have hres' : e = .returned (.tuple #[.agg #[.int .u32 0, .int .i64 0, .slice none 0 0], errV 20]) := hres; clear hres; subst hres')
            go_ret
            exact ⟨rfl, Cmd.of_below HP.out ((hbw2.trans (hb3.mono hbw2.size)).alloc (Nat.le_trans hbw2.size hb3.size) _)⟩
          | some k =>
            go_enter Tryd.func20, Tryd.ntmps20
            go_upto_region 6 with (go_at_call 53; refine (checkMinute_ok _ _ m1 m2).mono ?_; rintro e w' ⟨rfl, rfl⟩)
            go_upto_region 8 with (go_at_call 47; refine HHAS.out.mono ?_; rintro e w1 ⟨rfl, hb1⟩)
            have hbw1 : Below w.heap.size w w1 := hbw0.trans (hb1.mono (by simp))
            have c1 : w1.cell? ⟨w.heap.size, 1, none⟩ = some (.int .u32 site) := (hb1.cell (p := ⟨w.heap.size, 1, none⟩) (by simp)).trans (by simp)
            have HHAS2 := hide (has_calls w1 P S A ps full 115 site (HP.out.below hbw1) (by decide) hsi)
            rw [hg2] at HHAS2
            have hl1 : w.heap.size < w1.heap.size := by have := hb1.size; simp at this; omega
            go_upto_region 10 with (go_at_call 47; refine HHAS2.out.mono ?_; rintro e w2 ⟨rfl, hb2⟩)
            have hbw2 : Below w.heap.size w w2 := hbw1.trans (hb2.mono hbw1.size)
            have hold2 : ∀ j, w2.cell? ⟨w.heap.size, j, none⟩ = (w.alloc (.cells #[.int .u32 id, .int .u32 site, .int .i64 anchor] 45)).cell? ⟨w.heap.size, j, none⟩ := fun j => (hb2.cell (p := ⟨w.heap.size, j, none⟩) hl1).trans (hb1.cell (p := ⟨w.heap.size, j, none⟩) (by simp))
            have c2 : w2.cell? ⟨w.heap.size, 2, none⟩ = some (.int .i64 anchor) := (hold2 2).trans (by simp)
            have hl2 : w.heap.size < w2.heap.size := Nat.lt_of_lt_of_le hl1 hb2.size
            have HVA := hide (versionAt_calls w2 P S A ps full vers anchor (HP.out.below hbw2) HV.out m1 m2)
            rw [hin] at HVA
            go_upto_region 13 with (go_at_call 22; refine HVA.out.mono ?_; rintro e w3 ⟨⟨hk, iv, rfl, hvis⟩, hb3⟩; obtain ⟨ia, icap, hiv⟩ := hvis.form; generalize hIL : vers[k].2.length = IL at hiv; generalize vers[k].1 = EF at *; subst hiv)
            obtain ⟨w4, hw4⟩ : ∃ w4, w4 = w3.alloc (.cells #[.int .u32 ((k : Int) + 1), .int .i64 EF, .slice ia IL icap] 41) := ⟨_, rfl⟩
            have hbw3 : Below w.heap.size w w3 := hbw2.trans (hb3.mono hbw2.size)
            have hbw4 : Below w.heap.size w w4 := by rw [hw4]; exact hbw3.alloc hbw3.size _
            have hl3 : w.heap.size < w3.heap.size := Nat.lt_of_lt_of_le hl2 hb3.size
            have hold4 : ∀ j, w4.cell? ⟨w.heap.size, j, none⟩ = w2.cell? ⟨w.heap.size, j, none⟩ := fun j => by
              rw [hw4, Below.cell ((Below.refl w3.heap.size w3).alloc (Nat.le_refl _) _) (p := ⟨w.heap.size, j, none⟩) hl3]
              exact hb3.cell (p := ⟨w.heap.size, j, none⟩) hl2
            have d0 : w4.cell? ⟨w.heap.size, 0, none⟩ = some (.int .u32 id) := (hold4 0).trans ((hold2 0).trans (by simp))
            have d1 : w4.cell? ⟨w.heap.size, 1, none⟩ = some (.int .u32 site) := (hold4 1).trans ((hold2 1).trans (by simp))
            have d2 : w4.cell? ⟨w.heap.size, 2, none⟩ = some (.int .i64 anchor) := (hold4 2).trans ((hold2 2).trans (by simp))
            have hl4 : w.heap.size + 1 ≤ w4.heap.size := by rw [hw4]; simp; omega
            have HW4 := hide hw4
            rw [← HW4.out]
            clear hw4 hvis hb1 hb2 hb3 hold2 hold4 HHAS HHAS2 HVA
            cases full with
            | true =>
              refine wp_region_mixT (w.heap.size + 1) [2, 4] (by kernel_rfl) ?_
              refine mixT_slots [0, 1] (fuel := 8) rfl (by kernel_rfl) (by kernel_rfl) (fun d _ _ _ _ h => by cases d <;> exact h) ?_
              simp only [opersAt, List.getElem?_toArray, List.getElem?_cons_zero, List.getElem?_cons_succ]
              repeat (go_big_quiet_step (fail))
              refine wpQuiet_nil ?_
              refine mixT_reads [2, 4] (fuel := 6) rfl (by kernel_rfl) (by decide) (by kernel_rfl) (fun d _ _ _ _ h => by cases d <;> exact h) (ext_drew _ _) ?_
              simp only [opersAt, List.getElem?_toArray, List.getElem?_cons_zero, List.getElem?_cons_succ]
              repeat (go_big_quiet_step (fail))
              refine wpQuiet_nil ?_
              refine mixT_one (k := 3) (by kernel_rfl) rfl ?_
              go_wp2_with (go_at_call 49; refine (key_calls _ 117 id (by decide) hid).mono ?_; rintro e y2 ⟨kv, rfl, hownK, hy2⟩)
              have hx2 : Below (w.heap.size + 1) w4 y2 := ((Below.refl _ _).drew).trans (hy2.mono hl4)
              refine ⟨Or.inr (fun _ => ⟨⟨_, hx2⟩, rfl⟩), ?_⟩
              obtain ⟨ka, kn, kc, rfl⟩ := hownK.sform
              refine mixT_one (k := 5) (by kernel_rfl) rfl ?_
              have hyw2 : Below w.heap.size w y2 := hbw4.trans (hx2.mono (by omega))
              go_wp2_with (go_at_call 60; refine (encodeSubject_calls _ id site anchor hsi han).mono ?_; rintro e y3 ⟨ev, rfl, hownE, hy3⟩)
              have hx3 : Below (w.heap.size + 1) w4 y3 := hx2.trans (hy3.mono (Nat.le_trans hl4 hx2.size))
              refine ⟨Or.inr (fun _ => ⟨⟨_, hx3⟩, rfl⟩), ?_⟩
              obtain ⟨ea, en, ec, rfl⟩ := hownE.sform
              refine mixT_one (k := 6) (by kernel_rfl) rfl ?_
              go_wp2
              refine ⟨Or.inr (fun h => h), ?_⟩
              refine mixT_one (k := 7) (by kernel_rfl) rfl ?_
              go_wp2
              have hx4 : Below (w.heap.size + 1) w4 (y3.alloc (.cells #[.slice ka kn kc, .slice ea en ec, .bool false] 130)) := hx3.alloc (Nat.le_trans hl4 hx3.size) _
              refine ⟨Or.inr (fun _ => ⟨⟨_, hx4⟩, rfl⟩), ?_⟩
              have hyw4 : Below w.heap.size w (y3.alloc (.cells #[.slice ka kn kc, .slice ea en ec, .bool false] 130)) := hbw4.trans (hx4.mono (by omega))
              have hyw3 : Below w.heap.size w y3 := hbw4.trans (hx3.mono (by omega))
              have HP4 := hide (HP.out.below hyw4)
              refine mixT_one (k := 8) (by kernel_rfl) rfl ?_
              go_wp2_with (go_at_call 48; refine (commit_full _ P S A ps _ HP4.out).mono ?_; rintro e y5 ⟨rfl, rfl⟩)
              refine ⟨Or.inl (by kernel_rfl), ?_⟩
              refine mixT_one (k := 9) (by kernel_rfl) rfl ?_
              go_wp2
              refine ⟨Or.inr (fun h => h), ?_⟩
              refine mixT_nil (by kernel_rfl) ?_
              go_wp2
              go_ret
              exact ⟨rfl, Cmd.of_below HP.out hyw4⟩
            | false =>
              refine wp_region_mixT (w.heap.size + 1) [2, 4] (by kernel_rfl) ?_
              refine mixT_slots [0, 1] (fuel := 8) rfl (by kernel_rfl) (by kernel_rfl) (fun d _ _ _ _ h => by cases d <;> exact h) ?_
              simp only [opersAt, List.getElem?_toArray, List.getElem?_cons_zero, List.getElem?_cons_succ]
              repeat (go_big_quiet_step (fail))
              refine wpQuiet_nil ?_
              refine mixT_reads [2, 4] (fuel := 6) rfl (by kernel_rfl) (by decide) (by kernel_rfl) (fun d _ _ _ _ h => by cases d <;> exact h) (ext_drew _ _) ?_
              simp only [opersAt, List.getElem?_toArray, List.getElem?_cons_zero, List.getElem?_cons_succ]
              repeat (go_big_quiet_step (fail))
              refine wpQuiet_nil ?_
              refine mixT_one (k := 3) (by kernel_rfl) rfl ?_
              go_wp2_with (go_at_call 49; refine (key_calls _ 117 id (by decide) hid).mono ?_; rintro e y2 ⟨kv, rfl, hownK, hy2⟩)
              have hx2 : Below (w.heap.size + 1) w4 y2 := ((Below.refl _ _).drew).trans (hy2.mono hl4)
              refine ⟨Or.inr (fun _ => ⟨⟨_, hx2⟩, rfl⟩), ?_⟩
              obtain ⟨ka, kn, kc, rfl⟩ := hownK.sform
              refine mixT_one (k := 5) (by kernel_rfl) rfl ?_
              have hyw2 : Below w.heap.size w y2 := hbw4.trans (hx2.mono (by omega))
              go_wp2_with (go_at_call 60; refine (encodeSubject_calls _ id site anchor hsi han).mono ?_; rintro e y3 ⟨ev, rfl, hownE, hy3⟩)
              have hx3 : Below (w.heap.size + 1) w4 y3 := hx2.trans (hy3.mono (Nat.le_trans hl4 hx2.size))
              refine ⟨Or.inr (fun _ => ⟨⟨_, hx3⟩, rfl⟩), ?_⟩
              obtain ⟨ea, en, ec, rfl⟩ := hownE.sform
              refine mixT_one (k := 6) (by kernel_rfl) rfl ?_
              go_wp2
              refine ⟨Or.inr (fun h => h), ?_⟩
              refine mixT_one (k := 7) (by kernel_rfl) rfl ?_
              go_wp2
              have hx4 : Below (w.heap.size + 1) w4 (y3.alloc (.cells #[.slice ka kn kc, .slice ea en ec, .bool false] 130)) := hx3.alloc (Nat.le_trans hl4 hx3.size) _
              refine ⟨Or.inr (fun _ => ⟨⟨_, hx4⟩, rfl⟩), ?_⟩
              have hyw4 : Below w.heap.size w (y3.alloc (.cells #[.slice ka kn kc, .slice ea en ec, .bool false] 130)) := hbw4.trans (hx4.mono (by omega))
              have hyw3 : Below w.heap.size w y3 := hbw4.trans (hx3.mono (by omega))
              have HP4 := hide (HP.out.below hyw4)
              have hl2 : w.heap.size ≤ y2.heap.size := hyw2.size
              have hlX : w.heap.size ≤ w4.heap.size := hbw4.size
              have HWR := hide (writes_one (((OwnR.below hownK hy3 (Nat.le_refl _)).lower (by simpa using hlX)).bytes (by rw [keyB_len]; omega)) ((hownE.lower hl2).bytes (by rw [subB_len]; omega)) hyw3.size)
              refine mixT_one (k := 8) (by kernel_rfl) rfl ?_
              go_wp2_with (go_at_call 48; refine (commit_calls _ P S A _ ps _ _ HP4.out HWR.out (fun b hb => by have h9 : w.heap.size ≤ b := hb; omega) (by simp; omega)).mono ?_; rintro e y5 ⟨rfl, hk5, hs5⟩)
              refine ⟨Or.inl (by kernel_rfl), ?_⟩
              refine mixT_one (k := 9) (by kernel_rfl) rfl ?_
              go_wp2
              refine ⟨Or.inr (fun h => h), ?_⟩
              refine mixT_nil (by kernel_rfl) ?_
              go_wp2
              go_ret
              exact ⟨rfl, Cmd.of_commit HP.out.store hyw4 hk5 hs5⟩

end Go.Proofs.Qxb6500665aDoor
