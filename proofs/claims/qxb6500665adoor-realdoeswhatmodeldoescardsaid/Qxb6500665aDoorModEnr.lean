/- enrol of the model, walked. -/
import Derived.Test.Qxb6500665aDoorModForce
namespace Go.Proofs.Qxb6500665aDoor
open Go.RowKit Go.Proofs.Qxb6500665aDoor.Cal

def mEnr (T : Tab) (full : Bool) (id site anchor : Int) : Int :=
  if id = 0 then 2 else if anchor < 0 ∨ 157785119 < anchor then 3 else if (T.sub id).isSome then 9 else if T.site site = false then 16 else if inF T.vers anchor = none then 20 else if full then 21 else 0
def mEnrT (T : Tab) (full : Bool) (id site anchor : Int) : Tab := if mEnr T full id site anchor = 0 then { T with sub := upd T.sub id (some (site, anchor)) } else T

theorem Tryd.mapSub : Tryd.prog.underlying 67 = some (.map 29 45) := by kernel_rfl
theorem Tryd.zeroSub (w : World) : (zeroValue 45).run Tryd.prog w = .ok suZ w := by kernel_rfl

attribute [local go_sem ↓] exec_stSubject exec_stVersion
attribute [local go_sem] run_stSubject run_stVersion ones_iis ones_iii whole_alloc_lt whole_alloc_at whole_drew setRow_alloc_at setRow_alloc_lt setRow_drew ext_const Ext.cell Ext.frozen Ext.rng Ext.whole

theorem verAtR_in {T : Tab} {m : Int} (h : 0 ≤ m ∧ m ≤ 157785119) : (verAtR T m).1 = if inF T.vers m = none then 20 else 0 := by
  rw [verAtR, if_neg (by omega)]
  cases inF T.vers m <;> rfl

set_option maxRecDepth 100000 in
set_option maxHeartbeats 4000000 in
theorem enrol_m (w : World) (M base N a p s u : Nat) (v : Value) (C : Nat → Prop) (T : Tab) (full : Bool) (id site anchor : Int) (h : MAt w M base N a p s u v C T full) (hid : U32 id) (hsi : U32 site) (hasc : AscV T.vers) (hvl : T.vers.length ≤ 1000000) (hN : N < 1000000000) :
    Calls Tryd.prog 38 #[.pointer (some ⟨M, 0, none⟩), .agg #[.int .u32 id, .int .u32 site, .int .i64 anchor]] w fun e w' => SitePost w w' e M base (N + 1) a p s u v C full (mEnr T full id site anchor) (mEnrT T full id site anchor) := by
  obtain ⟨K, hK⟩ : ∃ K, K = mEnr T full id site anchor := ⟨_, rfl⟩
  obtain ⟨T', hT'⟩ : ∃ T', T' = mEnrT T full id site anchor := ⟨_, rfl⟩
  rw [← hK, ← hT']
  have HK : Hid (K = mEnr T full id site anchor ∧ T' = if K = 0 then { T with sub := upd T.sub id (some (site, anchor)) } else T) := ⟨hK, by rw [hT', mEnrT, hK]⟩
  clear hK hT'
  obtain ⟨w1, hw1⟩ : ∃ w1, w1 = w.alloc (.cells #[.int .u32 id, .int .u32 site, .int .i64 anchor] 45) := ⟨_, rfl⟩
  have hb1 : Below w.heap.size w w1 := by rw [hw1]; exact (Below.refl _ _).alloc (Nat.le_refl _) _
  have hs1 : w1.heap.size = w.heap.size + 1 := by rw [hw1]; simp
  have hX : w1.heap[w.heap.size]? = some (.cells #[.int .u32 id, .int .u32 site, .int .i64 anchor] 45 (0, 0)) := by rw [hw1]; exact heap_alloc_at _ _
  have HW1 := hide hw1
  obtain ⟨x0, x1, x2, -⟩ := cell_thr hX
  have HX := hide hX
  have HM := hide h
  have HM1 := hide (h.ext hb1)
  have HB1 := hide hb1
  have HNO : Hid (∀ W, Below w1.heap.size w1 W → MCmd w W M base (N + 1) a p s u v v C C T full) := fun W hW => MCmd.after HM.out HB1.out (MCmd.after HM1.out hW (MCmd.refl (HM1.out.ext hW)))
  have HA := hide hasc
  clear h hw1 hX hb1 hasc
  by_cases h0 : id = 0
  · have t0 : (id == 0) = true := by simp [h0]
    have HE : Hid (K = 2 ∧ T' = T) := by
      have e : K = 2 := by rw [HK.out.1, mEnr, if_pos h0]
      exact ⟨e, by rw [HK.out.2, e, if_neg (by decide)]⟩
    clear h0
    go_enter Tryd.func38, Tryd.ntmps38
    go_upto_region 1 with fail
    rw [← HW1.out]
    go_wp2
    go_ret
    exact ret_site HE ⟨rfl, HNO.out _ (Below.refl _ _)⟩
  have t0 : (id == 0) = false := by simp [h0]
  by_cases hin : 0 ≤ anchor ∧ anchor ≤ 157785119
  case neg =>
    have hic : inCal anchor = false := decide_eq_false hin
    have HE : Hid (K = 3 ∧ T' = T) := by
      have e : K = 3 := by rw [HK.out.1, mEnr, if_neg h0, if_pos (by omega)]
      exact ⟨e, by rw [HK.out.2, e, if_neg (by decide)]⟩
    clear h0 hin
    go_enter Tryd.func38, Tryd.ntmps38
    go_upto_region 1 with fail
    rw [← HW1.out]
    go_wp2_with (go_at_call 45; refine (inCal_calls anchor _).mono ?_; rintro e w' ⟨rfl, rfl⟩)
    go_ret
    exact ret_site HE ⟨rfl, HNO.out _ (Below.refl _ _)⟩
  have hic : inCal anchor = true := decide_eq_true hin
  have HK2 : Hid (K = (if (T.sub id).isSome then 9 else if T.site site = false then 16 else if (verAtR T anchor).1 ≠ 0 then (verAtR T anchor).1 else if full then 21 else 0) ∧ T' = if K = 0 then { T with sub := upd T.sub id (some (site, anchor)) } else T) := by
    refine ⟨?_, HK.out.2⟩
    rw [HK.out.1, mEnr, if_neg h0, if_neg (by omega), verAtR_in hin]
    cases inF T.vers anchor <;> rfl
  clear HK h0 hin
  have hMl := HM.out.hlt M (Or.inl (by simp))
  obtain ⟨-, -, -, c3, c4, c5, -, -⟩ := cell_six HM1.out.top
  have hlk : ∀ x : Ext w1.heap.size w1, (Instr.lookup 67 (.map (some u)) (.int .u32 id) true).run Tryd.prog x.world = .ok (.tuple #[((T.sub id).map (suV id)).getD suZ, .bool ((T.sub id).map (suV id)).isSome]) x.world := fun x => (HM1.out.ext x.below).sub.look_ok Tryd.mapSub (Tryd.zeroSub x.world) hid
  go_enter Tryd.func38, Tryd.ntmps38
  go_upto_region 1 with fail
  rw [← HW1.out]
  go_upto_region 5 with (go_at_call 45; refine (inCal_calls anchor _).mono ?_; rintro e w' ⟨rfl, rfl⟩)
  cases hTa : T.sub id with
  | some l =>
    rw [hTa] at hlk
    have HE : Hid (K = 9 ∧ T' = T) := by
      have e : K = 9 := by rw [HK2.out.1, hTa]; rfl
      exact ⟨e, by rw [HK2.out.2, e, if_neg (by decide)]⟩
    simp only [Option.map_some, Option.getD_some, Option.isSome_some, suV] at hlk
    refine wp_region_mixT (w1.heap.size) [3, 5, 6] (by kernel_rfl) ?_
    refine mixT_slots [0, 1, 2, 4] (fuel := 9) rfl (by kernel_rfl) (by kernel_rfl) (fun d _ _ _ _ h => by cases d <;> exact h) ?_
    simp only [opersAt, List.getElem?_toArray, List.getElem?_cons_zero, List.getElem?_cons_succ]
    repeat (go_big_quiet_step (fail))
    refine wpQuiet_nil ?_
    refine mixT_reads [3, 5, 6] (fuel := 6) rfl (by kernel_rfl) (by decide) (by kernel_rfl) (fun d _ _ _ _ h => by cases d <;> exact h) (ext_drew _ _) ?_
    simp only [opersAt, List.getElem?_toArray, List.getElem?_cons_zero, List.getElem?_cons_succ]
    repeat (go_big_quiet_step (fail))
    refine wpQuiet_nil ?_
    refine mixT_slots [7, 8, 9] (fuel := 3) rfl (by kernel_rfl) (by kernel_rfl) (fun d _ _ _ _ h => by cases d <;> exact h) ?_
    simp only [opersAt, List.getElem?_toArray, List.getElem?_cons_zero, List.getElem?_cons_succ]
    repeat (go_big_quiet_step (fail))
    refine wpQuiet_nil ?_
    refine mixT_one (k := 10) (by kernel_rfl) rfl ?_
    go_wp2
    refine ⟨Or.inr (fun _ => ⟨⟨_, ((Below.refl _ _).alloc (Nat.le_refl _) _).drew⟩, rfl⟩), ?_⟩
    refine mixT_one (k := 11) (by kernel_rfl) rfl ?_
    go_wp2
    refine ⟨Or.inl (by kernel_rfl), ?_⟩
    refine mixT_one (k := 12) (by kernel_rfl) rfl ?_
    go_wp2
    refine ⟨Or.inr (fun h => h), ?_⟩
    refine mixT_nil (by kernel_rfl) ?_
    go_wp2
    go_ret
    exact ret_site HE ⟨rfl, HNO.out _ ((Below.refl _ _).alloc (Nat.le_refl _) _).drew⟩
  | none =>
    rw [hTa] at hlk
    simp only [Option.map_none, Option.getD_none, Option.isSome_none, suZ] at hlk
    refine wp_region_mixT (w1.heap.size) [3, 5, 6] (by kernel_rfl) ?_
    refine mixT_slots [0, 1, 2, 4] (fuel := 9) rfl (by kernel_rfl) (by kernel_rfl) (fun d _ _ _ _ h => by cases d <;> exact h) ?_
    simp only [opersAt, List.getElem?_toArray, List.getElem?_cons_zero, List.getElem?_cons_succ]
    repeat (go_big_quiet_step (fail))
    refine wpQuiet_nil ?_
    refine mixT_reads [3, 5, 6] (fuel := 6) rfl (by kernel_rfl) (by decide) (by kernel_rfl) (fun d _ _ _ _ h => by cases d <;> exact h) (ext_drew _ _) ?_
    simp only [opersAt, List.getElem?_toArray, List.getElem?_cons_zero, List.getElem?_cons_succ]
    repeat (go_big_quiet_step (fail))
    refine wpQuiet_nil ?_
    refine mixT_slots [7, 8, 9] (fuel := 3) rfl (by kernel_rfl) (by kernel_rfl) (fun d _ _ _ _ h => by cases d <;> exact h) ?_
    simp only [opersAt, List.getElem?_toArray, List.getElem?_cons_zero, List.getElem?_cons_succ]
    repeat (go_big_quiet_step (fail))
    refine wpQuiet_nil ?_
    refine mixT_one (k := 10) (by kernel_rfl) rfl ?_
    go_wp2
    refine ⟨Or.inr (fun _ => ⟨⟨_, ((Below.refl _ _).alloc (Nat.le_refl _) _).drew⟩, rfl⟩), ?_⟩
    refine mixT_one (k := 11) (by kernel_rfl) rfl ?_
    go_wp2
    refine ⟨Or.inl (by kernel_rfl), ?_⟩
    refine mixT_one (k := 12) (by kernel_rfl) rfl ?_
    go_wp2
    refine ⟨Or.inr (fun h => h), ?_⟩
    refine mixT_nil (by kernel_rfl) ?_
    obtain ⟨w2, hw2⟩ : ∃ w2, w2 = (w1.alloc (.cells #[.int .u32 0, .int .u32 0, .int .i64 0] 45)).drew := ⟨_, rfl⟩
    have hb2 : Below w1.heap.size w1 w2 := by rw [hw2]; exact ((Below.refl _ _).alloc (Nat.le_refl _) _).drew
    rw [← hw2]
    have hs2 : w1.heap.size < w2.heap.size := by rw [hw2]; show _ < (w1.alloc _).heap.size; simp
    have HM2 := hide (HM1.out.ext hb2)
    obtain ⟨-, -, -, d3, d4, d5, -, -⟩ := cell_six HM2.out.top
    obtain ⟨y0, y1, y2, -⟩ := cell_thr ((hb2.block w.heap.size (by omega)).trans HX.out)
    have HB2 := hide hb2
    have hss : w.heap.size < w2.heap.size := by omega
    have hMl2 : M < w2.heap.size := by omega
    have hlk2 : ∀ x : Ext w2.heap.size w2, (Instr.lookup 66 (.map (some s)) (.int .u32 site) false).run Tryd.prog x.world = .ok ((if T.site site then some (Value.bool true) else none).getD (.bool false)) x.world := fun x => (HM2.out.ext x.below).site.look Tryd.mapSite (Tryd.zeroBool x.world) hsi
    clear hw2 hb2 hlk c3 c4 c5 x0 x1 x2
    go_upto_region 8 with fail
    cases hsite : T.site site with
    | false =>
      have HE : Hid (K = 16 ∧ T' = T) := by
        have e : K = 16 := by rw [HK2.out.1, hTa, hsite]; rfl
        exact ⟨e, by rw [HK2.out.2, e, if_neg (by decide)]⟩
      rw [hsite] at hlk2
      simp only [Bool.false_eq_true, if_false, Option.getD_none] at hlk2
      refine wp_region_mixT (w2.heap.size) [3, 5, 6] (by kernel_rfl) ?_
      refine mixT_slots [0, 1, 2, 4] (fuel := 4) rfl (by kernel_rfl) (by kernel_rfl) (fun d _ _ _ _ h => by cases d <;> exact h) ?_
      simp only [opersAt, List.getElem?_toArray, List.getElem?_cons_zero, List.getElem?_cons_succ]
      repeat (go_big_quiet_step (fail))
      refine wpQuiet_nil ?_
      refine mixT_reads [3, 5, 6] (fuel := 1) rfl (by kernel_rfl) (by decide) (by kernel_rfl) (fun d _ _ _ _ h => by cases d <;> exact h) (ext_drew _ _) ?_
      simp only [opersAt, List.getElem?_toArray, List.getElem?_cons_zero, List.getElem?_cons_succ]
      repeat (go_big_quiet_step (fail))
      refine wpQuiet_nil ?_
      refine mixT_slots [7] (fuel := 0) rfl (by kernel_rfl) (by kernel_rfl) (fun d _ _ _ _ h => by cases d <;> exact h) ?_
      simp only [opersAt, List.getElem?_toArray, List.getElem?_cons_zero, List.getElem?_cons_succ]
      repeat (go_big_quiet_step (fail))
      refine wpQuiet_nil ?_
      refine mixT_nil (by kernel_rfl) ?_
      go_wp2
      go_ret
      exact ret_site HE ⟨rfl, HNO.out _ HB2.out.drew⟩
    | true =>
      have HK3 : Hid (K = (if (verAtR T anchor).1 ≠ 0 then (verAtR T anchor).1 else if full then 21 else 0) ∧ T' = if K = 0 then { T with sub := upd T.sub id (some (site, anchor)) } else T) := ⟨by rw [HK2.out.1, hTa, hsite]; rfl, HK2.out.2⟩
      rw [hsite] at hlk2
      simp only [if_true, Option.getD_some] at hlk2
      have HIF := hide (inForce_m w2.drew M base N a p s u v C T full anchor (HM2.out.ext (Below.refl _ _).drew) HA.out hvl)
      refine wp_region_mixT (w2.heap.size) [3, 5, 6] (by kernel_rfl) ?_
      refine mixT_slots [0, 1, 2, 4] (fuel := 4) rfl (by kernel_rfl) (by kernel_rfl) (fun d _ _ _ _ h => by cases d <;> exact h) ?_
      simp only [opersAt, List.getElem?_toArray, List.getElem?_cons_zero, List.getElem?_cons_succ]
      repeat (go_big_quiet_step (fail))
      refine wpQuiet_nil ?_
      refine mixT_reads [3, 5, 6] (fuel := 1) rfl (by kernel_rfl) (by decide) (by kernel_rfl) (fun d _ _ _ _ h => by cases d <;> exact h) (ext_drew _ _) ?_
      simp only [opersAt, List.getElem?_toArray, List.getElem?_cons_zero, List.getElem?_cons_succ]
      repeat (go_big_quiet_step (fail))
      refine wpQuiet_nil ?_
      refine mixT_slots [7] (fuel := 0) rfl (by kernel_rfl) (by kernel_rfl) (fun d _ _ _ _ h => by cases d <;> exact h) ?_
      simp only [opersAt, List.getElem?_toArray, List.getElem?_cons_zero, List.getElem?_cons_succ]
      repeat (go_big_quiet_step (fail))
      refine wpQuiet_nil ?_
      refine mixT_nil (by kernel_rfl) ?_
      clear hlk2 HK2
      obtain ⟨VR, hVR⟩ : ∃ VR, VR = verAtR T anchor := ⟨_, rfl⟩
      rw [← hVR] at HIF HK3
      clear hVR
      obtain ⟨r0, rn, re, rv⟩ := VR
      go_upto_region 11 with (go_at_call 40; refine HIF.out.mono ?_; rintro e w3 ⟨⟨sa, sn, sc⟩, rfl, hvv, hb3⟩; simp only [sv])
      obtain ⟨w4, hw4⟩ : ∃ w4, w4 = w3.alloc (.cells #[.int .u32 rn, .int .i64 re, .slice sa sn sc] 41) := ⟨_, rfl⟩
      rw [← hw4]
      have hb4 : Below w2.heap.size w2 w4 := ((Below.refl _ _).drew).trans (by rw [hw4]; exact hb3.alloc hb3.size _)
      have hs4 := hb4.size
      have HM4 := hide (HM2.out.ext hb4)
      obtain ⟨-, -, -, -, f4, f5, -, -⟩ := cell_six HM4.out.top
      obtain ⟨z0, z1, z2, -⟩ := cell_thr ((hb4.block w.heap.size (by omega)).trans ((HB2.out.block w.heap.size (by omega)).trans HX.out))
      have HB4 := hide (HB2.out.trans (hb4.mono (by omega)))
      have hss4 : w.heap.size < w4.heap.size := by omega
      have hMl4 : M < w4.heap.size := by omega
      clear hw4 hb3 hb4 hvv d3 d4 d5 y0 y1 y2 HIF
      by_cases hr0 : r0 = 0
      · subst hr0
        cases full with
        | true =>
          have HE : Hid (K = 21 ∧ T' = T) := by
            have e : K = 21 := by rw [HK3.out.1]; rfl
            exact ⟨e, by rw [HK3.out.2, e, if_neg (by decide)]⟩
          go_wp2
          go_ret
          exact ret_site HE ⟨rfl, HNO.out _ HB4.out⟩
        | false =>
          have HE : Hid (K = 0 ∧ T' = { T with sub := upd T.sub id (some (site, anchor)) }) := by
            have e : K = 0 := by rw [HK3.out.1]; rfl
            exact ⟨e, by rw [HK3.out.2, e, if_pos rfl]⟩
          have HM5 := hide (HM4.out.ext (Below.refl _ _).drew)
          obtain ⟨w5, hup, hmu, hg⟩ := HM5.out.sub.put Tryd.mapSub (show N < maxLen by unfold maxLen; omega) hid (suV id (site, anchor))
          have hal := HM5.out.sub.lt
          have hab := (HM5.out.low u (by simp)).1
          have HM6 := hide (HM5.out.putSub (f := upd T.sub id (some (site, anchor))) (fun b hb hne => hg.block b hb (by simpa using hne)) (by
            have e : upd (fun k => (T.sub k).map (suV k)) id (some (suV id (site, anchor))) = fun k => (upd T.sub id (some (site, anchor)) k).map (suV k) := by
              funext k
              unfold upd
              by_cases hk : k = id
              · simp [hk]
              · simp [hk]
            rw [e] at hmu
            exact hmu) ((Below.refl base _).grown hg (by have := HM5.out.bs; omega) (fun j hj => by cases hj; exact hab)))
          simp only [suV] at hup
          clear hg hmu hab hal
          go_upto_region 15 with fail
          refine wp_region_mixT (w4.heap.size) [3, 5, 6] (by kernel_rfl) ?_
          refine mixT_slots [0, 1, 2, 4] (fuel := 4) rfl (by kernel_rfl) (by kernel_rfl) (fun d _ _ _ _ h => by cases d <;> exact h) ?_
          simp only [opersAt, List.getElem?_toArray, List.getElem?_cons_zero, List.getElem?_cons_succ]
          repeat (go_big_quiet_step (fail))
          refine wpQuiet_nil ?_
          refine mixT_reads [3, 5, 6] (fuel := 1) rfl (by kernel_rfl) (by decide) (by kernel_rfl) (fun d _ _ _ _ h => by cases d <;> exact h) (ext_drew _ _) ?_
          simp only [opersAt, List.getElem?_toArray, List.getElem?_cons_zero, List.getElem?_cons_succ]
          repeat (go_big_quiet_step (fail))
          refine wpQuiet_nil ?_
          refine mixT_one (k := 7) (by kernel_rfl) rfl ?_
          go_wp2
          refine ⟨Or.inl (by kernel_rfl), ?_⟩
          refine mixT_nil (by kernel_rfl) ?_
          go_wp2
          go_ret
          exact ret_site HE ⟨rfl, MCmd.after HM.out HB1.out (MCmd.after HM1.out HB4.out (MCmd.after HM4.out (Below.refl _ _).drew HM6.out))⟩
      · have HE : Hid (K = r0 ∧ T' = T) := by
          have e : K = r0 := by rw [HK3.out.1]; exact if_pos hr0
          exact ⟨e, by rw [HK3.out.2, e, if_neg hr0]⟩
        have t1 : (r0 == 0) = false := by simp [hr0]
        have t2 : (r0 != 0) = true := by simp [hr0]
        clear hr0
        go_wp2
        go_ret
        exact ret_site HE ⟨rfl, HNO.out _ HB4.out⟩

end Go.Proofs.Qxb6500665aDoor
