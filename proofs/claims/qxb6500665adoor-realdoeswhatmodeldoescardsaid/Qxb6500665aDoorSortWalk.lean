/- Sort of visits, walked. -/
import Derived.Test.Qxb6500665aDoorSort
import Derived.Test.Qxb6500665aDoorMix3
namespace Go.Proofs.Qxb6500665aDoor
open Go.RowKit

def ltT (x y : ZV) : Bool := decide (x.1.target < y.1.target)

theorem vz_1 (z : ZV) : (vzCs z)[1]? = some (.int .i64 z.1.target) := rfl

set_option maxRecDepth 100000 in
theorem amend1_calls (w : World) (x y : ZV) :
    Calls Tryd.prog 56 #[.agg (vzCs x), .agg (vzCs y)] w fun e w' => e = .returned (.bool (ltT x y)) ∧ Below w.heap.size w w' := by
  obtain ⟨⟨xi, xt, xe, xl, xp⟩, ⟨xa, xn, xc⟩⟩ := x
  obtain ⟨⟨yi, yt, ye, yl, yp⟩, ⟨ya, yn, yc⟩⟩ := y
  simp only [vzCs, sv, ltT]
  go_enter Tryd.func56, Tryd.ntmps56
  go_wp2
  go_ret
  exact ⟨rfl, ((Below.refl _ _).alloc (Nat.le_refl _) _).alloc (by simp) _⟩

attribute [local go_sem ↓] exec_ldVisit exec_stVisit
attribute [local go_sem] run_ldVisit ext_const Ext.cell Ext.frozen Ext.rng Ext.whole rng_alloc_lt rng_drew rng_drewN

set_option maxRecDepth 100000 in
set_option maxHeartbeats 2000000 in
theorem sortVisits_calls (w : World) (base : Nat) (a : Option Addr) (n cap : Nat) (zs : List ZV) (h : OwnR w base 63 5 vzCs (.slice a n cap) zs) (hb : base ≤ w.heap.size) (hl : zs.length ≤ 1000000) :
    Calls Tryd.prog 55 #[.slice a n cap, .func (.func 56) #[] #[]] w fun e w' => e = .returned (.tuple #[]) ∧ OwnR w' base 63 5 vzCs (.slice a n cap) (sortL ltT zs) ∧ Same (fun b => b < w.heap.size ∧ (Value.slice a n cap).ownBlock ≠ some b) w w' ∧ Below base w w' := by
  have hnl : n = zs.length := by
    obtain ⟨a', c', hv⟩ := h.form
    injection hv
  rcases Nat.eq_zero_or_pos zs.length with hz | hpos
  · have hzs : zs = [] := List.length_eq_zero_iff.1 hz
    subst hzs
    simp only [List.length_nil] at hnl
    subst hnl
    go_enter Tryd.func55, Tryd.ntmps55
    go_wp2
    go_loopw [4] (fun j wr => j = .int .i64 1 ∧ w = wr) (fun _ _ => 0)
    case atStart => exact ⟨rfl, rfl⟩
    case round =>
      obtain ⟨rfl, rfl⟩ := hrel
      go_wp2
      go_end0
      exact ⟨rfl, h, Same.refl _ _, Below.refl _ _⟩
  · obtain ⟨g, cap', hv, hg, hgl, hel⟩ := h.elem vzCs_size (by decide) (by omega) hpos
    injection hv with q1 q2 q3
    subst q1 q3
    have hix := run_indexAt_arr (P := Tryd.prog) (n := n) (cap := cap) Tryd.underlying32 Tryd.size63 (fun _ => (rfl : some (⟨g, 0, none⟩ : Addr) = _))
    have hn1 : 1 ≤ n := by omega
    have HN := hide hnl
    have HH := hide h
    have hl' : n ≤ 1000000 := by omega
    clear hel q2 h hnl
    go_enter Tryd.func55, Tryd.ntmps55
    go_wp2
    go_loopw [4] (fun j wr => ∃ q : Nat, 1 ≤ q ∧ q ≤ n ∧ j = .int .i64 q ∧ Hid (∃ ys, OwnR wr base 63 5 vzCs (.slice (some ⟨g, 0, none⟩) n cap) ys ∧ ys.length = n ∧ sortFrom ltT (n - q) q ys = sortL ltT zs) ∧ Same (fun b => b < w.heap.size ∧ b ≠ g) w wr ∧ Below base w wr) (fun j _ => n - (intOf j).toNat)
    case atStart => exact ⟨1, by omega, by omega, rfl, ⟨zs, HH.out, HN.out.symm, by rw [HN.out]; rfl⟩, Same.refl _ _, Below.refl _ _⟩
    case round =>
      obtain ⟨q, hq1, hq2, rfl, HY, hsame, hbel⟩ := hrel
      obtain ⟨wo, hwo⟩ : ∃ wo, wo = wr := ⟨_, rfl⟩
      subst hwo
      by_cases hlt : q < n
      · obtain ⟨ys, hown, hyl, hsort⟩ := HY.out
        have HS := hide hsort
        have HOW := hide hown
        have hd1 : decide ((q : Int) < (n : Int)) = true := decide_eq_true (by omega)
        have hd2 : decide (q < n) = true := decide_eq_true hlt
        clear hsort hown
        go_wp2
        go_loopw [5] (fun j wx => ∃ p : Nat, p ≤ q ∧ j = .int .i64 p ∧ Hid (∃ xs, OwnR wx base 63 5 vzCs (.slice (some ⟨g, 0, none⟩) n cap) xs ∧ xs.length = n ∧ sink ltT p xs = sink ltT q ys) ∧ Same (fun b => b < w.heap.size ∧ b ≠ g) w wx ∧ Below base w wx) (fun j _ => (intOf j).toNat)
        case atStart => exact ⟨q, by omega, rfl, ⟨ys, HOW.out, hyl, rfl⟩, hsame, hbel⟩
        case round =>
          obtain ⟨p, hp, rfl, HX, hsame2, hbel2⟩ := hrel
          obtain ⟨xs, hown, hxl, hsink⟩ := HX.out
          have hgx : g < wr.heap.size := Nat.lt_of_lt_of_le hgl hbel2.size
          have hbx : base ≤ wr.heap.size := Nat.le_trans hb hbel2.size
          rcases Nat.eq_zero_or_pos p with rfl | hpp
          · have HSK := hide hsink
            have HOX := hide hown
            clear hsink hown
            go_upto_region 4 with fail
            refine wp_region_ext wr.heap.size (by kernel_rfl) (by kernel_rfl) ?_
            repeat (go_big_quiet_step (fail))
            refine wpQuiet_nil ?_
            intro _ hw'
            obtain ⟨x, hw2⟩ := hw'
            subst hw2
            obtain ⟨w2, hb2⟩ := x
            simp only []
            go_wp2
            go_roundw
            case measure => simp [intOf]; omega
            case rel =>
              refine ⟨q + 1, by omega, by omega, by go_num, ⟨xs, HOX.out.below hb2 (Nat.le_refl _), hxl, ?_⟩, fun b hb' => (hb2.block b (Nat.lt_of_lt_of_le hb'.1 hbel2.size)).trans (hsame2 b hb'), hbel2.trans (hb2.mono hbx)⟩
              have h1 := HS.out
              rw [show n - q = (n - (q + 1)) + 1 by omega, sortFrom_step, ← HSK.out] at h1
              exact h1
          · obtain ⟨k, rfl⟩ : ∃ k, p = k + 1 := ⟨p - 1, by omega⟩
            obtain ⟨g', cap', hv, -, -, hel⟩ := hown.elem vzCs_size (by decide) (by omega) (by omega)
            injection hv with q1 q2 q3
            injection q1 with q1
            injection q1 with q1 q4
            subst q1 q3
            have r1 := hel (k + 1) (by omega)
            have r0 := hel k (by omega)
            have hi1 := fun W => hix W ((k : Int) + 1) (by omega) (by omega)
            have hi0 := fun W => hix W (k : Int) (by omega) (by omega)
            rw [show ((k : Int) + 1).toNat = k + 1 by omega] at hi1
            rw [show ((k : Int)).toNat = k by omega] at hi0
            simp only [Nat.zero_add] at hi1 hi0
            have HIX := hide hix
            have hk1 : k + 1 < xs.length := by omega
            have hk0 : k < xs.length := by omega
            have HHIT := hide (sink_hit ltT hk1)
            have HMISS := hide (sink_miss ltT hk1)
            have HOX := hide hown
            have HSK := hide hsink
            generalize hx1 : xs[k + 1] = x1 at *
            generalize hx0 : xs[k] = x0 at *
            clear hix hsink hown hel q2 hx1 hx0
            cases hl : ltT x1 x0 with
            | false =>
              go_upto_region 4 with fail
              refine wp_region_ext wr.heap.size (by kernel_rfl) (by kernel_rfl) ?_
              repeat (go_big_quiet_step ((go_at_call 56; refine ext_call (Nat.le_refl _) (amend1_calls _ _ _))))
              refine wpQuiet_nil ?_
              intro _ hw'
              obtain ⟨x, hw2⟩ := hw'
              subst hw2
              obtain ⟨w2, hb2⟩ := x
              simp only []
              go_wp2
              go_roundw
              case measure => simp [intOf]; omega
              case rel =>
                refine ⟨q + 1, by omega, by omega, by go_num, ⟨xs, HOX.out.below hb2 (Nat.le_refl _), hxl, ?_⟩, fun b hb' => (hb2.block b (Nat.lt_of_lt_of_le hb'.1 hbel2.size)).trans (hsame2 b hb'), hbel2.trans (hb2.mono hbx)⟩
                have h1 := HS.out
                rw [show n - q = (n - (q + 1)) + 1 by omega, sortFrom_step, ← HSK.out, HMISS.out hl] at h1
                exact h1
            | true =>
              go_upto_region 4 with fail
              refine wp_region_ext wr.heap.size (by kernel_rfl) (by kernel_rfl) ?_
              repeat (go_big_quiet_step ((go_at_call 56; refine ext_call (Nat.le_refl _) (amend1_calls _ _ _))))
              refine wpQuiet_nil ?_
              intro _ hw'
              obtain ⟨x, hw2⟩ := hw'
              subst hw2
              obtain ⟨w2, hb2⟩ := x
              simp only []
              have r1' : rng w2 g ((k + 1) * 5) 5 = some (vzCs x1) := (rng_of_block (hb2.block g hgx) _ _).trans r1
              have r0' : rng w2 g (k * 5) 5 = some (vzCs x0) := (rng_of_block (hb2.block g hgx) _ _).trans r0
              have hgx2 : g < w2.heap.size := Nat.lt_of_lt_of_le hgx hb2.size
              have hown2 : OwnR w2 base 63 5 vzCs (.slice (some ⟨g, 0, none⟩) n cap) xs := HOX.out.below hb2 (Nat.le_refl _)
              obtain ⟨g1, w3, hg1, hst1, hown3, hoth3, hsz3, hbel3, -, -⟩ := OwnR.put (P := Tryd.prog) (w := w2.drew) (hown2.mono (fun _ _ => rfl)) vzCs_size vzCs_one (k + 1) hk1 x0
              injection hg1 with hg1
              injection hg1 with hg1 _
              subst hg1
              obtain ⟨g2, w4, hg2, hst2, hown4, hoth4, hsz4, hbel4, -, -⟩ := OwnR.put (P := Tryd.prog) hown3 vzCs_size vzCs_one k (by simp; omega) x1
              injection hg2 with hg2
              injection hg2 with hg2 _
              subst hg2
              rw [← stVisit_eq _ _ _ _ (vzCs_size _)] at hst1 hst2
              go_upto_region 6 with fail
              refine wp_region_mixS w2.heap.size [9, 13] (by kernel_rfl) ?_
              refine mixS_slots [0, 1, 2, 3, 4, 5, 6, 7, 8, 10, 11, 12] (fuel := 6) rfl (by kernel_rfl) (fun d _ _ _ _ h => by cases d <;> exact h) ?_
              simp only [opersAt, List.getElem?_toArray, List.getElem?_cons_zero, List.getElem?_cons_succ]
              repeat (go_big_quiet_step (fail))
              refine wpQuiet_nil ?_
              refine mixS_reads [9, 13] (fuel := 4) rfl (by decide) (by kernel_rfl) (fun d _ _ _ _ h => by cases d <;> exact h) (ext_drew _ _) ?_
              simp only [opersAt, List.getElem?_toArray, List.getElem?_cons_zero, List.getElem?_cons_succ]
              repeat (go_big_quiet_step (fail))
              refine wpQuiet_nil ?_
              refine mixS_slots [14] (fuel := 3) rfl (by kernel_rfl) (fun d _ _ _ _ h => by cases d <;> exact h) ?_
              simp only [opersAt, List.getElem?_toArray, List.getElem?_cons_zero, List.getElem?_cons_succ]
              repeat (go_big_quiet_step (fail))
              refine wpQuiet_nil ?_
              refine mixS_one (k := 15) (by kernel_rfl) rfl ?_
              go_wp2
              refine ⟨Or.inl (by kernel_rfl), ?_⟩
              refine mixS_slots [16] (fuel := 1) rfl (by kernel_rfl) (fun d _ _ _ _ h => by cases d <;> exact h) ?_
              simp only [opersAt, List.getElem?_toArray, List.getElem?_cons_zero, List.getElem?_cons_succ]
              repeat (go_big_quiet_step (fail))
              refine wpQuiet_nil ?_
              refine mixS_one (k := 17) (by kernel_rfl) rfl ?_
              go_wp2
              refine ⟨Or.inl (by kernel_rfl), ?_⟩
              refine mixS_nil (by kernel_rfl) ?_
              go_wp2
              go_roundw
              case measure => simp [intOf]
              case rel =>
                have hB : Below base w w4 := (hbel2.trans (hb2.mono hbx)).trans (((Below.refl _ _).drew).trans (hbel3.trans hbel4))
                refine ⟨k, by omega, by go_num, ⟨_, hown4, by simp [hxl], ?_⟩, fun b hb' => ?_, hB⟩
                · rw [← HSK.out, HHIT.out hl]
                · rw [hoth4 b hb'.2, hoth3 b hb'.2]
                  exact (hb2.block b (Nat.lt_of_lt_of_le hb'.1 hbel2.size)).trans (hsame2 b hb')
      · go_wp2
        go_end0
        obtain ⟨ys, hown, hyl, hsort⟩ := HY.out
        have hqn : n - q = 0 := by omega
        rw [hqn] at hsort
        refine ⟨rfl, by rw [← hsort]; exact hown, hsame.mono (fun b hb => ⟨hb.1, fun e => hb.2 (by rw [e]; rfl)⟩), hbel⟩

end Go.Proofs.Qxb6500665aDoor
