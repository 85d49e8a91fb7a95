/- The protocol's layer: AddSite, Enrol, DefineAnalyte, walked. (Made by tools/mk_pr.py.) -/
import Derived.Test.Qxb6500666aGreatDoorLowPr
namespace Go.Proofs.Qxb6500666aGreatDoor
open Go.RowKit

attribute [local go_sem] ext_const Ext.cell Ext.frozen Ext.rng Ext.whole
attribute [local go_sem ↓] exec_ldPrS exec_stPrS
attribute [local go_sem] run_ldPrS run_stPrS whole_alloc_lt whole_alloc_at whole_drew setRow_alloc_at setRow_alloc_lt rng_alloc_lt rng_alloc_at rng_drew rng_drewN rng_setCell_other whole_setCell_other

set_option maxRecDepth 100000 in
set_option maxHeartbeats 1000000 in
theorem addSite_calls (w : World) (ok : Nat → Prop) (u0 u1 u2 u3 : Value) (T : Pr) (id : Int) (h : PrAt w ok u0 u1 u2 u3 T) (hl : T.Small) (hok : ∀ b, w.heap.size ≤ b → ok b) :
    Calls Tryz.prog 189 #[.agg #[u0, u1, u2, u3], .int .u32 id] w fun e w' => PrPost w w' ok e (addSiteP T id) := by
  obtain ⟨R, hR⟩ : ∃ R, R = addSiteP T id := ⟨_, rfl⟩
  rw [← hR]
  have HR := hide hR
  have HH := hide h
  obtain ⟨⟨a0, n0, c0, rfl⟩, ⟨a1, n1, c1, rfl⟩, ⟨a2, n2, c2, rfl⟩, ⟨a3, n3, c3, rfl⟩⟩ := h.forms
  have hov : ∀ b0 b1 b2 b3 m0 m1 m2 m3 d0 d1 d2 d3, ones #[.slice b0 m0 d0, .slice b1 m1 d1, .slice b2 m2 d2, .slice b3 m3 d3] 4 = true := fun _ _ _ _ _ _ _ _ _ _ _ _ => rfl
  clear hR h
  cases t0 : (id == 0) with
  | true =>
    have HE : Hid (R = (T, 7)) := HR.out.trans (by simp [addSiteP, t0])
    go_enter Tryz.func189, Tryz.ntmps189
    go_upto_region 1 with fail
    have HB0 := hide (PrBox.start w (.slice a0 n0 c0) (.slice a1 n1 c1) (.slice a2 n2 c2) (.slice a3 n3 c3))
    generalize (World.alloc (World.alloc w _) _) = W at *
    obtain ⟨f1, f2, f3, f4, f5, f6, f7, f8, f9⟩ := HB0.out.facts
    go_wp2
    refine bodyPost_ret (results_cell_tmp Tryz.results189 _ _ (w.heap.size + 1) _ _ _ _ rfl (heap_setRow_at HB0.out.res) Tryz.underlying32 rfl (by kernel_rfl)) rfl ?_
    exact HB0.out.back HE HH.out
  | false =>
    cases t1 : T.site.any (fun x : Int => (x == id)) with
    | true =>
      have HE : Hid (R = (T, 10)) := HR.out.trans (by simp only [addSiteP, t0, t1]; rfl)
      go_enter Tryz.func189, Tryz.ntmps189
      go_upto_region 1 with fail
      have HB0 := hide (PrBox.start w (.slice a0 n0 c0) (.slice a1 n1 c1) (.slice a2 n2 c2) (.slice a3 n3 c3))
      generalize (World.alloc (World.alloc w _) _) = W at *
      obtain ⟨f1, f2, f3, f4, f5, f6, f7, f8, f9⟩ := HB0.out.facts
      go_upto_region 4 with (go_at_call 192; refine (hasSite_calls _ ok _ _ _ _ T.site id (HH.out.below HB0.out.below).s).mono ?_; rintro e w1 ⟨rfl, hb1⟩; rw [findV_any, t1])
      have HB1 := hide (HB0.out.next hb1)
      clear f1 f2 f3 f4 f5 f6 f7 f8 f9 HB0 hb1
      obtain ⟨f1, f2, f3, f4, f5, f6, f7, f8, f9⟩ := HB1.out.facts
      go_wp2
      refine bodyPost_ret (results_cell_tmp Tryz.results189 _ _ (w.heap.size + 1) _ _ _ _ rfl (heap_setRow_at HB1.out.res) Tryz.underlying32 rfl (by kernel_rfl)) rfl ?_
      exact HB1.out.back HE HH.out
    | false =>
      have HE : Hid (R = ({ T with site := T.site ++ [id] }, 0)) := HR.out.trans (by simp only [addSiteP, t0, t1]; rfl)
      go_enter Tryz.func189, Tryz.ntmps189
      go_upto_region 1 with fail
      have HB0 := hide (PrBox.start w (.slice a0 n0 c0) (.slice a1 n1 c1) (.slice a2 n2 c2) (.slice a3 n3 c3))
      generalize (World.alloc (World.alloc w _) _) = W at *
      obtain ⟨f1, f2, f3, f4, f5, f6, f7, f8, f9⟩ := HB0.out.facts
      go_upto_region 5 with (go_at_call 192; refine (hasSite_calls _ ok _ _ _ _ T.site id (HH.out.below HB0.out.below).s).mono ?_; rintro e w1 ⟨rfl, hb1⟩; rw [findV_any, t1])
      have HB1 := hide (HB0.out.next hb1)
      clear f1 f2 f3 f4 f5 f6 f7 f8 f9 HB0 hb1
      obtain ⟨f1, f2, f3, f4, f5, f6, f7, f8, f9⟩ := HB1.out.facts
      go_upto_region 6 with (go_at_call 238; refine (withInt_calls _ ok _ T.site id (HH.out.below HB1.out.below).s hl.s).mono ?_; rintro e v2 ⟨x9, rfl, hown9, hb9⟩; obtain ⟨A9, m9, k9, e9⟩ := hown9.form3; subst e9; have HB9 := hide (HB1.out.next hb9); obtain ⟨g1, g2, g3, g4, g5, g6, g7, g8, g9⟩ := HB9.out.facts)
      have HC := hide (HB9.out.set (k := 2) (v := .slice A9 m9 k9) (v0 := .slice a0 n0 c0) (v1 := .slice a1 n1 c1) (v2 := .slice A9 m9 k9) (v3 := .slice a3 n3 c3) rfl)
      have hr9 : HB9.out.lt = HB9.out.lt := rfl
      clear hr9
      have hapart : PrAt v2 (fun b => ok b ∧ b ≠ w.heap.size + 1 ∧ b ≠ w.heap.size) (.slice a0 n0 c0) (.slice a1 n1 c1) (.slice a2 n2 c2) (.slice a3 n3 c3) T := (HH.out.lt.mono (ok' := fun b => (ok b ∧ b ≠ w.heap.size + 1 ∧ b ≠ w.heap.size) ∧ b < w.heap.size) (fun _ _ => rfl) (fun b hb => ⟨⟨hb.1, by have := hb.2; omega, by have := hb.2; omega⟩, hb.2⟩)).mono (fun b hb => HB9.out.below.block b hb.2) (fun _ hb => hb.1)
      have hsz9 := HB1.out.size
      have hnew : RArr v2 (fun b => ok b ∧ b ≠ w.heap.size + 1 ∧ b ≠ w.heap.size) 1 u32Cs (.slice A9 m9 k9) (T.site ++ [id]) := hown9.to_ok u32Cs_size (by decide) (by have := hl.s; simp only [List.length_append, List.length_cons, List.length_nil]; omega) (fun b hb => ⟨hok b (by omega), by omega, by omega⟩)
      have HAT : Hid (PrAt (v2.setCell ⟨w.heap.size, 2, none⟩ (.slice A9 m9 k9)) (fun b => ok b ∧ b ≠ w.heap.size + 1) (.slice a0 n0 c0) (.slice a1 n1 c1) (.slice A9 m9 k9) (.slice a3 n3 c3) { T with site := T.site ++ [id] }) := PrAt.mono (ok := fun b => ok b ∧ b ≠ w.heap.size + 1 ∧ b ≠ w.heap.size) ⟨hapart.a, hapart.v, hnew, hapart.u⟩ (fun b hb => Below.heap_setCell _ _ _ _ hb.2.2) (fun b hb => ⟨hb.1, hb.2.1⟩)
      clear f1 f2 f3 f4 f5 f6 f7 f8 f9 g1 g2 g3 g4 g5 g6 g7 g8 g9 hapart hnew hsz9 hown9 hb9
      generalize (World.setCell _ _ _) = V0 at *
      obtain ⟨f1, f2, f3, f4, f5, f6, f7, f8, f9⟩ := HC.out.facts
      go_wp2
      refine bodyPost_ret (results_cell_tmp Tryz.results189 _ _ (w.heap.size + 1) _ _ _ _ rfl (heap_setRow_at HC.out.res) Tryz.underlying32 rfl (by kernel_rfl)) rfl ?_
      exact HC.out.done HE HAT.out

set_option maxRecDepth 100000 in
set_option maxHeartbeats 1000000 in
theorem enrol_calls (w : World) (ok : Nat → Prop) (u0 u1 u2 u3 : Value) (T : Pr) (id site : Int) (h : PrAt w ok u0 u1 u2 u3 T) (hl : T.Small) (hok : ∀ b, w.heap.size ≤ b → ok b) :
    Calls Tryz.prog 190 #[.agg #[u0, u1, u2, u3], .int .u32 id, .int .u32 site] w fun e w' => PrPost w w' ok e (enrolP T id site) := by
  obtain ⟨R, hR⟩ : ∃ R, R = enrolP T id site := ⟨_, rfl⟩
  rw [← hR]
  have HR := hide hR
  have HH := hide h
  obtain ⟨⟨a0, n0, c0, rfl⟩, ⟨a1, n1, c1, rfl⟩, ⟨a2, n2, c2, rfl⟩, ⟨a3, n3, c3, rfl⟩⟩ := h.forms
  have hov : ∀ b0 b1 b2 b3 m0 m1 m2 m3 d0 d1 d2 d3, ones #[.slice b0 m0 d0, .slice b1 m1 d1, .slice b2 m2 d2, .slice b3 m3 d3] 4 = true := fun _ _ _ _ _ _ _ _ _ _ _ _ => rfl
  clear hR h
  cases t0 : (id == 0) with
  | true =>
    have HE : Hid (R = (T, 7)) := HR.out.trans (by simp [enrolP, t0])
    go_enter Tryz.func190, Tryz.ntmps190
    go_upto_region 1 with fail
    have HB0 := hide (PrBox.start w (.slice a0 n0 c0) (.slice a1 n1 c1) (.slice a2 n2 c2) (.slice a3 n3 c3))
    generalize (World.alloc (World.alloc w _) _) = W at *
    obtain ⟨f1, f2, f3, f4, f5, f6, f7, f8, f9⟩ := HB0.out.facts
    go_wp2
    refine bodyPost_ret (results_cell_tmp Tryz.results190 _ _ (w.heap.size + 1) _ _ _ _ rfl (heap_setRow_at HB0.out.res) Tryz.underlying32 rfl (by kernel_rfl)) rfl ?_
    exact HB0.out.back HE HH.out
  | false =>
    cases t1 : T.sub.any (fun x : Sbj => (x.id == id)) with
    | true =>
      have HE : Hid (R = (T, 10)) := HR.out.trans (by simp only [enrolP, t0, t1]; rfl)
      go_enter Tryz.func190, Tryz.ntmps190
      go_upto_region 1 with fail
      have HB0 := hide (PrBox.start w (.slice a0 n0 c0) (.slice a1 n1 c1) (.slice a2 n2 c2) (.slice a3 n3 c3))
      generalize (World.alloc (World.alloc w _) _) = W at *
      obtain ⟨f1, f2, f3, f4, f5, f6, f7, f8, f9⟩ := HB0.out.facts
      go_upto_region 4 with (go_at_call 96; refine (siteOf_calls _ ok _ _ _ _ T.sub id (HH.out.below HB0.out.below).u).mono ?_; rintro e w1 ⟨rfl, hb1⟩; obtain ⟨y9, hy9⟩ := findV_pair (fun x : Sbj => (x.id == id)) (fun x => .int .u32 x.site) (.int .u32 0) T.sub; rw [hy9, t1]; clear hy9)
      have HB1 := hide (HB0.out.next hb1)
      clear f1 f2 f3 f4 f5 f6 f7 f8 f9 HB0 hb1
      obtain ⟨f1, f2, f3, f4, f5, f6, f7, f8, f9⟩ := HB1.out.facts
      go_wp2
      refine bodyPost_ret (results_cell_tmp Tryz.results190 _ _ (w.heap.size + 1) _ _ _ _ rfl (heap_setRow_at HB1.out.res) Tryz.underlying32 rfl (by kernel_rfl)) rfl ?_
      exact HB1.out.back HE HH.out
    | false =>
      cases t2 : T.site.any (fun x : Int => (x == site)) with
      | false =>
        have HE : Hid (R = (T, 18)) := HR.out.trans (by simp only [enrolP, t0, t1, t2]; rfl)
        go_enter Tryz.func190, Tryz.ntmps190
        go_upto_region 1 with fail
        have HB0 := hide (PrBox.start w (.slice a0 n0 c0) (.slice a1 n1 c1) (.slice a2 n2 c2) (.slice a3 n3 c3))
        generalize (World.alloc (World.alloc w _) _) = W at *
        obtain ⟨f1, f2, f3, f4, f5, f6, f7, f8, f9⟩ := HB0.out.facts
        go_upto_region 4 with (go_at_call 96; refine (siteOf_calls _ ok _ _ _ _ T.sub id (HH.out.below HB0.out.below).u).mono ?_; rintro e w1 ⟨rfl, hb1⟩; obtain ⟨y9, hy9⟩ := findV_pair (fun x : Sbj => (x.id == id)) (fun x => .int .u32 x.site) (.int .u32 0) T.sub; rw [hy9, t1]; clear hy9)
        have HB1 := hide (HB0.out.next hb1)
        clear f1 f2 f3 f4 f5 f6 f7 f8 f9 HB0 hb1
        obtain ⟨f1, f2, f3, f4, f5, f6, f7, f8, f9⟩ := HB1.out.facts
        go_upto_region 7 with (go_at_call 192; refine (hasSite_calls _ ok _ _ _ _ T.site site (HH.out.below HB1.out.below).s).mono ?_; rintro e w2 ⟨rfl, hb2⟩; rw [findV_any, t2])
        have HB2 := hide (HB1.out.next hb2)
        clear f1 f2 f3 f4 f5 f6 f7 f8 f9 HB1 hb2
        obtain ⟨f1, f2, f3, f4, f5, f6, f7, f8, f9⟩ := HB2.out.facts
        go_wp2
        refine bodyPost_ret (results_cell_tmp Tryz.results190 _ _ (w.heap.size + 1) _ _ _ _ rfl (heap_setRow_at HB2.out.res) Tryz.underlying32 rfl (by kernel_rfl)) rfl ?_
        exact HB2.out.back HE HH.out
      | true =>
        have HE : Hid (R = ({ T with sub := T.sub ++ [⟨id, site⟩] }, 0)) := HR.out.trans (by simp only [enrolP, t0, t1, t2]; rfl)
        go_enter Tryz.func190, Tryz.ntmps190
        go_upto_region 1 with fail
        have HB0 := hide (PrBox.start w (.slice a0 n0 c0) (.slice a1 n1 c1) (.slice a2 n2 c2) (.slice a3 n3 c3))
        generalize (World.alloc (World.alloc w _) _) = W at *
        obtain ⟨f1, f2, f3, f4, f5, f6, f7, f8, f9⟩ := HB0.out.facts
        go_upto_region 4 with (go_at_call 96; refine (siteOf_calls _ ok _ _ _ _ T.sub id (HH.out.below HB0.out.below).u).mono ?_; rintro e w1 ⟨rfl, hb1⟩; obtain ⟨y9, hy9⟩ := findV_pair (fun x : Sbj => (x.id == id)) (fun x => .int .u32 x.site) (.int .u32 0) T.sub; rw [hy9, t1]; clear hy9)
        have HB1 := hide (HB0.out.next hb1)
        clear f1 f2 f3 f4 f5 f6 f7 f8 f9 HB0 hb1
        obtain ⟨f1, f2, f3, f4, f5, f6, f7, f8, f9⟩ := HB1.out.facts
        go_upto_region 8 with (go_at_call 192; refine (hasSite_calls _ ok _ _ _ _ T.site site (HH.out.below HB1.out.below).s).mono ?_; rintro e w2 ⟨rfl, hb2⟩; rw [findV_any, t2])
        have HB2 := hide (HB1.out.next hb2)
        clear f1 f2 f3 f4 f5 f6 f7 f8 f9 HB1 hb2
        obtain ⟨f1, f2, f3, f4, f5, f6, f7, f8, f9⟩ := HB2.out.facts
        go_upto_region 9 with (go_at_call 239; refine (withSbj_calls _ ok _ T.sub ⟨id, site⟩ (HH.out.below HB2.out.below).u hl.u).mono ?_; rintro e v2 ⟨x9, rfl, hown9, hb9⟩; obtain ⟨A9, m9, k9, e9⟩ := hown9.form3; subst e9; have HB9 := hide (HB2.out.next hb9); obtain ⟨g1, g2, g3, g4, g5, g6, g7, g8, g9⟩ := HB9.out.facts)
        have HC := hide (HB9.out.set (k := 3) (v := .slice A9 m9 k9) (v0 := .slice a0 n0 c0) (v1 := .slice a1 n1 c1) (v2 := .slice a2 n2 c2) (v3 := .slice A9 m9 k9) rfl)
        have hr9 : HB9.out.lt = HB9.out.lt := rfl
        clear hr9
        have hapart : PrAt v2 (fun b => ok b ∧ b ≠ w.heap.size + 1 ∧ b ≠ w.heap.size) (.slice a0 n0 c0) (.slice a1 n1 c1) (.slice a2 n2 c2) (.slice a3 n3 c3) T := (HH.out.lt.mono (ok' := fun b => (ok b ∧ b ≠ w.heap.size + 1 ∧ b ≠ w.heap.size) ∧ b < w.heap.size) (fun _ _ => rfl) (fun b hb => ⟨⟨hb.1, by have := hb.2; omega, by have := hb.2; omega⟩, hb.2⟩)).mono (fun b hb => HB9.out.below.block b hb.2) (fun _ hb => hb.1)
        have hsz9 := HB2.out.size
        have hnew : RArr v2 (fun b => ok b ∧ b ≠ w.heap.size + 1 ∧ b ≠ w.heap.size) 2 sbjCs (.slice A9 m9 k9) (T.sub ++ [⟨id, site⟩]) := hown9.to_ok sbjCs_size (by decide) (by have := hl.u; simp only [List.length_append, List.length_cons, List.length_nil]; omega) (fun b hb => ⟨hok b (by omega), by omega, by omega⟩)
        have HAT : Hid (PrAt (v2.setCell ⟨w.heap.size, 3, none⟩ (.slice A9 m9 k9)) (fun b => ok b ∧ b ≠ w.heap.size + 1) (.slice a0 n0 c0) (.slice a1 n1 c1) (.slice a2 n2 c2) (.slice A9 m9 k9) { T with sub := T.sub ++ [⟨id, site⟩] }) := PrAt.mono (ok := fun b => ok b ∧ b ≠ w.heap.size + 1 ∧ b ≠ w.heap.size) ⟨hapart.a, hapart.v, hapart.s, hnew⟩ (fun b hb => Below.heap_setCell _ _ _ _ hb.2.2) (fun b hb => ⟨hb.1, hb.2.1⟩)
        clear f1 f2 f3 f4 f5 f6 f7 f8 f9 g1 g2 g3 g4 g5 g6 g7 g8 g9 hapart hnew hsz9 hown9 hb9
        generalize (World.setCell _ _ _) = V0 at *
        obtain ⟨f1, f2, f3, f4, f5, f6, f7, f8, f9⟩ := HC.out.facts
        go_wp2
        refine bodyPost_ret (results_cell_tmp Tryz.results190 _ _ (w.heap.size + 1) _ _ _ _ rfl (heap_setRow_at HC.out.res) Tryz.underlying32 rfl (by kernel_rfl)) rfl ?_
        exact HC.out.done HE HAT.out

end Go.Proofs.Qxb6500666aGreatDoor
