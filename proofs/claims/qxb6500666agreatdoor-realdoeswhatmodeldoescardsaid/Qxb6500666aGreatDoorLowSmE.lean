/- The samples' layer: Accession, walked. -/
import Derived.Test.Qxb6500666aGreatDoorLowSmD
namespace Go.Proofs.Qxb6500666aGreatDoor
open Go.RowKit

theorem SmBox.start2 (w : World) (u1 u2 u3 : Value) (cs : Array Value) (t : TypeId) : SmBox w (((w.alloc (.cells #[u1, u2, u3] 40)).alloc (.cells cs t)).alloc (.cells #[.slice none 0 0, .slice none 0 0, .slice none 0 0] 40)) (w.heap.size + 2) u1 u2 u3 ∧ (((w.alloc (.cells #[u1, u2, u3] 40)).alloc (.cells cs t)).alloc (.cells #[.slice none 0 0, .slice none 0 0, .slice none 0 0] 40)).heap[w.heap.size + 1]? = some (.cells cs t (0, 0)) := by
  have e2 : (((w.alloc (.cells #[u1, u2, u3] 40)).alloc (.cells cs t)).alloc (.cells #[.slice none 0 0, .slice none 0 0, .slice none 0 0] 40)).heap[w.heap.size + 2]? = some (.cells #[.slice none 0 0, .slice none 0 0, .slice none 0 0] 40 (0, 0)) := by
    have := heap_alloc_at ((w.alloc (.cells #[u1, u2, u3] 40)).alloc (.cells cs t)) (.cells #[.slice none 0 0, .slice none 0 0, .slice none 0 0] 40)
    simpa using this
  exact ⟨⟨(Below.heap_alloc _ _ _ (by simp; omega)).trans ((Below.heap_alloc _ _ _ (by simp)).trans (heap_alloc_at _ _)), e2, (((Below.refl _ _).alloc (Nat.le_refl _) _).alloc (by simp) _).alloc (by simp; omega) _, by omega, by simp⟩, (Below.heap_alloc _ _ _ (by simp)).trans (box2 w _ _ _ _)⟩
theorem SmBox.setX {w W : World} {r : Nat} {u1 u2 u3 : Value} (h : SmBox w W r u1 u2 u3) {g o : Nat} {v : Value} (h1 : w.heap.size < g) (h2 : g ≠ r) : SmBox w (W.setCell ⟨g, o, none⟩ v) r u1 u2 u3 :=
  ⟨(Below.heap_setCell _ _ _ _ (by show w.heap.size ≠ g; omega)).trans h.box, (Below.heap_setCell _ _ _ _ (by show r ≠ g; omega)).trans h.res, h.below.setCell (p := ⟨g, o, none⟩) (by show w.heap.size ≤ g; omega) _, h.lt, by have := h.size; simpa using this⟩

attribute [local go_sem] ext_const Ext.cell Ext.frozen Ext.rng Ext.whole
attribute [local go_sem ↓] exec_ldSmS exec_stSmS exec_bsSmp exec_ldSmp
attribute [local go_sem] run_ldSmS run_stSmS run_bsSmp run_ldSmp whole_alloc_lt whole_alloc_at whole_drew setRow_alloc_at setRow_alloc_lt rng_alloc_lt rng_alloc_at rng_drew rng_drewN rng_setCell_other whole_setCell_other

theorem cell_eight {w : World} {b : Nat} {x0 x1 x2 x3 x4 x5 x6 x7 : Value} {t : TypeId} (h : w.heap[b]? = some (.cells #[x0, x1, x2, x3, x4, x5, x6, x7] t (0, 0))) : w.cell? ⟨b, 0, none⟩ = some x0 ∧ w.cell? ⟨b, 4, none⟩ = some x4 ∧ w.cell? ⟨b, 5, none⟩ = some x5 ∧ w.cell? ⟨b, 6, none⟩ = some x6 ∧ w.cell? ⟨b, 7, none⟩ = some x7 ∧ (∀ j, w.frozen? ⟨b, j, none⟩ = false) ∧ b < w.heap.size :=
  ⟨by rw [World.cell?, h]; rfl, by rw [World.cell?, h]; rfl, by rw [World.cell?, h]; rfl, by rw [World.cell?, h]; rfl, by rw [World.cell?, h]; rfl, fun j => by rw [World.frozen?, h]; simp, blk_lt h⟩

set_option maxRecDepth 100000 in
set_option maxHeartbeats 1000000 in
theorem accession_calls (w : World) (ok : Nat → Prop) (u1 u2 u3 : Value) (T : Sm) (x0 x1 x2 x3 x4 x5 x6 : Int) (x7 : Bool) (h : SmAt w ok u1 u2 u3 T) (hl : T.Small) (hok : ∀ b, w.heap.size ≤ b → ok b) :
    Calls Tryz.prog 194 #[.agg #[u1, u2, u3], .agg #[.int .u32 x0, .int .u32 x1, .int .u32 x2, .int .u32 x3, .int .u8 x4, .int .i64 x5, .int .i64 x6, .bool x7]] w fun e w' => SmPost w w' ok e (accession T ⟨x0, x1, x2, x3, x4, x5, x6, x7⟩) := by
  obtain ⟨R, hR⟩ : ∃ R, R = accession T ⟨x0, x1, x2, x3, x4, x5, x6, x7⟩ := ⟨_, rfl⟩
  rw [← hR]
  have HR := hide hR
  have HH := hide h
  obtain ⟨a1, n1, c1, rfl, -⟩ := Src.of h.a
  obtain ⟨a2, n2, c2, rfl, -⟩ := Src.of h.b
  obtain ⟨a3, n3, c3, rfl, -⟩ := Src.of h.c
  have hov : ∀ b1 b2 b3 m1 m2 m3 d1 d2 d3, ones #[.slice b1 m1 d1, .slice b2 m2 d2, .slice b3 m3 d3] 3 = true := fun _ _ _ _ _ _ _ _ _ => rfl
  clear hR h
  cases t0 : (x0 == 0) with
  | true =>
    have HE : Hid (R = (T, 7)) := HR.out.trans (by simp [accession, t0])
    go_enter Tryz.func194, Tryz.ntmps194
    go_upto_region 1 with fail
    obtain ⟨hq0, hq1⟩ := SmBox.start2 w (.slice a1 n1 c1) (.slice a2 n2 c2) (.slice a3 n3 c3) #[.int .u32 x0, .int .u32 x1, .int .u32 x2, .int .u32 x3, .int .u8 x4, .int .i64 x5, .int .i64 x6, .bool x7] 94
    have HB0 := hide hq0
    have HX0 := hide hq1
    clear hq0 hq1
    generalize (World.alloc (World.alloc (World.alloc w _) _) _) = W at *
    obtain ⟨f1, f2, f3, f4, -, -, -⟩ := HB0.out.facts
    obtain ⟨y0, y4, y5, y6, y7, hfz, hyl⟩ := cell_eight HX0.out
    go_wp2
    refine bodyPost_ret (results_cell_tmp Tryz.results194 _ _ (w.heap.size + 2) _ _ _ _ rfl (heap_setRow_at HB0.out.res) Tryz.underlying40 rfl (by kernel_rfl)) rfl ?_
    exact HB0.out.back HE HH.out
  | false =>
    cases t1 : decide (x4 < 1) with
    | true =>
      have HE : Hid (R = (T, 13)) := HR.out.trans (by simp [accession, t0, t1])
      go_enter Tryz.func194, Tryz.ntmps194
      go_upto_region 1 with fail
      obtain ⟨hq0, hq1⟩ := SmBox.start2 w (.slice a1 n1 c1) (.slice a2 n2 c2) (.slice a3 n3 c3) #[.int .u32 x0, .int .u32 x1, .int .u32 x2, .int .u32 x3, .int .u8 x4, .int .i64 x5, .int .i64 x6, .bool x7] 94
      have HB0 := hide hq0
      have HX0 := hide hq1
      clear hq0 hq1
      generalize (World.alloc (World.alloc (World.alloc w _) _) _) = W at *
      obtain ⟨f1, f2, f3, f4, -, -, -⟩ := HB0.out.facts
      obtain ⟨y0, y4, y5, y6, y7, hfz, hyl⟩ := cell_eight HX0.out
      go_wp2
      refine bodyPost_ret (results_cell_tmp Tryz.results194 _ _ (w.heap.size + 2) _ _ _ _ rfl (heap_setRow_at HB0.out.res) Tryz.underlying40 rfl (by kernel_rfl)) rfl ?_
      exact HB0.out.back HE HH.out
    | false =>
      cases t2 : decide (3 < x4) with
      | true =>
        have HE : Hid (R = (T, 13)) := HR.out.trans (by simp [accession, t0, t1, t2])
        go_enter Tryz.func194, Tryz.ntmps194
        go_upto_region 1 with fail
        obtain ⟨hq0, hq1⟩ := SmBox.start2 w (.slice a1 n1 c1) (.slice a2 n2 c2) (.slice a3 n3 c3) #[.int .u32 x0, .int .u32 x1, .int .u32 x2, .int .u32 x3, .int .u8 x4, .int .i64 x5, .int .i64 x6, .bool x7] 94
        have HB0 := hide hq0
        have HX0 := hide hq1
        clear hq0 hq1
        generalize (World.alloc (World.alloc (World.alloc w _) _) _) = W at *
        obtain ⟨f1, f2, f3, f4, -, -, -⟩ := HB0.out.facts
        obtain ⟨y0, y4, y5, y6, y7, hfz, hyl⟩ := cell_eight HX0.out
        go_wp2
        refine bodyPost_ret (results_cell_tmp Tryz.results194 _ _ (w.heap.size + 2) _ _ _ _ rfl (heap_setRow_at HB0.out.res) Tryz.underlying40 rfl (by kernel_rfl)) rfl ?_
        exact HB0.out.back HE HH.out
      | false =>
        cases t3 : inCal x5 with
        | false =>
          have HE : Hid (R = (T, 5)) := HR.out.trans (by simp [accession, t0, t1, t2, t3])
          go_enter Tryz.func194, Tryz.ntmps194
          go_upto_region 1 with fail
          obtain ⟨hq0, hq1⟩ := SmBox.start2 w (.slice a1 n1 c1) (.slice a2 n2 c2) (.slice a3 n3 c3) #[.int .u32 x0, .int .u32 x1, .int .u32 x2, .int .u32 x3, .int .u8 x4, .int .i64 x5, .int .i64 x6, .bool x7] 94
          have HB0 := hide hq0
          have HX0 := hide hq1
          clear hq0 hq1
          generalize (World.alloc (World.alloc (World.alloc w _) _) _) = W at *
          obtain ⟨f1, f2, f3, f4, -, -, -⟩ := HB0.out.facts
          obtain ⟨y0, y4, y5, y6, y7, hfz, hyl⟩ := cell_eight HX0.out
          go_wp2_with ((go_at_call 241; refine (inCal_calls _ x5).mono ?_; rintro e w9 ⟨rfl, rfl⟩; rw [t3]))
          refine bodyPost_ret (results_cell_tmp Tryz.results194 _ _ (w.heap.size + 2) _ _ _ _ rfl (heap_setRow_at HB0.out.res) Tryz.underlying40 rfl (by kernel_rfl)) rfl ?_
          exact HB0.out.back HE HH.out
        | true =>
          cases t4 : inCal x6 with
          | false =>
            have HE : Hid (R = (T, 5)) := HR.out.trans (by simp [accession, t0, t1, t2, t3, t4])
            go_enter Tryz.func194, Tryz.ntmps194
            go_upto_region 1 with fail
            obtain ⟨hq0, hq1⟩ := SmBox.start2 w (.slice a1 n1 c1) (.slice a2 n2 c2) (.slice a3 n3 c3) #[.int .u32 x0, .int .u32 x1, .int .u32 x2, .int .u32 x3, .int .u8 x4, .int .i64 x5, .int .i64 x6, .bool x7] 94
            have HB0 := hide hq0
            have HX0 := hide hq1
            clear hq0 hq1
            generalize (World.alloc (World.alloc (World.alloc w _) _) _) = W at *
            obtain ⟨f1, f2, f3, f4, -, -, -⟩ := HB0.out.facts
            obtain ⟨y0, y4, y5, y6, y7, hfz, hyl⟩ := cell_eight HX0.out
            go_wp2_with ((go_at_call 241; refine (inCal_calls _ _).mono ?_; rintro e w9 ⟨rfl, rfl⟩; first | rw [t3] | rw [t4]))
            refine bodyPost_ret (results_cell_tmp Tryz.results194 _ _ (w.heap.size + 2) _ _ _ _ rfl (heap_setRow_at HB0.out.res) Tryz.underlying40 rfl (by kernel_rfl)) rfl ?_
            exact HB0.out.back HE HH.out
          | true =>
            rcases findI_cases (fun x : Smp => (x.id == x0)) T.ss with hi | ⟨q, hq, hi, -⟩
            · skip
              have HE : Hid (R = ({ T with ss := T.ss ++ [⟨x0, x1, x2, x3, x4, x5, x6, false⟩] }, 0)) := HR.out.trans (by simp [accession, t0, t1, t2, t3, t4, sIdx, hi])
              go_enter Tryz.func194, Tryz.ntmps194
              go_upto_region 1 with fail
              obtain ⟨hq0, hq1⟩ := SmBox.start2 w (.slice a1 n1 c1) (.slice a2 n2 c2) (.slice a3 n3 c3) #[.int .u32 x0, .int .u32 x1, .int .u32 x2, .int .u32 x3, .int .u8 x4, .int .i64 x5, .int .i64 x6, .bool x7] 94
              have HB0 := hide hq0
              have HX0 := hide hq1
              clear hq0 hq1
              generalize (World.alloc (World.alloc (World.alloc w _) _) _) = W at *
              obtain ⟨f1, f2, f3, f4, -, -, -⟩ := HB0.out.facts
              obtain ⟨y0, y4, y5, y6, y7, hfz, hyl⟩ := cell_eight HX0.out
              go_upto_region 9 with (first | (go_at_call 241; refine (inCal_calls _ _).mono ?_; rintro e w9 ⟨rfl, rfl⟩; first | rw [t3] | rw [t4]) | (go_at_call 95; refine (sampleI_calls _ ok _ _ _ T.ss x0 (HH.out.below HB0.out.below).a).mono ?_; rintro e w1 ⟨rfl, hb1⟩; rw [hi]))
              have HB1 := hide (HB0.out.next hb1)
              have HX1 := hide ((hb1.block _ hyl).trans HX0.out)
              clear f1 f2 f3 f4 y0 y4 y5 y6 y7 hfz hyl HB0 HX0 hb1
              obtain ⟨f1, f2, f3, f4, -, -, -⟩ := HB1.out.facts
              obtain ⟨y0, y4, y5, y6, y7, hfz, hyl⟩ := cell_eight HX1.out
              go_upto_region 10 with fail
              have HB2 := hide (HB1.out.setX (g := w.heap.size + 1) (o := 7) (v := .bool false) (by omega) (by omega))
              have HX2 := hide (heap_set3 (j := 7) (v := .bool false) HX1.out)
              generalize (World.setCell _ _ _) = V1 at *
              clear f1 f2 f3 f4 y0 y4 y5 y6 y7 hfz hyl HB1 HX1
              obtain ⟨f1, f2, f3, f4, -, -, -⟩ := HB2.out.facts
              have hyl := blk_lt HX2.out
              go_upto_region 11 with (go_at_call 242; refine (smpCopied_calls _ ok _ _ _ T.ss T.rs T.qs (HH.out.below HB2.out.below).a (HH.out.below HB2.out.below).b (HH.out.below HB2.out.below).c hl.a hl.b hl.c).mono ?_; rintro e v2 ⟨U1, U2, U3, rfl, hcp⟩; obtain ⟨A1, k1, e1⟩ := hcp.a.form; obtain ⟨A2, k2, e2⟩ := hcp.b.form; obtain ⟨A3, k3, e3⟩ := hcp.c.form; subst e1 e2 e3)
              have HN := hide (SmNx.of HB2.out hcp)
              have hv2 := blk_lt ((hcp.below.block _ hyl).trans HX2.out)
              have hrx : rng (v2.alloc (.cells #[.slice A1 T.ss.length k1, .slice A2 T.rs.length k2, .slice A3 T.qs.length k3] 40)) (w.heap.size + 1) 0 8 = some #[.int .u32 x0, .int .u32 x1, .int .u32 x2, .int .u32 x3, .int .u8 x4, .int .i64 x5, .int .i64 x6, .bool false] := rng_whole ((Below.heap_alloc _ _ _ hv2).trans ((hcp.below.block _ hyl).trans HX2.out))
              have hsa : w.heap.size + 1 < (v2.alloc (.cells #[.slice A1 T.ss.length k1, .slice A2 T.rs.length k2, .slice A3 T.qs.length k3] 40)).heap.size := by simp only [World.size_alloc]; omega
              generalize hNN : v2.heap.size = N at *
              generalize (v2.alloc _) = W3 at *
              clear hcp f1 f2 f3 f4 hyl hv2
              obtain ⟨f1, f2, f3, f4, f5, f6, f7, f8, f9⟩ := HN.out.facts
              go_upto_region 12 with (at_builtin; refine wpList_app1 (α := Smp) rfl _ _ 36 rfl w.heap.size 94 smpCs Tryz.underlying36 Tryz.info94 rfl (by decide) smpCs_size smpCs_one (.slice A1 T.ss.length k1) T.ss rfl (OwnR.below HN.out.own.a ((Below.refl _ _).alloc (Nat.le_refl _) _) (Nat.le_refl _)) _ rfl ⟨x0, x1, x2, x3, x4, x5, x6, false⟩ (rng_whole (heap_alloc_at _ _)) (by have := hl.a; omega) (by have := hl.a; unfold maxLen; omega) (by have := HN.out.own.below.size; simp only [World.size_alloc]; omega) ?_; intro v9 w9 hown9 hsame9 hbel9 hat9; obtain ⟨A9, k9, e9⟩ := hown9.form; simp only [List.length_append, List.length_cons, List.length_nil, Nat.zero_add] at e9; subst e9; obtain ⟨-, g1, g2, g3, g4⟩ := HN.out.app_facts (by simp) hsame9)
              have HM0 := hide (HN.out.appSmp hown9 hsame9 hbel9 hat9)
              generalize (World.setCell _ _ _) = V0 at *
              clear f1 f2 f3 f4 f5 f6 f7 f8 g1 g2 g3 g4 hown9 hsame9 hbel9 hat9 HN
              obtain ⟨f1, f2, f3, f4, -, -, -, -, f9⟩ := HM0.out.facts
              go_wp2
              refine bodyPost_ret (results_cell_tmp Tryz.results194 _ _ (w.heap.size + 2) _ _ _ _ rfl (heap_setRow_at HM0.out.res) Tryz.underlying40 rfl (by kernel_rfl)) rfl ?_
              exact HM0.out.back HE hok (by simp only [List.length_append, List.length_cons, List.length_nil]; have := hl.a; omega) (by have := hl.b; show T.rs.length ≤ _; omega) (by have := hl.c; show T.qs.length ≤ _; omega)
            · skip
              have HE : Hid (R = (T, 10)) := HR.out.trans (by simp [accession, t0, t1, t2, t3, t4, sIdx, hi])
              go_enter Tryz.func194, Tryz.ntmps194
              go_upto_region 1 with fail
              obtain ⟨hq0, hq1⟩ := SmBox.start2 w (.slice a1 n1 c1) (.slice a2 n2 c2) (.slice a3 n3 c3) #[.int .u32 x0, .int .u32 x1, .int .u32 x2, .int .u32 x3, .int .u8 x4, .int .i64 x5, .int .i64 x6, .bool x7] 94
              have HB0 := hide hq0
              have HX0 := hide hq1
              clear hq0 hq1
              generalize (World.alloc (World.alloc (World.alloc w _) _) _) = W at *
              obtain ⟨f1, f2, f3, f4, -, -, -⟩ := HB0.out.facts
              obtain ⟨y0, y4, y5, y6, y7, hfz, hyl⟩ := cell_eight HX0.out
              go_upto_region 8 with (first | (go_at_call 241; refine (inCal_calls _ _).mono ?_; rintro e w9 ⟨rfl, rfl⟩; first | rw [t3] | rw [t4]) | (go_at_call 95; refine (sampleI_calls _ ok _ _ _ T.ss x0 (HH.out.below HB0.out.below).a).mono ?_; rintro e w1 ⟨rfl, hb1⟩; rw [hi]))
              have HB1 := hide (HB0.out.next hb1)
              have HX1 := hide ((hb1.block _ hyl).trans HX0.out)
              clear f1 f2 f3 f4 y0 y4 y5 y6 y7 hfz hyl HB0 HX0 hb1
              obtain ⟨f1, f2, f3, f4, -, -, -⟩ := HB1.out.facts
              obtain ⟨y0, y4, y5, y6, y7, hfz, hyl⟩ := cell_eight HX1.out
              go_wp2
              refine bodyPost_ret (results_cell_tmp Tryz.results194 _ _ (w.heap.size + 2) _ _ _ _ rfl (heap_setRow_at HB1.out.res) Tryz.underlying40 rfl (by kernel_rfl)) rfl ?_
              exact HB1.out.back HE HH.out

end Go.Proofs.Qxb6500666aGreatDoor
