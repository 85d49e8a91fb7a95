/- The samples' layer: its commands, walked. (Made by tools/mk_sm.py.) -/
import Derived.Test.Qxb6500666aGreatDoorLowSm
namespace Go.Proofs.Qxb6500666aGreatDoor
open Go.RowKit

attribute [local go_sem] ext_const Ext.cell Ext.frozen Ext.rng Ext.whole
attribute [local go_sem ↓] exec_ldSmS exec_stSmS exec_bsSmp exec_bsRes exec_bsQry
attribute [local go_sem] run_ldSmS run_stSmS run_bsSmp run_bsRes run_bsQry whole_alloc_lt whole_alloc_at whole_drew setRow_alloc_at setRow_alloc_lt rng_alloc_lt rng_alloc_at rng_drew rng_drewN rng_setCell_other whole_setCell_other

set_option maxRecDepth 100000 in
set_option maxHeartbeats 1000000 in
theorem excursion_calls (w : World) (ok : Nat → Prop) (u1 u2 u3 : Value) (T : Sm) (id : Int) (h : SmAt w ok u1 u2 u3 T) (hl : T.Small) (hok : ∀ b, w.heap.size ≤ b → ok b) :
    Calls Tryz.prog 195 #[.agg #[u1, u2, u3], .int .u32 id] w fun e w' => SmPost w w' ok e (excursion T id) := by
  obtain ⟨R, hR⟩ : ∃ R, R = excursion T id := ⟨_, rfl⟩
  rw [← hR]
  have HR := hide hR
  have HH := hide h
  obtain ⟨a1, n1, c1, rfl, S1⟩ := Src.of h.a
  obtain ⟨a2, n2, c2, rfl, S2⟩ := Src.of h.b
  obtain ⟨a3, n3, c3, rfl, S3⟩ := Src.of h.c
  have HS1 := hide S1
  have HS2 := hide S2
  have HS3 := hide S3
  have hov : ∀ b1 b2 b3 m1 m2 m3 d1 d2 d3, ones #[.slice b1 m1 d1, .slice b2 m2 d2, .slice b3 m3 d3] 3 = true := fun _ _ _ _ _ _ _ _ _ => rfl
  clear hR h S1 S2 S3
  rcases findI_cases (fun x : Smp => (x.id == id)) T.ss with hi0 | ⟨q0, hq0, hi0, -⟩
  · skip
    have HE : Hid (R = (T, 20)) := HR.out.trans (by simp [excursion, sIdx, hi0])
    go_enter Tryz.func195, Tryz.ntmps195
    go_upto_region 1 with fail
    have HB0 := hide (SmBox.start w (.slice a1 n1 c1) (.slice a2 n2 c2) (.slice a3 n3 c3))
    generalize ((w.alloc (.cells #[.slice a1 n1 c1, .slice a2 n2 c2, .slice a3 n3 c3] 40)).alloc (.cells #[.slice none 0 0, .slice none 0 0, .slice none 0 0] 40)) = W at *
    obtain ⟨f1, f2, f3, f4, f5, f6, f7⟩ := HB0.out.facts
    go_upto_region 2 with (go_at_call 95; refine (sampleI_calls _ ok _ _ _ T.ss id (HH.out.below HB0.out.below).a).mono ?_; rintro e w1 ⟨rfl, hb1⟩; rw [hi0])
    have HB1 := hide (HB0.out.next hb1)
    clear f1 f2 f3 f4 f5 f6 f7 HB0 hb1
    obtain ⟨f1, f2, f3, f4, f5, f6, f7⟩ := HB1.out.facts
    go_wp2
    refine bodyPost_ret (results_cell_tmp Tryz.results195 _ _ (w.heap.size + 1) _ _ _ _ rfl (heap_setRow_at HB1.out.res) Tryz.underlying40 rfl (by kernel_rfl)) rfl ?_
    exact HB1.out.back HE HH.out
  · skip
    have hn : n1 = T.ss.length := HS1.out.len
    obtain ⟨gb, go, hab, hrg⟩ := HS1.out.src w (Below.refl _ _) (by omega)
    subst hab
    have hrq := hrg q0 hq0
    have hgl := rng_lt hrq
    have hqn : q0 < n1 := by omega
    have HNl := hide hn
    have hx := run_indexAt_arr (P := Tryz.prog) (n := n1) (cap := c1) (a := some ⟨gb, go, none⟩) (b := gb) (off := go) Tryz.underlying36 Tryz.size94 (fun _ => rfl)
    have hex : w.cell? ⟨gb, go + q0 * 8 + 7, none⟩ = some (.bool T.ss[q0].exc) := by rw [(rng_cell hrq).2 7 (by decide)]; rfl
    clear hrg hrq hn
    generalize tz : T.ss[q0].exc = z at hex
    cases t1 : z with
    | true =>
      have tw : z = true := t1
      subst tw
      have HE : Hid (R = (T, 11)) := HR.out.trans (by simp [excursion, sIdx, hi0, hq0, tz])
      go_enter Tryz.func195, Tryz.ntmps195
      go_upto_region 1 with fail
      have HB0 := hide (SmBox.start w (.slice (some ⟨gb, go, none⟩) n1 c1) (.slice a2 n2 c2) (.slice a3 n3 c3))
      generalize ((w.alloc (.cells #[.slice (some ⟨gb, go, none⟩) n1 c1, .slice a2 n2 c2, .slice a3 n3 c3] 40)).alloc (.cells #[.slice none 0 0, .slice none 0 0, .slice none 0 0] 40)) = W at *
      obtain ⟨f1, f2, f3, f4, f5, f6, f7⟩ := HB0.out.facts
      go_upto_region 2 with (go_at_call 95; refine (sampleI_calls _ ok _ _ _ T.ss id (HH.out.below HB0.out.below).a).mono ?_; rintro e w1 ⟨rfl, hb1⟩; rw [hi0])
      have HB1 := hide (HB0.out.next hb1)
      clear f1 f2 f3 f4 f5 f6 f7 HB0 hb1
      obtain ⟨f1, f2, f3, f4, f5, f6, f7⟩ := HB1.out.facts
      rw [← HB1.out.below.cell (p := ⟨gb, _, none⟩) hgl] at hex
      go_wp2
      refine bodyPost_ret (results_cell_tmp Tryz.results195 _ _ (w.heap.size + 1) _ _ _ _ rfl (heap_setRow_at HB1.out.res) Tryz.underlying40 rfl (by kernel_rfl)) rfl ?_
      exact HB1.out.back HE HH.out
    | false =>
      have tw : z = false := t1
      subst tw
      have HE : Hid (R = ({ T with ss := T.ss.set q0 { T.ss[q0] with exc := true } }, 0)) := HR.out.trans (by simp [excursion, sIdx, hi0, hq0, tz, upAt_eq hq0])
      go_enter Tryz.func195, Tryz.ntmps195
      go_upto_region 1 with fail
      have HB0 := hide (SmBox.start w (.slice (some ⟨gb, go, none⟩) n1 c1) (.slice a2 n2 c2) (.slice a3 n3 c3))
      generalize ((w.alloc (.cells #[.slice (some ⟨gb, go, none⟩) n1 c1, .slice a2 n2 c2, .slice a3 n3 c3] 40)).alloc (.cells #[.slice none 0 0, .slice none 0 0, .slice none 0 0] 40)) = W at *
      obtain ⟨f1, f2, f3, f4, f5, f6, f7⟩ := HB0.out.facts
      go_upto_region 2 with (go_at_call 95; refine (sampleI_calls _ ok _ _ _ T.ss id (HH.out.below HB0.out.below).a).mono ?_; rintro e w1 ⟨rfl, hb1⟩; rw [hi0])
      have HB1 := hide (HB0.out.next hb1)
      clear f1 f2 f3 f4 f5 f6 f7 HB0 hb1
      obtain ⟨f1, f2, f3, f4, f5, f6, f7⟩ := HB1.out.facts
      rw [← HB1.out.below.cell (p := ⟨gb, _, none⟩) hgl] at hex
      go_upto_region 7 with (go_at_call 242; refine (smpCopied_calls _ ok _ _ _ T.ss T.rs T.qs (HH.out.below HB1.out.below).a (HH.out.below HB1.out.below).b (HH.out.below HB1.out.below).c hl.a hl.b hl.c).mono ?_; rintro e v2 ⟨U1, U2, U3, rfl, hcp⟩; obtain ⟨A1, k1, e1⟩ := hcp.a.form; obtain ⟨A2, k2, e2⟩ := hcp.b.form; obtain ⟨A3, k3, e3⟩ := hcp.c.form; subst e1 e2 e3)
      have HN := hide (SmNx.of HB1.out hcp)
      generalize hNN : v2.heap.size = N at *
      generalize (v2.alloc _) = W3 at *
      clear hcp f1 f2 f3 f4 f5 f6 f7 hex hx hgl hqn
      obtain ⟨g, x9, e9, -, -, hgN, hg9, hc9, hf9, hv9, HN9⟩ := HN.out.setSmp q0 hq0 7 (by decide) { T.ss[q0] with exc := true } (.bool true) rfl
      subst e9
      clear hv9
      have hx := run_indexAt_arr (P := Tryz.prog) (n := T.ss.length) (cap := k1) (a := some ⟨g, 0, none⟩) (b := g) (off := 0) Tryz.underlying36 Tryz.size94 (fun _ => rfl)
      obtain ⟨f1, f2, f3, f4, f5, f6, f7, f8, f9⟩ := HN.out.facts
      have HM0 := hide HN9
      clear HN9
      go_upto_region 8 with fail
      generalize (World.setCell _ _ _) = V0 at *
      clear f1 f2 f3 f4 f5 f6 f7 f8 hc9 hf9 hx HN
      obtain ⟨f1, f2, f3, f4, -, -, -, -, f9⟩ := HM0.out.facts
      go_wp2
      refine bodyPost_ret (results_cell_tmp Tryz.results195 _ _ (w.heap.size + 1) _ _ _ _ rfl (heap_setRow_at HM0.out.res) Tryz.underlying40 rfl (by kernel_rfl)) rfl ?_
      exact HM0.out.back HE hok (by simp only [List.length_set]; have := hl.a; omega) (by have := hl.b; show T.rs.length ≤ _; omega) (by have := hl.c; show T.qs.length ≤ _; omega)

set_option maxRecDepth 100000 in
set_option maxHeartbeats 1000000 in
theorem collection_calls (w : World) (ok : Nat → Prop) (u1 u2 u3 : Value) (T : Sm) (id : Int) (m : Int) (h : SmAt w ok u1 u2 u3 T) (hl : T.Small) (hok : ∀ b, w.heap.size ≤ b → ok b) :
    Calls Tryz.prog 196 #[.agg #[u1, u2, u3], .int .u32 id, .int .i64 m] w fun e w' => SmPost w w' ok e (collection T id m) := by
  obtain ⟨R, hR⟩ : ∃ R, R = collection T id m := ⟨_, rfl⟩
  rw [← hR]
  have HR := hide hR
  have HH := hide h
  obtain ⟨a1, n1, c1, rfl, S1⟩ := Src.of h.a
  obtain ⟨a2, n2, c2, rfl, S2⟩ := Src.of h.b
  obtain ⟨a3, n3, c3, rfl, S3⟩ := Src.of h.c
  have HS1 := hide S1
  have HS2 := hide S2
  have HS3 := hide S3
  have hov : ∀ b1 b2 b3 m1 m2 m3 d1 d2 d3, ones #[.slice b1 m1 d1, .slice b2 m2 d2, .slice b3 m3 d3] 3 = true := fun _ _ _ _ _ _ _ _ _ => rfl
  clear hR h S1 S2 S3
  cases t0 : inCal m with
  | false =>
    have HE : Hid (R = (T, 5)) := HR.out.trans (by simp [collection, t0])
    go_enter Tryz.func196, Tryz.ntmps196
    go_upto_region 1 with fail
    have HB0 := hide (SmBox.start w (.slice a1 n1 c1) (.slice a2 n2 c2) (.slice a3 n3 c3))
    generalize ((w.alloc (.cells #[.slice a1 n1 c1, .slice a2 n2 c2, .slice a3 n3 c3] 40)).alloc (.cells #[.slice none 0 0, .slice none 0 0, .slice none 0 0] 40)) = W at *
    obtain ⟨f1, f2, f3, f4, f5, f6, f7⟩ := HB0.out.facts
    go_upto_region 2 with (go_at_call 241; refine (inCal_calls _ m).mono ?_; rintro e w9 ⟨rfl, rfl⟩; rw [t0])
    go_wp2
    refine bodyPost_ret (results_cell_tmp Tryz.results196 _ _ (w.heap.size + 1) _ _ _ _ rfl (heap_setRow_at HB0.out.res) Tryz.underlying40 rfl (by kernel_rfl)) rfl ?_
    exact HB0.out.back HE HH.out
  | true =>
    rcases findI_cases (fun x : Smp => (x.id == id)) T.ss with hi1 | ⟨q1, hq1, hi1, -⟩
    · skip
      have HE : Hid (R = (T, 20)) := HR.out.trans (by simp [collection, t0, sIdx, hi1])
      go_enter Tryz.func196, Tryz.ntmps196
      go_upto_region 1 with fail
      have HB0 := hide (SmBox.start w (.slice a1 n1 c1) (.slice a2 n2 c2) (.slice a3 n3 c3))
      generalize ((w.alloc (.cells #[.slice a1 n1 c1, .slice a2 n2 c2, .slice a3 n3 c3] 40)).alloc (.cells #[.slice none 0 0, .slice none 0 0, .slice none 0 0] 40)) = W at *
      obtain ⟨f1, f2, f3, f4, f5, f6, f7⟩ := HB0.out.facts
      go_upto_region 3 with (go_at_call 241; refine (inCal_calls _ m).mono ?_; rintro e w9 ⟨rfl, rfl⟩; rw [t0])
      go_upto_region 4 with (go_at_call 95; refine (sampleI_calls _ ok _ _ _ T.ss id (HH.out.below HB0.out.below).a).mono ?_; rintro e w1 ⟨rfl, hb1⟩; rw [hi1])
      have HB1 := hide (HB0.out.next hb1)
      clear f1 f2 f3 f4 f5 f6 f7 HB0 hb1
      obtain ⟨f1, f2, f3, f4, f5, f6, f7⟩ := HB1.out.facts
      go_wp2
      refine bodyPost_ret (results_cell_tmp Tryz.results196 _ _ (w.heap.size + 1) _ _ _ _ rfl (heap_setRow_at HB1.out.res) Tryz.underlying40 rfl (by kernel_rfl)) rfl ?_
      exact HB1.out.back HE HH.out
    · skip
      have HE : Hid (R = ({ T with ss := T.ss.set q1 { T.ss[q1] with collected := m } }, 0)) := HR.out.trans (by simp [collection, t0, sIdx, hi1, upAt_eq hq1])
      go_enter Tryz.func196, Tryz.ntmps196
      go_upto_region 1 with fail
      have HB0 := hide (SmBox.start w (.slice a1 n1 c1) (.slice a2 n2 c2) (.slice a3 n3 c3))
      generalize ((w.alloc (.cells #[.slice a1 n1 c1, .slice a2 n2 c2, .slice a3 n3 c3] 40)).alloc (.cells #[.slice none 0 0, .slice none 0 0, .slice none 0 0] 40)) = W at *
      obtain ⟨f1, f2, f3, f4, f5, f6, f7⟩ := HB0.out.facts
      go_upto_region 3 with (go_at_call 241; refine (inCal_calls _ m).mono ?_; rintro e w9 ⟨rfl, rfl⟩; rw [t0])
      go_upto_region 4 with (go_at_call 95; refine (sampleI_calls _ ok _ _ _ T.ss id (HH.out.below HB0.out.below).a).mono ?_; rintro e w1 ⟨rfl, hb1⟩; rw [hi1])
      have HB1 := hide (HB0.out.next hb1)
      clear f1 f2 f3 f4 f5 f6 f7 HB0 hb1
      obtain ⟨f1, f2, f3, f4, f5, f6, f7⟩ := HB1.out.facts
      go_upto_region 7 with (go_at_call 242; refine (smpCopied_calls _ ok _ _ _ T.ss T.rs T.qs (HH.out.below HB1.out.below).a (HH.out.below HB1.out.below).b (HH.out.below HB1.out.below).c hl.a hl.b hl.c).mono ?_; rintro e v2 ⟨U1, U2, U3, rfl, hcp⟩; obtain ⟨A1, k1, e1⟩ := hcp.a.form; obtain ⟨A2, k2, e2⟩ := hcp.b.form; obtain ⟨A3, k3, e3⟩ := hcp.c.form; subst e1 e2 e3)
      have HN := hide (SmNx.of HB1.out hcp)
      generalize hNN : v2.heap.size = N at *
      generalize (v2.alloc _) = W3 at *
      clear hcp f1 f2 f3 f4 f5 f6 f7
      obtain ⟨g, x9, e9, -, -, hgN, hg9, hc9, hf9, hv9, HN9⟩ := HN.out.setSmp q1 hq1 5 (by decide) { T.ss[q1] with collected := m } (.int .i64 m) rfl
      subst e9
      clear hv9
      have hx := run_indexAt_arr (P := Tryz.prog) (n := T.ss.length) (cap := k1) (a := some ⟨g, 0, none⟩) (b := g) (off := 0) Tryz.underlying36 Tryz.size94 (fun _ => rfl)
      obtain ⟨f1, f2, f3, f4, f5, f6, f7, f8, f9⟩ := HN.out.facts
      have HM0 := hide HN9
      clear HN9
      go_upto_region 8 with fail
      generalize (World.setCell _ _ _) = V0 at *
      clear f1 f2 f3 f4 f5 f6 f7 f8 hc9 hf9 hx HN
      obtain ⟨f1, f2, f3, f4, -, -, -, -, f9⟩ := HM0.out.facts
      go_wp2
      refine bodyPost_ret (results_cell_tmp Tryz.results196 _ _ (w.heap.size + 1) _ _ _ _ rfl (heap_setRow_at HM0.out.res) Tryz.underlying40 rfl (by kernel_rfl)) rfl ?_
      exact HM0.out.back HE hok (by simp only [List.length_set]; have := hl.a; omega) (by have := hl.b; show T.rs.length ≤ _; omega) (by have := hl.c; show T.qs.length ≤ _; omega)

set_option maxRecDepth 100000 in
set_option maxHeartbeats 1000000 in
theorem withdrawR_calls (w : World) (ok : Nat → Prop) (u1 u2 u3 : Value) (T : Sm) (s : Int) (a : Int) (h : SmAt w ok u1 u2 u3 T) (hl : T.Small) (hok : ∀ b, w.heap.size ≤ b → ok b) :
    Calls Tryz.prog 199 #[.agg #[u1, u2, u3], .int .u32 s, .int .u32 a] w fun e w' => SmPost w w' ok e (withdrawR T s a) := by
  obtain ⟨R, hR⟩ : ∃ R, R = withdrawR T s a := ⟨_, rfl⟩
  rw [← hR]
  have HR := hide hR
  have HH := hide h
  obtain ⟨a1, n1, c1, rfl, S1⟩ := Src.of h.a
  obtain ⟨a2, n2, c2, rfl, S2⟩ := Src.of h.b
  obtain ⟨a3, n3, c3, rfl, S3⟩ := Src.of h.c
  have HS1 := hide S1
  have HS2 := hide S2
  have HS3 := hide S3
  have hov : ∀ b1 b2 b3 m1 m2 m3 d1 d2 d3, ones #[.slice b1 m1 d1, .slice b2 m2 d2, .slice b3 m3 d3] 3 = true := fun _ _ _ _ _ _ _ _ _ => rfl
  clear hR h S1 S2 S3
  rcases findI_cases (fun x : Res => (x.sample == s) && (x.analyte == a)) T.rs with hi0 | ⟨q0, hq0, hi0, -⟩
  · skip
    have HE : Hid (R = (T, 21)) := HR.out.trans (by simp [withdrawR, rIdx, hi0])
    go_enter Tryz.func199, Tryz.ntmps199
    go_upto_region 1 with fail
    have HB0 := hide (SmBox.start w (.slice a1 n1 c1) (.slice a2 n2 c2) (.slice a3 n3 c3))
    generalize ((w.alloc (.cells #[.slice a1 n1 c1, .slice a2 n2 c2, .slice a3 n3 c3] 40)).alloc (.cells #[.slice none 0 0, .slice none 0 0, .slice none 0 0] 40)) = W at *
    obtain ⟨f1, f2, f3, f4, f5, f6, f7⟩ := HB0.out.facts
    go_upto_region 2 with (go_at_call 233; refine (resultI_calls _ ok _ _ _ T.rs s a (HH.out.below HB0.out.below).b).mono ?_; rintro e w1 ⟨rfl, hb1⟩; rw [hi0])
    have HB1 := hide (HB0.out.next hb1)
    clear f1 f2 f3 f4 f5 f6 f7 HB0 hb1
    obtain ⟨f1, f2, f3, f4, f5, f6, f7⟩ := HB1.out.facts
    go_wp2
    refine bodyPost_ret (results_cell_tmp Tryz.results199 _ _ (w.heap.size + 1) _ _ _ _ rfl (heap_setRow_at HB1.out.res) Tryz.underlying40 rfl (by kernel_rfl)) rfl ?_
    exact HB1.out.back HE HH.out
  · skip
    have hn : n2 = T.rs.length := HS2.out.len
    obtain ⟨gb, go, hab, hrg⟩ := HS2.out.src w (Below.refl _ _) (by omega)
    subst hab
    have hrq := hrg q0 hq0
    have hgl := rng_lt hrq
    have hqn : q0 < n2 := by omega
    have HNl := hide hn
    have hx := run_indexAt_arr (P := Tryz.prog) (n := n2) (cap := c2) (a := some ⟨gb, go, none⟩) (b := gb) (off := go) Tryz.underlying37 Tryz.size92 (fun _ => rfl)
    have hex : w.cell? ⟨gb, go + q0 * 6 + 5, none⟩ = some (.bool T.rs[q0].wd) := by rw [(rng_cell hrq).2 5 (by decide)]; rfl
    clear hrg hrq hn
    generalize tz : T.rs[q0].wd = z at hex
    cases t1 : z with
    | true =>
      have tw : z = true := t1
      subst tw
      have HE : Hid (R = (T, 11)) := HR.out.trans (by simp [withdrawR, rIdx, hi0, hq0, tz])
      go_enter Tryz.func199, Tryz.ntmps199
      go_upto_region 1 with fail
      have HB0 := hide (SmBox.start w (.slice a1 n1 c1) (.slice (some ⟨gb, go, none⟩) n2 c2) (.slice a3 n3 c3))
      generalize ((w.alloc (.cells #[.slice a1 n1 c1, .slice (some ⟨gb, go, none⟩) n2 c2, .slice a3 n3 c3] 40)).alloc (.cells #[.slice none 0 0, .slice none 0 0, .slice none 0 0] 40)) = W at *
      obtain ⟨f1, f2, f3, f4, f5, f6, f7⟩ := HB0.out.facts
      go_upto_region 2 with (go_at_call 233; refine (resultI_calls _ ok _ _ _ T.rs s a (HH.out.below HB0.out.below).b).mono ?_; rintro e w1 ⟨rfl, hb1⟩; rw [hi0])
      have HB1 := hide (HB0.out.next hb1)
      clear f1 f2 f3 f4 f5 f6 f7 HB0 hb1
      obtain ⟨f1, f2, f3, f4, f5, f6, f7⟩ := HB1.out.facts
      rw [← HB1.out.below.cell (p := ⟨gb, _, none⟩) hgl] at hex
      go_wp2
      refine bodyPost_ret (results_cell_tmp Tryz.results199 _ _ (w.heap.size + 1) _ _ _ _ rfl (heap_setRow_at HB1.out.res) Tryz.underlying40 rfl (by kernel_rfl)) rfl ?_
      exact HB1.out.back HE HH.out
    | false =>
      have tw : z = false := t1
      subst tw
      have HE : Hid (R = ({ T with rs := T.rs.set q0 { T.rs[q0] with wd := true } }, 0)) := HR.out.trans (by simp [withdrawR, rIdx, hi0, hq0, tz, upAt_eq hq0])
      go_enter Tryz.func199, Tryz.ntmps199
      go_upto_region 1 with fail
      have HB0 := hide (SmBox.start w (.slice a1 n1 c1) (.slice (some ⟨gb, go, none⟩) n2 c2) (.slice a3 n3 c3))
      generalize ((w.alloc (.cells #[.slice a1 n1 c1, .slice (some ⟨gb, go, none⟩) n2 c2, .slice a3 n3 c3] 40)).alloc (.cells #[.slice none 0 0, .slice none 0 0, .slice none 0 0] 40)) = W at *
      obtain ⟨f1, f2, f3, f4, f5, f6, f7⟩ := HB0.out.facts
      go_upto_region 2 with (go_at_call 233; refine (resultI_calls _ ok _ _ _ T.rs s a (HH.out.below HB0.out.below).b).mono ?_; rintro e w1 ⟨rfl, hb1⟩; rw [hi0])
      have HB1 := hide (HB0.out.next hb1)
      clear f1 f2 f3 f4 f5 f6 f7 HB0 hb1
      obtain ⟨f1, f2, f3, f4, f5, f6, f7⟩ := HB1.out.facts
      rw [← HB1.out.below.cell (p := ⟨gb, _, none⟩) hgl] at hex
      go_upto_region 7 with (go_at_call 242; refine (smpCopied_calls _ ok _ _ _ T.ss T.rs T.qs (HH.out.below HB1.out.below).a (HH.out.below HB1.out.below).b (HH.out.below HB1.out.below).c hl.a hl.b hl.c).mono ?_; rintro e v2 ⟨U1, U2, U3, rfl, hcp⟩; obtain ⟨A1, k1, e1⟩ := hcp.a.form; obtain ⟨A2, k2, e2⟩ := hcp.b.form; obtain ⟨A3, k3, e3⟩ := hcp.c.form; subst e1 e2 e3)
      have HN := hide (SmNx.of HB1.out hcp)
      generalize hNN : v2.heap.size = N at *
      generalize (v2.alloc _) = W3 at *
      clear hcp f1 f2 f3 f4 f5 f6 f7 hex hx hgl hqn
      obtain ⟨g, x9, e9, -, -, hgN, hg9, hc9, hf9, hv9, HN9⟩ := HN.out.setRes q0 hq0 5 (by decide) { T.rs[q0] with wd := true } (.bool true) rfl
      subst e9
      clear hv9
      have hx := run_indexAt_arr (P := Tryz.prog) (n := T.rs.length) (cap := k2) (a := some ⟨g, 0, none⟩) (b := g) (off := 0) Tryz.underlying37 Tryz.size92 (fun _ => rfl)
      obtain ⟨f1, f2, f3, f4, f5, f6, f7, f8, f9⟩ := HN.out.facts
      have HM0 := hide HN9
      clear HN9
      go_upto_region 8 with fail
      generalize (World.setCell _ _ _) = V0 at *
      clear f1 f2 f3 f4 f5 f6 f7 f8 hc9 hf9 hx HN
      obtain ⟨f1, f2, f3, f4, -, -, -, -, f9⟩ := HM0.out.facts
      go_wp2
      refine bodyPost_ret (results_cell_tmp Tryz.results199 _ _ (w.heap.size + 1) _ _ _ _ rfl (heap_setRow_at HM0.out.res) Tryz.underlying40 rfl (by kernel_rfl)) rfl ?_
      exact HM0.out.back HE hok (by have := hl.a; show T.ss.length ≤ _; omega) (by simp only [List.length_set]; have := hl.b; omega) (by have := hl.c; show T.qs.length ≤ _; omega)

set_option maxRecDepth 100000 in
set_option maxHeartbeats 1000000 in
theorem moveQ_calls (w : World) (ok : Nat → Prop) (u1 u2 u3 : Value) (T : Sm) (id : Int) (x : Int) (y : Int) (h : SmAt w ok u1 u2 u3 T) (hl : T.Small) (hok : ∀ b, w.heap.size ≤ b → ok b) :
    Calls Tryz.prog 244 #[.agg #[u1, u2, u3], .int .u32 id, .int .u8 x, .int .u8 y] w fun e w' => SmPost w w' ok e (moveQ T id x y) := by
  obtain ⟨R, hR⟩ : ∃ R, R = moveQ T id x y := ⟨_, rfl⟩
  rw [← hR]
  have HR := hide hR
  have HH := hide h
  obtain ⟨a1, n1, c1, rfl, S1⟩ := Src.of h.a
  obtain ⟨a2, n2, c2, rfl, S2⟩ := Src.of h.b
  obtain ⟨a3, n3, c3, rfl, S3⟩ := Src.of h.c
  have HS1 := hide S1
  have HS2 := hide S2
  have HS3 := hide S3
  have hov : ∀ b1 b2 b3 m1 m2 m3 d1 d2 d3, ones #[.slice b1 m1 d1, .slice b2 m2 d2, .slice b3 m3 d3] 3 = true := fun _ _ _ _ _ _ _ _ _ => rfl
  clear hR h S1 S2 S3
  rcases findI_cases (fun x : Qry => (x.id == id)) T.qs with hi0 | ⟨q0, hq0, hi0, -⟩
  · skip
    have HE : Hid (R = (T, 22)) := HR.out.trans (by simp [moveQ, qIdx, hi0])
    go_enter Tryz.func244, Tryz.ntmps244
    go_upto_region 1 with fail
    have HB0 := hide (SmBox.start w (.slice a1 n1 c1) (.slice a2 n2 c2) (.slice a3 n3 c3))
    generalize ((w.alloc (.cells #[.slice a1 n1 c1, .slice a2 n2 c2, .slice a3 n3 c3] 40)).alloc (.cells #[.slice none 0 0, .slice none 0 0, .slice none 0 0] 40)) = W at *
    obtain ⟨f1, f2, f3, f4, f5, f6, f7⟩ := HB0.out.facts
    go_upto_region 2 with (go_at_call 243; refine (queryI_calls _ ok _ _ _ T.qs id (HH.out.below HB0.out.below).c).mono ?_; rintro e w1 ⟨rfl, hb1⟩; rw [hi0])
    have HB1 := hide (HB0.out.next hb1)
    clear f1 f2 f3 f4 f5 f6 f7 HB0 hb1
    obtain ⟨f1, f2, f3, f4, f5, f6, f7⟩ := HB1.out.facts
    go_wp2
    refine bodyPost_ret (results_cell_tmp Tryz.results244 _ _ (w.heap.size + 1) _ _ _ _ rfl (heap_setRow_at HB1.out.res) Tryz.underlying40 rfl (by kernel_rfl)) rfl ?_
    exact HB1.out.back HE HH.out
  · skip
    have hn : n3 = T.qs.length := HS3.out.len
    obtain ⟨gb, go, hab, hrg⟩ := HS3.out.src w (Below.refl _ _) (by omega)
    subst hab
    have hrq := hrg q0 hq0
    have hgl := rng_lt hrq
    have hqn : q0 < n3 := by omega
    have HNl := hide hn
    have hx := run_indexAt_arr (P := Tryz.prog) (n := n3) (cap := c3) (a := some ⟨gb, go, none⟩) (b := gb) (off := go) Tryz.underlying38 Tryz.size208 (fun _ => rfl)
    have hex : w.cell? ⟨gb, go + q0 * 3 + 2, none⟩ = some (.int .u8 T.qs[q0].stage) := by rw [(rng_cell hrq).2 2 (by decide)]; rfl
    clear hrg hrq hn
    generalize tz : T.qs[q0].stage = z at hex
    cases t1 : (z != x) with
    | true =>
      have HE : Hid (R = (T, 11)) := HR.out.trans (by simp [moveQ, qIdx, hi0, hq0, tz, t1])
      go_enter Tryz.func244, Tryz.ntmps244
      go_upto_region 1 with fail
      have HB0 := hide (SmBox.start w (.slice a1 n1 c1) (.slice a2 n2 c2) (.slice (some ⟨gb, go, none⟩) n3 c3))
      generalize ((w.alloc (.cells #[.slice a1 n1 c1, .slice a2 n2 c2, .slice (some ⟨gb, go, none⟩) n3 c3] 40)).alloc (.cells #[.slice none 0 0, .slice none 0 0, .slice none 0 0] 40)) = W at *
      obtain ⟨f1, f2, f3, f4, f5, f6, f7⟩ := HB0.out.facts
      go_upto_region 2 with (go_at_call 243; refine (queryI_calls _ ok _ _ _ T.qs id (HH.out.below HB0.out.below).c).mono ?_; rintro e w1 ⟨rfl, hb1⟩; rw [hi0])
      have HB1 := hide (HB0.out.next hb1)
      clear f1 f2 f3 f4 f5 f6 f7 HB0 hb1
      obtain ⟨f1, f2, f3, f4, f5, f6, f7⟩ := HB1.out.facts
      rw [← HB1.out.below.cell (p := ⟨gb, _, none⟩) hgl] at hex
      go_wp2
      refine bodyPost_ret (results_cell_tmp Tryz.results244 _ _ (w.heap.size + 1) _ _ _ _ rfl (heap_setRow_at HB1.out.res) Tryz.underlying40 rfl (by kernel_rfl)) rfl ?_
      exact HB1.out.back HE HH.out
    | false =>
      have HE : Hid (R = ({ T with qs := T.qs.set q0 { T.qs[q0] with stage := y } }, 0)) := HR.out.trans (by simp [moveQ, qIdx, hi0, hq0, tz, t1, upAt_eq hq0])
      go_enter Tryz.func244, Tryz.ntmps244
      go_upto_region 1 with fail
      have HB0 := hide (SmBox.start w (.slice a1 n1 c1) (.slice a2 n2 c2) (.slice (some ⟨gb, go, none⟩) n3 c3))
      generalize ((w.alloc (.cells #[.slice a1 n1 c1, .slice a2 n2 c2, .slice (some ⟨gb, go, none⟩) n3 c3] 40)).alloc (.cells #[.slice none 0 0, .slice none 0 0, .slice none 0 0] 40)) = W at *
      obtain ⟨f1, f2, f3, f4, f5, f6, f7⟩ := HB0.out.facts
      go_upto_region 2 with (go_at_call 243; refine (queryI_calls _ ok _ _ _ T.qs id (HH.out.below HB0.out.below).c).mono ?_; rintro e w1 ⟨rfl, hb1⟩; rw [hi0])
      have HB1 := hide (HB0.out.next hb1)
      clear f1 f2 f3 f4 f5 f6 f7 HB0 hb1
      obtain ⟨f1, f2, f3, f4, f5, f6, f7⟩ := HB1.out.facts
      rw [← HB1.out.below.cell (p := ⟨gb, _, none⟩) hgl] at hex
      go_upto_region 7 with (go_at_call 242; refine (smpCopied_calls _ ok _ _ _ T.ss T.rs T.qs (HH.out.below HB1.out.below).a (HH.out.below HB1.out.below).b (HH.out.below HB1.out.below).c hl.a hl.b hl.c).mono ?_; rintro e v2 ⟨U1, U2, U3, rfl, hcp⟩; obtain ⟨A1, k1, e1⟩ := hcp.a.form; obtain ⟨A2, k2, e2⟩ := hcp.b.form; obtain ⟨A3, k3, e3⟩ := hcp.c.form; subst e1 e2 e3)
      have HN := hide (SmNx.of HB1.out hcp)
      generalize hNN : v2.heap.size = N at *
      generalize (v2.alloc _) = W3 at *
      clear hcp f1 f2 f3 f4 f5 f6 f7 hex hx hgl hqn
      obtain ⟨g, x9, e9, -, -, hgN, hg9, hc9, hf9, hv9, HN9⟩ := HN.out.setQry q0 hq0 2 (by decide) { T.qs[q0] with stage := y } (.int .u8 y) rfl
      subst e9
      clear hv9
      have hx := run_indexAt_arr (P := Tryz.prog) (n := T.qs.length) (cap := k3) (a := some ⟨g, 0, none⟩) (b := g) (off := 0) Tryz.underlying38 Tryz.size208 (fun _ => rfl)
      obtain ⟨f1, f2, f3, f4, f5, f6, f7, f8, f9⟩ := HN.out.facts
      have HM0 := hide HN9
      clear HN9
      go_upto_region 8 with fail
      generalize (World.setCell _ _ _) = V0 at *
      clear f1 f2 f3 f4 f5 f6 f7 f8 hc9 hf9 hx HN
      obtain ⟨f1, f2, f3, f4, -, -, -, -, f9⟩ := HM0.out.facts
      go_wp2
      refine bodyPost_ret (results_cell_tmp Tryz.results244 _ _ (w.heap.size + 1) _ _ _ _ rfl (heap_setRow_at HM0.out.res) Tryz.underlying40 rfl (by kernel_rfl)) rfl ?_
      exact HM0.out.back HE hok (by have := hl.a; show T.ss.length ≤ _; omega) (by have := hl.b; show T.rs.length ≤ _; omega) (by simp only [List.length_set]; have := hl.c; omega)

set_option maxRecDepth 100000 in
set_option maxHeartbeats 1000000 in
theorem correctR_calls (w : World) (ok : Nat → Prop) (u1 u2 u3 : Value) (T : Sm) (s : Int) (a : Int) (v : Int) (h : SmAt w ok u1 u2 u3 T) (hl : T.Small) (hok : ∀ b, w.heap.size ≤ b → ok b) :
    Calls Tryz.prog 198 #[.agg #[u1, u2, u3], .int .u32 s, .int .u32 a, .int .i64 v] w fun e w' => SmPost w w' ok e (correctR T s a v) := by
  obtain ⟨R, hR⟩ : ∃ R, R = correctR T s a v := ⟨_, rfl⟩
  rw [← hR]
  have HR := hide hR
  have HH := hide h
  obtain ⟨a1, n1, c1, rfl, S1⟩ := Src.of h.a
  obtain ⟨a2, n2, c2, rfl, S2⟩ := Src.of h.b
  obtain ⟨a3, n3, c3, rfl, S3⟩ := Src.of h.c
  have HS1 := hide S1
  have HS2 := hide S2
  have HS3 := hide S3
  have hov : ∀ b1 b2 b3 m1 m2 m3 d1 d2 d3, ones #[.slice b1 m1 d1, .slice b2 m2 d2, .slice b3 m3 d3] 3 = true := fun _ _ _ _ _ _ _ _ _ => rfl
  clear hR h S1 S2 S3
  rcases findI_cases (fun x : Res => (x.sample == s) && (x.analyte == a)) T.rs with hi0 | ⟨q0, hq0, hi0, -⟩
  · skip
    have HE : Hid (R = (T, 21)) := HR.out.trans (by simp [correctR, rIdx, hi0])
    go_enter Tryz.func198, Tryz.ntmps198
    go_upto_region 1 with fail
    have HB0 := hide (SmBox.start w (.slice a1 n1 c1) (.slice a2 n2 c2) (.slice a3 n3 c3))
    generalize ((w.alloc (.cells #[.slice a1 n1 c1, .slice a2 n2 c2, .slice a3 n3 c3] 40)).alloc (.cells #[.slice none 0 0, .slice none 0 0, .slice none 0 0] 40)) = W at *
    obtain ⟨f1, f2, f3, f4, f5, f6, f7⟩ := HB0.out.facts
    go_upto_region 2 with (go_at_call 233; refine (resultI_calls _ ok _ _ _ T.rs s a (HH.out.below HB0.out.below).b).mono ?_; rintro e w1 ⟨rfl, hb1⟩; rw [hi0])
    have HB1 := hide (HB0.out.next hb1)
    clear f1 f2 f3 f4 f5 f6 f7 HB0 hb1
    obtain ⟨f1, f2, f3, f4, f5, f6, f7⟩ := HB1.out.facts
    go_wp2
    refine bodyPost_ret (results_cell_tmp Tryz.results198 _ _ (w.heap.size + 1) _ _ _ _ rfl (heap_setRow_at HB1.out.res) Tryz.underlying40 rfl (by kernel_rfl)) rfl ?_
    exact HB1.out.back HE HH.out
  · skip
    have hn : n2 = T.rs.length := HS2.out.len
    obtain ⟨gb, go, hab, hrg⟩ := HS2.out.src w (Below.refl _ _) (by omega)
    subst hab
    have hrq := hrg q0 hq0
    have hgl := rng_lt hrq
    have hqn : q0 < n2 := by omega
    have HNl := hide hn
    have hx := run_indexAt_arr (P := Tryz.prog) (n := n2) (cap := c2) (a := some ⟨gb, go, none⟩) (b := gb) (off := go) Tryz.underlying37 Tryz.size92 (fun _ => rfl)
    have hex : w.cell? ⟨gb, go + q0 * 6 + 5, none⟩ = some (.bool T.rs[q0].wd) := by rw [(rng_cell hrq).2 5 (by decide)]; rfl
    clear hrg hrq hn
    generalize tz : T.rs[q0].wd = z at hex
    cases t1 : z with
    | true =>
      have tw : z = true := t1
      subst tw
      have HE : Hid (R = (T, 11)) := HR.out.trans (by simp [correctR, rIdx, hi0, hq0, tz])
      go_enter Tryz.func198, Tryz.ntmps198
      go_upto_region 1 with fail
      have HB0 := hide (SmBox.start w (.slice a1 n1 c1) (.slice (some ⟨gb, go, none⟩) n2 c2) (.slice a3 n3 c3))
      generalize ((w.alloc (.cells #[.slice a1 n1 c1, .slice (some ⟨gb, go, none⟩) n2 c2, .slice a3 n3 c3] 40)).alloc (.cells #[.slice none 0 0, .slice none 0 0, .slice none 0 0] 40)) = W at *
      obtain ⟨f1, f2, f3, f4, f5, f6, f7⟩ := HB0.out.facts
      go_upto_region 2 with (go_at_call 233; refine (resultI_calls _ ok _ _ _ T.rs s a (HH.out.below HB0.out.below).b).mono ?_; rintro e w1 ⟨rfl, hb1⟩; rw [hi0])
      have HB1 := hide (HB0.out.next hb1)
      clear f1 f2 f3 f4 f5 f6 f7 HB0 hb1
      obtain ⟨f1, f2, f3, f4, f5, f6, f7⟩ := HB1.out.facts
      rw [← HB1.out.below.cell (p := ⟨gb, _, none⟩) hgl] at hex
      go_wp2
      refine bodyPost_ret (results_cell_tmp Tryz.results198 _ _ (w.heap.size + 1) _ _ _ _ rfl (heap_setRow_at HB1.out.res) Tryz.underlying40 rfl (by kernel_rfl)) rfl ?_
      exact HB1.out.back HE HH.out
    | false =>
      have tw : z = false := t1
      subst tw
      have HE : Hid (R = ({ T with rs := T.rs.set q0 { T.rs[q0] with value := v, version := (T.rs[q0].version + 1) % 4294967296 } }, 0)) := HR.out.trans (by simp [correctR, rIdx, hi0, hq0, tz, upAt_eq hq0])
      go_enter Tryz.func198, Tryz.ntmps198
      go_upto_region 1 with fail
      have HB0 := hide (SmBox.start w (.slice a1 n1 c1) (.slice (some ⟨gb, go, none⟩) n2 c2) (.slice a3 n3 c3))
      generalize ((w.alloc (.cells #[.slice a1 n1 c1, .slice (some ⟨gb, go, none⟩) n2 c2, .slice a3 n3 c3] 40)).alloc (.cells #[.slice none 0 0, .slice none 0 0, .slice none 0 0] 40)) = W at *
      obtain ⟨f1, f2, f3, f4, f5, f6, f7⟩ := HB0.out.facts
      go_upto_region 2 with (go_at_call 233; refine (resultI_calls _ ok _ _ _ T.rs s a (HH.out.below HB0.out.below).b).mono ?_; rintro e w1 ⟨rfl, hb1⟩; rw [hi0])
      have HB1 := hide (HB0.out.next hb1)
      clear f1 f2 f3 f4 f5 f6 f7 HB0 hb1
      obtain ⟨f1, f2, f3, f4, f5, f6, f7⟩ := HB1.out.facts
      rw [← HB1.out.below.cell (p := ⟨gb, _, none⟩) hgl] at hex
      go_upto_region 7 with (go_at_call 242; refine (smpCopied_calls _ ok _ _ _ T.ss T.rs T.qs (HH.out.below HB1.out.below).a (HH.out.below HB1.out.below).b (HH.out.below HB1.out.below).c hl.a hl.b hl.c).mono ?_; rintro e v2 ⟨U1, U2, U3, rfl, hcp⟩; obtain ⟨A1, k1, e1⟩ := hcp.a.form; obtain ⟨A2, k2, e2⟩ := hcp.b.form; obtain ⟨A3, k3, e3⟩ := hcp.c.form; subst e1 e2 e3)
      have HN := hide (SmNx.of HB1.out hcp)
      generalize hNN : v2.heap.size = N at *
      generalize (v2.alloc _) = W3 at *
      clear hcp f1 f2 f3 f4 f5 f6 f7 hex hx hgl hqn
      obtain ⟨g, x9, e9, -, -, hgN, hg9, hc9, hf9, hv9, HN9⟩ := HN.out.setRes q0 hq0 3 (by decide) { T.rs[q0] with value := v } (.int .i64 v) rfl
      subst e9
      clear hv9
      have hx := run_indexAt_arr (P := Tryz.prog) (n := T.rs.length) (cap := k2) (a := some ⟨g, 0, none⟩) (b := g) (off := 0) Tryz.underlying37 Tryz.size92 (fun _ => rfl)
      obtain ⟨f1, f2, f3, f4, f5, f6, f7, f8, f9⟩ := HN.out.facts
      have HM0 := hide HN9
      clear HN9
      go_upto_region 8 with fail
      generalize (World.setCell _ _ _) = V0 at *
      clear f1 f2 f3 f4 f5 f6 f7 f8 hc9 hf9 hx HN
      clear hgN hg9
      obtain ⟨g, x9, e9, -, -, hgN, hg9, hc9, hf9, hv9, HN9⟩ := HM0.out.setRes q0 (by simpa using hq0) 2 (by decide) { T.rs[q0] with value := v, version := (T.rs[q0].version + 1) % 4294967296 } (.int .u32 ((T.rs[q0].version + 1) % 4294967296)) (by simp; rfl)
      cases e9
      simp only [List.getElem_set_self, resCs, List.getElem?_toArray, List.getElem?_cons_succ, List.getElem?_cons_zero, Option.some.injEq] at hv9
      subst hv9
      have hx := run_indexAt_arr (P := Tryz.prog) (n := T.rs.length) (cap := k2) (a := some ⟨g, 0, none⟩) (b := g) (off := 0) Tryz.underlying37 Tryz.size92 (fun _ => rfl)
      obtain ⟨f1, f2, f3, f4, f5, f6, f7, f8, f9⟩ := HM0.out.facts
      have HM1 := hide HN9
      clear HN9
      go_upto_region 9 with fail
      generalize (World.setCell _ _ _) = V1 at *
      clear f1 f2 f3 f4 f5 f6 f7 f8 hc9 hf9 hx HM0
      have HMZ := HM1.out
      simp only [List.set_set] at HMZ
      have HM9 := hide HMZ
      clear HMZ HM1
      obtain ⟨f1, f2, f3, f4, -, -, -, -, f9⟩ := HM9.out.facts
      go_wp2
      refine bodyPost_ret (results_cell_tmp Tryz.results198 _ _ (w.heap.size + 1) _ _ _ _ rfl (heap_setRow_at HM9.out.res) Tryz.underlying40 rfl (by kernel_rfl)) rfl ?_
      exact HM9.out.back HE hok (by have := hl.a; show T.ss.length ≤ _; omega) (by simp only [List.length_set]; have := hl.b; omega) (by have := hl.c; show T.qs.length ≤ _; omega)

set_option maxRecDepth 100000 in
set_option maxHeartbeats 1000000 in
theorem enterR_calls (w : World) (ok : Nat → Prop) (u1 u2 u3 : Value) (T : Sm) (s : Int) (a : Int) (v : Int) (t : Int) (h : SmAt w ok u1 u2 u3 T) (hl : T.Small) (hok : ∀ b, w.heap.size ≤ b → ok b) :
    Calls Tryz.prog 197 #[.agg #[u1, u2, u3], .int .u32 s, .int .u32 a, .int .i64 v, .int .i64 t] w fun e w' => SmPost w w' ok e (enterR T s a v t) := by
  obtain ⟨R, hR⟩ : ∃ R, R = enterR T s a v t := ⟨_, rfl⟩
  rw [← hR]
  have HR := hide hR
  have HH := hide h
  obtain ⟨a1, n1, c1, rfl, S1⟩ := Src.of h.a
  obtain ⟨a2, n2, c2, rfl, S2⟩ := Src.of h.b
  obtain ⟨a3, n3, c3, rfl, S3⟩ := Src.of h.c
  have HS1 := hide S1
  have HS2 := hide S2
  have HS3 := hide S3
  have hov : ∀ b1 b2 b3 m1 m2 m3 d1 d2 d3, ones #[.slice b1 m1 d1, .slice b2 m2 d2, .slice b3 m3 d3] 3 = true := fun _ _ _ _ _ _ _ _ _ => rfl
  clear hR h S1 S2 S3
  cases t0 : (a == 0) with
  | true =>
    have HE : Hid (R = (T, 7)) := HR.out.trans (by simp [enterR, t0])
    go_enter Tryz.func197, Tryz.ntmps197
    go_upto_region 1 with fail
    have HB0 := hide (SmBox.start w (.slice a1 n1 c1) (.slice a2 n2 c2) (.slice a3 n3 c3))
    generalize ((w.alloc (.cells #[.slice a1 n1 c1, .slice a2 n2 c2, .slice a3 n3 c3] 40)).alloc (.cells #[.slice none 0 0, .slice none 0 0, .slice none 0 0] 40)) = W at *
    obtain ⟨f1, f2, f3, f4, f5, f6, f7⟩ := HB0.out.facts
    go_wp2
    refine bodyPost_ret (results_cell_tmp Tryz.results197 _ _ (w.heap.size + 1) _ _ _ _ rfl (heap_setRow_at HB0.out.res) Tryz.underlying40 rfl (by kernel_rfl)) rfl ?_
    exact HB0.out.back HE HH.out
  | false =>
    cases t1 : inCal t with
    | false =>
      have HE : Hid (R = (T, 5)) := HR.out.trans (by simp [enterR, t0, t1])
      go_enter Tryz.func197, Tryz.ntmps197
      go_upto_region 1 with fail
      have HB0 := hide (SmBox.start w (.slice a1 n1 c1) (.slice a2 n2 c2) (.slice a3 n3 c3))
      generalize ((w.alloc (.cells #[.slice a1 n1 c1, .slice a2 n2 c2, .slice a3 n3 c3] 40)).alloc (.cells #[.slice none 0 0, .slice none 0 0, .slice none 0 0] 40)) = W at *
      obtain ⟨f1, f2, f3, f4, f5, f6, f7⟩ := HB0.out.facts
      go_upto_region 4 with (go_at_call 241; refine (inCal_calls _ t).mono ?_; rintro e w9 ⟨rfl, rfl⟩; rw [t1])
      go_wp2
      refine bodyPost_ret (results_cell_tmp Tryz.results197 _ _ (w.heap.size + 1) _ _ _ _ rfl (heap_setRow_at HB0.out.res) Tryz.underlying40 rfl (by kernel_rfl)) rfl ?_
      exact HB0.out.back HE HH.out
    | true =>
      rcases findI_cases (fun x : Smp => (x.id == s)) T.ss with hi2 | ⟨q2, hq2, hi2, -⟩
      · skip
        have HE : Hid (R = (T, 20)) := HR.out.trans (by simp [enterR, t0, t1, sIdx, hi2])
        go_enter Tryz.func197, Tryz.ntmps197
        go_upto_region 1 with fail
        have HB0 := hide (SmBox.start w (.slice a1 n1 c1) (.slice a2 n2 c2) (.slice a3 n3 c3))
        generalize ((w.alloc (.cells #[.slice a1 n1 c1, .slice a2 n2 c2, .slice a3 n3 c3] 40)).alloc (.cells #[.slice none 0 0, .slice none 0 0, .slice none 0 0] 40)) = W at *
        obtain ⟨f1, f2, f3, f4, f5, f6, f7⟩ := HB0.out.facts
        go_upto_region 5 with (go_at_call 241; refine (inCal_calls _ t).mono ?_; rintro e w9 ⟨rfl, rfl⟩; rw [t1])
        go_upto_region 6 with (go_at_call 95; refine (sampleI_calls _ ok _ _ _ T.ss s (HH.out.below HB0.out.below).a).mono ?_; rintro e w1 ⟨rfl, hb1⟩; rw [hi2])
        have HB1 := hide (HB0.out.next hb1)
        clear f1 f2 f3 f4 f5 f6 f7 HB0 hb1
        obtain ⟨f1, f2, f3, f4, f5, f6, f7⟩ := HB1.out.facts
        go_wp2
        refine bodyPost_ret (results_cell_tmp Tryz.results197 _ _ (w.heap.size + 1) _ _ _ _ rfl (heap_setRow_at HB1.out.res) Tryz.underlying40 rfl (by kernel_rfl)) rfl ?_
        exact HB1.out.back HE HH.out
      · skip
        rcases findI_cases (fun x : Res => (x.sample == s) && (x.analyte == a)) T.rs with hi3 | ⟨q3, hq3, hi3, -⟩
        · skip
          have HE : Hid (R = ({ T with rs := T.rs ++ [⟨s, a, 1, v, t, false⟩] }, 0)) := HR.out.trans (by simp [enterR, t0, t1, sIdx, hi2, rIdx, hi3])
          go_enter Tryz.func197, Tryz.ntmps197
          go_upto_region 1 with fail
          have HB0 := hide (SmBox.start w (.slice a1 n1 c1) (.slice a2 n2 c2) (.slice a3 n3 c3))
          generalize ((w.alloc (.cells #[.slice a1 n1 c1, .slice a2 n2 c2, .slice a3 n3 c3] 40)).alloc (.cells #[.slice none 0 0, .slice none 0 0, .slice none 0 0] 40)) = W at *
          obtain ⟨f1, f2, f3, f4, f5, f6, f7⟩ := HB0.out.facts
          go_upto_region 5 with (go_at_call 241; refine (inCal_calls _ t).mono ?_; rintro e w9 ⟨rfl, rfl⟩; rw [t1])
          go_upto_region 7 with (go_at_call 95; refine (sampleI_calls _ ok _ _ _ T.ss s (HH.out.below HB0.out.below).a).mono ?_; rintro e w1 ⟨rfl, hb1⟩; rw [hi2])
          have HB1 := hide (HB0.out.next hb1)
          clear f1 f2 f3 f4 f5 f6 f7 HB0 hb1
          obtain ⟨f1, f2, f3, f4, f5, f6, f7⟩ := HB1.out.facts
          go_upto_region 9 with (go_at_call 233; refine (resultI_calls _ ok _ _ _ T.rs s a (HH.out.below HB1.out.below).b).mono ?_; rintro e w2 ⟨rfl, hb2⟩; rw [hi3])
          have HB2 := hide (HB1.out.next hb2)
          clear f1 f2 f3 f4 f5 f6 f7 HB1 hb2
          obtain ⟨f1, f2, f3, f4, f5, f6, f7⟩ := HB2.out.facts
          go_upto_region 10 with (go_at_call 242; refine (smpCopied_calls _ ok _ _ _ T.ss T.rs T.qs (HH.out.below HB2.out.below).a (HH.out.below HB2.out.below).b (HH.out.below HB2.out.below).c hl.a hl.b hl.c).mono ?_; rintro e v2 ⟨U1, U2, U3, rfl, hcp⟩; obtain ⟨A1, k1, e1⟩ := hcp.a.form; obtain ⟨A2, k2, e2⟩ := hcp.b.form; obtain ⟨A3, k3, e3⟩ := hcp.c.form; subst e1 e2 e3)
          have HN := hide (SmNx.of HB2.out hcp)
          generalize hNN : v2.heap.size = N at *
          generalize (v2.alloc _) = W3 at *
          clear hcp f1 f2 f3 f4 f5 f6 f7
          obtain ⟨f1, f2, f3, f4, f5, f6, f7, f8, f9⟩ := HN.out.facts
          go_upto_region 11 with (at_builtin; refine wpList_app1 (α := Res) rfl _ _ 37 rfl w.heap.size 92 resCs Tryz.underlying37 Tryz.info92 rfl (by decide) resCs_size resCs_one (.slice A2 T.rs.length k2) T.rs rfl (OwnR.below HN.out.own.b ((Below.refl _ _).alloc (Nat.le_refl _) _) (Nat.le_refl _)) _ rfl ⟨s, a, 1, v, t, false⟩ (rng_whole (heap_alloc_at _ _)) (by have := hl.b; omega) (by have := hl.b; unfold maxLen; omega) (by have := HN.out.own.below.size; simp only [World.size_alloc]; omega) ?_; intro v9 w9 hown9 hsame9 hbel9 hat9; obtain ⟨A9, k9, e9⟩ := hown9.form; simp only [List.length_append, List.length_cons, List.length_nil, Nat.zero_add] at e9; subst e9; obtain ⟨-, g1, g2, g3, g4⟩ := HN.out.app_facts (by simp) hsame9)
          have HM0 := hide (HN.out.appRes hown9 hsame9 hbel9 hat9)
          generalize (World.setCell _ _ _) = V0 at *
          clear f1 f2 f3 f4 f5 f6 f7 f8 g1 g2 g3 g4 hown9 hsame9 hbel9 hat9 HN
          obtain ⟨f1, f2, f3, f4, -, -, -, -, f9⟩ := HM0.out.facts
          go_wp2
          refine bodyPost_ret (results_cell_tmp Tryz.results197 _ _ (w.heap.size + 1) _ _ _ _ rfl (heap_setRow_at HM0.out.res) Tryz.underlying40 rfl (by kernel_rfl)) rfl ?_
          exact HM0.out.back HE hok (by have := hl.a; show T.ss.length ≤ _; omega) (by simp only [List.length_append, List.length_cons, List.length_nil]; have := hl.b; omega) (by have := hl.c; show T.qs.length ≤ _; omega)
        · skip
          have HE : Hid (R = (T, 10)) := HR.out.trans (by simp [enterR, t0, t1, sIdx, hi2, rIdx, hi3])
          go_enter Tryz.func197, Tryz.ntmps197
          go_upto_region 1 with fail
          have HB0 := hide (SmBox.start w (.slice a1 n1 c1) (.slice a2 n2 c2) (.slice a3 n3 c3))
          generalize ((w.alloc (.cells #[.slice a1 n1 c1, .slice a2 n2 c2, .slice a3 n3 c3] 40)).alloc (.cells #[.slice none 0 0, .slice none 0 0, .slice none 0 0] 40)) = W at *
          obtain ⟨f1, f2, f3, f4, f5, f6, f7⟩ := HB0.out.facts
          go_upto_region 5 with (go_at_call 241; refine (inCal_calls _ t).mono ?_; rintro e w9 ⟨rfl, rfl⟩; rw [t1])
          go_upto_region 7 with (go_at_call 95; refine (sampleI_calls _ ok _ _ _ T.ss s (HH.out.below HB0.out.below).a).mono ?_; rintro e w1 ⟨rfl, hb1⟩; rw [hi2])
          have HB1 := hide (HB0.out.next hb1)
          clear f1 f2 f3 f4 f5 f6 f7 HB0 hb1
          obtain ⟨f1, f2, f3, f4, f5, f6, f7⟩ := HB1.out.facts
          go_upto_region 8 with (go_at_call 233; refine (resultI_calls _ ok _ _ _ T.rs s a (HH.out.below HB1.out.below).b).mono ?_; rintro e w2 ⟨rfl, hb2⟩; rw [hi3])
          have HB2 := hide (HB1.out.next hb2)
          clear f1 f2 f3 f4 f5 f6 f7 HB1 hb2
          obtain ⟨f1, f2, f3, f4, f5, f6, f7⟩ := HB2.out.facts
          go_wp2
          refine bodyPost_ret (results_cell_tmp Tryz.results197 _ _ (w.heap.size + 1) _ _ _ _ rfl (heap_setRow_at HB2.out.res) Tryz.underlying40 rfl (by kernel_rfl)) rfl ?_
          exact HB2.out.back HE HH.out

set_option maxRecDepth 100000 in
set_option maxHeartbeats 1000000 in
theorem raiseQ_calls (w : World) (ok : Nat → Prop) (u1 u2 u3 : Value) (T : Sm) (id : Int) (s : Int) (h : SmAt w ok u1 u2 u3 T) (hl : T.Small) (hok : ∀ b, w.heap.size ≤ b → ok b) :
    Calls Tryz.prog 200 #[.agg #[u1, u2, u3], .int .u32 id, .int .u32 s] w fun e w' => SmPost w w' ok e (raiseQ T id s) := by
  obtain ⟨R, hR⟩ : ∃ R, R = raiseQ T id s := ⟨_, rfl⟩
  rw [← hR]
  have HR := hide hR
  have HH := hide h
  obtain ⟨a1, n1, c1, rfl, S1⟩ := Src.of h.a
  obtain ⟨a2, n2, c2, rfl, S2⟩ := Src.of h.b
  obtain ⟨a3, n3, c3, rfl, S3⟩ := Src.of h.c
  have HS1 := hide S1
  have HS2 := hide S2
  have HS3 := hide S3
  have hov : ∀ b1 b2 b3 m1 m2 m3 d1 d2 d3, ones #[.slice b1 m1 d1, .slice b2 m2 d2, .slice b3 m3 d3] 3 = true := fun _ _ _ _ _ _ _ _ _ => rfl
  clear hR h S1 S2 S3
  cases t0 : (id == 0) with
  | true =>
    have HE : Hid (R = (T, 7)) := HR.out.trans (by simp [raiseQ, t0])
    go_enter Tryz.func200, Tryz.ntmps200
    go_upto_region 1 with fail
    have HB0 := hide (SmBox.start w (.slice a1 n1 c1) (.slice a2 n2 c2) (.slice a3 n3 c3))
    generalize ((w.alloc (.cells #[.slice a1 n1 c1, .slice a2 n2 c2, .slice a3 n3 c3] 40)).alloc (.cells #[.slice none 0 0, .slice none 0 0, .slice none 0 0] 40)) = W at *
    obtain ⟨f1, f2, f3, f4, f5, f6, f7⟩ := HB0.out.facts
    go_wp2
    refine bodyPost_ret (results_cell_tmp Tryz.results200 _ _ (w.heap.size + 1) _ _ _ _ rfl (heap_setRow_at HB0.out.res) Tryz.underlying40 rfl (by kernel_rfl)) rfl ?_
    exact HB0.out.back HE HH.out
  | false =>
    rcases findI_cases (fun x : Qry => (x.id == id)) T.qs with hi1 | ⟨q1, hq1, hi1, -⟩
    · skip
      rcases findI_cases (fun x : Smp => (x.id == s)) T.ss with hi2 | ⟨q2, hq2, hi2, -⟩
      · skip
        have HE : Hid (R = (T, 20)) := HR.out.trans (by simp [raiseQ, t0, qIdx, hi1, sIdx, hi2])
        go_enter Tryz.func200, Tryz.ntmps200
        go_upto_region 1 with fail
        have HB0 := hide (SmBox.start w (.slice a1 n1 c1) (.slice a2 n2 c2) (.slice a3 n3 c3))
        generalize ((w.alloc (.cells #[.slice a1 n1 c1, .slice a2 n2 c2, .slice a3 n3 c3] 40)).alloc (.cells #[.slice none 0 0, .slice none 0 0, .slice none 0 0] 40)) = W at *
        obtain ⟨f1, f2, f3, f4, f5, f6, f7⟩ := HB0.out.facts
        go_upto_region 5 with (go_at_call 243; refine (queryI_calls _ ok _ _ _ T.qs id (HH.out.below HB0.out.below).c).mono ?_; rintro e w1 ⟨rfl, hb1⟩; rw [hi1])
        have HB1 := hide (HB0.out.next hb1)
        clear f1 f2 f3 f4 f5 f6 f7 HB0 hb1
        obtain ⟨f1, f2, f3, f4, f5, f6, f7⟩ := HB1.out.facts
        go_upto_region 6 with (go_at_call 95; refine (sampleI_calls _ ok _ _ _ T.ss s (HH.out.below HB1.out.below).a).mono ?_; rintro e w2 ⟨rfl, hb2⟩; rw [hi2])
        have HB2 := hide (HB1.out.next hb2)
        clear f1 f2 f3 f4 f5 f6 f7 HB1 hb2
        obtain ⟨f1, f2, f3, f4, f5, f6, f7⟩ := HB2.out.facts
        go_wp2
        refine bodyPost_ret (results_cell_tmp Tryz.results200 _ _ (w.heap.size + 1) _ _ _ _ rfl (heap_setRow_at HB2.out.res) Tryz.underlying40 rfl (by kernel_rfl)) rfl ?_
        exact HB2.out.back HE HH.out
      · skip
        have HE : Hid (R = ({ T with qs := T.qs ++ [⟨id, s, 1⟩] }, 0)) := HR.out.trans (by simp [raiseQ, t0, qIdx, hi1, sIdx, hi2])
        go_enter Tryz.func200, Tryz.ntmps200
        go_upto_region 1 with fail
        have HB0 := hide (SmBox.start w (.slice a1 n1 c1) (.slice a2 n2 c2) (.slice a3 n3 c3))
        generalize ((w.alloc (.cells #[.slice a1 n1 c1, .slice a2 n2 c2, .slice a3 n3 c3] 40)).alloc (.cells #[.slice none 0 0, .slice none 0 0, .slice none 0 0] 40)) = W at *
        obtain ⟨f1, f2, f3, f4, f5, f6, f7⟩ := HB0.out.facts
        go_upto_region 5 with (go_at_call 243; refine (queryI_calls _ ok _ _ _ T.qs id (HH.out.below HB0.out.below).c).mono ?_; rintro e w1 ⟨rfl, hb1⟩; rw [hi1])
        have HB1 := hide (HB0.out.next hb1)
        clear f1 f2 f3 f4 f5 f6 f7 HB0 hb1
        obtain ⟨f1, f2, f3, f4, f5, f6, f7⟩ := HB1.out.facts
        go_upto_region 7 with (go_at_call 95; refine (sampleI_calls _ ok _ _ _ T.ss s (HH.out.below HB1.out.below).a).mono ?_; rintro e w2 ⟨rfl, hb2⟩; rw [hi2])
        have HB2 := hide (HB1.out.next hb2)
        clear f1 f2 f3 f4 f5 f6 f7 HB1 hb2
        obtain ⟨f1, f2, f3, f4, f5, f6, f7⟩ := HB2.out.facts
        go_upto_region 8 with (go_at_call 242; refine (smpCopied_calls _ ok _ _ _ T.ss T.rs T.qs (HH.out.below HB2.out.below).a (HH.out.below HB2.out.below).b (HH.out.below HB2.out.below).c hl.a hl.b hl.c).mono ?_; rintro e v2 ⟨U1, U2, U3, rfl, hcp⟩; obtain ⟨A1, k1, e1⟩ := hcp.a.form; obtain ⟨A2, k2, e2⟩ := hcp.b.form; obtain ⟨A3, k3, e3⟩ := hcp.c.form; subst e1 e2 e3)
        have HN := hide (SmNx.of HB2.out hcp)
        generalize hNN : v2.heap.size = N at *
        generalize (v2.alloc _) = W3 at *
        clear hcp f1 f2 f3 f4 f5 f6 f7
        obtain ⟨f1, f2, f3, f4, f5, f6, f7, f8, f9⟩ := HN.out.facts
        go_upto_region 9 with (at_builtin; refine wpList_app1 (α := Qry) rfl _ _ 38 rfl w.heap.size 208 qryCs Tryz.underlying38 Tryz.info208 rfl (by decide) qryCs_size qryCs_one (.slice A3 T.qs.length k3) T.qs rfl (OwnR.below HN.out.own.c ((Below.refl _ _).alloc (Nat.le_refl _) _) (Nat.le_refl _)) _ rfl ⟨id, s, 1⟩ (rng_whole (heap_alloc_at _ _)) (by have := hl.c; omega) (by have := hl.c; unfold maxLen; omega) (by have := HN.out.own.below.size; simp only [World.size_alloc]; omega) ?_; intro v9 w9 hown9 hsame9 hbel9 hat9; obtain ⟨A9, k9, e9⟩ := hown9.form; simp only [List.length_append, List.length_cons, List.length_nil, Nat.zero_add] at e9; subst e9; obtain ⟨-, g1, g2, g3, g4⟩ := HN.out.app_facts (by simp) hsame9)
        have HM0 := hide (HN.out.appQry hown9 hsame9 hbel9 hat9)
        generalize (World.setCell _ _ _) = V0 at *
        clear f1 f2 f3 f4 f5 f6 f7 f8 g1 g2 g3 g4 hown9 hsame9 hbel9 hat9 HN
        obtain ⟨f1, f2, f3, f4, -, -, -, -, f9⟩ := HM0.out.facts
        go_wp2
        refine bodyPost_ret (results_cell_tmp Tryz.results200 _ _ (w.heap.size + 1) _ _ _ _ rfl (heap_setRow_at HM0.out.res) Tryz.underlying40 rfl (by kernel_rfl)) rfl ?_
        exact HM0.out.back HE hok (by have := hl.a; show T.ss.length ≤ _; omega) (by have := hl.b; show T.rs.length ≤ _; omega) (by simp only [List.length_append, List.length_cons, List.length_nil]; have := hl.c; omega)
    · skip
      have HE : Hid (R = (T, 10)) := HR.out.trans (by simp [raiseQ, t0, qIdx, hi1])
      go_enter Tryz.func200, Tryz.ntmps200
      go_upto_region 1 with fail
      have HB0 := hide (SmBox.start w (.slice a1 n1 c1) (.slice a2 n2 c2) (.slice a3 n3 c3))
      generalize ((w.alloc (.cells #[.slice a1 n1 c1, .slice a2 n2 c2, .slice a3 n3 c3] 40)).alloc (.cells #[.slice none 0 0, .slice none 0 0, .slice none 0 0] 40)) = W at *
      obtain ⟨f1, f2, f3, f4, f5, f6, f7⟩ := HB0.out.facts
      go_upto_region 4 with (go_at_call 243; refine (queryI_calls _ ok _ _ _ T.qs id (HH.out.below HB0.out.below).c).mono ?_; rintro e w1 ⟨rfl, hb1⟩; rw [hi1])
      have HB1 := hide (HB0.out.next hb1)
      clear f1 f2 f3 f4 f5 f6 f7 HB0 hb1
      obtain ⟨f1, f2, f3, f4, f5, f6, f7⟩ := HB1.out.facts
      go_wp2
      refine bodyPost_ret (results_cell_tmp Tryz.results200 _ _ (w.heap.size + 1) _ _ _ _ rfl (heap_setRow_at HB1.out.res) Tryz.underlying40 rfl (by kernel_rfl)) rfl ?_
      exact HB1.out.back HE HH.out

end Go.Proofs.Qxb6500666aGreatDoor
