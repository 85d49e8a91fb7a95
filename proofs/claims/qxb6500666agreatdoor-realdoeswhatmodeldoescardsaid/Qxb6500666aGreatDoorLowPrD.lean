/- The protocol's layer: DefineAnalyte, walked. -/
import Derived.Test.Qxb6500666aGreatDoorLowPrC
namespace Go.Proofs.Qxb6500666aGreatDoor
open Go.RowKit

theorem PrBox.start2 (w : World) (u0 u1 u2 u3 : Value) (cs : Array Value) (t : TypeId) : PrBox w (((w.alloc (.cells #[u0, u1, u2, u3] 32)).alloc (.cells cs t)).alloc (.cells #[.slice none 0 0, .slice none 0 0, .slice none 0 0, .slice none 0 0] 32)) (w.heap.size + 1 + 1) u0 u1 u2 u3 ∧ (((w.alloc (.cells #[u0, u1, u2, u3] 32)).alloc (.cells cs t)).alloc (.cells #[.slice none 0 0, .slice none 0 0, .slice none 0 0, .slice none 0 0] 32)).heap[w.heap.size + 1]? = some (.cells cs t (0, 0)) := by
  have e2 : (((w.alloc (.cells #[u0, u1, u2, u3] 32)).alloc (.cells cs t)).alloc (.cells #[.slice none 0 0, .slice none 0 0, .slice none 0 0, .slice none 0 0] 32)).heap[w.heap.size + 1 + 1]? = some (.cells #[.slice none 0 0, .slice none 0 0, .slice none 0 0, .slice none 0 0] 32 (0, 0)) := by
    have := heap_alloc_at ((w.alloc (.cells #[u0, u1, u2, u3] 32)).alloc (.cells cs t)) (.cells #[.slice none 0 0, .slice none 0 0, .slice none 0 0, .slice none 0 0] 32)
    simpa using this
  exact ⟨⟨(Below.heap_alloc _ _ _ (by simp; omega)).trans ((Below.heap_alloc _ _ _ (by simp)).trans (heap_alloc_at _ _)), e2, (((Below.refl _ _).alloc (Nat.le_refl _) _).alloc (by simp) _).alloc (by simp; omega) _, by omega, by simp⟩, (Below.heap_alloc _ _ _ (by simp)).trans (box2 w _ _ _ _)⟩

theorem run_ix0 (w : World) (a b c : Int) : (Instr.index 51 (.agg #[.int .i64 a, .int .i64 b, .int .i64 c]) (.int .i64 0)).run Tryz.prog w = .ok (.int .i64 a) w := by kernel_rfl
theorem run_ix1 (w : World) (a b c : Int) : (Instr.index 51 (.agg #[.int .i64 a, .int .i64 b, .int .i64 c]) (.int .i64 1)).run Tryz.prog w = .ok (.int .i64 b) w := by kernel_rfl
theorem run_ix2 (w : World) (a b c : Int) : (Instr.index 51 (.agg #[.int .i64 a, .int .i64 b, .int .i64 c]) (.int .i64 2)).run Tryz.prog w = .ok (.int .i64 c) w := by kernel_rfl

attribute [local go_sem] ext_const Ext.cell Ext.frozen Ext.rng Ext.whole
attribute [local go_sem ↓] exec_ldPrS exec_stPrS
attribute [local go_sem] run_ldPrS run_stPrS run_ix0 run_ix1 run_ix2 whole_alloc_lt whole_alloc_at whole_drew setRow_alloc_at setRow_alloc_lt rng_alloc_lt rng_alloc_at rng_drew rng_drewN rng_setCell_other whole_setCell_other

theorem limV_pair (l : List Ana) (id : Int) : ∃ y, limV l id 1 = .tuple #[y, .bool (l.any fun x => x.id == id)] := by
  obtain ⟨y, hy⟩ := findV_pair (fun x : Ana => (x.id == id) && (decide ((1 : Int) ≤ 1) && decide ((1 : Int) ≤ 3))) (fun x => .int .i64 (anaLim x 1)) (.int .i64 0) l
  refine ⟨y, hy.trans ?_⟩
  simp

set_option maxRecDepth 100000 in
set_option maxHeartbeats 2000000 in
theorem defineAna_calls (w : World) (ok : Nat → Prop) (u0 u1 u2 u3 : Value) (T : Pr) (id l0 l1 l2 : Int) (h : PrAt w ok u0 u1 u2 u3 T) (hl : T.Small) (hok : ∀ b, w.heap.size ≤ b → ok b) :
    Calls Tryz.prog 187 #[.agg #[u0, u1, u2, u3], .int .u32 id, .agg #[.int .i64 l0, .int .i64 l1, .int .i64 l2]] w fun e w' => PrPost w w' ok e (defineP T id l0 l1 l2) := by
  obtain ⟨R, hR⟩ : ∃ R, R = defineP T id l0 l1 l2 := ⟨_, rfl⟩
  rw [← hR]
  have HR := hide hR
  have HH := hide h
  obtain ⟨⟨a0, n0, c0, rfl⟩, ⟨a1, n1, c1, rfl⟩, ⟨a2, n2, c2, rfl⟩, ⟨a3, n3, c3, rfl⟩⟩ := h.forms
  have hov : ∀ b0 b1 b2 b3 m0 m1 m2 m3 d0 d1 d2 d3, ones #[.slice b0 m0 d0, .slice b1 m1 d1, .slice b2 m2 d2, .slice b3 m3 d3] 4 = true := fun _ _ _ _ _ _ _ _ _ _ _ _ => rfl
  clear hR h
  go_enter Tryz.func187, Tryz.ntmps187
  go_upto_region 1 with fail
  obtain ⟨hq0, hq1⟩ := PrBox.start2 w (.slice a0 n0 c0) (.slice a1 n1 c1) (.slice a2 n2 c2) (.slice a3 n3 c3) #[.int .i64 l0, .int .i64 l1, .int .i64 l2] 51
  have HB0 := hide hq0
  have HX0 := hide hq1
  clear hq0 hq1
  generalize (World.alloc (World.alloc (World.alloc w _) _) _) = W at *
  obtain ⟨f1, f2, f3, f4, f5, f6, f7, f8, f9⟩ := HB0.out.facts
  obtain ⟨y0, y1, y2, -, hyl⟩ := cell_three HX0.out
  cases t0 : (id == 0) with
  | true =>
    have HE : Hid (R = (T, 7)) := HR.out.trans (by simp [defineP, t0])
    go_wp2
    refine bodyPost_ret (results_cell_tmp Tryz.results187 _ _ (w.heap.size + 1 + 1) _ _ _ _ rfl (heap_setRow_at HB0.out.res) Tryz.underlying32 rfl (by kernel_rfl)) rfl ?_
    exact HB0.out.back HE HH.out
  | false =>
    go_upto_region 4 with fail
    go_loopg [16] 3 (fun g x wr => ∃ q : Nat, q ≤ 3 ∧ g = 3 - q ∧ x = .int .i64 q ∧ wr = W ∧ Hid ((0 < q → badLim l0 = false) ∧ (1 < q → badLim l1 = false) ∧ (2 < q → badLim l2 = false)))
    case atStart => exact ⟨0, by omega, by omega, rfl, rfl, fun h => absurd h (by omega), fun h => absurd h (by omega), fun h => absurd h (by omega)⟩
    case round =>
      obtain ⟨q, hq, rfl, rfl, rfl, HQ⟩ := hrel
      by_cases hlt : q < 3
      · have hqq : q = 0 ∨ q = 1 ∨ q = 2 := by omega
        rcases hqq with rfl | rfl | rfl
        · cases t1 : decide (l0 < 0) with
          | true =>
            have HE : Hid (R = (T, 12)) := HR.out.trans (by have hb : badLim l0 = true := (by simp [badLim, t1]); simp [defineP, t0, hb])
            go_wp2
            refine bodyPost_ret (results_cell_tmp Tryz.results187 _ _ (w.heap.size + 1 + 1) _ _ _ _ rfl (heap_setRow_at HB0.out.res) Tryz.underlying32 rfl (by kernel_rfl)) rfl ?_
            exact HB0.out.back HE HH.out
          | false =>
            cases t2 : decide (5256000 < l0) with
            | true =>
              have HE : Hid (R = (T, 12)) := HR.out.trans (by have hb : badLim l0 = true := (by simp [badLim, t2]); simp [defineP, t0, hb])
              go_wp2
              refine bodyPost_ret (results_cell_tmp Tryz.results187 _ _ (w.heap.size + 1 + 1) _ _ _ _ rfl (heap_setRow_at HB0.out.res) Tryz.underlying32 rfl (by kernel_rfl)) rfl ?_
              exact HB0.out.back HE HH.out
            | false =>
              go_wp2
              go_roundg (3 - (0 + 1))
              case measure => omega
              case rel => exact ⟨0 + 1, by omega, rfl, by go_num, rfl, fun _ => by simp [badLim, t1, t2], fun h => absurd h (by omega), fun h => absurd h (by omega)⟩
        · cases t1 : decide (l1 < 0) with
          | true =>
            have HE : Hid (R = (T, 12)) := HR.out.trans (by have hb : badLim l1 = true := (by simp [badLim, t1]); simp [defineP, t0, HQ.out.1 (by omega), hb])
            go_wp2
            refine bodyPost_ret (results_cell_tmp Tryz.results187 _ _ (w.heap.size + 1 + 1) _ _ _ _ rfl (heap_setRow_at HB0.out.res) Tryz.underlying32 rfl (by kernel_rfl)) rfl ?_
            exact HB0.out.back HE HH.out
          | false =>
            cases t2 : decide (5256000 < l1) with
            | true =>
              have HE : Hid (R = (T, 12)) := HR.out.trans (by have hb : badLim l1 = true := (by simp [badLim, t2]); simp [defineP, t0, HQ.out.1 (by omega), hb])
              go_wp2
              refine bodyPost_ret (results_cell_tmp Tryz.results187 _ _ (w.heap.size + 1 + 1) _ _ _ _ rfl (heap_setRow_at HB0.out.res) Tryz.underlying32 rfl (by kernel_rfl)) rfl ?_
              exact HB0.out.back HE HH.out
            | false =>
              go_wp2
              go_roundg (3 - (1 + 1))
              case measure => omega
              case rel => exact ⟨1 + 1, by omega, rfl, by go_num, rfl, fun _ => HQ.out.1 (by omega), fun _ => by simp [badLim, t1, t2], fun h => absurd h (by omega)⟩
        · cases t1 : decide (l2 < 0) with
          | true =>
            have HE : Hid (R = (T, 12)) := HR.out.trans (by have hb : badLim l2 = true := (by simp [badLim, t1]); simp [defineP, t0, HQ.out.1 (by omega), HQ.out.2.1 (by omega), hb])
            go_wp2
            refine bodyPost_ret (results_cell_tmp Tryz.results187 _ _ (w.heap.size + 1 + 1) _ _ _ _ rfl (heap_setRow_at HB0.out.res) Tryz.underlying32 rfl (by kernel_rfl)) rfl ?_
            exact HB0.out.back HE HH.out
          | false =>
            cases t2 : decide (5256000 < l2) with
            | true =>
              have HE : Hid (R = (T, 12)) := HR.out.trans (by have hb : badLim l2 = true := (by simp [badLim, t2]); simp [defineP, t0, HQ.out.1 (by omega), HQ.out.2.1 (by omega), hb])
              go_wp2
              refine bodyPost_ret (results_cell_tmp Tryz.results187 _ _ (w.heap.size + 1 + 1) _ _ _ _ rfl (heap_setRow_at HB0.out.res) Tryz.underlying32 rfl (by kernel_rfl)) rfl ?_
              exact HB0.out.back HE HH.out
            | false =>
              go_wp2
              go_roundg (3 - (2 + 1))
              case measure => omega
              case rel => exact ⟨2 + 1, by omega, rfl, by go_num, rfl, fun _ => HQ.out.1 (by omega), fun _ => HQ.out.2.1 (by omega), fun _ => by simp [badLim, t1, t2]⟩
      · have hq3 : q = 3 := by omega
        subst hq3
        cases t3 : T.ana.any (fun x : Ana => (x.id == id)) with
        | true =>
          have HE : Hid (R = (T, 10)) := HR.out.trans (by simp only [defineP, t0, HQ.out.1 (by omega), HQ.out.2.1 (by omega), HQ.out.2.2 (by omega), t3]; rfl)
          go_upto_region 10 with (go_at_call 98; refine (limit_calls _ ok _ _ _ _ T.ana id 1 (HH.out.below HB0.out.below).a).mono ?_; rintro e w1 ⟨rfl, hb1⟩; obtain ⟨y9, hy9⟩ := limV_pair T.ana id; rw [hy9, t3]; clear hy9)
          have HB1 := hide (HB0.out.next hb1)
          clear f1 f2 f3 f4 f5 f6 f7 f8 f9 y0 y1 y2 hyl HB0 HX0 hb1
          obtain ⟨f1, f2, f3, f4, f5, f6, f7, f8, f9⟩ := HB1.out.facts
          go_wp2
          refine bodyPost_ret (results_cell_tmp Tryz.results187 _ _ (w.heap.size + 1 + 1) _ _ _ _ rfl (heap_setRow_at HB1.out.res) Tryz.underlying32 rfl (by kernel_rfl)) rfl ?_
          exact HB1.out.back HE HH.out
        | false =>
          have HE : Hid (R = ({ T with ana := T.ana ++ [⟨id, l0, l1, l2⟩] }, 0)) := HR.out.trans (by simp only [defineP, t0, HQ.out.1 (by omega), HQ.out.2.1 (by omega), HQ.out.2.2 (by omega), t3]; rfl)
          go_upto_region 10 with (go_at_call 98; refine (limit_calls _ ok _ _ _ _ T.ana id 1 (HH.out.below HB0.out.below).a).mono ?_; rintro e w1 ⟨rfl, hb1⟩; obtain ⟨y9, hy9⟩ := limV_pair T.ana id; rw [hy9, t3]; clear hy9)
          have HB1 := hide (HB0.out.next hb1)
          have HX1 := hide ((hb1.block _ hyl).trans HX0.out)
          clear f1 f2 f3 f4 f5 f6 f7 f8 f9 y0 y1 y2 hyl HB0 HX0 hb1
          obtain ⟨f1, f2, f3, f4, f5, f6, f7, f8, f9⟩ := HB1.out.facts
          obtain ⟨y0, y1, y2, -, hyl⟩ := cell_three HX1.out
          go_upto_region 12 with fail
          go_upto_region 13 with (go_at_call 236; refine (withAna_calls _ ok _ T.ana ⟨id, l0, l1, l2⟩ (HH.out.below HB1.out.below).a hl.a).mono ?_; rintro e v2 ⟨x9, rfl, hown9, hb9⟩; obtain ⟨A9, m9, k9, e9⟩ := hown9.form3; subst e9; have HB9 := hide (HB1.out.next hb9); obtain ⟨g1, g2, g3, g4, g5, g6, g7, g8, g9⟩ := HB9.out.facts)
          have HC := hide (HB9.out.set (k := 0) (v := .slice A9 m9 k9) (v0 := .slice A9 m9 k9) (v1 := .slice a1 n1 c1) (v2 := .slice a2 n2 c2) (v3 := .slice a3 n3 c3) rfl)
          have hapart : PrAt v2 (fun b => ok b ∧ b ≠ w.heap.size + 1 + 1 ∧ b ≠ w.heap.size) (.slice a0 n0 c0) (.slice a1 n1 c1) (.slice a2 n2 c2) (.slice a3 n3 c3) T := (HH.out.lt.mono (ok' := fun b => (ok b ∧ b ≠ w.heap.size + 1 + 1 ∧ b ≠ w.heap.size) ∧ b < w.heap.size) (fun _ _ => rfl) (fun b hb => ⟨⟨hb.1, by have := hb.2; omega, by have := hb.2; omega⟩, hb.2⟩)).mono (fun b hb => HB9.out.below.block b hb.2) (fun _ hb => hb.1)
          have hsz9 := HB1.out.size
          have hnew : RArr v2 (fun b => ok b ∧ b ≠ w.heap.size + 1 + 1 ∧ b ≠ w.heap.size) 4 anaCs (.slice A9 m9 k9) (T.ana ++ [⟨id, l0, l1, l2⟩]) := hown9.to_ok anaCs_size (by decide) (by have := hl.a; simp only [List.length_append, List.length_cons, List.length_nil]; omega) (fun b hb => ⟨hok b (by omega), by omega, by omega⟩)
          have HAT : Hid (PrAt (v2.setCell ⟨w.heap.size, 0, none⟩ (.slice A9 m9 k9)) (fun b => ok b ∧ b ≠ w.heap.size + 1 + 1) (.slice A9 m9 k9) (.slice a1 n1 c1) (.slice a2 n2 c2) (.slice a3 n3 c3) { T with ana := T.ana ++ [⟨id, l0, l1, l2⟩] }) := PrAt.mono (ok := fun b => ok b ∧ b ≠ w.heap.size + 1 + 1 ∧ b ≠ w.heap.size) ⟨hnew, hapart.v, hapart.s, hapart.u⟩ (fun b hb => Below.heap_setCell _ _ _ _ hb.2.2) (fun b hb => ⟨hb.1, hb.2.1⟩)
          clear f1 f2 f3 f4 f5 f6 f7 f8 f9 g1 g2 g3 g4 g5 g6 g7 g8 g9 hapart hnew hsz9 hown9 hb9
          generalize (World.setCell _ _ _) = V0 at *
          obtain ⟨f1, f2, f3, f4, f5, f6, f7, f8, f9⟩ := HC.out.facts
          go_wp2
          refine bodyPost_ret (results_cell_tmp Tryz.results187 _ _ (w.heap.size + 1 + 1) _ _ _ _ rfl (heap_setRow_at HC.out.res) Tryz.underlying32 rfl (by kernel_rfl)) rfl ?_
          exact HC.out.done HE HAT.out

end Go.Proofs.Qxb6500666aGreatDoor
