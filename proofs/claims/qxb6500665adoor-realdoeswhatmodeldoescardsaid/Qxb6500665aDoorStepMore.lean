/- The other kinds of a step, walked. (Made by tools/mk_step.py.) -/
import Derived.Test.Qxb6500665aDoorStepQuery
namespace Go.Proofs.Qxb6500665aDoor
open Go.RowKit Go.Proofs.Qxb6500665aDoor.Cal

attribute [local go_sem ↓] exec_stAnswer exec_ldAnswer exec_stPlacement exec_stVersion exec_stAnalyte exec_stSubject exec_stPanel
attribute [local go_sem] run_stAnswer run_ldAnswer rng_drew ext_const Ext.cell Ext.frozen Ext.rng Ext.whole

attribute [local go_sem] ones17

set_option maxRecDepth 100000 in
set_option maxHeartbeats 8000000 in
theorem step_16 (w : World) (B P S : Nat) (A : Nat → Prop) (ps : List KV) (full : Bool) (o : Op) (la va : Option Addr) (ln lc vn vc : Nat) (h : BAt w B P S A ps full)  (hk : o.kind = 16)  :
    Calls Tryd.prog 9 #[.pointer (some ⟨B, 0, none⟩), .agg (opCs o (.slice la ln lc) (.slice va vn vc))] w fun e w' => StepPost w w' e S B P A ps full { code := (dayR o.minute).1, num := (dayR o.minute).2 } := by
  obtain ⟨w3, HW3, hb3, hs3, hX, hR4, hR5, hB3⟩ := step_start w o la va ln lc vn vc B P S A ps full h
  have hBl : B < w.heap.size := (cell_two h.bench).2.2.2
  obtain ⟨okind, oid, oref, omin, odel, ol0, ol1, ol2, olist, ovis⟩ := o
  simp only at hk
  simp only [opCs, ansCs, sv] at hX HW3 hR4 hR5 ⊢
  have x0 : w3.cell? ⟨w.heap.size, 0, none⟩ = some (.int .u8 okind) := by rw [World.cell?, hX]; rfl
  have x1 : w3.cell? ⟨w.heap.size, 1, none⟩ = some (.int .u32 oid) := by rw [World.cell?, hX]; rfl
  have x2 : w3.cell? ⟨w.heap.size, 2, none⟩ = some (.int .u32 oref) := by rw [World.cell?, hX]; rfl
  have x3 : w3.cell? ⟨w.heap.size, 3, none⟩ = some (.int .i64 omin) := by rw [World.cell?, hX]; rfl
  have x4 : w3.cell? ⟨w.heap.size, 4, none⟩ = some (.int .i64 odel) := by rw [World.cell?, hX]; rfl
  have x5 : w3.cell? ⟨w.heap.size, 5, none⟩ = some (.int .i64 ol0) := by rw [World.cell?, hX]; rfl
  have x6 : w3.cell? ⟨w.heap.size, 6, none⟩ = some (.int .i64 ol1) := by rw [World.cell?, hX]; rfl
  have x7 : w3.cell? ⟨w.heap.size, 7, none⟩ = some (.int .i64 ol2) := by rw [World.cell?, hX]; rfl
  have x8 : w3.cell? ⟨w.heap.size, 8, none⟩ = some (.slice la ln lc) := by rw [World.cell?, hX]; rfl
  have x9 : w3.cell? ⟨w.heap.size, 9, none⟩ = some (.slice va vn vc) := by rw [World.cell?, hX]; rfl
  obtain ⟨b0, b1, -, -⟩ := cell_two hB3.bench
  subst hk
  go_enter Tryd.func9, Tryd.ntmps9
  go_upto_region 3 with fail
  rw [← HW3.out]
  have HX := hide hX
  clear hX
  have HCALL := hide (dayOf_q (w := w3) omin)
  have hR5' := hR5
  have hR4' := hR4
  have hq0 : w3.cell? ⟨w.heap.size + 1 + 1, 1, none⟩ = some (.int .i64 0) := by rw [World.cell?, show w.heap.size + 1 + 1 = w.heap.size + 2 from rfl, hR5']; rfl
  have hqf : w3.frozen? ⟨w.heap.size + 1 + 1, 1, none⟩ = false := by rw [World.frozen?, show w.heap.size + 1 + 1 = w.heap.size + 2 from rfl, hR5']; rfl
  go_upto_region 50 with (go_at_call 31; refine HCALL.out.mono ?_; rintro e w4 ⟨rfl, rfl⟩)
  obtain ⟨w5, hw5⟩ : ∃ w5, w5 = w3.setCell ⟨w.heap.size + 1 + 1, 1, none⟩ (.int .i64 (dayR omin).2) := ⟨_, rfl⟩
  have hR5'' : w5.heap[w.heap.size + 2]? = some (.cells #[.int .u8 0, .int .i64 (dayR omin).2, .slice none 0 0, .int .u32 0, .int .u8 0, .int .i64 0, .int .i64 0, .int .u32 0, .int .i64 0, .slice none 0 0, .int .u32 0, .int .i64 0, .int .i64 0, .int .i64 0, .int .u32 0, .int .u32 0, .int .i64 0] 47 (0, 0)) := by rw [hw5]; exact heap_setCell_same w3 (w.heap.size + 2) 1 _ _ (.int .i64 (dayR omin).2) hR5'
  have h5o : ∀ b, b ≠ w.heap.size + 2 → w5.heap[b]? = w3.heap[b]? := fun b hb => by rw [hw5]; exact Below.heap_setCell _ _ _ _ hb
  have h5s : w5.heap.size = w3.heap.size := by rw [hw5]; simp [World.setCell]
  have h5b : ∀ Bb, Bb ≤ w.heap.size → Below Bb w3 w5 := fun Bb hBb => by rw [hw5]; exact (Below.refl _ _).setCell (p := ⟨w.heap.size + 1 + 1, 1, none⟩) (by show Bb ≤ w.heap.size + 1 + 1; omega) _
  have hR4'' : w5.heap[w.heap.size + 1]? = _ := (h5o _ (by omega)).trans hR4'
  rw [← hw5]
  clear hw5
  have t0 : w5.cell? ⟨w.heap.size + 1 + 1, 0, none⟩ = some (.int .u8 0) := by rw [World.cell?, show w.heap.size + 1 + 1 = w.heap.size + 2 from rfl, hR5'']; rfl
  have tf : w5.frozen? ⟨w.heap.size + 1 + 1, 0, none⟩ = false := by rw [World.frozen?, show w.heap.size + 1 + 1 = w.heap.size + 2 from rfl, hR5'']; rfl
  go_upto_region 51 with (go_at_call 33; refine (codeOf_any ((dayR omin).1) _).mono ?_; rintro e w9 ⟨rfl, rfl⟩)
  obtain ⟨wz, hwz⟩ : ∃ wz, wz = w5.setCell ⟨w.heap.size + 1 + 1, 0, none⟩ (.int .u8 (dayR omin).1) := ⟨_, rfl⟩
  have hZ5 : wz.heap[w.heap.size + 2]? = some (.cells #[.int .u8 (dayR omin).1, .int .i64 (dayR omin).2, .slice none 0 0, .int .u32 0, .int .u8 0, .int .i64 0, .int .i64 0, .int .u32 0, .int .i64 0, .slice none 0 0, .int .u32 0, .int .i64 0, .int .i64 0, .int .i64 0, .int .u32 0, .int .u32 0, .int .i64 0] 47 (0, 0)) := by
    rw [hwz]
    have := heap_setCell_same w5 (w.heap.size + 2) 0 _ _ (.int .u8 (dayR omin).1) hR5''
    exact this
  have hZ4 : wz.heap[w.heap.size + 1]? = some (.cells #[.int .u8 0, .int .i64 0, .slice none 0 0, .int .u32 0, .int .u8 0, .int .i64 0, .int .i64 0, .int .u32 0, .int .i64 0, .slice none 0 0, .int .u32 0, .int .i64 0, .int .i64 0, .int .i64 0, .int .u32 0, .int .u32 0, .int .i64 0] 47 (0, 0)) := by rw [hwz, Below.heap_setCell _ _ _ _ (by simp)]; exact hR4''
  have rz : rng wz (w.heap.size + 1 + 1) 0 17 = some #[.int .u8 (dayR omin).1, .int .i64 (dayR omin).2, .slice none 0 0, .int .u32 0, .int .u8 0, .int .i64 0, .int .i64 0, .int .u32 0, .int .i64 0, .slice none 0 0, .int .u32 0, .int .i64 0, .int .i64 0, .int .i64 0, .int .u32 0, .int .u32 0, .int .i64 0] := rng_whole hZ5
  have hwh := whole_of_heap hZ4
  simp only [List.size_toArray, List.length_cons, List.length_nil] at hwh
  have hzo : ∀ b, b ≠ w.heap.size + 2 → wz.heap[b]? = w5.heap[b]? := fun b hb => by rw [hwz]; exact Below.heap_setCell _ _ _ _ hb
  have hzs : wz.heap.size = w5.heap.size := by rw [hwz]; simp [World.setCell]
  have hzb : ∀ Bb, Bb ≤ w.heap.size → Below Bb w5 wz := fun Bb hBb => by rw [hwz]; exact (Below.refl _ _).setCell (p := ⟨w.heap.size + 1 + 1, 0, none⟩) (by show Bb ≤ w.heap.size + 1 + 1; omega) _
  rw [← hwz]
  clear hwz
  go_wp2
  have hfin := heap_setRow_at (ds := #[.int .u8 (dayR omin).1, .int .i64 (dayR omin).2, .slice none 0 0, .int .u32 0, .int .u8 0, .int .i64 0, .int .i64 0, .int .u32 0, .int .i64 0, .slice none 0 0, .int .u32 0, .int .i64 0, .int .i64 0, .int .i64 0, .int .u32 0, .int .u32 0, .int .i64 0]) hZ4
  refine bodyPost_ret (results_cell1 Tryd.results9 _ _ (w.heap.size + 1) _ _ _ _ rfl hfin Tryd.underlying47 rfl (by kernel_rfl)) rfl ?_
  have hbw : Below w.heap.size w (wz.setRow (w.heap.size + 1) #[.int .u8 (dayR omin).1, .int .i64 (dayR omin).2, .slice none 0 0, .int .u32 0, .int .u8 0, .int .i64 0, .int .i64 0, .int .u32 0, .int .i64 0, .slice none 0 0, .int .u32 0, .int .i64 0, .int .i64 0, .int .i64 0, .int .u32 0, .int .u32 0, .int .i64 0]) := (hb3.trans (h5b _ (Nat.le_refl _))).trans ((hzb _ (Nat.le_refl _)).trans (below_setRow' _ _ (by omega)))
  exact ⟨rfl, Cmd.of_below h.at' hbw, hbw.block B hBl⟩

set_option maxRecDepth 100000 in
set_option maxHeartbeats 8000000 in
theorem step_17 (w : World) (B P S : Nat) (A : Nat → Prop) (ps : List KV) (full : Bool) (o : Op) (la va : Option Addr) (ln lc vn vc : Nat) (h : BAt w B P S A ps full)  (hk : o.kind = 17)  :
    Calls Tryd.prog 9 #[.pointer (some ⟨B, 0, none⟩), .agg (opCs o (.slice la ln lc) (.slice va vn vc))] w fun e w' => StepPost w w' e S B P A ps full { code := (addR o.minute o.delta).1, num := (addR o.minute o.delta).2 } := by
  obtain ⟨w3, HW3, hb3, hs3, hX, hR4, hR5, hB3⟩ := step_start w o la va ln lc vn vc B P S A ps full h
  have hBl : B < w.heap.size := (cell_two h.bench).2.2.2
  obtain ⟨okind, oid, oref, omin, odel, ol0, ol1, ol2, olist, ovis⟩ := o
  simp only at hk
  simp only [opCs, ansCs, sv] at hX HW3 hR4 hR5 ⊢
  have x0 : w3.cell? ⟨w.heap.size, 0, none⟩ = some (.int .u8 okind) := by rw [World.cell?, hX]; rfl
  have x1 : w3.cell? ⟨w.heap.size, 1, none⟩ = some (.int .u32 oid) := by rw [World.cell?, hX]; rfl
  have x2 : w3.cell? ⟨w.heap.size, 2, none⟩ = some (.int .u32 oref) := by rw [World.cell?, hX]; rfl
  have x3 : w3.cell? ⟨w.heap.size, 3, none⟩ = some (.int .i64 omin) := by rw [World.cell?, hX]; rfl
  have x4 : w3.cell? ⟨w.heap.size, 4, none⟩ = some (.int .i64 odel) := by rw [World.cell?, hX]; rfl
  have x5 : w3.cell? ⟨w.heap.size, 5, none⟩ = some (.int .i64 ol0) := by rw [World.cell?, hX]; rfl
  have x6 : w3.cell? ⟨w.heap.size, 6, none⟩ = some (.int .i64 ol1) := by rw [World.cell?, hX]; rfl
  have x7 : w3.cell? ⟨w.heap.size, 7, none⟩ = some (.int .i64 ol2) := by rw [World.cell?, hX]; rfl
  have x8 : w3.cell? ⟨w.heap.size, 8, none⟩ = some (.slice la ln lc) := by rw [World.cell?, hX]; rfl
  have x9 : w3.cell? ⟨w.heap.size, 9, none⟩ = some (.slice va vn vc) := by rw [World.cell?, hX]; rfl
  obtain ⟨b0, b1, -, -⟩ := cell_two hB3.bench
  subst hk
  go_enter Tryd.func9, Tryd.ntmps9
  go_upto_region 3 with fail
  rw [← HW3.out]
  have HX := hide hX
  clear hX
  have HCALL := hide (addDays_q (w := w3) omin odel)
  have hR5' := hR5
  have hR4' := hR4
  have hq0 : w3.cell? ⟨w.heap.size + 1 + 1, 1, none⟩ = some (.int .i64 0) := by rw [World.cell?, show w.heap.size + 1 + 1 = w.heap.size + 2 from rfl, hR5']; rfl
  have hqf : w3.frozen? ⟨w.heap.size + 1 + 1, 1, none⟩ = false := by rw [World.frozen?, show w.heap.size + 1 + 1 = w.heap.size + 2 from rfl, hR5']; rfl
  go_upto_region 50 with (go_at_call 32; refine HCALL.out.mono ?_; rintro e w4 ⟨rfl, rfl⟩)
  obtain ⟨w5, hw5⟩ : ∃ w5, w5 = w3.setCell ⟨w.heap.size + 1 + 1, 1, none⟩ (.int .i64 (addR omin odel).2) := ⟨_, rfl⟩
  have hR5'' : w5.heap[w.heap.size + 2]? = some (.cells #[.int .u8 0, .int .i64 (addR omin odel).2, .slice none 0 0, .int .u32 0, .int .u8 0, .int .i64 0, .int .i64 0, .int .u32 0, .int .i64 0, .slice none 0 0, .int .u32 0, .int .i64 0, .int .i64 0, .int .i64 0, .int .u32 0, .int .u32 0, .int .i64 0] 47 (0, 0)) := by rw [hw5]; exact heap_setCell_same w3 (w.heap.size + 2) 1 _ _ (.int .i64 (addR omin odel).2) hR5'
  have h5o : ∀ b, b ≠ w.heap.size + 2 → w5.heap[b]? = w3.heap[b]? := fun b hb => by rw [hw5]; exact Below.heap_setCell _ _ _ _ hb
  have h5s : w5.heap.size = w3.heap.size := by rw [hw5]; simp [World.setCell]
  have h5b : ∀ Bb, Bb ≤ w.heap.size → Below Bb w3 w5 := fun Bb hBb => by rw [hw5]; exact (Below.refl _ _).setCell (p := ⟨w.heap.size + 1 + 1, 1, none⟩) (by show Bb ≤ w.heap.size + 1 + 1; omega) _
  have hR4'' : w5.heap[w.heap.size + 1]? = _ := (h5o _ (by omega)).trans hR4'
  rw [← hw5]
  clear hw5
  have t0 : w5.cell? ⟨w.heap.size + 1 + 1, 0, none⟩ = some (.int .u8 0) := by rw [World.cell?, show w.heap.size + 1 + 1 = w.heap.size + 2 from rfl, hR5'']; rfl
  have tf : w5.frozen? ⟨w.heap.size + 1 + 1, 0, none⟩ = false := by rw [World.frozen?, show w.heap.size + 1 + 1 = w.heap.size + 2 from rfl, hR5'']; rfl
  go_upto_region 51 with (go_at_call 33; refine (codeOf_any ((addR omin odel).1) _).mono ?_; rintro e w9 ⟨rfl, rfl⟩)
  obtain ⟨wz, hwz⟩ : ∃ wz, wz = w5.setCell ⟨w.heap.size + 1 + 1, 0, none⟩ (.int .u8 (addR omin odel).1) := ⟨_, rfl⟩
  have hZ5 : wz.heap[w.heap.size + 2]? = some (.cells #[.int .u8 (addR omin odel).1, .int .i64 (addR omin odel).2, .slice none 0 0, .int .u32 0, .int .u8 0, .int .i64 0, .int .i64 0, .int .u32 0, .int .i64 0, .slice none 0 0, .int .u32 0, .int .i64 0, .int .i64 0, .int .i64 0, .int .u32 0, .int .u32 0, .int .i64 0] 47 (0, 0)) := by
    rw [hwz]
    have := heap_setCell_same w5 (w.heap.size + 2) 0 _ _ (.int .u8 (addR omin odel).1) hR5''
    exact this
  have hZ4 : wz.heap[w.heap.size + 1]? = some (.cells #[.int .u8 0, .int .i64 0, .slice none 0 0, .int .u32 0, .int .u8 0, .int .i64 0, .int .i64 0, .int .u32 0, .int .i64 0, .slice none 0 0, .int .u32 0, .int .i64 0, .int .i64 0, .int .i64 0, .int .u32 0, .int .u32 0, .int .i64 0] 47 (0, 0)) := by rw [hwz, Below.heap_setCell _ _ _ _ (by simp)]; exact hR4''
  have rz : rng wz (w.heap.size + 1 + 1) 0 17 = some #[.int .u8 (addR omin odel).1, .int .i64 (addR omin odel).2, .slice none 0 0, .int .u32 0, .int .u8 0, .int .i64 0, .int .i64 0, .int .u32 0, .int .i64 0, .slice none 0 0, .int .u32 0, .int .i64 0, .int .i64 0, .int .i64 0, .int .u32 0, .int .u32 0, .int .i64 0] := rng_whole hZ5
  have hwh := whole_of_heap hZ4
  simp only [List.size_toArray, List.length_cons, List.length_nil] at hwh
  have hzo : ∀ b, b ≠ w.heap.size + 2 → wz.heap[b]? = w5.heap[b]? := fun b hb => by rw [hwz]; exact Below.heap_setCell _ _ _ _ hb
  have hzs : wz.heap.size = w5.heap.size := by rw [hwz]; simp [World.setCell]
  have hzb : ∀ Bb, Bb ≤ w.heap.size → Below Bb w5 wz := fun Bb hBb => by rw [hwz]; exact (Below.refl _ _).setCell (p := ⟨w.heap.size + 1 + 1, 0, none⟩) (by show Bb ≤ w.heap.size + 1 + 1; omega) _
  rw [← hwz]
  clear hwz
  go_wp2
  have hfin := heap_setRow_at (ds := #[.int .u8 (addR omin odel).1, .int .i64 (addR omin odel).2, .slice none 0 0, .int .u32 0, .int .u8 0, .int .i64 0, .int .i64 0, .int .u32 0, .int .i64 0, .slice none 0 0, .int .u32 0, .int .i64 0, .int .i64 0, .int .i64 0, .int .u32 0, .int .u32 0, .int .i64 0]) hZ4
  refine bodyPost_ret (results_cell1 Tryd.results9 _ _ (w.heap.size + 1) _ _ _ _ rfl hfin Tryd.underlying47 rfl (by kernel_rfl)) rfl ?_
  have hbw : Below w.heap.size w (wz.setRow (w.heap.size + 1) #[.int .u8 (addR omin odel).1, .int .i64 (addR omin odel).2, .slice none 0 0, .int .u32 0, .int .u8 0, .int .i64 0, .int .i64 0, .int .u32 0, .int .i64 0, .slice none 0 0, .int .u32 0, .int .i64 0, .int .i64 0, .int .i64 0, .int .u32 0, .int .u32 0, .int .i64 0]) := (hb3.trans (h5b _ (Nat.le_refl _))).trans ((hzb _ (Nat.le_refl _)).trans (below_setRow' _ _ (by omega)))
  exact ⟨rfl, Cmd.of_below h.at' hbw, hbw.block B hBl⟩

set_option maxRecDepth 100000 in
set_option maxHeartbeats 8000000 in
theorem step_14 (w : World) (B P S : Nat) (A : Nat → Prop) (ps : List KV) (full : Bool) (o : Op) (la va : Option Addr) (ln lc vn vc : Nat) (h : BAt w B P S A ps full) (T : Tab) (hr : Rep ps T) (hps : ps.length ≤ 900000) (hk : o.kind = 14) :
    Calls Tryd.prog 9 #[.pointer (some ⟨B, 0, none⟩), .agg (opCs o (.slice la ln lc) (.slice va vn vc))] w fun e w' => ∃ s : SV, StepPost w w' e S B P A ps full { code := 0, list := s } ∧ U32sAt w' (w.heap.size ≤ ·) (sv s) (sitesOf ps) := by
  obtain ⟨w3, HW3, hb3, hs3, hX, hR4, hR5, hB3⟩ := step_start w o la va ln lc vn vc B P S A ps full h
  have hBl : B < w.heap.size := (cell_two h.bench).2.2.2
  obtain ⟨okind, oid, oref, omin, odel, ol0, ol1, ol2, olist, ovis⟩ := o
  simp only at hk
  simp only [opCs, ansCs, sv] at hX HW3 hR4 hR5 ⊢
  have x0 : w3.cell? ⟨w.heap.size, 0, none⟩ = some (.int .u8 okind) := by rw [World.cell?, hX]; rfl
  have x1 : w3.cell? ⟨w.heap.size, 1, none⟩ = some (.int .u32 oid) := by rw [World.cell?, hX]; rfl
  have x2 : w3.cell? ⟨w.heap.size, 2, none⟩ = some (.int .u32 oref) := by rw [World.cell?, hX]; rfl
  have x3 : w3.cell? ⟨w.heap.size, 3, none⟩ = some (.int .i64 omin) := by rw [World.cell?, hX]; rfl
  have x4 : w3.cell? ⟨w.heap.size, 4, none⟩ = some (.int .i64 odel) := by rw [World.cell?, hX]; rfl
  have x5 : w3.cell? ⟨w.heap.size, 5, none⟩ = some (.int .i64 ol0) := by rw [World.cell?, hX]; rfl
  have x6 : w3.cell? ⟨w.heap.size, 6, none⟩ = some (.int .i64 ol1) := by rw [World.cell?, hX]; rfl
  have x7 : w3.cell? ⟨w.heap.size, 7, none⟩ = some (.int .i64 ol2) := by rw [World.cell?, hX]; rfl
  have x8 : w3.cell? ⟨w.heap.size, 8, none⟩ = some (.slice la ln lc) := by rw [World.cell?, hX]; rfl
  have x9 : w3.cell? ⟨w.heap.size, 9, none⟩ = some (.slice va vn vc) := by rw [World.cell?, hX]; rfl
  obtain ⟨b0, b1, -, -⟩ := cell_two hB3.bench
  subst hk
  go_enter Tryd.func9, Tryd.ntmps9
  go_upto_region 3 with fail
  rw [← HW3.out]
  have HX := hide hX
  clear hX
  have HCALL := hide (sites_q (w := w3) hB3.at' hr hps)
  go_upto_region 50 with (go_at_call 29; refine HCALL.out.mono ?_; rintro e w4 ⟨jv, rfl, hvis, hb4⟩; obtain ⟨ja, jc, hjv⟩ := hvis.form; obtain ⟨jn, hjn⟩ : ∃ jn, jn = (sitesOf ps).length := ⟨_, rfl⟩; rw [← hjn] at hjv; clear hjn; subst hjv; have hR5' : w4.heap[w.heap.size + 2]? = _ := (hb4.block _ (by omega)).trans hR5; have hR4' : w4.heap[w.heap.size + 1]? = _ := (hb4.block _ (by omega)).trans hR4; have hq0 : w4.cell? ⟨w.heap.size + 1 + 1, 2, none⟩ = some (.slice none 0 0) := (by rw [World.cell?, show w.heap.size + 1 + 1 = w.heap.size + 2 from rfl, hR5']; rfl); have hqf : w4.frozen? ⟨w.heap.size + 1 + 1, 2, none⟩ = false := (by rw [World.frozen?, show w.heap.size + 1 + 1 = w.heap.size + 2 from rfl, hR5']; rfl))
  obtain ⟨w5, hw5⟩ : ∃ w5, w5 = w4.setCell ⟨w.heap.size + 1 + 1, 2, none⟩ (.slice ja jn jc) := ⟨_, rfl⟩
  have hR5'' : w5.heap[w.heap.size + 2]? = some (.cells #[.int .u8 0, .int .i64 0, .slice ja jn jc, .int .u32 0, .int .u8 0, .int .i64 0, .int .i64 0, .int .u32 0, .int .i64 0, .slice none 0 0, .int .u32 0, .int .i64 0, .int .i64 0, .int .i64 0, .int .u32 0, .int .u32 0, .int .i64 0] 47 (0, 0)) := by rw [hw5]; exact heap_setCell_same w4 (w.heap.size + 2) 2 _ _ (.slice ja jn jc) hR5'
  have h5o : ∀ b, b ≠ w.heap.size + 2 → w5.heap[b]? = w4.heap[b]? := fun b hb => by rw [hw5]; exact Below.heap_setCell _ _ _ _ hb
  have h5s : w5.heap.size = w4.heap.size := by rw [hw5]; simp [World.setCell]
  have h5b : ∀ Bb, Bb ≤ w.heap.size → Below Bb w4 w5 := fun Bb hBb => by rw [hw5]; exact (Below.refl _ _).setCell (p := ⟨w.heap.size + 1 + 1, 2, none⟩) (by show Bb ≤ w.heap.size + 1 + 1; omega) _
  have hR4'' : w5.heap[w.heap.size + 1]? = _ := (h5o _ (by omega)).trans hR4'
  rw [← hw5]
  clear hw5
  have t0 : w5.cell? ⟨w.heap.size + 1 + 1, 0, none⟩ = some (.int .u8 0) := by rw [World.cell?, show w.heap.size + 1 + 1 = w.heap.size + 2 from rfl, hR5'']; rfl
  have tf : w5.frozen? ⟨w.heap.size + 1 + 1, 0, none⟩ = false := by rw [World.frozen?, show w.heap.size + 1 + 1 = w.heap.size + 2 from rfl, hR5'']; rfl
  go_upto_region 51 with (go_at_call 33; refine (codeOf_any (0) _).mono ?_; rintro e w9 ⟨rfl, rfl⟩)
  obtain ⟨wz, hwz⟩ : ∃ wz, wz = w5.setCell ⟨w.heap.size + 1 + 1, 0, none⟩ (.int .u8 0) := ⟨_, rfl⟩
  have hZ5 : wz.heap[w.heap.size + 2]? = some (.cells #[.int .u8 0, .int .i64 0, .slice ja jn jc, .int .u32 0, .int .u8 0, .int .i64 0, .int .i64 0, .int .u32 0, .int .i64 0, .slice none 0 0, .int .u32 0, .int .i64 0, .int .i64 0, .int .i64 0, .int .u32 0, .int .u32 0, .int .i64 0] 47 (0, 0)) := by
    rw [hwz]
    have := heap_setCell_same w5 (w.heap.size + 2) 0 _ _ (.int .u8 0) hR5''
    exact this
  have hZ4 : wz.heap[w.heap.size + 1]? = some (.cells #[.int .u8 0, .int .i64 0, .slice none 0 0, .int .u32 0, .int .u8 0, .int .i64 0, .int .i64 0, .int .u32 0, .int .i64 0, .slice none 0 0, .int .u32 0, .int .i64 0, .int .i64 0, .int .i64 0, .int .u32 0, .int .u32 0, .int .i64 0] 47 (0, 0)) := by rw [hwz, Below.heap_setCell _ _ _ _ (by simp)]; exact hR4''
  have rz : rng wz (w.heap.size + 1 + 1) 0 17 = some #[.int .u8 0, .int .i64 0, .slice ja jn jc, .int .u32 0, .int .u8 0, .int .i64 0, .int .i64 0, .int .u32 0, .int .i64 0, .slice none 0 0, .int .u32 0, .int .i64 0, .int .i64 0, .int .i64 0, .int .u32 0, .int .u32 0, .int .i64 0] := rng_whole hZ5
  have hwh := whole_of_heap hZ4
  simp only [List.size_toArray, List.length_cons, List.length_nil] at hwh
  have hzo : ∀ b, b ≠ w.heap.size + 2 → wz.heap[b]? = w5.heap[b]? := fun b hb => by rw [hwz]; exact Below.heap_setCell _ _ _ _ hb
  have hzs : wz.heap.size = w5.heap.size := by rw [hwz]; simp [World.setCell]
  have hzb : ∀ Bb, Bb ≤ w.heap.size → Below Bb w5 wz := fun Bb hBb => by rw [hwz]; exact (Below.refl _ _).setCell (p := ⟨w.heap.size + 1 + 1, 0, none⟩) (by show Bb ≤ w.heap.size + 1 + 1; omega) _
  rw [← hwz]
  clear hwz
  go_wp2
  have hfin := heap_setRow_at (ds := #[.int .u8 0, .int .i64 0, .slice ja jn jc, .int .u32 0, .int .u8 0, .int .i64 0, .int .i64 0, .int .u32 0, .int .i64 0, .slice none 0 0, .int .u32 0, .int .i64 0, .int .i64 0, .int .i64 0, .int .u32 0, .int .u32 0, .int .i64 0]) hZ4
  refine bodyPost_ret (results_cell1 Tryd.results9 _ _ (w.heap.size + 1) _ _ _ _ rfl hfin Tryd.underlying47 rfl (by kernel_rfl)) rfl ?_
  have hbw : Below w.heap.size w (wz.setRow (w.heap.size + 1) #[.int .u8 0, .int .i64 0, .slice ja jn jc, .int .u32 0, .int .u8 0, .int .i64 0, .int .i64 0, .int .u32 0, .int .i64 0, .slice none 0 0, .int .u32 0, .int .i64 0, .int .i64 0, .int .i64 0, .int .u32 0, .int .u32 0, .int .i64 0]) := ((hb3.trans (hb4.mono (by omega))).trans (h5b _ (Nat.le_refl _))).trans ((hzb _ (Nat.le_refl _)).trans (below_setRow' _ _ (by omega)))
  have hup : ∀ b, w.heap.size + 3 ≤ b → (wz.setRow (w.heap.size + 1) #[.int .u8 0, .int .i64 0, .slice ja jn jc, .int .u32 0, .int .u8 0, .int .i64 0, .int .i64 0, .int .u32 0, .int .i64 0, .slice none 0 0, .int .u32 0, .int .i64 0, .int .i64 0, .int .i64 0, .int .u32 0, .int .u32 0, .int .i64 0]).heap[b]? = w4.heap[b]? := fun b hb => (setRow_other _ _ _ _ (by omega)).trans ((hzo b (by omega)).trans (h5o b (by omega)))
  exact ⟨(ja, jn, jc), ⟨rfl, Cmd.of_below h.at' hbw, hbw.block B hBl⟩, hvis.mono (fun b hb => hup b (by have h9 : w3.heap.size ≤ b := hb; omega)) (fun b hb => by have h9 : w3.heap.size ≤ b := hb; show w.heap.size ≤ b; omega)⟩

end Go.Proofs.Qxb6500665aDoor
