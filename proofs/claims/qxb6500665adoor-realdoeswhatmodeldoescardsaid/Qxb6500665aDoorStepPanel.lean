/- Panel as a kind of a step, walked. (Made by tools/mk_step.py.) -/
import Derived.Test.Qxb6500665aDoorStepFull
namespace Go.Proofs.Qxb6500665aDoor
open Go.RowKit Go.Proofs.Qxb6500665aDoor.Cal

attribute [local go_sem ↓] exec_stAnswer exec_ldAnswer exec_stPlacement exec_stVersion exec_stAnalyte exec_stSubject exec_stPanel
attribute [local go_sem] run_stAnswer run_ldAnswer rng_drew ext_const Ext.cell Ext.frozen Ext.rng Ext.whole

attribute [local go_sem] ones17
attribute [local go_sem] run_stPanel ones_is whole_alloc_lt whole_alloc_at whole_drew

set_option maxRecDepth 100000 in
set_option maxHeartbeats 8000000 in
theorem step_10 (w : World) (B P S : Nat) (A : Nat → Prop) (ps : List KV) (full : Bool) (o : Op) (la va : Option Addr) (ln lc vn vc : Nat) (h : BAt w B P S A ps full) (T : Tab) (hr : Rep ps T) (hk : o.kind = 10) (hid : U32 o.id) :
    Calls Tryd.prog 9 #[.pointer (some ⟨B, 0, none⟩), .agg (opCs o (.slice la ln lc) (.slice va vn vc))] w fun e w' => ∃ s : SV, StepPost w w' e S B P A ps full { code := (panR T o.id).1, list := s } ∧ U32sAt w' (w.heap.size ≤ ·) (sv s) (panR T o.id).2.2 := by
  obtain ⟨w3, HW3, hb3, hs3, hX, hR4, hR5, hB3⟩ := step_start w o la va ln lc vn vc B P S A ps full h
  have hBl : B < w.heap.size := (cell_two h.bench).2.2.2
  obtain ⟨okind, oid, oref, omin, odel, ol0, ol1, ol2, olist, ovis⟩ := o
  simp only at hk
  simp only [opCs, ansCs, sv] at hX HW3 hR4 hR5 ⊢
  have x0 : w3.cell? ⟨w.heap.size, 0, none⟩ = some (.int .u8 okind) := by rw [World.cell?, hX]; rfl
  have x1 : w3.cell? ⟨w.heap.size, 1, none⟩ = some (.int .u32 oid) := by rw [World.cell?, hX]; rfl
  have x2 : w3.cell? ⟨w.heap.size, 2, none⟩ = some (.int .u32 oref) := by rw [World.cell?, hX]; rfl
  have x3 : w3.cell? ⟨w.heap.size, 3, none⟩ = some (.int .i64 omin) := by rw [World.cell?, hX]; rfl
  have x4 : w3.cell? ⟨w.heap.size, 4, none⟩ = some (.int .i64 odel) := by rw [World.cell?, hX]; rfl
  have x5 : w3.cell? ⟨w.heap.size, 5, none⟩ = some (.int .i64 ol0) := by rw [World.cell?, hX]; rfl
  have x6 : w3.cell? ⟨w.heap.size, 6, none⟩ = some (.int .i64 ol1) := by rw [World.cell?, hX]; rfl
  have x7 : w3.cell? ⟨w.heap.size, 7, none⟩ = some (.int .i64 ol2) := by rw [World.cell?, hX]; rfl
  have x8 : w3.cell? ⟨w.heap.size, 8, none⟩ = some (.slice la ln lc) := by rw [World.cell?, hX]; rfl
  have x9 : w3.cell? ⟨w.heap.size, 9, none⟩ = some (.slice va vn vc) := by rw [World.cell?, hX]; rfl
  obtain ⟨b0, b1, -, -⟩ := cell_two hB3.bench
  subst hk
  go_enter Tryd.func9, Tryd.ntmps9
  go_upto_region 3 with fail
  rw [← HW3.out]
  have HX := hide hX
  clear hX
  have hSl := h.at'.store.size
  go_upto_region 27 with fail
  obtain ⟨wA, hwA⟩ : ∃ wA, wA = w3.alloc (.cells #[.int .u32 0, .slice none 0 0] 78) := ⟨_, rfl⟩
  have hbA3 : Below w3.heap.size w3 wA := by rw [hwA]; exact (Below.refl _ _).alloc (Nat.le_refl _) _
  have hbA : Below w.heap.size w wA := hb3.trans (hbA3.mono (by omega))
  have hsA : wA.heap.size = w.heap.size + 4 := by rw [hwA]; simp [hs3]
  have hTA : wA.heap[w.heap.size + 3]? = some (.cells #[.int .u32 0, .slice none 0 0] 78 (0, 0)) := by
    have := heap_alloc_at w3 (.cells #[.int .u32 0, .slice none 0 0] 78)
    rw [hs3] at this; rw [hwA]; exact this
  have b1A : wA.cell? ⟨B, 1, none⟩ = some (.pointer (some ⟨P, 0, none⟩)) := (hbA3.cell (p := ⟨B, 1, none⟩) (by show B < _; omega)).trans b1
  have x1A : wA.cell? ⟨w.heap.size, 1, none⟩ = some (.int .u32 oid) := (hbA3.cell (p := ⟨w.heap.size, 1, none⟩) (by show w.heap.size < _; omega)).trans x1
  have HCALL := hide (panel_q (w := wA.drew) ((hB3.at'.below hbA3).below (Below.refl _ _).drew) hr oid hid)
  have HWA := hide hwA
  rw [← HWA.out]
  clear hwA
  have hBl3 : B < w.heap.size + 4 := by omega
  refine wp_region_mixT (w.heap.size + 4) [3, 5] (by kernel_rfl) ?_
  refine mixT_slots [0, 1, 2, 4] (fuel := 8) rfl (by kernel_rfl) (by kernel_rfl) (fun d _ _ _ _ h => by cases d <;> exact h) ?_
  simp only [opersAt, List.getElem?_toArray, List.getElem?_cons_zero, List.getElem?_cons_succ]
  repeat (go_big_quiet_step (fail))
  refine wpQuiet_nil ?_
  refine mixT_reads [3, 5] (fuel := 6) rfl (by kernel_rfl) (by decide) (by kernel_rfl) (fun d _ _ _ _ h => by cases d <;> exact h) (ext_drew _ _) ?_
  simp only [opersAt, List.getElem?_toArray, List.getElem?_cons_zero, List.getElem?_cons_succ]
  repeat (go_big_quiet_step (fail))
  refine wpQuiet_nil ?_
  refine mixT_one (k := 6) (by kernel_rfl) rfl ?_
  go_wp2_with (go_at_call 25; refine HCALL.out.mono ?_; rintro e w4 ⟨jv, rfl, hvis, hb4⟩)
  obtain ⟨ja, jc, hjv⟩ := hvis.form
  obtain ⟨jn, hjn⟩ : ∃ jn, jn = (panR T oid).2.2.length := ⟨_, rfl⟩
  rw [← hjn] at hjv
  clear hjn
  subst hjv
  have hb4' : Below (w.heap.size + 4) wA w4 := ((Below.refl _ _).drew).trans (hb4.mono (by show w.heap.size + 4 ≤ wA.heap.size; omega))
  refine ⟨Or.inr (fun _ => ⟨⟨_, hb4'⟩, rfl⟩), ?_⟩
  have hT4 : w4.heap[w.heap.size + 3]? = _ := (hb4'.block _ (by omega)).trans hTA
  have hwh4 := whole_of_heap hT4
  simp only [List.size_toArray, List.length_cons, List.length_nil] at hwh4
  refine mixT_slots [7, 8, 9] (fuel := 2) rfl (by kernel_rfl) (by kernel_rfl) (fun d _ _ _ _ h => by cases d <;> exact h) ?_
  simp only [opersAt, List.getElem?_toArray, List.getElem?_cons_zero, List.getElem?_cons_succ]
  repeat (go_big_quiet_step (fail))
  refine wpQuiet_nil ?_
  refine mixT_one (k := 10) (by kernel_rfl) rfl ?_
  go_wp2
  refine ⟨Or.inl (by kernel_rfl), ?_⟩
  refine mixT_one (k := 11) (by kernel_rfl) rfl ?_
  go_wp2
  refine ⟨Or.inr (fun h => h), ?_⟩
  refine mixT_nil (by kernel_rfl) ?_
  go_upto_region 28 with fail
  obtain ⟨w4b, hw4b⟩ : ∃ w4b, w4b = w4.setRow (w.heap.size + 3) #[.int .u32 (panR T oid).2.1, .slice ja jn jc] := ⟨_, rfl⟩
  have hR5' : w4b.heap[w.heap.size + 2]? = _ := (by rw [hw4b]; exact setRow_other _ _ _ _ (by omega) : w4b.heap[w.heap.size + 2]? = w4.heap[w.heap.size + 2]?).trans ((hb4'.block _ (by omega)).trans ((hbA3.block _ (by omega)).trans hR5))
  have hR4' : w4b.heap[w.heap.size + 1]? = _ := (by rw [hw4b]; exact setRow_other _ _ _ _ (by omega) : w4b.heap[w.heap.size + 1]? = w4.heap[w.heap.size + 1]?).trans ((hb4'.block _ (by omega)).trans ((hbA3.block _ (by omega)).trans hR4))
  have hT5 : w4b.heap[w.heap.size + 3]? = some (.cells #[.int .u32 (panR T oid).2.1, .slice ja jn jc] 78 (0, 0)) := by rw [hw4b]; exact heap_setRow_at hT4
  have hb4b : Below w.heap.size w4 w4b := by rw [hw4b]; exact below_setRow' _ _ (by omega)
  have h4bo : ∀ b, b ≠ w.heap.size + 3 → w4b.heap[b]? = w4.heap[b]? := fun b hb => by rw [hw4b]; exact setRow_other _ _ _ _ hb
  have u1 : w4b.cell? ⟨w.heap.size + 3, 1, none⟩ = some (.slice ja jn jc) := by rw [World.cell?, hT5]; rfl
  have hq0 : w4b.cell? ⟨w.heap.size + 1 + 1, 2, none⟩ = some (.slice none 0 0) := by rw [World.cell?, show w.heap.size + 1 + 1 = w.heap.size + 2 from rfl, hR5']; rfl
  have hqf : w4b.frozen? ⟨w.heap.size + 1 + 1, 2, none⟩ = false := by rw [World.frozen?, show w.heap.size + 1 + 1 = w.heap.size + 2 from rfl, hR5']; rfl
  have HW4B := hide hw4b
  rw [← HW4B.out]
  clear hw4b
  go_upto_region 50 with fail
  obtain ⟨w5, hw5⟩ : ∃ w5, w5 = w4b.setCell ⟨w.heap.size + 1 + 1, 2, none⟩ (.slice ja jn jc) := ⟨_, rfl⟩
  have hR5'' : w5.heap[w.heap.size + 2]? = some (.cells #[.int .u8 0, .int .i64 0, .slice ja jn jc, .int .u32 0, .int .u8 0, .int .i64 0, .int .i64 0, .int .u32 0, .int .i64 0, .slice none 0 0, .int .u32 0, .int .i64 0, .int .i64 0, .int .i64 0, .int .u32 0, .int .u32 0, .int .i64 0] 47 (0, 0)) := by rw [hw5]; exact heap_setCell_same w4b (w.heap.size + 2) 2 _ _ (.slice ja jn jc) hR5'
  have h5o : ∀ b, b ≠ w.heap.size + 2 → w5.heap[b]? = w4b.heap[b]? := fun b hb => by rw [hw5]; exact Below.heap_setCell _ _ _ _ hb
  have h5s : w5.heap.size = w4b.heap.size := by rw [hw5]; simp [World.setCell]
  have h5b : ∀ Bb, Bb ≤ w.heap.size → Below Bb w4b w5 := fun Bb hBb => by rw [hw5]; exact (Below.refl _ _).setCell (p := ⟨w.heap.size + 1 + 1, 2, none⟩) (by show Bb ≤ w.heap.size + 1 + 1; omega) _
  have hR4'' : w5.heap[w.heap.size + 1]? = _ := (h5o _ (by omega)).trans hR4'
  rw [← hw5]
  clear hw5
  have t0 : w5.cell? ⟨w.heap.size + 1 + 1, 0, none⟩ = some (.int .u8 0) := by rw [World.cell?, show w.heap.size + 1 + 1 = w.heap.size + 2 from rfl, hR5'']; rfl
  have tf : w5.frozen? ⟨w.heap.size + 1 + 1, 0, none⟩ = false := by rw [World.frozen?, show w.heap.size + 1 + 1 = w.heap.size + 2 from rfl, hR5'']; rfl
  go_upto_region 51 with (go_at_call 33; refine (codeOf_any ((panR T oid).1) _).mono ?_; rintro e w9 ⟨rfl, rfl⟩)
  obtain ⟨wz, hwz⟩ : ∃ wz, wz = w5.setCell ⟨w.heap.size + 1 + 1, 0, none⟩ (.int .u8 (panR T oid).1) := ⟨_, rfl⟩
  have hZ5 : wz.heap[w.heap.size + 2]? = some (.cells #[.int .u8 (panR T oid).1, .int .i64 0, .slice ja jn jc, .int .u32 0, .int .u8 0, .int .i64 0, .int .i64 0, .int .u32 0, .int .i64 0, .slice none 0 0, .int .u32 0, .int .i64 0, .int .i64 0, .int .i64 0, .int .u32 0, .int .u32 0, .int .i64 0] 47 (0, 0)) := by
    rw [hwz]
    have := heap_setCell_same w5 (w.heap.size + 2) 0 _ _ (.int .u8 (panR T oid).1) hR5''
    exact this
  have hZ4 : wz.heap[w.heap.size + 1]? = some (.cells #[.int .u8 0, .int .i64 0, .slice none 0 0, .int .u32 0, .int .u8 0, .int .i64 0, .int .i64 0, .int .u32 0, .int .i64 0, .slice none 0 0, .int .u32 0, .int .i64 0, .int .i64 0, .int .i64 0, .int .u32 0, .int .u32 0, .int .i64 0] 47 (0, 0)) := by rw [hwz, Below.heap_setCell _ _ _ _ (by simp)]; exact hR4''
  have rz : rng wz (w.heap.size + 1 + 1) 0 17 = some #[.int .u8 (panR T oid).1, .int .i64 0, .slice ja jn jc, .int .u32 0, .int .u8 0, .int .i64 0, .int .i64 0, .int .u32 0, .int .i64 0, .slice none 0 0, .int .u32 0, .int .i64 0, .int .i64 0, .int .i64 0, .int .u32 0, .int .u32 0, .int .i64 0] := rng_whole hZ5
  have hwh := whole_of_heap hZ4
  simp only [List.size_toArray, List.length_cons, List.length_nil] at hwh
  have hzo : ∀ b, b ≠ w.heap.size + 2 → wz.heap[b]? = w5.heap[b]? := fun b hb => by rw [hwz]; exact Below.heap_setCell _ _ _ _ hb
  have hzs : wz.heap.size = w5.heap.size := by rw [hwz]; simp [World.setCell]
  have hzb : ∀ Bb, Bb ≤ w.heap.size → Below Bb w5 wz := fun Bb hBb => by rw [hwz]; exact (Below.refl _ _).setCell (p := ⟨w.heap.size + 1 + 1, 0, none⟩) (by show Bb ≤ w.heap.size + 1 + 1; omega) _
  rw [← hwz]
  clear hwz
  go_wp2
  have hfin := heap_setRow_at (ds := #[.int .u8 (panR T oid).1, .int .i64 0, .slice ja jn jc, .int .u32 0, .int .u8 0, .int .i64 0, .int .i64 0, .int .u32 0, .int .i64 0, .slice none 0 0, .int .u32 0, .int .i64 0, .int .i64 0, .int .i64 0, .int .u32 0, .int .u32 0, .int .i64 0]) hZ4
  refine bodyPost_ret (results_cell1 Tryd.results9 _ _ (w.heap.size + 1) _ _ _ _ rfl hfin Tryd.underlying47 rfl (by kernel_rfl)) rfl ?_
  have hbw : Below w.heap.size w (wz.setRow (w.heap.size + 1) #[.int .u8 (panR T oid).1, .int .i64 0, .slice ja jn jc, .int .u32 0, .int .u8 0, .int .i64 0, .int .i64 0, .int .u32 0, .int .i64 0, .slice none 0 0, .int .u32 0, .int .i64 0, .int .i64 0, .int .i64 0, .int .u32 0, .int .u32 0, .int .i64 0]) := (((hbA.drew).trans (hb4.mono (by show w.heap.size ≤ wA.heap.size; omega))).trans (hb4b.trans (h5b _ (Nat.le_refl _)))).trans ((hzb _ (Nat.le_refl _)).trans (below_setRow' _ _ (by omega)))
  have hup : ∀ b, w.heap.size + 4 ≤ b → (wz.setRow (w.heap.size + 1) #[.int .u8 (panR T oid).1, .int .i64 0, .slice ja jn jc, .int .u32 0, .int .u8 0, .int .i64 0, .int .i64 0, .int .u32 0, .int .i64 0, .slice none 0 0, .int .u32 0, .int .i64 0, .int .i64 0, .int .i64 0, .int .u32 0, .int .u32 0, .int .i64 0]).heap[b]? = w4.heap[b]? := fun b hb => (setRow_other _ _ _ _ (by omega)).trans ((hzo b (by omega)).trans ((h5o b (by omega)).trans (h4bo b (by omega))))
  exact ⟨(ja, jn, jc), ⟨rfl, Cmd.of_below h.at' hbw, hbw.block B hBl⟩, hvis.mono (fun b hb => hup b (by have h9 : wA.heap.size ≤ b := hb; omega)) (fun b hb => by have h9 : wA.heap.size ≤ b := hb; show w.heap.size ≤ b; omega)⟩

end Go.Proofs.Qxb6500665aDoor
