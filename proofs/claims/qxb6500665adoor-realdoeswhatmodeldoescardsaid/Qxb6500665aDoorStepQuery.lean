/- The queries among the kinds of a step, walked. (Made by tools/mk_step.py.) -/
import Derived.Test.Qxb6500665aDoorQuery
namespace Go.Proofs.Qxb6500665aDoor
open Go.RowKit Go.Proofs.Qxb6500665aDoor.Cal

attribute [local go_sem ↓] exec_stAnswer exec_ldAnswer exec_stPlacement exec_stVersion exec_stAnalyte exec_stSubject exec_stPanel
attribute [local go_sem] run_stAnswer run_ldAnswer rng_drew ext_const Ext.cell Ext.frozen Ext.rng Ext.whole

attribute [local go_sem] ones17

set_option maxRecDepth 100000 in
set_option maxHeartbeats 8000000 in
theorem step_9 (w : World) (B P S : Nat) (A : Nat → Prop) (ps : List KV) (full : Bool) (o : Op) (la va : Option Addr) (ln lc vn vc : Nat) (h : BAt w B P S A ps full) (T : Tab) (hr : Rep ps T) (hk : o.kind = 9) (hid : U32 o.id) :
    Calls Tryd.prog 9 #[.pointer (some ⟨B, 0, none⟩), .agg (opCs o (.slice la ln lc) (.slice va vn vc))] w fun e w' => StepPost w w' e S B P A ps full { code := (anR T o.id).1, a0 := (anR T o.id).2.1, a1 := (anR T o.id).2.2.1, a2 := (anR T o.id).2.2.2.1, a3 := (anR T o.id).2.2.2.2 } := by
  obtain ⟨w3, HW3, hb3, hs3, hX, hR4, hR5, hB3⟩ := step_start w o la va ln lc vn vc B P S A ps full h
  have hBl : B < w.heap.size := (cell_two h.bench).2.2.2
  obtain ⟨okind, oid, oref, omin, odel, ol0, ol1, ol2, olist, ovis⟩ := o
  simp only at hk
  simp only [opCs, ansCs, sv] at hX HW3 hR4 hR5 ⊢
  have x0 : w3.cell? ⟨w.heap.size, 0, none⟩ = some (.int .u8 okind) := by rw [World.cell?, hX]; rfl
  have x1 : w3.cell? ⟨w.heap.size, 1, none⟩ = some (.int .u32 oid) := by rw [World.cell?, hX]; rfl
  have x2 : w3.cell? ⟨w.heap.size, 2, none⟩ = some (.int .u32 oref) := by rw [World.cell?, hX]; rfl
  have x3 : w3.cell? ⟨w.heap.size, 3, none⟩ = some (.int .i64 omin) := by rw [World.cell?, hX]; rfl
  have x4 : w3.cell? ⟨w.heap.size, 4, none⟩ = some (.int .i64 odel) := by rw [World.cell?, hX]; rfl
  have x5 : w3.cell? ⟨w.heap.size, 5, none⟩ = some (.int .i64 ol0) := by rw [World.cell?, hX]; rfl
  have x6 : w3.cell? ⟨w.heap.size, 6, none⟩ = some (.int .i64 ol1) := by rw [World.cell?, hX]; rfl
  have x7 : w3.cell? ⟨w.heap.size, 7, none⟩ = some (.int .i64 ol2) := by rw [World.cell?, hX]; rfl
  have x8 : w3.cell? ⟨w.heap.size, 8, none⟩ = some (.slice la ln lc) := by rw [World.cell?, hX]; rfl
  have x9 : w3.cell? ⟨w.heap.size, 9, none⟩ = some (.slice va vn vc) := by rw [World.cell?, hX]; rfl
  obtain ⟨b0, b1, -, -⟩ := cell_two hB3.bench
  subst hk
  go_enter Tryd.func9, Tryd.ntmps9
  go_upto_region 3 with fail
  rw [← HW3.out]
  have HX := hide hX
  clear hX
  have hSl := h.at'.store.size
  have HCALL := hide (analyte_q (w := w3.drew) (hB3.at'.below (Below.refl _ _).drew) hr oid hid)
  have hBl3 : B < w.heap.size + 3 := by omega
  go_upto_region 24 with fail
  refine wp_region_mixT (w.heap.size + 3) [3, 5] (by kernel_rfl) ?_
  refine mixT_slots [0, 1, 2, 4] (fuel := 9) rfl (by kernel_rfl) (by kernel_rfl) (fun d _ _ _ _ h => by cases d <;> exact h) ?_
  simp only [opersAt, List.getElem?_toArray, List.getElem?_cons_zero, List.getElem?_cons_succ]
  repeat (go_big_quiet_step (fail))
  refine wpQuiet_nil ?_
  refine mixT_reads [3, 5] (fuel := 7) rfl (by kernel_rfl) (by decide) (by kernel_rfl) (fun d _ _ _ _ h => by cases d <;> exact h) (ext_drew _ _) ?_
  simp only [opersAt, List.getElem?_toArray, List.getElem?_cons_zero, List.getElem?_cons_succ]
  repeat (go_big_quiet_step (fail))
  refine wpQuiet_nil ?_
  refine mixT_one (k := 6) (by kernel_rfl) rfl ?_
  go_wp2_with (go_at_call 24; refine HCALL.out.mono ?_; rintro e w4 ⟨rfl, hb4⟩)
  skip
  have hb4' : Below (w.heap.size + 3) w3 w4 := ((Below.refl _ _).drew).trans (hb4.mono (by show w.heap.size + 3 ≤ w3.heap.size; omega))
  refine ⟨Or.inr (fun _ => ⟨⟨_, hb4'⟩, rfl⟩), ?_⟩
  have hR5' : w4.heap[w.heap.size + 2]? = _ := (hb4'.block _ (by omega)).trans hR5
  have hR4' : w4.heap[w.heap.size + 1]? = _ := (hb4'.block _ (by omega)).trans hR4
  have hst : (stS 43 (.pointer (some ⟨w.heap.size + 1 + 1, 10, none⟩)) (.agg #[.int .u32 (anR T oid).2.1, .int .i64 (anR T oid).2.2.1, .int .i64 (anR T oid).2.2.2.1, .int .i64 (anR T oid).2.2.2.2])).run Tryd.prog w4 = .ok () (w4.setRow (w.heap.size + 2) #[.int .u8 0, .int .i64 0, .slice none 0 0, .int .u32 0, .int .u8 0, .int .i64 0, .int .i64 0, .int .u32 0, .int .i64 0, .slice none 0 0, .int .u32 (anR T oid).2.1, .int .i64 (anR T oid).2.2.1, .int .i64 (anR T oid).2.2.2.1, .int .i64 (anR T oid).2.2.2.2, .int .u32 0, .int .u32 0, .int .i64 0]) := by
    rw [stAnalyte_eq _ _ _ _ rfl]
    have := cells_at (off := 10) #[.int .u32 (anR T oid).2.1, .int .i64 (anR T oid).2.2.1, .int .i64 (anR T oid).2.2.2.1, .int .i64 (anR T oid).2.2.2.2] hR5' (by simp) (by simp [Value.oneCell'])
    exact this
  refine mixT_slots [7, 8, 9, 10] (fuel := 2) rfl (by kernel_rfl) (by kernel_rfl) (fun d _ _ _ _ h => by cases d <;> exact h) ?_
  simp only [opersAt, List.getElem?_toArray, List.getElem?_cons_zero, List.getElem?_cons_succ]
  repeat (go_big_quiet_step (fail))
  refine wpQuiet_nil ?_
  refine mixT_one (k := 11) (by kernel_rfl) rfl ?_
  go_wp2
  refine ⟨Or.inl (by kernel_rfl), ?_⟩
  refine mixT_one (k := 12) (by kernel_rfl) rfl ?_
  go_wp2
  refine ⟨Or.inr (fun h => h), ?_⟩
  refine mixT_nil (by kernel_rfl) ?_
  go_upto_region 50 with fail
  obtain ⟨w5, hw5⟩ : ∃ w5, w5 = w4.setRow (w.heap.size + 2) #[.int .u8 0, .int .i64 0, .slice none 0 0, .int .u32 0, .int .u8 0, .int .i64 0, .int .i64 0, .int .u32 0, .int .i64 0, .slice none 0 0, .int .u32 (anR T oid).2.1, .int .i64 (anR T oid).2.2.1, .int .i64 (anR T oid).2.2.2.1, .int .i64 (anR T oid).2.2.2.2, .int .u32 0, .int .u32 0, .int .i64 0] := ⟨_, rfl⟩
  have hR5'' : w5.heap[w.heap.size + 2]? = some (.cells #[.int .u8 0, .int .i64 0, .slice none 0 0, .int .u32 0, .int .u8 0, .int .i64 0, .int .i64 0, .int .u32 0, .int .i64 0, .slice none 0 0, .int .u32 (anR T oid).2.1, .int .i64 (anR T oid).2.2.1, .int .i64 (anR T oid).2.2.2.1, .int .i64 (anR T oid).2.2.2.2, .int .u32 0, .int .u32 0, .int .i64 0] 47 (0, 0)) := by rw [hw5]; exact heap_setRow_at hR5'
  have h5o : ∀ b, b ≠ w.heap.size + 2 → w5.heap[b]? = w4.heap[b]? := fun b hb => by rw [hw5]; exact setRow_other _ _ _ _ hb
  have h5s : w5.heap.size = w4.heap.size := by rw [hw5]; simp
  have h5b : ∀ Bb, Bb ≤ w.heap.size → Below Bb w4 w5 := fun Bb hBb => by rw [hw5]; exact below_setRow' _ _ (by omega)
  have hR4'' : w5.heap[w.heap.size + 1]? = _ := (h5o _ (by omega)).trans hR4'
  rw [← hw5]
  clear hw5
  have t0 : w5.cell? ⟨w.heap.size + 1 + 1, 0, none⟩ = some (.int .u8 0) := by rw [World.cell?, show w.heap.size + 1 + 1 = w.heap.size + 2 from rfl, hR5'']; rfl
  have tf : w5.frozen? ⟨w.heap.size + 1 + 1, 0, none⟩ = false := by rw [World.frozen?, show w.heap.size + 1 + 1 = w.heap.size + 2 from rfl, hR5'']; rfl
  go_upto_region 51 with (go_at_call 33; refine (codeOf_any ((anR T oid).1) _).mono ?_; rintro e w9 ⟨rfl, rfl⟩)
  obtain ⟨wz, hwz⟩ : ∃ wz, wz = w5.setCell ⟨w.heap.size + 1 + 1, 0, none⟩ (.int .u8 (anR T oid).1) := ⟨_, rfl⟩
  have hZ5 : wz.heap[w.heap.size + 2]? = some (.cells #[.int .u8 (anR T oid).1, .int .i64 0, .slice none 0 0, .int .u32 0, .int .u8 0, .int .i64 0, .int .i64 0, .int .u32 0, .int .i64 0, .slice none 0 0, .int .u32 (anR T oid).2.1, .int .i64 (anR T oid).2.2.1, .int .i64 (anR T oid).2.2.2.1, .int .i64 (anR T oid).2.2.2.2, .int .u32 0, .int .u32 0, .int .i64 0] 47 (0, 0)) := by
    rw [hwz]
    have := heap_setCell_same w5 (w.heap.size + 2) 0 _ _ (.int .u8 (anR T oid).1) hR5''
    exact this
  have hZ4 : wz.heap[w.heap.size + 1]? = some (.cells #[.int .u8 0, .int .i64 0, .slice none 0 0, .int .u32 0, .int .u8 0, .int .i64 0, .int .i64 0, .int .u32 0, .int .i64 0, .slice none 0 0, .int .u32 0, .int .i64 0, .int .i64 0, .int .i64 0, .int .u32 0, .int .u32 0, .int .i64 0] 47 (0, 0)) := by rw [hwz, Below.heap_setCell _ _ _ _ (by simp)]; exact hR4''
  have rz : rng wz (w.heap.size + 1 + 1) 0 17 = some #[.int .u8 (anR T oid).1, .int .i64 0, .slice none 0 0, .int .u32 0, .int .u8 0, .int .i64 0, .int .i64 0, .int .u32 0, .int .i64 0, .slice none 0 0, .int .u32 (anR T oid).2.1, .int .i64 (anR T oid).2.2.1, .int .i64 (anR T oid).2.2.2.1, .int .i64 (anR T oid).2.2.2.2, .int .u32 0, .int .u32 0, .int .i64 0] := rng_whole hZ5
  have hwh := whole_of_heap hZ4
  simp only [List.size_toArray, List.length_cons, List.length_nil] at hwh
  have hzo : ∀ b, b ≠ w.heap.size + 2 → wz.heap[b]? = w5.heap[b]? := fun b hb => by rw [hwz]; exact Below.heap_setCell _ _ _ _ hb
  have hzs : wz.heap.size = w5.heap.size := by rw [hwz]; simp [World.setCell]
  have hzb : ∀ Bb, Bb ≤ w.heap.size → Below Bb w5 wz := fun Bb hBb => by rw [hwz]; exact (Below.refl _ _).setCell (p := ⟨w.heap.size + 1 + 1, 0, none⟩) (by show Bb ≤ w.heap.size + 1 + 1; omega) _
  rw [← hwz]
  clear hwz
  go_wp2
  have hfin := heap_setRow_at (ds := #[.int .u8 (anR T oid).1, .int .i64 0, .slice none 0 0, .int .u32 0, .int .u8 0, .int .i64 0, .int .i64 0, .int .u32 0, .int .i64 0, .slice none 0 0, .int .u32 (anR T oid).2.1, .int .i64 (anR T oid).2.2.1, .int .i64 (anR T oid).2.2.2.1, .int .i64 (anR T oid).2.2.2.2, .int .u32 0, .int .u32 0, .int .i64 0]) hZ4
  refine bodyPost_ret (results_cell1 Tryd.results9 _ _ (w.heap.size + 1) _ _ _ _ rfl hfin Tryd.underlying47 rfl (by kernel_rfl)) rfl ?_
  have hbw : Below w.heap.size w (wz.setRow (w.heap.size + 1) #[.int .u8 (anR T oid).1, .int .i64 0, .slice none 0 0, .int .u32 0, .int .u8 0, .int .i64 0, .int .i64 0, .int .u32 0, .int .i64 0, .slice none 0 0, .int .u32 (anR T oid).2.1, .int .i64 (anR T oid).2.2.1, .int .i64 (anR T oid).2.2.2.1, .int .i64 (anR T oid).2.2.2.2, .int .u32 0, .int .u32 0, .int .i64 0]) := (((hb3.drew).trans (hb4.mono (by show w.heap.size ≤ w3.heap.size; omega))).trans (h5b _ (Nat.le_refl _))).trans ((hzb _ (Nat.le_refl _)).trans (below_setRow' _ _ (by omega)))
  exact ⟨rfl, Cmd.of_below h.at' hbw, hbw.block B hBl⟩

set_option maxRecDepth 100000 in
set_option maxHeartbeats 8000000 in
theorem step_11 (w : World) (B P S : Nat) (A : Nat → Prop) (ps : List KV) (full : Bool) (o : Op) (la va : Option Addr) (ln lc vn vc : Nat) (h : BAt w B P S A ps full) (T : Tab) (hr : Rep ps T) (hk : o.kind = 11) (hid : U32 o.id) :
    Calls Tryd.prog 9 #[.pointer (some ⟨B, 0, none⟩), .agg (opCs o (.slice la ln lc) (.slice va vn vc))] w fun e w' => StepPost w w' e S B P A ps full { code := (subR T o.id).1, s0 := (subR T o.id).2.1, s1 := (subR T o.id).2.2.1, s2 := (subR T o.id).2.2.2 } := by
  obtain ⟨w3, HW3, hb3, hs3, hX, hR4, hR5, hB3⟩ := step_start w o la va ln lc vn vc B P S A ps full h
  have hBl : B < w.heap.size := (cell_two h.bench).2.2.2
  obtain ⟨okind, oid, oref, omin, odel, ol0, ol1, ol2, olist, ovis⟩ := o
  simp only at hk
  simp only [opCs, ansCs, sv] at hX HW3 hR4 hR5 ⊢
  have x0 : w3.cell? ⟨w.heap.size, 0, none⟩ = some (.int .u8 okind) := by rw [World.cell?, hX]; rfl
  have x1 : w3.cell? ⟨w.heap.size, 1, none⟩ = some (.int .u32 oid) := by rw [World.cell?, hX]; rfl
  have x2 : w3.cell? ⟨w.heap.size, 2, none⟩ = some (.int .u32 oref) := by rw [World.cell?, hX]; rfl
  have x3 : w3.cell? ⟨w.heap.size, 3, none⟩ = some (.int .i64 omin) := by rw [World.cell?, hX]; rfl
  have x4 : w3.cell? ⟨w.heap.size, 4, none⟩ = some (.int .i64 odel) := by rw [World.cell?, hX]; rfl
  have x5 : w3.cell? ⟨w.heap.size, 5, none⟩ = some (.int .i64 ol0) := by rw [World.cell?, hX]; rfl
  have x6 : w3.cell? ⟨w.heap.size, 6, none⟩ = some (.int .i64 ol1) := by rw [World.cell?, hX]; rfl
  have x7 : w3.cell? ⟨w.heap.size, 7, none⟩ = some (.int .i64 ol2) := by rw [World.cell?, hX]; rfl
  have x8 : w3.cell? ⟨w.heap.size, 8, none⟩ = some (.slice la ln lc) := by rw [World.cell?, hX]; rfl
  have x9 : w3.cell? ⟨w.heap.size, 9, none⟩ = some (.slice va vn vc) := by rw [World.cell?, hX]; rfl
  obtain ⟨b0, b1, -, -⟩ := cell_two hB3.bench
  subst hk
  go_enter Tryd.func9, Tryd.ntmps9
  go_upto_region 3 with fail
  rw [← HW3.out]
  have HX := hide hX
  clear hX
  have hSl := h.at'.store.size
  have HCALL := hide (subject_q (w := w3.drew) (hB3.at'.below (Below.refl _ _).drew) hr oid hid)
  have hBl3 : B < w.heap.size + 3 := by omega
  go_upto_region 30 with fail
  refine wp_region_mixT (w.heap.size + 3) [3, 5] (by kernel_rfl) ?_
  refine mixT_slots [0, 1, 2, 4] (fuel := 9) rfl (by kernel_rfl) (by kernel_rfl) (fun d _ _ _ _ h => by cases d <;> exact h) ?_
  simp only [opersAt, List.getElem?_toArray, List.getElem?_cons_zero, List.getElem?_cons_succ]
  repeat (go_big_quiet_step (fail))
  refine wpQuiet_nil ?_
  refine mixT_reads [3, 5] (fuel := 7) rfl (by kernel_rfl) (by decide) (by kernel_rfl) (fun d _ _ _ _ h => by cases d <;> exact h) (ext_drew _ _) ?_
  simp only [opersAt, List.getElem?_toArray, List.getElem?_cons_zero, List.getElem?_cons_succ]
  repeat (go_big_quiet_step (fail))
  refine wpQuiet_nil ?_
  refine mixT_one (k := 6) (by kernel_rfl) rfl ?_
  go_wp2_with (go_at_call 26; refine HCALL.out.mono ?_; rintro e w4 ⟨rfl, hb4⟩)
  skip
  have hb4' : Below (w.heap.size + 3) w3 w4 := ((Below.refl _ _).drew).trans (hb4.mono (by show w.heap.size + 3 ≤ w3.heap.size; omega))
  refine ⟨Or.inr (fun _ => ⟨⟨_, hb4'⟩, rfl⟩), ?_⟩
  have hR5' : w4.heap[w.heap.size + 2]? = _ := (hb4'.block _ (by omega)).trans hR5
  have hR4' : w4.heap[w.heap.size + 1]? = _ := (hb4'.block _ (by omega)).trans hR4
  have hst : (stS 45 (.pointer (some ⟨w.heap.size + 1 + 1, 14, none⟩)) (.agg #[.int .u32 (subR T oid).2.1, .int .u32 (subR T oid).2.2.1, .int .i64 (subR T oid).2.2.2])).run Tryd.prog w4 = .ok () (w4.setRow (w.heap.size + 2) #[.int .u8 0, .int .i64 0, .slice none 0 0, .int .u32 0, .int .u8 0, .int .i64 0, .int .i64 0, .int .u32 0, .int .i64 0, .slice none 0 0, .int .u32 0, .int .i64 0, .int .i64 0, .int .i64 0, .int .u32 (subR T oid).2.1, .int .u32 (subR T oid).2.2.1, .int .i64 (subR T oid).2.2.2]) := by
    rw [stSubject_eq _ _ _ _ rfl]
    have := cells_at (off := 14) #[.int .u32 (subR T oid).2.1, .int .u32 (subR T oid).2.2.1, .int .i64 (subR T oid).2.2.2] hR5' (by simp) (by simp [Value.oneCell'])
    exact this
  refine mixT_slots [7, 8, 9, 10] (fuel := 2) rfl (by kernel_rfl) (by kernel_rfl) (fun d _ _ _ _ h => by cases d <;> exact h) ?_
  simp only [opersAt, List.getElem?_toArray, List.getElem?_cons_zero, List.getElem?_cons_succ]
  repeat (go_big_quiet_step (fail))
  refine wpQuiet_nil ?_
  refine mixT_one (k := 11) (by kernel_rfl) rfl ?_
  go_wp2
  refine ⟨Or.inl (by kernel_rfl), ?_⟩
  refine mixT_one (k := 12) (by kernel_rfl) rfl ?_
  go_wp2
  refine ⟨Or.inr (fun h => h), ?_⟩
  refine mixT_nil (by kernel_rfl) ?_
  go_upto_region 50 with fail
  obtain ⟨w5, hw5⟩ : ∃ w5, w5 = w4.setRow (w.heap.size + 2) #[.int .u8 0, .int .i64 0, .slice none 0 0, .int .u32 0, .int .u8 0, .int .i64 0, .int .i64 0, .int .u32 0, .int .i64 0, .slice none 0 0, .int .u32 0, .int .i64 0, .int .i64 0, .int .i64 0, .int .u32 (subR T oid).2.1, .int .u32 (subR T oid).2.2.1, .int .i64 (subR T oid).2.2.2] := ⟨_, rfl⟩
  have hR5'' : w5.heap[w.heap.size + 2]? = some (.cells #[.int .u8 0, .int .i64 0, .slice none 0 0, .int .u32 0, .int .u8 0, .int .i64 0, .int .i64 0, .int .u32 0, .int .i64 0, .slice none 0 0, .int .u32 0, .int .i64 0, .int .i64 0, .int .i64 0, .int .u32 (subR T oid).2.1, .int .u32 (subR T oid).2.2.1, .int .i64 (subR T oid).2.2.2] 47 (0, 0)) := by rw [hw5]; exact heap_setRow_at hR5'
  have h5o : ∀ b, b ≠ w.heap.size + 2 → w5.heap[b]? = w4.heap[b]? := fun b hb => by rw [hw5]; exact setRow_other _ _ _ _ hb
  have h5s : w5.heap.size = w4.heap.size := by rw [hw5]; simp
  have h5b : ∀ Bb, Bb ≤ w.heap.size → Below Bb w4 w5 := fun Bb hBb => by rw [hw5]; exact below_setRow' _ _ (by omega)
  have hR4'' : w5.heap[w.heap.size + 1]? = _ := (h5o _ (by omega)).trans hR4'
  rw [← hw5]
  clear hw5
  have t0 : w5.cell? ⟨w.heap.size + 1 + 1, 0, none⟩ = some (.int .u8 0) := by rw [World.cell?, show w.heap.size + 1 + 1 = w.heap.size + 2 from rfl, hR5'']; rfl
  have tf : w5.frozen? ⟨w.heap.size + 1 + 1, 0, none⟩ = false := by rw [World.frozen?, show w.heap.size + 1 + 1 = w.heap.size + 2 from rfl, hR5'']; rfl
  go_upto_region 51 with (go_at_call 33; refine (codeOf_any ((subR T oid).1) _).mono ?_; rintro e w9 ⟨rfl, rfl⟩)
  obtain ⟨wz, hwz⟩ : ∃ wz, wz = w5.setCell ⟨w.heap.size + 1 + 1, 0, none⟩ (.int .u8 (subR T oid).1) := ⟨_, rfl⟩
  have hZ5 : wz.heap[w.heap.size + 2]? = some (.cells #[.int .u8 (subR T oid).1, .int .i64 0, .slice none 0 0, .int .u32 0, .int .u8 0, .int .i64 0, .int .i64 0, .int .u32 0, .int .i64 0, .slice none 0 0, .int .u32 0, .int .i64 0, .int .i64 0, .int .i64 0, .int .u32 (subR T oid).2.1, .int .u32 (subR T oid).2.2.1, .int .i64 (subR T oid).2.2.2] 47 (0, 0)) := by
    rw [hwz]
    have := heap_setCell_same w5 (w.heap.size + 2) 0 _ _ (.int .u8 (subR T oid).1) hR5''
    exact this
  have hZ4 : wz.heap[w.heap.size + 1]? = some (.cells #[.int .u8 0, .int .i64 0, .slice none 0 0, .int .u32 0, .int .u8 0, .int .i64 0, .int .i64 0, .int .u32 0, .int .i64 0, .slice none 0 0, .int .u32 0, .int .i64 0, .int .i64 0, .int .i64 0, .int .u32 0, .int .u32 0, .int .i64 0] 47 (0, 0)) := by rw [hwz, Below.heap_setCell _ _ _ _ (by simp)]; exact hR4''
  have rz : rng wz (w.heap.size + 1 + 1) 0 17 = some #[.int .u8 (subR T oid).1, .int .i64 0, .slice none 0 0, .int .u32 0, .int .u8 0, .int .i64 0, .int .i64 0, .int .u32 0, .int .i64 0, .slice none 0 0, .int .u32 0, .int .i64 0, .int .i64 0, .int .i64 0, .int .u32 (subR T oid).2.1, .int .u32 (subR T oid).2.2.1, .int .i64 (subR T oid).2.2.2] := rng_whole hZ5
  have hwh := whole_of_heap hZ4
  simp only [List.size_toArray, List.length_cons, List.length_nil] at hwh
  have hzo : ∀ b, b ≠ w.heap.size + 2 → wz.heap[b]? = w5.heap[b]? := fun b hb => by rw [hwz]; exact Below.heap_setCell _ _ _ _ hb
  have hzs : wz.heap.size = w5.heap.size := by rw [hwz]; simp [World.setCell]
  have hzb : ∀ Bb, Bb ≤ w.heap.size → Below Bb w5 wz := fun Bb hBb => by rw [hwz]; exact (Below.refl _ _).setCell (p := ⟨w.heap.size + 1 + 1, 0, none⟩) (by show Bb ≤ w.heap.size + 1 + 1; omega) _
  rw [← hwz]
  clear hwz
  go_wp2
  have hfin := heap_setRow_at (ds := #[.int .u8 (subR T oid).1, .int .i64 0, .slice none 0 0, .int .u32 0, .int .u8 0, .int .i64 0, .int .i64 0, .int .u32 0, .int .i64 0, .slice none 0 0, .int .u32 0, .int .i64 0, .int .i64 0, .int .i64 0, .int .u32 (subR T oid).2.1, .int .u32 (subR T oid).2.2.1, .int .i64 (subR T oid).2.2.2]) hZ4
  refine bodyPost_ret (results_cell1 Tryd.results9 _ _ (w.heap.size + 1) _ _ _ _ rfl hfin Tryd.underlying47 rfl (by kernel_rfl)) rfl ?_
  have hbw : Below w.heap.size w (wz.setRow (w.heap.size + 1) #[.int .u8 (subR T oid).1, .int .i64 0, .slice none 0 0, .int .u32 0, .int .u8 0, .int .i64 0, .int .i64 0, .int .u32 0, .int .i64 0, .slice none 0 0, .int .u32 0, .int .i64 0, .int .i64 0, .int .i64 0, .int .u32 (subR T oid).2.1, .int .u32 (subR T oid).2.2.1, .int .i64 (subR T oid).2.2.2]) := (((hb3.drew).trans (hb4.mono (by show w.heap.size ≤ w3.heap.size; omega))).trans (h5b _ (Nat.le_refl _))).trans ((hzb _ (Nat.le_refl _)).trans (below_setRow' _ _ (by omega)))
  exact ⟨rfl, Cmd.of_below h.at' hbw, hbw.block B hBl⟩

set_option maxRecDepth 100000 in
set_option maxHeartbeats 8000000 in
theorem step_6 (w : World) (B P S : Nat) (A : Nat → Prop) (ps : List KV) (full : Bool) (o : Op) (la va : Option Addr) (ln lc vn vc : Nat) (h : BAt w B P S A ps full) (T : Tab) (hr : Rep ps T) (hk : o.kind = 6) (hid : U32 o.id) :
    Calls Tryd.prog 9 #[.pointer (some ⟨B, 0, none⟩), .agg (opCs o (.slice la ln lc) (.slice va vn vc))] w fun e w' => StepPost w w' e S B P A ps full { code := (clsR T o.id o.ref o.minute).code, p0 := (clsR T o.id o.ref o.minute).num, p1 := (clsR T o.id o.ref o.minute).cls, p2 := (clsR T o.id o.ref o.minute).opens, p3 := (clsR T o.id o.ref o.minute).closes } := by
  obtain ⟨w3, HW3, hb3, hs3, hX, hR4, hR5, hB3⟩ := step_start w o la va ln lc vn vc B P S A ps full h
  have hBl : B < w.heap.size := (cell_two h.bench).2.2.2
  obtain ⟨okind, oid, oref, omin, odel, ol0, ol1, ol2, olist, ovis⟩ := o
  simp only at hk
  simp only [opCs, ansCs, sv] at hX HW3 hR4 hR5 ⊢
  have x0 : w3.cell? ⟨w.heap.size, 0, none⟩ = some (.int .u8 okind) := by rw [World.cell?, hX]; rfl
  have x1 : w3.cell? ⟨w.heap.size, 1, none⟩ = some (.int .u32 oid) := by rw [World.cell?, hX]; rfl
  have x2 : w3.cell? ⟨w.heap.size, 2, none⟩ = some (.int .u32 oref) := by rw [World.cell?, hX]; rfl
  have x3 : w3.cell? ⟨w.heap.size, 3, none⟩ = some (.int .i64 omin) := by rw [World.cell?, hX]; rfl
  have x4 : w3.cell? ⟨w.heap.size, 4, none⟩ = some (.int .i64 odel) := by rw [World.cell?, hX]; rfl
  have x5 : w3.cell? ⟨w.heap.size, 5, none⟩ = some (.int .i64 ol0) := by rw [World.cell?, hX]; rfl
  have x6 : w3.cell? ⟨w.heap.size, 6, none⟩ = some (.int .i64 ol1) := by rw [World.cell?, hX]; rfl
  have x7 : w3.cell? ⟨w.heap.size, 7, none⟩ = some (.int .i64 ol2) := by rw [World.cell?, hX]; rfl
  have x8 : w3.cell? ⟨w.heap.size, 8, none⟩ = some (.slice la ln lc) := by rw [World.cell?, hX]; rfl
  have x9 : w3.cell? ⟨w.heap.size, 9, none⟩ = some (.slice va vn vc) := by rw [World.cell?, hX]; rfl
  obtain ⟨b0, b1, -, -⟩ := cell_two hB3.bench
  subst hk
  go_enter Tryd.func9, Tryd.ntmps9
  go_upto_region 3 with fail
  rw [← HW3.out]
  have HX := hide hX
  clear hX
  have hSl := h.at'.store.size
  have HCALL := hide (classify_q' (w := w3.drew) (hB3.at'.below (Below.refl _ _).drew) hr oid oref omin hid)
  have hBl3 : B < w.heap.size + 3 := by omega
  go_upto_region 18 with fail
  refine wp_region_mixT (w.heap.size + 3) [3, 5, 7, 9] (by kernel_rfl) ?_
  refine mixT_slots [0, 1, 2, 4, 6, 8] (fuel := 11) rfl (by kernel_rfl) (by kernel_rfl) (fun d _ _ _ _ h => by cases d <;> exact h) ?_
  simp only [opersAt, List.getElem?_toArray, List.getElem?_cons_zero, List.getElem?_cons_succ]
  repeat (go_big_quiet_step (fail))
  refine wpQuiet_nil ?_
  refine mixT_reads [3, 5, 7, 9] (fuel := 7) rfl (by kernel_rfl) (by decide) (by kernel_rfl) (fun d _ _ _ _ h => by cases d <;> exact h) (ext_drew _ _) ?_
  simp only [opersAt, List.getElem?_toArray, List.getElem?_cons_zero, List.getElem?_cons_succ]
  repeat (go_big_quiet_step (fail))
  refine wpQuiet_nil ?_
  refine mixT_one (k := 10) (by kernel_rfl) rfl ?_
  go_wp2_with (go_at_call 21; refine HCALL.out.mono ?_; rintro e w4 ⟨rfl, hb4⟩)
  skip
  have hb4' : Below (w.heap.size + 3) w3 w4 := ((Below.refl _ _).drew).trans (hb4.mono (by show w.heap.size + 3 ≤ w3.heap.size; omega))
  refine ⟨Or.inr (fun _ => ⟨⟨_, hb4'⟩, rfl⟩), ?_⟩
  have hR5' : w4.heap[w.heap.size + 2]? = _ := (hb4'.block _ (by omega)).trans hR5
  have hR4' : w4.heap[w.heap.size + 1]? = _ := (hb4'.block _ (by omega)).trans hR4
  have hst : (stS 39 (.pointer (some ⟨w.heap.size + 1 + 1, 3, none⟩)) (.agg #[.int .u32 (clsR T oid oref omin).num, .int .u8 (clsR T oid oref omin).cls, .int .i64 (clsR T oid oref omin).opens, .int .i64 (clsR T oid oref omin).closes])).run Tryd.prog w4 = .ok () (w4.setRow (w.heap.size + 2) #[.int .u8 0, .int .i64 0, .slice none 0 0, .int .u32 (clsR T oid oref omin).num, .int .u8 (clsR T oid oref omin).cls, .int .i64 (clsR T oid oref omin).opens, .int .i64 (clsR T oid oref omin).closes, .int .u32 0, .int .i64 0, .slice none 0 0, .int .u32 0, .int .i64 0, .int .i64 0, .int .i64 0, .int .u32 0, .int .u32 0, .int .i64 0]) := by
    rw [stPlacement_eq _ _ _ _ rfl]
    have := cells_at (off := 3) #[.int .u32 (clsR T oid oref omin).num, .int .u8 (clsR T oid oref omin).cls, .int .i64 (clsR T oid oref omin).opens, .int .i64 (clsR T oid oref omin).closes] hR5' (by simp) (by simp [Value.oneCell'])
    exact this
  refine mixT_slots [11, 12, 13, 14] (fuel := 2) rfl (by kernel_rfl) (by kernel_rfl) (fun d _ _ _ _ h => by cases d <;> exact h) ?_
  simp only [opersAt, List.getElem?_toArray, List.getElem?_cons_zero, List.getElem?_cons_succ]
  repeat (go_big_quiet_step (fail))
  refine wpQuiet_nil ?_
  refine mixT_one (k := 15) (by kernel_rfl) rfl ?_
  go_wp2
  refine ⟨Or.inl (by kernel_rfl), ?_⟩
  refine mixT_one (k := 16) (by kernel_rfl) rfl ?_
  go_wp2
  refine ⟨Or.inr (fun h => h), ?_⟩
  refine mixT_nil (by kernel_rfl) ?_
  go_upto_region 50 with fail
  obtain ⟨w5, hw5⟩ : ∃ w5, w5 = w4.setRow (w.heap.size + 2) #[.int .u8 0, .int .i64 0, .slice none 0 0, .int .u32 (clsR T oid oref omin).num, .int .u8 (clsR T oid oref omin).cls, .int .i64 (clsR T oid oref omin).opens, .int .i64 (clsR T oid oref omin).closes, .int .u32 0, .int .i64 0, .slice none 0 0, .int .u32 0, .int .i64 0, .int .i64 0, .int .i64 0, .int .u32 0, .int .u32 0, .int .i64 0] := ⟨_, rfl⟩
  have hR5'' : w5.heap[w.heap.size + 2]? = some (.cells #[.int .u8 0, .int .i64 0, .slice none 0 0, .int .u32 (clsR T oid oref omin).num, .int .u8 (clsR T oid oref omin).cls, .int .i64 (clsR T oid oref omin).opens, .int .i64 (clsR T oid oref omin).closes, .int .u32 0, .int .i64 0, .slice none 0 0, .int .u32 0, .int .i64 0, .int .i64 0, .int .i64 0, .int .u32 0, .int .u32 0, .int .i64 0] 47 (0, 0)) := by rw [hw5]; exact heap_setRow_at hR5'
  have h5o : ∀ b, b ≠ w.heap.size + 2 → w5.heap[b]? = w4.heap[b]? := fun b hb => by rw [hw5]; exact setRow_other _ _ _ _ hb
  have h5s : w5.heap.size = w4.heap.size := by rw [hw5]; simp
  have h5b : ∀ Bb, Bb ≤ w.heap.size → Below Bb w4 w5 := fun Bb hBb => by rw [hw5]; exact below_setRow' _ _ (by omega)
  have hR4'' : w5.heap[w.heap.size + 1]? = _ := (h5o _ (by omega)).trans hR4'
  rw [← hw5]
  clear hw5
  have t0 : w5.cell? ⟨w.heap.size + 1 + 1, 0, none⟩ = some (.int .u8 0) := by rw [World.cell?, show w.heap.size + 1 + 1 = w.heap.size + 2 from rfl, hR5'']; rfl
  have tf : w5.frozen? ⟨w.heap.size + 1 + 1, 0, none⟩ = false := by rw [World.frozen?, show w.heap.size + 1 + 1 = w.heap.size + 2 from rfl, hR5'']; rfl
  go_upto_region 51 with (go_at_call 33; refine (codeOf_any ((clsR T oid oref omin).code) _).mono ?_; rintro e w9 ⟨rfl, rfl⟩)
  obtain ⟨wz, hwz⟩ : ∃ wz, wz = w5.setCell ⟨w.heap.size + 1 + 1, 0, none⟩ (.int .u8 (clsR T oid oref omin).code) := ⟨_, rfl⟩
  have hZ5 : wz.heap[w.heap.size + 2]? = some (.cells #[.int .u8 (clsR T oid oref omin).code, .int .i64 0, .slice none 0 0, .int .u32 (clsR T oid oref omin).num, .int .u8 (clsR T oid oref omin).cls, .int .i64 (clsR T oid oref omin).opens, .int .i64 (clsR T oid oref omin).closes, .int .u32 0, .int .i64 0, .slice none 0 0, .int .u32 0, .int .i64 0, .int .i64 0, .int .i64 0, .int .u32 0, .int .u32 0, .int .i64 0] 47 (0, 0)) := by
    rw [hwz]
    have := heap_setCell_same w5 (w.heap.size + 2) 0 _ _ (.int .u8 (clsR T oid oref omin).code) hR5''
    exact this
  have hZ4 : wz.heap[w.heap.size + 1]? = some (.cells #[.int .u8 0, .int .i64 0, .slice none 0 0, .int .u32 0, .int .u8 0, .int .i64 0, .int .i64 0, .int .u32 0, .int .i64 0, .slice none 0 0, .int .u32 0, .int .i64 0, .int .i64 0, .int .i64 0, .int .u32 0, .int .u32 0, .int .i64 0] 47 (0, 0)) := by rw [hwz, Below.heap_setCell _ _ _ _ (by simp)]; exact hR4''
  have rz : rng wz (w.heap.size + 1 + 1) 0 17 = some #[.int .u8 (clsR T oid oref omin).code, .int .i64 0, .slice none 0 0, .int .u32 (clsR T oid oref omin).num, .int .u8 (clsR T oid oref omin).cls, .int .i64 (clsR T oid oref omin).opens, .int .i64 (clsR T oid oref omin).closes, .int .u32 0, .int .i64 0, .slice none 0 0, .int .u32 0, .int .i64 0, .int .i64 0, .int .i64 0, .int .u32 0, .int .u32 0, .int .i64 0] := rng_whole hZ5
  have hwh := whole_of_heap hZ4
  simp only [List.size_toArray, List.length_cons, List.length_nil] at hwh
  have hzo : ∀ b, b ≠ w.heap.size + 2 → wz.heap[b]? = w5.heap[b]? := fun b hb => by rw [hwz]; exact Below.heap_setCell _ _ _ _ hb
  have hzs : wz.heap.size = w5.heap.size := by rw [hwz]; simp [World.setCell]
  have hzb : ∀ Bb, Bb ≤ w.heap.size → Below Bb w5 wz := fun Bb hBb => by rw [hwz]; exact (Below.refl _ _).setCell (p := ⟨w.heap.size + 1 + 1, 0, none⟩) (by show Bb ≤ w.heap.size + 1 + 1; omega) _
  rw [← hwz]
  clear hwz
  go_wp2
  have hfin := heap_setRow_at (ds := #[.int .u8 (clsR T oid oref omin).code, .int .i64 0, .slice none 0 0, .int .u32 (clsR T oid oref omin).num, .int .u8 (clsR T oid oref omin).cls, .int .i64 (clsR T oid oref omin).opens, .int .i64 (clsR T oid oref omin).closes, .int .u32 0, .int .i64 0, .slice none 0 0, .int .u32 0, .int .i64 0, .int .i64 0, .int .i64 0, .int .u32 0, .int .u32 0, .int .i64 0]) hZ4
  refine bodyPost_ret (results_cell1 Tryd.results9 _ _ (w.heap.size + 1) _ _ _ _ rfl hfin Tryd.underlying47 rfl (by kernel_rfl)) rfl ?_
  have hbw : Below w.heap.size w (wz.setRow (w.heap.size + 1) #[.int .u8 (clsR T oid oref omin).code, .int .i64 0, .slice none 0 0, .int .u32 (clsR T oid oref omin).num, .int .u8 (clsR T oid oref omin).cls, .int .i64 (clsR T oid oref omin).opens, .int .i64 (clsR T oid oref omin).closes, .int .u32 0, .int .i64 0, .slice none 0 0, .int .u32 0, .int .i64 0, .int .i64 0, .int .i64 0, .int .u32 0, .int .u32 0, .int .i64 0]) := (((hb3.drew).trans (hb4.mono (by show w.heap.size ≤ w3.heap.size; omega))).trans (h5b _ (Nat.le_refl _))).trans ((hzb _ (Nat.le_refl _)).trans (below_setRow' _ _ (by omega)))
  exact ⟨rfl, Cmd.of_below h.at' hbw, hbw.block B hBl⟩

set_option maxRecDepth 100000 in
set_option maxHeartbeats 8000000 in
theorem step_7 (w : World) (B P S : Nat) (A : Nat → Prop) (ps : List KV) (full : Bool) (o : Op) (la va : Option Addr) (ln lc vn vc : Nat) (h : BAt w B P S A ps full) (T : Tab) (hr : Rep ps T) (hk : o.kind = 7)  :
    Calls Tryd.prog 9 #[.pointer (some ⟨B, 0, none⟩), .agg (opCs o (.slice la ln lc) (.slice va vn vc))] w fun e w' => ∃ s : SV, StepPost w w' e S B P A ps full { code := (verAtR T o.minute).1, v0 := (verAtR T o.minute).2.1, v1 := (verAtR T o.minute).2.2.1, vis := s } ∧ VisitsAt w' (w.heap.size ≤ ·) (sv s) (verAtR T o.minute).2.2.2 := by
  obtain ⟨w3, HW3, hb3, hs3, hX, hR4, hR5, hB3⟩ := step_start w o la va ln lc vn vc B P S A ps full h
  have hBl : B < w.heap.size := (cell_two h.bench).2.2.2
  obtain ⟨okind, oid, oref, omin, odel, ol0, ol1, ol2, olist, ovis⟩ := o
  simp only at hk
  simp only [opCs, ansCs, sv] at hX HW3 hR4 hR5 ⊢
  have x0 : w3.cell? ⟨w.heap.size, 0, none⟩ = some (.int .u8 okind) := by rw [World.cell?, hX]; rfl
  have x1 : w3.cell? ⟨w.heap.size, 1, none⟩ = some (.int .u32 oid) := by rw [World.cell?, hX]; rfl
  have x2 : w3.cell? ⟨w.heap.size, 2, none⟩ = some (.int .u32 oref) := by rw [World.cell?, hX]; rfl
  have x3 : w3.cell? ⟨w.heap.size, 3, none⟩ = some (.int .i64 omin) := by rw [World.cell?, hX]; rfl
  have x4 : w3.cell? ⟨w.heap.size, 4, none⟩ = some (.int .i64 odel) := by rw [World.cell?, hX]; rfl
  have x5 : w3.cell? ⟨w.heap.size, 5, none⟩ = some (.int .i64 ol0) := by rw [World.cell?, hX]; rfl
  have x6 : w3.cell? ⟨w.heap.size, 6, none⟩ = some (.int .i64 ol1) := by rw [World.cell?, hX]; rfl
  have x7 : w3.cell? ⟨w.heap.size, 7, none⟩ = some (.int .i64 ol2) := by rw [World.cell?, hX]; rfl
  have x8 : w3.cell? ⟨w.heap.size, 8, none⟩ = some (.slice la ln lc) := by rw [World.cell?, hX]; rfl
  have x9 : w3.cell? ⟨w.heap.size, 9, none⟩ = some (.slice va vn vc) := by rw [World.cell?, hX]; rfl
  obtain ⟨b0, b1, -, -⟩ := cell_two hB3.bench
  subst hk
  go_enter Tryd.func9, Tryd.ntmps9
  go_upto_region 3 with fail
  rw [← HW3.out]
  have HX := hide hX
  clear hX
  have hSl := h.at'.store.size
  have HCALL := hide (versionAt_q (w := w3.drew) (hB3.at'.below (Below.refl _ _).drew) hr omin)
  have hBl3 : B < w.heap.size + 3 := by omega
  go_upto_region 20 with fail
  refine wp_region_mixT (w.heap.size + 3) [3, 5] (by kernel_rfl) ?_
  refine mixT_slots [0, 1, 2, 4] (fuel := 9) rfl (by kernel_rfl) (by kernel_rfl) (fun d _ _ _ _ h => by cases d <;> exact h) ?_
  simp only [opersAt, List.getElem?_toArray, List.getElem?_cons_zero, List.getElem?_cons_succ]
  repeat (go_big_quiet_step (fail))
  refine wpQuiet_nil ?_
  refine mixT_reads [3, 5] (fuel := 7) rfl (by kernel_rfl) (by decide) (by kernel_rfl) (fun d _ _ _ _ h => by cases d <;> exact h) (ext_drew _ _) ?_
  simp only [opersAt, List.getElem?_toArray, List.getElem?_cons_zero, List.getElem?_cons_succ]
  repeat (go_big_quiet_step (fail))
  refine wpQuiet_nil ?_
  refine mixT_one (k := 6) (by kernel_rfl) rfl ?_
  go_wp2_with (go_at_call 22; refine HCALL.out.mono ?_; rintro e w4 ⟨jv, rfl, hvis, hb4⟩)
  obtain ⟨ja, jc, hjv⟩ := hvis.form
  obtain ⟨jn, hjn⟩ : ∃ jn, jn = (verAtR T omin).2.2.2.length := ⟨_, rfl⟩
  rw [← hjn] at hjv
  clear hjn
  subst hjv
  have hb4' : Below (w.heap.size + 3) w3 w4 := ((Below.refl _ _).drew).trans (hb4.mono (by show w.heap.size + 3 ≤ w3.heap.size; omega))
  refine ⟨Or.inr (fun _ => ⟨⟨_, hb4'⟩, rfl⟩), ?_⟩
  have hR5' : w4.heap[w.heap.size + 2]? = _ := (hb4'.block _ (by omega)).trans hR5
  have hR4' : w4.heap[w.heap.size + 1]? = _ := (hb4'.block _ (by omega)).trans hR4
  have hst : (stS 41 (.pointer (some ⟨w.heap.size + 1 + 1, 7, none⟩)) (.agg #[.int .u32 (verAtR T omin).2.1, .int .i64 (verAtR T omin).2.2.1, .slice ja jn jc])).run Tryd.prog w4 = .ok () (w4.setRow (w.heap.size + 2) #[.int .u8 0, .int .i64 0, .slice none 0 0, .int .u32 0, .int .u8 0, .int .i64 0, .int .i64 0, .int .u32 (verAtR T omin).2.1, .int .i64 (verAtR T omin).2.2.1, .slice ja jn jc, .int .u32 0, .int .i64 0, .int .i64 0, .int .i64 0, .int .u32 0, .int .u32 0, .int .i64 0]) := by
    rw [stVersion_eq _ _ _ _ rfl]
    have := cells_at (off := 7) #[.int .u32 (verAtR T omin).2.1, .int .i64 (verAtR T omin).2.2.1, .slice ja jn jc] hR5' (by simp) (by simp [Value.oneCell'])
    exact this
  refine mixT_slots [7, 8, 9, 10] (fuel := 2) rfl (by kernel_rfl) (by kernel_rfl) (fun d _ _ _ _ h => by cases d <;> exact h) ?_
  simp only [opersAt, List.getElem?_toArray, List.getElem?_cons_zero, List.getElem?_cons_succ]
  repeat (go_big_quiet_step (fail))
  refine wpQuiet_nil ?_
  refine mixT_one (k := 11) (by kernel_rfl) rfl ?_
  go_wp2
  refine ⟨Or.inl (by kernel_rfl), ?_⟩
  refine mixT_one (k := 12) (by kernel_rfl) rfl ?_
  go_wp2
  refine ⟨Or.inr (fun h => h), ?_⟩
  refine mixT_nil (by kernel_rfl) ?_
  go_upto_region 50 with fail
  obtain ⟨w5, hw5⟩ : ∃ w5, w5 = w4.setRow (w.heap.size + 2) #[.int .u8 0, .int .i64 0, .slice none 0 0, .int .u32 0, .int .u8 0, .int .i64 0, .int .i64 0, .int .u32 (verAtR T omin).2.1, .int .i64 (verAtR T omin).2.2.1, .slice ja jn jc, .int .u32 0, .int .i64 0, .int .i64 0, .int .i64 0, .int .u32 0, .int .u32 0, .int .i64 0] := ⟨_, rfl⟩
  have hR5'' : w5.heap[w.heap.size + 2]? = some (.cells #[.int .u8 0, .int .i64 0, .slice none 0 0, .int .u32 0, .int .u8 0, .int .i64 0, .int .i64 0, .int .u32 (verAtR T omin).2.1, .int .i64 (verAtR T omin).2.2.1, .slice ja jn jc, .int .u32 0, .int .i64 0, .int .i64 0, .int .i64 0, .int .u32 0, .int .u32 0, .int .i64 0] 47 (0, 0)) := by rw [hw5]; exact heap_setRow_at hR5'
  have h5o : ∀ b, b ≠ w.heap.size + 2 → w5.heap[b]? = w4.heap[b]? := fun b hb => by rw [hw5]; exact setRow_other _ _ _ _ hb
  have h5s : w5.heap.size = w4.heap.size := by rw [hw5]; simp
  have h5b : ∀ Bb, Bb ≤ w.heap.size → Below Bb w4 w5 := fun Bb hBb => by rw [hw5]; exact below_setRow' _ _ (by omega)
  have hR4'' : w5.heap[w.heap.size + 1]? = _ := (h5o _ (by omega)).trans hR4'
  rw [← hw5]
  clear hw5
  have t0 : w5.cell? ⟨w.heap.size + 1 + 1, 0, none⟩ = some (.int .u8 0) := by rw [World.cell?, show w.heap.size + 1 + 1 = w.heap.size + 2 from rfl, hR5'']; rfl
  have tf : w5.frozen? ⟨w.heap.size + 1 + 1, 0, none⟩ = false := by rw [World.frozen?, show w.heap.size + 1 + 1 = w.heap.size + 2 from rfl, hR5'']; rfl
  go_upto_region 51 with (go_at_call 33; refine (codeOf_any ((verAtR T omin).1) _).mono ?_; rintro e w9 ⟨rfl, rfl⟩)
  obtain ⟨wz, hwz⟩ : ∃ wz, wz = w5.setCell ⟨w.heap.size + 1 + 1, 0, none⟩ (.int .u8 (verAtR T omin).1) := ⟨_, rfl⟩
  have hZ5 : wz.heap[w.heap.size + 2]? = some (.cells #[.int .u8 (verAtR T omin).1, .int .i64 0, .slice none 0 0, .int .u32 0, .int .u8 0, .int .i64 0, .int .i64 0, .int .u32 (verAtR T omin).2.1, .int .i64 (verAtR T omin).2.2.1, .slice ja jn jc, .int .u32 0, .int .i64 0, .int .i64 0, .int .i64 0, .int .u32 0, .int .u32 0, .int .i64 0] 47 (0, 0)) := by
    rw [hwz]
    have := heap_setCell_same w5 (w.heap.size + 2) 0 _ _ (.int .u8 (verAtR T omin).1) hR5''
    exact this
  have hZ4 : wz.heap[w.heap.size + 1]? = some (.cells #[.int .u8 0, .int .i64 0, .slice none 0 0, .int .u32 0, .int .u8 0, .int .i64 0, .int .i64 0, .int .u32 0, .int .i64 0, .slice none 0 0, .int .u32 0, .int .i64 0, .int .i64 0, .int .i64 0, .int .u32 0, .int .u32 0, .int .i64 0] 47 (0, 0)) := by rw [hwz, Below.heap_setCell _ _ _ _ (by simp)]; exact hR4''
  have rz : rng wz (w.heap.size + 1 + 1) 0 17 = some #[.int .u8 (verAtR T omin).1, .int .i64 0, .slice none 0 0, .int .u32 0, .int .u8 0, .int .i64 0, .int .i64 0, .int .u32 (verAtR T omin).2.1, .int .i64 (verAtR T omin).2.2.1, .slice ja jn jc, .int .u32 0, .int .i64 0, .int .i64 0, .int .i64 0, .int .u32 0, .int .u32 0, .int .i64 0] := rng_whole hZ5
  have hwh := whole_of_heap hZ4
  simp only [List.size_toArray, List.length_cons, List.length_nil] at hwh
  have hzo : ∀ b, b ≠ w.heap.size + 2 → wz.heap[b]? = w5.heap[b]? := fun b hb => by rw [hwz]; exact Below.heap_setCell _ _ _ _ hb
  have hzs : wz.heap.size = w5.heap.size := by rw [hwz]; simp [World.setCell]
  have hzb : ∀ Bb, Bb ≤ w.heap.size → Below Bb w5 wz := fun Bb hBb => by rw [hwz]; exact (Below.refl _ _).setCell (p := ⟨w.heap.size + 1 + 1, 0, none⟩) (by show Bb ≤ w.heap.size + 1 + 1; omega) _
  rw [← hwz]
  clear hwz
  go_wp2
  have hfin := heap_setRow_at (ds := #[.int .u8 (verAtR T omin).1, .int .i64 0, .slice none 0 0, .int .u32 0, .int .u8 0, .int .i64 0, .int .i64 0, .int .u32 (verAtR T omin).2.1, .int .i64 (verAtR T omin).2.2.1, .slice ja jn jc, .int .u32 0, .int .i64 0, .int .i64 0, .int .i64 0, .int .u32 0, .int .u32 0, .int .i64 0]) hZ4
  refine bodyPost_ret (results_cell1 Tryd.results9 _ _ (w.heap.size + 1) _ _ _ _ rfl hfin Tryd.underlying47 rfl (by kernel_rfl)) rfl ?_
  have hbw : Below w.heap.size w (wz.setRow (w.heap.size + 1) #[.int .u8 (verAtR T omin).1, .int .i64 0, .slice none 0 0, .int .u32 0, .int .u8 0, .int .i64 0, .int .i64 0, .int .u32 (verAtR T omin).2.1, .int .i64 (verAtR T omin).2.2.1, .slice ja jn jc, .int .u32 0, .int .i64 0, .int .i64 0, .int .i64 0, .int .u32 0, .int .u32 0, .int .i64 0]) := (((hb3.drew).trans (hb4.mono (by show w.heap.size ≤ w3.heap.size; omega))).trans (h5b _ (Nat.le_refl _))).trans ((hzb _ (Nat.le_refl _)).trans (below_setRow' _ _ (by omega)))
  have hup : ∀ b, w.heap.size + 3 ≤ b → (wz.setRow (w.heap.size + 1) #[.int .u8 (verAtR T omin).1, .int .i64 0, .slice none 0 0, .int .u32 0, .int .u8 0, .int .i64 0, .int .i64 0, .int .u32 (verAtR T omin).2.1, .int .i64 (verAtR T omin).2.2.1, .slice ja jn jc, .int .u32 0, .int .i64 0, .int .i64 0, .int .i64 0, .int .u32 0, .int .u32 0, .int .i64 0]).heap[b]? = w4.heap[b]? := fun b hb => (setRow_other _ _ _ _ (by omega)).trans ((hzo b (by omega)).trans (h5o b (by omega)))
  exact ⟨(ja, jn, jc), ⟨rfl, Cmd.of_below h.at' hbw, hbw.block B hBl⟩, hvis.mono (fun b hb => hup b (by have h9 : w3.heap.size ≤ b := hb; omega)) (fun b hb => by have h9 : w3.heap.size ≤ b := hb; show w.heap.size ≤ b; omega)⟩

set_option maxRecDepth 100000 in
set_option maxHeartbeats 8000000 in
theorem step_8 (w : World) (B P S : Nat) (A : Nat → Prop) (ps : List KV) (full : Bool) (o : Op) (la va : Option Addr) (ln lc vn vc : Nat) (h : BAt w B P S A ps full) (T : Tab) (hr : Rep ps T) (hk : o.kind = 8) (hid : U32 o.id) :
    Calls Tryd.prog 9 #[.pointer (some ⟨B, 0, none⟩), .agg (opCs o (.slice la ln lc) (.slice va vn vc))] w fun e w' => ∃ s : SV, StepPost w w' e S B P A ps full { code := (verR T o.id).1, v0 := (verR T o.id).2.1, v1 := (verR T o.id).2.2.1, vis := s } ∧ VisitsAt w' (w.heap.size ≤ ·) (sv s) (verR T o.id).2.2.2 := by
  obtain ⟨w3, HW3, hb3, hs3, hX, hR4, hR5, hB3⟩ := step_start w o la va ln lc vn vc B P S A ps full h
  have hBl : B < w.heap.size := (cell_two h.bench).2.2.2
  obtain ⟨okind, oid, oref, omin, odel, ol0, ol1, ol2, olist, ovis⟩ := o
  simp only at hk
  simp only [opCs, ansCs, sv] at hX HW3 hR4 hR5 ⊢
  have x0 : w3.cell? ⟨w.heap.size, 0, none⟩ = some (.int .u8 okind) := by rw [World.cell?, hX]; rfl
  have x1 : w3.cell? ⟨w.heap.size, 1, none⟩ = some (.int .u32 oid) := by rw [World.cell?, hX]; rfl
  have x2 : w3.cell? ⟨w.heap.size, 2, none⟩ = some (.int .u32 oref) := by rw [World.cell?, hX]; rfl
  have x3 : w3.cell? ⟨w.heap.size, 3, none⟩ = some (.int .i64 omin) := by rw [World.cell?, hX]; rfl
  have x4 : w3.cell? ⟨w.heap.size, 4, none⟩ = some (.int .i64 odel) := by rw [World.cell?, hX]; rfl
  have x5 : w3.cell? ⟨w.heap.size, 5, none⟩ = some (.int .i64 ol0) := by rw [World.cell?, hX]; rfl
  have x6 : w3.cell? ⟨w.heap.size, 6, none⟩ = some (.int .i64 ol1) := by rw [World.cell?, hX]; rfl
  have x7 : w3.cell? ⟨w.heap.size, 7, none⟩ = some (.int .i64 ol2) := by rw [World.cell?, hX]; rfl
  have x8 : w3.cell? ⟨w.heap.size, 8, none⟩ = some (.slice la ln lc) := by rw [World.cell?, hX]; rfl
  have x9 : w3.cell? ⟨w.heap.size, 9, none⟩ = some (.slice va vn vc) := by rw [World.cell?, hX]; rfl
  obtain ⟨b0, b1, -, -⟩ := cell_two hB3.bench
  subst hk
  go_enter Tryd.func9, Tryd.ntmps9
  go_upto_region 3 with fail
  rw [← HW3.out]
  have HX := hide hX
  clear hX
  have hSl := h.at'.store.size
  have HCALL := hide (version_q (w := w3.drew) (hB3.at'.below (Below.refl _ _).drew) hr oid hid)
  have hBl3 : B < w.heap.size + 3 := by omega
  go_upto_region 22 with fail
  refine wp_region_mixT (w.heap.size + 3) [3, 5] (by kernel_rfl) ?_
  refine mixT_slots [0, 1, 2, 4] (fuel := 9) rfl (by kernel_rfl) (by kernel_rfl) (fun d _ _ _ _ h => by cases d <;> exact h) ?_
  simp only [opersAt, List.getElem?_toArray, List.getElem?_cons_zero, List.getElem?_cons_succ]
  repeat (go_big_quiet_step (fail))
  refine wpQuiet_nil ?_
  refine mixT_reads [3, 5] (fuel := 7) rfl (by kernel_rfl) (by decide) (by kernel_rfl) (fun d _ _ _ _ h => by cases d <;> exact h) (ext_drew _ _) ?_
  simp only [opersAt, List.getElem?_toArray, List.getElem?_cons_zero, List.getElem?_cons_succ]
  repeat (go_big_quiet_step (fail))
  refine wpQuiet_nil ?_
  refine mixT_one (k := 6) (by kernel_rfl) rfl ?_
  go_wp2_with (go_at_call 23; refine HCALL.out.mono ?_; rintro e w4 ⟨jv, rfl, hvis, hb4⟩)
  obtain ⟨ja, jc, hjv⟩ := hvis.form
  obtain ⟨jn, hjn⟩ : ∃ jn, jn = (verR T oid).2.2.2.length := ⟨_, rfl⟩
  rw [← hjn] at hjv
  clear hjn
  subst hjv
  have hb4' : Below (w.heap.size + 3) w3 w4 := ((Below.refl _ _).drew).trans (hb4.mono (by show w.heap.size + 3 ≤ w3.heap.size; omega))
  refine ⟨Or.inr (fun _ => ⟨⟨_, hb4'⟩, rfl⟩), ?_⟩
  have hR5' : w4.heap[w.heap.size + 2]? = _ := (hb4'.block _ (by omega)).trans hR5
  have hR4' : w4.heap[w.heap.size + 1]? = _ := (hb4'.block _ (by omega)).trans hR4
  have hst : (stS 41 (.pointer (some ⟨w.heap.size + 1 + 1, 7, none⟩)) (.agg #[.int .u32 (verR T oid).2.1, .int .i64 (verR T oid).2.2.1, .slice ja jn jc])).run Tryd.prog w4 = .ok () (w4.setRow (w.heap.size + 2) #[.int .u8 0, .int .i64 0, .slice none 0 0, .int .u32 0, .int .u8 0, .int .i64 0, .int .i64 0, .int .u32 (verR T oid).2.1, .int .i64 (verR T oid).2.2.1, .slice ja jn jc, .int .u32 0, .int .i64 0, .int .i64 0, .int .i64 0, .int .u32 0, .int .u32 0, .int .i64 0]) := by
    rw [stVersion_eq _ _ _ _ rfl]
    have := cells_at (off := 7) #[.int .u32 (verR T oid).2.1, .int .i64 (verR T oid).2.2.1, .slice ja jn jc] hR5' (by simp) (by simp [Value.oneCell'])
    exact this
  refine mixT_slots [7, 8, 9, 10] (fuel := 2) rfl (by kernel_rfl) (by kernel_rfl) (fun d _ _ _ _ h => by cases d <;> exact h) ?_
  simp only [opersAt, List.getElem?_toArray, List.getElem?_cons_zero, List.getElem?_cons_succ]
  repeat (go_big_quiet_step (fail))
  refine wpQuiet_nil ?_
  refine mixT_one (k := 11) (by kernel_rfl) rfl ?_
  go_wp2
  refine ⟨Or.inl (by kernel_rfl), ?_⟩
  refine mixT_one (k := 12) (by kernel_rfl) rfl ?_
  go_wp2
  refine ⟨Or.inr (fun h => h), ?_⟩
  refine mixT_nil (by kernel_rfl) ?_
  go_upto_region 50 with fail
  obtain ⟨w5, hw5⟩ : ∃ w5, w5 = w4.setRow (w.heap.size + 2) #[.int .u8 0, .int .i64 0, .slice none 0 0, .int .u32 0, .int .u8 0, .int .i64 0, .int .i64 0, .int .u32 (verR T oid).2.1, .int .i64 (verR T oid).2.2.1, .slice ja jn jc, .int .u32 0, .int .i64 0, .int .i64 0, .int .i64 0, .int .u32 0, .int .u32 0, .int .i64 0] := ⟨_, rfl⟩
  have hR5'' : w5.heap[w.heap.size + 2]? = some (.cells #[.int .u8 0, .int .i64 0, .slice none 0 0, .int .u32 0, .int .u8 0, .int .i64 0, .int .i64 0, .int .u32 (verR T oid).2.1, .int .i64 (verR T oid).2.2.1, .slice ja jn jc, .int .u32 0, .int .i64 0, .int .i64 0, .int .i64 0, .int .u32 0, .int .u32 0, .int .i64 0] 47 (0, 0)) := by rw [hw5]; exact heap_setRow_at hR5'
  have h5o : ∀ b, b ≠ w.heap.size + 2 → w5.heap[b]? = w4.heap[b]? := fun b hb => by rw [hw5]; exact setRow_other _ _ _ _ hb
  have h5s : w5.heap.size = w4.heap.size := by rw [hw5]; simp
  have h5b : ∀ Bb, Bb ≤ w.heap.size → Below Bb w4 w5 := fun Bb hBb => by rw [hw5]; exact below_setRow' _ _ (by omega)
  have hR4'' : w5.heap[w.heap.size + 1]? = _ := (h5o _ (by omega)).trans hR4'
  rw [← hw5]
  clear hw5
  have t0 : w5.cell? ⟨w.heap.size + 1 + 1, 0, none⟩ = some (.int .u8 0) := by rw [World.cell?, show w.heap.size + 1 + 1 = w.heap.size + 2 from rfl, hR5'']; rfl
  have tf : w5.frozen? ⟨w.heap.size + 1 + 1, 0, none⟩ = false := by rw [World.frozen?, show w.heap.size + 1 + 1 = w.heap.size + 2 from rfl, hR5'']; rfl
  go_upto_region 51 with (go_at_call 33; refine (codeOf_any ((verR T oid).1) _).mono ?_; rintro e w9 ⟨rfl, rfl⟩)
  obtain ⟨wz, hwz⟩ : ∃ wz, wz = w5.setCell ⟨w.heap.size + 1 + 1, 0, none⟩ (.int .u8 (verR T oid).1) := ⟨_, rfl⟩
  have hZ5 : wz.heap[w.heap.size + 2]? = some (.cells #[.int .u8 (verR T oid).1, .int .i64 0, .slice none 0 0, .int .u32 0, .int .u8 0, .int .i64 0, .int .i64 0, .int .u32 (verR T oid).2.1, .int .i64 (verR T oid).2.2.1, .slice ja jn jc, .int .u32 0, .int .i64 0, .int .i64 0, .int .i64 0, .int .u32 0, .int .u32 0, .int .i64 0] 47 (0, 0)) := by
    rw [hwz]
    have := heap_setCell_same w5 (w.heap.size + 2) 0 _ _ (.int .u8 (verR T oid).1) hR5''
    exact this
  have hZ4 : wz.heap[w.heap.size + 1]? = some (.cells #[.int .u8 0, .int .i64 0, .slice none 0 0, .int .u32 0, .int .u8 0, .int .i64 0, .int .i64 0, .int .u32 0, .int .i64 0, .slice none 0 0, .int .u32 0, .int .i64 0, .int .i64 0, .int .i64 0, .int .u32 0, .int .u32 0, .int .i64 0] 47 (0, 0)) := by rw [hwz, Below.heap_setCell _ _ _ _ (by simp)]; exact hR4''
  have rz : rng wz (w.heap.size + 1 + 1) 0 17 = some #[.int .u8 (verR T oid).1, .int .i64 0, .slice none 0 0, .int .u32 0, .int .u8 0, .int .i64 0, .int .i64 0, .int .u32 (verR T oid).2.1, .int .i64 (verR T oid).2.2.1, .slice ja jn jc, .int .u32 0, .int .i64 0, .int .i64 0, .int .i64 0, .int .u32 0, .int .u32 0, .int .i64 0] := rng_whole hZ5
  have hwh := whole_of_heap hZ4
  simp only [List.size_toArray, List.length_cons, List.length_nil] at hwh
  have hzo : ∀ b, b ≠ w.heap.size + 2 → wz.heap[b]? = w5.heap[b]? := fun b hb => by rw [hwz]; exact Below.heap_setCell _ _ _ _ hb
  have hzs : wz.heap.size = w5.heap.size := by rw [hwz]; simp [World.setCell]
  have hzb : ∀ Bb, Bb ≤ w.heap.size → Below Bb w5 wz := fun Bb hBb => by rw [hwz]; exact (Below.refl _ _).setCell (p := ⟨w.heap.size + 1 + 1, 0, none⟩) (by show Bb ≤ w.heap.size + 1 + 1; omega) _
  rw [← hwz]
  clear hwz
  go_wp2
  have hfin := heap_setRow_at (ds := #[.int .u8 (verR T oid).1, .int .i64 0, .slice none 0 0, .int .u32 0, .int .u8 0, .int .i64 0, .int .i64 0, .int .u32 (verR T oid).2.1, .int .i64 (verR T oid).2.2.1, .slice ja jn jc, .int .u32 0, .int .i64 0, .int .i64 0, .int .i64 0, .int .u32 0, .int .u32 0, .int .i64 0]) hZ4
  refine bodyPost_ret (results_cell1 Tryd.results9 _ _ (w.heap.size + 1) _ _ _ _ rfl hfin Tryd.underlying47 rfl (by kernel_rfl)) rfl ?_
  have hbw : Below w.heap.size w (wz.setRow (w.heap.size + 1) #[.int .u8 (verR T oid).1, .int .i64 0, .slice none 0 0, .int .u32 0, .int .u8 0, .int .i64 0, .int .i64 0, .int .u32 (verR T oid).2.1, .int .i64 (verR T oid).2.2.1, .slice ja jn jc, .int .u32 0, .int .i64 0, .int .i64 0, .int .i64 0, .int .u32 0, .int .u32 0, .int .i64 0]) := (((hb3.drew).trans (hb4.mono (by show w.heap.size ≤ w3.heap.size; omega))).trans (h5b _ (Nat.le_refl _))).trans ((hzb _ (Nat.le_refl _)).trans (below_setRow' _ _ (by omega)))
  have hup : ∀ b, w.heap.size + 3 ≤ b → (wz.setRow (w.heap.size + 1) #[.int .u8 (verR T oid).1, .int .i64 0, .slice none 0 0, .int .u32 0, .int .u8 0, .int .i64 0, .int .i64 0, .int .u32 (verR T oid).2.1, .int .i64 (verR T oid).2.2.1, .slice ja jn jc, .int .u32 0, .int .i64 0, .int .i64 0, .int .i64 0, .int .u32 0, .int .u32 0, .int .i64 0]).heap[b]? = w4.heap[b]? := fun b hb => (setRow_other _ _ _ _ (by omega)).trans ((hzo b (by omega)).trans (h5o b (by omega)))
  exact ⟨(ja, jn, jc), ⟨rfl, Cmd.of_below h.at' hbw, hbw.block B hBl⟩, hvis.mono (fun b hb => hup b (by have h9 : w3.heap.size ≤ b := hb; omega)) (fun b hb => by have h9 : w3.heap.size ≤ b := hb; show w.heap.size ≤ b; omega)⟩

set_option maxRecDepth 100000 in
set_option maxHeartbeats 8000000 in
theorem step_13 (w : World) (B P S : Nat) (A : Nat → Prop) (ps : List KV) (full : Bool) (o : Op) (la va : Option Addr) (ln lc vn vc : Nat) (h : BAt w B P S A ps full) (T : Tab) (hr : Rep ps T) (hk : o.kind = 13)  :
    Calls Tryd.prog 9 #[.pointer (some ⟨B, 0, none⟩), .agg (opCs o (.slice la ln lc) (.slice va vn vc))] w fun e w' => ∃ s : SV, StepPost w w' e S B P A ps full { code := (tsR T o.ref o.minute).1, list := s } ∧ U32sAt w' (w.heap.size ≤ ·) (sv s) ((tsR T o.ref o.minute).2) := by
  obtain ⟨w3, HW3, hb3, hs3, hX, hR4, hR5, hB3⟩ := step_start w o la va ln lc vn vc B P S A ps full h
  have hBl : B < w.heap.size := (cell_two h.bench).2.2.2
  obtain ⟨okind, oid, oref, omin, odel, ol0, ol1, ol2, olist, ovis⟩ := o
  simp only at hk
  simp only [opCs, ansCs, sv] at hX HW3 hR4 hR5 ⊢
  have x0 : w3.cell? ⟨w.heap.size, 0, none⟩ = some (.int .u8 okind) := by rw [World.cell?, hX]; rfl
  have x1 : w3.cell? ⟨w.heap.size, 1, none⟩ = some (.int .u32 oid) := by rw [World.cell?, hX]; rfl
  have x2 : w3.cell? ⟨w.heap.size, 2, none⟩ = some (.int .u32 oref) := by rw [World.cell?, hX]; rfl
  have x3 : w3.cell? ⟨w.heap.size, 3, none⟩ = some (.int .i64 omin) := by rw [World.cell?, hX]; rfl
  have x4 : w3.cell? ⟨w.heap.size, 4, none⟩ = some (.int .i64 odel) := by rw [World.cell?, hX]; rfl
  have x5 : w3.cell? ⟨w.heap.size, 5, none⟩ = some (.int .i64 ol0) := by rw [World.cell?, hX]; rfl
  have x6 : w3.cell? ⟨w.heap.size, 6, none⟩ = some (.int .i64 ol1) := by rw [World.cell?, hX]; rfl
  have x7 : w3.cell? ⟨w.heap.size, 7, none⟩ = some (.int .i64 ol2) := by rw [World.cell?, hX]; rfl
  have x8 : w3.cell? ⟨w.heap.size, 8, none⟩ = some (.slice la ln lc) := by rw [World.cell?, hX]; rfl
  have x9 : w3.cell? ⟨w.heap.size, 9, none⟩ = some (.slice va vn vc) := by rw [World.cell?, hX]; rfl
  obtain ⟨b0, b1, -, -⟩ := cell_two hB3.bench
  subst hk
  go_enter Tryd.func9, Tryd.ntmps9
  go_upto_region 3 with fail
  rw [← HW3.out]
  have HX := hide hX
  clear hX
  have hSl := h.at'.store.size
  have HCALL := hide (tests_q' (w := w3.drew) (hB3.at'.below (Below.refl _ _).drew) hr oref omin)
  have hBl3 : B < w.heap.size + 3 := by omega
  go_upto_region 37 with fail
  refine wp_region_mixT (w.heap.size + 3) [3, 5, 7] (by kernel_rfl) ?_
  refine mixT_slots [0, 1, 2, 4, 6] (fuel := 10) rfl (by kernel_rfl) (by kernel_rfl) (fun d _ _ _ _ h => by cases d <;> exact h) ?_
  simp only [opersAt, List.getElem?_toArray, List.getElem?_cons_zero, List.getElem?_cons_succ]
  repeat (go_big_quiet_step (fail))
  refine wpQuiet_nil ?_
  refine mixT_reads [3, 5, 7] (fuel := 7) rfl (by kernel_rfl) (by decide) (by kernel_rfl) (fun d _ _ _ _ h => by cases d <;> exact h) (ext_drew _ _) ?_
  simp only [opersAt, List.getElem?_toArray, List.getElem?_cons_zero, List.getElem?_cons_succ]
  repeat (go_big_quiet_step (fail))
  refine wpQuiet_nil ?_
  refine mixT_one (k := 8) (by kernel_rfl) rfl ?_
  go_wp2_with (go_at_call 28; refine HCALL.out.mono ?_; rintro e w4 ⟨jv, rfl, hvis, hb4⟩)
  obtain ⟨ja, jc, hjv⟩ := hvis.form
  obtain ⟨jn, hjn⟩ : ∃ jn, jn = ((tsR T oref omin).2).length := ⟨_, rfl⟩
  rw [← hjn] at hjv
  clear hjn
  subst hjv
  have hb4' : Below (w.heap.size + 3) w3 w4 := ((Below.refl _ _).drew).trans (hb4.mono (by show w.heap.size + 3 ≤ w3.heap.size; omega))
  refine ⟨Or.inr (fun _ => ⟨⟨_, hb4'⟩, rfl⟩), ?_⟩
  have hR5' : w4.heap[w.heap.size + 2]? = _ := (hb4'.block _ (by omega)).trans hR5
  have hR4' : w4.heap[w.heap.size + 1]? = _ := (hb4'.block _ (by omega)).trans hR4
  have hq0 : w4.cell? ⟨w.heap.size + 1 + 1, 2, none⟩ = some (.slice none 0 0) := by rw [World.cell?, show w.heap.size + 1 + 1 = w.heap.size + 2 from rfl, hR5']; rfl
  have hqf : w4.frozen? ⟨w.heap.size + 1 + 1, 2, none⟩ = false := by rw [World.frozen?, show w.heap.size + 1 + 1 = w.heap.size + 2 from rfl, hR5']; rfl
  refine mixT_slots [9, 10, 11, 12] (fuel := 2) rfl (by kernel_rfl) (by kernel_rfl) (fun d _ _ _ _ h => by cases d <;> exact h) ?_
  simp only [opersAt, List.getElem?_toArray, List.getElem?_cons_zero, List.getElem?_cons_succ]
  repeat (go_big_quiet_step (fail))
  refine wpQuiet_nil ?_
  refine mixT_one (k := 13) (by kernel_rfl) rfl ?_
  go_wp2
  refine ⟨Or.inl (by kernel_rfl), ?_⟩
  refine mixT_one (k := 14) (by kernel_rfl) rfl ?_
  go_wp2
  refine ⟨Or.inr (fun h => h), ?_⟩
  refine mixT_nil (by kernel_rfl) ?_
  go_upto_region 50 with fail
  obtain ⟨w5, hw5⟩ : ∃ w5, w5 = w4.setCell ⟨w.heap.size + 1 + 1, 2, none⟩ (.slice ja jn jc) := ⟨_, rfl⟩
  have hR5'' : w5.heap[w.heap.size + 2]? = some (.cells #[.int .u8 0, .int .i64 0, .slice ja jn jc, .int .u32 0, .int .u8 0, .int .i64 0, .int .i64 0, .int .u32 0, .int .i64 0, .slice none 0 0, .int .u32 0, .int .i64 0, .int .i64 0, .int .i64 0, .int .u32 0, .int .u32 0, .int .i64 0] 47 (0, 0)) := by rw [hw5]; exact heap_setCell_same w4 (w.heap.size + 2) 2 _ _ (.slice ja jn jc) hR5'
  have h5o : ∀ b, b ≠ w.heap.size + 2 → w5.heap[b]? = w4.heap[b]? := fun b hb => by rw [hw5]; exact Below.heap_setCell _ _ _ _ hb
  have h5s : w5.heap.size = w4.heap.size := by rw [hw5]; simp [World.setCell]
  have h5b : ∀ Bb, Bb ≤ w.heap.size → Below Bb w4 w5 := fun Bb hBb => by rw [hw5]; exact (Below.refl _ _).setCell (p := ⟨w.heap.size + 1 + 1, 2, none⟩) (by show Bb ≤ w.heap.size + 1 + 1; omega) _
  have hR4'' : w5.heap[w.heap.size + 1]? = _ := (h5o _ (by omega)).trans hR4'
  rw [← hw5]
  clear hw5
  have t0 : w5.cell? ⟨w.heap.size + 1 + 1, 0, none⟩ = some (.int .u8 0) := by rw [World.cell?, show w.heap.size + 1 + 1 = w.heap.size + 2 from rfl, hR5'']; rfl
  have tf : w5.frozen? ⟨w.heap.size + 1 + 1, 0, none⟩ = false := by rw [World.frozen?, show w.heap.size + 1 + 1 = w.heap.size + 2 from rfl, hR5'']; rfl
  go_upto_region 51 with (go_at_call 33; refine (codeOf_any ((tsR T oref omin).1) _).mono ?_; rintro e w9 ⟨rfl, rfl⟩)
  obtain ⟨wz, hwz⟩ : ∃ wz, wz = w5.setCell ⟨w.heap.size + 1 + 1, 0, none⟩ (.int .u8 (tsR T oref omin).1) := ⟨_, rfl⟩
  have hZ5 : wz.heap[w.heap.size + 2]? = some (.cells #[.int .u8 (tsR T oref omin).1, .int .i64 0, .slice ja jn jc, .int .u32 0, .int .u8 0, .int .i64 0, .int .i64 0, .int .u32 0, .int .i64 0, .slice none 0 0, .int .u32 0, .int .i64 0, .int .i64 0, .int .i64 0, .int .u32 0, .int .u32 0, .int .i64 0] 47 (0, 0)) := by
    rw [hwz]
    have := heap_setCell_same w5 (w.heap.size + 2) 0 _ _ (.int .u8 (tsR T oref omin).1) hR5''
    exact this
  have hZ4 : wz.heap[w.heap.size + 1]? = some (.cells #[.int .u8 0, .int .i64 0, .slice none 0 0, .int .u32 0, .int .u8 0, .int .i64 0, .int .i64 0, .int .u32 0, .int .i64 0, .slice none 0 0, .int .u32 0, .int .i64 0, .int .i64 0, .int .i64 0, .int .u32 0, .int .u32 0, .int .i64 0] 47 (0, 0)) := by rw [hwz, Below.heap_setCell _ _ _ _ (by simp)]; exact hR4''
  have rz : rng wz (w.heap.size + 1 + 1) 0 17 = some #[.int .u8 (tsR T oref omin).1, .int .i64 0, .slice ja jn jc, .int .u32 0, .int .u8 0, .int .i64 0, .int .i64 0, .int .u32 0, .int .i64 0, .slice none 0 0, .int .u32 0, .int .i64 0, .int .i64 0, .int .i64 0, .int .u32 0, .int .u32 0, .int .i64 0] := rng_whole hZ5
  have hwh := whole_of_heap hZ4
  simp only [List.size_toArray, List.length_cons, List.length_nil] at hwh
  have hzo : ∀ b, b ≠ w.heap.size + 2 → wz.heap[b]? = w5.heap[b]? := fun b hb => by rw [hwz]; exact Below.heap_setCell _ _ _ _ hb
  have hzs : wz.heap.size = w5.heap.size := by rw [hwz]; simp [World.setCell]
  have hzb : ∀ Bb, Bb ≤ w.heap.size → Below Bb w5 wz := fun Bb hBb => by rw [hwz]; exact (Below.refl _ _).setCell (p := ⟨w.heap.size + 1 + 1, 0, none⟩) (by show Bb ≤ w.heap.size + 1 + 1; omega) _
  rw [← hwz]
  clear hwz
  go_wp2
  have hfin := heap_setRow_at (ds := #[.int .u8 (tsR T oref omin).1, .int .i64 0, .slice ja jn jc, .int .u32 0, .int .u8 0, .int .i64 0, .int .i64 0, .int .u32 0, .int .i64 0, .slice none 0 0, .int .u32 0, .int .i64 0, .int .i64 0, .int .i64 0, .int .u32 0, .int .u32 0, .int .i64 0]) hZ4
  refine bodyPost_ret (results_cell1 Tryd.results9 _ _ (w.heap.size + 1) _ _ _ _ rfl hfin Tryd.underlying47 rfl (by kernel_rfl)) rfl ?_
  have hbw : Below w.heap.size w (wz.setRow (w.heap.size + 1) #[.int .u8 (tsR T oref omin).1, .int .i64 0, .slice ja jn jc, .int .u32 0, .int .u8 0, .int .i64 0, .int .i64 0, .int .u32 0, .int .i64 0, .slice none 0 0, .int .u32 0, .int .i64 0, .int .i64 0, .int .i64 0, .int .u32 0, .int .u32 0, .int .i64 0]) := (((hb3.drew).trans (hb4.mono (by show w.heap.size ≤ w3.heap.size; omega))).trans (h5b _ (Nat.le_refl _))).trans ((hzb _ (Nat.le_refl _)).trans (below_setRow' _ _ (by omega)))
  have hup : ∀ b, w.heap.size + 3 ≤ b → (wz.setRow (w.heap.size + 1) #[.int .u8 (tsR T oref omin).1, .int .i64 0, .slice ja jn jc, .int .u32 0, .int .u8 0, .int .i64 0, .int .i64 0, .int .u32 0, .int .i64 0, .slice none 0 0, .int .u32 0, .int .i64 0, .int .i64 0, .int .i64 0, .int .u32 0, .int .u32 0, .int .i64 0]).heap[b]? = w4.heap[b]? := fun b hb => (setRow_other _ _ _ _ (by omega)).trans ((hzo b (by omega)).trans (h5o b (by omega)))
  exact ⟨(ja, jn, jc), ⟨rfl, Cmd.of_below h.at' hbw, hbw.block B hBl⟩, hvis.mono (fun b hb => hup b (by have h9 : w3.heap.size ≤ b := hb; omega)) (fun b hb => by have h9 : w3.heap.size ≤ b := hb; show w.heap.size ≤ b; omega)⟩

set_option maxRecDepth 100000 in
set_option maxHeartbeats 8000000 in
theorem step_15 (w : World) (B P S : Nat) (A : Nat → Prop) (ps : List KV) (full : Bool) (o : Op) (la va : Option Addr) (ln lc vn vc : Nat) (h : BAt w B P S A ps full) (T : Tab) (hr : Rep ps T) (hk : o.kind = 15) (hps : ps.length ≤ 900000) :
    Calls Tryd.prog 9 #[.pointer (some ⟨B, 0, none⟩), .agg (opCs o (.slice la ln lc) (.slice va vn vc))] w fun e w' => ∃ s : SV, StepPost w w' e S B P A ps full { code := 0, list := s } ∧ U32sAt w' (w.heap.size ≤ ·) (sv s) (subsOf ps o.ref) := by
  obtain ⟨w3, HW3, hb3, hs3, hX, hR4, hR5, hB3⟩ := step_start w o la va ln lc vn vc B P S A ps full h
  have hBl : B < w.heap.size := (cell_two h.bench).2.2.2
  obtain ⟨okind, oid, oref, omin, odel, ol0, ol1, ol2, olist, ovis⟩ := o
  simp only at hk
  simp only [opCs, ansCs, sv] at hX HW3 hR4 hR5 ⊢
  have x0 : w3.cell? ⟨w.heap.size, 0, none⟩ = some (.int .u8 okind) := by rw [World.cell?, hX]; rfl
  have x1 : w3.cell? ⟨w.heap.size, 1, none⟩ = some (.int .u32 oid) := by rw [World.cell?, hX]; rfl
  have x2 : w3.cell? ⟨w.heap.size, 2, none⟩ = some (.int .u32 oref) := by rw [World.cell?, hX]; rfl
  have x3 : w3.cell? ⟨w.heap.size, 3, none⟩ = some (.int .i64 omin) := by rw [World.cell?, hX]; rfl
  have x4 : w3.cell? ⟨w.heap.size, 4, none⟩ = some (.int .i64 odel) := by rw [World.cell?, hX]; rfl
  have x5 : w3.cell? ⟨w.heap.size, 5, none⟩ = some (.int .i64 ol0) := by rw [World.cell?, hX]; rfl
  have x6 : w3.cell? ⟨w.heap.size, 6, none⟩ = some (.int .i64 ol1) := by rw [World.cell?, hX]; rfl
  have x7 : w3.cell? ⟨w.heap.size, 7, none⟩ = some (.int .i64 ol2) := by rw [World.cell?, hX]; rfl
  have x8 : w3.cell? ⟨w.heap.size, 8, none⟩ = some (.slice la ln lc) := by rw [World.cell?, hX]; rfl
  have x9 : w3.cell? ⟨w.heap.size, 9, none⟩ = some (.slice va vn vc) := by rw [World.cell?, hX]; rfl
  obtain ⟨b0, b1, -, -⟩ := cell_two hB3.bench
  subst hk
  go_enter Tryd.func9, Tryd.ntmps9
  go_upto_region 3 with fail
  rw [← HW3.out]
  have HX := hide hX
  clear hX
  have hSl := h.at'.store.size
  have HCALL := hide (subjects_q (w := w3.drew) (hB3.at'.below (Below.refl _ _).drew) hr oref hps)
  have hBl3 : B < w.heap.size + 3 := by omega
  go_upto_region 41 with fail
  refine wp_region_mixT (w.heap.size + 3) [3, 5] (by kernel_rfl) ?_
  refine mixT_slots [0, 1, 2, 4] (fuel := 9) rfl (by kernel_rfl) (by kernel_rfl) (fun d _ _ _ _ h => by cases d <;> exact h) ?_
  simp only [opersAt, List.getElem?_toArray, List.getElem?_cons_zero, List.getElem?_cons_succ]
  repeat (go_big_quiet_step (fail))
  refine wpQuiet_nil ?_
  refine mixT_reads [3, 5] (fuel := 7) rfl (by kernel_rfl) (by decide) (by kernel_rfl) (fun d _ _ _ _ h => by cases d <;> exact h) (ext_drew _ _) ?_
  simp only [opersAt, List.getElem?_toArray, List.getElem?_cons_zero, List.getElem?_cons_succ]
  repeat (go_big_quiet_step (fail))
  refine wpQuiet_nil ?_
  refine mixT_one (k := 6) (by kernel_rfl) rfl ?_
  go_wp2_with (go_at_call 30; refine HCALL.out.mono ?_; rintro e w4 ⟨jv, rfl, hvis, hb4⟩)
  obtain ⟨ja, jc, hjv⟩ := hvis.form
  obtain ⟨jn, hjn⟩ : ∃ jn, jn = (subsOf ps oref).length := ⟨_, rfl⟩
  rw [← hjn] at hjv
  clear hjn
  subst hjv
  have hb4' : Below (w.heap.size + 3) w3 w4 := ((Below.refl _ _).drew).trans (hb4.mono (by show w.heap.size + 3 ≤ w3.heap.size; omega))
  refine ⟨Or.inr (fun _ => ⟨⟨_, hb4'⟩, rfl⟩), ?_⟩
  have hR5' : w4.heap[w.heap.size + 2]? = _ := (hb4'.block _ (by omega)).trans hR5
  have hR4' : w4.heap[w.heap.size + 1]? = _ := (hb4'.block _ (by omega)).trans hR4
  have hq0 : w4.cell? ⟨w.heap.size + 1 + 1, 2, none⟩ = some (.slice none 0 0) := by rw [World.cell?, show w.heap.size + 1 + 1 = w.heap.size + 2 from rfl, hR5']; rfl
  have hqf : w4.frozen? ⟨w.heap.size + 1 + 1, 2, none⟩ = false := by rw [World.frozen?, show w.heap.size + 1 + 1 = w.heap.size + 2 from rfl, hR5']; rfl
  refine mixT_slots [7, 8, 9, 10] (fuel := 2) rfl (by kernel_rfl) (by kernel_rfl) (fun d _ _ _ _ h => by cases d <;> exact h) ?_
  simp only [opersAt, List.getElem?_toArray, List.getElem?_cons_zero, List.getElem?_cons_succ]
  repeat (go_big_quiet_step (fail))
  refine wpQuiet_nil ?_
  refine mixT_one (k := 11) (by kernel_rfl) rfl ?_
  go_wp2
  refine ⟨Or.inl (by kernel_rfl), ?_⟩
  refine mixT_one (k := 12) (by kernel_rfl) rfl ?_
  go_wp2
  refine ⟨Or.inr (fun h => h), ?_⟩
  refine mixT_nil (by kernel_rfl) ?_
  go_upto_region 50 with fail
  obtain ⟨w5, hw5⟩ : ∃ w5, w5 = w4.setCell ⟨w.heap.size + 1 + 1, 2, none⟩ (.slice ja jn jc) := ⟨_, rfl⟩
  have hR5'' : w5.heap[w.heap.size + 2]? = some (.cells #[.int .u8 0, .int .i64 0, .slice ja jn jc, .int .u32 0, .int .u8 0, .int .i64 0, .int .i64 0, .int .u32 0, .int .i64 0, .slice none 0 0, .int .u32 0, .int .i64 0, .int .i64 0, .int .i64 0, .int .u32 0, .int .u32 0, .int .i64 0] 47 (0, 0)) := by rw [hw5]; exact heap_setCell_same w4 (w.heap.size + 2) 2 _ _ (.slice ja jn jc) hR5'
  have h5o : ∀ b, b ≠ w.heap.size + 2 → w5.heap[b]? = w4.heap[b]? := fun b hb => by rw [hw5]; exact Below.heap_setCell _ _ _ _ hb
  have h5s : w5.heap.size = w4.heap.size := by rw [hw5]; simp [World.setCell]
  have h5b : ∀ Bb, Bb ≤ w.heap.size → Below Bb w4 w5 := fun Bb hBb => by rw [hw5]; exact (Below.refl _ _).setCell (p := ⟨w.heap.size + 1 + 1, 2, none⟩) (by show Bb ≤ w.heap.size + 1 + 1; omega) _
  have hR4'' : w5.heap[w.heap.size + 1]? = _ := (h5o _ (by omega)).trans hR4'
  rw [← hw5]
  clear hw5
  have t0 : w5.cell? ⟨w.heap.size + 1 + 1, 0, none⟩ = some (.int .u8 0) := by rw [World.cell?, show w.heap.size + 1 + 1 = w.heap.size + 2 from rfl, hR5'']; rfl
  have tf : w5.frozen? ⟨w.heap.size + 1 + 1, 0, none⟩ = false := by rw [World.frozen?, show w.heap.size + 1 + 1 = w.heap.size + 2 from rfl, hR5'']; rfl
  go_upto_region 51 with (go_at_call 33; refine (codeOf_any (0) _).mono ?_; rintro e w9 ⟨rfl, rfl⟩)
  obtain ⟨wz, hwz⟩ : ∃ wz, wz = w5.setCell ⟨w.heap.size + 1 + 1, 0, none⟩ (.int .u8 0) := ⟨_, rfl⟩
  have hZ5 : wz.heap[w.heap.size + 2]? = some (.cells #[.int .u8 0, .int .i64 0, .slice ja jn jc, .int .u32 0, .int .u8 0, .int .i64 0, .int .i64 0, .int .u32 0, .int .i64 0, .slice none 0 0, .int .u32 0, .int .i64 0, .int .i64 0, .int .i64 0, .int .u32 0, .int .u32 0, .int .i64 0] 47 (0, 0)) := by
    rw [hwz]
    have := heap_setCell_same w5 (w.heap.size + 2) 0 _ _ (.int .u8 0) hR5''
    exact this
  have hZ4 : wz.heap[w.heap.size + 1]? = some (.cells #[.int .u8 0, .int .i64 0, .slice none 0 0, .int .u32 0, .int .u8 0, .int .i64 0, .int .i64 0, .int .u32 0, .int .i64 0, .slice none 0 0, .int .u32 0, .int .i64 0, .int .i64 0, .int .i64 0, .int .u32 0, .int .u32 0, .int .i64 0] 47 (0, 0)) := by rw [hwz, Below.heap_setCell _ _ _ _ (by simp)]; exact hR4''
  have rz : rng wz (w.heap.size + 1 + 1) 0 17 = some #[.int .u8 0, .int .i64 0, .slice ja jn jc, .int .u32 0, .int .u8 0, .int .i64 0, .int .i64 0, .int .u32 0, .int .i64 0, .slice none 0 0, .int .u32 0, .int .i64 0, .int .i64 0, .int .i64 0, .int .u32 0, .int .u32 0, .int .i64 0] := rng_whole hZ5
  have hwh := whole_of_heap hZ4
  simp only [List.size_toArray, List.length_cons, List.length_nil] at hwh
  have hzo : ∀ b, b ≠ w.heap.size + 2 → wz.heap[b]? = w5.heap[b]? := fun b hb => by rw [hwz]; exact Below.heap_setCell _ _ _ _ hb
  have hzs : wz.heap.size = w5.heap.size := by rw [hwz]; simp [World.setCell]
  have hzb : ∀ Bb, Bb ≤ w.heap.size → Below Bb w5 wz := fun Bb hBb => by rw [hwz]; exact (Below.refl _ _).setCell (p := ⟨w.heap.size + 1 + 1, 0, none⟩) (by show Bb ≤ w.heap.size + 1 + 1; omega) _
  rw [← hwz]
  clear hwz
  go_wp2
  have hfin := heap_setRow_at (ds := #[.int .u8 0, .int .i64 0, .slice ja jn jc, .int .u32 0, .int .u8 0, .int .i64 0, .int .i64 0, .int .u32 0, .int .i64 0, .slice none 0 0, .int .u32 0, .int .i64 0, .int .i64 0, .int .i64 0, .int .u32 0, .int .u32 0, .int .i64 0]) hZ4
  refine bodyPost_ret (results_cell1 Tryd.results9 _ _ (w.heap.size + 1) _ _ _ _ rfl hfin Tryd.underlying47 rfl (by kernel_rfl)) rfl ?_
  have hbw : Below w.heap.size w (wz.setRow (w.heap.size + 1) #[.int .u8 0, .int .i64 0, .slice ja jn jc, .int .u32 0, .int .u8 0, .int .i64 0, .int .i64 0, .int .u32 0, .int .i64 0, .slice none 0 0, .int .u32 0, .int .i64 0, .int .i64 0, .int .i64 0, .int .u32 0, .int .u32 0, .int .i64 0]) := (((hb3.drew).trans (hb4.mono (by show w.heap.size ≤ w3.heap.size; omega))).trans (h5b _ (Nat.le_refl _))).trans ((hzb _ (Nat.le_refl _)).trans (below_setRow' _ _ (by omega)))
  have hup : ∀ b, w.heap.size + 3 ≤ b → (wz.setRow (w.heap.size + 1) #[.int .u8 0, .int .i64 0, .slice ja jn jc, .int .u32 0, .int .u8 0, .int .i64 0, .int .i64 0, .int .u32 0, .int .i64 0, .slice none 0 0, .int .u32 0, .int .i64 0, .int .i64 0, .int .i64 0, .int .u32 0, .int .u32 0, .int .i64 0]).heap[b]? = w4.heap[b]? := fun b hb => (setRow_other _ _ _ _ (by omega)).trans ((hzo b (by omega)).trans (h5o b (by omega)))
  exact ⟨(ja, jn, jc), ⟨rfl, Cmd.of_below h.at' hbw, hbw.block B hBl⟩, hvis.mono (fun b hb => hup b (by have h9 : w3.heap.size ≤ b := hb; omega)) (fun b hb => by have h9 : w3.heap.size ≤ b := hb; show w.heap.size ≤ b; omega)⟩

end Go.Proofs.Qxb6500665aDoor
