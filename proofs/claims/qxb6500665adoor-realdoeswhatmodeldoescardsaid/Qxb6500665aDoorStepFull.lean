/- Full and Reopen, walked. (Made by tools/mk_step.py.) -/
import Derived.Test.Qxb6500665aDoorStepLast
namespace Go.Proofs.Qxb6500665aDoor
open Go.RowKit Go.Proofs.Qxb6500665aDoor.Cal

attribute [local go_sem ↓] exec_stAnswer exec_ldAnswer exec_stPlacement exec_stVersion exec_stAnalyte exec_stSubject exec_stPanel
attribute [local go_sem] run_stAnswer run_ldAnswer rng_drew ext_const Ext.cell Ext.frozen Ext.rng Ext.whole

attribute [local go_sem] ones17


/-- The store's flag turned. -/
theorem StoreAt.setFull {w : World} {S : Nat} {A : Nat → Prop} {ps : List KV} {full : Bool} (h : StoreAt w S A ps full) (b : Bool) : StoreAt (w.setCell ⟨S, 1, none⟩ (.bool b)) S A ps b := by
  obtain ⟨pv, h1, h2⟩ := h.ex
  refine ⟨⟨pv, ?_, h2.mono (fun x hx => Below.heap_setCell _ _ _ _ (fun e => h.out (by have e' : x = S := e; subst e'; exact hx))) (fun _ hx => hx)⟩, h.out, fun x hx => by simp [World.setCell]; exact h.lt x hx⟩
  have := heap_setCell_same w S 1 _ _ (.bool b) h1
  simpa using this

theorem Cmd.setFull {w : World} {S : Nat} {A : Nat → Prop} {ps : List KV} {full : Bool} (h : StoreAt w S A ps full) (b : Bool) : Cmd w (w.setCell ⟨S, 1, none⟩ (.bool b)) S A ps b := by
  have h1 := h.setFull b
  obtain ⟨pv, q1, q2⟩ := h1.ex
  have hS := h.size
  refine ⟨⟨(Below.refl _ _).setCell (p := ⟨S, 1, none⟩) (Nat.le_refl _) _, fun x hx => Below.heap_setCell _ _ _ _ hx.2⟩, ⟨⟨pv, q1, q2.mono (Same.refl _ _) (fun x hx => Or.inl hx)⟩, fun hx => hx.elim h.out (fun hx => by omega), fun x hx => hx.elim (h1.lt x) (fun hx => hx.2)⟩⟩

set_option maxRecDepth 100000 in
set_option maxHeartbeats 8000000 in
theorem step_18 (w : World) (B P S : Nat) (A : Nat → Prop) (ps : List KV) (full : Bool) (o : Op) (la va : Option Addr) (ln lc vn vc : Nat) (h : BAt w B P S A ps full) (hBS : B ≠ S) (hk : o.kind = 18) :
    Calls Tryd.prog 9 #[.pointer (some ⟨B, 0, none⟩), .agg (opCs o (.slice la ln lc) (.slice va vn vc))] w fun e w' => StepPost w w' e S B P A ps (o.ref == 1) { code := 0 } := by
  obtain ⟨w3, HW3, hb3, hs3, hX, hR4, hR5, hB3⟩ := step_start w o la va ln lc vn vc B P S A ps full h
  have hBl : B < w.heap.size := (cell_two h.bench).2.2.2
  obtain ⟨okind, oid, oref, omin, odel, ol0, ol1, ol2, olist, ovis⟩ := o
  simp only at hk
  simp only [opCs, ansCs, sv] at hX HW3 hR4 hR5 ⊢
  have x0 : w3.cell? ⟨w.heap.size, 0, none⟩ = some (.int .u8 okind) := by rw [World.cell?, hX]; rfl
  have x1 : w3.cell? ⟨w.heap.size, 1, none⟩ = some (.int .u32 oid) := by rw [World.cell?, hX]; rfl
  have x2 : w3.cell? ⟨w.heap.size, 2, none⟩ = some (.int .u32 oref) := by rw [World.cell?, hX]; rfl
  have x3 : w3.cell? ⟨w.heap.size, 3, none⟩ = some (.int .i64 omin) := by rw [World.cell?, hX]; rfl
  have x4 : w3.cell? ⟨w.heap.size, 4, none⟩ = some (.int .i64 odel) := by rw [World.cell?, hX]; rfl
  have x5 : w3.cell? ⟨w.heap.size, 5, none⟩ = some (.int .i64 ol0) := by rw [World.cell?, hX]; rfl
  have x6 : w3.cell? ⟨w.heap.size, 6, none⟩ = some (.int .i64 ol1) := by rw [World.cell?, hX]; rfl
  have x7 : w3.cell? ⟨w.heap.size, 7, none⟩ = some (.int .i64 ol2) := by rw [World.cell?, hX]; rfl
  have x8 : w3.cell? ⟨w.heap.size, 8, none⟩ = some (.slice la ln lc) := by rw [World.cell?, hX]; rfl
  have x9 : w3.cell? ⟨w.heap.size, 9, none⟩ = some (.slice va vn vc) := by rw [World.cell?, hX]; rfl
  obtain ⟨b0, b1, -, -⟩ := cell_two hB3.bench
  subst hk
  go_enter Tryd.func9, Tryd.ntmps9
  go_upto_region 3 with fail
  rw [← HW3.out]
  have HX := hide hX
  clear hX
  have hSl := h.at'.store.size
  obtain ⟨pvs, hSb, -⟩ := hB3.at'.store.ex
  obtain ⟨z0, z1, zf, -⟩ := cell_two hSb
  have zf1 := zf 1
  obtain ⟨FB, hFB⟩ : ∃ FB, FB = (oref == 1) := ⟨_, rfl⟩
  have HFB := hide hFB
  have hBl3 : B < w.heap.size + 3 := by omega
  go_upto_region 47 with fail
  refine wp_region_mixT (w.heap.size + 3) [3, 5] (by kernel_rfl) ?_
  refine mixT_slots [0, 1, 2, 4] (fuel := 6) rfl (by kernel_rfl) (by kernel_rfl) (fun d _ _ _ _ h => by cases d <;> exact h) ?_
  simp only [opersAt, List.getElem?_toArray, List.getElem?_cons_zero, List.getElem?_cons_succ]
  repeat (go_big_quiet_step (fail))
  refine wpQuiet_nil ?_
  refine mixT_reads [3, 5] (fuel := 4) rfl (by kernel_rfl) (by decide) (by kernel_rfl) (fun d _ _ _ _ h => by cases d <;> exact h) (ext_drew _ _) ?_
  simp only [opersAt, List.getElem?_toArray, List.getElem?_cons_zero, List.getElem?_cons_succ]
  repeat (go_big_quiet_step (fail))
  refine wpQuiet_nil ?_
  refine mixT_slots [6, 7, 8] (fuel := 1) rfl (by kernel_rfl) (by kernel_rfl) (fun d _ _ _ _ h => by cases d <;> exact h) ?_
  simp only [opersAt, List.getElem?_toArray, List.getElem?_cons_zero, List.getElem?_cons_succ]
  repeat (go_big_quiet_step (fail))
  refine wpQuiet_nil ?_
  refine mixT_one (k := 9) (by kernel_rfl) rfl ?_
  go_wp2
  refine ⟨Or.inl (by kernel_rfl), ?_⟩
  refine mixT_nil (by kernel_rfl) ?_
  rw [← hFB]
  go_upto_region 50 with fail
  obtain ⟨w4, hw4⟩ : ∃ w4, w4 = w3.drew.setCell ⟨S, 1, none⟩ (.bool FB) := ⟨_, rfl⟩
  have hcmd : Cmd w3.drew w4 S A ps FB := by rw [hw4]; exact Cmd.setFull (full := full) ((hB3.at'.below (Below.refl _ _).drew).store) FB
  have hR5' : w4.heap[w.heap.size + 2]? = _ := (hcmd.kept.same (w.heap.size + 2) ⟨by show _ < w3.heap.size; omega, by omega⟩).trans hR5
  have hR4' : w4.heap[w.heap.size + 1]? = _ := (hcmd.kept.same (w.heap.size + 1) ⟨by show _ < w3.heap.size; omega, by omega⟩).trans hR4
  have hw4' : w4 = (w3.setCell ⟨S, 1, none⟩ (.bool FB)).drew := by rw [hw4]; rfl
  first | rw [← hw4] | rw [← hw4']
  clear hw4 hw4'
  have t0 : w4.cell? ⟨w.heap.size + 1 + 1, 0, none⟩ = some (.int .u8 0) := by rw [World.cell?, show w.heap.size + 1 + 1 = w.heap.size + 2 from rfl, hR5']; rfl
  have tf : w4.frozen? ⟨w.heap.size + 1 + 1, 0, none⟩ = false := by rw [World.frozen?, show w.heap.size + 1 + 1 = w.heap.size + 2 from rfl, hR5']; rfl
  go_upto_region 51 with (go_at_call 33; refine (codeOf_any 0 _).mono ?_; rintro e w9 ⟨rfl, rfl⟩)
  obtain ⟨wz, hwz⟩ : ∃ wz, wz = w4.setCell ⟨w.heap.size + 1 + 1, 0, none⟩ (.int .u8 0) := ⟨_, rfl⟩
  have hZ5 : wz.heap[w.heap.size + 2]? = some (.cells #[.int .u8 0, .int .i64 0, .slice none 0 0, .int .u32 0, .int .u8 0, .int .i64 0, .int .i64 0, .int .u32 0, .int .i64 0, .slice none 0 0, .int .u32 0, .int .i64 0, .int .i64 0, .int .i64 0, .int .u32 0, .int .u32 0, .int .i64 0] 47 (0, 0)) := by
    rw [hwz]
    have := heap_setCell_same w4 (w.heap.size + 2) 0 _ _ (.int .u8 0) hR5'
    exact this
  have hZ4 : wz.heap[w.heap.size + 1]? = some (.cells #[.int .u8 0, .int .i64 0, .slice none 0 0, .int .u32 0, .int .u8 0, .int .i64 0, .int .i64 0, .int .u32 0, .int .i64 0, .slice none 0 0, .int .u32 0, .int .i64 0, .int .i64 0, .int .i64 0, .int .u32 0, .int .u32 0, .int .i64 0] 47 (0, 0)) := by rw [hwz, Below.heap_setCell _ _ _ _ (by simp)]; exact hR4'
  have rz : rng wz (w.heap.size + 1 + 1) 0 17 = some #[.int .u8 0, .int .i64 0, .slice none 0 0, .int .u32 0, .int .u8 0, .int .i64 0, .int .i64 0, .int .u32 0, .int .i64 0, .slice none 0 0, .int .u32 0, .int .i64 0, .int .i64 0, .int .i64 0, .int .u32 0, .int .u32 0, .int .i64 0] := rng_whole hZ5
  have hwh := whole_of_heap hZ4
  simp only [List.size_toArray, List.length_cons, List.length_nil] at hwh
  have hzo : ∀ b, b ≠ w.heap.size + 2 → wz.heap[b]? = w4.heap[b]? := fun b hb => by rw [hwz]; exact Below.heap_setCell _ _ _ _ hb
  have hzs : wz.heap.size = w4.heap.size := by rw [hwz]; simp [World.setCell]
  have hzb : ∀ Bb, Bb ≤ w.heap.size → Below Bb w4 wz := fun Bb hBb => by rw [hwz]; exact (Below.refl _ _).setCell (p := ⟨w.heap.size + 1 + 1, 0, none⟩) (by show Bb ≤ w.heap.size + 1 + 1; omega) _
  rw [← hwz]
  clear hwz
  go_wp2
  have hfin := heap_setRow_at (ds := #[.int .u8 0, .int .i64 0, .slice none 0 0, .int .u32 0, .int .u8 0, .int .i64 0, .int .i64 0, .int .u32 0, .int .i64 0, .slice none 0 0, .int .u32 0, .int .i64 0, .int .i64 0, .int .i64 0, .int .u32 0, .int .u32 0, .int .i64 0]) hZ4
  refine bodyPost_ret (results_cell1 Tryd.results9 _ _ (w.heap.size + 1) _ _ _ _ rfl hfin Tryd.underlying47 rfl (by kernel_rfl)) rfl ?_
  have hcm : Cmd w (wz.setRow (w.heap.size + 1) #[.int .u8 0, .int .i64 0, .slice none 0 0, .int .u32 0, .int .u8 0, .int .i64 0, .int .i64 0, .int .u32 0, .int .i64 0, .slice none 0 0, .int .u32 0, .int .i64 0, .int .i64 0, .int .i64 0, .int .u32 0, .int .u32 0, .int .i64 0]) S A ps FB := Cmd.around h.at'.store hb3.drew hs3 hcmd (fun b h1 h2 => (setRow_other _ _ _ _ h1).trans (hzo b h2)) (by simp [hzs]) ((hzb S (by omega)).trans (below_setRow' _ _ (by omega)))
  refine ⟨rfl, ?_, ?_⟩
  · rw [← HFB.out]; exact hcm
  · rw [setRow_other _ _ _ _ (by omega), hzo B (by omega), hcmd.kept.same B ⟨by show B < w3.heap.size; omega, hBS⟩]; exact hb3.block B hBl

set_option maxRecDepth 100000 in
set_option maxHeartbeats 8000000 in
theorem step_19 (w : World) (B P S : Nat) (A : Nat → Prop) (ps : List KV) (full : Bool) (o : Op) (la va : Option Addr) (ln lc vn vc : Nat) (h : BAt w B P S A ps full) (hBS : B ≠ S) (hAB : ¬ A B) (hk : o.kind = 19) :
    Calls Tryd.prog 9 #[.pointer (some ⟨B, 0, none⟩), .agg (opCs o (.slice la ln lc) (.slice va vn vc))] w fun e w' => e = .returned (.agg (ansCs {})) ∧ BAt w' B (w.heap.size + 3) S A ps full ∧ (∀ b, b < w.heap.size → b ≠ B → w'.heap[b]? = w.heap[b]?) ∧ Below B w w' ∧ w.heap.size ≤ w'.heap.size := by
  obtain ⟨w3, HW3, hb3, hs3, hX, hR4, hR5, hB3⟩ := step_start w o la va ln lc vn vc B P S A ps full h
  have hBl : B < w.heap.size := (cell_two h.bench).2.2.2
  obtain ⟨okind, oid, oref, omin, odel, ol0, ol1, ol2, olist, ovis⟩ := o
  simp only at hk
  simp only [opCs, ansCs, sv] at hX HW3 hR4 hR5 ⊢
  have x0 : w3.cell? ⟨w.heap.size, 0, none⟩ = some (.int .u8 okind) := by rw [World.cell?, hX]; rfl
  have x1 : w3.cell? ⟨w.heap.size, 1, none⟩ = some (.int .u32 oid) := by rw [World.cell?, hX]; rfl
  have x2 : w3.cell? ⟨w.heap.size, 2, none⟩ = some (.int .u32 oref) := by rw [World.cell?, hX]; rfl
  have x3 : w3.cell? ⟨w.heap.size, 3, none⟩ = some (.int .i64 omin) := by rw [World.cell?, hX]; rfl
  have x4 : w3.cell? ⟨w.heap.size, 4, none⟩ = some (.int .i64 odel) := by rw [World.cell?, hX]; rfl
  have x5 : w3.cell? ⟨w.heap.size, 5, none⟩ = some (.int .i64 ol0) := by rw [World.cell?, hX]; rfl
  have x6 : w3.cell? ⟨w.heap.size, 6, none⟩ = some (.int .i64 ol1) := by rw [World.cell?, hX]; rfl
  have x7 : w3.cell? ⟨w.heap.size, 7, none⟩ = some (.int .i64 ol2) := by rw [World.cell?, hX]; rfl
  have x8 : w3.cell? ⟨w.heap.size, 8, none⟩ = some (.slice la ln lc) := by rw [World.cell?, hX]; rfl
  have x9 : w3.cell? ⟨w.heap.size, 9, none⟩ = some (.slice va vn vc) := by rw [World.cell?, hX]; rfl
  obtain ⟨b0, b1, -, -⟩ := cell_two hB3.bench
  subst hk
  go_enter Tryd.func9, Tryd.ntmps9
  go_upto_region 3 with fail
  rw [← HW3.out]
  have HX := hide hX
  clear hX
  have hSl := h.at'.store.size
  have hBl3 : B < w3.heap.size := by omega
  have HCALL := hide (open_calls w3 S)
  have hBb : (w3.alloc (.cells #[.pointer (some ⟨S, 0, none⟩)] 124)).heap[B]? = _ := (Below.heap_alloc _ _ _ hBl3).trans hB3.bench
  obtain ⟨y0, y1, yf, -⟩ := cell_two hBb
  have yf1 := yf 1
  go_upto_region 50 with (go_at_call 13; refine HCALL.out.mono ?_; rintro e w4 ⟨rfl, rfl⟩)
  obtain ⟨w5, hw5⟩ : ∃ w5, w5 = (w3.alloc (.cells #[.pointer (some ⟨S, 0, none⟩)] 124)).setCell ⟨B, 1, none⟩ (.pointer (some ⟨w.heap.size + 3, 0, none⟩)) := ⟨_, rfl⟩
  have h5o : ∀ b, b ≠ B → w5.heap[b]? = (w3.alloc (.cells #[.pointer (some ⟨S, 0, none⟩)] 124)).heap[b]? := fun b hb => by rw [hw5]; exact Below.heap_setCell _ _ _ _ hb
  have h5B : w5.heap[B]? = some (.cells #[.pointer (some ⟨S, 0, none⟩), .pointer (some ⟨w.heap.size + 3, 0, none⟩)] 55 (0, 0)) := by rw [hw5]; exact heap_setCell_same _ B 1 _ _ _ hBb
  have h5s : w5.heap.size = w.heap.size + 4 := by rw [hw5]; simp [World.setCell, hs3]
  have h5b : Below B (w3.alloc (.cells #[.pointer (some ⟨S, 0, none⟩)] 124)) w5 := by rw [hw5]; exact (Below.refl _ _).setCell (p := ⟨B, 1, none⟩) (Nat.le_refl _) _
  have hR5' : w5.heap[w.heap.size + 2]? = _ := (h5o _ (by omega)).trans ((Below.heap_alloc _ _ _ (by omega)).trans hR5)
  have hR4' : w5.heap[w.heap.size + 1]? = _ := (h5o _ (by omega)).trans ((Below.heap_alloc _ _ _ (by omega)).trans hR4)
  rw [← hw5]
  clear hw5
  have t0 : w5.cell? ⟨w.heap.size + 1 + 1, 0, none⟩ = some (.int .u8 0) := by rw [World.cell?, show w.heap.size + 1 + 1 = w.heap.size + 2 from rfl, hR5']; rfl
  have tf : w5.frozen? ⟨w.heap.size + 1 + 1, 0, none⟩ = false := by rw [World.frozen?, show w.heap.size + 1 + 1 = w.heap.size + 2 from rfl, hR5']; rfl
  go_upto_region 51 with (go_at_call 33; refine (codeOf_any 0 _).mono ?_; rintro e w9 ⟨rfl, rfl⟩)
  obtain ⟨wz, hwz⟩ : ∃ wz, wz = w5.setCell ⟨w.heap.size + 1 + 1, 0, none⟩ (.int .u8 0) := ⟨_, rfl⟩
  have hZ5 : wz.heap[w.heap.size + 2]? = some (.cells #[.int .u8 0, .int .i64 0, .slice none 0 0, .int .u32 0, .int .u8 0, .int .i64 0, .int .i64 0, .int .u32 0, .int .i64 0, .slice none 0 0, .int .u32 0, .int .i64 0, .int .i64 0, .int .i64 0, .int .u32 0, .int .u32 0, .int .i64 0] 47 (0, 0)) := by
    rw [hwz]
    have := heap_setCell_same w5 (w.heap.size + 2) 0 _ _ (.int .u8 0) hR5'
    exact this
  have hZ4 : wz.heap[w.heap.size + 1]? = some (.cells #[.int .u8 0, .int .i64 0, .slice none 0 0, .int .u32 0, .int .u8 0, .int .i64 0, .int .i64 0, .int .u32 0, .int .i64 0, .slice none 0 0, .int .u32 0, .int .i64 0, .int .i64 0, .int .i64 0, .int .u32 0, .int .u32 0, .int .i64 0] 47 (0, 0)) := by rw [hwz, Below.heap_setCell _ _ _ _ (by simp)]; exact hR4'
  have rz : rng wz (w.heap.size + 1 + 1) 0 17 = some #[.int .u8 0, .int .i64 0, .slice none 0 0, .int .u32 0, .int .u8 0, .int .i64 0, .int .i64 0, .int .u32 0, .int .i64 0, .slice none 0 0, .int .u32 0, .int .i64 0, .int .i64 0, .int .i64 0, .int .u32 0, .int .u32 0, .int .i64 0] := rng_whole hZ5
  have hwh := whole_of_heap hZ4
  simp only [List.size_toArray, List.length_cons, List.length_nil] at hwh
  have hzo : ∀ b, b ≠ w.heap.size + 2 → wz.heap[b]? = w5.heap[b]? := fun b hb => by rw [hwz]; exact Below.heap_setCell _ _ _ _ hb
  have hzs : wz.heap.size = w5.heap.size := by rw [hwz]; simp [World.setCell]
  have hzb : ∀ Bb, Bb ≤ w.heap.size → Below Bb w5 wz := fun Bb hBb => by rw [hwz]; exact (Below.refl _ _).setCell (p := ⟨w.heap.size + 1 + 1, 0, none⟩) (by show Bb ≤ w.heap.size + 1 + 1; omega) _
  rw [← hwz]
  clear hwz
  go_wp2
  have hfin := heap_setRow_at (ds := #[.int .u8 0, .int .i64 0, .slice none 0 0, .int .u32 0, .int .u8 0, .int .i64 0, .int .i64 0, .int .u32 0, .int .i64 0, .slice none 0 0, .int .u32 0, .int .i64 0, .int .i64 0, .int .i64 0, .int .u32 0, .int .u32 0, .int .i64 0]) hZ4
  refine bodyPost_ret (results_cell1 Tryd.results9 _ _ (w.heap.size + 1) _ _ _ _ rfl hfin Tryd.underlying47 rfl (by kernel_rfl)) rfl ?_
  have hx : ∀ b, b ≠ w.heap.size + 1 → b ≠ w.heap.size + 2 → (wz.setRow (w.heap.size + 1) #[.int .u8 0, .int .i64 0, .slice none 0 0, .int .u32 0, .int .u8 0, .int .i64 0, .int .i64 0, .int .u32 0, .int .i64 0, .slice none 0 0, .int .u32 0, .int .i64 0, .int .i64 0, .int .i64 0, .int .u32 0, .int .u32 0, .int .i64 0]).heap[b]? = w5.heap[b]? := fun b h1 h2 => (setRow_other _ _ _ _ h1).trans (hzo b h2)
  have hxs : (wz.setRow (w.heap.size + 1) #[.int .u8 0, .int .i64 0, .slice none 0 0, .int .u32 0, .int .u8 0, .int .i64 0, .int .i64 0, .int .u32 0, .int .i64 0, .slice none 0 0, .int .u32 0, .int .i64 0, .int .i64 0, .int .i64 0, .int .u32 0, .int .u32 0, .int .i64 0]).heap.size = w.heap.size + 4 := by simp [hzs, h5s]
  have hold : ∀ b, b < w.heap.size → b ≠ B → (wz.setRow (w.heap.size + 1) #[.int .u8 0, .int .i64 0, .slice none 0 0, .int .u32 0, .int .u8 0, .int .i64 0, .int .i64 0, .int .u32 0, .int .i64 0, .slice none 0 0, .int .u32 0, .int .i64 0, .int .i64 0, .int .i64 0, .int .u32 0, .int .u32 0, .int .i64 0]).heap[b]? = w.heap[b]? := fun b hb h1 => by
    rw [hx b (by omega) (by omega), h5o b h1, Below.heap_alloc _ _ _ (by omega)]; exact hb3.block b hb
  refine ⟨rfl, ⟨?_, ?_, ?_⟩, hold, ?_, by omega⟩
  · rw [hx B (by omega) (by omega)]; exact h5B
  · rw [hx _ (by omega) (by omega), h5o _ (by omega)]
    have := heap_alloc_at w3 (.cells #[.pointer (some ⟨S, 0, none⟩)] 124)
    rw [hs3] at this; exact this
  · exact h.at'.store.mono (fun b hb => hold b (by rcases hb with hb | rfl; exact h.at'.store.lt b hb; exact hSl) (by rcases hb with hb | rfl; (intro e; exact hAB (e ▸ hb)); exact Ne.symm hBS)) (by omega)
  · exact (((hb3.mono (by omega)).alloc (by omega) _).trans h5b).trans ((hzb B (by omega)).trans (below_setRow' _ _ (by omega)))

end Go.Proofs.Qxb6500665aDoor
