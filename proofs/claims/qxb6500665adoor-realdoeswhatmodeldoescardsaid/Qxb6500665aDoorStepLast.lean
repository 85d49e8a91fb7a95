/- The last kinds of a step, walked. (Made by tools/mk_step.py.) -/
import Derived.Test.Qxb6500665aDoorStepMore
namespace Go.Proofs.Qxb6500665aDoor
open Go.RowKit Go.Proofs.Qxb6500665aDoor.Cal

attribute [local go_sem ↓] exec_stAnswer exec_ldAnswer exec_stPlacement exec_stVersion exec_stAnalyte exec_stSubject exec_stPanel
attribute [local go_sem] run_stAnswer run_ldAnswer rng_drew ext_const Ext.cell Ext.frozen Ext.rng Ext.whole

attribute [local go_sem] ones17

/-- The number that Amend hands back. -/
def amNum (k : Int) (n : Nat) : Int := if k = 0 then (n : Int) + 1 else 0

set_option maxRecDepth 100000 in
set_option maxHeartbeats 8000000 in
theorem step_3 (w : World) (B P S : Nat) (A : Nat → Prop) (ps : List KV) (full : Bool) (o : Op) (la va : Option Addr) (ln lc vn vc : Nat) (h : BAt w B P S A ps full) (hBS : B ≠ S) (hps : ps.length ≤ 900000) (vers : List Ver) (hv : VersRep ps vers) (ok : Nat → Prop) (hk : o.kind = 3) (hvi : VisitsAt w ok (.slice va vn vc) o.visits) (hvo : ∀ v ∈ o.visits, v.Ok) :
    Calls Tryd.prog 9 #[.pointer (some ⟨B, 0, none⟩), .agg (opCs o (.slice la ln lc) (.slice va vn vc))] w fun e w' => StepPost w w' e S B P A (cmdPs (amErr ps vers full o.minute o.visits) ps (amWs vers o.minute o.visits)) full { code := amErr ps vers full o.minute o.visits, num := amNum (amErr ps vers full o.minute o.visits) vers.length } := by
  obtain ⟨w3, HW3, hb3, hs3, hX, hR4, hR5, hB3⟩ := step_start w o la va ln lc vn vc B P S A ps full h
  have hBl : B < w.heap.size := (cell_two h.bench).2.2.2
  obtain ⟨okind, oid, oref, omin, odel, ol0, ol1, ol2, olist, ovis⟩ := o
  simp only at hk
  simp only [opCs, ansCs, sv] at hX HW3 hR4 hR5 ⊢
  have x0 : w3.cell? ⟨w.heap.size, 0, none⟩ = some (.int .u8 okind) := by rw [World.cell?, hX]; rfl
  have x1 : w3.cell? ⟨w.heap.size, 1, none⟩ = some (.int .u32 oid) := by rw [World.cell?, hX]; rfl
  have x2 : w3.cell? ⟨w.heap.size, 2, none⟩ = some (.int .u32 oref) := by rw [World.cell?, hX]; rfl
  have x3 : w3.cell? ⟨w.heap.size, 3, none⟩ = some (.int .i64 omin) := by rw [World.cell?, hX]; rfl
  have x4 : w3.cell? ⟨w.heap.size, 4, none⟩ = some (.int .i64 odel) := by rw [World.cell?, hX]; rfl
  have x5 : w3.cell? ⟨w.heap.size, 5, none⟩ = some (.int .i64 ol0) := by rw [World.cell?, hX]; rfl
  have x6 : w3.cell? ⟨w.heap.size, 6, none⟩ = some (.int .i64 ol1) := by rw [World.cell?, hX]; rfl
  have x7 : w3.cell? ⟨w.heap.size, 7, none⟩ = some (.int .i64 ol2) := by rw [World.cell?, hX]; rfl
  have x8 : w3.cell? ⟨w.heap.size, 8, none⟩ = some (.slice la ln lc) := by rw [World.cell?, hX]; rfl
  have x9 : w3.cell? ⟨w.heap.size, 9, none⟩ = some (.slice va vn vc) := by rw [World.cell?, hX]; rfl
  obtain ⟨b0, b1, -, -⟩ := cell_two hB3.bench
  subst hk
  go_enter Tryd.func9, Tryd.ntmps9
  go_upto_region 3 with fail
  rw [← HW3.out]
  have HX := hide hX
  clear hX
  have hSl := h.at'.store.size
  obtain ⟨K, hK⟩ : ∃ K, K = amErr ps vers full omin ovis := ⟨_, rfl⟩
  obtain ⟨N1, hN1⟩ : ∃ N1, N1 = amNum K vers.length := ⟨_, rfl⟩
  obtain ⟨PS, hPS⟩ : ∃ PS, PS = cmdPs K ps (amWs vers omin ovis) := ⟨_, rfl⟩
  have hvl := hv.len
  have n1 : 0 ≤ N1 := by rw [hN1, amNum]; split <;> omega
  have n2 : N1 ≤ 4294967295 := by rw [hN1, amNum]; split <;> omega
  have HK := hide hK
  have HN1 := hide hN1
  have HPS := hide hPS
  have HCALL : Hid (Calls Tryd.prog 18 #[.pointer (some ⟨P, 0, none⟩), .int .i64 omin, .slice va vn vc] w3.drew fun e w' => e = .returned (.tuple #[.int .u32 N1, errOr K]) ∧ Cmd w3.drew w' S A PS full) := by
    have h9 := amend_calls w3.drew P S A ok ps full vers omin _ ovis (hB3.at'.below (Below.refl _ _).drew) hv (hvi.below hb3.drew) hvo hps
    rw [← hK] at h9
    show Calls _ _ _ _ _
    refine h9.mono ?_
    rintro e w' ⟨q1, q2⟩
    rw [← amNum, ← hN1] at q1
    rw [← hPS] at q2
    exact ⟨q1, q2⟩
  clear hPS hK hN1 hvi hvo hv hvl
  have hBl3 : B < w.heap.size + 3 := by omega
  go_upto_region 11 with fail
  refine wp_region_mixT (w.heap.size + 3) [3, 5, 7] (by kernel_rfl) ?_
  refine mixT_slots [0, 1, 2, 4, 6] (fuel := 9) rfl (by kernel_rfl) (by kernel_rfl) (fun d _ _ _ _ h => by cases d <;> exact h) ?_
  simp only [opersAt, List.getElem?_toArray, List.getElem?_cons_zero, List.getElem?_cons_succ]
  repeat (go_big_quiet_step (fail))
  refine wpQuiet_nil ?_
  refine mixT_reads [3, 5, 7] (fuel := 6) rfl (by kernel_rfl) (by decide) (by kernel_rfl) (fun d _ _ _ _ h => by cases d <;> exact h) (ext_drew _ _) ?_
  simp only [opersAt, List.getElem?_toArray, List.getElem?_cons_zero, List.getElem?_cons_succ]
  repeat (go_big_quiet_step (fail))
  refine wpQuiet_nil ?_
  refine mixT_one (k := 8) (by kernel_rfl) rfl ?_
  go_wp2_with (go_at_call 18; refine HCALL.out.mono ?_; rintro e w4 ⟨rfl, hcmd⟩)
  refine ⟨Or.inl (by kernel_rfl), ?_⟩
  have hR5' : w4.heap[w.heap.size + 2]? = _ := (hcmd.kept.same (w.heap.size + 2) ⟨by show _ < w3.heap.size; omega, by omega⟩).trans hR5
  have hR4' : w4.heap[w.heap.size + 1]? = _ := (hcmd.kept.same (w.heap.size + 1) ⟨by show _ < w3.heap.size; omega, by omega⟩).trans hR4
  have hq0 : w4.cell? ⟨w.heap.size + 1 + 1, 1, none⟩ = some (.int .i64 0) := by rw [World.cell?, show w.heap.size + 1 + 1 = w.heap.size + 2 from rfl, hR5']; rfl
  have hqf : w4.frozen? ⟨w.heap.size + 1 + 1, 1, none⟩ = false := by rw [World.frozen?, show w.heap.size + 1 + 1 = w.heap.size + 2 from rfl, hR5']; rfl
  refine mixT_slots [9, 10, 11] (fuel := 2) rfl (by kernel_rfl) (by kernel_rfl) (fun d _ _ _ _ h => by cases d <;> exact h) ?_
  simp only [opersAt, List.getElem?_toArray, List.getElem?_cons_zero, List.getElem?_cons_succ]
  repeat (go_big_quiet_step (fail))
  refine wpQuiet_nil ?_
  refine mixT_one (k := 12) (by kernel_rfl) rfl ?_
  go_wp2
  refine ⟨Or.inr (fun h => h), ?_⟩
  refine mixT_one (k := 13) (by kernel_rfl) rfl ?_
  go_wp2
  refine ⟨Or.inr (fun h => h), ?_⟩
  refine mixT_nil (by kernel_rfl) ?_
  go_upto_region 50 with fail
  obtain ⟨w5, hw5⟩ : ∃ w5, w5 = w4.setCell ⟨w.heap.size + 1 + 1, 1, none⟩ (.int .i64 N1) := ⟨_, rfl⟩
  have hR5'' : w5.heap[w.heap.size + 2]? = some (.cells #[.int .u8 0, .int .i64 N1, .slice none 0 0, .int .u32 0, .int .u8 0, .int .i64 0, .int .i64 0, .int .u32 0, .int .i64 0, .slice none 0 0, .int .u32 0, .int .i64 0, .int .i64 0, .int .i64 0, .int .u32 0, .int .u32 0, .int .i64 0] 47 (0, 0)) := by rw [hw5]; exact heap_setCell_same w4 (w.heap.size + 2) 1 _ _ (.int .i64 N1) hR5'
  have h5o : ∀ b, b ≠ w.heap.size + 2 → w5.heap[b]? = w4.heap[b]? := fun b hb => by rw [hw5]; exact Below.heap_setCell _ _ _ _ hb
  have h5s : w5.heap.size = w4.heap.size := by rw [hw5]; simp [World.setCell]
  have h5b : ∀ Bb, Bb ≤ w.heap.size → Below Bb w4 w5 := fun Bb hBb => by rw [hw5]; exact (Below.refl _ _).setCell (p := ⟨w.heap.size + 1 + 1, 1, none⟩) (by show Bb ≤ w.heap.size + 1 + 1; omega) _
  have hR4'' : w5.heap[w.heap.size + 1]? = _ := (h5o _ (by omega)).trans hR4'
  rw [← hw5]
  clear hw5
  have t0 : w5.cell? ⟨w.heap.size + 1 + 1, 0, none⟩ = some (.int .u8 0) := by rw [World.cell?, show w.heap.size + 1 + 1 = w.heap.size + 2 from rfl, hR5'']; rfl
  have tf : w5.frozen? ⟨w.heap.size + 1 + 1, 0, none⟩ = false := by rw [World.frozen?, show w.heap.size + 1 + 1 = w.heap.size + 2 from rfl, hR5'']; rfl
  go_upto_region 51 with (go_at_call 33; refine (codeOf_any (K) _).mono ?_; rintro e w9 ⟨rfl, rfl⟩)
  obtain ⟨wz, hwz⟩ : ∃ wz, wz = w5.setCell ⟨w.heap.size + 1 + 1, 0, none⟩ (.int .u8 K) := ⟨_, rfl⟩
  have hZ5 : wz.heap[w.heap.size + 2]? = some (.cells #[.int .u8 K, .int .i64 N1, .slice none 0 0, .int .u32 0, .int .u8 0, .int .i64 0, .int .i64 0, .int .u32 0, .int .i64 0, .slice none 0 0, .int .u32 0, .int .i64 0, .int .i64 0, .int .i64 0, .int .u32 0, .int .u32 0, .int .i64 0] 47 (0, 0)) := by
    rw [hwz]
    have := heap_setCell_same w5 (w.heap.size + 2) 0 _ _ (.int .u8 K) hR5''
    exact this
  have hZ4 : wz.heap[w.heap.size + 1]? = some (.cells #[.int .u8 0, .int .i64 0, .slice none 0 0, .int .u32 0, .int .u8 0, .int .i64 0, .int .i64 0, .int .u32 0, .int .i64 0, .slice none 0 0, .int .u32 0, .int .i64 0, .int .i64 0, .int .i64 0, .int .u32 0, .int .u32 0, .int .i64 0] 47 (0, 0)) := by rw [hwz, Below.heap_setCell _ _ _ _ (by simp)]; exact hR4''
  have rz : rng wz (w.heap.size + 1 + 1) 0 17 = some #[.int .u8 K, .int .i64 N1, .slice none 0 0, .int .u32 0, .int .u8 0, .int .i64 0, .int .i64 0, .int .u32 0, .int .i64 0, .slice none 0 0, .int .u32 0, .int .i64 0, .int .i64 0, .int .i64 0, .int .u32 0, .int .u32 0, .int .i64 0] := rng_whole hZ5
  have hwh := whole_of_heap hZ4
  simp only [List.size_toArray, List.length_cons, List.length_nil] at hwh
  have hzo : ∀ b, b ≠ w.heap.size + 2 → wz.heap[b]? = w5.heap[b]? := fun b hb => by rw [hwz]; exact Below.heap_setCell _ _ _ _ hb
  have hzs : wz.heap.size = w5.heap.size := by rw [hwz]; simp [World.setCell]
  have hzb : ∀ Bb, Bb ≤ w.heap.size → Below Bb w5 wz := fun Bb hBb => by rw [hwz]; exact (Below.refl _ _).setCell (p := ⟨w.heap.size + 1 + 1, 0, none⟩) (by show Bb ≤ w.heap.size + 1 + 1; omega) _
  rw [← hwz]
  clear hwz
  go_wp2
  have hfin := heap_setRow_at (ds := #[.int .u8 K, .int .i64 N1, .slice none 0 0, .int .u32 0, .int .u8 0, .int .i64 0, .int .i64 0, .int .u32 0, .int .i64 0, .slice none 0 0, .int .u32 0, .int .i64 0, .int .i64 0, .int .i64 0, .int .u32 0, .int .u32 0, .int .i64 0]) hZ4
  refine bodyPost_ret (results_cell1 Tryd.results9 _ _ (w.heap.size + 1) _ _ _ _ rfl hfin Tryd.underlying47 rfl (by kernel_rfl)) rfl ?_
  have hcm : Cmd w (wz.setRow (w.heap.size + 1) #[.int .u8 K, .int .i64 N1, .slice none 0 0, .int .u32 0, .int .u8 0, .int .i64 0, .int .i64 0, .int .u32 0, .int .i64 0, .slice none 0 0, .int .u32 0, .int .i64 0, .int .i64 0, .int .i64 0, .int .u32 0, .int .u32 0, .int .i64 0]) S A PS full := Cmd.around h.at'.store hb3.drew hs3 hcmd (fun b h1 h2 => (setRow_other _ _ _ _ h1).trans ((hzo b h2).trans (h5o b h2))) (by simp [hzs, h5s]) ((h5b S (by omega)).trans ((hzb S (by omega)).trans (below_setRow' _ _ (by omega))))
  refine ⟨?_, ?_, ?_⟩
  · rw [← HK.out, ← HN1.out]; rfl
  · rw [← HK.out, ← HPS.out]; exact hcm
  · rw [setRow_other _ _ _ _ (by omega), hzo B (by omega), h5o B (by omega), hcmd.kept.same B ⟨by show B < w3.heap.size; omega, hBS⟩]; exact hb3.block B hBl

set_option maxRecDepth 100000 in
set_option maxHeartbeats 8000000 in
theorem step_12a (w : World) (B P S : Nat) (A : Nat → Prop) (ps : List KV) (full : Bool) (o : Op) (la va : Option Addr) (ln lc vn vc : Nat) (h : BAt w B P S A ps full) (T : Tab) (hr : Rep ps T) (hk : o.kind = 12) (hid : U32 o.id) (hre : 0 ≤ o.ref ∧ o.ref ≤ 255) :
    Calls Tryd.prog 9 #[.pointer (some ⟨B, 0, none⟩), .agg (opCs o (.slice la ln lc) (.slice va vn vc))] w fun e w' => StepPost w w' e S B P A ps full { code := (limR T o.id o.ref).1, num := (limR T o.id o.ref).2 } := by
  obtain ⟨w3, HW3, hb3, hs3, hX, hR4, hR5, hB3⟩ := step_start w o la va ln lc vn vc B P S A ps full h
  have hBl : B < w.heap.size := (cell_two h.bench).2.2.2
  obtain ⟨okind, oid, oref, omin, odel, ol0, ol1, ol2, olist, ovis⟩ := o
  simp only at hk
  simp only [opCs, ansCs, sv] at hX HW3 hR4 hR5 ⊢
  have x0 : w3.cell? ⟨w.heap.size, 0, none⟩ = some (.int .u8 okind) := by rw [World.cell?, hX]; rfl
  have x1 : w3.cell? ⟨w.heap.size, 1, none⟩ = some (.int .u32 oid) := by rw [World.cell?, hX]; rfl
  have x2 : w3.cell? ⟨w.heap.size, 2, none⟩ = some (.int .u32 oref) := by rw [World.cell?, hX]; rfl
  have x3 : w3.cell? ⟨w.heap.size, 3, none⟩ = some (.int .i64 omin) := by rw [World.cell?, hX]; rfl
  have x4 : w3.cell? ⟨w.heap.size, 4, none⟩ = some (.int .i64 odel) := by rw [World.cell?, hX]; rfl
  have x5 : w3.cell? ⟨w.heap.size, 5, none⟩ = some (.int .i64 ol0) := by rw [World.cell?, hX]; rfl
  have x6 : w3.cell? ⟨w.heap.size, 6, none⟩ = some (.int .i64 ol1) := by rw [World.cell?, hX]; rfl
  have x7 : w3.cell? ⟨w.heap.size, 7, none⟩ = some (.int .i64 ol2) := by rw [World.cell?, hX]; rfl
  have x8 : w3.cell? ⟨w.heap.size, 8, none⟩ = some (.slice la ln lc) := by rw [World.cell?, hX]; rfl
  have x9 : w3.cell? ⟨w.heap.size, 9, none⟩ = some (.slice va vn vc) := by rw [World.cell?, hX]; rfl
  obtain ⟨b0, b1, -, -⟩ := cell_two hB3.bench
  subst hk
  go_enter Tryd.func9, Tryd.ntmps9
  go_upto_region 3 with fail
  rw [← HW3.out]
  have HX := hide hX
  clear hX
  obtain ⟨g1, g2⟩ := hre
  simp only at g1 g2
  have HCALL := hide (limit_q (w := w3.drew) (hB3.at'.below (Below.refl _ _).drew) hr oid (oref) hid)
  have hBl3 : B < w.heap.size + 3 := by omega
  go_upto_region 35 with fail
  refine wp_region_mixT (w.heap.size + 3) [3, 5] (by kernel_rfl) ?_
  refine mixT_slots [0, 1, 2, 4, 6] (fuel := 9) rfl (by kernel_rfl) (by kernel_rfl) (fun d _ _ _ _ h => by cases d <;> exact h) ?_
  simp only [opersAt, List.getElem?_toArray, List.getElem?_cons_zero, List.getElem?_cons_succ]
  repeat (go_big_quiet_step (fail))
  refine wpQuiet_nil ?_
  refine mixT_reads [3, 5] (fuel := 7) rfl (by kernel_rfl) (by decide) (by kernel_rfl) (fun d _ _ _ _ h => by cases d <;> exact h) (ext_drew _ _) ?_
  simp only [opersAt, List.getElem?_toArray, List.getElem?_cons_zero, List.getElem?_cons_succ]
  repeat (go_big_quiet_step (fail))
  refine wpQuiet_nil ?_
  refine mixT_one (k := 7) (by kernel_rfl) rfl ?_
  go_wp2_with (go_at_call 27; refine HCALL.out.mono ?_; rintro e w4 ⟨rfl, hb4⟩)
  have hb4' : Below (w.heap.size + 3) w3 w4 := ((Below.refl _ _).drew).trans (hb4.mono (by show w.heap.size + 3 ≤ w3.heap.size; omega))
  refine ⟨Or.inr (fun _ => ⟨⟨_, hb4'⟩, rfl⟩), ?_⟩
  have hR5' : w4.heap[w.heap.size + 2]? = _ := (hb4'.block _ (by omega)).trans hR5
  have hR4' : w4.heap[w.heap.size + 1]? = _ := (hb4'.block _ (by omega)).trans hR4
  have hq0 : w4.cell? ⟨w.heap.size + 1 + 1, 1, none⟩ = some (.int .i64 0) := by rw [World.cell?, show w.heap.size + 1 + 1 = w.heap.size + 2 from rfl, hR5']; rfl
  have hqf : w4.frozen? ⟨w.heap.size + 1 + 1, 1, none⟩ = false := by rw [World.frozen?, show w.heap.size + 1 + 1 = w.heap.size + 2 from rfl, hR5']; rfl
  refine mixT_slots [8, 9, 10, 11] (fuel := 2) rfl (by kernel_rfl) (by kernel_rfl) (fun d _ _ _ _ h => by cases d <;> exact h) ?_
  simp only [opersAt, List.getElem?_toArray, List.getElem?_cons_zero, List.getElem?_cons_succ]
  repeat (go_big_quiet_step (fail))
  refine wpQuiet_nil ?_
  refine mixT_one (k := 12) (by kernel_rfl) rfl ?_
  go_wp2
  refine ⟨Or.inl (by kernel_rfl), ?_⟩
  refine mixT_one (k := 13) (by kernel_rfl) rfl ?_
  go_wp2
  refine ⟨Or.inr (fun h => h), ?_⟩
  refine mixT_nil (by kernel_rfl) ?_
  go_upto_region 50 with fail
  obtain ⟨w5, hw5⟩ : ∃ w5, w5 = w4.setCell ⟨w.heap.size + 1 + 1, 1, none⟩ (.int .i64 (limR T oid oref).2) := ⟨_, rfl⟩
  have hR5'' : w5.heap[w.heap.size + 2]? = some (.cells #[.int .u8 0, .int .i64 (limR T oid oref).2, .slice none 0 0, .int .u32 0, .int .u8 0, .int .i64 0, .int .i64 0, .int .u32 0, .int .i64 0, .slice none 0 0, .int .u32 0, .int .i64 0, .int .i64 0, .int .i64 0, .int .u32 0, .int .u32 0, .int .i64 0] 47 (0, 0)) := by rw [hw5]; exact heap_setCell_same w4 (w.heap.size + 2) 1 _ _ (.int .i64 (limR T oid oref).2) hR5'
  have h5o : ∀ b, b ≠ w.heap.size + 2 → w5.heap[b]? = w4.heap[b]? := fun b hb => by rw [hw5]; exact Below.heap_setCell _ _ _ _ hb
  have h5s : w5.heap.size = w4.heap.size := by rw [hw5]; simp [World.setCell]
  have h5b : ∀ Bb, Bb ≤ w.heap.size → Below Bb w4 w5 := fun Bb hBb => by rw [hw5]; exact (Below.refl _ _).setCell (p := ⟨w.heap.size + 1 + 1, 1, none⟩) (by show Bb ≤ w.heap.size + 1 + 1; omega) _
  have hR4'' : w5.heap[w.heap.size + 1]? = _ := (h5o _ (by omega)).trans hR4'
  rw [← hw5]
  clear hw5
  have t0 : w5.cell? ⟨w.heap.size + 1 + 1, 0, none⟩ = some (.int .u8 0) := by rw [World.cell?, show w.heap.size + 1 + 1 = w.heap.size + 2 from rfl, hR5'']; rfl
  have tf : w5.frozen? ⟨w.heap.size + 1 + 1, 0, none⟩ = false := by rw [World.frozen?, show w.heap.size + 1 + 1 = w.heap.size + 2 from rfl, hR5'']; rfl
  go_upto_region 51 with (go_at_call 33; refine (codeOf_any ((limR T oid oref).1) _).mono ?_; rintro e w9 ⟨rfl, rfl⟩)
  obtain ⟨wz, hwz⟩ : ∃ wz, wz = w5.setCell ⟨w.heap.size + 1 + 1, 0, none⟩ (.int .u8 (limR T oid oref).1) := ⟨_, rfl⟩
  have hZ5 : wz.heap[w.heap.size + 2]? = some (.cells #[.int .u8 (limR T oid oref).1, .int .i64 (limR T oid oref).2, .slice none 0 0, .int .u32 0, .int .u8 0, .int .i64 0, .int .i64 0, .int .u32 0, .int .i64 0, .slice none 0 0, .int .u32 0, .int .i64 0, .int .i64 0, .int .i64 0, .int .u32 0, .int .u32 0, .int .i64 0] 47 (0, 0)) := by
    rw [hwz]
    have := heap_setCell_same w5 (w.heap.size + 2) 0 _ _ (.int .u8 (limR T oid oref).1) hR5''
    exact this
  have hZ4 : wz.heap[w.heap.size + 1]? = some (.cells #[.int .u8 0, .int .i64 0, .slice none 0 0, .int .u32 0, .int .u8 0, .int .i64 0, .int .i64 0, .int .u32 0, .int .i64 0, .slice none 0 0, .int .u32 0, .int .i64 0, .int .i64 0, .int .i64 0, .int .u32 0, .int .u32 0, .int .i64 0] 47 (0, 0)) := by rw [hwz, Below.heap_setCell _ _ _ _ (by simp)]; exact hR4''
  have rz : rng wz (w.heap.size + 1 + 1) 0 17 = some #[.int .u8 (limR T oid oref).1, .int .i64 (limR T oid oref).2, .slice none 0 0, .int .u32 0, .int .u8 0, .int .i64 0, .int .i64 0, .int .u32 0, .int .i64 0, .slice none 0 0, .int .u32 0, .int .i64 0, .int .i64 0, .int .i64 0, .int .u32 0, .int .u32 0, .int .i64 0] := rng_whole hZ5
  have hwh := whole_of_heap hZ4
  simp only [List.size_toArray, List.length_cons, List.length_nil] at hwh
  have hzo : ∀ b, b ≠ w.heap.size + 2 → wz.heap[b]? = w5.heap[b]? := fun b hb => by rw [hwz]; exact Below.heap_setCell _ _ _ _ hb
  have hzs : wz.heap.size = w5.heap.size := by rw [hwz]; simp [World.setCell]
  have hzb : ∀ Bb, Bb ≤ w.heap.size → Below Bb w5 wz := fun Bb hBb => by rw [hwz]; exact (Below.refl _ _).setCell (p := ⟨w.heap.size + 1 + 1, 0, none⟩) (by show Bb ≤ w.heap.size + 1 + 1; omega) _
  rw [← hwz]
  clear hwz
  go_wp2
  have hfin := heap_setRow_at (ds := #[.int .u8 (limR T oid oref).1, .int .i64 (limR T oid oref).2, .slice none 0 0, .int .u32 0, .int .u8 0, .int .i64 0, .int .i64 0, .int .u32 0, .int .i64 0, .slice none 0 0, .int .u32 0, .int .i64 0, .int .i64 0, .int .i64 0, .int .u32 0, .int .u32 0, .int .i64 0]) hZ4
  refine bodyPost_ret (results_cell1 Tryd.results9 _ _ (w.heap.size + 1) _ _ _ _ rfl hfin Tryd.underlying47 rfl (by kernel_rfl)) rfl ?_
  have hbw : Below w.heap.size w (wz.setRow (w.heap.size + 1) #[.int .u8 (limR T oid oref).1, .int .i64 (limR T oid oref).2, .slice none 0 0, .int .u32 0, .int .u8 0, .int .i64 0, .int .i64 0, .int .u32 0, .int .i64 0, .slice none 0 0, .int .u32 0, .int .i64 0, .int .i64 0, .int .i64 0, .int .u32 0, .int .u32 0, .int .i64 0]) := (((hb3.drew).trans (hb4.mono (by show w.heap.size ≤ w3.heap.size; omega))).trans (h5b _ (Nat.le_refl _))).trans ((hzb _ (Nat.le_refl _)).trans (below_setRow' _ _ (by omega)))
  exact ⟨rfl, Cmd.of_below h.at' hbw, hbw.block B hBl⟩

set_option maxRecDepth 100000 in
set_option maxHeartbeats 8000000 in
theorem step_12b (w : World) (B P S : Nat) (A : Nat → Prop) (ps : List KV) (full : Bool) (o : Op) (la va : Option Addr) (ln lc vn vc : Nat) (h : BAt w B P S A ps full) (T : Tab) (hr : Rep ps T) (hk : o.kind = 12) (hid : U32 o.id) (hre : 255 < o.ref ∧ o.ref ≤ 4294967295) :
    Calls Tryd.prog 9 #[.pointer (some ⟨B, 0, none⟩), .agg (opCs o (.slice la ln lc) (.slice va vn vc))] w fun e w' => StepPost w w' e S B P A ps full { code := (limR T o.id 0).1, num := (limR T o.id 0).2 } := by
  obtain ⟨w3, HW3, hb3, hs3, hX, hR4, hR5, hB3⟩ := step_start w o la va ln lc vn vc B P S A ps full h
  have hBl : B < w.heap.size := (cell_two h.bench).2.2.2
  obtain ⟨okind, oid, oref, omin, odel, ol0, ol1, ol2, olist, ovis⟩ := o
  simp only at hk
  simp only [opCs, ansCs, sv] at hX HW3 hR4 hR5 ⊢
  have x0 : w3.cell? ⟨w.heap.size, 0, none⟩ = some (.int .u8 okind) := by rw [World.cell?, hX]; rfl
  have x1 : w3.cell? ⟨w.heap.size, 1, none⟩ = some (.int .u32 oid) := by rw [World.cell?, hX]; rfl
  have x2 : w3.cell? ⟨w.heap.size, 2, none⟩ = some (.int .u32 oref) := by rw [World.cell?, hX]; rfl
  have x3 : w3.cell? ⟨w.heap.size, 3, none⟩ = some (.int .i64 omin) := by rw [World.cell?, hX]; rfl
  have x4 : w3.cell? ⟨w.heap.size, 4, none⟩ = some (.int .i64 odel) := by rw [World.cell?, hX]; rfl
  have x5 : w3.cell? ⟨w.heap.size, 5, none⟩ = some (.int .i64 ol0) := by rw [World.cell?, hX]; rfl
  have x6 : w3.cell? ⟨w.heap.size, 6, none⟩ = some (.int .i64 ol1) := by rw [World.cell?, hX]; rfl
  have x7 : w3.cell? ⟨w.heap.size, 7, none⟩ = some (.int .i64 ol2) := by rw [World.cell?, hX]; rfl
  have x8 : w3.cell? ⟨w.heap.size, 8, none⟩ = some (.slice la ln lc) := by rw [World.cell?, hX]; rfl
  have x9 : w3.cell? ⟨w.heap.size, 9, none⟩ = some (.slice va vn vc) := by rw [World.cell?, hX]; rfl
  obtain ⟨b0, b1, -, -⟩ := cell_two hB3.bench
  subst hk
  go_enter Tryd.func9, Tryd.ntmps9
  go_upto_region 3 with fail
  rw [← HW3.out]
  have HX := hide hX
  clear hX
  obtain ⟨g1, g2⟩ := hre
  simp only at g1 g2
  have HCALL := hide (limit_q (w := w3.drew) (hB3.at'.below (Below.refl _ _).drew) hr oid (0) hid)
  have hBl3 : B < w.heap.size + 3 := by omega
  go_upto_region 35 with fail
  refine wp_region_mixT (w.heap.size + 3) [3, 5] (by kernel_rfl) ?_
  refine mixT_slots [0, 1, 2, 4, 6] (fuel := 9) rfl (by kernel_rfl) (by kernel_rfl) (fun d _ _ _ _ h => by cases d <;> exact h) ?_
  simp only [opersAt, List.getElem?_toArray, List.getElem?_cons_zero, List.getElem?_cons_succ]
  repeat (go_big_quiet_step (fail))
  refine wpQuiet_nil ?_
  refine mixT_reads [3, 5] (fuel := 7) rfl (by kernel_rfl) (by decide) (by kernel_rfl) (fun d _ _ _ _ h => by cases d <;> exact h) (ext_drew _ _) ?_
  simp only [opersAt, List.getElem?_toArray, List.getElem?_cons_zero, List.getElem?_cons_succ]
  repeat (go_big_quiet_step (fail))
  refine wpQuiet_nil ?_
  refine mixT_one (k := 7) (by kernel_rfl) rfl ?_
  go_wp2_with (go_at_call 27; refine HCALL.out.mono ?_; rintro e w4 ⟨rfl, hb4⟩)
  have hb4' : Below (w.heap.size + 3) w3 w4 := ((Below.refl _ _).drew).trans (hb4.mono (by show w.heap.size + 3 ≤ w3.heap.size; omega))
  refine ⟨Or.inr (fun _ => ⟨⟨_, hb4'⟩, rfl⟩), ?_⟩
  have hR5' : w4.heap[w.heap.size + 2]? = _ := (hb4'.block _ (by omega)).trans hR5
  have hR4' : w4.heap[w.heap.size + 1]? = _ := (hb4'.block _ (by omega)).trans hR4
  have hq0 : w4.cell? ⟨w.heap.size + 1 + 1, 1, none⟩ = some (.int .i64 0) := by rw [World.cell?, show w.heap.size + 1 + 1 = w.heap.size + 2 from rfl, hR5']; rfl
  have hqf : w4.frozen? ⟨w.heap.size + 1 + 1, 1, none⟩ = false := by rw [World.frozen?, show w.heap.size + 1 + 1 = w.heap.size + 2 from rfl, hR5']; rfl
  refine mixT_slots [8, 9, 10, 11] (fuel := 2) rfl (by kernel_rfl) (by kernel_rfl) (fun d _ _ _ _ h => by cases d <;> exact h) ?_
  simp only [opersAt, List.getElem?_toArray, List.getElem?_cons_zero, List.getElem?_cons_succ]
  repeat (go_big_quiet_step (fail))
  refine wpQuiet_nil ?_
  refine mixT_one (k := 12) (by kernel_rfl) rfl ?_
  go_wp2
  refine ⟨Or.inl (by kernel_rfl), ?_⟩
  refine mixT_one (k := 13) (by kernel_rfl) rfl ?_
  go_wp2
  refine ⟨Or.inr (fun h => h), ?_⟩
  refine mixT_nil (by kernel_rfl) ?_
  go_upto_region 50 with fail
  obtain ⟨w5, hw5⟩ : ∃ w5, w5 = w4.setCell ⟨w.heap.size + 1 + 1, 1, none⟩ (.int .i64 (limR T oid 0).2) := ⟨_, rfl⟩
  have hR5'' : w5.heap[w.heap.size + 2]? = some (.cells #[.int .u8 0, .int .i64 (limR T oid 0).2, .slice none 0 0, .int .u32 0, .int .u8 0, .int .i64 0, .int .i64 0, .int .u32 0, .int .i64 0, .slice none 0 0, .int .u32 0, .int .i64 0, .int .i64 0, .int .i64 0, .int .u32 0, .int .u32 0, .int .i64 0] 47 (0, 0)) := by rw [hw5]; exact heap_setCell_same w4 (w.heap.size + 2) 1 _ _ (.int .i64 (limR T oid 0).2) hR5'
  have h5o : ∀ b, b ≠ w.heap.size + 2 → w5.heap[b]? = w4.heap[b]? := fun b hb => by rw [hw5]; exact Below.heap_setCell _ _ _ _ hb
  have h5s : w5.heap.size = w4.heap.size := by rw [hw5]; simp [World.setCell]
  have h5b : ∀ Bb, Bb ≤ w.heap.size → Below Bb w4 w5 := fun Bb hBb => by rw [hw5]; exact (Below.refl _ _).setCell (p := ⟨w.heap.size + 1 + 1, 1, none⟩) (by show Bb ≤ w.heap.size + 1 + 1; omega) _
  have hR4'' : w5.heap[w.heap.size + 1]? = _ := (h5o _ (by omega)).trans hR4'
  rw [← hw5]
  clear hw5
  have t0 : w5.cell? ⟨w.heap.size + 1 + 1, 0, none⟩ = some (.int .u8 0) := by rw [World.cell?, show w.heap.size + 1 + 1 = w.heap.size + 2 from rfl, hR5'']; rfl
  have tf : w5.frozen? ⟨w.heap.size + 1 + 1, 0, none⟩ = false := by rw [World.frozen?, show w.heap.size + 1 + 1 = w.heap.size + 2 from rfl, hR5'']; rfl
  go_upto_region 51 with (go_at_call 33; refine (codeOf_any ((limR T oid 0).1) _).mono ?_; rintro e w9 ⟨rfl, rfl⟩)
  obtain ⟨wz, hwz⟩ : ∃ wz, wz = w5.setCell ⟨w.heap.size + 1 + 1, 0, none⟩ (.int .u8 (limR T oid 0).1) := ⟨_, rfl⟩
  have hZ5 : wz.heap[w.heap.size + 2]? = some (.cells #[.int .u8 (limR T oid 0).1, .int .i64 (limR T oid 0).2, .slice none 0 0, .int .u32 0, .int .u8 0, .int .i64 0, .int .i64 0, .int .u32 0, .int .i64 0, .slice none 0 0, .int .u32 0, .int .i64 0, .int .i64 0, .int .i64 0, .int .u32 0, .int .u32 0, .int .i64 0] 47 (0, 0)) := by
    rw [hwz]
    have := heap_setCell_same w5 (w.heap.size + 2) 0 _ _ (.int .u8 (limR T oid 0).1) hR5''
    exact this
  have hZ4 : wz.heap[w.heap.size + 1]? = some (.cells #[.int .u8 0, .int .i64 0, .slice none 0 0, .int .u32 0, .int .u8 0, .int .i64 0, .int .i64 0, .int .u32 0, .int .i64 0, .slice none 0 0, .int .u32 0, .int .i64 0, .int .i64 0, .int .i64 0, .int .u32 0, .int .u32 0, .int .i64 0] 47 (0, 0)) := by rw [hwz, Below.heap_setCell _ _ _ _ (by simp)]; exact hR4''
  have rz : rng wz (w.heap.size + 1 + 1) 0 17 = some #[.int .u8 (limR T oid 0).1, .int .i64 (limR T oid 0).2, .slice none 0 0, .int .u32 0, .int .u8 0, .int .i64 0, .int .i64 0, .int .u32 0, .int .i64 0, .slice none 0 0, .int .u32 0, .int .i64 0, .int .i64 0, .int .i64 0, .int .u32 0, .int .u32 0, .int .i64 0] := rng_whole hZ5
  have hwh := whole_of_heap hZ4
  simp only [List.size_toArray, List.length_cons, List.length_nil] at hwh
  have hzo : ∀ b, b ≠ w.heap.size + 2 → wz.heap[b]? = w5.heap[b]? := fun b hb => by rw [hwz]; exact Below.heap_setCell _ _ _ _ hb
  have hzs : wz.heap.size = w5.heap.size := by rw [hwz]; simp [World.setCell]
  have hzb : ∀ Bb, Bb ≤ w.heap.size → Below Bb w5 wz := fun Bb hBb => by rw [hwz]; exact (Below.refl _ _).setCell (p := ⟨w.heap.size + 1 + 1, 0, none⟩) (by show Bb ≤ w.heap.size + 1 + 1; omega) _
  rw [← hwz]
  clear hwz
  go_wp2
  have hfin := heap_setRow_at (ds := #[.int .u8 (limR T oid 0).1, .int .i64 (limR T oid 0).2, .slice none 0 0, .int .u32 0, .int .u8 0, .int .i64 0, .int .i64 0, .int .u32 0, .int .i64 0, .slice none 0 0, .int .u32 0, .int .i64 0, .int .i64 0, .int .i64 0, .int .u32 0, .int .u32 0, .int .i64 0]) hZ4
  refine bodyPost_ret (results_cell1 Tryd.results9 _ _ (w.heap.size + 1) _ _ _ _ rfl hfin Tryd.underlying47 rfl (by kernel_rfl)) rfl ?_
  have hbw : Below w.heap.size w (wz.setRow (w.heap.size + 1) #[.int .u8 (limR T oid 0).1, .int .i64 (limR T oid 0).2, .slice none 0 0, .int .u32 0, .int .u8 0, .int .i64 0, .int .i64 0, .int .u32 0, .int .i64 0, .slice none 0 0, .int .u32 0, .int .i64 0, .int .i64 0, .int .i64 0, .int .u32 0, .int .u32 0, .int .i64 0]) := (((hb3.drew).trans (hb4.mono (by show w.heap.size ≤ w3.heap.size; omega))).trans (h5b _ (Nat.le_refl _))).trans ((hzb _ (Nat.le_refl _)).trans (below_setRow' _ _ (by omega)))
  exact ⟨rfl, Cmd.of_below h.at' hbw, hbw.block B hBl⟩

end Go.Proofs.Qxb6500665aDoor
