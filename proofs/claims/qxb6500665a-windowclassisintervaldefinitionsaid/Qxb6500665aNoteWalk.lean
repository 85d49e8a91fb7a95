/- note, walked. -/
import Derived.Test.Qxb6500665aHist
import Derived.Test.Qxb6500665aMix4
namespace Go.Proofs.Qxb6500665a
open Go.RowKit Go.Proofs.Qxb6500665a.Cal

attribute [local go_sem] ext_const Ext.cell Ext.frozen Ext.rng Ext.whole

def noteV (o : Op) (code num : Int) (s : SV) (hv : List HVer) : List HVer := if code = 0 ∧ o.kind = 3 then hv ++ [⟨num, o.minute, s, o.visits⟩] else hv
def noteS (o : Op) (code : Int) (hs : List HSub) : List HSub := if code = 0 ∧ o.kind = 5 then hs ++ [⟨o.id, o.ref, o.minute⟩] else hs

theorem cell_three {w : World} {b : Nat} {x y z : Value} {t : TypeId} (h : w.heap[b]? = some (.cells #[x, y, z] t (0, 0))) : w.cell? ⟨b, 0, none⟩ = some x ∧ w.cell? ⟨b, 1, none⟩ = some y ∧ w.cell? ⟨b, 2, none⟩ = some z ∧ (∀ j, w.frozen? ⟨b, j, none⟩ = false) ∧ b < w.heap.size :=
  ⟨by rw [World.cell?, h]; rfl, by rw [World.cell?, h]; rfl, by rw [World.cell?, h]; rfl, fun j => by rw [World.frozen?, h]; rfl, (Array.getElem?_eq_some_iff.1 h).1⟩

theorem note_start (w : World) (o : Op) (a : Ans) (la va : Option Addr) (ln lc vn vc : Nat) :
    ∃ w2, Hid (w2 = (w.alloc (.cells (opCs o (.slice la ln lc) (.slice va vn vc)) 37)).alloc (.cells (ansCs a) 50)) ∧ Below w.heap.size w w2 ∧ w2.heap.size = w.heap.size + 2 ∧
      w2.heap[w.heap.size]? = some (.cells (opCs o (.slice la ln lc) (.slice va vn vc)) 37 (0, 0)) ∧ w2.heap[w.heap.size + 1]? = some (.cells (ansCs a) 50 (0, 0)) := by
  refine ⟨_, rfl, ((Below.refl _ _).alloc (Nat.le_refl _) _).alloc (by simp) _, by simp, ?_, ?_⟩
  · rw [Below.heap_alloc _ _ _ (by simp), heap_alloc_at]
  · have := heap_alloc_at (w.alloc (.cells (opCs o (.slice la ln lc) (.slice va vn vc)) 37)) (.cells (ansCs a) 50)
    simpa using this

set_option maxRecDepth 100000 in
set_option maxHeartbeats 2000000 in
theorem note_no (w : World) (h base : Nat) (D : Nat → Prop) (hv : List HVer) (hs : List HSub) (N : Nat) (o : Op) (a : Ans) (la va : Option Addr) (ln lc vn vc : Nat) (k : HistAt w h base D hv hs N) (hb : base ≤ w.heap.size) (hc : a.code ≠ 0) :
    Calls Try.prog 11 #[.pointer (some ⟨h, 0, none⟩), .agg (opCs o (.slice la ln lc) (.slice va vn vc)), .agg (ansCs a)] w fun e w' => e = .returned (.tuple #[]) ∧ NotePost w w' h base D (hv) (hs) (N + 1) := by
  obtain ⟨w2, HW2, hb2, hs2, hX, hY⟩ := note_start w o a la va ln lc vn vc
  obtain ⟨okind, oid, oref, omin, odel, ol0, ol1, ol2, olist, ovis⟩ := o
  obtain ⟨ac, an, ⟨aa, ab, ad⟩, p0, p1, p2, p3, v0, v1, ⟨ae, af, ag⟩, a0, a1, a2, a3, s0, s1, s2⟩ := a
  simp only [opCs, ansCs, sv] at hX hY HW2 ⊢
  simp only at hc
  have y0 : w2.cell? ⟨w.heap.size + 1, 0, none⟩ = some (.int .u8 ac) := by rw [World.cell?, hY]; rfl
  have y1 : w2.cell? ⟨w.heap.size + 1, 1, none⟩ = some (.int .i64 an) := by rw [World.cell?, hY]; rfl
  have x0 : w2.cell? ⟨w.heap.size, 0, none⟩ = some (.int .u8 okind) := by rw [World.cell?, hX]; rfl
  have x1 : w2.cell? ⟨w.heap.size, 1, none⟩ = some (.int .u32 oid) := by rw [World.cell?, hX]; rfl
  have x2 : w2.cell? ⟨w.heap.size, 2, none⟩ = some (.int .u32 oref) := by rw [World.cell?, hX]; rfl
  have x3 : w2.cell? ⟨w.heap.size, 3, none⟩ = some (.int .i64 omin) := by rw [World.cell?, hX]; rfl
  have x9 : w2.cell? ⟨w.heap.size, 9, none⟩ = some (.slice va vn vc) := by rw [World.cell?, hX]; rfl
  clear hX hY
  have hb0 : (ac != 0) = true := by simp [hc]
  clear hc
  go_enter Try.func11, Try.ntmps11
  go_upto_region 1 with fail
  rw [← HW2.out]
  go_wp2
  refine bodyPost_ret (results_none rfl _ _ _) rfl ?_
  exact ⟨rfl, NotePost.of_below k hb hb2⟩

set_option maxRecDepth 100000 in
set_option maxHeartbeats 2000000 in
theorem note_other (w : World) (h base : Nat) (D : Nat → Prop) (hv : List HVer) (hs : List HSub) (N : Nat) (o : Op) (a : Ans) (la va : Option Addr) (ln lc vn vc : Nat) (k : HistAt w h base D hv hs N) (hb : base ≤ w.heap.size) (hc : a.code = 0) (k3 : o.kind ≠ 3) (k5 : o.kind ≠ 5) (k2 : o.kind ≠ 2) :
    Calls Try.prog 11 #[.pointer (some ⟨h, 0, none⟩), .agg (opCs o (.slice la ln lc) (.slice va vn vc)), .agg (ansCs a)] w fun e w' => e = .returned (.tuple #[]) ∧ NotePost w w' h base D (hv) (hs) (N + 1) := by
  obtain ⟨w2, HW2, hb2, hs2, hX, hY⟩ := note_start w o a la va ln lc vn vc
  obtain ⟨okind, oid, oref, omin, odel, ol0, ol1, ol2, olist, ovis⟩ := o
  obtain ⟨ac, an, ⟨aa, ab, ad⟩, p0, p1, p2, p3, v0, v1, ⟨ae, af, ag⟩, a0, a1, a2, a3, s0, s1, s2⟩ := a
  simp only [opCs, ansCs, sv] at hX hY HW2 ⊢
  simp only at hc k3 k5 k2
  have y0 : w2.cell? ⟨w.heap.size + 1, 0, none⟩ = some (.int .u8 ac) := by rw [World.cell?, hY]; rfl
  have y1 : w2.cell? ⟨w.heap.size + 1, 1, none⟩ = some (.int .i64 an) := by rw [World.cell?, hY]; rfl
  have x0 : w2.cell? ⟨w.heap.size, 0, none⟩ = some (.int .u8 okind) := by rw [World.cell?, hX]; rfl
  have x1 : w2.cell? ⟨w.heap.size, 1, none⟩ = some (.int .u32 oid) := by rw [World.cell?, hX]; rfl
  have x2 : w2.cell? ⟨w.heap.size, 2, none⟩ = some (.int .u32 oref) := by rw [World.cell?, hX]; rfl
  have x3 : w2.cell? ⟨w.heap.size, 3, none⟩ = some (.int .i64 omin) := by rw [World.cell?, hX]; rfl
  have x9 : w2.cell? ⟨w.heap.size, 9, none⟩ = some (.slice va vn vc) := by rw [World.cell?, hX]; rfl
  clear hX hY
  subst hc
  have b3 : (okind == 3) = false := by simp [k3]
  have b5 : (okind == 5) = false := by simp [k5]
  have b2 : (okind == 2) = false := by simp [k2]
  clear k3 k5 k2
  go_enter Try.func11, Try.ntmps11
  go_upto_region 1 with fail
  rw [← HW2.out]
  go_wp2
  refine bodyPost_end (results_none rfl _ _ _) rfl ?_
  exact ⟨rfl, NotePost.of_below k hb hb2⟩

set_option maxRecDepth 100000 in
set_option maxHeartbeats 2000000 in
theorem note_am (w : World) (h base : Nat) (D : Nat → Prop) (hv : List HVer) (hs : List HSub) (N : Nat) (o : Op) (a : Ans) (la va : Option Addr) (ln lc vn vc : Nat) (k : HistAt w h base D hv hs N) (hb : base ≤ w.heap.size) (hN : N ≤ 1000000) (hc : a.code = 0) (hk : o.kind = 3) (hn1 : 0 ≤ a.num) (hn2 : a.num ≤ 4294967295) :
    Calls Try.prog 11 #[.pointer (some ⟨h, 0, none⟩), .agg (opCs o (.slice la ln lc) (.slice va vn vc)), .agg (ansCs a)] w fun e w' => e = .returned (.tuple #[]) ∧ NotePost w w' h base D (hv ++ [⟨a.num, o.minute, (va, vn, vc), o.visits⟩]) (hs) (N + 1) := by
  obtain ⟨w2, HW2, hb2, hs2, hX, hY⟩ := note_start w o a la va ln lc vn vc
  obtain ⟨okind, oid, oref, omin, odel, ol0, ol1, ol2, olist, ovis⟩ := o
  obtain ⟨ac, an, ⟨aa, ab, ad⟩, p0, p1, p2, p3, v0, v1, ⟨ae, af, ag⟩, a0, a1, a2, a3, s0, s1, s2⟩ := a
  simp only [opCs, ansCs, sv] at hX hY HW2 ⊢
  simp only at hc hk hn1 hn2
  obtain ⟨⟨vv, ss, pv, hp, h1, o1, o2, o3, h5, h6, h7, h8⟩, l1, l2, hD, hlt⟩ := k
  have y0 : w2.cell? ⟨w.heap.size + 1, 0, none⟩ = some (.int .u8 ac) := by rw [World.cell?, hY]; rfl
  have y1 : w2.cell? ⟨w.heap.size + 1, 1, none⟩ = some (.int .i64 an) := by rw [World.cell?, hY]; rfl
  have x0 : w2.cell? ⟨w.heap.size, 0, none⟩ = some (.int .u8 okind) := by rw [World.cell?, hX]; rfl
  have x1 : w2.cell? ⟨w.heap.size, 1, none⟩ = some (.int .u32 oid) := by rw [World.cell?, hX]; rfl
  have x2 : w2.cell? ⟨w.heap.size, 2, none⟩ = some (.int .u32 oref) := by rw [World.cell?, hX]; rfl
  have x3 : w2.cell? ⟨w.heap.size, 3, none⟩ = some (.int .i64 omin) := by rw [World.cell?, hX]; rfl
  have x9 : w2.cell? ⟨w.heap.size, 9, none⟩ = some (.slice va vn vc) := by rw [World.cell?, hX]; rfl
  clear hX hY
  subst hc
  subst hk
  have h12 := (hb2.block h (hlt h hD).2).trans h1
  obtain ⟨c0, c1, c2, hfr, -⟩ := cell_three h12
  have hf := hfr 0
  have hhl : h < w.heap.size + 2 := by have := (hlt h hD).2; omega
  have hxl : w.heap.size < w.heap.size + 2 := by omega
  have hyl : w.heap.size + 1 < w.heap.size + 2 := by omega
  clear hfr
  have HO := hide o1
  have H1 := hide h1
  clear h1 h12
  go_enter Try.func11, Try.ntmps11
  go_upto_region 1 with fail
  rw [← HW2.out]
  go_upto_region 4 with fail
  refine wp_region_mixT (w.heap.size + 2) [4, 6, 9, 11] (by kernel_rfl) ?_
  refine mixT_slots [0, 1, 2, 3, 5, 8, 10] (fuel := 11) rfl (by kernel_rfl) (by kernel_rfl) (fun d _ _ _ _ h => by cases d <;> exact h) ?_
  simp only [opersAt, List.getElem?_toArray, List.getElem?_cons_zero, List.getElem?_cons_succ]
  repeat (go_big_quiet_step (fail))
  refine wpQuiet_nil ?_
  refine mixT_reads [4, 6, 9, 11] (fuel := 7) rfl (by kernel_rfl) (by decide) (by kernel_rfl) (fun d _ _ _ _ h => by cases d <;> exact h) (ext_drew _ _) ?_
  simp only [opersAt, List.getElem?_toArray, List.getElem?_cons_zero, List.getElem?_cons_succ]
  repeat (go_big_quiet_step (fail))
  refine wpQuiet_nil ?_
  refine mixT_slots [7] (fuel := 6) rfl (by kernel_rfl) (by kernel_rfl) (fun d _ _ _ _ h => by cases d <;> exact h) ?_
  simp only [opersAt, List.getElem?_toArray, List.getElem?_cons_zero, List.getElem?_cons_succ]
  repeat (go_big_quiet_step (fail))
  refine wpQuiet_nil ?_
  refine mixT_one (k := 12) (by kernel_rfl) rfl ?_
  go_wp2
  refine ⟨Or.inr (fun h => h), ?_⟩
  refine mixT_one (k := 13) (by kernel_rfl) rfl ?_
  go_wp2
  refine ⟨Or.inr (fun h => h.elim fun x hx => ⟨⟨_, (hx ▸ x.below).alloc (by show _ ≤ w2.heap.size; omega) _⟩, rfl⟩), ?_⟩
  obtain ⟨w3, hw3⟩ : ∃ w3, w3 = (w2.alloc (.cells #[.int .u32 an, .int .i64 omin, .slice va vn vc] 44)).drew := ⟨_, rfl⟩
  have hb3 : Below w.heap.size w w3 := by rw [hw3]; exact (hb2.alloc hb2.size _).drew
  have hs3 : w3.heap.size = w2.heap.size + 1 := by rw [hw3]; simp
  have hr3 : rng w3 (w.heap.size + 2) 0 3 = some (hvCs ⟨an, omin, (va, vn, vc), ovis⟩) := by rw [hw3, rng_drew, rng_alloc_at _ _ _ _ _ _ _ hs2.symm]; rfl
  rw [← hw3]
  clear hw3
  have HO3 := hide (OwnR.below HO.out hb3 (Nat.le_refl _))
  refine mixT_one (k := 14) (by kernel_rfl) rfl ?_
  go_wp2_with (at_builtin; refine wpList_app1 rfl _ _ 26 rfl base 44 hvCs Try.underlying26 Try.info44 rfl (by decide) hvCs_size hvCs_one _ hv rfl HO3.out _ rfl _ hr3 (by omega) (by unfold maxLen; omega) (by omega) ?_; intro v' w4 hown4 hsame4 hb4 hat)
  refine ⟨Or.inl (by kernel_rfl), ?_⟩
  have hh4 : w4.heap[h]? = some (.cells #[vv, ss, pv] 30 (0, 0)) := by
    rw [hsame4 h ⟨by have := (hlt h hD).2; omega, fun e => (h6 h e).2.1 rfl⟩, hb3.block h (hlt h hD).2]; exact H1.out
  obtain ⟨f0, f1, f2, ff, -⟩ := cell_three hh4
  have ffj := ff 0
  clear ff hh4
  obtain ⟨na, ncap, hnv⟩ := hown4.form
  simp only [List.length_append, List.length_cons, List.length_nil, Nat.zero_add] at hnv
  subst hnv
  simp only [Act.put, List.setIfInBounds_toArray, List.set_cons_zero, List.set_cons_succ]
  refine mixT_slots [15, 16] (fuel := 1) rfl (by kernel_rfl) (by kernel_rfl) (fun d _ _ _ _ h => by cases d <;> exact h) ?_
  simp only [opersAt, List.getElem?_toArray, List.getElem?_cons_zero, List.getElem?_cons_succ]
  repeat (go_big_quiet_step (fail))
  refine wpQuiet_nil ?_
  refine mixT_one (k := 17) (by kernel_rfl) rfl ?_
  go_wp2
  refine ⟨Or.inl (by kernel_rfl), ?_⟩
  refine mixT_nil (by kernel_rfl) ?_
  go_wp2
  refine bodyPost_end (results_none rfl _ _ _) rfl ?_
  exact ⟨rfl, NotePost.putV hD hlt hb H1.out o2 o3 h5 (by simp; omega) l2 h6 h7 h8 hb3 hown4 hsame4 hb4 hat⟩

set_option maxRecDepth 100000 in
set_option maxHeartbeats 2000000 in
theorem note_en (w : World) (h base : Nat) (D : Nat → Prop) (hv : List HVer) (hs : List HSub) (N : Nat) (o : Op) (a : Ans) (la va : Option Addr) (ln lc vn vc : Nat) (k : HistAt w h base D hv hs N) (hb : base ≤ w.heap.size) (hN : N ≤ 1000000) (hc : a.code = 0) (hk : o.kind = 5) :
    Calls Try.prog 11 #[.pointer (some ⟨h, 0, none⟩), .agg (opCs o (.slice la ln lc) (.slice va vn vc)), .agg (ansCs a)] w fun e w' => e = .returned (.tuple #[]) ∧ NotePost w w' h base D (hv) (hs ++ [⟨o.id, o.ref, o.minute⟩]) (N + 1) := by
  obtain ⟨w2, HW2, hb2, hs2, hX, hY⟩ := note_start w o a la va ln lc vn vc
  obtain ⟨okind, oid, oref, omin, odel, ol0, ol1, ol2, olist, ovis⟩ := o
  obtain ⟨ac, an, ⟨aa, ab, ad⟩, p0, p1, p2, p3, v0, v1, ⟨ae, af, ag⟩, a0, a1, a2, a3, s0, s1, s2⟩ := a
  simp only [opCs, ansCs, sv] at hX hY HW2 ⊢
  simp only at hc hk
  obtain ⟨⟨vv, ss, pv, hp, h1, o1, o2, o3, h5, h6, h7, h8⟩, l1, l2, hD, hlt⟩ := k
  have y0 : w2.cell? ⟨w.heap.size + 1, 0, none⟩ = some (.int .u8 ac) := by rw [World.cell?, hY]; rfl
  have y1 : w2.cell? ⟨w.heap.size + 1, 1, none⟩ = some (.int .i64 an) := by rw [World.cell?, hY]; rfl
  have x0 : w2.cell? ⟨w.heap.size, 0, none⟩ = some (.int .u8 okind) := by rw [World.cell?, hX]; rfl
  have x1 : w2.cell? ⟨w.heap.size, 1, none⟩ = some (.int .u32 oid) := by rw [World.cell?, hX]; rfl
  have x2 : w2.cell? ⟨w.heap.size, 2, none⟩ = some (.int .u32 oref) := by rw [World.cell?, hX]; rfl
  have x3 : w2.cell? ⟨w.heap.size, 3, none⟩ = some (.int .i64 omin) := by rw [World.cell?, hX]; rfl
  have x9 : w2.cell? ⟨w.heap.size, 9, none⟩ = some (.slice va vn vc) := by rw [World.cell?, hX]; rfl
  clear hX hY
  subst hc
  subst hk
  have h12 := (hb2.block h (hlt h hD).2).trans h1
  obtain ⟨c0, c1, c2, hfr, -⟩ := cell_three h12
  have hf := hfr 1
  have hhl : h < w.heap.size + 2 := by have := (hlt h hD).2; omega
  have hxl : w.heap.size < w.heap.size + 2 := by omega
  have hyl : w.heap.size + 1 < w.heap.size + 2 := by omega
  clear hfr
  have HO := hide o2
  have H1 := hide h1
  clear h1 h12
  go_enter Try.func11, Try.ntmps11
  go_upto_region 1 with fail
  rw [← HW2.out]
  go_upto_region 6 with fail
  refine wp_region_mixT (w.heap.size + 2) [4, 6, 8, 10] (by kernel_rfl) ?_
  refine mixT_slots [0, 1, 2, 3, 5, 7, 9] (fuel := 10) rfl (by kernel_rfl) (by kernel_rfl) (fun d _ _ _ _ h => by cases d <;> exact h) ?_
  simp only [opersAt, List.getElem?_toArray, List.getElem?_cons_zero, List.getElem?_cons_succ]
  repeat (go_big_quiet_step (fail))
  refine wpQuiet_nil ?_
  refine mixT_reads [4, 6, 8, 10] (fuel := 6) rfl (by kernel_rfl) (by decide) (by kernel_rfl) (fun d _ _ _ _ h => by cases d <;> exact h) (ext_drew _ _) ?_
  simp only [opersAt, List.getElem?_toArray, List.getElem?_cons_zero, List.getElem?_cons_succ]
  repeat (go_big_quiet_step (fail))
  refine wpQuiet_nil ?_
  refine mixT_one (k := 11) (by kernel_rfl) rfl ?_
  go_wp2
  refine ⟨Or.inr (fun h => h), ?_⟩
  refine mixT_one (k := 12) (by kernel_rfl) rfl ?_
  go_wp2
  refine ⟨Or.inr (fun h => h.elim fun x hx => ⟨⟨_, (hx ▸ x.below).alloc (by show _ ≤ w2.heap.size; omega) _⟩, rfl⟩), ?_⟩
  obtain ⟨w3, hw3⟩ : ∃ w3, w3 = (w2.alloc (.cells #[.int .u32 oid, .int .u32 oref, .int .i64 omin] 48)).drew := ⟨_, rfl⟩
  have hb3 : Below w.heap.size w w3 := by rw [hw3]; exact (hb2.alloc hb2.size _).drew
  have hs3 : w3.heap.size = w2.heap.size + 1 := by rw [hw3]; simp
  have hr3 : rng w3 (w.heap.size + 2) 0 3 = some (suCs ⟨oid, oref, omin⟩) := by rw [hw3, rng_drew, rng_alloc_at _ _ _ _ _ _ _ hs2.symm]; rfl
  rw [← hw3]
  clear hw3
  have HO3 := hide (OwnR.below HO.out hb3 (Nat.le_refl _))
  refine mixT_one (k := 13) (by kernel_rfl) rfl ?_
  go_wp2_with (at_builtin; refine wpList_app1 rfl _ _ 27 rfl base 48 suCs Try.underlying27 Try.info48 rfl (by decide) suCs_size suCs_one _ hs rfl HO3.out _ rfl _ hr3 (by omega) (by unfold maxLen; omega) (by omega) ?_; intro v' w4 hown4 hsame4 hb4 hat)
  refine ⟨Or.inl (by kernel_rfl), ?_⟩
  have hh4 : w4.heap[h]? = some (.cells #[vv, ss, pv] 30 (0, 0)) := by
    rw [hsame4 h ⟨by have := (hlt h hD).2; omega, fun e => (h7 h e).2.1 rfl⟩, hb3.block h (hlt h hD).2]; exact H1.out
  obtain ⟨f0, f1, f2, ff, -⟩ := cell_three hh4
  have ffj := ff 1
  clear ff hh4
  obtain ⟨na, ncap, hnv⟩ := hown4.form
  simp only [List.length_append, List.length_cons, List.length_nil, Nat.zero_add] at hnv
  subst hnv
  simp only [Act.put, List.setIfInBounds_toArray, List.set_cons_zero, List.set_cons_succ]
  refine mixT_slots [14, 15] (fuel := 1) rfl (by kernel_rfl) (by kernel_rfl) (fun d _ _ _ _ h => by cases d <;> exact h) ?_
  simp only [opersAt, List.getElem?_toArray, List.getElem?_cons_zero, List.getElem?_cons_succ]
  repeat (go_big_quiet_step (fail))
  refine wpQuiet_nil ?_
  refine mixT_one (k := 16) (by kernel_rfl) rfl ?_
  go_wp2
  refine ⟨Or.inl (by kernel_rfl), ?_⟩
  refine mixT_nil (by kernel_rfl) ?_
  go_wp2
  refine bodyPost_end (results_none rfl _ _ _) rfl ?_
  exact ⟨rfl, NotePost.putS hD hlt hb H1.out o1 o3 h5 l1 (by simp; omega) h6 h7 h8 hb3 hown4 hsame4 hb4 hat⟩

set_option maxRecDepth 100000 in
set_option maxHeartbeats 2000000 in
theorem note_pa (w : World) (h base : Nat) (D : Nat → Prop) (hv : List HVer) (hs : List HSub) (N : Nat) (o : Op) (a : Ans) (la va : Option Addr) (ln lc vn vc : Nat) (k : HistAt w h base D hv hs N) (hb : base ≤ w.heap.size) (hN : N ≤ 1000000) (hc : a.code = 0) (hk : o.kind = 2) :
    Calls Try.prog 11 #[.pointer (some ⟨h, 0, none⟩), .agg (opCs o (.slice la ln lc) (.slice va vn vc)), .agg (ansCs a)] w fun e w' => e = .returned (.tuple #[]) ∧ NotePost w w' h base D (hv) (hs) (N + 1) := by
  obtain ⟨w2, HW2, hb2, hs2, hX, hY⟩ := note_start w o a la va ln lc vn vc
  obtain ⟨okind, oid, oref, omin, odel, ol0, ol1, ol2, olist, ovis⟩ := o
  obtain ⟨ac, an, ⟨aa, ab, ad⟩, p0, p1, p2, p3, v0, v1, ⟨ae, af, ag⟩, a0, a1, a2, a3, s0, s1, s2⟩ := a
  simp only [opCs, ansCs, sv] at hX hY HW2 ⊢
  simp only at hc hk
  obtain ⟨⟨vv, ss, pv, hp, h1, o1, o2, o3, h5, h6, h7, h8⟩, l1, l2, hD, hlt⟩ := k
  have y0 : w2.cell? ⟨w.heap.size + 1, 0, none⟩ = some (.int .u8 ac) := by rw [World.cell?, hY]; rfl
  have y1 : w2.cell? ⟨w.heap.size + 1, 1, none⟩ = some (.int .i64 an) := by rw [World.cell?, hY]; rfl
  have x0 : w2.cell? ⟨w.heap.size, 0, none⟩ = some (.int .u8 okind) := by rw [World.cell?, hX]; rfl
  have x1 : w2.cell? ⟨w.heap.size, 1, none⟩ = some (.int .u32 oid) := by rw [World.cell?, hX]; rfl
  have x2 : w2.cell? ⟨w.heap.size, 2, none⟩ = some (.int .u32 oref) := by rw [World.cell?, hX]; rfl
  have x3 : w2.cell? ⟨w.heap.size, 3, none⟩ = some (.int .i64 omin) := by rw [World.cell?, hX]; rfl
  have x9 : w2.cell? ⟨w.heap.size, 9, none⟩ = some (.slice va vn vc) := by rw [World.cell?, hX]; rfl
  clear hX hY
  subst hc
  subst hk
  have h12 := (hb2.block h (hlt h hD).2).trans h1
  obtain ⟨c0, c1, c2, hfr, -⟩ := cell_three h12
  have hf := hfr 2
  have hhl : h < w.heap.size + 2 := by have := (hlt h hD).2; omega
  have hxl : w.heap.size < w.heap.size + 2 := by omega
  have hyl : w.heap.size + 1 < w.heap.size + 2 := by omega
  clear hfr
  have HO := hide o3
  have H1 := hide h1
  clear h1 h12
  go_enter Try.func11, Try.ntmps11
  go_upto_region 1 with fail
  rw [← HW2.out]
  go_upto_region 8 with fail
  refine wp_region_mixT (w.heap.size + 2) [4, 6] (by kernel_rfl) ?_
  refine mixT_slots [0, 1, 2, 3, 5] (fuel := 7) rfl (by kernel_rfl) (by kernel_rfl) (fun d _ _ _ _ h => by cases d <;> exact h) ?_
  simp only [opersAt, List.getElem?_toArray, List.getElem?_cons_zero, List.getElem?_cons_succ]
  repeat (go_big_quiet_step (fail))
  refine wpQuiet_nil ?_
  refine mixT_reads [4, 6] (fuel := 5) rfl (by kernel_rfl) (by decide) (by kernel_rfl) (fun d _ _ _ _ h => by cases d <;> exact h) (ext_drew _ _) ?_
  simp only [opersAt, List.getElem?_toArray, List.getElem?_cons_zero, List.getElem?_cons_succ]
  repeat (go_big_quiet_step (fail))
  refine wpQuiet_nil ?_
  refine mixT_one (k := 7) (by kernel_rfl) rfl ?_
  go_wp2
  refine ⟨Or.inr (fun h => h.elim fun x hx => ⟨⟨_, (hx ▸ x.below).alloc (by show _ ≤ w2.heap.size; omega) _⟩, rfl⟩), ?_⟩
  obtain ⟨w3, hw3⟩ : ∃ w3, w3 = (w2.alloc (.cells #[.int .u32 oid] 33)).drew := ⟨_, rfl⟩
  have hb3 : Below w.heap.size w w3 := by rw [hw3]; exact (hb2.alloc hb2.size _).drew
  have hs3 : w3.heap.size = w2.heap.size + 1 := by rw [hw3]; simp
  have hr3 : rng w3 (w.heap.size + 2) 0 1 = some (u32Cs oid) := by rw [hw3, rng_drew, rng_alloc_at _ _ _ _ _ _ _ hs2.symm]; rfl
  rw [← hw3]
  clear hw3
  have HO3 := hide (OwnR.below HO.out hb3 (Nat.le_refl _))
  refine mixT_one (k := 8) (by kernel_rfl) rfl ?_
  go_wp2_with (at_builtin; refine wpList_app1 rfl _ _ 28 rfl base 33 u32Cs Try.underlying28 Try.info33 rfl (by decide) u32Cs_size u32Cs_one _ hp rfl HO3.out _ rfl _ hr3 (by omega) (by unfold maxLen; omega) (by omega) ?_; intro v' w4 hown4 hsame4 hb4 hat)
  refine ⟨Or.inl (by kernel_rfl), ?_⟩
  have hh4 : w4.heap[h]? = some (.cells #[vv, ss, pv] 30 (0, 0)) := by
    rw [hsame4 h ⟨by have := (hlt h hD).2; omega, fun e => (h8 h e).2 rfl⟩, hb3.block h (hlt h hD).2]; exact H1.out
  obtain ⟨f0, f1, f2, ff, -⟩ := cell_three hh4
  have ffj := ff 2
  clear ff hh4
  obtain ⟨na, ncap, hnv⟩ := hown4.form
  simp only [List.length_append, List.length_cons, List.length_nil, Nat.zero_add] at hnv
  subst hnv
  simp only [Act.put, List.setIfInBounds_toArray, List.set_cons_zero, List.set_cons_succ]
  refine mixT_slots [9, 10] (fuel := 1) rfl (by kernel_rfl) (by kernel_rfl) (fun d _ _ _ _ h => by cases d <;> exact h) ?_
  simp only [opersAt, List.getElem?_toArray, List.getElem?_cons_zero, List.getElem?_cons_succ]
  repeat (go_big_quiet_step (fail))
  refine wpQuiet_nil ?_
  refine mixT_one (k := 11) (by kernel_rfl) rfl ?_
  go_wp2
  refine ⟨Or.inl (by kernel_rfl), ?_⟩
  refine mixT_nil (by kernel_rfl) ?_
  go_wp2
  refine bodyPost_end (results_none rfl _ _ _) rfl ?_
  exact ⟨rfl, NotePost.putP hD hlt hb H1.out o1 o2 (by simp; omega) l1 l2 h6 h7 h8 hb3 hown4 hsame4 hb4 hat⟩

theorem note_calls (w : World) (h base : Nat) (D : Nat → Prop) (hv : List HVer) (hs : List HSub) (N : Nat) (o : Op) (a : Ans) (la va : Option Addr) (ln lc vn vc : Nat) (k : HistAt w h base D hv hs N) (hb : base ≤ w.heap.size) (hN : N ≤ 1000000) (hn : a.code = 0 → o.kind = 3 → 0 ≤ a.num ∧ a.num ≤ 4294967295) :
    Calls Try.prog 11 #[.pointer (some ⟨h, 0, none⟩), .agg (opCs o (.slice la ln lc) (.slice va vn vc)), .agg (ansCs a)] w fun e w' => e = .returned (.tuple #[]) ∧ NotePost w w' h base D (noteV o a.code a.num (va, vn, vc) hv) (noteS o a.code hs) (N + 1) := by
  unfold noteV noteS
  by_cases hc : a.code = 0
  · by_cases k3 : o.kind = 3
    · rw [if_pos ⟨hc, k3⟩, if_neg (fun h => by omega)]
      exact note_am w h base D hv hs N o a la va ln lc vn vc k hb hN hc k3 (hn hc k3).1 (hn hc k3).2
    · rw [if_neg (fun h => k3 h.2)]
      by_cases k5 : o.kind = 5
      · rw [if_pos ⟨hc, k5⟩]
        exact note_en w h base D hv hs N o a la va ln lc vn vc k hb hN hc k5
      · rw [if_neg (fun h => k5 h.2)]
        by_cases k2 : o.kind = 2
        · exact note_pa w h base D hv hs N o a la va ln lc vn vc k hb hN hc k2
        · exact note_other w h base D hv hs N o a la va ln lc vn vc k hb hc k3 k5 k2
  · rw [if_neg (fun h => hc h.1), if_neg (fun h => hc h.1)]
    exact note_no w h base D hv hs N o a la va ln lc vn vc k hb hc

end Go.Proofs.Qxb6500665a
