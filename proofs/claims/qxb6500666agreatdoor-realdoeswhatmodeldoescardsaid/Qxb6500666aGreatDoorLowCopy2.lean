/- samplesm.copied, walked. -/
import Derived.Test.Qxb6500666aGreatDoorLowCopy
namespace Go.Proofs.Qxb6500666aGreatDoor
open Go.RowKit

theorem blk_lt {w : World} {b : Nat} {o : Obj} (h : w.heap[b]? = some o) : b < w.heap.size := by
  apply Classical.byContradiction
  intro hn
  have : w.heap[b]? = none := by simp; omega
  rw [h] at this
  cases this
theorem cell_three {w : World} {b : Nat} {x y z : Value} {t : TypeId} (h : w.heap[b]? = some (.cells #[x, y, z] t (0, 0))) : w.cell? ⟨b, 0, none⟩ = some x ∧ w.cell? ⟨b, 1, none⟩ = some y ∧ w.cell? ⟨b, 2, none⟩ = some z ∧ (∀ j, w.frozen? ⟨b, j, none⟩ = false) ∧ b < w.heap.size :=
  ⟨by rw [World.cell?, h]; rfl, by rw [World.cell?, h]; rfl, by rw [World.cell?, h]; rfl, fun j => by rw [World.frozen?, h]; simp, blk_lt h⟩
theorem OwnR.lower {α : Type} {w : World} {base base' : Nat} {e : TypeId} {size : Nat} {f : α → Array Value} {v : Value} {xs : List α} (h : OwnR w base e size f v xs) (hb : base' ≤ base) : OwnR w base' e size f v xs := by
  obtain ⟨h1, h2⟩ := h
  refine ⟨h1, ?_⟩
  rcases h2 with h2 | ⟨g, cap, cur, h3, h4, h5⟩
  · exact Or.inl h2
  · exact Or.inr ⟨g, cap, cur, h3, Nat.le_trans hb h4, h5⟩
/-- A slice that may be appended whole. -/
structure Src {α : Type} (w : World) (size : Nat) (f : α → Array Value) (a : Option Addr) (n cap : Nat) (l : List α) : Prop where
  len : n = l.length
  nil : a = none → cap = 0
  src : ∀ W, Below w.heap.size w W → 0 < n → ∃ b' off', a = some ⟨b', off', none⟩ ∧ ∀ i (h : i < l.length), rng W b' (off' + i * size) size = some (f l[i])
theorem Src.of {α : Type} {w : World} {ok : Nat → Prop} {size : Nat} {f : α → Array Value} {v : Value} {l : List α} (h : RArr w ok size f v l) : ∃ a n cap, v = .slice a n cap ∧ Src w size f a n cap l := by
  obtain ⟨a, cap, b, off, rfl, hl, hm, hr, ha, hc⟩ := h.lt
  exact ⟨a, l.length, cap, rfl, rfl, hm.2, fun W hW hp => ⟨b, off, (ha hp).1, fun i hi => by rw [rng_of_block (hW.block b (ha hp).2.2)]; exact hc i hi⟩⟩

/-- Behind the three appends. -/
structure Cp3 (w W : World) (v1 v2 v3 : Value) (ss : List Smp) (rs : List Res) (qs : List Qry) : Prop where
  a : OwnR W w.heap.size 94 8 smpCs v1 ss
  b : OwnR W w.heap.size 92 6 resCs v2 rs
  c : OwnR W w.heap.size 208 3 qryCs v3 qs
  below : Below w.heap.size w W
  nd : ∀ b, (v1.ownBlock = some b → v2.ownBlock ≠ some b ∧ v3.ownBlock ≠ some b) ∧ (v2.ownBlock = some b → v3.ownBlock ≠ some b)

attribute [local go_sem] ext_const Ext.cell Ext.frozen Ext.rng Ext.whole

set_option maxRecDepth 100000 in
set_option maxHeartbeats 2000000 in
theorem smpCopied_calls (w : World) (ok : Nat → Prop) (v1 v2 v3 : Value) (ss : List Smp) (rs : List Res) (qs : List Qry) (h1 : RArr w ok 8 smpCs v1 ss) (h2 : RArr w ok 6 resCs v2 rs) (h3 : RArr w ok 3 qryCs v3 qs) (l1 : ss.length ≤ 1000000) (l2 : rs.length ≤ 1000000) (l3 : qs.length ≤ 1000000) :
    Calls Tryz.prog 242 #[.agg #[v1, v2, v3]] w fun e w' => ∃ u1 u2 u3, e = .returned (.agg #[u1, u2, u3]) ∧ Cp3 w w' u1 u2 u3 ss rs qs := by
  obtain ⟨a1, n1, c1, rfl, S1⟩ := Src.of h1
  obtain ⟨a2, n2, c2, rfl, S2⟩ := Src.of h2
  obtain ⟨a3, n3, c3, rfl, S3⟩ := Src.of h3
  have hn1 : n1 ≤ 1000000 := by have := S1.len; omega
  have hn2 : n2 ≤ 1000000 := by have := S2.len; omega
  have hn3 : n3 ≤ 1000000 := by have := S3.len; omega
  have HS1 := hide S1
  have HS2 := hide S2
  have HS3 := hide S3
  clear S1 S2 S3 h1 h2 h3 l1 l2 l3
  go_enter Tryz.func242, Tryz.ntmps242
  go_upto_region 1 with fail
  have hbx : ((w.alloc (.cells #[.slice a1 n1 c1, .slice a2 n2 c2, .slice a3 n3 c3] 40)).alloc (.cells #[.slice none 0 0, .slice none 0 0, .slice none 0 0] 40)).heap[w.heap.size + 1]? = some (.cells #[.slice none 0 0, .slice none 0 0, .slice none 0 0] 40 (0, 0)) := box2 w _ _ _ _
  have hbl : Below w.heap.size w ((w.alloc (.cells #[.slice a1 n1 c1, .slice a2 n2 c2, .slice a3 n3 c3] 40)).alloc (.cells #[.slice none 0 0, .slice none 0 0, .slice none 0 0] 40)) := ((Below.refl _ _).alloc (Nat.le_refl _) _).alloc (by simp) _
  have hsz : ((w.alloc (.cells #[.slice a1 n1 c1, .slice a2 n2 c2, .slice a3 n3 c3] 40)).alloc (.cells #[.slice none 0 0, .slice none 0 0, .slice none 0 0] 40)).heap.size = w.heap.size + 2 := by simp
  have hsrc : ((w.alloc (.cells #[.slice a1 n1 c1, .slice a2 n2 c2, .slice a3 n3 c3] 40)).alloc (.cells #[.slice none 0 0, .slice none 0 0, .slice none 0 0] 40)).heap[w.heap.size]? = some (.cells #[.slice a1 n1 c1, .slice a2 n2 c2, .slice a3 n3 c3] 40 (0, 0)) := (Below.heap_alloc _ _ _ (by simp)).trans (heap_alloc_at _ _)
  generalize ((w.alloc (.cells #[.slice a1 n1 c1, .slice a2 n2 c2, .slice a3 n3 c3] 40)).alloc (.cells #[.slice none 0 0, .slice none 0 0, .slice none 0 0] 40)) = w1 at *
  have HBX := hide hbx
  have HBL := hide hbl
  have HSZ := hide hsz
  obtain ⟨x0, x1, x2, -, -⟩ := cell_three hsrc
  have hs1 : w.heap.size < w1.heap.size := by omega
  clear hbx hbl hsz hsrc
  refine wp_region_mixT (w1.heap.size) [1, 4, 7] (by kernel_rfl) ?_
  refine mixT_slots [0, 3, 6] (fuel := 8) rfl (by kernel_rfl) (by kernel_rfl) (fun d _ _ _ _ h => by cases d <;> exact h) ?_
  simp only [opersAt, List.getElem?_toArray, List.getElem?_cons_zero, List.getElem?_cons_succ]
  repeat (go_big_quiet_step (fail))
  refine wpQuiet_nil ?_
  refine mixT_reads [1, 4, 7] (fuel := 5) rfl (by kernel_rfl) (by decide) (by kernel_rfl) (fun d _ _ _ _ h => by cases d <;> exact h) (ext_drew _ _) ?_
  simp only [opersAt, List.getElem?_toArray, List.getElem?_cons_zero, List.getElem?_cons_succ]
  repeat (go_big_quiet_step (fail))
  refine wpQuiet_nil ?_
  refine mixT_one (k := 2) (by kernel_rfl) rfl ?_
  refine wpList_appN (α := Smp) rfl _ _ 36 rfl w1.heap.size 94 smpCs Tryz.underlying36 Tryz.info94 rfl (by decide) smpCs_size smpCs_one (.slice none 0 0) [] rfl (OwnR.nil _ _ _ _ _) a1 n1 c1 rfl ss HS1.out.len HS1.out.nil (HS1.out.src _ HBL.out.drew) (by simp only [List.length_nil]; omega) (by simp only [List.length_nil]; unfold maxLen; omega) (Nat.le_refl _) ?_
  intro y1 v1 hown1 hsame1 hbel1 hat1
  rw [List.nil_append] at hown1
  have hb1 : Below w1.heap.size w1 v1 := (Below.refl _ _).drew.trans hbel1
  refine ⟨Or.inr (by intros; exact ⟨⟨_, hb1⟩, rfl⟩), ?_⟩
  have HB1 := hide hb1
  have HO1 := hide hown1
  have hz1 := hb1.size
  clear hown1 hsame1 hbel1 hat1 hb1
  refine mixT_one (k := 5) (by kernel_rfl) rfl ?_
  refine wpList_appN (α := Res) rfl _ _ 37 rfl v1.heap.size 92 resCs Tryz.underlying37 Tryz.info92 rfl (by decide) resCs_size resCs_one (.slice none 0 0) [] rfl (OwnR.nil _ _ _ _ _) a2 n2 c2 rfl rs HS2.out.len HS2.out.nil (HS2.out.src _ (HBL.out.trans (HB1.out.mono (by have := HSZ.out; omega)))) (by simp only [List.length_nil]; omega) (by simp only [List.length_nil]; unfold maxLen; omega) (Nat.le_refl _) ?_
  intro y2 v2 hown2 hsame2 hbel2 hat2
  rw [List.nil_append] at hown2
  have hb2 : Below v1.heap.size v1 v2 := hbel2
  refine ⟨Or.inr (by intros; exact ⟨⟨_, HB1.out.trans (hb2.mono hz1)⟩, rfl⟩), ?_⟩
  have HB2 := hide hb2
  have HO2 := hide hown2
  have hz2 := hb2.size
  clear hown2 hsame2 hbel2 hat2 hb2
  refine mixT_one (k := 8) (by kernel_rfl) rfl ?_
  refine wpList_appN (α := Qry) rfl _ _ 38 rfl v2.heap.size 208 qryCs Tryz.underlying38 Tryz.info208 rfl (by decide) qryCs_size qryCs_one (.slice none 0 0) [] rfl (OwnR.nil _ _ _ _ _) a3 n3 c3 rfl qs HS3.out.len HS3.out.nil (HS3.out.src _ ((HBL.out.trans (HB1.out.mono (by have := HSZ.out; omega))).trans (HB2.out.mono (by have := HSZ.out; omega)))) (by simp only [List.length_nil]; omega) (by simp only [List.length_nil]; unfold maxLen; omega) (Nat.le_refl _) ?_
  intro y3 v3 hown3 hsame3 hbel3 hat3
  rw [List.nil_append] at hown3
  have hb3 : Below v2.heap.size v2 v3 := hbel3
  refine ⟨Or.inr (by intros; exact ⟨⟨_, (HB1.out.trans (HB2.out.mono hz1)).trans (hb3.mono (by omega))⟩, rfl⟩), ?_⟩
  have HB3 := hide hb3
  have hz3 := hb3.size
  have HC3 : Hid (Cp3 w v3 y1 y2 y3 ss rs qs) := ⟨((HO1.out.below HB2.out (Nat.le_refl _)).below HB3.out (Nat.le_refl _)).lower (by have := HSZ.out; omega), (HO2.out.below HB3.out (Nat.le_refl _)).lower (by have := HSZ.out; omega), hown3.lower (by have := HSZ.out; omega), ((HBL.out.trans (HB1.out.mono (by have := HSZ.out; omega))).trans (HB2.out.mono (by have := HSZ.out; omega))).trans (HB3.out.mono (by have := HSZ.out; omega)), fun b => ⟨fun h => ⟨fun e => by have := (HO1.out.block b h).2; have := (HO2.out.block b e).1; omega, fun e => by have := (HO1.out.block b h).2; have := (hown3.block b e).1; omega⟩, fun h e => by have := (HO2.out.block b h).2; have := (hown3.block b e).1; omega⟩⟩
  have hx3 : v3.heap[w.heap.size + 1]? = some (.cells #[.slice none 0 0, .slice none 0 0, .slice none 0 0] 40 (0, 0)) := (HB3.out.block _ (by have := HSZ.out; omega)).trans ((HB2.out.block _ (by have := HSZ.out; omega)).trans ((HB1.out.block _ (by have := HSZ.out; omega)).trans HBX.out))
  have HY : Hid (∀ y, y ∈ [y1.ownBlock, y2.ownBlock, y3.ownBlock] → ∀ b, y = some b → w1.heap.size ≤ b) := by
    intro y hy b hb
    simp only [List.mem_cons, List.not_mem_nil, or_false] at hy
    rcases hy with rfl | rfl | rfl
    · exact (HO1.out.block b hb).1
    · have := (HO2.out.block b hb).1; omega
    · have := (hown3.block b hb).1; omega
  obtain ⟨b1, k1, hy1⟩ := HO1.out.form
  obtain ⟨b2, k2, hy2⟩ := HO2.out.form
  obtain ⟨b3, k3, hy3⟩ := hown3.form
  subst hy1 hy2 hy3
  have HXX := hide hx3
  obtain ⟨d0, d1, d2, hfz, hlt⟩ := cell_three hx3
  clear hown3 hsame3 hbel3 hat3 hb3 HO1 HO2 HB1 HB2 HB3 hx3
  refine mixT_one (k := 9) (by kernel_rfl) rfl ?_
  go_wp2
  refine ⟨Or.inr (fun h => h), ?_⟩
  refine mixT_one (k := 10) (by kernel_rfl) rfl ?_
  go_wp2
  refine ⟨Or.inl (by kernel_rfl), ?_⟩
  refine mixT_nil (by kernel_rfl) ?_
  go_wp2
  obtain ⟨W, hW⟩ : ∃ W, W = (((v3.setCell ⟨w.heap.size + 1, 0, none⟩ (.slice b1 ss.length k1)).setCell ⟨w.heap.size + 1, 1, none⟩ (.slice b2 rs.length k2)).setCell ⟨w.heap.size + 1, 2, none⟩ (.slice b3 qs.length k3)) := ⟨_, rfl⟩
  have hfin : W.heap[w.heap.size + 1]? = some (.cells #[.slice b1 ss.length k1, .slice b2 rs.length k2, .slice b3 qs.length k3] 40 (0, 0)) := by rw [hW]; exact heap_set3 (heap_set3 (heap_set3 HXX.out))
  have hoth : ∀ b, b ≠ w.heap.size + 1 → W.heap[b]? = v3.heap[b]? := fun b hb => by
    rw [hW]
    exact (Below.heap_setCell _ _ _ _ hb).trans ((Below.heap_setCell _ _ _ _ hb).trans (Below.heap_setCell _ _ _ _ hb))
  have hbW : Below w.heap.size w W := by
    rw [hW]
    exact ((HC3.out.below.setCell (p := ⟨w.heap.size + 1, 0, none⟩) (by simp) _).setCell (p := ⟨w.heap.size + 1, 1, none⟩) (by simp) _).setCell (p := ⟨w.heap.size + 1, 2, none⟩) (by simp) _
  rw [← hW]
  refine bodyPost_ret (results_cell1 Tryz.results242 _ _ (w.heap.size + 1) _ _ _ _ rfl hfin Tryz.underlying40 rfl (by kernel_rfl)) rfl ?_
  have hne : ∀ y, y ∈ [(Value.slice b1 ss.length k1).ownBlock, (Value.slice b2 rs.length k2).ownBlock, (Value.slice b3 qs.length k3).ownBlock] → ∀ b, y = some b → b ≠ w.heap.size + 1 := fun y hy b hb => by have := HY.out y hy b hb; have := HSZ.out; omega
  exact ⟨_, _, _, rfl, HC3.out.a.mono (fun b hb => hoth b (hne _ (by simp) b hb)), HC3.out.b.mono (fun b hb => hoth b (hne _ (by simp) b hb)), HC3.out.c.mono (fun b hb => hoth b (hne _ (by simp) b hb)), hbW, HC3.out.nd⟩

end Go.Proofs.Qxb6500666aGreatDoor
