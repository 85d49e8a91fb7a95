/- Both sides side by side. -/
import Derived.Test.Qxb6500665aDoorAsk
namespace Go.Proofs.Qxb6500665aDoor
open Go.RowKit Go.Proofs.Qxb6500665aDoor.Cal

/-- Real side and model hold the same set-up; what they own lies apart. -/
structure JI (w wr : World) (G : Nat → Prop) (wq : World) (B S M a p s u K N V : Nat) : Prop where
  ex : ∃ (A : Nat → Prop) (T : Tab) (full : Bool) (v : Value) (C : Nat → Prop), Bn wr B S A T full K ∧ MAt wr M w.heap.size N a p s u v C T full ∧ TOk T ∧ T.vers.length ≤ V ∧ (∀ b, MD M a p s u v C b → ¬ A b ∧ b ≠ B ∧ b ≠ S) ∧ ∀ b, G b → ¬ MD M a p s u v C b
  keep : ∀ b, G b → b < wr.heap.size ∧ b ≠ B ∧ b ≠ S ∧ wr.heap[b]? = wq.heap[b]?
  below : Below w.heap.size w wr
  loB : w.heap.size ≤ B
  loS : w.heap.size ≤ S

theorem JI.ext {w wr w' wq : World} {G : Nat → Prop} {B S M a p s u K N V : Nat} (h : JI w wr G wq B S M a p s u K N V) (hb : Below wr.heap.size wr w') : JI w w' G wq B S M a p s u K N V := by
  obtain ⟨A, T, full, v, C, h1, h2, h3, h4, h5, h6⟩ := h.ex
  exact ⟨⟨A, T, full, v, C, h1.keep (fun b hb' _ => hb.block b hb') hb.size, h2.ext hb, h3, h4, h5, h6⟩, fun b hg => by
    obtain ⟨k1, k2, k3, k4⟩ := h.keep b hg
    exact ⟨Nat.lt_of_lt_of_le k1 hb.size, k2, k3, (hb.block b k1).trans k4⟩, h.below.trans (hb.mono h.below.size), h.loB, h.loS⟩

theorem JI.fresh {w wr wq : World} {G : Nat → Prop} {B S M a p s u K N V g : Nat} (h : JI w wr G wq B S M a p s u K N V) (hg : wr.heap.size ≤ g) : g ≠ B ∧ g ≠ S := by
  obtain ⟨A, T, full, v, C, h1, h2, h3, h4, h5, h6⟩ := h.ex
  obtain ⟨-, l2, l3, -⟩ := h1.lt
  exact ⟨by omega, by omega⟩

/-- Lists of numbers do not lie where no numbers lie. -/
theorem RArr.off {α : Type} {w : World} {ok : Nat → Prop} {size : Nat} {f : α → Array Value} {v : Value} {xs : List α} (h : RArr w ok size f v xs) (S : Nat) (hS : ∀ off x, rng w S off size ≠ some (f x)) : RArr w (fun b => ok b ∧ b ≠ S) size f v xs := by
  obtain ⟨a, cap, b, off, hv, hl, hm, hr, ha, hc⟩ := h
  refine ⟨a, cap, b, off, hv, hl, hm, hr, fun hp => ⟨(ha hp).1, (ha hp).2, fun e => ?_⟩, hc⟩
  subst e
  exact hS _ _ (hc 0 hp)

/-- Where the first cell of a row is a number. -/
theorem not_row {w : World} {S size : Nat} {f : Array Value} {cs : Array Value} {t : TypeId} {fr : Nat × Nat} (hS : w.heap[S]? = some (.cells cs t fr)) (hcs : ∀ (i : Nat) (x : Int) (k : IntKind), cs[i]? ≠ some (Value.int k x)) (h1 : ∃ (k : IntKind) (x : Int), f[0]? = some (Value.int k x)) (off : Nat) : rng w S off size ≠ some f := fun e => by
  unfold rng at e
  rw [hS] at e
  simp only at e
  split at e
  · obtain ⟨k, x, hk⟩ := h1
    injection e with e
    rw [← e, Array.getElem?_extract] at hk
    split at hk
    · exact hcs _ _ _ hk
    · cases hk
  · cases e

theorem ARead.off {w : World} {ok : Nat → Prop} {x : Ans} {X : PA} (h : ARead w ok x X) {S : Nat} {cs : Array Value} {t : TypeId} {fr : Nat × Nat} (hS : w.heap[S]? = some (.cells cs t fr)) (hcs : ∀ (i : Nat) (x : Int) (k : IntKind), cs[i]? ≠ some (Value.int k x)) : ARead w (fun b => ok b ∧ b ≠ S) x X := by
  obtain ⟨h1, ⟨zs, h2, h3, h4⟩, h5⟩ := h
  have hu : ∀ (off : Nat) (y : Int), rng w S off 1 ≠ some (u32Cs y) := fun off y => not_row hS hcs ⟨_, _, rfl⟩ off
  exact ⟨RArr.off h1 S hu, ⟨zs, RArr.off h2 S (fun off y => not_row hS hcs ⟨_, _, rfl⟩ off), h3, fun z hz => RArr.off (h4 z hz) S hu⟩, h5⟩
theorem ARead.lt {w : World} {ok : Nat → Prop} {x : Ans} {X : PA} (h : ARead w ok x X) : ARead w (fun b => ok b ∧ b < w.heap.size) x X := ⟨RArr.lt h.list, h.vis.lt, h.ints⟩

/-- Two answers that read alike are the same. -/
theorem answers_same {w : World} {ok ok' : Nat → Prop} {x x' : Ans} {X : PA} (h : ARead w ok x X) (h' : ARead w ok' x' X) :
    Calls Tryd.prog 8 #[.agg (ansCs x), .agg (ansCs x')] w fun e w' => e = .returned (.bool true) ∧ Below w.heap.size w w' := by
  obtain ⟨l1, v1, i1, i2, i3, i4, i5, i6, i7, i8, i9, i10, i11, i12, i13, i14, i15⟩ := h
  obtain ⟨l1', v1', j1, j2, j3, j4, j5, j6, j7, j8, j9, j10, j11, j12, j13, j14, j15⟩ := h'
  obtain ⟨c, num, ⟨la, ln, lc⟩, p0, p1, p2, p3, v0, v1_, ⟨va, vn, vc⟩, a0, a1, a2, a3, s0, s1, s2⟩ := x
  obtain ⟨c', num', ⟨la', ln', lc'⟩, p0', p1', p2', p3', v0', v1_', ⟨va', vn', vc'⟩, a0', a1', a2', a3', s0', s1', s2'⟩ := x'
  simp only at *
  subst i1 i2 i3 i4 i5 i6 i7 i8 i9 i10 i11 i12 i13 i14 i15
  subst j1 j2 j3 j4 j5 j6 j7 j8 j9 j10 j11 j12 j13 j14 j15
  simp only [sv] at l1 v1 l1' v1'
  obtain ⟨_, _, e1⟩ := v1.form
  obtain ⟨_, _, e2⟩ := v1'.form
  injection e1 with _ e1 _
  injection e2 with _ e2 _
  subst e1 e2
  exact sameAnswer_calls _ _ _ _ _ _ _ _ _ _ _ _ _ _ _ _ _ _ _ _ (hl := l1) (hl' := l1') (hv := v1) (hv' := v1')

theorem Bn.cells {w : World} {B S : Nat} {A : Nat → Prop} {T : Tab} {full : Bool} {N : Nat} (h : Bn w B S A T full N) : (∃ cs t fr, w.heap[B]? = some (.cells cs t fr) ∧ ∀ (i : Nat) (x : Int) (k : IntKind), cs[i]? ≠ some (Value.int k x)) ∧ (∃ cs t fr, w.heap[S]? = some (.cells cs t fr) ∧ ∀ (i : Nat) (x : Int) (k : IntKind), cs[i]? ≠ some (Value.int k x)) := by
  obtain ⟨⟨P, ps, hb, hr, hl, hA⟩, hne, hout⟩ := h
  obtain ⟨pv, h1, h2⟩ := hb.at'.store.ex
  refine ⟨⟨_, _, _, hb.bench, fun i x k e => ?_⟩, ⟨_, _, _, h1, fun i x k e => ?_⟩⟩
  · rcases i with _ | _ | i
    · simp at e
    · simp at e
    · simp at e
  · obtain ⟨qs, ⟨a, cap, b, off, hv, -⟩, -⟩ := h2
    rcases i with _ | _ | i
    · rw [hv] at e; simp at e
    · simp at e
    · simp at e

theorem stepT_vers (T : Tab) (full : Bool) (o : Op) : (stepT T full o).vers.length ≤ if o.kind ≤ 5 then T.vers.length + 1 else T.vers.length := by
  by_cases hk : o.kind < 1 ∨ 5 < o.kind
  · rw [stepT_query hk]; split <;> omega
  · rw [if_pos (by omega)]
    unfold stepT
    split
    · unfold mAnT; split <;> simp
    split
    · unfold mPanT; split <;> simp
    split
    · unfold mAmT; split <;> simp
    split
    · unfold mSiteT; split <;> simp
    split
    · unfold mEnrT; split <;> simp
    · omega

def nK (o : Op) (K : Nat) : Nat := if o.kind ≤ 5 then K + 2 else K
def nV (o : Op) (V : Nat) : Nat := if o.kind ≤ 5 then V + 1 else V

/-- Behind both steps and the comparison. -/
def Done (w : World) (G : Nat → Prop) (wq : World) (B S M a p s u K N V g : Nat) (w0 : World) (x x' : Ans) (w2 : World) : Prop :=
  w2.heap[g]? = w0.heap[g]? ∧ Calls Tryd.prog 8 #[.agg (ansCs x), .agg (ansCs x')] w2 fun e w3 => e = .returned (.bool true) ∧ JI w w3 G wq B S M a p s u K N V

section
variable {w wr w0 wq : World} {G : Nat → Prop} {B S M a p s u K N V g : Nat} {o : Op} {la va : Option Addr} {ln lc vn vc : Nat}

/-- The real side first. -/
theorem JI.real (h0 : JI w wr G wq B S M a p s u K N V) (hb0 : Below wr.heap.size wr w0) (hK : K ≤ 800000) (hN : N ≤ 5000000) (hV : V ≤ 800000) (ho : o.Ok) (hl : U32sAt w (· < w.heap.size) (.slice la ln lc) o.list) (hv : VisitsAt w (· < w.heap.size) (.slice va vn vc) o.visits) (hgw : wr.heap.size ≤ g) (hg : g < w0.heap.size) :
    Calls Tryd.prog 9 #[.pointer (some ⟨B, 0, none⟩), .agg (opCs o (.slice la ln lc) (.slice va vn vc))] w0 fun e w1 => ∃ x, e = .returned (.agg (ansCs x)) ∧ w1.heap[g]? = w0.heap[g]? ∧
      Calls Tryd.prog 10 #[.pointer (some ⟨M, 0, none⟩), .agg (opCs o (.slice la ln lc) (.slice va vn vc))] w1 fun e w2 => ∃ x', e = .returned (.agg (ansCs x')) ∧ Done w G wq B S M a p s u (nK o K) (N + 1) (nV o V) g w0 x x' w2 := by
  obtain ⟨A, T, full, v, C, h1', h2', h3, h4, h5, h6⟩ := h0.ex
  obtain ⟨lA, lB, lS, lAS⟩ := h1'.lt
  have hgB : g ≠ B := by omega
  have hgS : g ≠ S := by omega
  have hgd : ¬ MD M a p s u v C g := fun hm => by have := h2'.hlt g hm; omega
  have h1 : Bn w0 B S A T full K := h1'.keep (fun b hb' _ => hb0.block b hb') hb0.size
  have h2 := h2'.ext hb0
  have hlB := h0.loB
  have hlS := h0.loS
  have hkp : ∀ b, G b → b < w0.heap.size ∧ b ≠ B ∧ b ≠ S ∧ w0.heap[b]? = wq.heap[b]? := fun b hg => by
    obtain ⟨k1, k2, k3, k4⟩ := h0.keep b hg
    exact ⟨Nat.lt_of_lt_of_le k1 hb0.size, k2, k3, (hb0.block b k1).trans k4⟩
  have hbw := h0.below.trans (hb0.mono h0.below.size)
  clear h1' h2' h0 lA lB lS lAS
  refine (step_x w0 B S w.heap.size A (· < w.heap.size) T full K o la va ln lc vn vc h1 h3 hK hlS hlB (by omega) ho (hl.mono (fun b hb => hbw.block b hb) (fun _ h => h)) (hv.mono (fun b hb => hbw.block b hb) (fun _ h => h))).mono fun e w1 hx => ?_
  obtain ⟨⟨x, rfl, hx1⟩, hx2, hx3, hx4⟩ := hx
  have hz1 := hx4.size
  have hb1 := hbw.trans hx4
  have hm1 : MAt w1 M w.heap.size N a p s u v C T full := h2.below (fun b hb => hx3 b (h2.hlt b hb) (h5 b hb).2.2 (h5 b hb).2.1) (fun b hb => hx4.block b hb) hz1
  refine ⟨x, rfl, hx3 g hg hgS hgB, ?_⟩
  refine (mstep_x w1 M w.heap.size N a p s u v C (· < w.heap.size) T full o la va ln lc vn vc hm1 h3 hN (by omega) ho (hl.mono (fun b hb => hb1.block b hb) (fun _ h => h)) (hv.mono (fun b hb => hb1.block b hb) (fun _ h => h))).mono fun e w2 hy => ?_
  obtain ⟨v', C', x', rfl, hc, hx'⟩ := hy
  have hz2 := hc.below.size
  have hdis : ∀ b, MD M a p s u v' C' b → MD M a p s u v C b ∨ w1.heap.size ≤ b := fun b hb => by
    rcases hb with hb | hb | hb
    · exact Or.inl (Or.inl hb)
    · rcases hc.newv with h9 | h9
      · exact Or.inl (Or.inr (Or.inl (by rw [← h9]; exact hb)))
      · exact Or.inr (h9 b hb)
    · rcases hc.new b hb with h9 | h9
      · exact Or.inl (Or.inr (Or.inr h9))
      · exact Or.inr h9
  have hAn : ∀ b, Anew w0 A w1 b → ¬ MD M a p s u v C b := fun b hb hm => by
    rcases hb with hb | hb
    · exact (h5 b hm).1 hb
    · have := h2.hlt b hm; omega
  obtain ⟨lA1, lB1, lS1, -⟩ := hx2.lt
  have hB2 : Bn w2 B S (Anew w0 A w1) (stepT T full o) (stepF full o) (nK o K) := hx2.keep (fun b hb hb' => hc.same b hb (fun hm => by
    rcases hb' with hb' | rfl | rfl
    · exact hAn b hb' hm
    · exact (h5 _ hm).2.2 rfl
    · exact (h5 _ hm).2.1 rfl)) hz2
  refine ⟨x', rfl, (hc.same g (by omega) hgd).trans (hx3 g hg hgS hgB), ?_⟩
  have hxx : ARead w2 (fun b => w0.heap.size ≤ b ∧ b < w1.heap.size) x (stepA T full o) := hx1.lt.mono (fun b hb => hc.same b hb.2 (fun hm => by have := h2.hlt b hm; have := hb.1; omega)) (fun _ h => h)
  refine (answers_same hxx hx').mono fun e w3 hd => ⟨hd.1, ?_⟩
  refine JI.ext (wr := w2) ⟨⟨Anew w0 A w1, stepT T full o, stepF full o, v', C', hB2, hc.at', h3.step full ho, ?_, fun b hb => ?_, fun b hg hm => ?_⟩, fun b hg => ?_, hb1.trans hc.below, hlB, hlS⟩ hd.2
  · have := stepT_vers T full o
    unfold nV
    split <;> simp_all <;> omega
  · rcases hdis b hb with hm | hm
    · exact ⟨fun hA => hAn b hA hm, (h5 b hm).2⟩
    · exact ⟨fun hA => by have := lA1 b hA; omega, by omega, by omega⟩
  · rcases hdis b hm with hm | hm
    · exact h6 b hg hm
    · have := (hkp b hg).1; omega
  · obtain ⟨k1, k2, k3, k4⟩ := hkp b hg
    exact ⟨by omega, k2, k3, ((hc.same b (by omega) (h6 b hg)).trans (hx3 b k1 k3 k2)).trans k4⟩

/-- The model first. -/
theorem JI.model (h0 : JI w wr G wq B S M a p s u K N V) (hb0 : Below wr.heap.size wr w0) (hK : K ≤ 800000) (hN : N ≤ 5000000) (hV : V ≤ 800000) (ho : o.Ok) (hl : U32sAt w (· < w.heap.size) (.slice la ln lc) o.list) (hv : VisitsAt w (· < w.heap.size) (.slice va vn vc) o.visits) (hgw : wr.heap.size ≤ g) (hg : g < w0.heap.size) :
    Calls Tryd.prog 10 #[.pointer (some ⟨M, 0, none⟩), .agg (opCs o (.slice la ln lc) (.slice va vn vc))] w0 fun e w1 => ∃ x', e = .returned (.agg (ansCs x')) ∧ w1.heap[g]? = w0.heap[g]? ∧
      Calls Tryd.prog 9 #[.pointer (some ⟨B, 0, none⟩), .agg (opCs o (.slice la ln lc) (.slice va vn vc))] w1 fun e w2 => ∃ x, e = .returned (.agg (ansCs x)) ∧ Done w G wq B S M a p s u (nK o K) (N + 1) (nV o V) g w0 x x' w2 := by
  obtain ⟨A, T, full, v, C, h1', h2', h3, h4, h5, h6⟩ := h0.ex
  obtain ⟨lA, lB, lS, lAS⟩ := h1'.lt
  have hgB : g ≠ B := by omega
  have hgS : g ≠ S := by omega
  have hgd : ¬ MD M a p s u v C g := fun hm => by have := h2'.hlt g hm; omega
  have h1 : Bn w0 B S A T full K := h1'.keep (fun b hb' _ => hb0.block b hb') hb0.size
  have h2 := h2'.ext hb0
  have hlB := h0.loB
  have hlS := h0.loS
  have hkp : ∀ b, G b → b < w0.heap.size ∧ b ≠ B ∧ b ≠ S ∧ w0.heap[b]? = wq.heap[b]? := fun b hg => by
    obtain ⟨k1, k2, k3, k4⟩ := h0.keep b hg
    exact ⟨Nat.lt_of_lt_of_le k1 hb0.size, k2, k3, (hb0.block b k1).trans k4⟩
  have hbw := h0.below.trans (hb0.mono h0.below.size)
  clear h1' h2' h0 lA lB lS lAS
  obtain ⟨lA, lB, lS, lAS⟩ := h1.lt
  refine (mstep_x w0 M w.heap.size N a p s u v C (· < w.heap.size) T full o la va ln lc vn vc h2 h3 hN (by omega) ho (hl.mono (fun b hb => hbw.block b hb) (fun _ h => h)) (hv.mono (fun b hb => hbw.block b hb) (fun _ h => h))).mono fun e w1 hy => ?_
  obtain ⟨v', C', x', rfl, hc, hx'⟩ := hy
  have hz1 := hc.below.size
  have hb1 := hbw.trans hc.below
  have hdis : ∀ b, MD M a p s u v' C' b → MD M a p s u v C b ∨ w0.heap.size ≤ b := fun b hb => by
    rcases hb with hb | hb | hb
    · exact Or.inl (Or.inl hb)
    · rcases hc.newv with h9 | h9
      · exact Or.inl (Or.inr (Or.inl (by rw [← h9]; exact hb)))
      · exact Or.inr (h9 b hb)
    · rcases hc.new b hb with h9 | h9
      · exact Or.inl (Or.inr (Or.inr h9))
      · exact Or.inr h9
  have h5' : ∀ b, MD M a p s u v' C' b → ¬ A b ∧ b ≠ B ∧ b ≠ S := fun b hb => by
    rcases hdis b hb with hm | hm
    · exact h5 b hm
    · exact ⟨fun hA => by have := lA b hA; omega, by omega, by omega⟩
  have hB1 : Bn w1 B S A T full K := h1.keep (fun b hb hb' => hc.same b hb (fun hm => by
    rcases hb' with hb' | rfl | rfl
    · exact (h5 _ hm).1 hb'
    · exact (h5 _ hm).2.2 rfl
    · exact (h5 _ hm).2.1 rfl)) hz1
  refine ⟨x', rfl, hc.same g hg hgd, ?_⟩
  refine (step_x w1 B S w.heap.size A (· < w.heap.size) T full K o la va ln lc vn vc hB1 h3 hK hlS hlB (by omega) ho (hl.mono (fun b hb => hb1.block b hb) (fun _ h => h)) (hv.mono (fun b hb => hb1.block b hb) (fun _ h => h))).mono fun e w2 hx => ?_
  obtain ⟨⟨x, rfl, hx1⟩, hx2, hx3, hx4⟩ := hx
  have hz2 := hx4.size
  have hm2 : MAt w2 M w.heap.size (N + 1) a p s u v' C' (stepT T full o) (stepF full o) := hc.at'.below (fun b hb => hx3 b (hc.at'.hlt b hb) (h5' b hb).2.2 (h5' b hb).2.1) (fun b hb => hx4.block b hb) hz2
  refine ⟨x, rfl, (hx3 g (by omega) hgS hgB).trans (hc.same g hg hgd), ?_⟩
  obtain ⟨⟨cs, t, fr, k1, k2⟩, ⟨cs', t', fr', k3, k4⟩⟩ := hB1.cells
  have hxx : ARead w2 (fun _ => True) x' (stepA T full o) := ((hx'.off k1 k2).off k3 k4).lt.mono (fun b hb => hx3 b hb.2 hb.1.2 hb.1.1.2) (fun _ _ => trivial)
  refine (answers_same hx1 hxx).mono fun e w3 hd => ⟨hd.1, ?_⟩
  refine JI.ext (wr := w2) ⟨⟨Anew w1 A w2, stepT T full o, stepF full o, v', C', hx2, hm2, h3.step full ho, ?_, fun b hb => ?_, fun b hg hm => ?_⟩, fun b hg => ?_, hb1.trans hx4, hlB, hlS⟩ hd.2
  · have := stepT_vers T full o
    unfold nV
    split <;> simp_all <;> omega
  · refine ⟨fun hA => ?_, (h5' b hb).2⟩
    rcases hA with hA | hA
    · exact (h5' b hb).1 hA
    · have := hc.at'.hlt b hb; omega
  · rcases hdis b hm with hm | hm
    · exact h6 b hg hm
    · have := (hkp b hg).1; omega
  · obtain ⟨k1, k2, k3, k4⟩ := hkp b hg
    exact ⟨by omega, k2, k3, ((hx3 b (by omega) k3 k2).trans (hc.same b k1 (h6 b hg))).trans k4⟩
end

theorem Bn.mono {w : World} {B S : Nat} {A : Nat → Prop} {T : Tab} {full : Bool} {N N' : Nat} (h : Bn w B S A T full N) (hn : N ≤ N') : Bn w B S A T full N' := by
  obtain ⟨⟨P, ps, hb, hr, hl, hA⟩, hne, hout⟩ := h
  exact ⟨⟨P, ps, hb, hr, Nat.le_trans hl hn, hA⟩, hne, hout⟩
theorem JI.mono {w wr wq : World} {G : Nat → Prop} {B S M a p s u K N V K' V' : Nat} (h : JI w wr G wq B S M a p s u K N V) (hK : K ≤ K') (hV : V ≤ V') : JI w wr G wq B S M a p s u K' N V' := by
  obtain ⟨A, T, full, v, C, h1, h2, h3, h4, h5, h6⟩ := h.ex
  exact ⟨⟨A, T, full, v, C, h1.mono hK, h2, h3, Nat.le_trans h4 hV, h5, h6⟩, h.keep, h.below, h.loB, h.loS⟩
/-- From here on what was laid last stays as it is. -/
theorem JI.guard {w wr wq W : World} {G : Nat → Prop} {B S M a p s u K N V : Nat} (h : JI w wr G wq B S M a p s u K N V) (hb : Below wr.heap.size wr W) : JI w W (fun b => wr.heap.size ≤ b ∧ b < W.heap.size) W B S M a p s u K N V := by
  obtain ⟨A', T', full', v', C', h1', h2', h3', h4', h5', h6'⟩ := h.ex
  obtain ⟨-, l2, l3, -⟩ := h1'.lt
  exact ⟨⟨A', T', full', v', C', h1'.keep (fun b hb' _ => hb.block b hb') hb.size, h2'.ext hb, h3', h4', h5', fun b hg hm => by have := h2'.hlt b hm; have := hg.1; omega⟩, fun b hg => ⟨hg.2, by have := hg.1; omega, by have := hg.1; omega, rfl⟩, (h.ext hb).below, h.loB, h.loS⟩

/-- At the start. -/
theorem joint_start {w w1 w2 : World} (hB : BAt w1 (w.heap.size + 2) (w.heap.size + 1) w.heap.size (fun _ => False) [] false) (hs : w1.heap.size = w.heap.size + 3) (hb : Below w.heap.size w w1)
    (hm : MAt w2 (w1.heap.size + 4) w1.heap.size 0 w1.heap.size (w1.heap.size + 1) (w1.heap.size + 2) (w1.heap.size + 3) (.slice none 0 0) (fun _ => False) Tab0 false) (hb2 : Below w1.heap.size w1 w2) :
    JI w w2 (fun _ => False) w (w.heap.size + 2) w.heap.size (w.heap.size + 7) (w.heap.size + 3) (w.heap.size + 4) (w.heap.size + 5) (w.heap.size + 6) 0 0 0 := by
  rw [hs] at hm hb2
  have hz2 := hb2.size
  rw [← hs] at hb2
  obtain ⟨b1, b2, b3⟩ := hB
  have b1' := (hb2.block _ (by omega)).trans b1
  have b2' := (hb2.block _ (by omega)).trans b2
  obtain ⟨⟨pv, b4, b5⟩, b6, b7⟩ := b3.below hb2
  refine ⟨⟨(· = w.heap.size + 1), Tab0, false, .slice none 0 0, fun _ => False, ⟨⟨_, [], ⟨b1', b2', ⟨⟨pv, b4, b5.mono (fun b hb => hb.elim) (fun b hb => hb.elim)⟩, by omega, fun b hb => by omega⟩⟩, rep_empty, by simp, rfl⟩, by omega, by omega⟩, ?_, ?_, by simp [Tab0], fun b hb => ?_, fun b hg => hg.elim⟩, fun b hg => hg.elim, hb.trans (hb2.mono (by omega)), by omega, by omega⟩
  · obtain ⟨pf, p1, p2⟩ := hm.pan
    exact ⟨hm.top, hm.an, ⟨pf, p1, p2⟩, ⟨[], OwnR.nil _ _ _ _ _, rfl, fun k h => absurd h (by simp), fun x hx => absurd hx (by simp)⟩, hm.site, hm.sub, hm.nd, fun b hb => ⟨by have := (hm.low b hb).1; omega, (hm.low b hb).2⟩, hm.own, fun b hb => hb.elim⟩
  · exact ⟨fun i j hj => absurd hj (by simp [Tab0]), fun x hx => absurd hx (by simp [Tab0]), fun x hx => absurd hx (by simp [Tab0]), fun x hx => absurd hx (by simp [Tab0]), fun x hx => absurd hx (by simp [Tab0]), fun x hx => absurd hx (by simp [Tab0]), fun x hx => absurd hx (by simp [Tab0]), fun k ids hk => absurd hk (by simp [Tab0]), fun k t ht => absurd ht (by simp [Tab0])⟩
  · rcases hb with hb | hb | hb
    · simp only [List.mem_cons, List.not_mem_nil, or_false] at hb
      refine ⟨?_, ?_, ?_⟩ <;> omega
    · cases hb
    · exact hb.elim

end Go.Proofs.Qxb6500665aDoor
