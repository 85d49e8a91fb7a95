/- The model's step: what it leaves; its frame. -/
import Derived.Test.Qxb6500665aDoorModAmP
namespace Go.Proofs.Qxb6500665aDoor
open Go.RowKit Go.Proofs.Qxb6500665aDoor.Cal

/-- An answer, plain. -/
structure PA where
  code : Int := 0
  num : Int := 0
  list : List Int := []
  p0 : Int := 0
  p1 : Int := 0
  p2 : Int := 0
  p3 : Int := 0
  v0 : Int := 0
  v1 : Int := 0
  vis : List Visit := []
  a0 : Int := 0
  a1 : Int := 0
  a2 : Int := 0
  a3 : Int := 0
  s0 : Int := 0
  s1 : Int := 0
  s2 : Int := 0

/-- The answer's cells stand for it; ok: where its lists lie. -/
structure ARead (w : World) (ok : Nat → Prop) (x : Ans) (A : PA) : Prop where
  list : U32sAt w ok (sv x.list) A.list
  vis : VisitsAt w ok (sv x.vis) A.vis
  ints : x.code = A.code ∧ x.num = A.num ∧ x.p0 = A.p0 ∧ x.p1 = A.p1 ∧ x.p2 = A.p2 ∧ x.p3 = A.p3 ∧ x.v0 = A.v0 ∧ x.v1 = A.v1 ∧ x.a0 = A.a0 ∧ x.a1 = A.a1 ∧ x.a2 = A.a2 ∧ x.a3 = A.a3 ∧ x.s0 = A.s0 ∧ x.s1 = A.s1 ∧ x.s2 = A.s2

theorem ARead.mono {w w' : World} {ok ok' : Nat → Prop} {x : Ans} {A : PA} (h : ARead w ok x A) (hs : Same ok w w') (hk : ∀ b, ok b → ok' b) : ARead w' ok' x A :=
  ⟨h.list.mono hs hk, h.vis.mono hs hk, h.ints⟩
theorem ARead.below {w w' : World} {ok : Nat → Prop} {x : Ans} {A : PA} (h : ARead w ok x A) (hb : Below w.heap.size w w') : ARead w' ok x A :=
  ⟨h.list.below hb, h.vis.below hb, h.ints⟩

/-- What the model's step leaves. -/
def MSPost (w w' : World) (e : Ending) (M base N a p s u : Nat) (v : Value) (C : Nat → Prop) (A : PA) (T' : Tab) (full' : Bool) : Prop :=
  ∃ (v' : Value) (C' : Nat → Prop) (x : Ans), e = .returned (.agg (ansCs x)) ∧ MCmd w w' M base N a p s u v v' C C' T' full' ∧ ARead w' (fun _ => True) x A
theorem ret_ms {w w' : World} {e : Ending} {M base N a p s u : Nat} {v : Value} {C : Nat → Prop} {A A' : PA} {T' T'' : Tab} {full full' : Bool} (h : Hid (A = A' ∧ T' = T'' ∧ full = full')) (hp : MSPost w w' e M base N a p s u v C A' T'' full') : MSPost w w' e M base N a p s u v C A T' full := by
  rw [h.out.1, h.out.2.1, h.out.2.2]; exact hp

/-- Behind the boxes and the two answers. -/
theorem mstep_start (w : World) (o : Op) (la va : Option Addr) (ln lc vn vc M : Nat) :
    ∃ w4, Hid (w4 = (((w.alloc (.cells #[.pointer (some ⟨M, 0, none⟩)] 26)).alloc (.cells (opCs o (.slice la ln lc) (.slice va vn vc)) 34)).alloc (.cells (ansCs {}) 47)).alloc (.cells (ansCs {}) 47)) ∧ Below w.heap.size w w4 ∧ w4.heap.size = w.heap.size + 4 ∧
      w4.heap[w.heap.size]? = some (.cells #[.pointer (some ⟨M, 0, none⟩)] 26 (0, 0)) ∧ w4.heap[w.heap.size + 1]? = some (.cells (opCs o (.slice la ln lc) (.slice va vn vc)) 34 (0, 0)) ∧ w4.heap[w.heap.size + 2]? = some (.cells (ansCs {}) 47 (0, 0)) ∧ w4.heap[w.heap.size + 3]? = some (.cells (ansCs {}) 47 (0, 0)) := by
  refine ⟨_, rfl, (((((Below.refl _ _).alloc (Nat.le_refl _) _).alloc (by simp only [World.size_alloc]; omega) _).alloc (by simp only [World.size_alloc]; omega) _).alloc (by simp only [World.size_alloc]; omega) _), by simp, ?_⟩
  have h5 := heap5 w (.cells #[.pointer (some ⟨M, 0, none⟩)] 26) (.cells (opCs o (.slice la ln lc) (.slice va vn vc)) 34) (.cells (ansCs {}) 47) (.cells (ansCs {}) 47) (.cells #[] 47)
  obtain ⟨h1, h2, h3, h4, -⟩ := h5
  rw [Below.heap_alloc _ _ _ (by simp only [World.size_alloc]; omega)] at h1 h2 h3 h4
  exact ⟨h1, h2, h3, h4⟩

/-- Behind the command: the answer's blocks have been written. -/
theorem MCmd.around {w w4 w5 W : World} {M base N N' a p s u : Nat} {v v' : Value} {C C' : Nat → Prop} {T T' : Tab} {full full' : Bool} (h : MAt w M base N a p s u v C T full) (hb4 : Below w.heap.size w w4) (hs4 : w4.heap.size = w.heap.size + 4) (hc : MCmd w4 w5 M base N' a p s u v v' C C' T' full')
    (ho : ∀ b, b ≠ w.heap.size + 2 → b ≠ w.heap.size + 3 → W.heap[b]? = w5.heap[b]?) (hsz : w5.heap.size ≤ W.heap.size) (hbe : Below base w5 W) : MCmd w W M base N' a p s u v v' C C' T' full' := by
  have hbs := h.bs
  have h45 := hc.below.size
  have hnot : ∀ b, MD M a p s u v' C' b → b ≠ w.heap.size + 2 ∧ b ≠ w.heap.size + 3 := fun b hb => by
    rcases hb with hb | hb | hb
    · have := h.hlt b (Or.inl hb); omega
    · rcases hc.newv with h1 | h1
      · rw [h1] at hb; have := h.hlt b (Or.inr (Or.inl hb)); omega
      · have := h1 b hb; omega
    · rcases hc.new b hb with h1 | h1
      · have := h.hlt b (Or.inr (Or.inr h1)); omega
      · omega
  refine ⟨hc.at'.below (fun b hb => ho b (hnot b hb).1 (hnot b hb).2) (fun b hb => ho b (by omega) (by omega)) hsz, fun b hb hm => ?_, (hb4.mono hbs).trans (hc.below.trans hbe), fun b hb => ?_, ?_⟩
  · rw [ho b (by omega) (by omega), hc.same b (by omega) hm]
    exact hb4.block b hb
  · rcases hc.new b hb with h1 | h1
    · exact Or.inl h1
    · exact Or.inr (by omega)
  · rcases hc.newv with h1 | h1
    · exact Or.inl h1
    · exact Or.inr (fun b hb => by have := h1 b hb; omega)

/-- The model's own cells but the last. -/
theorem MAt.setFull {w w' : World} {M base N a p s u : Nat} {v : Value} {C : Nat → Prop} {T : Tab} {full full' : Bool} (h : MAt w M base N a p s u v C T full) (hs : ∀ b, b < w.heap.size → b ≠ M → w'.heap[b]? = w.heap[b]?) (hgb : Below base w w')
    (htop : w'.heap[M]? = some (.cells #[.map (some a), .map (some p), v, .map (some s), .map (some u), .bool full'] 70 (0, 0))) : MCmd w w' M base (N + 1) a p s u v v C C T full' := by
  obtain ⟨pf, h1, h2⟩ := h.pan
  obtain ⟨mv, m1, m2, m3, m4⟩ := h.vers
  obtain ⟨n1, n2, n3, n4, n5, n6, n7, n8, n9, n10⟩ := h.nds
  obtain ⟨o1, o2, o3, o4⟩ := h.others M (by simp) hs
  refine ⟨⟨htop, (h.an.same (o1 a (by simp) n1.symm)).mono (Nat.le_succ _), ⟨pf, (h1.same (o1 p (by simp) n2.symm)).mono (Nat.le_succ _), fun k hk => ?_⟩, ⟨mv, m1.mono o3, m2, m3, fun x hx => (m4 x hx).mono (fun b hb => hb.elim (o4 b) (o2 b)) (fun _ h => h)⟩, (h.site.same (o1 s (by simp) n3.symm)).mono (Nat.le_succ _), (h.sub.same (o1 u (by simp) n4.symm)).mono (Nat.le_succ _), h.nd, h.low, h.own, fun b hb => ⟨(h.lt b hb).1, Nat.lt_of_lt_of_le (h.lt b hb).2 hgb.size⟩⟩, fun b hb hd => hs b hb (fun e => hd (Or.inl (by rw [e]; simp))), hgb, fun b hb => Or.inl hb, Or.inl rfl⟩
  rcases h2 k hk with h3 | ⟨ids, pv, h3, h4, h5⟩
  · exact Or.inl h3
  · exact Or.inr ⟨ids, pv, h3, h4, h5.mono o2 (fun _ h => h)⟩

/-- The two answers as they lie behind a command of the model. -/
theorem ans_after {w w4 w5 : World} {M base N N' a p s u : Nat} {v v' : Value} {C C' : Nat → Prop} {T T' : Tab} {full full' : Bool} (h : MAt w M base N a p s u v C T full) (hs4 : w4.heap.size = w.heap.size + 4) (hc : MCmd w4 w5 M base N' a p s u v v' C C' T' full') (b : Nat) (hb : w.heap.size ≤ b) (hb' : b < w.heap.size + 4) : w5.heap[b]? = w4.heap[b]? :=
  hc.same b (by omega) (fun hm => by have := h.hlt b hm; omega)

/-- All cells of an answer. -/
theorem ans_cells {w : World} {g : Nat} {cs : Array Value} (h : w.heap[g]? = some (.cells cs 47 (0, 0))) : (∀ j x, cs[j]? = some x → w.cell? ⟨g, j, none⟩ = some x) ∧ (∀ j, w.frozen? ⟨g, j, none⟩ = false) ∧ g < w.heap.size := by
  refine ⟨fun j x hx => by simp [World.cell?, h, hx], fun j => by rw [World.frozen?, h]; simp, ?_⟩
  apply Classical.byContradiction
  intro hn
  have : w.heap[g]? = none := by simp; omega
  rw [h] at this
  cases this

theorem u32s_any {w : World} {ok : Nat → Prop} {v : Value} {l : List Int} (h : U32sAt w ok v l) : U32sAt w (fun _ => True) v l := h.mono (Same.refl _ _) (fun _ _ => trivial)
theorem visits_any {w : World} {ok : Nat → Prop} {v : Value} {l : List Visit} (h : VisitsAt w ok v l) : VisitsAt w (fun _ => True) v l := h.mono (Same.refl _ _) (fun _ _ => trivial)
theorem u32s_none (w : World) : U32sAt w (fun _ => True) (.slice none 0 0) [] := RArr.nil _ _ _ _

end Go.Proofs.Qxb6500665aDoor
