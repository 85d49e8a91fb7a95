/- The probes and the ids that the law gathers. -/
import Derived.Test.Qxb6500665aLawSt
namespace Go.Proofs.Qxb6500665a
open Go.RowKit Go.Proofs.Qxb6500665a.Cal

def nearD (d : Int) : Prop := -20000 ≤ d ∧ d ≤ 200000

/-- Probes P at pv, ids I at iv, in memory made since w3. -/
structure PI (w3 W : World) (pv iv : Value) (P I : List Int) : Prop where
  p : OwnR W w3.heap.size 2 1 i64Cs pv P
  i : OwnR W w3.heap.size 33 1 u32Cs iv I
  apart : ∀ b, pv.ownBlock = some b → iv.ownBlock ≠ some b
  below : Below w3.heap.size w3 W
  near : ∀ d ∈ P, nearD d
  pos : 0 < I.length

structure PI5 (w3 W5 W : World) (pv0 pv : Value) (P : List Int) : Prop where
  p : OwnR W w3.heap.size 2 1 i64Cs pv P
  same : Same (fun b => b < W5.heap.size ∧ pv0.ownBlock ≠ some b) W5 W
  below : Below w3.heap.size W5 W
  at' : pv.ownBlock = pv0.ownBlock ∨ ∀ b, pv.ownBlock = some b → W5.heap.size ≤ b
  near : ∀ d ∈ P, nearD d

theorem near_addOnce {P : List Int} {d : Int} (h : ∀ x ∈ P, nearD x) (hd : nearD d) : ∀ x ∈ addOnce P d, nearD x := fun x hx => by
  unfold addOnce at hx
  split at hx
  · exact h x hx
  · rcases List.mem_append.1 hx with hx | hx
    · exact h x hx
    · rw [List.mem_singleton.1 hx]; exact hd

theorem addOnce_le (l : List Int) (x : Int) : l.length ≤ (addOnce l x).length := by
  unfold addOnce
  split
  · omega
  · simp

theorem PI.ext {w3 W W' : World} {pv iv : Value} {P I : List Int} (k : PI w3 W pv iv P I) (hb : Below W.heap.size W W') : PI w3 W' pv iv P I :=
  ⟨k.p.below hb (Nat.le_refl _), k.i.below hb (Nat.le_refl _), k.apart, k.below.trans (hb.mono k.below.size), k.near, k.pos⟩

theorem PI.start5 {w3 W : World} {pv iv : Value} {P I : List Int} (k : PI w3 W pv iv P I) : PI5 w3 W W pv pv P := ⟨k.p, Same.refl _ _, Below.refl _ _, Or.inl rfl, k.near⟩

theorem PI5.next {w3 W5 W W' : World} {pv0 pv pv' : Value} {P : List Int} {d : Int} (k : PI5 w3 W5 W pv0 pv P) (hd : nearD d) (ho : OwnR W' w3.heap.size 2 1 i64Cs pv' (addOnce P d)) (hs : Same (fun b => b < W.heap.size ∧ pv.ownBlock ≠ some b) W W') (hb : Below w3.heap.size W W') (hat : pv'.ownBlock = pv.ownBlock ∨ ∀ b, pv'.ownBlock = some b → W.heap.size ≤ b) : PI5 w3 W5 W' pv0 pv' (addOnce P d) := by
  have hsz := k.below.size
  refine ⟨ho, fun b hb' => ?_, k.below.trans hb, ?_, near_addOnce k.near hd⟩
  · rw [hs b ⟨by omega, fun e => ?_⟩, k.same b hb']
    rcases k.at' with h | h
    · exact hb'.2 (h ▸ e)
    · have := h b e; omega
  · rcases hat with h | h
    · rcases k.at' with h' | h'
      · exact Or.inl (h.trans h')
      · exact Or.inr fun b hb' => h' b (h ▸ hb')
    · exact Or.inr fun b hb' => by have := h b hb'; omega

theorem PI.id {w3 W5 W W' : World} {pv0 pv iv iv' : Value} {P0 P I : List Int} {x : Int} (k0 : PI w3 W5 pv0 iv P0 I) (k : PI5 w3 W5 W pv0 pv P) (ho : OwnR W' w3.heap.size 33 1 u32Cs iv' (addOnce I x)) (hs : Same (fun b => b < W.heap.size ∧ iv.ownBlock ≠ some b) W W') (hb : Below w3.heap.size W W') (hat : iv'.ownBlock = iv.ownBlock ∨ ∀ b, iv'.ownBlock = some b → W.heap.size ≤ b) : PI w3 W' pv iv' P (addOnce I x) := by
  have hsz := k.below.size
  have hne : ∀ b, pv.ownBlock = some b → iv.ownBlock ≠ some b := fun b hb' e => by
    rcases k.at' with h | h
    · exact k0.apart b (h ▸ hb') e
    · have h1 := h b hb'
      have h2 := (k0.i.block b e).2
      omega
  refine ⟨k.p.mono fun b hb' => hs b ⟨(k.p.block b hb').2, hne b hb'⟩, ho, fun b hb' e => ?_, (k0.below.trans k.below).trans hb, k.near, by have := addOnce_le I x; have := k0.pos; omega⟩
  rcases hat with h | h
  · exact hne b hb' (h ▸ e)
  · have h1 := h b e
    have h2 := (k.p.block b hb').2
    omega

/-- The ids behind the four probes. -/
theorem PI.ids5 {w3 W5 W : World} {pv0 pv iv : Value} {P0 P I : List Int} (k0 : PI w3 W5 pv0 iv P0 I) (k : PI5 w3 W5 W pv0 pv P) : OwnR W w3.heap.size 33 1 u32Cs iv I :=
  k0.i.mono fun b hb => k.same b ⟨(k0.i.block b hb).2, fun e => k0.apart b e hb⟩

/-- A list of literals. -/
theorem own_lit {α : Type} {w : World} {base : Nat} {e : TypeId} {f : α → Array Value} (hf : ∀ x, (f x).size = 1) (xs : List α) (hb : base ≤ w.heap.size) (hm : xs.length ≤ 1000) : OwnR (w.alloc (.cells (flat f xs).toArray e)) base e 1 f (.slice (some ⟨w.heap.size, 0, none⟩) xs.length xs.length) xs := by
  have := World.ownsRow_lit (base := base) (e := e) (size := 1) w (flat f xs).toArray xs.length hb (by unfold maxLen; omega) (by simp [flat_length hf])
  simpa [OwnR] using this

end Go.Proofs.Qxb6500665a
