/- RefusalsChangeNothing: the bench's memory as the law looks at it. -/
import Derived.Test.Qxb6500666aGreatDoorRefP
import Derived.Test.Qxb6500666aGreatDoorSnap
import Derived.Test.Qxb6500666aGreatDoorSameB
namespace Go.Proofs.Qxb6500666aGreatDoor
open Go.RowKit

theorem lvCs_inj {x y : LV} (h : lvCs x = lvCs y) : x = y := by
  obtain ⟨a1, a2, a3, a4, a5, a6, a7, a8⟩ := x
  obtain ⟨b1, b2, b3, b4, b5, b6, b7, b8⟩ := y
  simp only [lvCs, Array.mk.injEq, List.cons.injEq, and_true] at h
  obtain ⟨h1, h2, h3, h4, h5, h6, h7, h8⟩ := h
  subst h1 h2 h3 h4 h5 h6 h7 h8
  rfl
/-- All that the law reads of the bench. -/
theorem BX.all {w W : World} {K : Nat → Prop} {t : ST} (h : BX w W K t) (hl : t.ps.length ≤ 4000000) : ∃ Y pv A x ok, W.heap[w.heap.size + 2]? = some (.cells #[.pointer (some ⟨w.heap.size, 0, none⟩), .pointer (some ⟨w.heap.size + 1, 0, none⟩), .pointer (some ⟨Y, 0, none⟩)] 88 (0, 0)) ∧ W.heap[w.heap.size]? = some (.cells #[pv, .bool t.full, .int .i64 t.off, .int .i64 t.lar] 131 (0, 0)) ∧ W.heap[w.heap.size + 1]? = some (.cells (lvCs x) 83 (0, 0)) ∧ PairsAt W A pv t.ps ∧ LowAt W ok x t.low := by
  obtain ⟨Y, pv, A, ok, zs, x, h1, h2, h3, h4⟩ := h
  have hz : zs.length ≤ 100000000 := by have := congrArg List.length h2; rw [List.length_map] at this; omega
  obtain ⟨⟨pv', off', lar', htop, hp⟩, -, -⟩ := h1.bs.stm.store' hz
  have he := htop.symm.trans h1.bs.stm.top
  have he : pv' = pv := by
    injection he with he
    injection he with he
    have := congrArg (fun a : Array Value => a[0]?) he
    simpa using this
  rw [h2, he] at hp
  exact ⟨Y, pv, _, x, ok, h1.bn, h1.bs.stm.top, h1.bs.lb, hp, h1.bs.low⟩
/-- A step, and what the layers beneath held. -/
theorem BX.stepL {w W : World} {K : Nat → Prop} {t : ST} {oko okg : Nat → Prop} {o : Op} {lv dv : Value} {ca : Option Addr} {cn cc : Nat} {rn kn ft : Nat → ByteArray} (h : BX w W K t) (hp : PO t.ps t.low) (ho : OpIn W oko o lv dv ca cn cc) (hgl : Gl W w.heap.size rn kn ft okg) (hoff : 0 ≤ t.off ∧ t.off ≤ 1000000000000000) :
    ∃ x, W.heap[w.heap.size + 1]? = some (.cells (lvCs x) 83 (0, 0)) ∧ Calls Tryz.prog 21 #[.pointer (some ⟨w.heap.size + 2, 0, none⟩), .agg (opA o lv dv ca cn cc)] W fun e w' => ∃ ans, e = .returned (.agg (ansCs ans)) ∧ BX w w' K (stepR t o) ∧ (∀ g, K g → w'.heap[g]? = W.heap[g]?) ∧ AnsP rn kn W w' t o ans.resp ∧ ∃ ok, LowAt w' ok x t.low := by
  obtain ⟨Y, pv, A, ok, zs, x, h1, h2, h3, h4⟩ := h
  obtain ⟨ps, full, off, lar, low⟩ := t
  dsimp only at h2 hp hoff h1
  subst h2
  refine ⟨x, h1.bs.lb, (step_x W _ Y _ _ _ pv A ok oko okg zs full off lar x low o lv dv ca cn cc rn kn ft h1 hp ho hgl hoff).mono ?_⟩
  rintro e w' ⟨Y', pv', A', ok', zs', x', ans, k1, k2, k3, k4, k5⟩
  refine ⟨ans, k3, ⟨Y', pv', A', ok', zs', x', k1, k2, h3.trans k4.bel, fun g hg => ⟨?_, (k4.aw (h4 g hg).1 (h4 g hg).2).1⟩⟩, fun g hg => (k4.aw (h4 g hg).1 (h4 g hg).2).2, k5, ok, h1.bs.low.mono (fun b hb => ?_) (fun _ q => q)⟩
  · exact Nat.lt_of_lt_of_le (h4 g hg).1 k4.bel.size
  · have q := h1.bs.okl b hb
    exact k4.fr b q.1 q.2.1 q.2.2.1 (fun e => h1.n4 (e ▸ hb)) q.2.2.2
/-- What the law has laid aside before a step. -/
structure RefC (W1 W : World) (N : Nat) (vp : Value) (x : LV) (ps : List KV) : Prop where
  bel : Below W1.heap.size W1 W
  lo : W.heap[N]? = some (.cells (lvCs x) 83 (0, 0))
  nn : W1.heap.size ≤ N
  prs : PairsAt W (fun b => W1.heap.size ≤ b ∧ b < W.heap.size) vp ps
theorem PairsAt.below' {w w' : World} {A : Nat → Prop} {pv : Value} {ps : List KV} (h : PairsAt w A pv ps) (hA : ∀ b, A b → b < w.heap.size) (hb : Below w.heap.size w w') : PairsAt w' A pv ps := h.mono (fun b q => hb.block b (hA b q)) (fun _ q => q)
theorem PairsAt.lt {w : World} {A : Nat → Prop} {pv : Value} {ps : List KV} (h : PairsAt w A pv ps) : PairsAt w (fun b => A b ∧ b < w.heap.size) pv ps := by
  obtain ⟨qs, h1, h2, h3⟩ := h
  exact ⟨qs, h1.lt, h2, fun i hi hi' => ⟨(h3 i hi hi').1.lt, (h3 i hi hi').2.lt⟩⟩
theorem PairsAt.form {w : World} {A : Nat → Prop} {pv : Value} {ps : List KV} (h : PairsAt w A pv ps) : ∃ a n c, pv = .slice a n c := by
  obtain ⟨qs, ⟨a, cap, b, off, e, _⟩, _⟩ := h
  exact ⟨_, _, _, e⟩

end Go.Proofs.Qxb6500666aGreatDoor
