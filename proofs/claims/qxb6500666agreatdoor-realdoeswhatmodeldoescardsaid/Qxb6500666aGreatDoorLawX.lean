/- Common parts of the laws that look at the answers: the bench beside the law's own blocks. -/
import Derived.Test.Qxb6500666aGreatDoorLawB
import Derived.Test.Qxb6500666aGreatDoorStXA
import Derived.Test.Qxb6500666aGreatDoorStXB
import Derived.Test.Qxb6500666aGreatDoorStXC
namespace Go.Proofs.Qxb6500666aGreatDoor
open Go.RowKit

theorem step_x (w : World) (Bn Y S LB base : Nat) (pv : Value) (A ok oko okg : Nat → Prop) (zs : List ZP) (full : Bool) (off lar : Int) (x : LV) (L : Low) (o : Op) (lv dv : Value) (ca : Option Addr) (cn cc : Nat) (rn kn ft : Nat → ByteArray) (h : BN w Bn Y S LB base pv A ok zs full off lar x L) (hp : PO (zs.map (·.2)) L) (ho : OpIn w oko o lv dv ca cn cc) (hgl : Gl w base rn kn ft okg) (hoff : 0 ≤ off ∧ off ≤ 1000000000000000) :
    Calls Tryz.prog 21 #[.pointer (some ⟨Bn, 0, none⟩), .agg (opA o lv dv ca cn cc)] w fun e w' => StX w w' Bn Y S LB base pv A ok e (stepR ⟨zs.map (·.2), full, off, lar, L⟩ o) (AnsP rn kn w w' ⟨zs.map (·.2), full, off, lar, L⟩ o) := by
  by_cases h1 : o.kind = 1
  · exact step1x w Bn Y S LB base pv A ok oko okg zs full off lar x L o lv dv ca cn cc rn kn ft h hp ho hgl hoff h1
  by_cases h2 : o.kind = 2
  · exact step2x w Bn Y S LB base pv A ok oko okg zs full off lar x L o lv dv ca cn cc rn kn ft h hp ho hgl h2
  by_cases h3 : o.kind = 3
  · exact step3x w Bn Y S LB base pv A ok oko okg zs full off lar x L o lv dv ca cn cc rn kn ft h hp ho hgl h3
  by_cases h4 : o.kind = 4
  · exact step4x w Bn Y S LB base pv A ok oko okg zs full off lar x L o lv dv ca cn cc rn kn ft h hp ho hgl h4
  by_cases h5 : o.kind = 5
  · exact step5x w Bn Y S LB base pv A ok oko okg zs full off lar x L o lv dv ca cn cc rn kn ft h hp ho hgl h5
  by_cases h6 : o.kind = 6
  · exact step6x w Bn Y S LB base pv A ok oko okg zs full off lar x L o lv dv ca cn cc rn kn ft h hp ho hgl h6
  by_cases h7 : o.kind = 7
  · exact step7x w Bn Y S LB base pv A ok oko okg zs full off lar x L o lv dv ca cn cc rn kn ft h hp ho hgl h7
  exact stepDx w Bn Y S LB base pv A ok oko okg zs full off lar x L o lv dv ca cn cc rn kn ft h hp ho hgl ⟨h1, h2, h3, h4, h5, h6, h7⟩

theorem inv_all {s : List Op} (h : ∀ k (hk : k < s.length), s[k].req.Ok) : ∀ q, q ≤ s.length → Inv q (stAt s q)
  | 0, _ => Inv.zero
  | q + 1, hq => by
    rw [stAt_succ (by omega)]
    exact (inv_all h q (by omega)).step (h q (by omega))
/-- The bench behind some steps, beside the law's own blocks K. -/
def BX (w W : World) (K : Nat → Prop) (t : ST) : Prop := ∃ Y pv A ok zs x, BN W (w.heap.size + 2) Y w.heap.size (w.heap.size + 1) w.heap.size pv A ok zs t.full t.off t.lar x t.low ∧ zs.map (·.2) = t.ps ∧ Below w.heap.size w W ∧ ∀ g, K g → g < W.heap.size ∧ Aw g (w.heap.size + 2) Y w.heap.size (w.heap.size + 1) pv A ok
theorem BX.blw {w W : World} {K : Nat → Prop} {t : ST} (h : BX w W K t) : Below w.heap.size w W := by
  obtain ⟨_, _, _, _, _, _, _, _, h, _⟩ := h
  exact h
/-- The store's and the bench's cells. -/
theorem BX.tops {w W : World} {K : Nat → Prop} {t : ST} (h : BX w W K t) : ∃ Y pv, W.heap[w.heap.size + 2]? = some (.cells #[.pointer (some ⟨w.heap.size, 0, none⟩), .pointer (some ⟨w.heap.size + 1, 0, none⟩), .pointer (some ⟨Y, 0, none⟩)] 88 (0, 0)) ∧ W.heap[w.heap.size]? = some (.cells #[pv, .bool t.full, .int .i64 t.off, .int .i64 t.lar] 131 (0, 0)) := by
  obtain ⟨Y, pv, _, _, _, _, h1, _⟩ := h
  exact ⟨Y, pv, h1.bn, h1.bs.stm.top⟩
/-- New memory, some of it the law's. -/
theorem BX.more {w W W' : World} {K K' : Nat → Prop} {t : ST} (h : BX w W K t) (hb : Below W.heap.size W W') (hK : ∀ g, K' g → K g ∨ (W.heap.size ≤ g ∧ g < W'.heap.size)) : BX w W' K' t := by
  obtain ⟨Y, pv, A, ok, zs, x, h1, h2, h3, h4⟩ := h
  refine ⟨Y, pv, A, ok, zs, x, h1.below hb, h2, h3.trans (hb.mono h3.size), fun g hg => ?_⟩
  rcases hK g hg with q | q
  · exact ⟨Nat.lt_of_lt_of_le (h4 g q).1 hb.size, (h4 g q).2⟩
  · exact ⟨q.2, h1.aw q.1⟩
theorem BX.below {w W W' : World} {K : Nat → Prop} {t : ST} (h : BX w W K t) (hb : Below W.heap.size W W') : BX w W' K t := h.more hb (fun _ q => Or.inl q)
/-- The law writes its own blocks. -/
theorem BX.mine {w W W' : World} {K : Nat → Prop} {t : ST} (h : BX w W K t) (hs : ∀ b, b < W.heap.size → ¬ K b → W'.heap[b]? = W.heap[b]?) (hz : W.heap.size ≤ W'.heap.size) (hb : Below w.heap.size w W') : BX w W' K t := by
  obtain ⟨Y, pv, A, ok, zs, x, h1, h2, h3, h4⟩ := h
  refine ⟨Y, pv, A, ok, zs, x, h1.mono (fun b hl hq => hs b hl (fun hK => ?_)) hz, h2, hb, fun g hg => ⟨Nat.lt_of_lt_of_le (h4 g hg).1 hz, (h4 g hg).2⟩⟩
  obtain ⟨⟨a1, a2, a3⟩, a4, a5, a6, a7⟩ := (h4 b hK).2
  rcases hq with e | e | e | e | e | e | e
  · exact a4 e
  · exact a1 e
  · exact a2 e
  · exact a3 e
  · exact a5 e
  · exact a6 e
  · exact a7 e
theorem BX.step {w W : World} {K : Nat → Prop} {t : ST} {oko okg : Nat → Prop} {o : Op} {lv dv : Value} {ca : Option Addr} {cn cc : Nat} {rn kn ft : Nat → ByteArray} (h : BX w W K t) (hp : PO t.ps t.low) (ho : OpIn W oko o lv dv ca cn cc) (hgl : Gl W w.heap.size rn kn ft okg) (hoff : 0 ≤ t.off ∧ t.off ≤ 1000000000000000) :
    Calls Tryz.prog 21 #[.pointer (some ⟨w.heap.size + 2, 0, none⟩), .agg (opA o lv dv ca cn cc)] W fun e w' => ∃ ans, e = .returned (.agg (ansCs ans)) ∧ BX w w' K (stepR t o) ∧ (∀ g, K g → w'.heap[g]? = W.heap[g]?) ∧ AnsP rn kn W w' t o ans.resp := by
  obtain ⟨Y, pv, A, ok, zs, x, h1, h2, h3, h4⟩ := h
  obtain ⟨ps, full, off, lar, low⟩ := t
  dsimp only at h2 hp hoff h1
  subst h2
  refine (step_x W _ Y _ _ _ pv A ok oko okg zs full off lar x low o lv dv ca cn cc rn kn ft h1 hp ho hgl hoff).mono ?_
  rintro e w' ⟨Y', pv', A', ok', zs', x', ans, k1, k2, k3, k4, k5⟩
  refine ⟨ans, k3, ⟨Y', pv', A', ok', zs', x', k1, k2, h3.trans k4.bel, fun g hg => ⟨?_, (k4.aw (h4 g hg).1 (h4 g hg).2).1⟩⟩, fun g hg => (k4.aw (h4 g hg).1 (h4 g hg).2).2, k5⟩
  exact Nat.lt_of_lt_of_le (h4 g hg).1 k4.bel.size
theorem BX.start {w W : World} {pv : Value} {A ok : Nat → Prop} {x : LV} {Y : Nat} (h : BN W (w.heap.size + 2) Y w.heap.size (w.heap.size + 1) w.heap.size pv A ok [] false 0 0 x low0) (hb : Below w.heap.size w W) : BX w W (fun _ => False) st0 :=
  ⟨Y, pv, A, ok, [], x, h, rfl, hb, fun _ q => q.elim⟩

end Go.Proofs.Qxb6500666aGreatDoor
