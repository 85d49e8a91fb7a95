/- The abstract model in memory. -/
import Derived.Test.Qxb6500665aDoorSameAns
namespace Go.Proofs.Qxb6500665aDoor
open Go.RowKit Go.Proofs.Qxb6500665aDoor.Cal

def anV (k : Int) (l : Int × Int × Int) : Value := .agg #[.int .u32 k, .int .i64 l.1, .int .i64 l.2.1, .int .i64 l.2.2]
def suV (k : Int) (s : Int × Int) : Value := .agg #[.int .u32 k, .int .u32 s.1, .int .i64 s.2]
def anZ : Value := .agg #[.int .u32 0, .int .i64 0, .int .i64 0, .int .i64 0]
def suZ : Value := .agg #[.int .u32 0, .int .u32 0, .int .i64 0]

/-- A version as the model keeps it. -/
structure MVer where
  num : Int
  eff : Int
  s : SV
  vs : List Visit
def mvCs (x : MVer) : Array Value := #[.int .u32 x.num, .int .i64 x.eff, sv x.s]
theorem mvCs_size (x : MVer) : (mvCs x).size = 3 := rfl
theorem mvCs_one (x : MVer) : ∀ u ∈ (mvCs x).toList, u.oneCell' = true := by simp [mvCs, sv, Value.oneCell']

/-- The model at block M: maps at a, p, s, u; its versions at v; C: the blocks of the lists that never change. -/
structure MAt (w : World) (M base N a p s u : Nat) (v : Value) (C : Nat → Prop) (T : Tab) (full : Bool) : Prop where
  top : w.heap[M]? = some (.cells #[.map (some a), .map (some p), v, .map (some s), .map (some u), .bool full] 70 (0, 0))
  an : MapU w a N anZ (fun k => (T.an k).map (anV k))
  pan : ∃ pf, MapU w p N (.slice none 0 0) pf ∧ ∀ k, U32 k → (T.pan k = none ∧ pf k = none) ∨ ∃ ids pv, T.pan k = some ids ∧ pf k = some pv ∧ U32sAt w C pv ids
  vers : ∃ mv : List MVer, OwnR w base 41 3 mvCs v mv ∧ T.vers = mv.map (fun x => (x.eff, x.vs)) ∧ (∀ k (h : k < mv.length), mv[k].num = (k : Int) + 1) ∧ ∀ x ∈ mv, VisitsAt w (fun b => b < base ∨ C b) (sv x.s) x.vs
  site : MapU w s N (.bool false) (fun k => if T.site k then some (.bool true) else none)
  sub : MapU w u N suZ (fun k => (T.sub k).map (suV k))
  nd : [M, a, p, s, u].Nodup
  low : ∀ b ∈ [M, a, p, s, u], base ≤ b ∧ ¬ C b ∧ v.ownBlock ≠ some b
  own : ∀ b, v.ownBlock = some b → ¬ C b
  lt : ∀ b, C b → base ≤ b ∧ b < w.heap.size

/-- The model's blocks. -/
def MD (M a p s u : Nat) (v : Value) (C : Nat → Prop) (b : Nat) : Prop := b ∈ [M, a, p, s, u] ∨ v.ownBlock = some b ∨ C b

theorem MAt.below {w w' : World} {M base N a p s u : Nat} {v : Value} {C : Nat → Prop} {T : Tab} {full : Bool} (h : MAt w M base N a p s u v C T full) (hs : ∀ b, MD M a p s u v C b → w'.heap[b]? = w.heap[b]?) (hb : ∀ b, b < base → w'.heap[b]? = w.heap[b]?) (hz : w.heap.size ≤ w'.heap.size) : MAt w' M base N a p s u v C T full := by
  obtain ⟨pf, h1, h2⟩ := h.pan
  obtain ⟨mv, m1, m2, m3, m4⟩ := h.vers
  refine ⟨(hs M (Or.inl (by simp))).trans h.top, h.an.same (hs a (Or.inl (by simp))), ⟨pf, h1.same (hs p (Or.inl (by simp))), fun k hk => ?_⟩, ⟨mv, m1.mono (fun b hb' => hs b (Or.inr (Or.inl hb'))), m2, m3, fun x hx => (m4 x hx).mono (fun b hb' => hb'.elim (hb b) (fun h => hs b (Or.inr (Or.inr h)))) (fun _ h => h)⟩, h.site.same (hs s (Or.inl (by simp))), h.sub.same (hs u (Or.inl (by simp))), h.nd, h.low, h.own, fun b hb' => ⟨(h.lt b hb').1, Nat.lt_of_lt_of_le (h.lt b hb').2 hz⟩⟩
  rcases h2 k hk with h3 | ⟨ids, pv, h3, h4, h5⟩
  · exact Or.inl h3
  · exact Or.inr ⟨ids, pv, h3, h4, h5.mono (fun b hb' => hs b (Or.inr (Or.inr hb'))) (fun _ h => h)⟩

end Go.Proofs.Qxb6500665aDoor
