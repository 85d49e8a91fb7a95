/- amend of the model: plain, and what it leaves. -/
import Derived.Test.Qxb6500665aDoorAppFull
namespace Go.Proofs.Qxb6500665aDoor
open Go.RowKit Go.Proofs.Qxb6500665aDoor.Cal

def knownT (T : Tab) (vs : List Visit) : Bool := vs.all fun v => v.panels.all fun x => (T.pan x).isSome
def mAm (T : Tab) (full : Bool) (eff : Int) (vs : List Visit) : Int :=
  if eff < 0 ∨ 157785119 < eff then 3 else if vs.length = 0 ∨ 12 < vs.length then 7 else if firstErr vs ≠ 0 then firstErr vs else if ¬ (vs.map (·.id)).Nodup then 8
  else if ¬ NoLap vs then 12 else if knownT T vs = false then 15 else if T.vers.length ≠ 0 ∧ eff ≤ lastEff T.vers then 13 else if full then 21 else 0
def mAmT (T : Tab) (full : Bool) (eff : Int) (vs : List Visit) : Tab := if mAm T full eff vs = 0 then { T with vers := T.vers ++ [(eff, sortV vs)] } else T

/-- What amend hands back; num: the number if it was accepted. -/
def AmmPost (w w' : World) (e : Ending) (M base N a p s u : Nat) (v : Value) (C : Nat → Prop) (full : Bool) (k num : Int) (T' : Tab) : Prop :=
  ∃ v' C', e = .returned (.tuple #[.int .u32 num, .int .u8 k]) ∧ MCmd w w' M base N a p s u v v' C C' T' full
theorem ret_amm {w w' : World} {e : Ending} {M base N a p s u : Nat} {v : Value} {C : Nat → Prop} {full : Bool} {k k' num num' : Int} {T' T'' : Tab} (h : Hid (k = k' ∧ num = num' ∧ T' = T'')) (hp : AmmPost w w' e M base N a p s u v C full k' num' T'') : AmmPost w w' e M base N a p s u v C full k num T' := by
  rw [h.out.1, h.out.2.1, h.out.2.2]; exact hp

/-- A version has been added: its visits lie in block g. -/
theorem MAt.addVer {w w' : World} {M base N a p s u : Nat} {v v' : Value} {C : Nat → Prop} {T : Tab} {full : Bool} {g : Nat} {mv : List MVer} {x : MVer} (h : MAt w M base N a p s u v C T full)
    (hs : ∀ b, b < w.heap.size → b ≠ M → v.ownBlock ≠ some b → w'.heap[b]? = w.heap[b]?) (hbl : Below base w w')
    (htop : w'.heap[M]? = some (.cells #[.map (some a), .map (some p), v', .map (some s), .map (some u), .bool full] 70 (0, 0)))
    (m2 : T.vers = mv.map (fun x => (x.eff, x.vs))) (m3 : ∀ k (h : k < mv.length), mv[k].num = (k : Int) + 1) (m4 : ∀ x ∈ mv, VisitsAt w (fun b => b < base ∨ C b) (sv x.s) x.vs)
    (hown : OwnR w' base 41 3 mvCs v' (mv ++ [x])) (hnum : x.num = (mv.length : Int) + 1) (hg : w.heap.size ≤ g) (hg' : g < w'.heap.size)
    (hvis : VisitsAt w' (fun b => b < base ∨ b = g) (sv x.s) x.vs) (hv : v'.ownBlock = v.ownBlock ∨ ∀ b, v'.ownBlock = some b → w.heap.size ≤ b) (hvg : v'.ownBlock ≠ some g) :
    MCmd w w' M base (N + 1) a p s u v v' C (fun b => C b ∨ b = g) { T with vers := T.vers ++ [(x.eff, x.vs)] } full := by
  obtain ⟨pf, h1, h2⟩ := h.pan
  obtain ⟨n1, n2, n3, n4, n5, n6, n7, n8, n9, n10⟩ := h.nds
  have hbs := h.bs
  have hsz := hbl.size
  have hng : ∀ b, MD M a p s u v C b → b ≠ g := fun b hb => by have := h.hlt b hb; omega
  have one : ∀ b ∈ [a, p, s, u], w'.heap[b]? = w.heap[b]? := fun b hb => by
    have hm : b ∈ [M, a, p, s, u] := List.mem_cons_of_mem _ hb
    refine hs b (h.hlt b (Or.inl hm)) (fun e => ?_) (h.low b hm).2.2
    subst e
    simp only [List.mem_cons, List.not_mem_nil, or_false] at hb
    rcases hb with hb | hb | hb | hb
    · exact n1 hb
    · exact n2 hb
    · exact n3 hb
    · exact n4 hb
  have oC : ∀ b, C b → w'.heap[b]? = w.heap[b]? := fun b hb => hs b (h.hlt b (Or.inr (Or.inr hb))) (fun e => (h.low M (by simp)).2.1 (e ▸ hb)) (fun e => h.own b e hb)
  have hvb : ∀ b ∈ [M, a, p, s, u], v'.ownBlock ≠ some b := fun b hb e => by
    rcases hv with hv | hv
    · rw [hv] at e; exact (h.low b hb).2.2 e
    · have := hv b e; have := h.hlt b (Or.inl hb); omega
  have hvC : ∀ b, v'.ownBlock = some b → ¬ C b := fun b e hc => by
    rcases hv with hv | hv
    · rw [hv] at e; exact h.own b e hc
    · have := hv b e; have := h.hlt b (Or.inr (Or.inr hc)); omega
  refine ⟨⟨htop, (h.an.same (one a (by simp))).mono (Nat.le_succ _), ⟨pf, (h1.same (one p (by simp))).mono (Nat.le_succ _), fun k hk => ?_⟩, ⟨mv ++ [x], hown, by simp [m2], fun k hk => ?_, fun y hy => ?_⟩, (h.site.same (one s (by simp))).mono (Nat.le_succ _), (h.sub.same (one u (by simp))).mono (Nat.le_succ _), h.nd, fun b hb => ⟨(h.low b hb).1, fun hc => hc.elim (h.low b hb).2.1 (hng b (Or.inl hb)), hvb b hb⟩, fun b hb hc => hc.elim (hvC b hb) (fun e => hvg (e ▸ hb)), fun b hb => ?_⟩, fun b hb hd => hs b hb (fun e => hd (Or.inl (by rw [e]; simp))) (fun e => hd (Or.inr (Or.inl e))), hbl, fun b hb => hb.elim Or.inl (fun e => Or.inr (by omega)), hv⟩
  · rcases h2 k hk with h3 | ⟨ids, pv, h3, h4, h5⟩
    · exact Or.inl h3
    · exact Or.inr ⟨ids, pv, h3, h4, h5.mono oC (fun _ h => Or.inl h)⟩
  · by_cases hkl : k < mv.length
    · rw [List.getElem_append_left hkl]; exact m3 k hkl
    · have hke : k = mv.length := by simp at hk; omega
      subst hke
      simp [hnum]
  · rcases List.mem_append.1 hy with hy | hy
    · exact (m4 y hy).mono (fun b hb => hb.elim (fun h => hbl.block b h) (oC b)) (fun b hb => hb.elim Or.inl (fun h => Or.inr (Or.inl h)))
    · rw [List.mem_singleton.1 hy]
      exact hvis.mono (Same.refl _ _) (fun b hb => hb.elim Or.inl (fun h => Or.inr (Or.inr h)))
  · rcases hb with hb | rfl
    · exact ⟨(h.lt b hb).1, Nat.lt_of_lt_of_le (h.lt b hb).2 hsz⟩
    · exact ⟨by omega, hg'⟩

end Go.Proofs.Qxb6500665aDoor
