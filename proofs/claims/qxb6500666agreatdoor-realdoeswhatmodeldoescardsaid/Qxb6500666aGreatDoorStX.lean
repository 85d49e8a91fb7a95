/- A step of the bench with its answer: data, frames. -/
import Derived.Test.Qxb6500666aGreatDoorStepP
import Derived.Test.Qxb6500666aGreatDoorExecX
namespace Go.Proofs.Qxb6500666aGreatDoor
open Go.RowKit

theorem RspP.keep {rn kn : Nat → ByteArray} {w W1 W3 W4 : World} {ps : List KV} {full : Bool} {off lar : Int} {L : Low} {r : Req} {x : Rsp} (h : w.heap.size ≤ W1.heap.size) (hs : ∀ b, W1.heap.size ≤ b → b < W3.heap.size → W4.heap[b]? = W3.heap[b]?) (hx : RspP rn kn W1 W3 ps full off lar L r x) : RspP rn kn w W4 ps full off lar L r x :=
  ⟨fun q role e => rdX_keep h hs (hx.1 q role e), hx.2⟩
/-- What step answers in the place of the response. -/
def AnsP (rn kn : Nat → ByteArray) (w w' : World) (t : ST) (o : Op) (x : Rsp) : Prop :=
  (o.kind ≠ 1 → x = rsp0) ∧ (o.kind = 1 → RspP rn kn w w' t.ps t.full t.off t.lar t.low o.req x)
/-- What a step leaves of the rest of memory, the bench's blocks told. -/
structure StF (w w' : World) (Bn Y S LB base : Nat) (pv : Value) (A ok : Nat → Prop) (Y' : Nat) (pv' : Value) (A' ok' : Nat → Prop) : Prop where
  fr : ∀ b, b < w.heap.size → b ≠ S → b ≠ LB → b ≠ Bn → pv.ownBlock ≠ some b → w'.heap[b]? = w.heap[b]?
  bel : Below base w w'
  own : pv'.ownBlock = pv.ownBlock ∨ ∀ b, pv'.ownBlock = some b → w.heap.size ≤ b
  na : Nw w A A'
  no : Nw w ok ok'
  yy : Y' = Y ∨ w.heap.size ≤ Y'
def StX (w w' : World) (Bn Y S LB base : Nat) (pv : Value) (A ok : Nat → Prop) (e : Ending) (s : ST) (RP : Rsp → Prop) : Prop :=
  ∃ Y' pv' A' ok' zs' x' ans, BN w' Bn Y' S LB base pv' A' ok' zs' s.full s.off s.lar x' s.low ∧ zs'.map (·.2) = s.ps ∧ e = .returned (.agg (ansCs ans)) ∧ StF w w' Bn Y S LB base pv A ok Y' pv' A' ok' ∧ RP ans.resp
theorem StX.same {w w' : World} {Bn Y S LB base : Nat} {pv : Value} {A ok : Nat → Prop} {zs : List ZP} {full : Bool} {off lar : Int} {x : LV} {L : Low} {ans : AnsR} {s : ST} {RP : Rsp → Prop} (h : BN w Bn Y S LB base pv A ok zs full off lar x L) (hb : Below w.heap.size w w') (hs : s = ⟨zs.map (·.2), full, off, lar, L⟩) (hp : RP ans.resp) : StX w w' Bn Y S LB base pv A ok (.returned (.agg (ansCs ans))) s RP := by
  subst hs
  exact ⟨Y, pv, A, ok, zs, x, ans, h.below hb, rfl, rfl, ⟨fun b p _ _ _ _ => hb.block b p, hb.mono (by have := h.bs.bs; have := blk_lt h.bs.lb; omega), Or.inl rfl, Nw.refl _ _, Nw.refl _ _, Or.inl rfl⟩, hp⟩
/-- The bench's memory is only what it names. -/
theorem BN.mono {W W' : World} {Bn Y S LB base : Nat} {pv : Value} {A ok : Nat → Prop} {zs : List ZP} {full : Bool} {off lar : Int} {x : LV} {L : Low} (h : BN W Bn Y S LB base pv A ok zs full off lar x L) (hs : ∀ b, b < W.heap.size → (b = Bn ∨ b = Y ∨ b = S ∨ b = LB ∨ pv.ownBlock = some b ∨ A b ∨ ok b) → W'.heap[b]? = W.heap[b]?) (hz : W.heap.size ≤ W'.heap.size) : BN W' Bn Y S LB base pv A ok zs full off lar x L := by
  have k := h.bs
  refine ⟨⟨(hs Y (blk_lt k.sys) (by simp)).trans k.sys, ⟨(hs S (blk_lt k.stm.top) (by simp)).trans k.stm.top, k.stm.own.mono (fun b e => hs b (k.stm.own.block b e).2 (by simp [e])), k.stm.zip.mono (fun b p => hs b (k.stm.lt b p) (by simp [p])) (fun _ p => p), k.stm.sep, k.stm.out, fun b p => by have := k.stm.lt b p; omega, k.stm.baseS⟩, (hs LB (blk_lt k.lb) (by simp)).trans k.lb, k.low.mono (fun b p => hs b (k.okl b p).1 (by simp [p])) (fun _ p => p), fun b p => ⟨by have := (k.okl b p).1; omega, (k.okl b p).2⟩, k.ne, k.pvn, k.an, k.bs⟩, (hs Bn (blk_lt h.bn) (by simp)).trans h.bn, h.ne, h.n2, h.n3, h.n4, h.bb⟩
theorem StF.aw {w w' : World} {Bn Y S LB base : Nat} {pv : Value} {A ok : Nat → Prop} {Y' : Nat} {pv' : Value} {A' ok' : Nat → Prop} (h : StF w w' Bn Y S LB base pv A ok Y' pv' A' ok') {g : Nat} (hg : g < w.heap.size) (ha : Aw g Bn Y S LB pv A ok) : Aw g Bn Y' S LB pv' A' ok' ∧ w'.heap[g]? = w.heap[g]? := by
  refine ⟨⟨⟨?_, ha.1.2.1, ha.1.2.2⟩, ha.2.1, fun e => ?_, fun e => ?_, fun e => ?_⟩, h.fr g hg ha.1.2.1 ha.1.2.2 ha.2.1 ha.2.2.1⟩
  · rcases h.yy with e | e
    · rw [e]; exact ha.1.1
    · omega
  · rcases h.own with e1 | e1
    · exact ha.2.2.1 (e1 ▸ e)
    · have := e1 g e; omega
  · rcases h.na g e with e1 | e1
    · exact ha.2.2.2.1 e1
    · omega
  · rcases h.no g e with e1 | e1
    · exact ha.2.2.2.2 e1
    · omega

end Go.Proofs.Qxb6500666aGreatDoor
