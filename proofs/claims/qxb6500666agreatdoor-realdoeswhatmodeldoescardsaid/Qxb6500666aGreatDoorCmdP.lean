/- A command: what it does (plain), the state in memory. -/
import Derived.Test.Qxb6500666aGreatDoorHands
import Derived.Test.Qxb6500666aGreatDoorApplyY
import Derived.Test.Qxb6500666aGreatDoorReadK
namespace Go.Proofs.Qxb6500666aGreatDoor
open Go.RowKit

structure CR where
  c : Int
  iss : Int
  ps : List KV
  off : Int
  lar : Int
  low : Low
/-- The counts behind an accepted command. -/
def stNext (s : Stat) (now : Int) : Stat := { s with entries := (s.entries + 1) % 4294967296, lastMin := now }
def wsAll (R : HR) (r : Req) (role : Int) : List WR := R.ws ++ [((key1B 97 (stNext R.st r.now).entries, entB role R.iss r), false)] ++ [((key0B 115, statB (stNext R.st r.now)), false)]
def larN (lar : Int) (ws : List WR) : Int := if lar < sizeW ws then sizeW ws else lar
def endR (ps : List KV) (full : Bool) (off lar : Int) (L : Low) (r : Req) (role : Int) (R : HR) : CR :=
  if (decide (3000 < sizeW (wsAll R r role)) || full) = true then ⟨27, 0, ps, off + 1, larN lar (wsAll R r role), L⟩
  else ⟨0, R.iss, applyW ps (wsAll R r role), off + 1, larN lar (wsAll R r role), R.low⟩
noncomputable def cmdH (ps : List KV) (full : Bool) (off lar : Int) (L : Low) (r : Req) (role : Int) (s : Stat) : CR :=
  if (handR ps L s r).c = 0 then endR ps full off lar L r role (handR ps L s r) else ⟨(handR ps L s r).c, 0, ps, off, lar, L⟩
noncomputable def cmdR (ps : List KV) (full : Bool) (off lar : Int) (L : Low) (r : Req) (role : Int) : CR := match statR ps with
  | .error c => ⟨c, 0, ps, off, lar, L⟩
  | .ok s => if ¬ (0 ≤ r.now ∧ r.now ≤ 157785119) then ⟨5, 0, ps, off, lar, L⟩ else if r.now < s.lastMin then ⟨6, 0, ps, off, lar, L⟩ else if 12 < r.list.length then ⟨14, 0, ps, off, lar, L⟩ else cmdH ps full off lar L r role s

/-- The system's memory, owned. -/
structure BS (w : World) (Y S LB base : Nat) (pv : Value) (A ok : Nat → Prop) (zs : List ZP) (full : Bool) (off lar : Int) (x : LV) (L : Low) : Prop where
  sys : SysAt w Y S LB
  stm : StM w S base pv A zs full off lar
  lb : w.heap[LB]? = some (.cells (lvCs x) 83 (0, 0))
  low : LowAt w ok x L
  okl : ∀ b, ok b → b < w.heap.size ∧ b ≠ S ∧ b ≠ LB ∧ pv.ownBlock ≠ some b
  ne : LB ≠ S ∧ Y ≠ S ∧ Y ≠ LB
  pvn : ∀ b, pv.ownBlock = some b → b ≠ LB ∧ b ≠ Y
  an : ∀ b, A b → b ≠ LB
  bs : base ≤ LB
/-- What a step leaves of the rest of memory. -/
structure Fr (w w' : World) (S LB base : Nat) (pv pv' : Value) : Prop where
  fr : ∀ b, b < w.heap.size → b ≠ S → b ≠ LB → pv.ownBlock ≠ some b → w'.heap[b]? = w.heap[b]?
  bel : Below base w w'
  own : pv'.ownBlock = pv.ownBlock ∨ ∀ b, pv'.ownBlock = some b → w.heap.size ≤ b
/-- The plain premises. -/
structure PO (ps : List KV) (L : Low) : Prop where
  pk : PsOk ps
  plen : ps.length ≤ 3900000
  small : L.Small
  times : L.Times
  hco : ∀ cs, pendR ps L = some cs → ∀ c ∈ cs, c.Ok
  hcc : ∀ rows, relR ps = some rows → ∀ c ∈ rows, c.Ok
/-- New blocks only. -/
def Nw (w : World) (A A' : Nat → Prop) : Prop := ∀ b, A' b → A b ∨ w.heap.size ≤ b
theorem Nw.refl (w : World) (A : Nat → Prop) : Nw w A A := fun _ h => Or.inl h
def CmdPost (w w' : World) (Y S LB base : Nat) (pv : Value) (A ok : Nat → Prop) (full : Bool) (e : Ending) (R : CR) : Prop :=
  ∃ pv' A' ok' zs' x', BS w' Y S LB base pv' A' ok' zs' full R.off R.lar x' R.low ∧ zs'.map (·.2) = R.ps ∧ e = .returned (.agg (respCs { rsp0 with code := R.c, issued := R.iss })) ∧ Fr w w' S LB base pv pv' ∧ Nw w A A' ∧ Nw w ok ok'
theorem BS.below {w w' : World} {Y S LB base : Nat} {pv : Value} {A ok : Nat → Prop} {zs : List ZP} {full : Bool} {off lar : Int} {x : LV} {L : Low} (h : BS w Y S LB base pv A ok zs full off lar x L) (hb : Below w.heap.size w w') : BS w' Y S LB base pv A ok zs full off lar x L :=
  ⟨(hb.block _ (blk_lt h.sys)).trans h.sys, h.stm.below hb, (hb.block _ (blk_lt h.lb)).trans h.lb, h.low.below hb, fun b q => ⟨Nat.lt_of_lt_of_le (h.okl b q).1 hb.size, (h.okl b q).2⟩, h.ne, h.pvn, h.an, h.bs⟩
theorem Fr.of_below {w w' : World} {S LB base : Nat} {pv : Value} (hb : Below w.heap.size w w') (hB : base ≤ w.heap.size) : Fr w w' S LB base pv pv := ⟨fun b h1 _ _ _ => hb.block b h1, hb.mono hB, Or.inl rfl⟩
theorem StM.store' {w : World} {S base : Nat} {pv : Value} {A : Nat → Prop} {zs : List ZP} {full : Bool} {off lar : Int} (h : StM w S base pv A zs full off lar) (hl : zs.length ≤ 100000000) : StoreAt w S (fun b => A b ∨ pv.ownBlock = some b) (zs.map (·.2)) full := by
  refine ⟨⟨pv, off, lar, h.top, PairsAt.of_zs ?_ (h.zip.mono (Same.refl _ _) (fun _ h => Or.inl h))⟩, fun e => e.elim h.out (fun e => (h.sep S e).1 rfl), fun b hb => hb.elim (h.lt b) (fun e => (h.own.block b e).2)⟩
  have h1 := h.own.rows zCs_size (by decide) (by omega)
  obtain ⟨a, cap, b, o, e1, e2, e3, e4, e5, e6⟩ := h1
  refine ⟨a, cap, b, o, e1, e2, e3, e4, fun hp => ⟨(e5 hp).1, Or.inr ?_⟩, e6⟩
  rw [e1, (e5 hp).1]
  rfl
/-- The state, for those who only read. -/
theorem BS.toSys {w : World} {Y S LB base : Nat} {pv : Value} {A ok : Nat → Prop} {zs : List ZP} {full : Bool} {off lar : Int} {x : LV} {L : Low} (h : BS w Y S LB base pv A ok zs full off lar x L) (hp : PO (zs.map (·.2)) L) : SysSt w Y S LB (fun b => A b ∨ pv.ownBlock = some b) ok (zs.map (·.2)) full x L :=
  ⟨h.sys, h.stm.store' (by have := hp.plen; rw [List.length_map] at this; omega), hp.pk, h.lb, h.low, hp.small, hp.times, by have := hp.plen; omega⟩
theorem CmdPost.refuse {w w' : World} {Y S LB base : Nat} {pv : Value} {A ok : Nat → Prop} {zs : List ZP} {full : Bool} {off lar : Int} {x : LV} {L : Low} {c : Int} {R : CR} (h : BS w Y S LB base pv A ok zs full off lar x L) (hb : Below w.heap.size w w') (hR : R = ⟨c, 0, zs.map (·.2), off, lar, L⟩) : CmdPost w w' Y S LB base pv A ok full (.returned (.agg (respCs { rsp0 with code := c }))) R := by
  subst hR
  exact ⟨pv, A, ok, zs, x, h.below hb, rfl, rfl, Fr.of_below hb (by have := h.bs; have := blk_lt h.lb; omega), Nw.refl _ _, Nw.refl _ _⟩
/-- command's own blocks. -/
structure CB (w W : World) (q : Array Value) : Prop where
  rq : W.heap[w.heap.size]? = some (.cells q 53 (0, 0))
  rs : W.heap[w.heap.size + 1]? = some (.cells (respCs rsp0) 75 (0, 0))
  blw : Below w.heap.size w W
theorem CB.start (w : World) (q : Array Value) : CB w ((w.alloc (.cells q 53)).alloc (.cells (respCs rsp0) 75)) q :=
  ⟨(Below.heap_alloc _ _ _ (by simp)).trans (heap_alloc_at _ _), box2 w _ _ _ _, ((Below.refl _ _).alloc (Nat.le_refl _) _).alloc (by simp) _⟩
theorem CB.next {w W W' : World} {q : Array Value} (h : CB w W q) (hb : Below W.heap.size W W') : CB w W' q :=
  have h3 := blk_lt h.rs
  ⟨(hb.block _ (by omega)).trans h.rq, (hb.block _ (by omega)).trans h.rs, h.blw.trans (hb.mono (by omega))⟩
theorem CB.facts {w W : World} {q : Array Value} (h : CB w W q) : whole W (w.heap.size + 1) 40 = true ∧ (∀ j, W.cell? ⟨w.heap.size, j, none⟩ = q[j]?) ∧ rng W w.heap.size 0 q.size = some q ∧ w.heap.size + 1 < W.heap.size :=
  ⟨whole_blk h.rs, fun j => cells_all h.rq j, rng_whole h.rq, blk_lt h.rs⟩
theorem CB.fin {w W : World} {q : Array Value} (h : CB w W q) (y : Rsp) : (W.setRow (w.heap.size + 1) (respCs y)).heap[w.heap.size + 1]? = some (.cells (respCs y) 75 (0, 0)) ∧ Below w.heap.size w (W.setRow (w.heap.size + 1) (respCs y)) :=
  ⟨heap_setRow_at h.rs, h.blw.trans ⟨rfl, rfl, rfl, by simp, fun k hk => setRow_other _ _ _ _ (by omega)⟩⟩

end Go.Proofs.Qxb6500666aGreatDoor
