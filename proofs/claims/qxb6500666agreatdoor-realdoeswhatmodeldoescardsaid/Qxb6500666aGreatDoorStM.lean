/- The store, owned: its memory, what a batch does to it (plain). -/
import Derived.Test.Qxb6500666aGreatDoorZp
import Derived.Test.Qxb6500666aGreatDoorLowPr
namespace Go.Proofs.Qxb6500666aGreatDoor
open Go.RowKit

structure StM (w : World) (S base : Nat) (pv : Value) (A : Nat → Prop) (zs : List ZP) (full : Bool) (off lar : Int) : Prop where
  top : w.heap[S]? = some (.cells #[pv, .bool full, .int .i64 off, .int .i64 lar] 131 (0, 0))
  own : OwnR w base 171 2 zCs pv zs
  zip : Zip w A zs
  sep : ∀ b, pv.ownBlock = some b → b ≠ S ∧ ¬ A b
  out : ¬ A S
  lt : ∀ b, A b → b < w.heap.size
  baseS : base ≤ S

theorem StM.below {w w' : World} {S base : Nat} {pv : Value} {A : Nat → Prop} {zs : List ZP} {full : Bool} {off lar : Int} (h : StM w S base pv A zs full off lar) (hb : Below w.heap.size w w') : StM w' S base pv A zs full off lar :=
  ⟨(hb.block _ (blk_lt h.top)).trans h.top, h.own.below hb (Nat.le_refl _), h.zip.mono (fun b hb' => hb.block b (h.lt b hb')) (fun _ h => h), h.sep, h.out, fun b hb' => Nat.lt_of_lt_of_le (h.lt b hb') hb.size, h.baseS⟩

/-- For those who only read. -/
theorem StM.store {w : World} {S base : Nat} {pv : Value} {A : Nat → Prop} {zs : List ZP} {full : Bool} {off lar : Int} (h : StM w S base pv A zs full off lar) (hl : zs.length ≤ 1000000) : StoreAt w S (fun b => A b ∨ pv.ownBlock = some b) (zs.map (·.2)) full := by
  refine ⟨⟨pv, off, lar, h.top, PairsAt.of_zs ?_ (h.zip.mono (Same.refl _ _) (fun _ h => Or.inl h))⟩, fun e => e.elim h.out (fun e => (h.sep S e).1 rfl), fun b hb => hb.elim (h.lt b) (fun e => (h.own.block b e).2)⟩
  have h1 := h.own.rows zCs_size (by decide) (by omega)
  obtain ⟨a, cap, b, o, e1, e2, e3, e4, e5, e6⟩ := h1
  refine ⟨a, cap, b, o, e1, e2, e3, e4, fun hp => ⟨(e5 hp).1, Or.inr ?_⟩, e6⟩
  rw [e1, (e5 hp).1]
  rfl

/-- What a batch leaves of the rest of memory. -/
structure StStep (w w' : World) (S base : Nat) (pv pv' : Value) (A A' : Nat → Prop) : Prop where
  fr : ∀ b, b < w.heap.size → b ≠ S → pv.ownBlock ≠ some b → w'.heap[b]? = w.heap[b]?
  bel : Below base w w'
  own : pv'.ownBlock = pv.ownBlock ∨ ∀ b, pv'.ownBlock = some b → w.heap.size ≤ b
  new : ∀ b, A' b → A b ∨ w.heap.size ≤ b
theorem StStep.refl (w : World) (S base : Nat) (pv : Value) (A : Nat → Prop) : StStep w w S base pv pv A A := ⟨fun _ _ _ _ => rfl, Below.refl _ _, Or.inl rfl, fun _ h => Or.inl h⟩
theorem StStep.trans {w w1 w2 : World} {S base : Nat} {pv pv1 pv2 : Value} {A A1 A2 : Nat → Prop} (h : StStep w w1 S base pv pv1 A A1) (k : StStep w1 w2 S base pv1 pv2 A1 A2) : StStep w w2 S base pv pv2 A A2 := by
  have hs := h.bel.size
  refine ⟨fun b h1 h2 h3 => (k.fr b (by omega) h2 (fun e => ?_)).trans (h.fr b h1 h2 h3), h.bel.trans k.bel, ?_, fun b hb => ?_⟩
  · rcases h.own with e1 | e1
    · exact h3 (e1 ▸ e)
    · have := e1 b e; omega
  · rcases k.own with e1 | e1
    · rcases h.own with e2 | e2
      · exact Or.inl (e1.trans e2)
      · exact Or.inr (fun b hb => e2 b (e1 ▸ hb))
    · exact Or.inr (fun b hb => by have := e1 b hb; omega)
  · rcases k.new b hb with e1 | e1
    · exact h.new b e1
    · exact Or.inr (by omega)
theorem StStep.of_below {w w' : World} {S base : Nat} {pv : Value} {A : Nat → Prop} (hb : Below w.heap.size w w') (hB : base ≤ w.heap.size) : StStep w w' S base pv pv A A :=
  ⟨fun b h1 _ _ => hb.block b h1, hb.mono hB, Or.inl rfl, fun _ h => Or.inl h⟩

/-- A new slice of pairs is put into the store. -/
theorem StM.put {w w1 : World} {S base : Nat} {pv v1 : Value} {A A1 : Nat → Prop} {zs zs1 : List ZP} {full : Bool} {off lar : Int} (h : StM w S base pv A zs full off lar) (hown : OwnR w1 base 171 2 zCs v1 zs1) (hs : Same (fun b => b < w.heap.size ∧ pv.ownBlock ≠ some b) w w1) (hb : Below base w w1) (hat : v1.ownBlock = pv.ownBlock ∨ v1.ownBlock = some w.heap.size)
    (hz : Zip w A1 zs1) (hA : ∀ b, A1 b → b < w.heap.size ∧ b ≠ S ∧ pv.ownBlock ≠ some b) : StM (w1.setCell ⟨S, 0, none⟩ v1) S base v1 A1 zs1 full off lar := by
  have hS := blk_lt h.top
  have hS1 : w1.heap[S]? = _ := (hs S ⟨hS, fun e => (h.sep S e).1 rfl⟩).trans h.top
  have hv : ∀ b, v1.ownBlock = some b → b ≠ S ∧ ¬ A1 b := fun b hb' => by
    rcases hat with e | e
    · exact ⟨(h.sep b (e ▸ hb')).1, fun ha => (hA b ha).2.2 (e ▸ hb')⟩
    · rw [e] at hb'; injection hb' with hb'; subst hb'; exact ⟨by omega, fun ha => by have := (hA _ ha).1; omega⟩
  have hoth : ∀ b, b ≠ S → (w1.setCell ⟨S, 0, none⟩ v1).heap[b]? = w1.heap[b]? := fun b hb' => Below.heap_setCell _ _ _ _ hb'
  exact ⟨heap_set3 hS1, hown.mono (fun b hb' => hoth b (hv b hb').1), hz.mono (fun b hb' => (hoth b (hA b hb').2.1).trans (hs b ⟨(hA b hb').1, (hA b hb').2.2⟩)) (fun _ h => h), hv, fun e => (hA S e).2.1 rfl, fun b hb' => by have := (hA b hb').1; have := hb.size; simp only [World.size_setCell]; omega, h.baseS⟩
theorem StM.put_step {w w1 : World} {S base : Nat} {pv v1 : Value} {A A1 : Nat → Prop} {zs : List ZP} {full : Bool} {off lar : Int} (h : StM w S base pv A zs full off lar) (hs : Same (fun b => b < w.heap.size ∧ pv.ownBlock ≠ some b) w w1) (hb : Below base w w1) (hat : v1.ownBlock = pv.ownBlock ∨ v1.ownBlock = some w.heap.size) (hA : ∀ b, A1 b → A b ∨ w.heap.size ≤ b) :
    StStep w (w1.setCell ⟨S, 0, none⟩ v1) S base pv v1 A A1 :=
  ⟨fun b h1 h2 h3 => (Below.heap_setCell _ _ _ _ h2).trans (hs b ⟨h1, h3⟩), hb.setCell (p := ⟨S, 0, none⟩) h.baseS _, hat.imp id (fun e b hb' => by rw [e] at hb'; injection hb' with hb'; omega), hA⟩

/-- A part of an owned slice from its beginning. -/
theorem OwnR.take {α : Type} {w : World} {base : Nat} {e : TypeId} {size : Nat} {f : α → Array Value} {a : Option Addr} {n cap : Nat} {xs : List α} (h : OwnR w base e size f (.slice a n cap) xs) (hf : ∀ x, (f x).size = size) (i : Nat) (hi : i < xs.length) : OwnR w base e size f (.slice a i cap) (xs.take i) := by
  obtain ⟨k1, k2⟩ := h
  rcases k2 with ⟨k2, k3⟩ | ⟨g, cap', cur, k2, hg, hh, r1, r2, r3, r4⟩
  · omega
  · injection k2 with q1 q2 q3
    subst q1 q3
    have hl : (xs.take i).length = i := by rw [List.length_take]; omega
    have hle : i * size ≤ xs.length * size := Nat.mul_le_mul_right _ (by omega)
    refine ⟨by rw [flat_length hf], Or.inr ⟨g, cap, cur, by rw [hl], hg, hh, by rw [hl]; omega, r2, r3, ?_⟩⟩
    rw [hl]
    have h1 : flat f xs = flat f (xs.take i) ++ flat f (xs.drop i) := by rw [← flat_append, List.take_append_drop]
    have h2 : cur.toList.take (i * size) = (flat f xs).take (i * size) := by rw [← r4, List.take_take, Nat.min_eq_left hle]
    rw [h2, h1, List.take_left' (by rw [flat_length hf, hl])]

/-- The first of that key goes. -/
def rmZ : List ZP → List Int → List ZP
  | [], _ => []
  | z :: r, k => if z.2.1 = k then r else z :: rmZ r k
def rmB : List KV → List Int → List KV
  | [], _ => []
  | z :: r, k => if z.1 = k then r else z :: rmB r k
theorem rmZ_map (zs : List ZP) (k : List Int) : (rmZ zs k).map (·.2) = rmB (zs.map (·.2)) k := by
  induction zs with
  | nil => rfl
  | cons z r ih =>
    simp only [rmZ, rmB, List.map_cons]
    split
    · rfl
    · simp [ih]
theorem rmZ_hit {zs : List ZP} {k : List Int} : ∀ {p : Nat} (h : p < zs.length), (∀ j (hj : j < p), zs[j].2.1 ≠ k) → zs[p].2.1 = k → rmZ zs k = zs.take p ++ zs.drop (p + 1) := by
  induction zs with
  | nil => intro p h; simp at h
  | cons z r ih =>
    intro p h h1 h2
    cases p with
    | zero => simp only [rmZ]; rw [if_pos (by simpa using h2)]; simp
    | succ p =>
      simp only [rmZ]
      rw [if_neg (by simpa using h1 0 (by omega)), ih (p := p) (by simpa using h) (fun j hj => by simpa using h1 (j + 1) (by omega)) (by simpa using h2)]
      simp
theorem rmZ_miss {zs : List ZP} {k : List Int} (h : ∀ j (hj : j < zs.length), zs[j].2.1 ≠ k) : rmZ zs k = zs := by
  induction zs with
  | nil => rfl
  | cons z r ih =>
    simp only [rmZ]
    rw [if_neg (show ¬ z.2.1 = k from h 0 (by simp)), ih (fun j hj => h (j + 1) (by simpa using hj))]
theorem rmZ_mem {zs : List ZP} {k : List Int} {z : ZP} (h : z ∈ rmZ zs k) : z ∈ zs := by
  induction zs with
  | nil => exact h
  | cons y r ih =>
    simp only [rmZ] at h
    split at h
    · simp [h]
    · rcases List.mem_cons.1 h with h | h
      · simp [h]
      · simp [ih h]
theorem rmZ_len (zs : List ZP) (k : List Int) : (rmZ zs k).length ≤ zs.length := by
  induction zs with
  | nil => simp [rmZ]
  | cons y r ih =>
    simp only [rmZ]
    split
    · simp
    · simpa using ih

/-- A write: key, value, whether it deletes. -/
abbrev WR := KV × Bool
abbrev ZW := (SV × SV) × WR
def zwCs (z : ZW) : Array Value := #[sv z.1.1, sv z.1.2, .bool z.2.2]
theorem zwCs_size (z : ZW) : (zwCs z).size = 3 := rfl
theorem zwCs_one (z : ZW) : ∀ u ∈ (zwCs z).toList, u.oneCell' = true := by simp [zwCs, sv, Value.oneCell']
def ZipW (w : World) (A : Nat → Prop) (zs : List ZW) : Prop := ∀ z ∈ zs, BytesAt w A (sv z.1.1) z.2.1.1 ∧ BytesAt w A (sv z.1.2) z.2.1.2
theorem ZipW.mono {w w' : World} {A A' : Nat → Prop} {zs : List ZW} (h : ZipW w A zs) (hs : Same A w w') (hA : ∀ b, A b → A' b) : ZipW w' A' zs := fun z hz => ⟨(h z hz).1.mono hs hA, (h z hz).2.mono hs hA⟩
def putW (ps : List KV) (x : WR) : List KV := rmB ps x.1.1 ++ (if x.2 then [] else [x.1])
def applyW (ps : List KV) (ws : List WR) : List KV := ws.foldl putW ps
def sizeW : List WR → Nat
  | [] => 0
  | x :: r => x.1.1.length + x.1.2.length + 12 + sizeW r
theorem sizeW_append (a b : List WR) : sizeW (a ++ b) = sizeW a + sizeW b := by
  induction a with
  | nil => simp [sizeW]
  | cons x r ih => simp [sizeW, ih]; omega
theorem sizeW_take {ws : List WR} {q : Nat} (h : q < ws.length) : sizeW (ws.take (q + 1)) = sizeW (ws.take q) + (ws[q].1.1.length + ws[q].1.2.length + 12) := by
  rw [List.take_succ_eq_append_getElem h, sizeW_append]
  simp [sizeW]
theorem applyW_take {ps : List KV} {ws : List WR} {q : Nat} (h : q < ws.length) : applyW ps (ws.take (q + 1)) = putW (applyW ps (ws.take q)) ws[q] := by
  rw [List.take_succ_eq_append_getElem h, applyW, List.foldl_append]
  rfl
theorem putW_len (ps : List KV) (x : WR) : (putW ps x).length ≤ ps.length + 1 := by
  have : ∀ l : List KV, (rmB l x.1.1).length ≤ l.length := by
    intro l
    induction l with
    | nil => simp [rmB]
    | cons y r ih =>
      simp only [rmB]
      split
      · simp
      · simpa using ih
  have h1 := this ps
  unfold putW
  split
  · simp; omega
  · simp; omega
theorem applyW_len (ws : List WR) : ∀ ps : List KV, (applyW ps ws).length ≤ ps.length + ws.length := by
  induction ws with
  | nil => intro ps; simp [applyW]
  | cons x r ih =>
    intro ps
    have h1 := ih (putW ps x)
    have h2 := putW_len ps x
    show (applyW (putW ps x) r).length ≤ _
    simp only [List.length_cons]
    omega
/-- The batch in memory. -/
structure BatchAt (w : World) (ok : Nat → Prop) (v : Value) (ws : List WR) : Prop where
  ex : ∃ zs : List ZW, RArr w ok 3 zwCs v zs ∧ zs.map (·.2) = ws ∧ ZipW w ok zs

end Go.Proofs.Qxb6500666aGreatDoor
