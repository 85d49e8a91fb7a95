/- Slices of bytes, and the writer of numbers. -/
import Derived.Test.Qxb6500665aDoorProg
import Derived.Test.Qxb6500665aDoorAppend
import Derived.Deep.DeepCutAuto
import Derived.Deep.CutBlock
import Derived.Deep.LoopGhost
import Derived.Laws.Closers25b
import Derived.WalkSpells
import Derived.WalkLawsBesides
namespace Go.Proofs.Qxb6500665aDoor
open Go.RowKit

def byteCs (b : Int) : Array Value := #[.int .u8 b]
theorem byteCs_size (b : Int) : (byteCs b).size = 1 := rfl
theorem byteCs_one (b : Int) : ∀ u ∈ (byteCs b).toList, u.oneCell' = true := by simp [byteCs, Value.oneCell']
theorem Tryd.size5 (w : World) : (sizeOf 5).run Tryd.prog w = .ok 1 w := by kernel_rfl
theorem Tryd.info5 : (Tryd.prog.info? 5).map (fun i => (i.zero, i.size, i.bytes)) = some (some (.int .u8 0), 1, 1) := by kernel_rfl

/-- A slice of bytes. -/
def BytesAt (w : World) (ok : Nat → Prop) (v : Value) (bs : List Int) : Prop := RArr w ok 1 byteCs v bs

theorem BytesAt.parts {w : World} {ok : Nat → Prop} {v : Value} {xs : List Int} (h : BytesAt w ok v xs) (n : Nat) (hn : xs.length = n) :
    ∃ a cap b off, v = .slice a n cap ∧ n ≤ 140737488355328 ∧ n ≤ cap ∧ cap ≤ maxLen ∧ (a = none → cap = 0) ∧ (0 < n → a = some ⟨b, off, none⟩ ∧ ok b ∧ b < w.heap.size) ∧ ∀ i (h : i < xs.length), w.cell? ⟨b, off + i, none⟩ = some (.int .u8 xs[i]) := by
  obtain ⟨a, cap, b, off, hv, hl, hm, hr, ha, hc⟩ := RArr.lt h
  subst hn
  refine ⟨a, cap, b, off, hv, hr, hl, hm.1, hm.2, fun hp => ⟨(ha hp).1, (ha hp).2⟩, fun i hi => ?_⟩
  have := (rng_cell (hc i hi)).2 0 (by decide)
  simpa [byteCs] using this

theorem BytesAt.below {w w' : World} {ok : Nat → Prop} {v : Value} {bs : List Int} (h : BytesAt w ok v bs) (hb : Below w.heap.size w w') : BytesAt w' ok v bs := RArr.below h hb

theorem BytesAt.mono {w w' : World} {ok ok' : Nat → Prop} {v : Value} {xs : List Int} (h : BytesAt w ok v xs) (hs : Same ok w w') (hk : ∀ b, ok b → ok' b) : BytesAt w' ok' v xs := RArr.mono h hs hk

theorem heap_alloc_at (w : World) (o : Obj) : (w.alloc o).heap[w.heap.size]? = some o := by show (w.heap.push o)[w.heap.size]? = some o; simp

theorem cell_one {w : World} {g : Nat} {v : Value} {T : TypeId} (h : w.heap[g]? = some (.cells #[v] T (0, 0))) : w.cell? ⟨g, 0, none⟩ = some v ∧ w.frozen? ⟨g, 0, none⟩ = false ∧ g < w.heap.size :=
  ⟨by simp [World.cell?, h], by simp [World.frozen?, h], (Array.getElem?_eq_some_iff.1 h).1⟩

theorem same_alloc1 {w w1 : World} {o : Obj} {v : Value} (h : Same (fun b => b < (w.alloc o).heap.size ∧ v.ownBlock ≠ some b) (w.alloc o) w1) : Same (fun b => b < w.heap.size ∧ v.ownBlock ≠ some b) w w1 :=
  fun b hb => (h b ⟨by simp; omega, hb.2⟩).trans (Below.heap_alloc w o b hb.1)

theorem at_alloc1 {w : World} {o : Obj} {v v1 : Value} (h : v1.ownBlock = v.ownBlock ∨ v1.ownBlock = some (w.alloc o).heap.size) : v1.ownBlock = v.ownBlock ∨ ∀ b, v1.ownBlock = some b → w.heap.size ≤ b := by
  rcases h with h | h
  · exact Or.inl h
  · refine Or.inr fun b hb => ?_
    rw [h] at hb
    simp at hb
    omega

/-- The writer at block g has gathered the bytes bs (its blocks from B on); the blocks A are none of its own. -/
def WriterAt (w : World) (B g : Nat) (A : Nat → Prop) (bs : List Int) : Prop :=
  ∃ a cap, w.heap[g]? = some (.cells #[.slice a bs.length cap] 159 (0, 0)) ∧ B ≤ g ∧ OwnR w B 5 1 byteCs (.slice a bs.length cap) bs ∧ (Value.slice a bs.length cap).ownBlock ≠ some g ∧
    ¬ A g ∧ (∀ b, (Value.slice a bs.length cap).ownBlock = some b → ¬ A b) ∧ ∀ b, A b → b < w.heap.size

/-- What a call on the writer leaves. -/
structure Wrote (w w' : World) (B g : Nat) (A : Nat → Prop) (bs : List Int) : Prop where
  text : WriterAt w' B g A bs
  below : Below B w w'
  same : Same A w w'

theorem Wrote.trans {w w1 w2 : World} {B g : Nat} {A : Nat → Prop} {bs bs' : List Int} (h : Wrote w w1 B g A bs) (k : Wrote w1 w2 B g A bs') : Wrote w w2 B g A bs' :=
  ⟨k.text, h.below.trans k.below, h.same.trans k.same⟩

/-- Behind an append and the store of its slice. -/
theorem writer_store {w w1 : World} {B g : Nat} {A : Nat → Prop} {v v1 : Value} {xs : List Int} (hg : w.heap[g]? = some (.cells #[v] 159 (0, 0))) (hB : B ≤ g) (hv : v.ownBlock ≠ some g)
    (h1 : ¬ A g) (h2 : ∀ b, v.ownBlock = some b → ¬ A b) (h3 : ∀ b, A b → b < w.heap.size)
    (hown : OwnR w1 B 5 1 byteCs v1 xs) (hb : Below B w w1) (hs : Same (fun b => b < w.heap.size ∧ v.ownBlock ≠ some b) w w1) (hat : v1.ownBlock = v.ownBlock ∨ ∀ b, v1.ownBlock = some b → w.heap.size ≤ b) :
    Wrote w (w1.setCell ⟨g, 0, none⟩ v1) B g A xs := by
  have hgl := (cell_one hg).2.2
  have hg1 : w1.heap[g]? = some (.cells #[v] 159 (0, 0)) := (hs g ⟨hgl, hv⟩).trans hg
  have hne : v1.ownBlock ≠ some g := by
    rcases hat with h | h
    · rw [h]; exact hv
    · intro e; have := h g e; omega
  obtain ⟨a, cap, rfl⟩ := hown.form
  refine ⟨⟨a, cap, ?_, hB, hown.mono fun b hb => Below.heap_setCell _ _ _ _ ?_, hne, h1, fun b hb' => ?_, fun b hb' => ?_⟩, hb.setCell (p := ⟨g, 0, none⟩) hB _, fun b hb' => ?_⟩
  · obtain ⟨hg', hg2⟩ := Array.getElem?_eq_some_iff.1 hg1
    simp [World.setCell, hg', Array.getElem_modify, hg2]
  · intro e; exact hne (by rw [hb, e])
  · rcases hat with h | h
    · exact h2 b (by rw [← h]; exact hb')
    · intro hA; have := h b hb'; have := h3 b hA; omega
  · have := h3 b hb'; have := hb.size; simp [World.setCell]; omega
  · rw [Below.heap_setCell _ _ _ _ (by intro e; simp at e; subst e; exact h1 hb')]
    exact hs b ⟨h3 b hb', fun e => h2 b e hb'⟩

/-- All but one block is as it was. -/
structure Kept (w w' : World) (S : Nat) : Prop where
  below : Below S w w'
  same : Same (fun b => b < w.heap.size ∧ b ≠ S) w w'

theorem Kept.refl (w : World) (S : Nat) : Kept w w S := ⟨Below.refl _ _, Same.refl _ _⟩
theorem Kept.trans {a b c : World} {S : Nat} (h : Kept a b S) (k : Kept b c S) : Kept a c S :=
  ⟨h.below.trans k.below, fun i hi => (k.same i ⟨Nat.lt_of_lt_of_le hi.1 h.below.size, hi.2⟩).trans (h.same i hi)⟩
theorem Kept.of_below {w w' : World} {S : Nat} (h : Below w.heap.size w w') (hS : S ≤ w.heap.size) : Kept w w' S := ⟨h.mono hS, fun b hb => h.block b hb.1⟩

/-- A slice value by its parts. -/
abbrev SV := Option Addr × Nat × Nat
def sv (s : SV) : Value := .slice s.1 s.2.1 s.2.2
def toSV : Value → SV
  | .slice a n c => (a, n, c)
  | _ => (none, 0, 0)

/-- A number as count base-256 digits, the greatest first. -/
def d256 : Nat → Int → List Int
  | 0, _ => []
  | c + 1, n => d256 c (n / 256) ++ [n % 256]

theorem d256_len (c : Nat) (n : Int) : (d256 c n).length = c := by
  induction c generalizing n with
  | zero => rfl
  | succ c ih => simp [d256, ih]

end Go.Proofs.Qxb6500665aDoor
