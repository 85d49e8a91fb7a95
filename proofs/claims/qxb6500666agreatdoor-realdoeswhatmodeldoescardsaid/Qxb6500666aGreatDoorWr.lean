/- Slices of bytes, and the writer of numbers. -/
import Derived.Test.Qxb6500666aGreatDoorTextWalk
import Derived.Deep.DeepCutAuto
import Derived.Deep.CutBlock
import Derived.Deep.LoopGhost
import Derived.Laws.Closers25b
import Derived.WalkSpells
import Derived.WalkLawsBesides
namespace Go.Proofs.Qxb6500666aGreatDoor
open Go.RowKit

def u32Cs (x : Int) : Array Value := #[.int .u32 x]
theorem u32Cs_size (x : Int) : (u32Cs x).size = 1 := rfl
theorem u32Cs_one (x : Int) : ∀ u ∈ (u32Cs x).toList, u.oneCell' = true := by simp [u32Cs, Value.oneCell']
def U32sAt (w : World) (ok : Nat → Prop) (v : Value) (xs : List Int) : Prop := RArr w ok 1 u32Cs v xs

/-- A slice of bytes. -/
theorem BytesAt.mono {w w' : World} {ok ok' : Nat → Prop} {v : Value} {xs : List Int} (h : BytesAt w ok v xs) (hs : Same ok w w') (hk : ∀ b, ok b → ok' b) : BytesAt w' ok' v xs := RArr.mono h hs hk

/-- The writer at block g has gathered the bytes bs (its blocks from B on); the blocks A are none of its own. -/
def WriterAt (w : World) (B g : Nat) (A : Nat → Prop) (bs : List Int) : Prop :=
  ∃ a cap, w.heap[g]? = some (.cells #[.slice a bs.length cap] 373 (0, 0)) ∧ B ≤ g ∧ OwnR w B 5 1 byteCs (.slice a bs.length cap) bs ∧ (Value.slice a bs.length cap).ownBlock ≠ some g ∧
    ¬ A g ∧ (∀ b, (Value.slice a bs.length cap).ownBlock = some b → ¬ A b) ∧ ∀ b, A b → b < w.heap.size

/-- What a call on the writer leaves. -/
structure WroteW (w w' : World) (B g : Nat) (A : Nat → Prop) (bs : List Int) : Prop where
  text : WriterAt w' B g A bs
  below : Below B w w'
  same : Same A w w'

theorem WroteW.trans {w w1 w2 : World} {B g : Nat} {A : Nat → Prop} {bs bs' : List Int} (h : WroteW w w1 B g A bs) (k : WroteW w1 w2 B g A bs') : WroteW w w2 B g A bs' :=
  ⟨k.text, h.below.trans k.below, h.same.trans k.same⟩

/-- Behind an append and the store of its slice. -/
theorem writer_store {w w1 : World} {B g : Nat} {A : Nat → Prop} {v v1 : Value} {xs : List Int} (hg : w.heap[g]? = some (.cells #[v] 373 (0, 0))) (hB : B ≤ g) (hv : v.ownBlock ≠ some g)
    (h1 : ¬ A g) (h2 : ∀ b, v.ownBlock = some b → ¬ A b) (h3 : ∀ b, A b → b < w.heap.size)
    (hown : OwnR w1 B 5 1 byteCs v1 xs) (hb : Below B w w1) (hs : Same (fun b => b < w.heap.size ∧ v.ownBlock ≠ some b) w w1) (hat : v1.ownBlock = v.ownBlock ∨ ∀ b, v1.ownBlock = some b → w.heap.size ≤ b) :
    WroteW w (w1.setCell ⟨g, 0, none⟩ v1) B g A xs := by
  have hgl := (cell_one hg).2.2
  have hg1 : w1.heap[g]? = some (.cells #[v] 373 (0, 0)) := (hs g ⟨hgl, hv⟩).trans hg
  have hne : v1.ownBlock ≠ some g := by
    rcases hat with h | h
    · rw [h]; exact hv
    · intro e; have := h g e; omega
  obtain ⟨a, cap, rfl⟩ := hown.form
  refine ⟨⟨a, cap, ?_, hB, hown.mono fun b hb => Below.heap_setCell _ _ _ _ ?_, hne, h1, fun b hb' => ?_, fun b hb' => ?_⟩, hb.setCell (p := ⟨g, 0, none⟩) hB _, fun b hb' => ?_⟩
  · obtain ⟨hg', hg2⟩ := Array.getElem?_eq_some_iff.1 hg1
    simp [World.setCell, hg', Array.getElem_modify, hg2]
  · intro e; exact hne (by rw [hb, e])
  · rcases hat with h | h
    · exact h2 b (by rw [← h]; exact hb')
    · intro hA; have := h b hb'; have := h3 b hA; omega
  · have := h3 b hb'; have := hb.size; simp [World.setCell]; omega
  · rw [Below.heap_setCell _ _ _ _ (by intro e; simp at e; subst e; exact h1 hb')]
    exact hs b ⟨h3 b hb', fun e => h2 b e hb'⟩

/-- All but one block is as it was. -/
structure Kept (w w' : World) (S : Nat) : Prop where
  below : Below S w w'
  same : Same (fun b => b < w.heap.size ∧ b ≠ S) w w'

theorem Kept.refl (w : World) (S : Nat) : Kept w w S := ⟨Below.refl _ _, Same.refl _ _⟩
theorem Kept.trans {a b c : World} {S : Nat} (h : Kept a b S) (k : Kept b c S) : Kept a c S :=
  ⟨h.below.trans k.below, fun i hi => (k.same i ⟨Nat.lt_of_lt_of_le hi.1 h.below.size, hi.2⟩).trans (h.same i hi)⟩
theorem Kept.of_below {w w' : World} {S : Nat} (h : Below w.heap.size w w') (hS : S ≤ w.heap.size) : Kept w w' S := ⟨h.mono hS, fun b hb => h.block b hb.1⟩

/-- A slice value by its parts. -/
abbrev SV := Option Addr × Nat × Nat
def sv (s : SV) : Value := .slice s.1 s.2.1 s.2.2
def toSV : Value → SV
  | .slice a n c => (a, n, c)
  | _ => (none, 0, 0)

/-- A number as count base-256 digits, the greatest first. -/
def d256 : Nat → Int → List Int
  | 0, _ => []
  | c + 1, n => d256 c (n / 256) ++ [n % 256]

theorem d256_len (c : Nat) (n : Int) : (d256 c n).length = c := by
  induction c generalizing n with
  | zero => rfl
  | succ c ih => simp [d256, ih]

end Go.Proofs.Qxb6500666aGreatDoor
