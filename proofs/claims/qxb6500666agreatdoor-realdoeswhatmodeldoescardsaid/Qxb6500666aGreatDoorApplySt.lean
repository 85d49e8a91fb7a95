/- What Apply's walk carries along. -/
import Derived.Test.Qxb6500666aGreatDoorPlainApply
namespace Go.Proofs.Qxb6500666aGreatDoor
open Go.RowKit

/-- A part of a range is a range. -/
theorem rng_sub {w : World} {b off n o m : Nat} {cs : Array Value} (h : rng w b off n = some cs) (hm : o + m ≤ n) : rng w b (off + o) m = some (cs.extract o (o + m)) := by
  unfold rng at h ⊢
  split at h
  · split at h
    · rename_i hle
      simp only [Option.some.injEq] at h
      subst h
      rw [if_pos (by omega)]
      congr 1
      apply Array.ext
      · simp; omega
      · intro i h1 h2
        simp [Nat.add_assoc]
    · simp at h
  · simp at h

/-- The state: what was gathered (v owns out), the line's own box. -/
structure St (w wc : World) (v : Value) (out : List Row) (B : Nat) (c : Change) : Prop where
  below : Below w.heap.size w wc
  own : OwnR wc w.heap.size 109 13 rowCs v out
  box : rng wc B 0 14 = some (changeCs c)
  ne : v.ownBlock ≠ some B

theorem St.ext {w wc w2 : World} {v : Value} {out : List Row} {B : Nat} {c : Change} (h : St w wc v out B c) (hb : Below wc.heap.size wc w2) : St w w2 v out B c :=
  ⟨h.below.trans (hb.mono h.below.size), h.own.below hb (Nat.le_refl _), by rw [rng_of_block (hb.block B (rng_lt h.box))]; exact h.box, h.ne⟩

theorem St.row {w wc : World} {v : Value} {out : List Row} {B : Nat} {c : Change} (h : St w wc v out B c) : rng wc B 1 13 = some (rowCs c.row) := by
  have := rng_sub (o := 1) (m := 13) h.box (by decide)
  simpa [changeCs_row] using this

theorem St.act {w wc : World} {v : Value} {out : List Row} {B : Nat} {c : Change} (h : St w wc v out B c) : wc.cell? ⟨B, 0, none⟩ = some (.int .u8 c.action) := by
  have := (rng_cell h.box).2 0 (by decide)
  simpa [changeCs_0] using this

/-- Behind an append: a fresh box laid, then the append. -/
theorem St.app {w wc w2 : World} {v v' : Value} {out : List Row} {B : Nat} {c : Change} {o : Obj} {y : Row} (h : St w wc v out B c)
    (hown : OwnR w2 w.heap.size 109 13 rowCs v' (out ++ [y])) (hs : Same (fun b => b < (wc.alloc o).heap.size ∧ v.ownBlock ≠ some b) (wc.alloc o) w2) (hb : Below w.heap.size (wc.alloc o) w2) (hat : v'.ownBlock = v.ownBlock ∨ v'.ownBlock = some (wc.alloc o).heap.size) : St w w2 v' (out ++ [y]) B c := by
  have hB := rng_lt h.box
  refine ⟨(h.below.alloc h.below.size o).trans hb, hown, ?_, ?_⟩
  case refine_2 =>
    rcases hat with e | e
    · rw [e]; exact h.ne
    · rw [e]; simp; omega
  rw [rng_of_block (hs B ⟨by simp; omega, h.ne⟩), rng_alloc_lt _ _ _ _ _ hB]
  exact h.box

/-- What Apply leaves. -/
def ApplyPost (w : World) (res : Option (List Row)) (e : Ending) (w' : World) : Prop :=
  Below w.heap.size w w' ∧ match res with
    | some out => ∃ v, e = .returned (.tuple #[v, .nilIface]) ∧ OwnR w' w.heap.size 109 13 rowCs v out
    | none => e = .returned (.tuple #[.slice none 0 0, .iface 63 (.int .u8 30)])

theorem applyPost_none {w : World} {res : Option (List Row)} {w' : World} (h : res = none) (hb : Below w.heap.size w w') : ApplyPost w res (.returned (.tuple #[.slice none 0 0, .iface 63 (.int .u8 30)])) w' := by
  subst h; exact ⟨hb, rfl⟩

/-- The line before line q. -/
def prevAt (cs : List Change) (q : Nat) : Option Row := ((cs.take q).getLast?).map (·.row)

theorem prevAt_zero (cs : List Change) : prevAt cs 0 = none := rfl
theorem prevAt_succ (cs : List Change) (q : Nat) (h : q < cs.length) : prevAt cs (q + 1) = some cs[q].row := by
  unfold prevAt
  rw [List.take_succ_eq_append_getElem h, List.getLast?_concat]
  rfl
theorem prevAt_pos (cs : List Change) (q : Nat) (h0 : 0 < q) (h : q - 1 < cs.length) : prevAt cs q = some cs[q - 1].row := by
  have := prevAt_succ cs (q - 1) h
  rwa [show q - 1 + 1 = q by omega] at this

theorem OwnR.ne_new {w wn : World} {v : Value} {out : List Row} {base : Nat} {e : TypeId} (h : OwnR wn base e 13 rowCs v out) (_ : Below base w wn) : v.ownBlock ≠ some wn.heap.size := by
  intro he
  have := (h.block _ he).2
  omega

end Go.Proofs.Qxb6500666aGreatDoor
