/- What the model's trail parser guesses; a rendering is guessed rightly. Plain. -/
import Derived.Test.Qxb6500666aGreatDoorXTrP
import Derived.Test.Qxb6500666aGreatDoorMRepP
namespace Go.Proofs.Qxb6500666aGreatDoor
open Go.RowKit

/-- The number that is found for a name. -/
def NmV (f : Nat → ByteArray) (top : Nat) (p : List Int) (v : Int) : Prop := (v = 0 ∧ ∀ k, 1 ≤ k → k ≤ top → strB (f k) ≠ p) ∨ ∃ k : Nat, 1 ≤ k ∧ k ≤ top ∧ strB (f k) = p ∧ v = k
/-- The list that is guessed. -/
structure LsG (ps : List (List Int)) (l : List Int) : Prop where
  len : l.length ≤ ps.length
  at' : ∀ j (h : j < l.length), ∃ p x, ps[j]? = some p ∧ GNum p x ∧ l[j] = x % 4294967296
def LstG (p l : List Int) : Prop := (p = [45] ∧ l = []) ∨ (p ≠ [45] ∧ l.length = (splitB 44 p).length ∧ LsG (splitB 44 p) l)
theorem LsG.nil (ps : List (List Int)) : LsG ps [] := ⟨Nat.zero_le _, fun _ h => absurd h (Nat.not_lt_zero _)⟩
theorem LsG.snoc {ps : List (List Int)} {l p : List Int} {x : Int} (h : LsG ps l) (hp : ps[l.length]? = some p) (hg : GNum p x) : LsG ps (l ++ [x % 4294967296]) := by
  have hl := (List.getElem?_eq_some_iff.1 hp).1
  refine ⟨by simp; omega, fun j hj => ?_⟩
  rw [List.length_append] at hj
  have hj : j < l.length + 1 := hj
  by_cases hjq : j < l.length
  · obtain ⟨q, y, h1, h2, h3⟩ := h.at' j hjq
    exact ⟨q, y, h1, h2, by rw [List.getElem_append_left hjq]; exact h3⟩
  · obtain rfl : j = l.length := by omega
    exact ⟨p, x, hp, hg, by simp⟩
theorem LsG.u32 {ps : List (List Int)} {l : List Int} (h : LsG ps l) : ∀ y ∈ l, U32 y := fun y hy => by
  obtain ⟨j, hj, rfl⟩ := List.getElem_of_mem hy
  obtain ⟨p, x, -, -, e⟩ := h.at' j hj
  rw [e]
  exact ⟨by omega, by omega⟩
theorem LstG.u32 {p l : List Int} (h : LstG p l) : ∀ y ∈ l, U32 y := by
  rcases h with ⟨-, rfl⟩ | ⟨-, -, h⟩
  · intro y hy; cases hy
  · exact h.u32
theorem lsp_ne {c : List Int} (hc : ∀ y ∈ c, U32 y) (hne : c ≠ []) : lsp c ≠ [45] := fun e => by
  have h1 := split_lsp hne
  rw [e] at h1
  have h2 : splitB 44 [45] = [[45]] := by decide
  rw [h2] at h1
  cases c with
  | nil => exact hne rfl
  | cons y r =>
    cases r with
    | nil => exact dec_not45 (hc y (List.mem_singleton.2 rfl)) (by simpa using h1.symm)
    | cons z r => simp at h1
theorem LstG.right {l l' : List Int} (h : LstG (lsp l') l) (hu : ∀ y ∈ l', U32 y) : l = l' := by
  by_cases h1 : l' = []
  · subst h1
    rcases h with ⟨-, e⟩ | ⟨h, -⟩
    · exact e
    · exact absurd rfl h
  · rcases h with ⟨e, -⟩ | ⟨-, hl, hg⟩
    · exact absurd e (lsp_ne hu h1)
    · rw [split_lsp h1] at hl hg
      have hl2 : l.length = l'.length := by simpa using hl
      refine List.ext_getElem hl2 (fun j k1 k2 => ?_)
      obtain ⟨p, x, e1, e2, e3⟩ := hg.at' j k1
      rw [List.getElem?_map, List.getElem?_eq_getElem k2] at e1
      simp only [Option.map_some, Option.some.injEq] at e1
      subst e1
      rw [e3]
      exact gnum_id e2 (hu _ (List.getElem_mem k2))
theorem gnum_u8 {x y : Int} (h : GNum (dec y) x) (hy : U8 y) : x % 256 = y := by
  have h1 := hy.1
  have h2 := hy.2
  rw [gnum_of h ⟨by omega, by omega⟩]
  omega
/-- A guessed entry. -/
def EntG (rn kn : Nat → ByteArray) (ps : List (List Int)) (x : Ent) : Prop := ∃ p0 p1 p2 p3 p4 p5 p6 p7 p8 p9 p10 p11 p12 p13 p14 p15 p16 p17 p18 p19 p20 x1 rv x3 kv x5 x6 x7 x8 x9 x10 x11 x12 x13 x14 x15 x16 x17 x18 x19 l,
  ps = [p0, p1, p2, p3, p4, p5, p6, p7, p8, p9, p10, p11, p12, p13, p14, p15, p16, p17, p18, p19, p20] ∧
  x = ⟨x1 % 4294967296, rv, x3 % 4294967296, ⟨kv, x5 % 4294967296, x6, x7 % 4294967296, x8 % 4294967296, x9 % 4294967296, x10 % 4294967296, x11 % 4294967296, x12 % 256, x13 % 256, x14, x15, x16, x17, x18, x19, l⟩⟩ ∧
  (GNum p1 x1 ∧ NmV rn 6 p2 rv ∧ GNum p3 x3 ∧ NmV kn 20 p4 kv ∧ GNum p5 x5 ∧ GNum p6 x6 ∧ GNum p7 x7 ∧ GNum p8 x8 ∧ GNum p9 x9 ∧ GNum p10 x10 ∧ GNum p11 x11 ∧ GNum p12 x12 ∧ GNum p13 x13 ∧ GNum p14 x14 ∧ GNum p15 x15 ∧ GNum p16 x16 ∧ GNum p17 x17 ∧ GNum p18 x18 ∧ GNum p19 x19 ∧ LstG p20 l)
theorem NmV.u8 {f : Nat → ByteArray} {top : Nat} {p : List Int} {v : Int} (h : NmV f top p v) (ht : top ≤ 255) : U8 v := by
  rcases h with ⟨rfl, -⟩ | ⟨k, h1, h2, -, rfl⟩
  · exact ⟨by decide, by decide⟩
  · exact ⟨by omega, by omega⟩
theorem EntG.ok {rn kn : Nat → ByteArray} {ps : List (List Int)} {x : Ent} (h : EntG rn kn ps x) : x.Ok := by
  obtain ⟨p0, p1, p2, p3, p4, p5, p6, p7, p8, p9, p10, p11, p12, p13, p14, p15, p16, p17, p18, p19, p20, x1, rv, x3, kv, x5, x6, x7, x8, x9, x10, x11, x12, x13, x14, x15, x16, x17, x18, x19, l, -, rfl, g1, g2, g3, g4, g5, g6, g7, g8, g9, g10, g11, g12, g13, g14, g15, g16, g17, g18, g19, g20⟩ := h
  have um : ∀ x : Int, U32 (x % 4294967296) := fun x => ⟨by omega, by omega⟩
  have bm : ∀ x : Int, U8 (x % 256) := fun x => ⟨by omega, by omega⟩
  exact ⟨g2.u8 (by decide), um _, ⟨g4.u8 (by decide), um _, g6.1, um _, um _, um _, um _, um _, bm _, bm _, g14.1, g15.1, g16.1, g17.1, g18.1, g19.1⟩, g20.u32⟩
theorem EntG.right {rn kn : Nat → ByteArray} {x y : Ent} {n : Int} (hg : NmG rn kn) (hv : EntV y n) (hok : y.Ok) (hs : U32 y.seq) (h : EntG rn kn ([69] :: entParts rn kn y) x) : x = y := by
  obtain ⟨p0, p1, p2, p3, p4, p5, p6, p7, p8, p9, p10, p11, p12, p13, p14, p15, p16, p17, p18, p19, p20, x1, rv, x3, kv, x5, x6, x7, x8, x9, x10, x11, x12, x13, x14, x15, x16, x17, x18, x19, l, e, rfl, g1, g2, g3, g4, g5, g6, g7, g8, g9, g10, g11, g12, g13, g14, g15, g16, g17, g18, g19, g20⟩ := h
  obtain ⟨-, ⟨r, a1, a2, a3⟩, ⟨k, b1, b2, b3⟩, -⟩ := hv
  have q := hok.req
  simp only [entParts, a3, b3, nmOf_in (f := rn) (top := 6) (k := r) (by omega), nmOf_in (f := kn) (top := 30) (k := k) (by omega), List.cons.injEq, and_true] at e
  obtain ⟨-, e1, e2, e3, e4, e5, e6, e7, e8, e9, e10, e11, e12, e13, e14, e15, e16, e17, e18, e19, e20⟩ := e
  subst e1 e2 e3 e4 e5 e6 e7 e8 e9 e10 e11 e12 e13 e14 e15 e16 e17 e18 e19 e20
  have hr : rv = y.role := by
    rcases g2 with ⟨-, h⟩ | ⟨j, h1, h2, h3, h4⟩
    · exact absurd rfl (h r a1 a2)
    · rw [h4, a3, hg.ri j r h1 h2 a1 a2 h3]
  have hk : kv = y.req.kind := by
    rcases g4 with ⟨-, h⟩ | ⟨j, h1, h2, h3, h4⟩
    · exact absurd rfl (h k b1 b2)
    · rw [h4, b3, hg.ki j k h1 (by omega) b1 b2 h3]
  have f1 := gnum_id g1 hs
  have f3 := gnum_id g3 hok.issued
  have f5 := gnum_id g5 q.user
  have f6 := gnum_of g6 q.now
  have f7 := gnum_id g7 q.id
  have f8 := gnum_id g8 q.ref
  have f9 := gnum_id g9 q.kit
  have f10 := gnum_id g10 q.subject
  have f11 := gnum_id g11 q.visit
  have f12 := gnum_u8 g12 q.role
  have f13 := gnum_u8 g13 q.cls
  have f14 := gnum_of g14 q.time
  have f15 := gnum_of g15 q.till
  have f16 := gnum_of g16 q.value
  have f17 := gnum_of g17 q.l0
  have f18 := gnum_of g18 q.l1
  have f19 := gnum_of g19 q.l2
  have f20 := g20.right hok.list
  rw [f1, f3, f5, f6, f7, f8, f9, f10, f11, f12, f13, f14, f15, f16, f17, f18, f19, f20, hr, hk]
/-- The guess at a whole trail. -/
structure TrG (rn kn : Nat → ByteArray) (bs : List Int) (xs : List Ent) : Prop where
  three : 3 ≤ (splitB 10 bs).length
  len : xs.length + 3 = (splitB 10 bs).length
  line : ∀ j (h : j < xs.length), ∃ l, (splitB 10 bs)[j + 1]? = some l ∧ EntG rn kn (splitB 124 l) xs[j]
section
variable {rn kn : Nat → ByteArray} {bs : List Int} {xs ys : List Ent}
theorem Tv.ev (h : Tv rn kn bs xs) : ∀ j (k : j < xs.length), EntV xs[j] ((j + 1 : Nat) : Int) := fun j k => by
  have := rtB_at h.rt j k
  rw [Nat.zero_add] at this
  exact this
theorem Tv.lines (hg : NmG rn kn) (h : Tv rn kn bs xs) : splitB 10 bs = trhL xs.length :: (xs.map (entL rn kn) ++ [trailL (trHead xs.length ++ flatL (trLine rn kn) xs) xs.length, []]) := by
  have h1 : bs = trhL xs.length ++ 10 :: (flatL (trLine rn kn) xs ++ (trailL (trHead xs.length ++ flatL (trLine rn kn) xs) xs.length ++ 10 :: [])) := by
    rw [h.tx]
    unfold trText trailText trailL
    rw [trHead_parts]
    simp
  conv => lhs; rw [h1]
  rw [splitB_at (a := trhL xs.length) (tail_no (head_parts_ok _)), split_flat (f := entL rn kn) (fun x hx => ⟨trLine_parts rn kn x, ?_⟩), splitB_at (a := trailL (trHead xs.length ++ flatL (trLine rn kn) xs) xs.length) (trailL_no _ _)]
  · rfl
  · obtain ⟨j, hj, rfl⟩ := List.getElem_of_mem hx
    exact tail_no (ent_parts_ok hg (h.ev j hj))
theorem ent_fields (hg : NmG rn kn) {x : Ent} {n : Int} (hv : EntV x n) : splitB 124 (entL rn kn x) = [69] :: entParts rn kn x := split_tail (fun q hq y hy => ((ent_parts_ok hg hv q hq).2 y hy).1)
theorem tv_shape (hg : NmG rn kn) (h : Tv rn kn bs xs) : 3 ≤ (splitB 10 bs).length ∧ ∀ j l, j + 3 < (splitB 10 bs).length → (splitB 10 bs)[j + 1]? = some l → (splitB 124 l).length = 21 := by
  rw [h.lines hg]
  refine ⟨by simp, fun j l hj hl => ?_⟩
  simp at hj
  have hjc : j < xs.length := by omega
  rw [List.getElem?_cons_succ, List.getElem?_append_left (by simpa using hjc), List.getElem?_map, List.getElem?_eq_getElem hjc] at hl
  simp at hl
  rw [← hl, ent_fields hg (h.ev j hjc)]
  rfl
theorem TrG.right (hg : NmG rn kn) (h : TrG rn kn bs xs) (ht : Tv rn kn bs ys) (hb : bs.length ≤ 4000000000) : xs = ys := by
  obtain ⟨h3, hlen, hline⟩ := h
  rw [ht.lines hg] at hlen hline
  have hcl : xs.length = ys.length := by simp at hlen; omega
  refine List.ext_getElem hcl (fun j k1 k2 => ?_)
  obtain ⟨l, hl, hG⟩ := hline j k1
  rw [List.getElem?_cons_succ, List.getElem?_append_left (by simpa using k2), List.getElem?_map, List.getElem?_eq_getElem k2] at hl
  simp only [Option.map_some, Option.some.injEq] at hl
  have hv := ht.ev j k2
  rw [← hl, ent_fields hg hv] at hG
  refine hG.right hg hv (ht.ok _ (List.getElem_mem k2)) ?_
  rw [hv.seq]
  have := ht.len
  exact ⟨by omega, by omega⟩
end
end Go.Proofs.Qxb6500666aGreatDoor
