/- The map from a row's key to the row, as a list of rows. -/
import Derived.Test.Qxb6500666aDoorDifferWalk
import Derived.Maps.OwnSet
import Derived.Maps.OwnOps
import Derived.DeepKeys4
namespace Go.Proofs.Qxb6500666aDoor
open Go.RowKit Go.Maps

/-- The row with that key. -/
def atK (s a : Int) (r : Row) : Bool := r.sample == s && r.analyte == a
theorem atK_true {s a : Int} {r : Row} : atK s a r = true ↔ r.sample = s ∧ r.analyte = a := by simp [atK]
theorem atK_false {s a : Int} {r : Row} : atK s a r = false ↔ ¬ (r.sample = s ∧ r.analyte = a) := by
  rw [← atK_true]; simp

def mlook (m : List Row) (s a : Int) : Option Row := m.find? (atK s a)
def mdel (m : List Row) (s a : Int) : List Row := m.filter fun r => !(atK s a r)
def mput (m : List Row) (r : Row) : List Row := mdel m r.sample r.analyte ++ [r]
def zeroRow : Row := ⟨0, 0, 0, 0, 0, 0, 0, 0, 0, 0, 0, 0, 0⟩

/-- No key twice. -/
def Apart (m : List Row) : Prop := m.Pairwise fun p q => ¬ (p.sample = q.sample ∧ p.analyte = q.analyte)

theorem mlook_nil (s a : Int) : mlook [] s a = none := rfl
theorem mlook_cons (r : Row) (m : List Row) (s a : Int) : mlook (r :: m) s a = if atK s a r then some r else mlook m s a := by
  unfold mlook
  rw [List.find?_cons]
  cases atK s a r <;> rfl
theorem mdel_cons (r : Row) (m : List Row) (s a : Int) : mdel (r :: m) s a = if atK s a r then mdel m s a else r :: mdel m s a := by
  unfold mdel
  rw [List.filter_cons]
  cases atK s a r <;> rfl
theorem mlook_append (m m' : List Row) (s a : Int) : mlook (m ++ m') s a = (mlook m s a).or (mlook m' s a) := List.find?_append

theorem mlook_del_same (m : List Row) (s a : Int) : mlook (mdel m s a) s a = none := by
  induction m with
  | nil => rfl
  | cons r m ih =>
    rw [mdel_cons]
    cases h : atK s a r with
    | true => exact ih
    | false => rw [if_neg (by simp), mlook_cons, h]; exact ih

theorem mlook_del_other (m : List Row) (s a s' a' : Int) (h : ¬ (s' = s ∧ a' = a)) : mlook (mdel m s a) s' a' = mlook m s' a' := by
  induction m with
  | nil => rfl
  | cons r m ih =>
    rw [mdel_cons, mlook_cons]
    cases h1 : atK s a r with
    | true =>
      have h2 : atK s' a' r = false := by rw [atK_false]; rw [atK_true] at h1; omega
      rw [h2]; exact ih
    | false => rw [if_neg (by simp), mlook_cons, ih]

theorem mlook_put_same (m : List Row) (r : Row) : mlook (mput m r) r.sample r.analyte = some r := by
  unfold mput
  rw [mlook_append, mlook_del_same, mlook_cons]
  have : atK r.sample r.analyte r = true := by simp [atK]
  rw [this]; rfl

theorem mlook_put_other (m : List Row) (r : Row) (s a : Int) (h : ¬ (s = r.sample ∧ a = r.analyte)) : mlook (mput m r) s a = mlook m s a := by
  unfold mput
  rw [mlook_append, mlook_del_other _ _ _ _ _ h, mlook_cons]
  have : atK s a r = false := by rw [atK_false]; omega
  rw [this, mlook_nil]
  simp

theorem apart_del {m : List Row} (h : Apart m) (s a : Int) : Apart (mdel m s a) := List.Pairwise.filter _ h

theorem apart_put {m : List Row} (h : Apart m) (r : Row) : Apart (mput m r) := by
  unfold mput Apart
  rw [List.pairwise_append]
  refine ⟨apart_del h _ _, List.pairwise_singleton _ _, fun p hp q hq => ?_⟩
  simp only [List.mem_singleton] at hq
  subst hq
  unfold mdel at hp
  simp only [List.mem_filter] at hp
  have := hp.2
  rw [Bool.not_eq_true', atK_false] at this
  exact this

theorem mdel_len {m : List Row} (h : Apart m) (s a : Int) : (mdel m s a).length + (if (mlook m s a).isSome then 1 else 0) = m.length := by
  induction m with
  | nil => rfl
  | cons r m ih =>
    have h' := List.pairwise_cons.1 h
    have := ih h'.2
    rw [mdel_cons, mlook_cons]
    cases hr : atK s a r with
    | true =>
      have hnone : mlook m s a = none := by
        unfold mlook
        rw [List.find?_eq_none]
        intro q hq hc
        rw [atK_true] at hr hc
        exact h'.1 q hq ⟨by omega, by omega⟩
      rw [hnone] at this
      simp at this ⊢
      omega
    | false =>
      simp only [Bool.false_eq_true, if_false, List.length_cons] at this ⊢
      omega

/-- An element reads as itself. -/
def heldElem (v : Value) : Option (DataW Value × List MemPlace) := some (.held v, [])

def keyV (s a : Int) : Value := .agg #[.int .u32 s, .int .u32 a]

theorem Tryd.laidOut : laidOutB Tryd.prog = true := by kernel_rfl
theorem Tryd.keyRow : (63 : TypeId) < Tryd.prog.types.size := of_decide_eq_true (by kernel_rfl)
set_option maxRecDepth 100000 in
theorem Tryd.keyWide : (match Tryd.prog.underlying 63 with | some (.array _ _) | some (.struct _) => true | _ => false) = true := by kernel_rfl
set_option maxRecDepth 100000 in
theorem Tryd.keyLaw : Keyed Tryd.prog 63 := Keyed.of_law (deep_law_laid Tryd.laidOut (m := 2) (by omega) Tryd.keyRow (by kernel_rfl) Tryd.keyWide)

theorem keyV_inj {s a s' a' : Int} (h : keyV s a = keyV s' a') : s = s' ∧ a = a' := by
  simp [keyV] at h
  exact h

theorem formed_keyV (s a : Int) : (keyV s a).formed Tryd.prog 63 = true := by kernel_rfl

theorem Tryd.keyType : Tryd.prog.keyType 63 = true := by kernel_rfl
theorem Tryd.keyCells : Tryd.prog.cellsOf 63 = 2 := by kernel_rfl
theorem Tryd.u32Cells : Tryd.prog.cellsOf 26 = 1 := by kernel_rfl

set_option maxRecDepth 100000 in
theorem keyOf_keyV {s a : Int} (hs : U32 s) (ha : U32 a) : ∃ l, keyOf Tryd.prog 63 (keyV s a) = some l := by
  have w1 : (Lit.int .u32 s).wf = true := by unfold U32 at hs; simp [Lit.wf, IntKind.min, IntKind.max, IntKind.signed, IntKind.bits]; omega
  have w2 : (Lit.int .u32 a).wf = true := by unfold U32 at ha; simp [Lit.wf, IntKind.min, IntKind.max, IntKind.signed, IntKind.bits]; omega
  have hf := formed_keyV s a
  unfold keyOf
  rw [Tryd.underlying63]
  simp only [Tryd.keyType, hf, Bool.and_true, if_true]
  obtain ⟨n, hn⟩ : ∃ n, Tryd.prog.types.size + 1 = n + 2 := ⟨Tryd.prog.types.size - 1, by have h : 1 ≤ Tryd.prog.types.size := Nat.le_of_lt (Nat.lt_of_le_of_lt (by decide : 1 ≤ (63 : Nat)) Tryd.keyRow); omega⟩
  rw [hn]
  have e : Tryd.prog.keyLits (n + 2) 63 (keyV s a).cells.toList = some [.int .u32 s, .int .u32 a] := by
    simp [Program.keyLits, Tryd.underlying63, Tryd.underlying26, Tryd.keyCells, Tryd.u32Cells, keyV, Value.cells, w1, w2]
  rw [e]
  exact ⟨_, rfl⟩

theorem Tryd.zeroRow (w : World) : (zeroValue 61).run Tryd.prog w = .ok (.agg (rowCs zeroRow)) w := by kernel_rfl

/-- Block B is a map from keys to rows: the rows of m, no key twice, at most n of them. -/
def MapAt (w : World) (B n : Nat) (m : List Row) : Prop :=
  Apart m ∧ ∃ D : DataW Value, w.ownsMap Tryd.prog 63 heldElem B n D ∧ Maps.size D = m.length ∧
    ∀ s a l, keyOf Tryd.prog 63 (keyV s a) = some l → Maps.has D l = (mlook m s a).isSome ∧ D.atKey l (.held (.agg (rowCs zeroRow))) = .held (.agg (rowCs ((mlook m s a).getD zeroRow)))

theorem MapAt.made (w : World) : MapAt (w.alloc (.map #[] 0)) w.heap.size 0 [] :=
  ⟨List.Pairwise.nil, .map [], World.ownsMap_made _ _ _ _, rfl, fun _ _ _ _ => ⟨rfl, rfl⟩⟩

theorem MapAt.mono {w : World} {B n n' : Nat} {m : List Row} (h : MapAt w B n m) (hn : n ≤ n') : MapAt w B n' m :=
  let ⟨h1, D, h2, h3⟩ := h
  ⟨h1, D, h2.mono hn, h3⟩

theorem MapAt.lt {w : World} {B n : Nat} {m : List Row} (h : MapAt w B n m) : B < w.heap.size :=
  let ⟨_, _, h2, _⟩ := h
  h2.lt

theorem MapAt.same {w w' : World} {B n : Nat} {m : List Row} (h : MapAt w B n m) (hb : w'.heap[B]? = w.heap[B]?) : MapAt w' B n m := by
  obtain ⟨h1, D, ⟨es, clock, he, r⟩, h3⟩ := h
  exact ⟨h1, D, ⟨es, clock, by rw [hb]; exact he, r⟩, h3⟩

theorem MapAt.below {w w' : World} {B n H : Nat} {m : List Row} (h : MapAt w B n m) (hb : Below H w w') (hH : B < H) : MapAt w' B n m := h.same (hb.block B hH)

theorem MapAt.look {w : World} {B n : Nat} {m : List Row} (h : MapAt w B n m) {s a : Int} (hs : U32 s) (ha : U32 a) :
    (Instr.lookup 56 (.map (some B)) (keyV s a) false).run Tryd.prog w = .ok (.agg (rowCs ((mlook m s a).getD zeroRow))) w := by
  obtain ⟨_, D, h2, _, h3⟩ := h
  obtain ⟨l, hl⟩ := keyOf_keyV hs ha
  obtain ⟨v, ps, hrun, hv⟩ := h2.lookup Tryd.keyLaw Tryd.underlying56 (Tryd.zeroRow w) (zd := .held (.agg (rowCs zeroRow))) (zp := []) rfl hl
  rw [(h3 s a l hl).2] at hv
  simp only [heldElem, Option.some.injEq, Prod.mk.injEq, DataW.held.injEq] at hv
  rw [hrun, hv.1]

theorem MapAt.look_ok {w : World} {B n : Nat} {m : List Row} (h : MapAt w B n m) {s a : Int} (hs : U32 s) (ha : U32 a) :
    (Instr.lookup 56 (.map (some B)) (keyV s a) true).run Tryd.prog w = .ok (.tuple #[.agg (rowCs ((mlook m s a).getD zeroRow)), .bool (mlook m s a).isSome]) w := by
  obtain ⟨_, D, h2, _, h3⟩ := h
  obtain ⟨l, hl⟩ := keyOf_keyV hs ha
  obtain ⟨v, ps, hrun, hv⟩ := h2.look_ok Tryd.keyLaw Tryd.underlying56 (Tryd.zeroRow w) (zd := .held (.agg (rowCs zeroRow))) (zp := []) rfl hl
  rw [(h3 s a l hl).2] at hv
  simp only [heldElem, Option.some.injEq, Prod.mk.injEq, DataW.held.injEq] at hv
  rw [hrun, hv.1, (h3 s a l hl).1]

theorem MapAt.len {w : World} {B n : Nat} {m : List Row} (h : MapAt w B n m) (ty : TypeId) :
    (Builtin.len_ #[56] ty #[.map (some B)]).run Tryd.prog w = .ok (.int .i64 m.length) w := by
  obtain ⟨_, D, h2, hsz, _⟩ := h
  rw [h2.len Tryd.underlying56 ty, hsz]

theorem isKey_of {s a : Int} {l : Lit} (h : keyOf Tryd.prog 63 (keyV s a) = some l) : WideAt.IsKeyLit l := Tryd.keyLaw.key h

theorem key_ne {s a s' a' : Int} {l l' : Lit} (h : keyOf Tryd.prog 63 (keyV s a) = some l) (h' : keyOf Tryd.prog 63 (keyV s' a') = some l') (hne : ¬ (s' = s ∧ a' = a)) : l' ≠ l := by
  intro e
  subst e
  exact hne (keyV_inj (Tryd.keyLaw.inj h' h))

theorem MapAt.put {w : World} {B n : Nat} {m : List Row} (h : MapAt w B n m) (hn : n < maxLen) (r : Row) (hs : U32 r.sample) (ha : U32 r.analyte) :
    ∃ w', (Instr.mapUpdate 56 (.map (some B)) (keyV r.sample r.analyte) (.agg (rowCs r))).run Tryd.prog w = .ok () w' ∧ MapAt w' B (n + 1) (mput m r) ∧ w.grownBy w' (some B) := by
  obtain ⟨h1, D, h2, hsz, h3⟩ := h
  obtain ⟨l, hl⟩ := keyOf_keyV hs ha
  obtain ⟨w', hrun, hown, hg⟩ := h2.update Tryd.keyLaw Tryd.underlying56 hn (val := .agg (rowCs r)) (d := .held (.agg (rowCs r))) (ps := []) hl rfl
  have hT := h2.tidy Tryd.keyLaw
  refine ⟨w', hrun, ⟨apart_put h1 r, _, hown, ?_, fun s a l' hl' => ?_⟩, hg⟩
  · rw [size_put hT, (h3 _ _ l hl).1, hsz]
    have := mdel_len h1 r.sample r.analyte
    unfold mput
    rw [List.length_append]
    cases hm : (mlook m r.sample r.analyte).isSome <;> rw [hm] at this <;> simp at this ⊢ <;> omega
  · by_cases he : s = r.sample ∧ a = r.analyte
    · obtain ⟨rfl, rfl⟩ := he
      rw [hl] at hl'
      cases hl'
      rw [mlook_put_same, has_put_same hT.isMap (isKey_of hl), atKey_put_same hT.isMap (isKey_of hl)]
      exact ⟨rfl, rfl⟩
    · have hne := key_ne hl hl' he
      rw [mlook_put_other _ _ _ _ he, has_put_other hne, atKey_put_other hne]
      exact h3 s a l' hl'

theorem MapAt.drop {w : World} {B n : Nat} {m : List Row} (h : MapAt w B n m) {s a : Int} (hs : U32 s) (ha : U32 a) (ty : TypeId) :
    ∃ w', (Builtin.delete_ #[56, 63] ty #[.map (some B), keyV s a]).run Tryd.prog w = .ok (.tuple #[]) w' ∧ MapAt w' B n (mdel m s a) ∧ w.mapTurned w' B := by
  obtain ⟨h1, D, h2, hsz, h3⟩ := h
  obtain ⟨l, hl⟩ := keyOf_keyV hs ha
  obtain ⟨w', hrun, hown, hg⟩ := h2.drop Tryd.keyLaw Tryd.underlying56 hl ty
  have hT := h2.tidy Tryd.keyLaw
  refine ⟨w', hrun, ⟨apart_del h1 s a, _, hown, ?_, fun s' a' l' hl' => ?_⟩, hg⟩
  · have e1 := size_del (k := l) hT
    rw [(h3 _ _ l hl).1, hsz] at e1
    have := mdel_len h1 s a
    omega
  · by_cases he : s' = s ∧ a' = a
    · obtain ⟨rfl, rfl⟩ := he
      rw [hl] at hl'
      cases hl'
      rw [mlook_del_same, has_del_same, atKey_del_same]
      exact ⟨rfl, rfl⟩
    · have hne := key_ne hl hl' he
      rw [mlook_del_other _ _ _ _ _ he, has_del_other hne, atKey_del_other hne]
      exact h3 s' a' l' hl'

end Go.Proofs.Qxb6500666aDoor
