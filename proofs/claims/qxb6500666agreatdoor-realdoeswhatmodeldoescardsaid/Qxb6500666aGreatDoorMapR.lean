/- The map from a row's key to the row, in memory. (Made by tools/mk_mapp.py out of t/MapRow.) -/
import Derived.Test.Qxb6500666aGreatDoorMapP
import Derived.Test.Qxb6500666aGreatDoorMapU
import Derived.Test.Qxb6500666aGreatDoorDifferWalk
import Derived.Maps.OwnSet
import Derived.Maps.OwnOps
import Derived.DeepKeys4
namespace Go.Proofs.Qxb6500666aGreatDoor
open Go.RowKit Go.Maps

def keyV (s a : Int) : Value := .agg #[.int .u32 s, .int .u32 a]

theorem Tryz.laidOut : laidOutB Tryz.prog = true := by kernel_rfl
theorem Tryz.keyRow : (106 : TypeId) < Tryz.prog.types.size := of_decide_eq_true (by kernel_rfl)
set_option maxRecDepth 100000 in
theorem Tryz.keyWide : (match Tryz.prog.underlying 106 with | some (.array _ _) | some (.struct _) => true | _ => false) = true := by kernel_rfl
set_option maxRecDepth 100000 in
theorem Tryz.keyLaw : Keyed Tryz.prog 106 := Keyed.of_law (deep_law_laid Tryz.laidOut (m := 2) (by omega) Tryz.keyRow (by kernel_rfl) Tryz.keyWide)

theorem keyV_inj {s a s' a' : Int} (h : keyV s a = keyV s' a') : s = s' ∧ a = a' := by
  simp [keyV] at h
  exact h

theorem formed_keyV (s a : Int) : (keyV s a).formed Tryz.prog 106 = true := by kernel_rfl

theorem Tryz.keyType : Tryz.prog.keyType 106 = true := by kernel_rfl
theorem Tryz.keyCells : Tryz.prog.cellsOf 106 = 2 := by kernel_rfl
theorem Tryz.u32Cells : Tryz.prog.cellsOf 48 = 1 := by kernel_rfl

set_option maxRecDepth 100000 in
theorem keyOf_keyV {s a : Int} (hs : U32 s) (ha : U32 a) : ∃ l, keyOf Tryz.prog 106 (keyV s a) = some l := by
  have w1 : (Lit.int .u32 s).wf = true := by unfold U32 at hs; simp [Lit.wf, IntKind.min, IntKind.max, IntKind.signed, IntKind.bits]; omega
  have w2 : (Lit.int .u32 a).wf = true := by unfold U32 at ha; simp [Lit.wf, IntKind.min, IntKind.max, IntKind.signed, IntKind.bits]; omega
  have hf := formed_keyV s a
  unfold keyOf
  rw [Tryz.underlying106]
  simp only [Tryz.keyType, hf, Bool.and_true, if_true]
  obtain ⟨n, hn⟩ : ∃ n, Tryz.prog.types.size + 1 = n + 2 := ⟨Tryz.prog.types.size - 1, by have h : 1 ≤ Tryz.prog.types.size := Nat.le_of_lt (Nat.lt_of_le_of_lt (by decide : 1 ≤ (106 : Nat)) Tryz.keyRow); omega⟩
  rw [hn]
  have e : Tryz.prog.keyLits (n + 2) 106 (keyV s a).cells.toList = some [.int .u32 s, .int .u32 a] := by
    simp [Program.keyLits, Tryz.underlying106, Tryz.underlying48, Tryz.keyCells, Tryz.u32Cells, keyV, Value.cells, w1, w2]
  rw [e]
  exact ⟨_, rfl⟩

theorem Tryz.zeroRow (w : World) : (zeroValue 109).run Tryz.prog w = .ok (.agg (rowCs zeroRow)) w := by kernel_rfl

/-- Block B is a map from keys to rows: the rows of m, no key twice, at most n of them. -/
def MapAt (w : World) (B n : Nat) (m : List Row) : Prop :=
  Apart m ∧ ∃ D : DataW Value, w.ownsMap Tryz.prog 106 heldElem B n D ∧ Maps.size D = m.length ∧
    ∀ s a l, keyOf Tryz.prog 106 (keyV s a) = some l → Maps.has D l = (mlook m s a).isSome ∧ D.atKey l (.held (.agg (rowCs zeroRow))) = .held (.agg (rowCs ((mlook m s a).getD zeroRow)))

theorem MapAt.made (w : World) : MapAt (w.alloc (.map #[] 0)) w.heap.size 0 [] :=
  ⟨List.Pairwise.nil, .map [], World.ownsMap_made _ _ _ _, rfl, fun _ _ _ _ => ⟨rfl, rfl⟩⟩

theorem MapAt.mono {w : World} {B n n' : Nat} {m : List Row} (h : MapAt w B n m) (hn : n ≤ n') : MapAt w B n' m :=
  let ⟨h1, D, h2, h3⟩ := h
  ⟨h1, D, h2.mono hn, h3⟩

theorem MapAt.lt {w : World} {B n : Nat} {m : List Row} (h : MapAt w B n m) : B < w.heap.size :=
  let ⟨_, _, h2, _⟩ := h
  h2.lt

theorem MapAt.same {w w' : World} {B n : Nat} {m : List Row} (h : MapAt w B n m) (hb : w'.heap[B]? = w.heap[B]?) : MapAt w' B n m := by
  obtain ⟨h1, D, ⟨es, clock, he, r⟩, h3⟩ := h
  exact ⟨h1, D, ⟨es, clock, by rw [hb]; exact he, r⟩, h3⟩

theorem MapAt.below {w w' : World} {B n H : Nat} {m : List Row} (h : MapAt w B n m) (hb : Below H w w') (hH : B < H) : MapAt w' B n m := h.same (hb.block B hH)

theorem MapAt.look {w : World} {B n : Nat} {m : List Row} (h : MapAt w B n m) {s a : Int} (hs : U32 s) (ha : U32 a) :
    (Instr.lookup 148 (.map (some B)) (keyV s a) false).run Tryz.prog w = .ok (.agg (rowCs ((mlook m s a).getD zeroRow))) w := by
  obtain ⟨_, D, h2, _, h3⟩ := h
  obtain ⟨l, hl⟩ := keyOf_keyV hs ha
  obtain ⟨v, ps, hrun, hv⟩ := h2.lookup Tryz.keyLaw Tryz.underlying148 (Tryz.zeroRow w) (zd := .held (.agg (rowCs zeroRow))) (zp := []) rfl hl
  rw [(h3 s a l hl).2] at hv
  simp only [heldElem, Option.some.injEq, Prod.mk.injEq, DataW.held.injEq] at hv
  rw [hrun, hv.1]

theorem MapAt.look_ok {w : World} {B n : Nat} {m : List Row} (h : MapAt w B n m) {s a : Int} (hs : U32 s) (ha : U32 a) :
    (Instr.lookup 148 (.map (some B)) (keyV s a) true).run Tryz.prog w = .ok (.tuple #[.agg (rowCs ((mlook m s a).getD zeroRow)), .bool (mlook m s a).isSome]) w := by
  obtain ⟨_, D, h2, _, h3⟩ := h
  obtain ⟨l, hl⟩ := keyOf_keyV hs ha
  obtain ⟨v, ps, hrun, hv⟩ := h2.look_ok Tryz.keyLaw Tryz.underlying148 (Tryz.zeroRow w) (zd := .held (.agg (rowCs zeroRow))) (zp := []) rfl hl
  rw [(h3 s a l hl).2] at hv
  simp only [heldElem, Option.some.injEq, Prod.mk.injEq, DataW.held.injEq] at hv
  rw [hrun, hv.1, (h3 s a l hl).1]

theorem MapAt.len {w : World} {B n : Nat} {m : List Row} (h : MapAt w B n m) (ty : TypeId) :
    (Builtin.len_ #[148] ty #[.map (some B)]).run Tryz.prog w = .ok (.int .i64 m.length) w := by
  obtain ⟨_, D, h2, hsz, _⟩ := h
  rw [h2.len Tryz.underlying148 ty, hsz]

theorem isKey_of {s a : Int} {l : Lit} (h : keyOf Tryz.prog 106 (keyV s a) = some l) : WideAt.IsKeyLit l := Tryz.keyLaw.key h

theorem key_ne {s a s' a' : Int} {l l' : Lit} (h : keyOf Tryz.prog 106 (keyV s a) = some l) (h' : keyOf Tryz.prog 106 (keyV s' a') = some l') (hne : ¬ (s' = s ∧ a' = a)) : l' ≠ l := by
  intro e
  subst e
  exact hne (keyV_inj (Tryz.keyLaw.inj h' h))

theorem MapAt.put {w : World} {B n : Nat} {m : List Row} (h : MapAt w B n m) (hn : n < maxLen) (r : Row) (hs : U32 r.sample) (ha : U32 r.analyte) :
    ∃ w', (Instr.mapUpdate 148 (.map (some B)) (keyV r.sample r.analyte) (.agg (rowCs r))).run Tryz.prog w = .ok () w' ∧ MapAt w' B (n + 1) (mput m r) ∧ w.grownBy w' (some B) := by
  obtain ⟨h1, D, h2, hsz, h3⟩ := h
  obtain ⟨l, hl⟩ := keyOf_keyV hs ha
  obtain ⟨w', hrun, hown, hg⟩ := h2.update Tryz.keyLaw Tryz.underlying148 hn (val := .agg (rowCs r)) (d := .held (.agg (rowCs r))) (ps := []) hl rfl
  have hT := h2.tidy Tryz.keyLaw
  refine ⟨w', hrun, ⟨apart_put h1 r, _, hown, ?_, fun s a l' hl' => ?_⟩, hg⟩
  · rw [size_put hT, (h3 _ _ l hl).1, hsz]
    have := mdel_len h1 r.sample r.analyte
    unfold mput
    rw [List.length_append]
    cases hm : (mlook m r.sample r.analyte).isSome <;> rw [hm] at this <;> simp at this ⊢ <;> omega
  · by_cases he : s = r.sample ∧ a = r.analyte
    · obtain ⟨rfl, rfl⟩ := he
      rw [hl] at hl'
      cases hl'
      rw [mlook_put_same, has_put_same hT.isMap (isKey_of hl), atKey_put_same hT.isMap (isKey_of hl)]
      exact ⟨rfl, rfl⟩
    · have hne := key_ne hl hl' he
      rw [mlook_put_other _ _ _ _ he, has_put_other hne, atKey_put_other hne]
      exact h3 s a l' hl'

theorem MapAt.drop {w : World} {B n : Nat} {m : List Row} (h : MapAt w B n m) {s a : Int} (hs : U32 s) (ha : U32 a) (ty : TypeId) :
    ∃ w', (Builtin.delete_ #[148, 106] ty #[.map (some B), keyV s a]).run Tryz.prog w = .ok (.tuple #[]) w' ∧ MapAt w' B n (mdel m s a) ∧ w.mapTurned w' B := by
  obtain ⟨h1, D, h2, hsz, h3⟩ := h
  obtain ⟨l, hl⟩ := keyOf_keyV hs ha
  obtain ⟨w', hrun, hown, hg⟩ := h2.drop Tryz.keyLaw Tryz.underlying148 hl ty
  have hT := h2.tidy Tryz.keyLaw
  refine ⟨w', hrun, ⟨apart_del h1 s a, _, hown, ?_, fun s' a' l' hl' => ?_⟩, hg⟩
  · have e1 := size_del (k := l) hT
    rw [(h3 _ _ l hl).1, hsz] at e1
    have := mdel_len h1 s a
    omega
  · by_cases he : s' = s ∧ a' = a
    · obtain ⟨rfl, rfl⟩ := he
      rw [hl] at hl'
      cases hl'
      rw [mlook_del_same, has_del_same, atKey_del_same]
      exact ⟨rfl, rfl⟩
    · have hne := key_ne hl hl' he
      rw [mlook_del_other _ _ _ _ _ he, has_del_other hne, atKey_del_other hne]
      exact h3 s' a' l' hl'

end Go.Proofs.Qxb6500666aGreatDoor
