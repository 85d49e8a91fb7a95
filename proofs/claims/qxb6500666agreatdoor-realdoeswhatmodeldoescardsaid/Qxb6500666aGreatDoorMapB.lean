/- A map whose keys are bytes, its elements read as themselves. -/
import Derived.Test.Qxb6500666aGreatDoorMapU
import Derived.Maps.OwnSet
import Derived.Maps.OwnOps
import Derived.WideKeyEntry
namespace Go.Proofs.Qxb6500666aGreatDoor
open Go.RowKit Go.Maps

theorem Tryz.keyB : Keyed Tryz.prog 5 := int_keyed Tryz.underlying5
theorem wf_u8k {k : Int} (h : U8 k) : (Lit.int .u8 k).wf = true := by unfold U8 at h; simp [Lit.wf, IntKind.min, IntKind.max, IntKind.signed, IntKind.bits]; omega
theorem u8k_wf {k : Int} (h : (Lit.int .u8 k).wf = true) : U8 k := by simp [Lit.wf, IntKind.min, IntKind.max, IntKind.signed, IntKind.bits] at h; unfold U8; omega
theorem keyOf_u8 {k : Int} (h : U8 k) : keyOf Tryz.prog 5 (.int .u8 k) = some (.int .u8 k) := by
  simp [keyOf, Tryz.underlying5, mapKey, wf_u8k h]

/-- Block B is a map: f k is what it holds at k; z is the element's zero. -/
def MapB (w : World) (B n : Nat) (z : Value) (f : Int → Option Value) : Prop :=
  ∃ D : DataW Value, w.ownsMap Tryz.prog 5 heldElem B n D ∧ ∀ k, U8 k → Maps.has D (.int .u8 k) = (f k).isSome ∧ D.atKey (.int .u8 k) (.held z) = .held ((f k).getD z)

theorem MapB.made (w : World) (z : Value) : MapB (w.alloc (.map #[] 0)) w.heap.size 0 z (fun _ => none) :=
  ⟨.map [], World.ownsMap_made _ _ _ _, fun _ _ => ⟨rfl, rfl⟩⟩

section
variable {w w' : World} {B n : Nat} {z : Value} {f : Int → Option Value}

theorem MapB.mono {n' : Nat} (h : MapB w B n z f) (hn : n ≤ n') : MapB w B n' z f :=
  let ⟨D, h2, h3⟩ := h
  ⟨D, h2.mono hn, h3⟩

theorem MapB.lt (h : MapB w B n z f) : B < w.heap.size :=
  let ⟨_, h2, _⟩ := h
  h2.lt

theorem MapB.same (h : MapB w B n z f) (hb : w'.heap[B]? = w.heap[B]?) : MapB w' B n z f := by
  obtain ⟨D, ⟨es, clock, he, r⟩, h3⟩ := h
  exact ⟨D, ⟨es, clock, by rw [hb]; exact he, r⟩, h3⟩

theorem MapB.look {t e : TypeId} (h : MapB w B n z f) (ht : Tryz.prog.underlying t = some (.map 5 e)) (hz : (zeroValue e).run Tryz.prog w = .ok z w) {k : Int} (hk : U8 k) :
    (Instr.lookup t (.map (some B)) (.int .u8 k) false).run Tryz.prog w = .ok ((f k).getD z) w := by
  obtain ⟨D, h2, h3⟩ := h
  obtain ⟨v, ps, hrun, hv⟩ := h2.lookup Tryz.keyB ht hz (zd := .held z) (zp := []) rfl (keyOf_u8 hk)
  rw [(h3 k hk).2] at hv
  simp only [heldElem, Option.some.injEq, Prod.mk.injEq, DataW.held.injEq] at hv
  rw [hrun, hv.1]

theorem MapB.look_ok {t e : TypeId} (h : MapB w B n z f) (ht : Tryz.prog.underlying t = some (.map 5 e)) (hz : (zeroValue e).run Tryz.prog w = .ok z w) {k : Int} (hk : U8 k) :
    (Instr.lookup t (.map (some B)) (.int .u8 k) true).run Tryz.prog w = .ok (.tuple #[(f k).getD z, .bool (f k).isSome]) w := by
  obtain ⟨D, h2, h3⟩ := h
  obtain ⟨v, ps, hrun, hv⟩ := h2.look_ok Tryz.keyB ht hz (zd := .held z) (zp := []) rfl (keyOf_u8 hk)
  rw [(h3 k hk).2] at hv
  simp only [heldElem, Option.some.injEq, Prod.mk.injEq, DataW.held.injEq] at hv
  rw [hrun, hv.1, (h3 k hk).1]

theorem MapB.put {t e : TypeId} (h : MapB w B n z f) (ht : Tryz.prog.underlying t = some (.map 5 e)) (hn : n < maxLen) {k : Int} (hk : U8 k) (v : Value) :
    ∃ w', (Instr.mapUpdate t (.map (some B)) (.int .u8 k) v).run Tryz.prog w = .ok () w' ∧ MapB w' B (n + 1) z (upd f k (some v)) ∧ w.grownBy w' (some B) := by
  obtain ⟨D, h2, h3⟩ := h
  obtain ⟨w', hrun, hown, hg⟩ := h2.update Tryz.keyB ht hn (val := v) (d := .held v) (ps := []) (keyOf_u8 hk) rfl
  have hT := h2.tidy Tryz.keyB
  have hik : WideAt.IsKeyLit (.int .u8 k) := Tryz.keyB.key (keyOf_u8 hk)
  refine ⟨w', hrun, ⟨_, hown, fun j hj => ?_⟩, hg⟩
  by_cases he : j = k
  · subst he
    rw [has_put_same hT.isMap hik, atKey_put_same hT.isMap hik, upd, if_pos rfl]
    exact ⟨rfl, rfl⟩
  · have hne : Lit.int .u8 j ≠ Lit.int .u8 k := fun e => he (by cases e; rfl)
    rw [has_put_other hne, atKey_put_other hne, upd, if_neg he]
    exact h3 j hj

end
end Go.Proofs.Qxb6500666aGreatDoor
