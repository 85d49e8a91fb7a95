/- A map whose keys are of type uint32, its elements read as themselves. -/
import Derived.Test.Qxb6500665aDoorBench
import Derived.Maps.OwnSet
import Derived.Maps.OwnOps
import Derived.Maps.RangeWalk
namespace Go.Proofs.Qxb6500665aDoor
open Go.RowKit Go.Maps

def heldElem (v : Value) : Option (DataW Value × List MemPlace) := some (.held v, [])

theorem Tryd.keyU : Keyed Tryd.prog 29 := int_keyed Tryd.underlying29
theorem wf_u32 {k : Int} (h : U32 k) : (Lit.int .u32 k).wf = true := by unfold U32 at h; simp [Lit.wf, IntKind.min, IntKind.max, IntKind.signed, IntKind.bits]; omega
theorem u32_wf {k : Int} (h : (Lit.int .u32 k).wf = true) : U32 k := by simp [Lit.wf, IntKind.min, IntKind.max, IntKind.signed, IntKind.bits] at h; unfold U32; omega
theorem keyOf_u32 {k : Int} (h : U32 k) : keyOf Tryd.prog 29 (.int .u32 k) = some (.int .u32 k) := by
  simp [keyOf, Tryd.underlying29, mapKey, wf_u32 h]

/-- Block B is a map: f k is what it holds at k; z is the element's zero. -/
def MapU (w : World) (B n : Nat) (z : Value) (f : Int → Option Value) : Prop :=
  ∃ D : DataW Value, w.ownsMap Tryd.prog 29 heldElem B n D ∧ ∀ k, U32 k → Maps.has D (.int .u32 k) = (f k).isSome ∧ D.atKey (.int .u32 k) (.held z) = .held ((f k).getD z)

theorem MapU.made (w : World) (z : Value) : MapU (w.alloc (.map #[] 0)) w.heap.size 0 z (fun _ => none) :=
  ⟨.map [], World.ownsMap_made _ _ _ _, fun _ _ => ⟨rfl, rfl⟩⟩

section
variable {w w' : World} {B n : Nat} {z : Value} {f : Int → Option Value}

theorem MapU.mono {n' : Nat} (h : MapU w B n z f) (hn : n ≤ n') : MapU w B n' z f :=
  let ⟨D, h2, h3⟩ := h
  ⟨D, h2.mono hn, h3⟩

theorem MapU.lt (h : MapU w B n z f) : B < w.heap.size :=
  let ⟨_, h2, _⟩ := h
  h2.lt

theorem MapU.same (h : MapU w B n z f) (hb : w'.heap[B]? = w.heap[B]?) : MapU w' B n z f := by
  obtain ⟨D, ⟨es, clock, he, r⟩, h3⟩ := h
  exact ⟨D, ⟨es, clock, by rw [hb]; exact he, r⟩, h3⟩

theorem MapU.look {t e : TypeId} (h : MapU w B n z f) (ht : Tryd.prog.underlying t = some (.map 29 e)) (hz : (zeroValue e).run Tryd.prog w = .ok z w) {k : Int} (hk : U32 k) :
    (Instr.lookup t (.map (some B)) (.int .u32 k) false).run Tryd.prog w = .ok ((f k).getD z) w := by
  obtain ⟨D, h2, h3⟩ := h
  obtain ⟨v, ps, hrun, hv⟩ := h2.lookup Tryd.keyU ht hz (zd := .held z) (zp := []) rfl (keyOf_u32 hk)
  rw [(h3 k hk).2] at hv
  simp only [heldElem, Option.some.injEq, Prod.mk.injEq, DataW.held.injEq] at hv
  rw [hrun, hv.1]

theorem MapU.look_ok {t e : TypeId} (h : MapU w B n z f) (ht : Tryd.prog.underlying t = some (.map 29 e)) (hz : (zeroValue e).run Tryd.prog w = .ok z w) {k : Int} (hk : U32 k) :
    (Instr.lookup t (.map (some B)) (.int .u32 k) true).run Tryd.prog w = .ok (.tuple #[(f k).getD z, .bool (f k).isSome]) w := by
  obtain ⟨D, h2, h3⟩ := h
  obtain ⟨v, ps, hrun, hv⟩ := h2.look_ok Tryd.keyU ht hz (zd := .held z) (zp := []) rfl (keyOf_u32 hk)
  rw [(h3 k hk).2] at hv
  simp only [heldElem, Option.some.injEq, Prod.mk.injEq, DataW.held.injEq] at hv
  rw [hrun, hv.1, (h3 k hk).1]

theorem MapU.put {t e : TypeId} (h : MapU w B n z f) (ht : Tryd.prog.underlying t = some (.map 29 e)) (hn : n < maxLen) {k : Int} (hk : U32 k) (v : Value) :
    ∃ w', (Instr.mapUpdate t (.map (some B)) (.int .u32 k) v).run Tryd.prog w = .ok () w' ∧ MapU w' B (n + 1) z (upd f k (some v)) ∧ w.grownBy w' (some B) := by
  obtain ⟨D, h2, h3⟩ := h
  obtain ⟨w', hrun, hown, hg⟩ := h2.update Tryd.keyU ht hn (val := v) (d := .held v) (ps := []) (keyOf_u32 hk) rfl
  have hT := h2.tidy Tryd.keyU
  have hik : WideAt.IsKeyLit (.int .u32 k) := Tryd.keyU.key (keyOf_u32 hk)
  refine ⟨w', hrun, ⟨_, hown, fun j hj => ?_⟩, hg⟩
  by_cases he : j = k
  · subst he
    rw [has_put_same hT.isMap hik, atKey_put_same hT.isMap hik, upd, if_pos rfl]
    exact ⟨rfl, rfl⟩
  · have hne : Lit.int .u32 j ≠ Lit.int .u32 k := fun e => he (by cases e; rfl)
    rw [has_put_other hne, atKey_put_other hne, upd, if_neg he]
    exact h3 j hj
end

end Go.Proofs.Qxb6500665aDoor
