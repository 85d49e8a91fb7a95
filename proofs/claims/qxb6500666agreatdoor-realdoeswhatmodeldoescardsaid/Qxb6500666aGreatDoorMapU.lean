/- A map whose keys are of type uint32, its elements read as themselves. -/
import Derived.Test.Qxb6500666aGreatDoorLawX
import Derived.Maps.OwnSet
import Derived.Maps.OwnOps
import Derived.WideKeyEntry
namespace Go.Proofs.Qxb6500666aGreatDoor
open Go.RowKit Go.Maps

/-- A function changed at one place. -/
def upd {α : Type} (f : Int → α) (k : Int) (v : α) : Int → α := fun j => if j = k then v else f j

def heldElem (v : Value) : Option (DataW Value × List MemPlace) := some (.held v, [])

theorem Tryz.keyU : Keyed Tryz.prog 48 := int_keyed Tryz.underlying48
theorem wf_u32 {k : Int} (h : U32 k) : (Lit.int .u32 k).wf = true := by unfold U32 at h; simp [Lit.wf, IntKind.min, IntKind.max, IntKind.signed, IntKind.bits]; omega
theorem u32_wf {k : Int} (h : (Lit.int .u32 k).wf = true) : U32 k := by simp [Lit.wf, IntKind.min, IntKind.max, IntKind.signed, IntKind.bits] at h; unfold U32; omega
theorem keyOf_u32 {k : Int} (h : U32 k) : keyOf Tryz.prog 48 (.int .u32 k) = some (.int .u32 k) := by
  simp [keyOf, Tryz.underlying48, mapKey, wf_u32 h]

/-- Block B is a map: f k is what it holds at k; z is the element's zero. -/
def MapU (w : World) (B n : Nat) (z : Value) (f : Int → Option Value) : Prop :=
  ∃ D : DataW Value, w.ownsMap Tryz.prog 48 heldElem B n D ∧ ∀ k, U32 k → Maps.has D (.int .u32 k) = (f k).isSome ∧ D.atKey (.int .u32 k) (.held z) = .held ((f k).getD z)

theorem MapU.made (w : World) (z : Value) : MapU (w.alloc (.map #[] 0)) w.heap.size 0 z (fun _ => none) :=
  ⟨.map [], World.ownsMap_made _ _ _ _, fun _ _ => ⟨rfl, rfl⟩⟩

section
variable {w w' : World} {B n : Nat} {z : Value} {f : Int → Option Value}

theorem MapU.mono {n' : Nat} (h : MapU w B n z f) (hn : n ≤ n') : MapU w B n' z f :=
  let ⟨D, h2, h3⟩ := h
  ⟨D, h2.mono hn, h3⟩

theorem MapU.lt (h : MapU w B n z f) : B < w.heap.size :=
  let ⟨_, h2, _⟩ := h
  h2.lt

theorem MapU.same (h : MapU w B n z f) (hb : w'.heap[B]? = w.heap[B]?) : MapU w' B n z f := by
  obtain ⟨D, ⟨es, clock, he, r⟩, h3⟩ := h
  exact ⟨D, ⟨es, clock, by rw [hb]; exact he, r⟩, h3⟩

theorem MapU.look {t e : TypeId} (h : MapU w B n z f) (ht : Tryz.prog.underlying t = some (.map 48 e)) (hz : (zeroValue e).run Tryz.prog w = .ok z w) {k : Int} (hk : U32 k) :
    (Instr.lookup t (.map (some B)) (.int .u32 k) false).run Tryz.prog w = .ok ((f k).getD z) w := by
  obtain ⟨D, h2, h3⟩ := h
  obtain ⟨v, ps, hrun, hv⟩ := h2.lookup Tryz.keyU ht hz (zd := .held z) (zp := []) rfl (keyOf_u32 hk)
  rw [(h3 k hk).2] at hv
  simp only [heldElem, Option.some.injEq, Prod.mk.injEq, DataW.held.injEq] at hv
  rw [hrun, hv.1]

theorem MapU.look_ok {t e : TypeId} (h : MapU w B n z f) (ht : Tryz.prog.underlying t = some (.map 48 e)) (hz : (zeroValue e).run Tryz.prog w = .ok z w) {k : Int} (hk : U32 k) :
    (Instr.lookup t (.map (some B)) (.int .u32 k) true).run Tryz.prog w = .ok (.tuple #[(f k).getD z, .bool (f k).isSome]) w := by
  obtain ⟨D, h2, h3⟩ := h
  obtain ⟨v, ps, hrun, hv⟩ := h2.look_ok Tryz.keyU ht hz (zd := .held z) (zp := []) rfl (keyOf_u32 hk)
  rw [(h3 k hk).2] at hv
  simp only [heldElem, Option.some.injEq, Prod.mk.injEq, DataW.held.injEq] at hv
  rw [hrun, hv.1, (h3 k hk).1]

theorem MapU.put {t e : TypeId} (h : MapU w B n z f) (ht : Tryz.prog.underlying t = some (.map 48 e)) (hn : n < maxLen) {k : Int} (hk : U32 k) (v : Value) :
    ∃ w', (Instr.mapUpdate t (.map (some B)) (.int .u32 k) v).run Tryz.prog w = .ok () w' ∧ MapU w' B (n + 1) z (upd f k (some v)) ∧ w.grownBy w' (some B) := by
  obtain ⟨D, h2, h3⟩ := h
  obtain ⟨w', hrun, hown, hg⟩ := h2.update Tryz.keyU ht hn (val := v) (d := .held v) (ps := []) (keyOf_u32 hk) rfl
  have hT := h2.tidy Tryz.keyU
  have hik : WideAt.IsKeyLit (.int .u32 k) := Tryz.keyU.key (keyOf_u32 hk)
  refine ⟨w', hrun, ⟨_, hown, fun j hj => ?_⟩, hg⟩
  by_cases he : j = k
  · subst he
    rw [has_put_same hT.isMap hik, atKey_put_same hT.isMap hik, upd, if_pos rfl]
    exact ⟨rfl, rfl⟩
  · have hne : Lit.int .u32 j ≠ Lit.int .u32 k := fun e => he (by cases e; rfl)
    rw [has_put_other hne, atKey_put_other hne, upd, if_neg he]
    exact h3 j hj

open Go.ChangeMaps in
/-- An entry found or made, then stored to: as an update, whatever else has happened between the two. -/
theorem MapU.entry {t e : TypeId} (h : MapU w B n z f) (ht : Tryz.prog.underlying t = some (.map 48 e)) (hz : ∀ u : World, (zeroValue e).run Tryz.prog u = .ok z u) (hn : n < maxLen) {k : Int} (hk : U32 k) :
    ∃ v0 st o1, (Instr.mapEntry t (.map (some B)) (.int .u32 k)).run Tryz.prog w = .ok (.tuple #[v0, goInt (st : Nat)]) (setBlock w B o1) ∧
      ∀ val, ∃ o2, (∀ w2 : World, w2.heap[B]? = some o1 → (Instr.entryStore t (.map (some B)) (goInt (st : Nat)) val).run Tryz.prog w2 = .ok () (setBlock w2 B o2)) ∧ ∀ w3 : World, w3.heap[B]? = some o2 → MapU w3 B (n + 1) z (upd f k (some val)) := by
  have hput := fun val => h.put ht hn hk val
  obtain ⟨D, ⟨es, clock, hb, F, -, -⟩, -⟩ := h
  have hlt : B < w.heap.size := by
    rcases Nat.lt_or_ge B w.heap.size with q | q
    · exact q
    · rw [Array.getElem?_eq_none q] at hb; cases hb
  have hset : ∀ o, (setBlock w B o).heap[B]? = some o := fun o => by simp [setBlock, hlt]
  have fin : ∀ val o2, (Instr.mapUpdate t (.map (some B)) (.int .u32 k) val).run Tryz.prog w = .ok () (setBlock w B o2) → ∀ w3 : World, w3.heap[B]? = some o2 → MapU w3 B (n + 1) z (upd f k (some val)) := by
    intro val o2 hr w3 h3
    obtain ⟨w', h1, h2, -⟩ := hput val
    rw [hr] at h1
    injection h1 with _ h1
    subst h1
    exact h2.same (h3.trans (hset o2).symm)
  obtain ⟨s1, s2, -⟩ := F.stamped
  rcases Tryz.keyU.find w (keyOf_u32 hk) es.toList F.keys with ⟨h1, h2⟩ | ⟨j, e0, h1, h2, h4⟩
  · refine ⟨z, clock, .map (es.push ⟨.int .u32 k, z, clock⟩) (clock + 1), ?_, fun val => ⟨.map (es.push ⟨.int .u32 k, val, clock⟩) (clock + 1), fun w2 hw2 => ?_, fin val _ ?_⟩⟩
    · simp [Instr.mapEntry, run_underlying ht, MapKept.run_getObj_map hb, Tryz.keyU.check w false (keyOf_u32 hk), h1, hz, MapKept.run_setObj_map _ hb, Result.andThen, setBlock]
    · have hidx : (es.push ⟨.int .u32 k, z, clock⟩).findIdx? (fun e => ((e.born : Nat) : Int) == ((clock : Nat) : Int)) = some es.size := by
        rw [WideElems.findIdx_arr]
        refine WideElems.findIdx_born (l := (es.push ⟨.int .u32 k, z, clock⟩).toList) (j := es.size) (e0 := ⟨.int .u32 k, z, clock⟩) ?_ (by simp)
        rw [Array.toList_push, List.map_append, List.nodup_append]
        refine ⟨s2, by simp, fun a ha c hc => ?_⟩
        obtain ⟨x, hx, rfl⟩ := List.mem_map.1 ha
        have := s1 x hx
        simp at hc
        omega
      have hmod : (es.push ⟨.int .u32 k, z, clock⟩).modify es.size (fun e => { e with val := val }) = es.push ⟨.int .u32 k, val, clock⟩ := by
        apply Array.ext'
        rw [Array.toList_modify, Array.toList_push, Array.toList_push, ← Array.length_toList, WideElems.modify_last]
      simp [Instr.entryStore, MapKept.run_getObj_map hw2, asInt, asIntOf, goInt, hidx, hmod, MapKept.run_setObj_map _ hw2, Result.andThen, setBlock]
    · simp [Instr.mapUpdate, run_underlying ht, MapKept.run_getObj_map hb, Tryz.keyU.check w false (keyOf_u32 hk), h1, MapKept.run_setObj_map _ hb, Result.andThen, setBlock]
  · have hj : es[j]? = some e0 := by simpa using h2
    have hsame : es.modify j (fun e => { e with key := .int .u32 k }) = es := by
      apply Array.ext'
      rw [Array.toList_modify, modify_eq_set _ _ _ _ h2, show ({ e0 with key := .int .u32 k } : MapEntry) = e0 by rw [← h4]]
      exact WideElems.set_self _ _ _ h2
    refine ⟨e0.val, e0.born, .map es clock, ?_, fun val => ⟨.map (es.modify j (fun e' => { e' with key := .int .u32 k, val := val })) clock, fun w2 hw2 => ?_, fin val _ ?_⟩⟩
    · simp [Instr.mapEntry, run_underlying ht, MapKept.run_getObj_map hb, Tryz.keyU.check w false (keyOf_u32 hk), h1, hj, h4, Tryz.keyU.stays w (keyOf_u32 hk), hsame, MapKept.run_setObj_map _ hb, Result.andThen, setBlock]
    · have hidx : es.findIdx? (fun e => ((e.born : Nat) : Int) == ((e0.born : Nat) : Int)) = some j := by
        rw [WideElems.findIdx_arr]
        exact WideElems.findIdx_born s2 h2
      have hmod : es.modify j (fun e => { e with val := val }) = es.modify j (fun e' => { e' with key := .int .u32 k, val := val }) := by
        apply Array.ext'
        rw [Array.toList_modify, Array.toList_modify, modify_eq_set _ _ _ _ h2, modify_eq_set _ _ _ _ h2, ← h4]
      simp [Instr.entryStore, MapKept.run_getObj_map hw2, asInt, asIntOf, goInt, hidx, hmod, MapKept.run_setObj_map _ hw2, Result.andThen, setBlock]
    · simp [Instr.mapUpdate, run_underlying ht, MapKept.run_getObj_map hb, Tryz.keyU.check w false (keyOf_u32 hk), h1, hj, h4, Tryz.keyU.stays w (keyOf_u32 hk), MapKept.run_setObj_map _ hb, Result.andThen, setBlock]
end

end Go.Proofs.Qxb6500666aGreatDoor
