/- A map whose keys are pairs of identifiers, its elements read as themselves. -/
import Derived.Test.Qxb6500666aGreatDoorMapR
import Derived.Test.Qxb6500666aGreatDoorCorP
import Derived.Maps.OwnSet
import Derived.Maps.OwnOps
import Derived.WideKeyEntry
namespace Go.Proofs.Qxb6500666aGreatDoor
open Go.RowKit Go.Maps

/-- Block B is a map: f s a is what it holds at the pair; z is the element's zero. -/
def MapK (w : World) (B n : Nat) (z : Value) (f : Int → Int → Option Value) : Prop :=
  ∃ D : DataW Value, w.ownsMap Tryz.prog 106 heldElem B n D ∧ ∀ s a l, keyOf Tryz.prog 106 (keyV s a) = some l → Maps.has D l = (f s a).isSome ∧ D.atKey l (.held z) = .held ((f s a).getD z)

theorem MapK.made (w : World) (z : Value) : MapK (w.alloc (.map #[] 0)) w.heap.size 0 z (fun _ _ => none) :=
  ⟨.map [], World.ownsMap_made _ _ _ _, fun _ _ _ _ => ⟨rfl, rfl⟩⟩

section
variable {w w' : World} {B n : Nat} {z : Value} {f : Int → Int → Option Value}

theorem MapK.mono {n' : Nat} (h : MapK w B n z f) (hn : n ≤ n') : MapK w B n' z f :=
  let ⟨D, h2, h3⟩ := h
  ⟨D, h2.mono hn, h3⟩

theorem MapK.lt (h : MapK w B n z f) : B < w.heap.size :=
  let ⟨_, h2, _⟩ := h
  h2.lt

theorem MapK.same (h : MapK w B n z f) (hb : w'.heap[B]? = w.heap[B]?) : MapK w' B n z f := by
  obtain ⟨D, ⟨es, clock, he, r⟩, h3⟩ := h
  exact ⟨D, ⟨es, clock, by rw [hb]; exact he, r⟩, h3⟩

theorem MapK.look {t e : TypeId} (h : MapK w B n z f) (ht : Tryz.prog.underlying t = some (.map 106 e)) (hz : (zeroValue e).run Tryz.prog w = .ok z w) {s a : Int} (hs : U32 s) (ha : U32 a) :
    (Instr.lookup t (.map (some B)) (keyV s a) false).run Tryz.prog w = .ok ((f s a).getD z) w := by
  obtain ⟨D, h2, h3⟩ := h
  obtain ⟨l, hl⟩ := keyOf_keyV hs ha
  obtain ⟨v, ps, hrun, hv⟩ := h2.lookup Tryz.keyLaw ht hz (zd := .held z) (zp := []) rfl hl
  rw [(h3 s a l hl).2] at hv
  simp only [heldElem, Option.some.injEq, Prod.mk.injEq, DataW.held.injEq] at hv
  rw [hrun, hv.1]

theorem MapK.put {t e : TypeId} (h : MapK w B n z f) (ht : Tryz.prog.underlying t = some (.map 106 e)) (hn : n < maxLen) {s a : Int} (hs : U32 s) (ha : U32 a) (v : Value) :
    ∃ w', (Instr.mapUpdate t (.map (some B)) (keyV s a) v).run Tryz.prog w = .ok () w' ∧ MapK w' B (n + 1) z (upd2 f s a (some v)) ∧ w.grownBy w' (some B) := by
  obtain ⟨D, h2, h3⟩ := h
  obtain ⟨l, hl⟩ := keyOf_keyV hs ha
  obtain ⟨w', hrun, hown, hg⟩ := h2.update Tryz.keyLaw ht hn (val := v) (d := .held v) (ps := []) hl rfl
  have hT := h2.tidy Tryz.keyLaw
  refine ⟨w', hrun, ⟨_, hown, fun x y l' hl' => ?_⟩, hg⟩
  by_cases he : x = s ∧ y = a
  · obtain ⟨rfl, rfl⟩ := he
    rw [hl] at hl'
    cases hl'
    rw [has_put_same hT.isMap (isKey_of hl), atKey_put_same hT.isMap (isKey_of hl), upd2_same]
    exact ⟨rfl, rfl⟩
  · have hne := key_ne hl hl' he
    rw [has_put_other hne, atKey_put_other hne, upd2_other _ _ he]
    exact h3 x y l' hl'

open Go.ChangeMaps in
/-- An entry found or made, then stored to: as an update, whatever else has happened between the two. -/
theorem MapK.entry {t e : TypeId} (h : MapK w B n z f) (ht : Tryz.prog.underlying t = some (.map 106 e)) (hz : ∀ u : World, (zeroValue e).run Tryz.prog u = .ok z u) (hn : n < maxLen) {s a : Int} (hs : U32 s) (ha : U32 a) :
    ∃ v0 st o1, (Instr.mapEntry t (.map (some B)) (keyV s a)).run Tryz.prog w = .ok (.tuple #[v0, goInt (st : Nat)]) (setBlock w B o1) ∧ (∀ w3 : World, w3.heap[B]? = some o1 → (Instr.lookup t (.map (some B)) (keyV s a) false).run Tryz.prog w3 = .ok ((f s a).getD z) w3) ∧
      ∀ val, ∃ o2, (∀ w2 : World, w2.heap[B]? = some o1 → (Instr.entryStore t (.map (some B)) (goInt (st : Nat)) val).run Tryz.prog w2 = .ok () (setBlock w2 B o2)) ∧ ∀ w3 : World, w3.heap[B]? = some o2 → MapK w3 B (n + 1) z (upd2 f s a (some val)) := by
  have hput := fun val => h.put ht hn hs ha val
  have hM := h
  have hlk := h.look ht (hz w) hs ha
  obtain ⟨l, hl⟩ := keyOf_keyV hs ha
  obtain ⟨D, ⟨es, clock, hb, F, -, -⟩, -⟩ := h
  have hlt : B < w.heap.size := by
    rcases Nat.lt_or_ge B w.heap.size with q | q
    · exact q
    · rw [Array.getElem?_eq_none q] at hb; cases hb
  have hset : ∀ o, (setBlock w B o).heap[B]? = some o := fun o => by simp [setBlock, hlt]
  have fin : ∀ val o2, (Instr.mapUpdate t (.map (some B)) (keyV s a) val).run Tryz.prog w = .ok () (setBlock w B o2) → ∀ w3 : World, w3.heap[B]? = some o2 → MapK w3 B (n + 1) z (upd2 f s a (some val)) := by
    intro val o2 hr w3 h3
    obtain ⟨w', h1, h2, -⟩ := hput val
    rw [hr] at h1
    injection h1 with _ h1
    subst h1
    exact h2.same (h3.trans (hset o2).symm)
  obtain ⟨s1, s2, -⟩ := F.stamped
  rcases Tryz.keyLaw.find w hl es.toList F.keys with ⟨h1, h2⟩ | ⟨j, e0, h1, h2, h4⟩
  · have hup : ∀ val, (Instr.mapUpdate t (.map (some B)) (keyV s a) val).run Tryz.prog w = .ok () (setBlock w B (.map (es.push ⟨keyV s a, val, clock⟩) (clock + 1))) := fun val => by
      simp [Instr.mapUpdate, run_underlying ht, MapKept.run_getObj_map hb, Tryz.keyLaw.check w false hl, h1, MapKept.run_setObj_map _ hb, Result.andThen, setBlock]
    have hz0 : (f s a).getD z = z := by
      have : (Instr.lookup t (.map (some B)) (keyV s a) false).run Tryz.prog w = .ok z w := by
        simp [Instr.lookup, run_underlying ht, MapKept.run_getObj_map hb, Tryz.keyLaw.check w es.isEmpty hl, h1, hz, Result.andThen]
      rw [hlk] at this
      injection this
    refine ⟨z, clock, .map (es.push ⟨keyV s a, z, clock⟩) (clock + 1), ?_, fun w3 h3 => ?_, fun val => ⟨.map (es.push ⟨keyV s a, val, clock⟩) (clock + 1), fun w2 hw2 => ?_, fin val _ ?_⟩⟩
    · simp [Instr.mapEntry, run_underlying ht, MapKept.run_getObj_map hb, Tryz.keyLaw.check w false hl, h1, hz, MapKept.run_setObj_map _ hb, Result.andThen, setBlock]
    · have := (fin z _ (hup z) w3 h3).look ht (hz w3) hs ha
      rw [upd2_same] at this
      rw [hz0]
      exact this
    · have hidx : (es.push ⟨keyV s a, z, clock⟩).findIdx? (fun e => ((e.born : Nat) : Int) == ((clock : Nat) : Int)) = some es.size := by
        rw [WideElems.findIdx_arr]
        refine WideElems.findIdx_born (l := (es.push ⟨keyV s a, z, clock⟩).toList) (j := es.size) (e0 := ⟨keyV s a, z, clock⟩) ?_ (by simp)
        rw [Array.toList_push, List.map_append, List.nodup_append]
        refine ⟨s2, by simp, fun a ha c hc => ?_⟩
        obtain ⟨x, hx, rfl⟩ := List.mem_map.1 ha
        have := s1 x hx
        simp at hc
        omega
      have hmod : (es.push ⟨keyV s a, z, clock⟩).modify es.size (fun e => { e with val := val }) = es.push ⟨keyV s a, val, clock⟩ := by
        apply Array.ext'
        rw [Array.toList_modify, Array.toList_push, Array.toList_push, ← Array.length_toList, WideElems.modify_last]
      simp [Instr.entryStore, MapKept.run_getObj_map hw2, asInt, asIntOf, goInt, hidx, hmod, MapKept.run_setObj_map _ hw2, Result.andThen, setBlock]
    · exact hup val
  · have hj : es[j]? = some e0 := by simpa using h2
    have hsame : es.modify j (fun e => { e with key := keyV s a }) = es := by
      apply Array.ext'
      rw [Array.toList_modify, modify_eq_set _ _ _ _ h2, show ({ e0 with key := keyV s a } : MapEntry) = e0 by rw [← h4]]
      exact WideElems.set_self _ _ _ h2
    refine ⟨e0.val, e0.born, .map es clock, ?_, fun w3 h3 => (hM.same (h3.trans hb.symm)).look ht (hz w3) hs ha, fun val => ⟨.map (es.modify j (fun e' => { e' with key := keyV s a, val := val })) clock, fun w2 hw2 => ?_, fin val _ ?_⟩⟩
    · simp [Instr.mapEntry, run_underlying ht, MapKept.run_getObj_map hb, Tryz.keyLaw.check w false hl, h1, hj, h4, Tryz.keyLaw.stays w hl, hsame, MapKept.run_setObj_map _ hb, Result.andThen, setBlock]
    · have hidx : es.findIdx? (fun e => ((e.born : Nat) : Int) == ((e0.born : Nat) : Int)) = some j := by
        rw [WideElems.findIdx_arr]
        exact WideElems.findIdx_born s2 h2
      have hmod : es.modify j (fun e => { e with val := val }) = es.modify j (fun e' => { e' with key := keyV s a, val := val }) := by
        apply Array.ext'
        rw [Array.toList_modify, Array.toList_modify, modify_eq_set _ _ _ _ h2, modify_eq_set _ _ _ _ h2, ← h4]
      simp [Instr.entryStore, MapKept.run_getObj_map hw2, asInt, asIntOf, goInt, hidx, hmod, MapKept.run_setObj_map _ hw2, Result.andThen, setBlock]
    · simp [Instr.mapUpdate, run_underlying ht, MapKept.run_getObj_map hb, Tryz.keyLaw.check w false hl, h1, hj, h4, Tryz.keyLaw.stays w hl, MapKept.run_setObj_map _ hb, Result.andThen, setBlock]
end
theorem upd2_map {α β : Type} (g : α → β) (f : Int → Int → Option α) (s a : Int) (v : α) : upd2 (fun x y => (f x y).map g) s a (some (g v)) = fun x y => (upd2 f s a (some v) x y).map g := by
  funext x y
  unfold upd2
  split <;> rfl
theorem Tryz.mapVer : Tryz.prog.underlying 102 = some (.map 106 48) := by kernel_rfl
theorem Tryz.mapVal : Tryz.prog.underlying 103 = some (.map 106 2) := by kernel_rfl
theorem Tryz.zeroU32z (w : World) : (zeroValue 48).run Tryz.prog w = .ok (.int .u32 0) w := by kernel_rfl
theorem Tryz.zeroI64z (w : World) : (zeroValue 2).run Tryz.prog w = .ok (.int .i64 0) w := by kernel_rfl

end Go.Proofs.Qxb6500666aGreatDoor
