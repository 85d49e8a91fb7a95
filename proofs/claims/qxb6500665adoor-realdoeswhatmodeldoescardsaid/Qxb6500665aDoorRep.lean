/- The set-up that the pairs stand for; how each command turns it. -/
import Derived.Test.Qxb6500665aDoorSitesWalk
import Derived.Test.Qxb6500665aDoorAmendWalk
namespace Go.Proofs.Qxb6500665aDoor
open Go.RowKit

structure Tab where
  an : Int → Option (Int × Int × Int)
  pan : Int → Option (List Int)
  vers : List Ver
  site : Int → Bool
  sub : Int → Option (Int × Int)

def verOf (vers : List Ver) (id : Int) : Option Ver := if 1 ≤ id then vers[(id - 1).toNat]? else none

structure Rep (ps : List KV) (T : Tab) : Prop where
  an : ∀ id, U32 id → getB ps (keyB 97 id) = (T.an id).map (fun l => anaB l.1 l.2.1 l.2.2)
  anok : ∀ id l, T.an id = some l → I64 l.1 ∧ I64 l.2.1 ∧ I64 l.2.2
  pan : PanRep ps T.pan
  vers : VersRep ps T.vers
  verall : ∀ id, U32 id → getB ps (keyB 118 id) = (verOf T.vers id).map (fun v => verB v.1 v.2)
  vb : ∀ v ∈ T.vers, ∀ x ∈ v.2, visErr x = 0
  site : ∀ id, U32 id → getB ps (keyB 115 id) = if T.site id then some [] else none
  sub : ∀ id, U32 id → getB ps (keyB 117 id) = (T.sub id).map (fun s => subB s.1 s.2)
  subok : ∀ id s, T.sub id = some s → U32 s.1 ∧ 0 ≤ s.2 ∧ s.2 ≤ 157785119
  keys : KeysOk ps
  subs : SubsOk ps

theorem getB_append {ps qs : List KV} {k : List Int} : getB (ps ++ qs) k = (getB ps k).or (getB qs k) := by
  induction ps with
  | nil => simp [getB]
  | cons p r ih =>
    simp only [List.cons_append, getB]
    split <;> simp [ih]
theorem getB_filter_ne {ps : List KV} {k k' : List Int} (h : k ≠ k') : getB (ps.filter (fun q => !decide (q.1 = k))) k' = getB ps k' := by
  induction ps with
  | nil => rfl
  | cons p r ih =>
    simp only [List.filter_cons]
    by_cases hp : p.1 = k
    · simp only [hp, decide_true, Bool.not_true, Bool.false_eq_true, if_false]
      rw [ih, getB, if_neg (by rw [hp]; exact h)]
    · simp only [hp, decide_false, Bool.not_false, if_true, getB, ih]
theorem getB_filter_eq (ps : List KV) (k : List Int) : getB (ps.filter (fun q => !decide (q.1 = k))) k = none := by
  induction ps with
  | nil => rfl
  | cons p r ih =>
    simp only [List.filter_cons]
    by_cases hp : p.1 = k
    · simp only [hp, decide_true, Bool.not_true, Bool.false_eq_true, if_false, ih]
    · simp only [hp, decide_false, Bool.not_false, if_true, getB, if_neg, not_false_eq_true, ih]
theorem getB_put (ps : List KV) (k v k' : List Int) : getB (putB ps (k, v)) k' = if k = k' then some v else getB ps k' := by
  unfold putB
  rw [getB_append]
  by_cases h : k = k'
  · subst h
    rw [getB_filter_eq]; simp [getB]
  · rw [getB_filter_ne h]; simp [getB, h]

theorem mem_put {ps : List KV} {p q : KV} (h : q ∈ putB ps p) : q ∈ ps ∨ q = p := by
  unfold putB at h
  rcases List.mem_append.1 h with h | h
  · exact Or.inl (List.mem_filter.1 h).1
  · exact Or.inr (List.mem_singleton.1 h)

theorem keyB_inj {t t' i i' : Int} (h0 : 0 ≤ t ∧ t ≤ 255) (h0' : 0 ≤ t' ∧ t' ≤ 255) (h1 : U32 i) (h1' : U32 i') (h : keyB t i = keyB t' i') : t = t' ∧ i = i' := by
  have hk : ∀ t i, 0 ≤ t → t ≤ 255 → keyB t i = t :: d256 4 i := fun t i a b => by
    have : d256 1 t = [t] := by simp [d256]; omega
    rw [keyB, this]; rfl
  refine ⟨?_, ?_⟩
  · rw [hk t i h0.1 h0.2, hk t' i' h0'.1 h0'.2] at h
    exact (List.cons.inj h).1
  · rw [← idOf_key t i h1, ← idOf_key t' i' h1', h]

theorem keyB_ne {t t' i i' : Int} (h0 : 0 ≤ t ∧ t ≤ 255) (h0' : 0 ≤ t' ∧ t' ≤ 255) (h1 : U32 i) (h1' : U32 i') (h : t ≠ t' ∨ i ≠ i') : keyB t i ≠ keyB t' i' := fun e => by
  obtain ⟨a, b⟩ := keyB_inj h0 h0' h1 h1' e
  rcases h with h | h
  · exact h a
  · exact h b

theorem KeysOk.put {ps : List KV} (h : KeysOk ps) {t id : Int} (h0 : 0 ≤ t ∧ t ≤ 255) (h1 : U32 id) (v : List Int) : KeysOk (putB ps (keyB t id, v)) := fun p hp => by
  rcases mem_put hp with hp | rfl
  · exact h p hp
  · exact ⟨t, id, h0.1, h0.2, h1, rfl⟩
theorem SubsOk.put {ps : List KV} (h : SubsOk ps) {t id : Int} (h0 : 0 ≤ t ∧ t ≤ 255) (h1 : U32 id) (v : List Int) (hv : t = 117 → ∃ st an, U32 st ∧ I64 an ∧ v = subB st an) : SubsOk (putB ps (keyB t id, v)) := fun p hp i hi hk => by
  rcases mem_put hp with hp | rfl
  · exact h p hp i hi hk
  · obtain ⟨a, -⟩ := keyB_inj h0 (by decide) h1 hi hk
    exact hv a

def upd {α : Type} (f : Int → α) (i : Int) (x : α) : Int → α := fun j => if j = i then x else f j

theorem get_other {ps : List KV} {t id t' id' : Int} {v : List Int} (h0 : 0 ≤ t ∧ t ≤ 255) (h0' : 0 ≤ t' ∧ t' ≤ 255) (h1 : U32 id) (h1' : U32 id') (h : t ≠ t' ∨ id ≠ id') : getB (putB ps (keyB t id, v)) (keyB t' id') = getB ps (keyB t' id') := by
  rw [getB_put, if_neg (keyB_ne h0 h0' h1 h1' h)]
theorem get_same {ps : List KV} {t id : Int} {v : List Int} : getB (putB ps (keyB t id, v)) (keyB t id) = some v := by
  rw [getB_put, if_pos rfl]

theorem PanRep.put_other {ps : List KV} {pan : Int → Option (List Int)} (h : PanRep ps pan) {t id : Int} (h0 : 0 ≤ t ∧ t ≤ 255) (h1 : U32 id) (ht : t ≠ 112) (v : List Int) : PanRep (putB ps (keyB t id, v)) pan :=
  ⟨fun i hi => by rw [get_other h0 (by decide) h1 hi (Or.inl ht)]; exact h.get i hi, h.ok⟩

theorem u32_small (k : Nat) (h : k ≤ 1000001) : U32 (k : Int) := ⟨by omega, by omega⟩

theorem VersRep.put_other {ps : List KV} {vers : List Ver} (h : VersRep ps vers) {t id : Int} (h0 : 0 ≤ t ∧ t ≤ 255) (h1 : U32 id) (ht : t ≠ 118 ∧ t ≠ 104) (v : List Int) : VersRep (putB ps (keyB t id, v)) vers :=
  ⟨by rw [get_other h0 (by decide) h1 (⟨by decide, by decide⟩ : U32 0) (Or.inl ht.2)]; exact h.head, fun k hk => by
    have hl := h.len
    rw [get_other h0 (by decide) h1 (⟨by omega, by omega⟩ : U32 ((k : Int) + 1)) (Or.inl ht.1)]; exact h.ver k hk, h.ok, h.len⟩

theorem Rep.addSite {ps : List KV} {T : Tab} (h : Rep ps T) {id : Int} (hid : U32 id) : Rep (putB ps (keyB 115 id, [])) { T with site := upd T.site id true } := by
  refine ⟨fun i hi => ?_, h.anok, h.pan.put_other (by decide) hid (by decide) _, h.vers.put_other (by decide) hid (by decide) _, fun i hi => ?_, h.vb, fun i hi => ?_, fun i hi => ?_, h.subok, h.keys.put (by decide) hid _, h.subs.put (by decide) hid _ (fun e => by cases e)⟩
  · rw [get_other (by decide) (by decide) hid hi (Or.inl (by decide))]; exact h.an i hi
  · rw [get_other (by decide) (by decide) hid hi (Or.inl (by decide))]; exact h.verall i hi
  · by_cases he : i = id
    · subst he; rw [get_same]; simp [upd]
    · rw [get_other (by decide) (by decide) hid hi (Or.inr (Ne.symm he)), h.site i hi]; simp [upd, he]
  · rw [get_other (by decide) (by decide) hid hi (Or.inl (by decide))]; exact h.sub i hi

theorem Rep.addAn {ps : List KV} {T : Tab} (h : Rep ps T) {id l0 l1 l2 : Int} (hid : U32 id) (h0 : I64 l0) (h1 : I64 l1) (h2 : I64 l2) : Rep (putB ps (keyB 97 id, anaB l0 l1 l2)) { T with an := upd T.an id (some (l0, l1, l2)) } := by
  refine ⟨fun i hi => ?_, fun i l hl => ?_, h.pan.put_other (by decide) hid (by decide) _, h.vers.put_other (by decide) hid (by decide) _, fun i hi => ?_, h.vb, fun i hi => ?_, fun i hi => ?_, h.subok, h.keys.put (by decide) hid _, h.subs.put (by decide) hid _ (fun e => by cases e)⟩
  · by_cases he : i = id
    · subst he; rw [get_same]; simp [upd]
    · rw [get_other (by decide) (by decide) hid hi (Or.inr (Ne.symm he)), h.an i hi]; simp [upd, he]
  · simp only [upd] at hl
    split at hl
    · cases hl; exact ⟨h0, h1, h2⟩
    · exact h.anok i l hl
  · rw [get_other (by decide) (by decide) hid hi (Or.inl (by decide))]; exact h.verall i hi
  · rw [get_other (by decide) (by decide) hid hi (Or.inl (by decide))]; exact h.site i hi
  · rw [get_other (by decide) (by decide) hid hi (Or.inl (by decide))]; exact h.sub i hi

theorem Rep.addSub {ps : List KV} {T : Tab} (h : Rep ps T) {id st an : Int} (hid : U32 id) (h0 : U32 st) (h1 : 0 ≤ an) (h2 : an ≤ 157785119) : Rep (putB ps (keyB 117 id, subB st an)) { T with sub := upd T.sub id (some (st, an)) } := by
  refine ⟨fun i hi => ?_, h.anok, h.pan.put_other (by decide) hid (by decide) _, h.vers.put_other (by decide) hid (by decide) _, fun i hi => ?_, h.vb, fun i hi => ?_, fun i hi => ?_, fun i s hs => ?_, h.keys.put (by decide) hid _, h.subs.put (by decide) hid _ (fun _ => ⟨st, an, h0, ⟨by omega, by omega⟩, rfl⟩)⟩
  · rw [get_other (by decide) (by decide) hid hi (Or.inl (by decide))]; exact h.an i hi
  · rw [get_other (by decide) (by decide) hid hi (Or.inl (by decide))]; exact h.verall i hi
  · rw [get_other (by decide) (by decide) hid hi (Or.inl (by decide))]; exact h.site i hi
  · by_cases he : i = id
    · subst he; rw [get_same]; simp [upd]
    · rw [get_other (by decide) (by decide) hid hi (Or.inr (Ne.symm he)), h.sub i hi]; simp [upd, he]
  · simp only [upd] at hs
    split at hs
    · cases hs; exact ⟨h0, h1, h2⟩
    · exact h.subok i s hs

theorem Rep.addPan {ps : List KV} {T : Tab} (h : Rep ps T) {id : Int} {ids : List Int} (hid : U32 id) (h0 : 0 < ids.length) (h1 : ids.length ≤ 8) (h2 : ∀ x ∈ ids, U32 x) : Rep (putB ps (keyB 112 id, idsB ids)) { T with pan := upd T.pan id (some ids) } := by
  refine ⟨fun i hi => ?_, h.anok, ⟨fun i hi => ?_, fun i l hl => ?_⟩, h.vers.put_other (by decide) hid (by decide) _, fun i hi => ?_, h.vb, fun i hi => ?_, fun i hi => ?_, h.subok, h.keys.put (by decide) hid _, h.subs.put (by decide) hid _ (fun e => by cases e)⟩
  · rw [get_other (by decide) (by decide) hid hi (Or.inl (by decide))]; exact h.an i hi
  · by_cases he : i = id
    · subst he; rw [get_same]; simp [upd]
    · rw [get_other (by decide) (by decide) hid hi (Or.inr (Ne.symm he)), h.pan.get i hi]; simp [upd, he]
  · simp only [upd] at hl
    split at hl
    · cases hl; exact ⟨h0, h1, h2⟩
    · exact h.pan.ok i l hl
  · rw [get_other (by decide) (by decide) hid hi (Or.inl (by decide))]; exact h.verall i hi
  · rw [get_other (by decide) (by decide) hid hi (Or.inl (by decide))]; exact h.site i hi
  · rw [get_other (by decide) (by decide) hid hi (Or.inl (by decide))]; exact h.sub i hi

theorem rep_empty : Rep [] ⟨fun _ => none, fun _ => none, [], fun _ => false, fun _ => none⟩ := by
  refine ⟨fun _ _ => rfl, (fun _ _ h => by cases h), ⟨fun _ _ => rfl, (fun _ _ h => by cases h)⟩, ⟨rfl, (fun k hk => by cases hk), (fun v hv => by cases hv), by simp⟩, fun id _ => ?_, (fun v hv => by cases hv), fun _ _ => rfl, fun _ _ => rfl, (fun _ _ h => by cases h), (fun p hp => by cases hp), (fun p hp => by cases hp)⟩
  show none = _
  unfold verOf
  split <;> simp

theorem verOf_snoc (vers : List Ver) (v : Ver) (id : Int) (h : U32 id) : verOf (vers ++ [v]) id = if id = (vers.length : Int) + 1 then some v else verOf vers id := by
  unfold verOf
  by_cases h1 : 1 ≤ id
  · simp only [h1, if_true]
    by_cases he : id = (vers.length : Int) + 1
    · rw [if_pos he, show (id - 1).toNat = vers.length by omega]; simp
    · rw [if_neg he]
      by_cases hl : (id - 1).toNat < vers.length
      · rw [List.getElem?_append_left hl]
      · rw [List.getElem?_append_right (by omega), List.getElem?_eq_none (l := vers) (by omega)]
        apply List.getElem?_eq_none
        have := h.1
        simp
        omega
  · simp only [h1, if_false]
    rw [if_neg (by omega)]

theorem Rep.amend {ps : List KV} {T : Tab} (h : Rep ps T) {eff : Int} {vs : List Visit} (hl : T.vers.length ≤ 900000) (hv : VerOk (eff, sortV vs)) (hb : ∀ x ∈ vs, visErr x = 0) :
    Rep (applyB ps (amWs T.vers eff vs)) { T with vers := T.vers ++ [(eff, sortV vs)] } := by
  have hn : U32 ((T.vers.length : Int) + 1) := ⟨by omega, by omega⟩
  have h00 : U32 (0 : Int) := ⟨by decide, by decide⟩
  have hap : applyB ps (amWs T.vers eff vs) = putB (putB ps (keyB 118 ((T.vers.length : Int) + 1), verB eff (sortV vs))) (keyB 104 0, headB ((T.vers.length : Int) + 1)) := rfl
  rw [hap]
  have oth : ∀ t id, 0 ≤ t ∧ t ≤ 255 → U32 id → t ≠ 104 → t ≠ 118 ∨ id ≠ (T.vers.length : Int) + 1 → getB (putB (putB ps (keyB 118 ((T.vers.length : Int) + 1), verB eff (sortV vs))) (keyB 104 0, headB ((T.vers.length : Int) + 1))) (keyB t id) = getB ps (keyB t id) := fun t id h0 h1 h2 h3 => by
    rw [get_other (by decide) h0 h00 h1 (Or.inl (Ne.symm h2)), get_other (by decide) h0 hn h1 (by rcases h3 with h3 | h3; exact Or.inl (Ne.symm h3); exact Or.inr (Ne.symm h3))]
  have new : getB (putB (putB ps (keyB 118 ((T.vers.length : Int) + 1), verB eff (sortV vs))) (keyB 104 0, headB ((T.vers.length : Int) + 1))) (keyB 118 ((T.vers.length : Int) + 1)) = some (verB eff (sortV vs)) := by
    rw [get_other (by decide) (by decide) h00 hn (Or.inl (by decide)), get_same]
  refine ⟨fun i hi => ?_, h.anok, ⟨fun i hi => ?_, h.pan.ok⟩, ⟨?_, fun k hk => ?_, fun v hv' => ?_, by simp; omega⟩, fun i hi => ?_, fun v hv' x hx => ?_, fun i hi => ?_, fun i hi => ?_, h.subok, (h.keys.put (by decide) hn _).put (by decide) h00 _, (h.subs.put (by decide) hn _ (fun e => by cases e)).put (by decide) h00 _ (fun e => by cases e)⟩
  · rw [oth _ _ (by decide) hi (by decide) (Or.inl (by decide))]; exact h.an i hi
  · rw [oth _ _ (by decide) hi (by decide) (Or.inl (by decide))]; exact h.pan.get i hi
  · rw [get_same]; simp
  · by_cases hk2 : k < T.vers.length
    · rw [oth _ _ (by decide) (⟨by omega, by omega⟩ : U32 ((k : Int) + 1)) (by decide) (Or.inr (by omega)), h.vers.ver k hk2]
      simp [List.getElem_append_left hk2]
    · have hke : k = T.vers.length := by simp at hk; omega
      subst hke
      rw [new]; simp
  · rcases List.mem_append.1 hv' with h9 | h9
    · exact h.vers.ok v h9
    · rw [List.mem_singleton.1 h9]; exact hv
  · show _ = (verOf (T.vers ++ [(eff, sortV vs)]) i).map _
    rw [verOf_snoc _ _ _ hi]
    by_cases he : i = (T.vers.length : Int) + 1
    · subst he
      rw [new, if_pos rfl]; rfl
    · rw [oth _ _ (by decide) hi (by decide) (Or.inr he), if_neg he]; exact h.verall i hi
  · rcases List.mem_append.1 hv' with h9 | h9
    · exact h.vb v h9 x hx
    · rw [List.mem_singleton.1 h9] at hx
      exact hb x ((sortL_perm ltV vs).mem_iff.1 hx)
  · rw [oth _ _ (by decide) hi (by decide) (Or.inl (by decide))]; exact h.site i hi
  · rw [oth _ _ (by decide) hi (by decide) (Or.inl (by decide))]; exact h.sub i hi

end Go.Proofs.Qxb6500665aDoor
