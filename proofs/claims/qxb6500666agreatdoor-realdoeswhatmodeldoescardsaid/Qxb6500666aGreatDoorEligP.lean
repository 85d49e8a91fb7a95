/- EligibilityIsThePredicate: plain. -/
import Derived.Test.Qxb6500666aGreatDoorAskB
import Derived.Test.Qxb6500666aGreatDoorHoldP
namespace Go.Proofs.Qxb6500666aGreatDoor
open Go.RowKit

section
variable {α : Type}
theorem swap_perm (xs : List α) (j : Nat) (h : j + 1 < xs.length) : ((xs.set (j + 1) xs[j]).set j xs[j + 1]).Perm xs := by
  induction xs generalizing j with
  | nil => simp at h
  | cons x r ih =>
    cases j with
    | zero =>
      cases r with
      | nil => simp at h
      | cons y r => simp; exact List.Perm.swap x y r
    | succ j =>
      simp only [List.set_cons_succ, List.getElem_cons_succ]
      exact (ih j (by simpa using h)).cons x
theorem sink_perm (lt : α → α → Bool) : ∀ (j : Nat) (xs : List α), (sink lt j xs).Perm xs
  | 0, xs => List.Perm.refl _
  | j + 1, xs => by
    by_cases h : j + 1 < xs.length
    · cases hl : lt xs[j + 1] xs[j] with
      | true => rw [sink_hit lt h hl]; exact (sink_perm lt j _).trans (swap_perm xs j h)
      | false => rw [sink_miss lt h hl]
    · unfold sink
      rw [List.getElem?_eq_none (by omega)]
theorem sortFrom_perm (lt : α → α → Bool) : ∀ (c i : Nat) (xs : List α), (sortFrom lt c i xs).Perm xs
  | 0, _, _ => List.Perm.refl _
  | c + 1, i, xs => (sortFrom_perm lt c (i + 1) _).trans (sink_perm lt i xs)
theorem sortL_perm (lt : α → α → Bool) (xs : List α) : (sortL lt xs).Perm xs := sortFrom_perm lt _ _ xs

theorem findI_nn (p : α → Bool) : ∀ (l : List α) (k : Nat), 0 ≤ findI p k l ↔ ∃ x ∈ l, p x = true
  | [], k => by simp [findI]
  | x :: r, k => by
    by_cases hx : p x = true
    · simp [findI, hx]
    · rw [findI, if_neg hx, findI_nn p r (k + 1)]
      simp [hx]
theorem upAt_map {β : Type} (g : α → β) (l : List α) (q : Int) (f : α → α) (h : ∀ x, g (f x) = g x) : (upAt l q f).map g = l.map g := by
  unfold upAt
  split
  · rename_i y hy
    rw [List.map_set, h]
    have : (l.map g)[q.toNat]? = some (g y) := by simp [hy]
    obtain ⟨hlt, he⟩ := List.getElem?_eq_some_iff.1 this
    rw [← he]
    exact List.set_getElem_self _
  · rfl
end

def resKey (x : Res) : Int × Int := (x.sample, x.analyte)
/-- The results on record: one a key, each of a sample on record. -/
structure SU (T : Sm) : Prop where
  nd : (T.rs.map resKey).Nodup
  on : ∀ k ∈ T.rs.map resKey, k.1 ∈ T.ss.map (·.id)
theorem SU.of {T T' : Sm} (h : SU T) (h1 : T'.rs.map resKey = T.rs.map resKey) (h2 : T'.ss.map (·.id) = T.ss.map (·.id)) : SU T' := ⟨by rw [h1]; exact h.nd, by rw [h1, h2]; exact h.on⟩
theorem accession_u {T : Sm} (h : SU T) (x : Smp) : SU (accession T x).1 := by
  unfold accession
  repeat' split
  all_goals first
    | exact h
    | exact ⟨h.nd, fun k hk => by
        have := h.on k hk
        simp only [List.map_append, List.mem_append]
        exact Or.inl this⟩
theorem excursion_u {T : Sm} (h : SU T) (id : Int) : SU (excursion T id).1 := by
  unfold excursion
  repeat' split
  all_goals first | exact h | exact h.of rfl (upAt_map _ _ _ _ fun _ => rfl)
theorem collection_u {T : Sm} (h : SU T) (id at' : Int) : SU (collection T id at').1 := by
  unfold collection
  repeat' split
  all_goals first | exact h | exact h.of rfl (upAt_map _ _ _ _ fun _ => rfl)
theorem enterR_u {T : Sm} (h : SU T) (s a v t : Int) : SU (enterR T s a v t).1 := by
  unfold enterR
  split
  · exact h
  · split
    · exact h
    · split
      · exact h
      · rename_i h3
        split
        · exact h
        · rename_i h4
          have e3 : 0 ≤ sIdx T.ss s := by simpa using h3
          have e4 : ¬ 0 ≤ rIdx T.rs s a := by simpa using h4
          obtain ⟨y, y1, y2⟩ := (findI_nn _ _ _).1 e3
          refine ⟨?_, fun k hk => ?_⟩
          · rw [List.map_append]
            refine List.nodup_append.2 ⟨h.nd, by simp, fun k hk k' hk' e => e4 ((findI_nn _ _ _).2 ?_)⟩
            obtain ⟨z, z1, z2⟩ := List.mem_map.1 hk
            simp only [List.map_cons, List.map_nil, List.mem_singleton] at hk'
            refine ⟨z, z1, ?_⟩
            have e5 : resKey z = resKey ⟨s, a, 1, v, t, false⟩ := by rw [z2, e, hk']
            simp only [resKey, Prod.mk.injEq] at e5
            simp [e5.1, e5.2]
          · rw [List.map_append] at hk
            rcases List.mem_append.1 hk with q | q
            · exact h.on k q
            · simp only [List.map_cons, List.map_nil, List.mem_singleton] at q
              rw [q]
              exact List.mem_map.2 ⟨y, y1, by simpa [resKey] using y2⟩
theorem correctR_u {T : Sm} (h : SU T) (s a v : Int) : SU (correctR T s a v).1 := by
  unfold correctR
  repeat' split
  all_goals first | exact h | exact h.of (upAt_map _ _ _ _ fun _ => rfl) rfl
theorem withdrawR_u {T : Sm} (h : SU T) (s a : Int) : SU (withdrawR T s a).1 := by
  unfold withdrawR
  repeat' split
  all_goals first | exact h | exact h.of (upAt_map _ _ _ _ fun _ => rfl) rfl
theorem raiseQ_u {T : Sm} (h : SU T) (id s : Int) : SU (raiseQ T id s).1 := by
  unfold raiseQ
  repeat' split
  all_goals exact h.of rfl rfl
theorem moveQ_u {T : Sm} (h : SU T) (id a b : Int) : SU (moveQ T id a b).1 := by
  unfold moveQ
  repeat' split
  all_goals exact h.of rfl rfl
def SUR (R : HR) : Prop := SU R.low.sm
theorem handR_u {ps : List KV} {L : Low} {s : Stat} {r : Req} (h : SU L.sm) : SU (handR ps L s r).low.sm := by
  show SUR (handR ps L s r)
  unfold handR
  have z : ∀ (c : Int) (st : Stat) (i : Int) (ws : List WR), SUR ⟨c, st, i, ws, L⟩ := fun _ _ _ _ => h
  have y : ∀ (c : Int) (st : Stat) (i : Int) (ws : List WR) (L' : Low), L'.sm = L.sm → SUR ⟨c, st, i, ws, L'⟩ := fun _ _ _ _ L' e => (show SU L'.sm from e ▸ h)
  refine ite_p (P := SUR) (z _ _ _ _) (ite_p (P := SUR) (z _ _ _ _) ?_)
  refine ite_p (P := SUR) (y _ _ _ _ _ rfl) (ite_p (P := SUR) (y _ _ _ _ _ rfl) (ite_p (P := SUR) (y _ _ _ _ _ rfl) (ite_p (P := SUR) (y _ _ _ _ _ rfl) ?_)))
  refine ite_p (P := SUR) (y _ _ _ _ _ rfl) (ite_p (P := SUR) (y _ _ _ _ _ rfl) ?_)
  refine ite_p (P := SUR) (accession_u h _) (ite_p (P := SUR) (excursion_u h _) (ite_p (P := SUR) (collection_u h _ _) (ite_p (P := SUR) (enterR_u h _ _ _ _) ?_)))
  refine ite_p (P := SUR) (correctR_u h _ _ _) (ite_p (P := SUR) (withdrawR_u h _ _) (ite_p (P := SUR) (raiseQ_u h _ _) ?_))
  exact ite_p (P := SUR) (moveQ_u h _ _ _) (ite_p (P := SUR) (moveQ_u h _ _ _) (ite_p (P := SUR) (moveQ_u h _ _ _) (ite_p (P := SUR) (z _ _ _ _) (z _ _ _ _))))
theorem cmdR_u {ps : List KV} {full : Bool} {off lar : Int} {L : Low} {r : Req} {role : Int} (h : SU L.sm) : SU (cmdR ps full off lar L r role).low.sm := by
  unfold cmdR
  split
  · exact h
  · split
    · exact h
    · split
      · exact h
      · split
        · exact h
        · unfold cmdH
          split
          · unfold endR
            split
            · exact h
            · exact handR_u h
          · exact h
theorem stepR_u {t : ST} {o : Op} (h : SU t.low.sm) : SU (stepR t o).low.sm := by
  unfold stepR
  split
  · unfold exR
    split
    · exact h
    · split
      · exact h
      · split
        · exact h
        · exact cmdR_u h
  · split <;> exact h
theorem su_all (s : List Op) : ∀ q, q ≤ s.length → SU (stAt s q).low.sm
  | 0, _ => ⟨List.Pairwise.nil, fun _ h => by cases h⟩
  | q + 1, hq => by
    rw [stAt_succ (by omega)]
    exact stepR_u (su_all s q (by omega))

theorem SU.get {T : Sm} (h : SU T) {r : Res} (hr : r ∈ T.rs) : resGet T r.sample r.analyte = some r := by
  unfold resGet
  have h0 : 0 ≤ rIdx T.rs r.sample r.analyte := (findI_nn _ _ _).2 ⟨r, hr, by simp⟩
  rw [if_neg (by omega)]
  rcases findI_cases (fun x : Res => (x.sample == r.sample) && (x.analyte == r.analyte)) T.rs with e | ⟨q, hq, e, hp⟩
  · unfold rIdx at h0; omega
  · have e' : rIdx T.rs r.sample r.analyte = q := e
    rw [e', Int.toNat_natCast, List.getElem?_eq_getElem hq]
    obtain ⟨i, hi, ei⟩ := List.mem_iff_getElem.1 hr
    have hk : resKey T.rs[q] = resKey T.rs[i] := by
      rw [ei]
      simp only [Bool.and_eq_true, beq_iff_eq] at hp
      simp only [resKey, Prod.mk.injEq]
      exact hp
    have hn := List.pairwise_iff_getElem.1 h.nd
    have hqi : q = i := by
      rcases Nat.lt_trichotomy q i with l | l | l
      · exact absurd (by rw [List.getElem_map, List.getElem_map]; exact hk) (hn q i (by simpa using hq) (by simpa using hi) l)
      · exact l
      · exact absurd (by rw [List.getElem_map, List.getElem_map]; exact hk.symm) (hn i q (by simpa using hi) (by simpa using hq) l)
    subst hqi
    rw [ei]
theorem SU.smp {T : Sm} (h : SU T) {r : Res} (hr : r ∈ T.rs) : ∃ s, smpGet T r.sample = some s := by
  have hm := h.on (resKey r) (List.mem_map.2 ⟨r, hr, rfl⟩)
  obtain ⟨y, y1, y2⟩ := List.mem_map.1 hm
  unfold smpGet
  have h0 : 0 ≤ sIdx T.ss r.sample := (findI_nn _ _ _).2 ⟨y, y1, by simpa [resKey] using y2⟩
  rw [if_neg (by omega)]
  rcases findI_cases (fun x : Smp => (x.id == r.sample)) T.ss with e | ⟨q, hq, e, hp⟩
  · unfold sIdx at h0; omega
  · have e' : sIdx T.ss r.sample = q := e
    rw [e', Int.toNat_natCast, List.getElem?_eq_getElem hq]
    exact ⟨_, rfl⟩

/-- The hold on one result, if there is any. -/
def heldOf (L : Low) (r : Res) : Option HeldR := match smpGet L.sm r.sample with
  | none => none
  | some s => if holdsOf L s r != 0 then some ⟨r.sample, r.analyte, holdsOf L s r⟩ else none
theorem heldGo_eq {L : Low} : ∀ (rs : List Res) (acc : List HeldR), (∀ x ∈ rs, ∃ s, smpGet L.sm x.sample = some s) → heldGo L rs acc = some (acc ++ rs.filterMap (heldOf L))
  | [], acc, _ => by simp [heldGo]
  | r :: rs, acc, h => by
    obtain ⟨s, hs⟩ := h r (by simp)
    have ih := fun a => heldGo_eq (L := L) rs a fun x hx => h x (by simp [hx])
    unfold heldGo
    rw [hs]
    dsimp only
    by_cases hz : (holdsOf L s r != 0) = true
    · rw [if_pos hz, ih]
      have e : heldOf L r = some ⟨r.sample, r.analyte, holdsOf L s r⟩ := by unfold heldOf; rw [hs]; dsimp only; rw [if_pos hz]
      simp [e]
    · rw [if_neg hz, ih]
      have e : heldOf L r = none := by unfold heldOf; rw [hs]; dsimp only; rw [if_neg hz]
      simp [e]
def heldL (L : Low) : List HeldR := sortL heldLt (L.sm.rs.filterMap (heldOf L))
theorem heldRs_eq {L : Low} (h : SU L.sm) : heldRs L = some (heldL L) := by
  unfold heldRs
  rw [heldGo_eq _ _ fun x hx => h.smp hx]
  rfl
theorem heldOf_key {L : Low} {r : Res} {y : HeldR} (h : heldOf L r = some y) : y.sample = r.sample ∧ y.analyte = r.analyte := by
  unfold heldOf at h
  split at h
  · cases h
  · split at h
    · injection h with h
      rw [← h]
      exact ⟨rfl, rfl⟩
    · cases h
/-- How often an item stands in a list. -/
def cntB (x : HeldR) (l : List HeldR) : Nat := l.countP fun y => (y.sample == x.sample) && (y.analyte == x.analyte) && (y.holds == x.holds)
theorem held_eta (x y : HeldR) : ((y.sample == x.sample) && (y.analyte == x.analyte) && (y.holds == x.holds)) = true ↔ y = x := by
  obtain ⟨a, b, c⟩ := x
  obtain ⟨d, e, f⟩ := y
  simp [and_assoc]
theorem cnt_one {x : HeldR} : ∀ l : List HeldR, l.Nodup → x ∈ l → cntB x l = 1
  | [], _, h => by cases h
  | y :: t, hn, h => by
    obtain ⟨n1, n2⟩ := List.nodup_cons.1 hn
    unfold cntB
    rw [List.countP_cons]
    by_cases e : y = x
    · have z : t.countP (fun y => (y.sample == x.sample) && (y.analyte == x.analyte) && (y.holds == x.holds)) = 0 := by
        rw [List.countP_eq_zero]
        intro a ha q
        rw [held_eta] at q
        exact n1 (by rw [e, ← q]; exact ha)
      rw [z, if_pos ((held_eta _ _).2 e)]
    · have ih := cnt_one t n2 (by rcases List.mem_cons.1 h with q | q
                                  · exact absurd q.symm e
                                  · exact q)
      unfold cntB at ih
      rw [ih, if_neg (fun q => e ((held_eta _ _).1 q))]
theorem heldL_nd {L : Low} (h : SU L.sm) : (L.sm.rs.filterMap (heldOf L)).Nodup := by
  refine List.pairwise_filterMap.2 (List.Pairwise.imp ?_ (List.pairwise_map.1 h.nd))
  intro a b hab x hx y hy e
  have k1 := heldOf_key hx
  have k2 := heldOf_key hy
  refine hab ?_
  simp only [resKey, Prod.mk.injEq]
  rw [← k1.1, ← k1.2, e]
  exact k2
theorem heldL_one {L : Low} (h : SU L.sm) {r : Res} (hr : r ∈ L.sm.rs) {s : Smp} (hs : smpGet L.sm r.sample = some s) (hz : holdsOf L s r ≠ 0) : cntB ⟨r.sample, r.analyte, holdsOf L s r⟩ (heldL L) = 1 := by
  have e : heldOf L r = some ⟨r.sample, r.analyte, holdsOf L s r⟩ := by unfold heldOf; rw [hs]; dsimp only; rw [if_pos (by simpa using hz)]
  have hp := sortL_perm heldLt (L.sm.rs.filterMap (heldOf L))
  unfold heldL
  unfold cntB
  rw [hp.countP_eq]
  exact cnt_one _ (heldL_nd h) (List.mem_filterMap.2 ⟨r, hr, e⟩)
theorem heldL_len (L : Low) : (heldL L).length ≤ L.sm.rs.length := by
  unfold heldL
  rw [(sortL_perm heldLt _).length_eq]
  exact List.length_filterMap_le _ _
theorem cntB_take {x : HeldR} {l : List HeldR} {j : Nat} (h : j < l.length) : cntB x (l.take (j + 1)) = cntB x (l.take j) + if ((l[j].sample == x.sample) && (l[j].analyte == x.analyte) && (l[j].holds == x.holds)) = true then 1 else 0 := by
  unfold cntB
  rw [List.take_succ_eq_append_getElem h, List.countP_append]
  simp [List.countP_cons]
theorem cntB_le (x : HeldR) (l : List HeldR) : cntB x l ≤ l.length := List.countP_le_length
/-- How many of the first q results are held. -/
def heldN (L : Low) (q : Nat) : Nat := ((L.sm.rs.take q).filterMap (heldOf L)).length
theorem heldN_le (L : Low) (q : Nat) : heldN L q ≤ q := by
  unfold heldN
  have h1 := List.length_filterMap_le (heldOf L) (L.sm.rs.take q)
  have h2 : (L.sm.rs.take q).length ≤ q := by rw [List.length_take]; exact Nat.min_le_left _ _
  omega
theorem heldN_all (L : Low) : heldN L L.sm.rs.length = (heldL L).length := by
  unfold heldN heldL
  rw [List.take_length, (sortL_perm heldLt _).length_eq]
theorem heldN_succ {L : Low} {q : Nat} (h : q < L.sm.rs.length) {s : Smp} (hs : smpGet L.sm L.sm.rs[q].sample = some s) : heldN L (q + 1) = heldN L q + if holdsOf L s L.sm.rs[q] = 0 then 0 else 1 := by
  unfold heldN
  rw [List.take_succ_eq_append_getElem h, List.filterMap_append, List.length_append]
  congr 1
  by_cases hz : holdsOf L s L.sm.rs[q] = 0
  · have e : heldOf L L.sm.rs[q] = none := by unfold heldOf; rw [hs]; dsimp only; rw [if_neg (by simp [hz])]
    simp [e, hz]
  · have e : heldOf L L.sm.rs[q] = some ⟨L.sm.rs[q].sample, L.sm.rs[q].analyte, holdsOf L s L.sm.rs[q]⟩ := by unfold heldOf; rw [hs]; dsimp only; rw [if_pos (by simpa using hz)]
    simp [e, hz]

end Go.Proofs.Qxb6500666aGreatDoor
