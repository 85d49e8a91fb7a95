/- CorrectionGivesNewRowVersion: plain. The law's maps follow the results on record; what is pending, and what is issued, shows the last form. -/
import Derived.Test.Qxb6500666aGreatDoorLowV
namespace Go.Proofs.Qxb6500666aGreatDoor
open Go.RowKit

/-- A function of two places changed at one pair. -/
def upd2 {α : Type} (f : Int → Int → α) (s a : Int) (v : α) : Int → Int → α := fun x y => if x = s ∧ y = a then v else f x y
theorem upd2_same {α : Type} (f : Int → Int → α) (s a : Int) (v : α) : upd2 f s a v s a = v := by simp [upd2]
theorem upd2_other {α : Type} (f : Int → Int → α) {s a x y : Int} (v : α) (h : ¬ (x = s ∧ y = a)) : upd2 f s a v x y = f x y := by simp only [upd2, if_neg h]
/-- The law's maps hold every result's version and value. -/
def CV (rs : List Res) (vf lf : Int → Int → Option Int) : Prop := ∀ r ∈ rs, vf r.sample r.analyte = some r.version ∧ lf r.sample r.analyte = some r.value
def corV (r : Req) (vf : Int → Int → Option Int) : Int → Int → Option Int := if r.kind = 12 then upd2 vf r.id r.ref (some 1) else if r.kind = 13 then upd2 vf r.id r.ref (some (((vf r.id r.ref).getD 0 + 1) % 4294967296)) else vf
def corL (r : Req) (lf : Int → Int → Option Int) : Int → Int → Option Int := if r.kind = 12 then upd2 lf r.id r.ref (some r.value) else if r.kind = 13 then upd2 lf r.id r.ref (some r.value) else lf
/-- Every result is still there; its version has not sunk. -/
def Older (rs rs' : List Res) : Prop := ∀ r ∈ rs, ∃ r' ∈ rs', r'.sample = r.sample ∧ r'.analyte = r.analyte ∧ r.version ≤ r'.version
theorem Older.refl (rs : List Res) : Older rs rs := fun r hr => ⟨r, hr, rfl, rfl, Int.le_refl _⟩
theorem upAt_older {rs : List Res} {q : Int} {f : Res → Res} (h : ∀ x ∈ rs, (f x).sample = x.sample ∧ (f x).analyte = x.analyte ∧ x.version ≤ (f x).version) : Older rs (upAt rs q f) := by
  intro r hr
  unfold upAt
  split
  · rename_i y hy
    obtain ⟨i, hi, e⟩ := List.mem_iff_getElem.1 hr
    obtain ⟨hq, hy⟩ := List.getElem?_eq_some_iff.1 hy
    by_cases hqi : q.toNat = i
    · subst hqi
      have e2 : y = r := by rw [← hy, e]
      subst e2
      have := h y hr
      exact ⟨f y, List.mem_set hq _, this.1, this.2.1, this.2.2⟩
    · refine ⟨r, ?_, rfl, rfl, Int.le_refl _⟩
      refine List.mem_iff_getElem.2 ⟨i, by simpa using hi, ?_⟩
      rw [List.getElem_set_ne hqi]
      exact e
  · exact ⟨r, hr, rfl, rfl, Int.le_refl _⟩
theorem cv_same {rs rs' : List Res} {vf lf : Int → Int → Option Int} (h : CV rs vf lf) (hs : ∀ r' ∈ rs', ∃ r ∈ rs, r'.sample = r.sample ∧ r'.analyte = r.analyte ∧ r'.version = r.version ∧ r'.value = r.value) : CV rs' vf lf := fun r' hr' => by
  obtain ⟨r, hr, e1, e2, e3, e4⟩ := hs r' hr'
  rw [e1, e2, e3, e4]
  exact h r hr
theorem rIdx_hit {rs : List Res} {s a : Int} (h : 0 ≤ rIdx rs s a) : ∃ q, ∃ hq : q < rs.length, rIdx rs s a = (q : Int) ∧ rs[q].sample = s ∧ rs[q].analyte = a := by
  rcases findI_cases (fun x : Res => (x.sample == s) && (x.analyte == a)) rs with e | ⟨q, hq, e, hp⟩
  · unfold rIdx at h; omega
  · refine ⟨q, hq, e, ?_⟩
    simpa using hp
theorem enterR_ok {T : Sm} {s a v t : Int} (h : (enterR T s a v t).2 = 0) : enterR T s a v t = ({ T with rs := T.rs ++ [⟨s, a, 1, v, t, false⟩] }, 0) ∧ rIdx T.rs s a < 0 := by
  unfold enterR at h ⊢
  by_cases h1 : (a == 0) = true
  · rw [if_pos h1] at h; simp at h
  rw [if_neg h1] at h ⊢
  by_cases h2 : (! inCal t) = true
  · rw [if_pos h2] at h; simp at h
  rw [if_neg h2] at h ⊢
  by_cases h3 : decide (sIdx T.ss s < 0) = true
  · rw [if_pos h3] at h; simp at h
  rw [if_neg h3] at h ⊢
  by_cases h4 : decide (0 ≤ rIdx T.rs s a) = true
  · rw [if_pos h4] at h; simp at h
  rw [if_neg h4]
  exact ⟨rfl, by simpa using h4⟩
theorem correctR_ok {T : Sm} {s a v : Int} (h : (correctR T s a v).2 = 0) : correctR T s a v = ({ T with rs := upAt T.rs (rIdx T.rs s a) fun x => { x with value := v, version := (x.version + 1) % 4294967296 } }, 0) ∧ 0 ≤ rIdx T.rs s a := by
  unfold correctR at h ⊢
  by_cases h1 : decide (rIdx T.rs s a < 0) = true
  · rw [if_pos h1] at h; simp at h
  rw [if_neg h1] at h ⊢
  by_cases h2 : ((T.rs[(rIdx T.rs s a).toNat]?).map (·.wd)).getD false = true
  · rw [if_pos h2] at h; simp at h
  rw [if_neg h2]
  exact ⟨rfl, by simpa using h1⟩
/-- Results on record, one a key: what an accepted command does to them. -/
theorem res_step {n : Nat} (hn : n ≤ 1000000) {L : Low} {ps : List KV} {s : Stat} {r : Req} {vf lf : Int → Int → Option Int} (hu : SU L.sm) (hv : VI n L) (hc : (handR ps L s r).c = 0) (h : CV L.sm.rs vf lf) :
    CV (handR ps L s r).low.sm.rs (corV r vf) (corL r lf) ∧ Older L.sm.rs (handR ps L s r).low.sm.rs ∧ (r.kind = 13 → ∃ x ∈ L.sm.rs, ∃ x' ∈ (handR ps L s r).low.sm.rs, x.sample = r.id ∧ x.analyte = r.ref ∧ x'.sample = r.id ∧ x'.analyte = r.ref ∧ x'.version = x.version + 1) := by
  by_cases k12 : r.kind = 12
  · have e : handR ps L s r = ⟨(enterR L.sm r.id r.ref r.value r.time).2, s, 0, [], { L with sm := (enterR L.sm r.id r.ref r.value r.time).1 }⟩ := by unfold handR; simp [k12]
    rw [e] at hc ⊢
    dsimp only at hc ⊢
    have hc' := enterR_ok hc
    rw [hc'.1]
    dsimp only
    have hno : ∀ x ∈ L.sm.rs, ¬ (x.sample = r.id ∧ x.analyte = r.ref) := fun x hx q => by
      have : 0 ≤ rIdx L.sm.rs r.id r.ref := (findI_nn _ _ _).2 ⟨x, hx, by simp [q.1, q.2]⟩
      omega
    refine ⟨fun x hx => ?_, fun x hx => ⟨x, List.mem_append.2 (Or.inl hx), rfl, rfl, Int.le_refl _⟩, fun q => by rw [k12] at q; omega⟩
    unfold corV corL
    rw [if_pos k12, if_pos k12]
    rcases mem_snoc hx with q | q
    · rw [upd2_other _ _ (hno x q), upd2_other _ _ (hno x q)]
      exact h x q
    · rw [q]
      exact ⟨upd2_same _ _ _ _, upd2_same _ _ _ _⟩
  · by_cases k13 : r.kind = 13
    · have e : handR ps L s r = ⟨(correctR L.sm r.id r.ref r.value).2, s, 0, [], { L with sm := (correctR L.sm r.id r.ref r.value).1 }⟩ := by unfold handR; simp [k13]
      rw [e] at hc ⊢
      dsimp only at hc ⊢
      have hc' := correctR_ok hc
      rw [hc'.1]
      dsimp only
      obtain ⟨q, hq, e1, e2, e3⟩ := rIdx_hit hc'.2
      have hver := hv.sm.rs _ (List.getElem_mem hq)
      rw [e1, upAt_eq hq]
      have hcv := h _ (List.getElem_mem hq)
      rw [e2, e3] at hcv
      have hmod : (L.sm.rs[q].version + 1) % 4294967296 = L.sm.rs[q].version + 1 := by omega
      refine ⟨fun x hx => ?_, ?_, fun _ => ⟨_, List.getElem_mem hq, _, List.mem_set hq _, e2, e3, e2, e3, hmod⟩⟩
      · unfold corV corL
        rw [if_neg k12, if_neg k12, if_pos k13, if_pos k13, hcv.1, Option.getD_some]
        obtain ⟨i, hi, ei⟩ := List.mem_iff_getElem.1 hx
        have hi' : i < L.sm.rs.length := by simpa using hi
        by_cases hiq : q = i
        · subst hiq
          rw [List.getElem_set_self] at ei
          subst ei
          dsimp only
          rw [e2, e3, upd2_same, upd2_same]
          exact ⟨rfl, rfl⟩
        · rw [List.getElem_set_ne hiq] at ei
          have hne : ¬ (x.sample = r.id ∧ x.analyte = r.ref) := fun k => by
            have hnd := List.pairwise_iff_getElem.1 hu.nd
            have hkk : resKey L.sm.rs[q] = resKey L.sm.rs[i] := by
              rw [ei]
              simp only [resKey, Prod.mk.injEq]
              exact ⟨by rw [e2, k.1], by rw [e3, k.2]⟩
            rcases Nat.lt_or_gt_of_ne hiq with l | l
            · exact hnd q i (by simpa using hq) (by simpa using hi') l (by simpa using hkk)
            · exact hnd i q (by simpa using hi') (by simpa using hq) l (by simpa using hkk.symm)
          rw [upd2_other _ _ hne, upd2_other _ _ hne]
          exact h x (by rw [← ei]; exact List.getElem_mem hi')
      · have := upAt_older (rs := L.sm.rs) (q := (q : Int)) (f := fun x => { x with value := r.value, version := (x.version + 1) % 4294967296 }) (fun x hx => ⟨rfl, rfl, by have := hv.sm.rs x hx; dsimp only; omega⟩)
        rwa [upAt_eq hq] at this
    · have hV : corV r vf = vf := by unfold corV; rw [if_neg k12, if_neg k13]
      have hL : corL r lf = lf := by unfold corL; rw [if_neg k12, if_neg k13]
      rw [hV, hL]
      have key : (handR ps L s r).low.sm.rs = L.sm.rs ∨ ∃ q, (handR ps L s r).low.sm.rs = upAt L.sm.rs q fun x => { x with wd := true } := by
        unfold handR
        let P : HR → Prop := fun R => R.low.sm.rs = L.sm.rs ∨ ∃ q, R.low.sm.rs = upAt L.sm.rs q fun x => { x with wd := true }
        have z : ∀ (c : Int) (st : Stat) (i : Int) (ws : List WR) (L' : Low), L'.sm.rs = L.sm.rs → P ⟨c, st, i, ws, L'⟩ := fun _ _ _ _ _ q => Or.inl q
        show P _
        iterate 8 refine ite_p (P := P) (z _ _ _ _ _ rfl) ?_
        refine ite_p (P := P) (z _ _ _ _ _ ?_) ?_
        · show (accession L.sm _).1.rs = L.sm.rs
          unfold accession
          repeat' split
          all_goals rfl
        refine ite_p (P := P) (z _ _ _ _ _ ?_) ?_
        · show (excursion L.sm _).1.rs = L.sm.rs
          unfold excursion
          repeat' split
          all_goals rfl
        refine ite_p (P := P) (z _ _ _ _ _ ?_) ?_
        · show (collection L.sm _ _).1.rs = L.sm.rs
          unfold collection
          repeat' split
          all_goals rfl
        refine ite_kp (P := P) (fun q => absurd q k12) (fun _ => ite_kp (P := P) (fun q => absurd q k13) (fun _ => ?_))
        refine ite_p (P := P) ?_ ?_
        · show (withdrawR L.sm _ _).1.rs = L.sm.rs ∨ _
          unfold withdrawR
          repeat' split
          all_goals first | exact Or.inl rfl | exact Or.inr ⟨_, rfl⟩
        refine ite_p (P := P) (z _ _ _ _ _ ?_) ?_
        · show (raiseQ L.sm _ _).1.rs = L.sm.rs
          unfold raiseQ
          repeat' split
          all_goals rfl
        have hm : ∀ a b, (moveQ L.sm r.id a b).1.rs = L.sm.rs := fun a b => by
          unfold moveQ
          repeat' split
          all_goals rfl
        exact ite_p (P := P) (z _ _ _ _ _ (hm _ _)) (ite_p (P := P) (z _ _ _ _ _ (hm _ _)) (ite_p (P := P) (z _ _ _ _ _ (hm _ _)) (ite_p (P := P) (z _ _ _ _ _ rfl) (z _ _ _ _ _ rfl))))
      refine ⟨?_, ?_, fun q => absurd q k13⟩
      · rcases key with e | ⟨q, e⟩ <;> rw [e]
        · exact h
        · refine cv_same h fun r' hr' => ?_
          rcases upAt_mem hr' with q | ⟨y, y1, rfl⟩
          · exact ⟨r', q, rfl, rfl, rfl, rfl⟩
          · exact ⟨y, y1, rfl, rfl, rfl, rfl⟩
      · rcases key with e | ⟨q, e⟩ <;> rw [e]
        · exact Older.refl _
        · exact upAt_older (fun x _ => ⟨rfl, rfl, Int.le_refl _⟩)

end Go.Proofs.Qxb6500666aGreatDoor
