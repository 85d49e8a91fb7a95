/- Real side and model give the same codes and answers: plain. -/
import Derived.Test.Qxb6500665aDoorScanLaw
import Derived.Test.Qxb6500665aDoorBench
import Derived.Test.Qxb6500665aDoorMStep6
import Derived.Test.Qxb6500665aDoorMStep5
import Derived.Test.Qxb6500665aDoorMStep4
import Derived.Test.Qxb6500665aDoorMStep3
import Derived.Test.Qxb6500665aDoorMStep2
import Derived.Test.Qxb6500665aDoorMStep1
namespace Go.Proofs.Qxb6500665aDoor
open Go.RowKit Go.Proofs.Qxb6500665aDoor.Cal

/-- What holds of every set-up that the commands build. -/
structure TOk (T : Tab) : Prop where
  asc : AscV T.vers
  nd : ∀ x ∈ T.vers, (x.2.map (·.id)).Nodup
  tg : ∀ x ∈ T.vers, x.2.Pairwise (fun a b => a.target < b.target)
  vb : ∀ x ∈ T.vers, ∀ y ∈ x.2, VB y
  len : ∀ x ∈ T.vers, x.2.length ≤ 12
  kn : ∀ x ∈ T.vers, ∀ y ∈ x.2, ∀ p ∈ y.panels, U32 p ∧ (T.pan p).isSome = true
  pl : ∀ x ∈ T.vers, ∀ y ∈ x.2, y.panels.length ≤ 6
  pan : ∀ k ids, T.pan k = some ids → ids.length ≤ 8
  sub : ∀ k s, T.sub k = some s → 0 ≤ s.2 ∧ s.2 ≤ 157785119

/-- The ascending list of those that P holds of. -/
noncomputable def ascOf (P : Int → Prop) : List Int := open Classical in if h : ∃ L : List Int, L.Pairwise (fun a b => a < b) ∧ ∀ x, x ∈ L ↔ P x then h.choose else []
theorem ascOf_eq {P : Int → Prop} {L : List Int} (h1 : L.Pairwise (fun a b => a < b)) (h2 : ∀ x, x ∈ L ↔ P x) : ascOf P = L := by
  have h : ∃ L : List Int, L.Pairwise (fun a b => a < b) ∧ ∀ x, x ∈ L ↔ P x := ⟨L, h1, h2⟩
  rw [ascOf, dif_pos h]
  exact strict_unique (fun x : Int => x) h.choose_spec.1 h1 (fun x => by rw [h.choose_spec.2, h2])

/-- What a step answers. -/
noncomputable def stepA (T : Tab) (full : Bool) (o : Op) : PA :=
  if o.kind = 1 then { code := mAn T full o.id o.l0 o.l1 o.l2 }
  else if o.kind = 2 then { code := mPan T full o.id o.list }
  else if o.kind = 3 then { code := mAm T full o.minute o.visits, num := amNum (mAm T full o.minute o.visits) T.vers.length }
  else if o.kind = 4 then { code := mSite T full o.id }
  else if o.kind = 5 then { code := mEnr T full o.id o.ref o.minute }
  else if o.kind = 6 then { code := (clsR T o.id o.ref o.minute).code, p0 := (clsR T o.id o.ref o.minute).num, p1 := (clsR T o.id o.ref o.minute).cls, p2 := (clsR T o.id o.ref o.minute).opens, p3 := (clsR T o.id o.ref o.minute).closes }
  else if o.kind = 7 then { code := (verAtR T o.minute).1, v0 := (verAtR T o.minute).2.1, v1 := (verAtR T o.minute).2.2.1, vis := (verAtR T o.minute).2.2.2 }
  else if o.kind = 8 then { code := (verR T o.id).1, v0 := (verR T o.id).2.1, v1 := (verR T o.id).2.2.1, vis := (verR T o.id).2.2.2 }
  else if o.kind = 9 then { code := (anR T o.id).1, a0 := (anR T o.id).2.1, a1 := (anR T o.id).2.2.1, a2 := (anR T o.id).2.2.2.1, a3 := (anR T o.id).2.2.2.2 }
  else if o.kind = 10 then { code := (panR T o.id).1, list := (panR T o.id).2.2 }
  else if o.kind = 11 then { code := (subR T o.id).1, s0 := (subR T o.id).2.1, s1 := (subR T o.id).2.2.1, s2 := (subR T o.id).2.2.2 }
  else if o.kind = 12 then { code := (limR T o.id (if 255 < o.ref then 0 else o.ref)).1, num := (limR T o.id (if 255 < o.ref then 0 else o.ref)).2 }
  else if o.kind = 13 then { code := (mtsR T o.ref o.minute).1, list := (mtsR T o.ref o.minute).2 }
  else if o.kind = 14 then { list := ascOf (fun x => U32 x ∧ T.site x = true) }
  else if o.kind = 15 then { list := ascOf (fun x => U32 x ∧ ∃ l, T.sub x = some l ∧ (o.ref = 0 ∨ l.1 = o.ref)) }
  else if o.kind = 16 then { code := (dayR o.minute).1, num := (dayR o.minute).2 }
  else if o.kind = 17 then { code := (addR o.minute o.delta).1, num := (addR o.minute o.delta).2 }
  else if o.kind = 18 then {}
  else if o.kind = 19 then {}
  else { code := 1 }

/-- What a step makes of the set-up. -/
def stepT (T : Tab) (full : Bool) (o : Op) : Tab :=
  if o.kind = 1 then mAnT T full o.id o.l0 o.l1 o.l2
  else if o.kind = 2 then mPanT T full o.id o.list
  else if o.kind = 3 then mAmT T full o.minute o.visits
  else if o.kind = 4 then mSiteT T full o.id
  else if o.kind = 5 then mEnrT T full o.id o.ref o.minute
  else T
def stepF (full : Bool) (o : Op) : Bool := if o.kind = 18 then decide (o.ref = 1) else full

theorem stepT_query {T : Tab} {full : Bool} {o : Op} (h : o.kind < 1 ∨ 5 < o.kind) : stepT T full o = T := by
  unfold stepT
  rw [if_neg (by omega), if_neg (by omega), if_neg (by omega), if_neg (by omega), if_neg (by omega)]
theorem stepF_other {full : Bool} {o : Op} (h : o.kind ≠ 18) : stepF full o = full := if_neg h

/-! The lists -/
theorem ddN_asc {S : List Int} (hs : S.Pairwise (fun a b => a ≤ b)) : ∀ i, i ≤ S.length → (ddN S i).Pairwise (fun a b => a < b) ∧ ∀ y, y ∈ ddN S i ↔ y ∈ S.take i
  | 0, _ => by simp [ddN]
  | i + 1, h => by
    obtain ⟨h1, h2⟩ := ddN_asc hs i (by omega)
    have hi : i < S.length := by omega
    have hgi : S[i]? = some S[i] := List.getElem?_eq_getElem hi
    have htk : S.take (i + 1) = S.take i ++ [S[i]] := List.take_succ_eq_append_getElem hi
    have hle := List.pairwise_iff_getElem.1 hs
    unfold ddN
    split
    · rename_i hc
      rw [hgi]
      refine ⟨?_, fun y => ?_⟩
      · rw [List.pairwise_append]
        refine ⟨h1, by simp, fun a ha b hb => ?_⟩
        have hb' : b = S[i] := by simpa using hb
        subst hb'
        obtain ⟨j, hj, rfl⟩ := List.mem_iff_getElem.1 ((h2 a).1 ha)
        have hj' : j < i := by simp at hj; omega
        rw [List.getElem_take]
        rcases hc with hc | hc
        · omega
        · have hgp : S[i - 1]? = some (S[i - 1]'(by omega)) := List.getElem?_eq_getElem (by omega)
          rw [hgi, hgp] at hc
          have hne : S[i] ≠ S[i - 1]'(by omega) := fun e => hc (by rw [e])
          have h3 := hle (i - 1) i (by omega) hi (by omega)
          by_cases hj1 : j = i - 1
          · subst hj1; omega
          · have h4 := hle j (i - 1) (by omega) (by omega) (by omega)
            omega
      · rw [htk, List.mem_append, List.mem_append, h2]; simp
    · rename_i hc
      refine ⟨h1, fun y => ?_⟩
      have hi0 : i ≠ 0 := fun e => hc (Or.inl e)
      have he : S[i]? = S[i - 1]? := Classical.byContradiction fun e => hc (Or.inr e)
      have hgp : S[i - 1]? = some (S[i - 1]'(by omega)) := List.getElem?_eq_getElem (by omega)
      rw [hgi, hgp] at he
      have he' : S[i] = S[i - 1]'(by omega) := Option.some.inj he
      rw [htk, List.mem_append, h2]
      refine ⟨Or.inl, fun hy => hy.elim id (fun hy => ?_)⟩
      have hy' : y = S[i] := by simpa using hy
      rw [hy', he', List.mem_take_iff_getElem]
      exact ⟨i - 1, by omega, rfl⟩

theorem dd_asc (all : List Int) : ddup (sortL ltN all) = ascL allK all := by
  have hs : (sortL ltN all).Pairwise (fun a b => a ≤ b) := by rw [ltN_key]; exact sortL_sorted (fun x : Int => x) all
  obtain ⟨h1, h2⟩ := ddN_asc hs _ (Nat.le_refl _)
  refine strict_unique (fun x : Int => x) h1 (ascL_strict allK all) (fun x => ?_)
  rw [ddup, h2, List.take_length, ascL_mem, (sortL_perm ltN all).mem_iff]
  simp [allK]

theorem gath_some {pan : Int → Option (List Int)} : ∀ {xs : List Int}, (∀ x ∈ xs, (pan x).isSome = true) → (∀ k ids, pan k = some ids → ids.length ≤ 8) → ∃ all, gath pan xs = some all ∧ all.length ≤ 8 * xs.length
  | [], _, _ => ⟨[], rfl, by simp⟩
  | x :: r, h, hp => by
    obtain ⟨b, h1, h2⟩ := gath_some (fun y hy => h y (List.mem_cons_of_mem _ hy)) hp
    cases hx : pan x with
    | none => have := h x (List.mem_cons_self ..); rw [hx] at this; cases this
    | some a =>
      refine ⟨a ++ b, by simp [gath, hx, h1], ?_⟩
      have := hp x a hx
      simp only [List.length_append, List.length_cons]
      omega

theorem tsT_eq {pan : Int → Option (List Int)} (vid : Int) (hp : ∀ k ids, pan k = some ids → ids.length ≤ 8) : ∀ {vs : List Visit}, (∀ y ∈ vs, (∀ p ∈ y.panels, (pan p).isSome = true) ∧ y.panels.length ≤ 6) → tsT pan vid vs = mtsT pan vid vs ∧ (mtsT pan vid vs).2.length ≤ 48
  | [], _ => ⟨rfl, by simp [mtsT]⟩
  | v :: r, h => by
    obtain ⟨h1, h2⟩ := tsT_eq vid hp (fun y hy => h y (List.mem_cons_of_mem _ hy))
    simp only [tsT, mtsT]
    by_cases hv : v.id = vid
    · rw [if_pos hv, if_pos hv]
      obtain ⟨k1, k2⟩ := h v (List.mem_cons_self ..)
      obtain ⟨all, g1, g2⟩ := gath_some k1 hp
      rw [tsList, g1]
      refine ⟨by simp only [Option.getD_some, dd_asc], ?_⟩
      have := ascL_len allK all
      show (ascL allK all).length ≤ 48
      omega
    · rw [if_neg hv, if_neg hv]
      exact ⟨h1, h2⟩

theorem tsR_eq {T : Tab} (h : TOk T) (vid m : Int) : tsR T vid m = mtsR T vid m ∧ (mtsR T vid m).2.length ≤ 48 := by
  unfold tsR mtsR verAtR
  by_cases hm : m < 0 ∨ 157785119 < m
  · rw [if_pos hm, if_pos hm]
    exact ⟨rfl, by simp⟩
  · rw [if_neg hm, if_neg hm]
    cases hk : inF T.vers m with
    | none => exact ⟨rfl, by simp⟩
    | some k =>
      have hkl := inFrom_lt hk
      have hmem : T.vers[k]?.getD (0, []) ∈ T.vers := by rw [List.getElem?_eq_getElem hkl]; exact List.getElem_mem hkl
      exact tsT_eq vid h.pan (fun y hy => ⟨fun p hp => (h.kn _ hmem y hy p hp).2, h.pl _ hmem y hy⟩)

/-! The codes -/
theorem anErr_eq {ps : List KV} {T : Tab} (hr : Rep ps T) {full : Bool} {id l0 l1 l2 : Int} (hid : U32 id) : anErr ps full id l0 l1 l2 = mAn T full id l0 l1 l2 := by
  unfold anErr mAn
  rw [hr.an id hid, Option.isSome_map]
theorem siteErr_eq {ps : List KV} {T : Tab} (hr : Rep ps T) {full : Bool} {id : Int} (hid : U32 id) : siteErr ps full id = mSite T full id := by
  unfold siteErr mSite
  rw [hr.site id hid]
  cases T.site id <;> simp
theorem panErr_eq {ps : List KV} {T : Tab} (hr : Rep ps T) {full : Bool} {id : Int} {ids : List Int} (hid : U32 id) (hx : ∀ x ∈ ids, U32 x) : panErr ps full id ids = mPan T full id ids := by
  unfold panErr mPan
  rw [hr.pan.get id hid, Option.isSome_map]
  have : ids.all (fun x => (getB ps (keyB 97 x)).isSome) = ids.all (fun x => (T.an x).isSome) := by
    rw [Bool.eq_iff_iff, List.all_eq_true, List.all_eq_true]
    exact ⟨fun h x hm => by have := h x hm; rwa [hr.an x (hx x hm), Option.isSome_map] at this, fun h x hm => by rw [hr.an x (hx x hm), Option.isSome_map]; exact h x hm⟩
  rw [this]
theorem enrErr_eq {ps : List KV} {T : Tab} (hr : Rep ps T) {full : Bool} {id site anchor : Int} (hid : U32 id) (hs : U32 site) : enrErr ps T.vers full id site anchor = mEnr T full id site anchor := by
  unfold enrErr mEnr
  rw [hr.sub id hid, Option.isSome_map, hr.site site hs]
  cases T.site site <;> simp
theorem vb_of {v : Visit} (h : visErr v = 0) : VB v := by
  obtain ⟨-, h1, h2, h3, h4, h5, h6, -⟩ := visErr_ok h
  exact ⟨h1, h2, h3, h4, h5, h6⟩
theorem amErr_eq {ps : List KV} {T : Tab} (hr : Rep ps T) {full : Bool} {eff : Int} {vs : List Visit} (hv : ∀ v ∈ vs, v.Ok) : amErr ps T.vers full eff vs = mAm T full eff vs := by
  unfold amErr mAm
  by_cases h1 : eff < 0 ∨ 157785119 < eff
  · rw [if_pos h1, if_pos h1]
  rw [if_neg h1, if_neg h1]
  by_cases h2 : vs.length = 0 ∨ 12 < vs.length
  · rw [if_pos h2, if_pos h2]
  rw [if_neg h2, if_neg h2]
  by_cases h3 : firstErr vs ≠ 0
  · rw [if_pos h3, if_pos h3]
  rw [if_neg h3, if_neg h3]
  have h3' : ∀ v ∈ vs, visErr v = 0 := firstErr_all (Classical.byContradiction h3)
  have hle : listErr (vs.map (·.id)) 12 = if (vs.map (·.id)).Nodup then 0 else 8 := by
    unfold listErr
    rw [List.length_map, if_neg h2]
  by_cases h4 : (vs.map (·.id)).Nodup
  · rw [hle, if_pos h4, if_neg (show ¬ (0 : Int) ≠ 0 by simp), if_neg (show ¬ ¬ (vs.map (·.id)).Nodup from fun e => e h4)]
    by_cases h5 : NoLap vs
    · have h5' := (laps_false_iff (fun v hm => vb_of (h3' v hm))).2 h5
      rw [h5', if_neg (show ¬ false = true by simp), if_neg (show ¬ ¬ NoLap vs from fun e => e h5)]
      have hk : known ps vs = knownT T vs := by
        unfold known knownT
        rw [Bool.eq_iff_iff, List.all_eq_true, List.all_eq_true]
        have : ∀ v ∈ vs, (v.panels.all fun x => (getB ps (keyB 112 x)).isSome) = v.panels.all fun x => (T.pan x).isSome := fun v hm => by
          rw [Bool.eq_iff_iff, List.all_eq_true, List.all_eq_true]
          exact ⟨fun h x hx => by have := h x hx; rwa [hr.pan.get x ((hv v hm).panels x hx), Option.isSome_map] at this, fun h x hx => by rw [hr.pan.get x ((hv v hm).panels x hx), Option.isSome_map]; exact h x hx⟩
        exact ⟨fun h v hm => by rw [← this v hm]; exact h v hm, fun h v hm => by rw [this v hm]; exact h v hm⟩
      rw [hk]
      cases knownT T vs <;> simp
    · have h5' : laps (sortV vs) = true := by
        cases hl : laps (sortV vs) with
        | true => rfl
        | false => exact absurd ((laps_false_iff (fun v hm => vb_of (h3' v hm))).1 hl) h5
      rw [h5', if_pos rfl, if_pos h5]
  · rw [hle, if_neg h4, if_pos (by decide), if_pos h4]

/-! The invariant -/
theorem mAm_zero {T : Tab} {full : Bool} {eff : Int} {vs : List Visit} (h : mAm T full eff vs = 0) : (∀ v ∈ vs, visErr v = 0) ∧ vs.length ≤ 12 ∧ (vs.map (·.id)).Nodup ∧ NoLap vs ∧ knownT T vs = true ∧ (T.vers.length ≠ 0 → lastEff T.vers < eff) := by
  unfold mAm at h
  split at h
  · cases h
  split at h
  · cases h
  split at h
  · rename_i h3; exact absurd h h3
  split at h
  · cases h
  split at h
  · cases h
  split at h
  · cases h
  split at h
  · cases h
  rename_i h1 h2 h3 h4 h5 h6 h7
  refine ⟨firstErr_all (Classical.byContradiction h3), by omega, Classical.byContradiction h4, Classical.byContradiction h5, by simpa using h6, fun hn => by omega⟩

theorem TOk.keep {T T' : Tab} (h : TOk T) (hv : T'.vers = T.vers) (hp : ∀ k ids, T'.pan k = some ids → ids.length ≤ 8) (hpk : ∀ k, (T.pan k).isSome = true → (T'.pan k).isSome = true) (hs : ∀ k s, T'.sub k = some s → 0 ≤ s.2 ∧ s.2 ≤ 157785119) : TOk T' := by
  refine ⟨?_, ?_, ?_, ?_, ?_, ?_, ?_, hp, hs⟩ <;> rw [hv]
  · exact h.asc
  · exact h.nd
  · exact h.tg
  · exact h.vb
  · exact h.len
  · exact fun x hx y hy p hpp => ⟨(h.kn x hx y hy p hpp).1, hpk p (h.kn x hx y hy p hpp).2⟩
  · exact h.pl

theorem lastEff_max {vers : List Ver} (h : AscV vers) {x : Ver} (hx : x ∈ vers) : x.1 ≤ lastEff vers := by
  obtain ⟨i, hi, rfl⟩ := List.mem_iff_getElem.1 hx
  have hl : vers.length - 1 < vers.length := by omega
  have : lastEff vers = vers[vers.length - 1].1 := by rw [lastEff, List.getElem?_eq_getElem hl]; rfl
  rw [this]
  by_cases he : i = vers.length - 1
  · subst he; exact Int.le_refl _
  · exact Int.le_of_lt (h i (vers.length - 1) hl (by omega))

theorem TOk.step {T : Tab} (h : TOk T) (full : Bool) {o : Op} (ho : o.Ok) : TOk (stepT T full o) := by
  unfold stepT
  split
  · unfold mAnT
    split
    · exact h.keep rfl h.pan (fun _ hk => hk) h.sub
    · exact h
  split
  · unfold mPanT
    split
    · rename_i hz
      refine h.keep rfl (fun k ids hk => ?_) (fun k hk => ?_) h.sub
      · simp only [upd] at hk
        split at hk
        · cases hk
          unfold mPan at hz
          split at hz
          · cases hz
          split at hz
          · rename_i h2; exact absurd hz h2
          rename_i h2
          exact (listErr_zero (Classical.byContradiction h2)).2
        · exact h.pan k ids hk
      · simp only [upd]
        split
        · rfl
        · exact hk
    · exact h
  split
  · unfold mAmT
    split
    · rename_i hz
      obtain ⟨a1, a2, a3, a4, a5, a6⟩ := mAm_zero hz
      have hso : ∀ x ∈ sortV o.visits, x ∈ o.visits := fun x hx => (sortL_perm ltV o.visits).mem_iff.1 hx
      have hall : ∀ {P : Ver → Prop}, (∀ x ∈ T.vers, P x) → P (o.minute, sortV o.visits) → ∀ x ∈ T.vers ++ [(o.minute, sortV o.visits)], P x := fun h1 h2 x hx => by
        rcases List.mem_append.1 hx with hx | hx
        · exact h1 x hx
        · rw [List.mem_singleton.1 hx]; exact h2
      refine ⟨?_, hall h.nd ?_, hall h.tg ?_, hall h.vb ?_, hall h.len ?_, hall h.kn ?_, hall h.pl ?_, h.pan, h.sub⟩
      · intro i j hj hi
        simp only [List.length_append, List.length_singleton] at hj
        by_cases hjl : j < T.vers.length
        · simp only [List.getElem_append_left hjl, List.getElem_append_left (Nat.lt_trans hi hjl)]
          exact h.asc i j hjl hi
        · have hje : j = T.vers.length := by omega
          subst hje
          simp only [List.getElem_append_left hi, List.getElem_concat_length]
          have h1 := lastEff_max h.asc (List.getElem_mem hi)
          have h2 := a6 (by omega)
          omega
      · exact ((sortL_perm ltV o.visits).map (·.id)).nodup_iff.2 a3
      · exact sortV_strict (fun v hv => vb_of (a1 v hv)) a4
      · exact fun y hy => vb_of (a1 y (hso y hy))
      · show (sortL ltV o.visits).length ≤ 12
        rw [(sortL_perm ltV o.visits).length_eq]; exact a2
      · intro y hy p hp
        refine ⟨(ho.visits y (hso y hy)).panels p hp, ?_⟩
        unfold knownT at a5
        rw [List.all_eq_true] at a5
        have := a5 y (hso y hy)
        rw [List.all_eq_true] at this
        exact this p hp
      · exact fun y hy => (visErr_ok (a1 y (hso y hy))).2.2.2.2.2.2.2
    · exact h
  split
  · unfold mSiteT
    split
    · exact h.keep rfl h.pan (fun _ hk => hk) h.sub
    · exact h
  split
  · unfold mEnrT
    split
    · rename_i hz
      refine h.keep rfl h.pan (fun _ hk => hk) (fun k s hk => ?_)
      simp only [upd] at hk
      split at hk
      · cases hk
        unfold mEnr at hz
        split at hz
        · cases hz
        split at hz
        · cases hz
        rename_i h2
        exact ⟨by show 0 ≤ o.minute; omega, by show o.minute ≤ 157785119; omega⟩
      · exact h.sub k s hk
    · exact h
  · exact h

end Go.Proofs.Qxb6500665aDoor
