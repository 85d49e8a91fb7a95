/- A row is justified exactly if nothing holds its result back. Plain. -/
import Derived.Test.Qxb6500666aGreatDoorJustD
import Derived.Test.Qxb6500666aGreatDoorLowV
namespace Go.Proofs.Qxb6500666aGreatDoor
open Go.RowKit
/-- No identifier twice. -/
structure NU (L : Low) : Prop where
  kit : (L.kit.map (·.id)).Nodup
  ana : (L.pr.ana.map (·.id)).Nodup
  ss : (L.sm.ss.map (·.id)).Nodup
theorem NU.start : NU low0 := ⟨List.nodup_nil, List.nodup_nil, List.nodup_nil⟩
theorem nodup_snoc {l : List Int} {x : Int} (h : l.Nodup) (hx : x ∉ l) : (l ++ [x]).Nodup := by
  rw [List.nodup_append]
  exact ⟨h, by simp, fun a ha b hb => by simp only [List.mem_singleton] at hb; subst hb; exact fun e => hx (e ▸ ha)⟩
theorem defineP_n {T : Pr} (h : (T.ana.map (·.id)).Nodup) (id l0 l1 l2 : Int) : ((defineP T id l0 l1 l2).1.ana.map (·.id)).Nodup := by
  unfold defineP
  repeat' split
  all_goals first
    | exact h
    | skip
  rename_i hn
  dsimp only
  rw [List.map_append]
  refine nodup_snoc h fun hx => hn ?_
  obtain ⟨y, hy, e⟩ := List.mem_map.1 hx
  exact List.any_eq_true.2 ⟨y, hy, by simpa using e⟩
theorem pr_ana {T T' : Pr} (h : T'.ana = T.ana) (k : (T.ana.map (·.id)).Nodup) : (T'.ana.map (·.id)).Nodup := by rw [h]; exact k
theorem amendP_a (T : Pr) (e : Int) (v : List Int) : (amendP T e v).1.ana = T.ana := by
  unfold amendP
  repeat' split
  all_goals rfl
theorem addSiteP_a (T : Pr) (id : Int) : (addSiteP T id).1.ana = T.ana := by
  unfold addSiteP
  repeat' split
  all_goals rfl
theorem enrolP_a (T : Pr) (id s : Int) : (enrolP T id s).1.ana = T.ana := by
  unfold enrolP
  repeat' split
  all_goals rfl
theorem buildP_n {l : List Kit} (h : (l.map (·.id)).Nodup) (id : Int) : ((buildP l id).1.map (·.id)).Nodup := by
  unfold buildP
  repeat' split
  all_goals first
    | exact h
    | skip
  rename_i hn
  dsimp only
  rw [List.map_append]
  refine nodup_snoc h fun hx => hn ?_
  obtain ⟨y, hy, e⟩ := List.mem_map.1 hx
  unfold kitGet
  rw [List.find?_isSome]
  exact ⟨y, hy, by simpa using e⟩
theorem shipL_ids (l : List Kit) (id site : Int) : (shipL l id site).map (·.id) = l.map (·.id) := by
  unfold shipL
  rw [List.map_map]
  refine List.map_congr_left fun x _ => ?_
  show (if (x.id == id) = true then { x with site := site } else x).id = x.id
  split <;> rfl
theorem shipK_n {L : Low} (h : (L.kit.map (·.id)).Nodup) (id site : Int) : ((shipK L id site).1.map (·.id)).Nodup := by
  unfold shipK shipP
  repeat' split
  all_goals first
    | exact h
    | (dsimp only; rw [shipL_ids]; exact h)
theorem upAt_ids {l : List Smp} {q : Int} {f : Smp → Smp} (hf : ∀ x, (f x).id = x.id) : (upAt l q f).map (·.id) = l.map (·.id) := by
  unfold upAt
  split
  · rename_i x hx
    obtain ⟨hl, e⟩ := List.getElem?_eq_some_iff.1 hx
    rw [List.map_set, hf, ← e]
    apply List.ext_getElem
    · simp
    · intro i h1 h2
      rw [List.getElem_set]
      split
      · rename_i e2
        subst e2
        simp
      · rfl
  · rfl
theorem accession_n {T : Sm} (h : (T.ss.map (·.id)).Nodup) (x : Smp) : ((accession T x).1.ss.map (·.id)).Nodup := by
  unfold accession
  repeat' split
  all_goals first
    | exact h
    | skip
  rename_i hn
  dsimp only
  rw [List.map_append]
  refine nodup_snoc h fun hx => hn ?_
  obtain ⟨y, hy, e⟩ := List.mem_map.1 hx
  rw [decide_eq_true_iff]
  exact (findI_nn _ _ _).2 ⟨y, hy, by simpa using e⟩
theorem excursion_n {T : Sm} (h : (T.ss.map (·.id)).Nodup) (id : Int) : ((excursion T id).1.ss.map (·.id)).Nodup := by
  have k := upAt_ids (l := T.ss) (q := sIdx T.ss id) (f := fun x => { x with exc := true }) (fun _ => rfl)
  unfold excursion
  repeat' split
  all_goals first
    | exact h
    | (dsimp only; rw [k]; exact h)
theorem collection_n {T : Sm} (h : (T.ss.map (·.id)).Nodup) (id a : Int) : ((collection T id a).1.ss.map (·.id)).Nodup := by
  have k := upAt_ids (l := T.ss) (q := sIdx T.ss id) (f := fun x => { x with collected := a }) (fun _ => rfl)
  unfold collection
  repeat' split
  all_goals first
    | exact h
    | (dsimp only; rw [k]; exact h)
theorem sm_ss {T T' : Sm} (h : T'.ss = T.ss) (k : (T.ss.map (·.id)).Nodup) : (T'.ss.map (·.id)).Nodup := by rw [h]; exact k
theorem enterR_s (T : Sm) (s a v t : Int) : (enterR T s a v t).1.ss = T.ss := by
  unfold enterR
  repeat' split
  all_goals rfl
theorem correctR_s (T : Sm) (s a v : Int) : (correctR T s a v).1.ss = T.ss := by
  unfold correctR
  repeat' split
  all_goals rfl
theorem withdrawR_s (T : Sm) (s a : Int) : (withdrawR T s a).1.ss = T.ss := by
  unfold withdrawR
  repeat' split
  all_goals rfl
theorem raiseQ_s (T : Sm) (id s : Int) : (raiseQ T id s).1.ss = T.ss := by
  unfold raiseQ
  repeat' split
  all_goals rfl
theorem moveQ_s (T : Sm) (id a b : Int) : (moveQ T id a b).1.ss = T.ss := by
  unfold moveQ
  repeat' split
  all_goals rfl
theorem handR_nu {ps : List KV} {L : Low} {s : Stat} {r : Req} (h : NU L) : NU (handR ps L s r).low := by
  unfold handR
  let P : HR → Prop := fun R => NU R.low
  have z : ∀ (c : Int) (st : Stat) (i : Int) (ws : List WR), P ⟨c, st, i, ws, L⟩ := fun _ _ _ _ => h
  have pr : ∀ (c : Int) (st : Stat) (i : Int) (ws : List WR) (T : Pr), (T.ana.map (·.id)).Nodup → P ⟨c, st, i, ws, { L with pr := T }⟩ := fun _ _ _ _ _ hT => ⟨h.kit, hT, h.ss⟩
  have kt : ∀ (c : Int) (st : Stat) (i : Int) (ws : List WR) (T : List Kit), (T.map (·.id)).Nodup → P ⟨c, st, i, ws, { L with kit := T }⟩ := fun _ _ _ _ _ hT => ⟨hT, h.ana, h.ss⟩
  have sm : ∀ (c : Int) (st : Stat) (i : Int) (ws : List WR) (T : Sm), (T.ss.map (·.id)).Nodup → P ⟨c, st, i, ws, { L with sm := T }⟩ := fun _ _ _ _ _ hT => ⟨h.kit, h.ana, hT⟩
  show P _
  refine ite_p (P := P) (z _ _ _ _) (ite_p (P := P) (z _ _ _ _) ?_)
  refine ite_p (P := P) (pr _ _ _ _ _ (defineP_n h.ana _ _ _ _)) (ite_p (P := P) (pr _ _ _ _ _ (pr_ana (amendP_a _ _ _) h.ana)) (ite_p (P := P) (pr _ _ _ _ _ (pr_ana (addSiteP_a _ _) h.ana)) (ite_p (P := P) (pr _ _ _ _ _ (pr_ana (enrolP_a _ _ _) h.ana)) ?_)))
  refine ite_p (P := P) (kt _ _ _ _ _ (buildP_n h.kit _)) (ite_p (P := P) (kt _ _ _ _ _ (shipK_n h.kit _ _)) ?_)
  refine ite_p (P := P) (sm _ _ _ _ _ (accession_n h.ss _)) (ite_p (P := P) (sm _ _ _ _ _ (excursion_n h.ss _)) (ite_p (P := P) (sm _ _ _ _ _ (collection_n h.ss _ _)) (ite_p (P := P) (sm _ _ _ _ _ (sm_ss (enterR_s _ _ _ _ _) h.ss)) ?_)))
  refine ite_p (P := P) (sm _ _ _ _ _ (sm_ss (correctR_s _ _ _ _) h.ss)) (ite_p (P := P) (sm _ _ _ _ _ (sm_ss (withdrawR_s _ _ _) h.ss)) (ite_p (P := P) (sm _ _ _ _ _ (sm_ss (raiseQ_s _ _ _) h.ss)) ?_))
  exact ite_p (P := P) (sm _ _ _ _ _ (sm_ss (moveQ_s _ _ _ _) h.ss)) (ite_p (P := P) (sm _ _ _ _ _ (sm_ss (moveQ_s _ _ _ _) h.ss)) (ite_p (P := P) (sm _ _ _ _ _ (sm_ss (moveQ_s _ _ _ _) h.ss)) (ite_p (P := P) (z _ _ _ _) (z _ _ _ _))))
theorem NU.step {t : ST} {o : Op} (h : NU t.low) : NU (stepR t o).low := by
  by_cases ha : AccS t o
  · obtain ⟨s, -, -, e, -⟩ := ha.low
    rw [e]
    exact handR_nu h
  · rw [(stepR_not ha).2]
    exact h
theorem nu_all (s : List Op) : ∀ q, q ≤ s.length → NU (stAt s q).low
  | 0, _ => NU.start
  | q + 1, hq => by
    rw [stAt_succ (by omega)]
    exact (nu_all s q (by omega)).step
/-! justified. -/
theorem nodup_eq {α : Type} {l : List α} {f : α → Int} (h : (l.map f).Nodup) {x y : α} (hx : x ∈ l) (hy : y ∈ l) (e : f x = f y) : x = y := by
  induction l with
  | nil => cases hx
  | cons z l ih =>
    rw [List.map_cons, List.nodup_cons] at h
    rcases List.mem_cons.1 hx with hx' | hx'
    · rcases List.mem_cons.1 hy with hy' | hy'
      · rw [hx', hy']
      · exact absurd (List.mem_map.2 ⟨y, hy', by rw [← e, hx']⟩) h.1
    · rcases List.mem_cons.1 hy with hy' | hy'
      · exact absurd (List.mem_map.2 ⟨x, hx', by rw [e, hy']⟩) h.1
      · exact ih h.2 hx' hy'
theorem fold_stab {row : Row} : ∀ {l : List Ana} {b : Bool}, (l.map (·.id)).Nodup → l.foldl (stabG row) b = match l.find? (anaJ row) with
    | some x => limJ row (anaLim x row.cls)
    | none => b
  | [], _, _ => rfl
  | x :: l, b, h => by
    rw [List.map_cons, List.nodup_cons] at h
    rw [List.foldl_cons, fold_stab h.2, List.find?_cons]
    unfold stabG
    cases hx : anaJ row x with
    | false => rfl
    | true =>
      have hn : l.find? (anaJ row) = none := by
        rw [List.find?_eq_none]
        intro y hy hj
        have e1 : x.id = row.analyte := by unfold anaJ at hx; simp at hx; exact hx.1
        have e2 : y.id = row.analyte := by unfold anaJ at hj; simp at hj; exact hj.1
        exact h.1 (List.mem_map.2 ⟨y, hy, by omega⟩)
      rw [hn]
      rfl
theorem lim_get {l : List Ana} {row : Row} : limGet l row.analyte row.cls = (l.find? (anaJ row)).map fun x => anaLim x row.cls := rfl
theorem vis_has {L : Low} {row : Row} (hp : row.proto = inForce L.pr.ver row.collected) : visJ L row = hasVisit L.pr.ver (inForce L.pr.ver row.collected) row.visit := by
  unfold visJ hasVisit
  have hb := inForceN_le L.pr.ver row.collected L.pr.ver.length
  have e : inForceN L.pr.ver row.collected L.pr.ver.length = inForce L.pr.ver row.collected := rfl
  rw [e] at hb
  rw [hp]
  by_cases h0 : inForce L.pr.ver row.collected = 0
  · rw [if_pos (Or.inl h0), h0]
    rfl
  · rw [if_neg (by omega)]
    have : 0 < inForce L.pr.ver row.collected := by omega
    simp [this]
theorem holds_zero_of {L : Low} {s : Smp} {r : Res} {k : Kit} {lim : Int} (h1 : r.wd = false) (h2 : (sbjGet L.pr.sub s.subject).isSome = true) (h3 : kitGet L.kit s.kit = some k) (h4 : k.site = siteV L.pr.sub s.subject) (h5 : hasVisit L.pr.ver (inForce L.pr.ver s.collected) s.visit = true) (h6 : s.collected ≤ s.received ∧ s.received ≤ r.tested) (h7 : limGet L.pr.ana r.analyte s.cls = some lim) (h8 : s.received - s.collected ≤ lim ∧ r.tested - s.collected ≤ lim) (h9 : s.exc = false) (h10 : unsettledB L.sm.qs s.id = false) : holdsOf L s r = 0 := by
  have b1 : decide (s.received < s.collected) = false := decide_eq_false (by omega)
  have b2 : decide (r.tested < s.received) = false := decide_eq_false (by omega)
  have b3 : decide (lim < s.received - s.collected) = false := decide_eq_false (by omega)
  have b4 : decide (lim < r.tested - s.collected) = false := decide_eq_false (by omega)
  unfold holdsOf
  simp [h1, h2, h3, h5, h7, h9, h10, h4, b1, b2, b3, b4, kitD, addH]
theorem just_of {n : Nat} {L : Low} (hv : VI n L) (hn : NU L) {s : Smp} {r : Res} (hs : smpGet L.sm r.sample = some s) (hr : r ∈ L.sm.rs) (hu : (L.sm.rs.map resKey).Nodup) : justB L (rowOf L s r) = true ↔ holdsOf L s r = 0 := by
  have hsm := smpGet_mem hs
  have hsi := smpGet_id hs
  constructor
  · intro h
    unfold justB at h
    split at h
    · cases h
    rename_i hq
    simp only [Bool.and_eq_true] at h
    obtain ⟨h1, h2, h3, h4, h5, h6⟩ := h
    rw [vis_has rfl] at h5
    obtain ⟨k, hk, hk2⟩ := List.any_eq_true.1 h1
    obtain ⟨x, hx, hx2⟩ := List.any_eq_true.1 h2
    obtain ⟨y, hy, hy2⟩ := List.any_eq_true.1 h3
    obtain ⟨z, hz, hz2⟩ := List.any_eq_true.1 h4
    unfold shipJ rowOf at hk2
    unfold enrJ rowOf at hx2
    unfold recJ rowOf at hy2
    unfold tstJ rowOf at hz2
    simp at hk2 hx2 hy2 hz2
    have ey : s = y := nodup_eq hn.ss hsm hy (by omega)
    subst ey
    have ez : r = z := by
      have hkk := List.pairwise_iff_getElem.1 hu
      obtain ⟨i, hi, ei⟩ := List.mem_iff_getElem.1 hz
      obtain ⟨j, hj, ej⟩ := List.mem_iff_getElem.1 hr
      have ke : resKey z = resKey r := by simp only [resKey, Prod.mk.injEq]; omega
      rcases Nat.lt_trichotomy i j with l | l | l
      · exact absurd (by rw [List.getElem_map, List.getElem_map, ei, ej]; exact ke) (hkk i j (by simpa using hi) (by simpa using hj) l)
      · subst l; rw [← ei, ← ej]
      · exact absurd (by rw [List.getElem_map, List.getElem_map, ei, ej]; exact ke.symm) (hkk j i (by simpa using hj) (by simpa using hi) l)
    subst ez
    have hsb : (sbjGet L.pr.sub s.subject).isSome = true := by
      unfold sbjGet
      rw [List.find?_isSome]
      exact ⟨x, hx, by simpa using hx2.1⟩
    have hkt : kitGet L.kit s.kit = some k := by
      unfold kitGet
      cases e : L.kit.find? (fun x => x.id == s.kit) with
      | none => exact absurd hk2.1 (by have := List.find?_eq_none.1 e k hk; simpa using this)
      | some k' =>
        have h7 := List.find?_some e
        have h8 := List.mem_of_find?_eq_some e
        rw [nodup_eq hn.kit h8 hk (by simp at h7; omega)]
    rw [fold_stab hn.ana] at h6
    have hlm : ∃ lim, limGet L.pr.ana r.analyte s.cls = some lim ∧ limJ (rowOf L s r) lim = true := by
      cases e : L.pr.ana.find? (anaJ (rowOf L s r)) with
      | none => rw [e] at h6; cases h6
      | some a =>
        rw [e] at h6
        refine ⟨anaLim a s.cls, ?_, h6⟩
        have := lim_get (l := L.pr.ana) (row := rowOf L s r)
        rw [e] at this
        exact this
    obtain ⟨lim, hl1, hl2⟩ := hlm
    unfold limJ rowOf at hl2
    simp at hl2
    have hun : unsettledB L.sm.qs s.id = false := by
      cases e : unsettledB L.sm.qs s.id with
      | false => rfl
      | true =>
        refine absurd ?_ hq
        unfold unsettledB at e
        obtain ⟨x, hx, hx2⟩ := List.any_eq_true.1 e
        refine List.any_eq_true.2 ⟨x, hx, ?_⟩
        unfold qryJ rowOf
        simp at hx2 ⊢
        exact hx2
    exact holds_zero_of hz2.2.2.2.2.2 hsb hkt (by have := hk2.2.1; exact this) h5 ⟨hl2.1, hl2.2.1⟩ hl1 ⟨hl2.2.2.1, hl2.2.2.2⟩ hy2.2.2.2.2.2.2.2 hun
  · intro h
    obtain ⟨g1, ⟨x, g2⟩, ⟨k, g3, g4⟩, g5, g6, ⟨lim, g7, g8, g9⟩, g10, g11⟩ := holds_zero h
    have hxm := List.mem_of_find?_eq_some g2
    have hxi : x.id = s.subject := by have := List.find?_some g2; simpa using this
    have hsv : siteV L.pr.sub s.subject = x.site := by unfold siteV; rw [g2]; rfl
    have hkm := List.mem_of_find?_eq_some g3
    have hki : k.id = s.kit := by have := List.find?_some g3; simpa using this
    have hxs := (hv.pr.sub x hxm).2
    unfold justB
    rw [if_neg]
    · simp only [Bool.and_eq_true]
      refine ⟨List.any_eq_true.2 ⟨k, hkm, ?_⟩, List.any_eq_true.2 ⟨x, hxm, ?_⟩, List.any_eq_true.2 ⟨s, hsm, ?_⟩, List.any_eq_true.2 ⟨r, hr, ?_⟩, ?_, ?_⟩
      · unfold shipJ rowOf
        simp [hki, g4]
        omega
      · unfold enrJ rowOf
        simp [hxi, hsv]
      · unfold recJ rowOf
        simp [g10]
      · unfold tstJ rowOf
        simp [g1, hsi]
      · rw [vis_has rfl]
        exact g5
      · rw [fold_stab hn.ana]
        have e := lim_get (l := L.pr.ana) (row := rowOf L s r)
        have e2 : limGet L.pr.ana (rowOf L s r).analyte (rowOf L s r).cls = some lim := g7
        rw [e2] at e
        cases ef : L.pr.ana.find? (anaJ (rowOf L s r)) with
        | none => rw [ef] at e; cases e
        | some a =>
          rw [ef] at e
          have e3 : lim = anaLim a (rowOf L s r).cls := by injection e
          show limJ (rowOf L s r) (anaLim a (rowOf L s r).cls) = true
          rw [← e3]
          unfold limJ rowOf
          simp [g6.1, g6.2, g8, g9]
    · intro hq
      obtain ⟨x, hx, hx2⟩ := List.any_eq_true.1 hq
      have : unsettledB L.sm.qs s.id = true := by
        unfold unsettledB
        refine List.any_eq_true.2 ⟨x, hx, ?_⟩
        unfold qryJ rowOf at hx2
        simp at hx2 ⊢
        exact hx2
      rw [g11] at this
      cases this
end Go.Proofs.Qxb6500666aGreatDoor
