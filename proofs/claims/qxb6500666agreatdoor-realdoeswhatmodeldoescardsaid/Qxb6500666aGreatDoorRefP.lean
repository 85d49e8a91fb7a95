/- Refusals change nothing: the plain law. -/
import Derived.Test.Qxb6500666aGreatDoorPermP
namespace Go.Proofs.Qxb6500666aGreatDoor
open Go.RowKit

theorem exR_low {ps : List KV} {full : Bool} {off lar : Int} {L : Low} {r : Req} (h : (exR ps full off lar L r).c ≠ 0) : (exR ps full off lar L r).low = L := by
  unfold exR at h ⊢
  split
  · rfl
  rename_i h0
  rw [if_neg h0] at h
  split
  · rfl
  · rename_i role ha
    rw [ha] at h
    dsimp only at h
    split
    · rfl
    · rename_i h1
      rw [if_neg h1] at h
      unfold cmdR at h ⊢
      split
      · rfl
      · rename_i s hs
        rw [hs] at h
        dsimp only at h
        split
        · rfl
        rename_i h2
        rw [if_neg h2] at h
        split
        · rfl
        rename_i h3
        rw [if_neg h3] at h
        split
        · rfl
        rename_i h4
        rw [if_neg h4] at h
        unfold cmdH at h ⊢
        split
        · rename_i h5
          rw [if_pos h5] at h
          unfold endR at h ⊢
          split
          · rfl
          · rename_i h6
            rw [if_neg h6] at h
            exact absurd rfl h
        · rfl
/-- No room: the store is full, or the batch is too great. -/
theorem exR_room {ps : List KV} {full : Bool} {off lar : Int} {L : Low} {r : Req} (h : (exR ps full off lar L r).c = 27) : full = true ∨ 3000 < (exR ps full off lar L r).lar := by
  unfold exR at h ⊢
  split
  · rename_i h0
    rw [if_pos h0] at h
    exact absurd h (by dsimp only; decide)
  rename_i h0
  rw [if_neg h0] at h
  split
  · rename_i c ha
    rw [ha] at h
    dsimp only at h
    subst h
    unfold authR at ha
    split at ha
    · rename_i c e
      split at ha
      · cases ha
      · injection ha with ha
        rcases accR_err e with k | k <;> omega
    · split at ha
      · cases ha
      · split at ha <;> cases ha
  · rename_i role ha
    rw [ha] at h
    dsimp only at h
    split
    · rename_i h1
      rw [if_pos h1] at h
      exact absurd h (by dsimp only; decide)
    · rename_i h1
      rw [if_neg h1] at h
      unfold cmdR at h ⊢
      split
      · rename_i c e
        rw [e] at h
        dsimp only at h
        have := statR_e e
        omega
      · rename_i s hs
        rw [hs] at h
        dsimp only at h
        split
        · rename_i h2
          rw [if_pos h2] at h
          exact absurd h (by dsimp only; decide)
        rename_i h2
        rw [if_neg h2] at h
        split
        · rename_i h3
          rw [if_pos h3] at h
          exact absurd h (by dsimp only; decide)
        rename_i h3
        rw [if_neg h3] at h
        split
        · rename_i h4
          rw [if_pos h4] at h
          exact absurd h (by dsimp only; decide)
        rename_i h4
        rw [if_neg h4] at h
        unfold cmdH at h ⊢
        split
        · rename_i h5
          rw [if_pos h5] at h
          unfold endR at h ⊢
          split
          · rename_i h6
            simp only [Bool.or_eq_true, decide_eq_true_eq] at h6
            rcases h6 with h6 | h6
            · refine Or.inr ?_
              show 3000 < larN lar _
              unfold larN
              split <;> omega
            · exact Or.inl h6
          · rename_i h6
            rw [if_neg h6] at h
            exact absurd h (by dsimp only; decide)
        · rename_i h5
          rw [if_neg h5] at h
          exact absurd h (handR_v ps L s r).2
/-- The entries' number as it is read. -/
theorem decStat_entries {s s' : Stat} (hu : U32 s'.entries) (h : decStat (statB s') = some s) : s.entries = s'.entries := by
  have e1 := rdDig4 (d256 4 s'.transfers ++ (d256 4 s'.lastCum ++ i64B s'.lastMin)) hu
  have eb : statB s' = d256 4 s'.entries ++ (d256 4 s'.transfers ++ (d256 4 s'.lastCum ++ i64B s'.lastMin)) := by unfold statB; simp [List.append_assoc]
  rw [eb] at h
  unfold decStat at h
  dsimp only at h
  rw [e1] at h
  dsimp only at h
  split at h
  · cases h
  · split at h
    · cases h
    · split at h
      · cases h
      · injection h with h
        rw [← h]
theorem ite_e {p : Prop} [Decidable p] {a b : HR} {e : Int} (h1 : a.st.entries = e) (h2 : b.st.entries = e) : (if p then a else b).st.entries = e := by
  split
  · exact h1
  · exact h2
theorem handR_entries (ps : List KV) (L : Low) (s : Stat) (r : Req) : (handR ps L s r).st.entries = s.entries := by
  unfold handR
  iterate 18 refine ite_e rfl ?_
  refine ite_e ?_ ?_
  · dsimp only
    unfold incR
    split
    · rfl
    · split <;> rfl
  · dsimp only
    unfold cumR
    split
    · rfl
    · split
      · rfl
      · split
        · rfl
        · split <;> rfl
theorem lastW_hit (k v : List Int) (d : Option (List Int)) : lastW [((k, v), false)] k d = some v := by simp [lastW]
theorem apply_ne {ps : List KV} (hk : KN ps) {L : Low} {s : Stat} {r : Req} {role : Int} (hs : statR ps = .ok s) : applyW ps (wsAll (handR ps L s r) r role) ≠ ps := by
  intro e
  have hg : getB (applyW ps (wsAll (handR ps L s r) r role)) (key0B 115) = some (statB (stNext (handR ps L s r).st r.now)) := by
    rw [getB_apply _ hk]
    unfold wsAll
    rw [lastW_app, lastW_hit]
  rw [e] at hg
  unfold statR at hs
  rw [hg] at hs
  dsimp only at hs
  cases hd : decStat (statB (stNext (handR ps L s r).st r.now)) with
  | none => rw [hd] at hs; cases hs
  | some s' =>
    rw [hd] at hs
    injection hs with hs
    subst hs
    have h0 : (stNext (handR ps L s' r).st r.now).entries = (s'.entries + 1) % 4294967296 := by
      unfold stNext
      dsimp only
      rw [handR_entries]
    have := decStat_entries (by rw [h0]; exact ⟨by omega, by omega⟩) hd
    rw [h0] at this
    omega
theorem exR_kn {ps : List KV} {full : Bool} {off lar : Int} {L : Low} {r : Req} (h : KN ps) : KN (exR ps full off lar L r).ps := by
  by_cases z : (exR ps full off lar L r).c = 0
  · cases hk : isCmd r.kind with
    | true =>
      obtain ⟨role, s, -, -, -, -, -, -, -, -, e⟩ := exR_acc hk z
      rw [e]
      exact h.apply _
    | false =>
      have : (exR ps full off lar L r).ps = ps := (exR_rd hk).1
      rw [this]
      exact h
  · rw [exR_same z]
    exact h
theorem stepR_kn {t : ST} {o : Op} (h : KN t.ps) : KN (stepR t o).ps := by
  unfold stepR
  split
  · exact exR_kn h
  · split <;> exact h
theorem kn_all (s : List Op) : ∀ q, q ≤ s.length → KN (stAt s q).ps
  | 0, _ => KN.nil
  | q + 1, hq => by
    rw [stAt_succ (by omega)]
    exact stepR_kn (kn_all s q (by omega))
/-- The law, at one step. -/
theorem ref_first {t : ST} {o : Op} {rn kn : Nat → ByteArray} {w w' : World} {x : Rsp} (hk : KN t.ps) (hl : (stepR t o).lar ≤ 3000) (ha : AnsP rn kn w w' t o x) :
    (accP o x = true → (stepR t o).full = false ∧ (stepR t o).off = t.off + 1 ∧ t.ps ≠ (stepR t o).ps) ∧ (accP o x = false → (stepR t o).ps = t.ps ∧ (stepR t o).low = t.low ∧ (x.code = 27 → (stepR t o).full = true)) := by
  by_cases k : o.kind = 1
  · have es : stepR t o = ⟨(exR t.ps t.full t.off t.lar t.low o.req).ps, t.full, (exR t.ps t.full t.off t.lar t.low o.req).off, (exR t.ps t.full t.off t.lar t.low o.req).lar, (exR t.ps t.full t.off t.lar t.low o.req).low⟩ := by unfold stepR; rw [if_pos k]
    rw [es] at hl ⊢
    dsimp only at hl ⊢
    obtain ⟨r1, r2⟩ := ha.2 k
    cases hc : isCmd o.req.kind with
    | false =>
      have e1 : accP o x = false := by unfold accP; rw [hc]; simp
      rw [e1]
      refine ⟨fun q => (by cases q), fun _ => ?_⟩
      have e2 := exR_rd (ps := t.ps) (full := t.full) (off := t.off) (lar := t.lar) (L := t.low) hc
      refine ⟨e2.1, e2.2, fun q => ?_⟩
      by_cases hx : isRdg o.req.kind = false ∨ ∃ c, authR t.ps o.req.user o.req.kind = .error c
      · rw [r2 hx] at q
        rcases exR_room q with z | z
        · exact z
        · omega
      · have h1 : isRdg o.req.kind = true := by
          cases e : isRdg o.req.kind with
          | true => rfl
          | false => exact absurd (Or.inl e) hx
        cases e : authR t.ps o.req.user o.req.kind with
        | error c => exact absurd (Or.inr ⟨c, e⟩) hx
        | ok role => exact absurd q (rdX_pr (r1 h1 _ e)).2
    | true =>
      have hrd : isRdg o.req.kind = false := by
        unfold isCmd at hc
        unfold isRdg
        simp at hc ⊢
        omega
      have ex := r2 (Or.inl hrd)
      have ec : x.code = (exR t.ps t.full t.off t.lar t.low o.req).c := by rw [ex]
      by_cases z : (exR t.ps t.full t.off t.lar t.low o.req).c = 0
      · have e1 : accP o x = true := by unfold accP; rw [hc, ec, z, k]; rfl
        rw [e1]
        refine ⟨fun _ => ?_, fun q => (by cases q)⟩
        obtain ⟨role, s, -, hs, -, -, -, -, hf, -, e⟩ := exR_acc hc z
        rw [e]
        exact ⟨hf, rfl, fun q => apply_ne hk hs q.symm⟩
      · have e1 : accP o x = false := by unfold accP; rw [hc, ec]; simp [z]
        rw [e1]
        refine ⟨fun q => (by cases q), fun _ => ⟨exR_same z, exR_low z, fun q => ?_⟩⟩
        rw [ec] at q
        rcases exR_room q with z | z
        · exact z
        · omega
  · have e1 : accP o x = false := by unfold accP; simp [k]
    rw [e1]
    refine ⟨fun q => (by cases q), fun _ => ⟨?_, ?_, fun q => ?_⟩⟩
    · unfold stepR
      rw [if_neg k]
      split <;> rfl
    · unfold stepR
      rw [if_neg k]
      split <;> rfl
    · rw [ha.1 k] at q
      exact absurd q (by decide)

end Go.Proofs.Qxb6500666aGreatDoor
