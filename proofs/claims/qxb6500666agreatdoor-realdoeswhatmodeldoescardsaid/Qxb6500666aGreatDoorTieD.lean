/- The model beside the real layer behind a step. Plain. -/
import Derived.Test.Qxb6500666aGreatDoorTieC
namespace Go.Proofs.Qxb6500666aGreatDoor
open Go.RowKit
theorem mChange_us {m : Mod} {r : Req} (hk : isCmd r.kind = true) (h1 : r.kind ≠ 1) (h2 : r.kind ≠ 2) : (mChange m r).m.us = m.us := by
  rcases kindCmd hk with e | e | e | e | e | e | e | e | e | e | e | e | e | e | e | e | e | e | e | e
  · exact absurd e h1
  · exact absurd e h2
  · unfold mChange; rw [e]; rfl
  · unfold mChange; rw [e]; rfl
  · unfold mChange; rw [e]; rfl
  · unfold mChange; rw [e]; rfl
  · unfold mChange; rw [e]; rfl
  · have e2 : mChange m r = (if m.low.pr.site.any (fun x : Int => (x == r.ref)) = true then ⟨{ m with low := { m.low with kit := (shipP m.low.kit r.id r.ref).1 } }, 0, (shipP m.low.kit r.id r.ref).2⟩ else ⟨m, 0, 18⟩) := by unfold mChange; rw [e]; rfl
    rw [e2]
    split <;> rfl
  · unfold mChange; rw [e]; rfl
  · unfold mChange; rw [e]; rfl
  · unfold mChange; rw [e]; rfl
  · unfold mChange; rw [e]; rfl
  · unfold mChange; rw [e]; rfl
  · unfold mChange; rw [e]; rfl
  · unfold mChange; rw [e]; rfl
  · unfold mChange; rw [e]; rfl
  · unfold mChange; rw [e]; rfl
  · unfold mChange; rw [e]; rfl
  · unfold mChange; rw [e]; rfl
  · have e2 : mChange m r = cumM m r := by unfold mChange; rw [e]; rfl
    rw [e2]
    unfold cumM
    split <;> rfl
theorem mChange_fs {m : Mod} {r : Req} (hk : isCmd r.kind = true) (h1 : r.kind ≠ 19) (h2 : r.kind ≠ 20) : (mChange m r).m.fs = m.fs := by
  rcases kindCmd hk with e | e | e | e | e | e | e | e | e | e | e | e | e | e | e | e | e | e | e | e
  · have e2 : mChange m r = addU m r := by unfold mChange; rw [e]; rfl
    rw [e2]
    unfold addU
    repeat' split
    all_goals rfl
  · have e2 : mChange m r = revU m r := by unfold mChange; rw [e]; rfl
    rw [e2]
    unfold revU
    repeat' split
    all_goals rfl
  · unfold mChange; rw [e]; rfl
  · unfold mChange; rw [e]; rfl
  · unfold mChange; rw [e]; rfl
  · unfold mChange; rw [e]; rfl
  · unfold mChange; rw [e]; rfl
  · have e2 : mChange m r = (if m.low.pr.site.any (fun x : Int => (x == r.ref)) = true then ⟨{ m with low := { m.low with kit := (shipP m.low.kit r.id r.ref).1 } }, 0, (shipP m.low.kit r.id r.ref).2⟩ else ⟨m, 0, 18⟩) := by unfold mChange; rw [e]; rfl
    rw [e2]
    split <;> rfl
  · unfold mChange; rw [e]; rfl
  · unfold mChange; rw [e]; rfl
  · unfold mChange; rw [e]; rfl
  · unfold mChange; rw [e]; rfl
  · unfold mChange; rw [e]; rfl
  · unfold mChange; rw [e]; rfl
  · unfold mChange; rw [e]; rfl
  · unfold mChange; rw [e]; rfl
  · unfold mChange; rw [e]; rfl
  · unfold mChange; rw [e]; rfl
  · exact absurd e h1
  · exact absurd e h2
/-- What a request answers on both sides, a permitted reading aside. -/
theorem ex_tie {q : Nat} {t : ST} {m : Mod} {rows : List Row} {r : Req} (h : TJ q t m rows) (hq : q ≤ 65536) (hi : Inv q t) (hu : SU t.low.sm) (hv : VI q t.low) (hr : r.Ok) :
    (exR t.ps t.full t.off t.lar t.low r).c = (mEx m r).c ∧ (exR t.ps t.full t.off t.lar t.low r).iss = (mEx m r).iss ∧ ((¬ (isCmd r.kind = true ∧ (mEx m r).c = 0)) → (mEx m r).m = m) := by
  unfold exR mEx
  cases hc : (! isCmd r.kind && ! isRdg r.kind) with
  | true => exact ⟨rfl, rfl, fun _ => rfl⟩
  | false =>
    rw [if_neg (by simp), if_neg (by simp), auth_tie h hr.user]
    rcases hU : mUser m r.user with ⟨ro, kn, ac⟩
    cases kn with
    | false => exact ⟨rfl, rfl, fun _ => rfl⟩
    | true =>
      cases ac with
      | false => exact ⟨rfl, rfl, fun _ => rfl⟩
      | true =>
        simp only [Bool.true_eq_false, if_false]
        cases hm : mayP ro r.kind with
        | false => exact ⟨rfl, rfl, fun _ => rfl⟩
        | true =>
          simp only [Bool.true_eq_false, if_false]
          cases hg : isRdg r.kind with
          | true => exact ⟨rfl, rfl, fun _ => rfl⟩
          | false =>
            have hcm : isCmd r.kind = true := by rw [hg] at hc; simpa using hc
            simp only [Bool.false_eq_true, if_false]
            unfold cmdR
            rw [h.st]
            simp only
            by_cases h1 : r.now < 0
            · rw [if_pos (by omega), if_pos h1]; exact ⟨rfl, rfl, fun _ => rfl⟩
            rw [if_neg h1]
            by_cases h2 : 157785119 < r.now
            · rw [if_pos (by omega), if_pos h2]; exact ⟨rfl, rfl, fun _ => rfl⟩
            rw [if_neg h2, if_neg (by omega)]
            by_cases h3 : r.now < (mStat m).lastMin
            · rw [if_pos h3, if_pos h3]; exact ⟨rfl, rfl, fun _ => rfl⟩
            rw [if_neg h3, if_neg h3]
            by_cases h4 : 12 < r.list.length
            · rw [if_pos h4, if_pos h4]; exact ⟨rfl, rfl, fun _ => rfl⟩
            rw [if_neg h4, if_neg h4]
            have ht := hand_tie h hq hi hu hv hr hcm ⟨by omega, by omega⟩
            unfold cmdH
            rw [ht.c]
            by_cases h5 : (mChange m r).c = 0
            · rw [if_pos h5, if_neg (by simpa using h5)]
              have hs := (wsAll_size (role := ro) (handR_size t.ps t.low (mStat m) r) (by omega : r.list.length ≤ 12)).1
              unfold endR
              rw [h.full]
              cases hf : t.full with
              | true => rw [if_pos (by simp), if_pos rfl]; exact ⟨rfl, rfl, fun _ => rfl⟩
              | false =>
                rw [if_neg (by simp; omega), if_neg (by simp)]
                exact ⟨rfl, ht.iss h5, fun k => absurd ⟨hcm, rfl⟩ k⟩
            · rw [if_neg h5, if_pos h5]; exact ⟨rfl, rfl, fun _ => rfl⟩
/-- An accepted command. -/
theorem ex_acc {m : Mod} {r : Req} (hk : isCmd r.kind = true) (hc : (mEx m r).c = 0) : mEx m r = ⟨{ (mChange m r).m with au := m.au ++ [entM m r (mChange m r).iss] }, (mChange m r).iss, 0⟩ ∧ (mChange m r).c = 0 ∧ (0 ≤ r.now ∧ r.now ≤ 157785119) ∧ (mStat m).lastMin ≤ r.now ∧ r.list.length ≤ 12 ∧ m.full = false ∧ (mUser m r.user).2.1 = true ∧ (mUser m r.user).2.2 = true := by
  have hg : isRdg r.kind = false := by unfold isCmd at hk; unfold isRdg; simp at hk ⊢; omega
  unfold mEx at hc ⊢
  rw [hk, hg] at hc ⊢
  simp only [Bool.not_true, Bool.false_and, Bool.false_eq_true, if_false] at hc ⊢
  rcases hU : mUser m r.user with ⟨ro, kn, ac⟩
  rw [hU] at hc
  cases kn with
  | false => cases hc
  | true =>
    cases ac with
    | false => cases hc
    | true =>
      simp only [Bool.true_eq_false, if_false] at hc ⊢
      cases hm : mayP ro r.kind with
      | false => rw [hm] at hc; cases hc
      | true =>
        rw [hm] at hc
        simp only [Bool.true_eq_false, if_false] at hc ⊢
        by_cases h1 : r.now < 0
        · rw [if_pos h1] at hc; cases hc
        rw [if_neg h1] at hc ⊢
        by_cases h2 : 157785119 < r.now
        · rw [if_pos h2] at hc; cases hc
        rw [if_neg h2] at hc ⊢
        by_cases h3 : r.now < (mStat m).lastMin
        · rw [if_pos h3] at hc; cases hc
        rw [if_neg h3] at hc ⊢
        by_cases h4 : 12 < r.list.length
        · rw [if_pos h4] at hc; cases hc
        rw [if_neg h4] at hc ⊢
        by_cases h5 : (mChange m r).c = 0
        · rw [if_neg (by simpa using h5)] at hc ⊢
          cases hf : m.full with
          | true => rw [hf, if_pos rfl] at hc; cases hc
          | false =>
            rw [if_neg (by simp)]
            refine ⟨rfl, h5, ⟨by omega, by omega⟩, by omega, by omega, rfl, ?_, ?_⟩ <;> trivial
        · rw [if_pos h5] at hc
          exact absurd hc h5
theorem mUser_us {m m' : Mod} (h : m'.us = m.us) (u : Int) : mUser m' u = mUser m u := by unfold mUser; rw [h]
theorem mUser_root {m : Mod} {u : Int} (h : u = 1) : mUser m u = (1, true, true) := by unfold mUser; rw [if_pos h]
theorem mUser_add {m : Mod} {id role u : Int} (hi : id ≠ 1) (hn : (mUser m id).2.1 = false) : mUser { m with us := m.us ++ [⟨id, role, true⟩] } u = if u = id then (role, true, true) else mUser m u := by
  by_cases hu : u = 1
  · rw [mUser_root hu, if_neg (by omega), mUser_root hu]
  · have e0 : m.us.find? (fun x => x.id == id) = none := by
      rw [mUser_known hi] at hn
      simpa using hn
    unfold mUser
    rw [if_neg hu, if_neg hu]
    simp only [List.find?_append]
    by_cases he : u = id
    · subst he
      rw [e0, if_pos rfl]
      simp
    · rw [if_neg he]
      have : ([⟨id, role, true⟩] : List Usr).find? (fun x => x.id == u) = none := by simp; omega
      rw [this, Option.or_none]
theorem find_off (us : List Usr) (id u : Int) : (us.map (offU id)).find? (fun x => x.id == u) = (us.find? (fun x => x.id == u)).map (offU id) := by
  induction us with
  | nil => rfl
  | cons x us ih =>
    have hid : (offU id x).id = x.id := by unfold offU; split <;> rfl
    rw [List.map_cons, List.find?_cons, List.find?_cons, hid]
    cases (x.id == u) with
    | true => rfl
    | false => exact ih
theorem mUser_off {m : Mod} {id u : Int} (hi : id ≠ 1) : mUser { m with us := m.us.map (offU id) } u = if u = id then ((mUser m u).1, (mUser m u).2.1, false) else mUser m u := by
  by_cases hu : u = 1
  · rw [mUser_root hu, if_neg (by omega), mUser_root hu]
  · unfold mUser
    rw [if_neg hu, if_neg hu]
    simp only [find_off]
    cases hf : m.us.find? (fun x => x.id == u) with
    | none => simp
    | some x =>
      have hx : x.id = u := by have := List.find?_some hf; simpa using this
      simp only [Option.map_some]
      by_cases he : u = id
      · have : offU id x = { x with act := false } := by unfold offU; rw [if_pos (by simp; omega)]
        rw [if_pos he, this]
      · have : offU id x = x := by unfold offU; rw [if_neg (by simp; omega)]
        rw [if_neg he, this]
/-- The users behind an accepted command. -/
theorem us_cmd {q : Nat} {t : ST} {m : Mod} {rows : List Row} {r : Req} {s : Stat} {WS : List WR} (h : TJ q t m rows) (hr : r.Ok) (hk : isCmd r.kind = true) (hc : (mChange m r).c = 0) (hL : ∀ u d, lastW WS (key1B 117 u) d = lastW (handR t.ps t.low s r).ws (key1B 117 u) d) : ∀ u, U32 u → accR (applyW t.ps WS) u = usR (mUser (mChange m r).m u) := by
  intro u hu
  have ea : getB (applyW t.ps WS) (key1B 117 u) = getB t.ps (key1B 117 u) → accR (applyW t.ps WS) u = accR t.ps u := fun q => by unfold accR; rw [q]
  have hus := h.us r.id hr.id
  by_cases k1 : r.kind = 1
  · have em : mChange m r = addU m r := by unfold mChange; rw [if_pos k1]
    have ew : handR t.ps t.low s r = ⟨(addUserR t.ps r).1, s, 0, (addUserR t.ps r).2, t.low⟩ := by unfold handR; rw [if_pos k1]
    rw [em] at hc ⊢
    rw [ew] at hL
    dsimp only at hL
    unfold addU at hc ⊢
    unfold addUserR at hL
    split at hc
    · cases hc
    rename_i n0
    rw [if_neg n0]
    rw [if_neg n0] at hL
    split at hc
    · cases hc
    rename_i n1
    rw [if_neg n1]
    split at hc
    · cases hc
    rename_i n2
    rw [if_neg n2]
    have n2 : (mUser m r.id).2.1 = false := by simpa using n2
    have hro : roleOk r.role = true := by unfold roleOk; simp at n1 ⊢; omega
    rw [hro] at hL
    unfold usR at hus
    rw [n2, if_neg (by simp)] at hus
    rw [hus] at hL
    simp only [Bool.not_true, Bool.false_eq_true, if_false, if_true] at hL
    have ni : r.id ≠ 1 := fun e => by rw [mUser_root e] at n2; cases n2
    have hg := getB_one h.ai.kn hr.id hu hL
    rw [mUser_add ni n2]
    by_cases eu : u = r.id
    · rw [if_pos eu] at hg ⊢
      unfold accR
      rw [if_neg (by simp; omega), hg]
      dsimp only
      rw [decAcc_enc hr.role hro]
      rfl
    · rw [if_neg eu] at hg ⊢
      rw [ea hg]
      exact h.us u hu
  by_cases k2 : r.kind = 2
  · have em : mChange m r = revU m r := by unfold mChange; rw [if_neg k1, if_pos k2]
    have ew : handR t.ps t.low s r = ⟨(revokeR t.ps r).1, s, 0, (revokeR t.ps r).2, t.low⟩ := by unfold handR; rw [if_neg k1, if_pos k2]
    rw [em] at hc ⊢
    rw [ew] at hL
    dsimp only at hL
    unfold revU at hc ⊢
    unfold revokeR at hL
    split at hc
    · cases hc
    rename_i n0
    rw [if_neg n0]
    rw [if_neg n0] at hL
    have ni : r.id ≠ 1 := by simpa using n0
    split at hc
    · cases hc
    rename_i n1
    rw [if_neg n1]
    split at hc
    · cases hc
    rename_i n2
    rw [if_neg n2]
    have n1 : (mUser m r.id).2.1 = true := by simpa using n1
    have n2 : (mUser m r.id).2.2 = true := by simpa using n2
    unfold usR at hus
    rw [n1, n2, if_pos rfl] at hus
    have hro := accR_roleU ni hus
    rw [hus] at hL
    simp only [Bool.not_true, Bool.false_eq_true, if_false] at hL
    have hg := getB_one h.ai.kn hr.id hu hL
    rw [mUser_off ni]
    by_cases eu : u = r.id
    · rw [if_pos eu] at hg ⊢
      unfold accR
      rw [if_neg (by simp; omega), hg]
      dsimp only
      rw [decAcc_enc (roleOk_u8 hro) hro, eu, n1]
      rfl
    · rw [if_neg eu] at hg ⊢
      rw [ea hg]
      exact h.us u hu
  rw [mUser_us (mChange_us hk k1 k2)]
  rw [ea]
  · exact h.us u hu
  · rw [getB_apply _ h.ai.kn, hL]
    exact lastW_none fun x hx e => handR_nou k1 k2 x hx (by rw [e]; rfl)
end Go.Proofs.Qxb6500666aGreatDoor
