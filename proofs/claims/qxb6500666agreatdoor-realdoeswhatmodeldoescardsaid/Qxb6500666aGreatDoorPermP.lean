/- Permission comes first: the plain law. -/
import Derived.Test.Qxb6500666aGreatDoorLawX
import Derived.Test.Qxb6500666aGreatDoorNote
import Derived.Test.Qxb6500666aGreatDoorKeys
namespace Go.Proofs.Qxb6500666aGreatDoor
open Go.RowKit

/-- A code that speaks of no permission. -/
def PC (c : Int) : Prop := c ≠ 2 ∧ c ≠ 3 ∧ c ≠ 4
/-- Nor of the store's room. -/
def PRc (c : Int) : Prop := (c = 0 ∨ 5 ≤ c) ∧ c ≠ 27
theorem PRc.zero : PRc 0 := ⟨Or.inl rfl, by decide⟩
theorem PRc.of {c : Int} (h : 5 ≤ c ∧ c ≠ 27) : PRc c := ⟨Or.inr h.1, h.2⟩
theorem PRc.pc {c : Int} (h : PRc c) : PC c := by obtain ⟨h, -⟩ := h; unfold PC; omega
theorem ofOpt_e {α : Type} {x : Option α} {c : Int} (h : ofOpt x = .error c) : c = 28 := by
  cases x with
  | none => injection h with h; exact h.symm
  | some _ => cases h
theorem optX_e {α : Type} {x : Option α} {c : Int} (h : optX x = .error c) : c = 28 := by
  cases x with
  | none => injection h with h; exact h.symm
  | some _ => cases h
theorem statR_e {ps : List KV} {c : Int} (h : statR ps = .error c) : c = 28 := by
  unfold statR at h
  split at h
  · cases h
  · exact ofOpt_e h
theorem entR_e {ps : List KV} {u c : Int} (h : entR ps u = .error c) : c = 24 ∨ c = 28 := by
  unfold entR at h
  split at h
  · injection h with h; exact Or.inl h.symm
  · exact Or.inr (ofOpt_e h)
theorem hdrR_e {ps : List KV} {u c : Int} (h : hdrR ps u = .error c) : c = 23 ∨ c = 28 := by
  unfold hdrR at h
  split at h
  · injection h with h; exact Or.inl h.symm
  · exact Or.inr (ofOpt_e h)
theorem fileR_e {ps : List KV} {u c : Int} (h : fileR ps u = .error c) : PRc c := by
  unfold fileR at h
  split at h
  · rename_i e
    injection h with h; subst h
    exact PRc.of (by rcases hdrR_e e with e | e <;> omega)
  · split at h <;> split at h <;> first | (cases h; done) | (injection h with h; exact PRc.of (by omega))
theorem fbR_e {ps : List KV} {u c : Int} (h : fbR ps u = .error c) : PRc c := by
  unfold fbR at h
  split at h
  · rename_i e
    injection h with h; subst h
    exact fileR_e e
  · split at h
    · injection h with h; exact PRc.of (by omega)
    · split at h
      · cases h
      · injection h with h; exact PRc.of (by omega)
theorem recR_e {ps : List KV} {a b c : Int} (h : recR ps a b = .error c) : PRc c := by
  unfold recR at h
  split at h
  · rename_i e
    injection h with h; subst h
    exact PRc.of (by rcases hdrR_e e with e | e <;> omega)
  · split at h
    · rename_i e
      injection h with h; subst h
      unfold fromR at e
      split at e
      · exact PRc.of (by rcases hdrR_e e with e | e <;> omega)
      · cases e
    · repeat' split at h
      all_goals first
        | (cases h; done)
        | (injection h with h; exact PRc.of (by omega))
theorem RV.pr {α : Type} {R : Except Int α} {p : α → Rsp → Prop} {x : Rsp} (h : RV (R.map p) x) (k1 : ∀ c, R = .error c → PRc c) (k2 : ∀ a, p a x → x.code = 0) : PRc x.code := by
  cases R with
  | error c =>
    have h : x = { rsp0 with code := c } := h
    rw [h]
    exact k1 c rfl
  | ok a =>
    have h : p a x := h
    rw [k2 a h]
    exact PRc.zero
theorem rdX_pr {rn kn : Nat → ByteArray} {w w' : World} {ps : List KV} {L : Low} {r : Req} {x : Rsp} (h : RV (rdX rn kn w w' ps L r) x) : PRc x.code := by
  unfold rdX at h
  split at h
  · exact RV.pr h (fun c e => PRc.of (by rcases accR_err e with e | e <;> omega)) (fun a e => by rw [e]; rfl)
  split at h
  · exact RV.pr h (fun c e => PRc.of (by have := statR_e e; omega)) (fun a e => by rw [e]; rfl)
  split at h
  · exact RV.pr h (fun c e => PRc.of (by rcases entR_e e with e | e <;> omega)) (fun a e => by obtain ⟨_, _, _, e, _⟩ := e; rw [e]; rfl)
  split at h
  · unfold rd24X eligX at h
    split at h
    · have h : x = _ := h
      rw [h]
      exact PRc.zero
    · have h : x = _ := h
      rw [h]
      show PRc (eligibR L r.id r.ref).2
      unfold eligibR
      split
      · exact PRc.of (by (try dsimp only); decide)
      · split
        · exact PRc.of (by (try dsimp only); decide)
        · exact PRc.zero
  split at h
  · exact RV.pr h (fun c e => PRc.of (by have := optX_e e; omega)) (fun a e => by obtain ⟨_, _, _, e, _⟩ := e; rw [e]; rfl)
  split at h
  · exact RV.pr h (fun c e => PRc.of (by rcases hdrR_e e with e | e <;> omega)) (fun a e => by rw [e]; rfl)
  split at h
  · exact RV.pr h (fun c e => fbR_e e) (fun a e => by obtain ⟨_, _, _, e, _⟩ := e; rw [e]; rfl)
  split at h
  · unfold rd28X reconX at h
    split at h
    · rename_i e
      have h : x = _ := h
      rw [h]
      exact recR_e e
    · split at h
      · rename_i e
        have h : x = _ := h
        rw [h]
        unfold repR at e
        split at e
        · cases e
        · injection e with e; exact PRc.of (by dsimp only; omega)
      · obtain ⟨_, _, _, _, _, _, h, _⟩ := h
        rw [h]
        exact PRc.zero
  split at h
  · exact RV.pr h (fun c e => PRc.of (by have := optX_e e; omega)) (fun a e => by obtain ⟨_, _, _, e, _⟩ := e; rw [e]; rfl)
  unfold rd30X trailX at h
  split at h
  · have h : x = _ := h
    rw [h]
    exact PRc.of (by (try dsimp only); decide)
  · split at h
    · rename_i e
      have h : x = _ := h
      rw [h]
      unfold rtR at e
      split at e
      · cases e
      · injection e with e; exact PRc.of (by dsimp only; omega)
    · obtain ⟨_, _, _, h, _⟩ := h
      rw [h]
      exact PRc.zero

theorem ite_v {α : Type} {p : Prop} [Decidable p] {a b : α × Int} (h1 : PRc a.2) (h2 : PRc b.2) : PRc (if p then a else b).2 := by
  split
  · exact h1
  · exact h2
theorem amScan_v : ∀ (l seen : List Int), PRc (amScan seen l)
  | [], _ => PRc.zero
  | x :: r, seen => by
    unfold amScan
    split
    · exact PRc.of (by (try dsimp only); decide)
    · split
      · exact PRc.of (by (try dsimp only); decide)
      · exact amScan_v r _
theorem shipP_v (l : List Kit) (id site : Int) : PRc (shipP l id site).2 := by
  unfold shipP
  split
  · exact PRc.of (by (try dsimp only); decide)
  · split
    · exact PRc.of (by (try dsimp only); decide)
    · split
      · exact PRc.of (by (try dsimp only); decide)
      · exact PRc.zero
theorem addUserR_v (ps : List KV) (r : Req) : PRc (addUserR ps r).1 := by
  unfold addUserR
  split
  · exact PRc.of (by (try dsimp only); decide)
  · split
    · exact PRc.of (by (try dsimp only); decide)
    · split
      · exact PRc.of (by (try dsimp only); decide)
      · rename_i e
        split
        · exact PRc.zero
        · exact PRc.of (by rcases accR_err e with e | e <;> (dsimp only; omega))
theorem revokeR_v (ps : List KV) (r : Req) : PRc (revokeR ps r).1 := by
  unfold revokeR
  split
  · exact PRc.of (by (try dsimp only); decide)
  · split
    · rename_i e
      exact PRc.of (by rcases accR_err e with e | e <;> (dsimp only; omega))
    · split
      · exact PRc.of (by (try dsimp only); decide)
      · exact PRc.zero
theorem amendP_v (T : Pr) (e : Int) (l : List Int) : PRc (amendP T e l).2 := by
  unfold amendP
  exact ite_v (PRc.of (by dsimp only; decide)) (ite_v (PRc.of (by dsimp only; decide)) (ite_v (amScan_v l []) (ite_v (PRc.of (by dsimp only; decide)) PRc.zero)))
theorem incR_v (ps : List KV) (L : Low) (now : Int) (s : Stat) (iss : Int) : PRc (incR ps L now s iss).1 := by
  unfold incR
  split
  · exact PRc.of (by (try dsimp only); decide)
  · split
    · exact PRc.zero
    · exact PRc.of (by (try dsimp only); decide)
theorem cumR_v (ps : List KV) (L : Low) (now : Int) (s : Stat) (iss : Int) : PRc (cumR ps L now s iss).1 := by
  unfold cumR
  split
  · exact PRc.of (by (try dsimp only); decide)
  · split
    · exact PRc.of (by (try dsimp only); decide)
    · split
      · exact PRc.of (by (try dsimp only); decide)
      · split
        · exact PRc.zero
        · exact PRc.of (by (try dsimp only); decide)
theorem ite_h {p : Prop} [Decidable p] {a b : HR} (h1 : PRc a.c) (h2 : PRc b.c) : PRc (if p then a else b).c := by
  split
  · exact h1
  · exact h2
theorem handR_v (ps : List KV) (L : Low) (s : Stat) (r : Req) : PRc (handR ps L s r).c := by
  unfold handR
  refine ite_h (addUserR_v ps r) (ite_h (revokeR_v ps r) (ite_h ?_ (ite_h (amendP_v _ _ _) (ite_h ?_ (ite_h ?_ (ite_h ?_ (ite_h ?_ (ite_h ?_ (ite_h ?_ (ite_h ?_ (ite_h ?_ (ite_h ?_ (ite_h ?_ (ite_h ?_ (ite_h ?_ (ite_h ?_ (ite_h ?_ (ite_h (incR_v _ _ _ _ _) (cumR_v _ _ _ _ _)))))))))))))))))))
  · dsimp only
    unfold defineP
    repeat' apply ite_v
    all_goals first | exact PRc.zero | exact PRc.of (by dsimp only; decide)
  · dsimp only
    unfold addSiteP
    repeat' apply ite_v
    all_goals first | exact PRc.zero | exact PRc.of (by dsimp only; decide)
  · dsimp only
    unfold enrolP
    repeat' apply ite_v
    all_goals first | exact PRc.zero | exact PRc.of (by dsimp only; decide)
  · dsimp only
    unfold buildP
    repeat' apply ite_v
    all_goals first | exact PRc.zero | exact PRc.of (by dsimp only; decide)
  · dsimp only
    unfold shipK
    repeat' apply ite_v
    all_goals first | exact PRc.zero | exact PRc.of (by dsimp only; decide) | exact shipP_v _ _ _
  · dsimp only
    unfold accession
    repeat' apply ite_v
    all_goals first | exact PRc.zero | exact PRc.of (by dsimp only; decide)
  · dsimp only
    unfold excursion
    repeat' apply ite_v
    all_goals first | exact PRc.zero | exact PRc.of (by dsimp only; decide)
  · dsimp only
    unfold collection
    repeat' apply ite_v
    all_goals first | exact PRc.zero | exact PRc.of (by dsimp only; decide)
  · dsimp only
    unfold enterR
    repeat' apply ite_v
    all_goals first | exact PRc.zero | exact PRc.of (by dsimp only; decide)
  · dsimp only
    unfold correctR
    repeat' apply ite_v
    all_goals first | exact PRc.zero | exact PRc.of (by dsimp only; decide)
  · dsimp only
    unfold withdrawR
    repeat' apply ite_v
    all_goals first | exact PRc.zero | exact PRc.of (by dsimp only; decide)
  · dsimp only
    unfold raiseQ
    repeat' apply ite_v
    all_goals first | exact PRc.zero | exact PRc.of (by dsimp only; decide)
  · dsimp only
    unfold moveQ
    repeat' apply ite_v
    all_goals first | exact PRc.zero | exact PRc.of (by dsimp only; decide)
  · dsimp only
    unfold moveQ
    repeat' apply ite_v
    all_goals first | exact PRc.zero | exact PRc.of (by dsimp only; decide)
  · dsimp only
    unfold moveQ
    repeat' apply ite_v
    all_goals first | exact PRc.zero | exact PRc.of (by dsimp only; decide)
theorem cmdR_v (ps : List KV) (full : Bool) (off lar : Int) (L : Low) (r : Req) (role : Int) : (cmdR ps full off lar L r role).c = 0 ∨ 5 ≤ (cmdR ps full off lar L r role).c := by
  unfold cmdR
  split
  · rename_i e
    have := statR_e e
    exact Or.inr (by dsimp only; omega)
  split
  · exact Or.inr (by dsimp only; decide)
  split
  · exact Or.inr (by dsimp only; decide)
  split
  · exact Or.inr (by dsimp only; decide)
  unfold cmdH
  split
  · unfold endR
    split
    · exact Or.inr (by dsimp only; decide)
    · exact Or.inl rfl
  · exact (handR_v ps L _ r).1

/-- No write goes to an account. -/
def NoU (ws : List WR) : Prop := ∀ x ∈ ws, x.1.1.head? ≠ some 117
theorem NoU.nil : NoU [] := fun _ h => by cases h
theorem incW_nou (seq : Int) : ∀ (cs : List Change) (i : Nat), NoU (incW seq i cs)
  | [], _ => NoU.nil
  | c :: cs, i => by
    intro x hx
    unfold incW at hx
    rcases List.mem_cons.mp hx with e | hx
    · rw [e]; show some _ ≠ some _; decide
    · rcases List.mem_cons.mp hx with e | hx
      · rw [e]; unfold ptrW; split <;> (show some _ ≠ some _; decide)
      · exact incW_nou seq cs (i + 1) x hx
theorem ite_n {p : Prop} [Decidable p] {a b : HR} (h1 : NoU a.ws) (h2 : NoU b.ws) : NoU (if p then a else b).ws := by
  split
  · exact h1
  · exact h2
theorem incR_nou (ps : List KV) (L : Low) (now : Int) (s : Stat) (iss : Int) : NoU (incR ps L now s iss).2.2.2 := by
  unfold incR
  split
  · exact NoU.nil
  · split
    · intro x hx
      rcases List.mem_cons.mp hx with e | hx
      · rw [e]; show some _ ≠ some _; decide
      · exact incW_nou _ _ _ x hx
    · exact NoU.nil
theorem cumR_nou (ps : List KV) (L : Low) (now : Int) (s : Stat) (iss : Int) : NoU (cumR ps L now s iss).2.2.2 := by
  unfold cumR
  split
  · exact NoU.nil
  · split
    · exact NoU.nil
    · split
      · exact NoU.nil
      · split
        · intro x hx
          rcases List.mem_cons.mp hx with e | hx
          · rw [e]; show some _ ≠ some _; decide
          · cases hx
        · exact NoU.nil
theorem handR_nou {ps : List KV} {L : Low} {s : Stat} {r : Req} (h1 : r.kind ≠ 1) (h2 : r.kind ≠ 2) : NoU (handR ps L s r).ws := by
  unfold handR
  rw [if_neg h1, if_neg h2]
  iterate 16 refine ite_n NoU.nil ?_
  exact ite_n (incR_nou _ _ _ _ _) (cumR_nou _ _ _ _ _)
theorem last_u (R : HR) (r : Req) (role u : Int) (d : Option (List Int)) : lastW (wsAll R r role) (key1B 117 u) d = lastW R.ws (key1B 117 u) d := by
  unfold wsAll
  rw [lastW_app, lastW_app]
  rw [lastW_none (ws := [((key0B 115, statB (stNext R.st r.now)), false)]), lastW_none (ws := [((key1B 97 (stNext R.st r.now).entries, entB role R.iss r), false)])]
  · intro x hx
    rw [List.mem_singleton.mp hx]
    exact head_ne (key1B_head _ _) (key1B_head _ _) (by decide)
  · intro x hx
    rw [List.mem_singleton.mp hx]
    exact head_ne (key0B_head _) (key1B_head _ _) (by decide)

/-- The accounts in the store are those that the law follows. -/
structure UI (ps : List KV) (ro : Int → Option Int) (ac : Int → Option Bool) : Prop where
  kn : KN ps
  u : ∀ u, U32 u → (ac u = some true ∧ accR ps u = .ok ((ro u).getD 0, true)) ∨ (ac u ≠ some true ∧ (accR ps u = .error 17 ∨ ∃ r, accR ps u = .ok (r, false)))
theorem UI.start : UI [] ro0 ac0 := by
  refine ⟨KN.nil, fun u hu => ?_⟩
  by_cases h : u = 1
  · subst h
    exact Or.inl ⟨rfl, rfl⟩
  · refine Or.inr ⟨?_, Or.inl ?_⟩
    · unfold ac0 upd
      rw [if_neg h]
      simp
    · unfold accR
      rw [if_neg (by simpa using h)]
      rfl
theorem accR_roleU {ps : List KV} {u r : Int} {b : Bool} (h1 : u ≠ 1) (h : accR ps u = .ok (r, b)) : roleOk r = true := by
  unfold accR at h
  rw [if_neg (by simpa using h1)] at h
  split at h
  · cases h
  · rename_i v _
    cases e : decAcc v with
    | none => rw [e] at h; cases h
    | some x =>
      rw [e] at h
      injection h with h
      rw [h] at e
      unfold decAcc at e
      dsimp only at e
      split at e
      · cases e
      · split at e
        · cases e
        · rename_i k
          split at e
          · cases e
          · injection e with e
            injection e with e1 e2
            rw [← e1]
            simpa using k
theorem roleOk_u8 {r : Int} (h : roleOk r = true) : U8 r := by
  unfold roleOk at h
  simp at h
  exact ⟨by omega, by omega⟩
theorem exR_same {ps : List KV} {full : Bool} {off lar : Int} {L : Low} {r : Req} (h : (exR ps full off lar L r).c ≠ 0) : (exR ps full off lar L r).ps = ps := by
  unfold exR at h ⊢
  split
  · rfl
  rename_i h0
  rw [if_neg h0] at h
  split
  · rfl
  · rename_i role ha
    rw [ha] at h
    dsimp only at h
    split
    · rfl
    · rename_i h1
      rw [if_neg h1] at h
      unfold cmdR at h ⊢
      split
      · rfl
      · rename_i s hs
        rw [hs] at h
        dsimp only at h
        split
        · rfl
        rename_i h2
        rw [if_neg h2] at h
        split
        · rfl
        rename_i h3
        rw [if_neg h3] at h
        split
        · rfl
        rename_i h4
        rw [if_neg h4] at h
        unfold cmdH at h ⊢
        split
        · rename_i h5
          rw [if_pos h5] at h
          unfold endR at h ⊢
          split
          · rfl
          · rename_i h6
            rw [if_neg h6] at h
            exact absurd rfl h
        · rfl
theorem exR_rd {ps : List KV} {full : Bool} {off lar : Int} {L : Low} {r : Req} (h : isCmd r.kind = false) : (exR ps full off lar L r).ps = ps ∧ (exR ps full off lar L r).low = L := by
  unfold exR
  cases hr : isRdg r.kind with
  | false =>
    rw [if_pos (by rw [h]; rfl)]
    exact ⟨rfl, rfl⟩
  | true =>
    rw [if_neg (by rw [h]; decide)]
    cases authR ps r.user r.kind with
    | error c => exact ⟨rfl, rfl⟩
    | ok role => exact ⟨rfl, rfl⟩
/-- An accepted command. -/
theorem exR_acc {ps : List KV} {full : Bool} {off lar : Int} {L : Low} {r : Req} (hk : isCmd r.kind = true) (h : (exR ps full off lar L r).c = 0) : ∃ role s, authR ps r.user r.kind = .ok role ∧ statR ps = .ok s ∧ (0 ≤ r.now ∧ r.now ≤ 157785119) ∧ s.lastMin ≤ r.now ∧ r.list.length ≤ 12 ∧ (handR ps L s r).c = 0 ∧ full = false ∧ sizeW (wsAll (handR ps L s r) r role) ≤ 3000 ∧ exR ps full off lar L r = ⟨0, (handR ps L s r).iss, applyW ps (wsAll (handR ps L s r) r role), off + 1, larN lar (wsAll (handR ps L s r) r role), (handR ps L s r).low⟩ := by
  have hr : isRdg r.kind = false := by
    unfold isCmd at hk
    unfold isRdg
    simp at hk ⊢
    omega
  unfold exR at h ⊢
  rw [hk, hr] at h ⊢
  simp only [Bool.not_true, Bool.false_and, Bool.false_eq_true, if_false] at h ⊢
  split at h
  · rename_i c ha
    dsimp only at h
    subst h
    unfold authR at ha
    split at ha
    · rename_i c e
      split at ha
      · cases ha
      · injection ha with ha
        rcases accR_err e with k | k <;> omega
    · split at ha
      · cases ha
      · split at ha <;> cases ha
  · rename_i role ha
    rw [ha]
    try dsimp only
    unfold cmdR at h ⊢
    split at h
    · rename_i e
      have := statR_e e
      dsimp only at h
      omega
    · rename_i s hs
      rw [hs]
      try dsimp only
      split at h
      · cases h
      rename_i h2
      rw [if_neg h2]
      split at h
      · cases h
      rename_i h3
      rw [if_neg h3]
      split at h
      · cases h
      rename_i h4
      rw [if_neg h4]
      unfold cmdH at h ⊢
      split at h
      · rename_i h5
        rw [if_pos h5]
        unfold endR at h ⊢
        split at h
        · cases h
        · rename_i h6
          rw [if_neg h6]
          simp only [Bool.or_eq_true, decide_eq_true_eq, not_or] at h6
          refine ⟨role, s, rfl, rfl, Classical.not_not.mp h2, by omega, by omega, h5, ?_, by omega, rfl⟩
          cases full with
          | false => rfl
          | true => exact absurd rfl h6.2
      · rename_i h5
        exact absurd h h5
theorem UI.other {ps : List KV} {ro : Int → Option Int} {ac : Int → Option Bool} (h : UI ps ro ac) {ws : List WR} (hw : ∀ u d, lastW ws (key1B 117 u) d = d) : UI (applyW ps ws) ro ac := by
  refine ⟨h.kn.apply ws, fun u hu => ?_⟩
  have e : accR (applyW ps ws) u = accR ps u := by
    unfold accR
    rw [getB_apply ws h.kn, hw]
  rw [e]
  exact h.u u hu
theorem getB_one {ps : List KV} (hk : KN ps) {ws : List WR} {i u : Int} {v : List Int} (hi : U32 i) (hu : U32 u) (hw : ∀ u d, lastW ws (key1B 117 u) d = lastW [((key1B 117 i, v), false)] (key1B 117 u) d) : getB (applyW ps ws) (key1B 117 u) = if u = i then some v else getB ps (key1B 117 u) := by
  rw [getB_apply ws hk, hw]
  show (if key1B 117 i = key1B 117 u then (if false = true then none else some v) else _) = _
  by_cases e : u = i
  · subst e
    rw [if_pos rfl, if_pos rfl]
    rfl
  · rw [if_neg e, if_neg (fun q => e (key1B_inj hi hu q).symm)]
/-- The accounts behind an accepted command. -/
theorem UI.cmd {ps : List KV} {ro : Int → Option Int} {ac : Int → Option Bool} {full : Bool} {off lar : Int} {L : Low} {o : Op} (h : UI ps ro ac) (hr : o.req.Ok) (hk : isCmd o.req.kind = true) (hc : (exR ps full off lar L o.req).c = 0) : UI (exR ps full off lar L o.req).ps (noteRo ro o true) (noteAc ac o true) := by
  obtain ⟨role, s, ha, hs, -, -, -, h5, -, -, e⟩ := exR_acc hk hc
  rw [e]
  dsimp only
  clear hc e
  have hL : ∀ u d, lastW (wsAll (handR ps L s o.req) o.req role) (key1B 117 u) d = lastW (handR ps L s o.req).ws (key1B 117 u) d := fun u d => last_u _ _ _ _ _
  generalize wsAll (handR ps L s o.req) o.req role = WS at hL ⊢
  by_cases k1 : o.req.kind = 1
  · have en : noteRo ro o true = upd ro o.req.id (some o.req.role) ∧ noteAc ac o true = upd ac o.req.id (some true) := by unfold noteRo noteAc; simp [k1]
    rw [en.1, en.2]
    have ew : handR ps L s o.req = ⟨(addUserR ps o.req).1, s, 0, (addUserR ps o.req).2, L⟩ := by unfold handR; rw [if_pos k1]
    rw [ew] at h5 hL
    dsimp only at h5 hL
    unfold addUserR at h5 hL
    split at h5
    · cases h5
    rename_i n1
    rw [if_neg n1] at hL
    split at h5
    · cases h5
    rename_i n2
    rw [if_neg n2] at hL
    have n2 : roleOk o.req.role = true := by simpa using n2
    split at h5
    · cases h5
    · rename_i c ec
      rw [ec] at hL
      dsimp only at hL
      have hc : c = 17 := by
        rcases accR_err ec with k | k
        · exact k
        · rw [if_neg (by omega)] at h5
          dsimp only at h5
          omega
      rw [if_pos hc] at hL
      refine ⟨h.kn.apply _, fun u hu => ?_⟩
      have hg := getB_one h.kn hr.id hu hL
      have ni : o.req.id ≠ 1 := by
        intro q
        rw [q] at ec
        cases ec
      by_cases eu : u = o.req.id
      · subst eu
        rw [if_pos rfl] at hg
        refine Or.inl ⟨by unfold upd; rw [if_pos rfl], ?_⟩
        unfold accR
        rw [if_neg (by simpa using ni), hg]
        dsimp only
        rw [decAcc_enc hr.role n2]
        unfold upd
        rw [if_pos rfl]
        rfl
      · rw [if_neg eu] at hg
        have ea : ∀ (ws : List WR), getB (applyW ps ws) (key1B 117 u) = getB ps (key1B 117 u) → accR (applyW ps ws) u = accR ps u := fun ws q => by unfold accR; rw [q]
        rw [ea _ hg]
        unfold upd
        rw [if_neg eu, if_neg eu]
        exact h.u u hu
  by_cases k2 : o.req.kind = 2
  · have en : noteRo ro o true = ro ∧ noteAc ac o true = upd ac o.req.id (some false) := by unfold noteRo noteAc; simp [k2]
    rw [en.1, en.2]
    have ew : handR ps L s o.req = ⟨(revokeR ps o.req).1, s, 0, (revokeR ps o.req).2, L⟩ := by unfold handR; rw [if_neg k1, if_pos k2]
    rw [ew] at h5 hL
    dsimp only at h5 hL
    unfold revokeR at h5 hL
    split at h5
    · cases h5
    rename_i n1
    rw [if_neg n1] at hL
    have ni : o.req.id ≠ 1 := by simpa using n1
    split at h5
    · rename_i c ec
      dsimp only at h5
      rcases accR_err ec with k | k <;> omega
    · rename_i a ea
      rw [ea] at hL
      dsimp only at hL
      split at h5
      · cases h5
      rename_i n2
      rw [if_neg n2] at hL
      have hro := accR_roleU ni ea
      refine ⟨h.kn.apply _, fun u hu => ?_⟩
      have hg := getB_one h.kn hr.id hu hL
      by_cases eu : u = o.req.id
      · subst eu
        rw [if_pos rfl] at hg
        refine Or.inr ⟨by unfold upd; rw [if_pos rfl]; simp, Or.inr ⟨a.1, ?_⟩⟩
        unfold accR
        rw [if_neg (by simpa using ni), hg]
        dsimp only
        rw [decAcc_enc (roleOk_u8 hro) hro]
        rfl
      · rw [if_neg eu] at hg
        have ea : ∀ (ws : List WR), getB (applyW ps ws) (key1B 117 u) = getB ps (key1B 117 u) → accR (applyW ps ws) u = accR ps u := fun ws q => by unfold accR; rw [q]
        rw [ea _ hg]
        unfold upd
        rw [if_neg eu]
        exact h.u u hu
  have en : noteRo ro o true = ro ∧ noteAc ac o true = ac := by unfold noteRo noteAc; simp [k1, k2]
  rw [en.1, en.2]
  refine h.other fun u d => ?_
  rw [hL]
  exact lastW_none fun x hx q => handR_nou k1 k2 x hx (by rw [q]; rfl)
/-- The accounts behind a step. -/
theorem UI.step {ro : Int → Option Int} {ac : Int → Option Bool} {t : ST} {o : Op} {rn kn : Nat → ByteArray} {w w' : World} {x : Rsp} (h : UI t.ps ro ac) (hr : o.req.Ok) (ha : AnsP rn kn w w' t o x) : UI (stepR t o).ps (noteRo ro o (accP o x)) (noteAc ac o (accP o x)) := by
  have hf : noteRo ro o false = ro ∧ noteAc ac o false = ac := by unfold noteRo noteAc; simp
  by_cases k : o.kind = 1
  · have es : (stepR t o).ps = (exR t.ps t.full t.off t.lar t.low o.req).ps := by unfold stepR; rw [if_pos k]
    rw [es]
    obtain ⟨r1, r2⟩ := ha.2 k
    cases hc : isCmd o.req.kind with
    | false =>
      have e1 : accP o x = false := by unfold accP; rw [hc]; simp
      rw [e1, hf.1, hf.2]
      have : (exR t.ps t.full t.off t.lar t.low o.req).ps = t.ps := (exR_rd hc).1
      rw [this]
      exact h
    | true =>
      have hrd : isRdg o.req.kind = false := by
        unfold isCmd at hc
        unfold isRdg
        simp at hc ⊢
        omega
      have ex := r2 (Or.inl hrd)
      have ec : x.code = (exR t.ps t.full t.off t.lar t.low o.req).c := by rw [ex]
      by_cases z : (exR t.ps t.full t.off t.lar t.low o.req).c = 0
      · have e1 : accP o x = true := by unfold accP; rw [hc, ec, z, k]; rfl
        rw [e1]
        exact h.cmd hr hc z
      · have e1 : accP o x = false := by unfold accP; rw [hc, ec]; simp [z]
        rw [e1, hf.1, hf.2, exR_same z]
        exact h
  · have e1 : accP o x = false := by unfold accP; simp [k]
    rw [e1, hf.1, hf.2]
    have es : (stepR t o).ps = t.ps := by
      unfold stepR
      rw [if_neg k]
      split <;> rfl
    rw [es]
    exact h

/-- What the law wants. -/
def wantP (ro : Int → Option Int) (ac : Int → Option Bool) (r : Req) : Int :=
  if (! isCmd r.kind && ! isRdg r.kind) = true then 2 else if ac r.user = some true then (if mayP ((ro r.user).getD 0) r.kind = true then 0 else 4) else 3
theorem perm_first {ro : Int → Option Int} {ac : Int → Option Bool} {t : ST} {o : Op} {rn kn : Nat → ByteArray} {w w' : World} {x : Rsp} (h : UI t.ps ro ac) (hr : o.req.Ok) (ha : AnsP rn kn w w' t o x) (hk : o.kind = 1) :
    (wantP ro ac o.req ≠ 0 → x.code = wantP ro ac o.req ∧ (stepR t o).off = t.off) ∧ (wantP ro ac o.req = 0 → PC x.code) := by
  have es : (stepR t o).off = (exR t.ps t.full t.off t.lar t.low o.req).off := by unfold stepR; rw [if_pos hk]
  rw [es]
  obtain ⟨r1, r2⟩ := ha.2 hk
  by_cases h0 : (! isCmd o.req.kind && ! isRdg o.req.kind) = true
  · have ew : wantP ro ac o.req = 2 := by unfold wantP; rw [if_pos h0]
    rw [ew]
    have hrd : isRdg o.req.kind = false := by simp at h0; exact h0.2
    have ee : exR t.ps t.full t.off t.lar t.low o.req = ⟨2, 0, t.ps, t.off, t.lar, t.low⟩ := by unfold exR; rw [if_pos h0]
    refine ⟨fun _ => ⟨?_, by rw [ee]⟩, fun q => absurd q (by decide)⟩
    rw [r2 (Or.inl hrd), ee]
  have exE : ∀ c, authR t.ps o.req.user o.req.kind = .error c → exR t.ps t.full t.off t.lar t.low o.req = ⟨c, 0, t.ps, t.off, t.lar, t.low⟩ := fun c q => by unfold exR; rw [if_neg h0, q]
  have bad : ∀ c, authR t.ps o.req.user o.req.kind = .error c → x.code = c ∧ (exR t.ps t.full t.off t.lar t.low o.req).off = t.off := fun c q => ⟨by rw [r2 (Or.inr ⟨c, q⟩), exE c q], by rw [exE c q]⟩
  rcases h.u o.req.user hr.user with ⟨u1, u2⟩ | ⟨u1, u2⟩
  · by_cases hm : mayP ((ro o.req.user).getD 0) o.req.kind = true
    · have ew : wantP ro ac o.req = 0 := by unfold wantP; rw [if_neg h0, if_pos u1, if_pos hm]
      rw [ew]
      refine ⟨fun q => absurd rfl q, fun _ => ?_⟩
      have hau : authR t.ps o.req.user o.req.kind = .ok ((ro o.req.user).getD 0) := by
        unfold authR
        rw [u2]
        dsimp only
        rw [if_neg (by simp), if_neg (by simp [hm])]
      cases hrd : isRdg o.req.kind with
      | true => exact (rdX_pr (r1 hrd _ hau)).pc
      | false =>
        rw [r2 (Or.inl hrd)]
        show PC (exR t.ps t.full t.off t.lar t.low o.req).c
        unfold exR
        rw [if_neg h0, hau]
        dsimp only
        rw [if_neg (by rw [hrd]; simp)]
        have := cmdR_v t.ps t.full t.off t.lar t.low o.req ((ro o.req.user).getD 0)
        unfold PC
        omega
    · have ew : wantP ro ac o.req = 4 := by unfold wantP; rw [if_neg h0, if_pos u1, if_neg hm]
      rw [ew]
      have hau : authR t.ps o.req.user o.req.kind = .error 4 := by
        unfold authR
        rw [u2]
        dsimp only
        rw [if_neg (by simp), if_pos (by simpa using hm)]
      exact ⟨fun _ => bad 4 hau, fun q => absurd q (by decide)⟩
  · have ew : wantP ro ac o.req = 3 := by unfold wantP; rw [if_neg h0, if_neg u1]
    rw [ew]
    have hau : authR t.ps o.req.user o.req.kind = .error 3 := by
      unfold authR
      rcases u2 with u2 | ⟨r, u2⟩
      · rw [u2]
        dsimp only
        rw [if_pos rfl]
      · rw [u2]
        dsimp only
        rw [if_pos (by simp)]
    exact ⟨fun _ => bad 3 hau, fun q => absurd q (by decide)⟩

end Go.Proofs.Qxb6500666aGreatDoor
