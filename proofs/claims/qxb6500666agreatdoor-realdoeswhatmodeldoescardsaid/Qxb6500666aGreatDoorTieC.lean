/- The model beside the real layer: what both hold, step by step. Plain. -/
import Derived.Test.Qxb6500666aGreatDoorTieB
import Derived.Test.Qxb6500666aGreatDoorMdW
namespace Go.Proofs.Qxb6500666aGreatDoor
open Go.RowKit
/-- A user as the store tells it. -/
def usR (R : Int × Bool × Bool) : Except Int (Int × Bool) := if R.2.1 = true then .ok (R.1, R.2.2) else .error 17
/-- The model beside the real layer behind q steps. -/
structure TJ (q : Nat) (t : ST) (m : Mod) (rows : List Row) : Prop where
  low : m.low = t.low
  full : m.full = t.full
  ci : ∃ vf lf, CI t m.fs rows vf lf
  ai : AI t.ps m.au
  st : statR t.ps = .ok (mStat m)
  us : ∀ u, U32 u → accR t.ps u = usR (mUser m u)
  fl : m.fs.length ≤ q
  al : m.au.length ≤ q
  ul : m.us.length ≤ q
  eo : ∀ e ∈ m.au, e.Ok
  tr : rtB 0 m.au = true
theorem TJ.fi {q : Nat} {t : ST} {m : Mod} {rows : List Row} (h : TJ q t m rows) : FI t.ps m.fs rows := by
  obtain ⟨vf, lf, h⟩ := h.ci
  exact h.fi
theorem mUser_none {u : Int} : mUser ⟨low0, [], [], [], false⟩ u = if u = 1 then (1, true, true) else (0, false, false) := by
  unfold mUser
  rfl
theorem TJ.start : TJ 0 st0 ⟨low0, [], [], [], false⟩ [] := by
  refine ⟨rfl, rfl, ⟨_, _, CI.start⟩, AI.start, rfl, fun u _ => ?_, Nat.le_refl _, Nat.le_refl _, Nat.le_refl _, (fun _ h => by cases h), rfl⟩
  rw [mUser_none]
  unfold accR usR
  by_cases h : u = 1
  · simp [h]
  · rw [if_neg (by simpa using h), if_neg h]
    rfl
/-- Who may ask. -/
theorem auth_tie {q : Nat} {t : ST} {m : Mod} {rows : List Row} (h : TJ q t m rows) {u k : Int} (hu : U32 u) : authR t.ps u k = if (mUser m u).2.1 = false then .error 3 else if (mUser m u).2.2 = false then .error 3 else if mayP (mUser m u).1 k = false then .error 4 else .ok (mUser m u).1 := by
  unfold authR
  rw [h.us u hu]
  unfold usR
  obtain ⟨ro, kn, ac⟩ := mUser m u
  cases kn with
  | false => rfl
  | true =>
    cases ac with
    | false => rfl
    | true =>
      simp only [if_true, Bool.not_true, Bool.false_eq_true, if_false]
      cases mayP ro k <;> rfl
theorem pairs_sides : ∀ (f : Nat) (bs ts : List Row), ∀ p ∈ pairs f bs ts, (∀ b, p.1 = some b → b ∈ bs) ∧ (∀ a, p.2 = some a → a ∈ ts)
  | 0, _, _, p, h => by cases h
  | f + 1, [], [], p, h => by cases h
  | f + 1, [], a :: ts, p, h => by
    simp only [pairs] at h
    rcases List.mem_cons.1 h with rfl | h
    · exact ⟨fun b e => (by cases e), fun a' e => by injection e with e; subst e; exact List.mem_cons_self ..⟩
    · have := pairs_sides f [] ts p h
      exact ⟨this.1, fun a' e => List.mem_cons_of_mem _ (this.2 a' e)⟩
  | f + 1, b :: bs, [], p, h => by
    simp only [pairs] at h
    rcases List.mem_cons.1 h with rfl | h
    · exact ⟨fun b' e => by injection e with e; subst e; exact List.mem_cons_self .., fun a' e => by cases e⟩
    · have := pairs_sides f bs [] p h
      exact ⟨fun b' e => List.mem_cons_of_mem _ (this.1 b' e), this.2⟩
  | f + 1, b :: bs, a :: ts, p, h => by
    simp only [pairs] at h
    split at h
    · rcases List.mem_cons.1 h with rfl | h
      · exact ⟨fun b' e => by injection e with e; subst e; exact List.mem_cons_self .., fun a' e => by cases e⟩
      · have := pairs_sides f bs (a :: ts) p h
        exact ⟨fun b' e => List.mem_cons_of_mem _ (this.1 b' e), this.2⟩
    · split at h
      · rcases List.mem_cons.1 h with rfl | h
        · exact ⟨fun b' e => (by cases e), fun a' e => by injection e with e; subst e; exact List.mem_cons_self ..⟩
        · have := pairs_sides f (b :: bs) ts p h
          exact ⟨this.1, fun a' e => List.mem_cons_of_mem _ (this.2 a' e)⟩
      · rcases List.mem_cons.1 h with rfl | h
        · exact ⟨fun b' e => by injection e with e; subst e; exact List.mem_cons_self .., fun a' e => by injection e with e; subst e; exact List.mem_cons_self ..⟩
        · have := pairs_sides f bs ts p h
          exact ⟨fun b' e => List.mem_cons_of_mem _ (this.1 b' e), fun a' e => List.mem_cons_of_mem _ (this.2 a' e)⟩
theorem differ_rows {A B : List Row} {c : Change} (hc : c ∈ differ A B) : (c.action = 87 ∧ c.row ∈ A) ∨ ((c.action = 78 ∨ c.action = 67) ∧ c.row ∈ B) := by
  unfold differ pairsOf at hc
  obtain ⟨x, hx, hy⟩ := mem_flatL hc
  have h1 : (∀ b, x.1 = some b → b ∈ A) ∧ ∀ a, x.2 = some a → a ∈ B := pairs_sides _ A B x hx
  obtain ⟨x1, x2⟩ := x
  cases x1 with
  | none =>
    cases x2 with
    | none => simp [lineOf] at hy
    | some a =>
      simp only [lineOf, List.mem_singleton] at hy
      subst hy
      exact Or.inr ⟨Or.inl rfl, h1.2 a rfl⟩
  | some b =>
    cases x2 with
    | none =>
      simp only [lineOf, List.mem_singleton] at hy
      subst hy
      exact Or.inl ⟨rfl, h1.1 b rfl⟩
    | some a =>
      simp only [lineOf] at hy
      split at hy
      · cases hy
      · simp only [List.mem_singleton] at hy
        subst hy
        exact Or.inr ⟨Or.inr rfl, h1.2 a rfl⟩
theorem lines_rise {cs : List Change} (h : Rise (cs.map (·.row))) (q : Nat) (hq : q < cs.length) : prevBad (prevAt cs q) cs[q].row = false := by
  cases q with
  | zero => rfl
  | succ q =>
    rw [prevAt_succ cs q (by omega)]
    refine prevBad_false.2 ?_
    have := List.pairwise_iff_getElem.1 h q (q + 1) (by simp; omega) (by simpa using hq) (by omega)
    simpa using this
/-- Every row released is a valid one. -/
theorem FI.rowOk {ps : List KV} {fs : List File} {rows : List Row} (h : FI ps fs rows) {r : Row} (hr : r ∈ rows) : RowOk r := by
  obtain ⟨i, j, hi, hj, -, e, -⟩ := h.ptr1 r hr
  rw [← e]
  exact (h.line hi hj).2
/-- The next incremental file is a valid one. -/
theorem inc_fileOk {ps : List KV} {fs : List File} {rows E : List Row} {L : Low} {now : Int} (h : FI ps fs rows) (hl : fs.length ≤ 1000000) (hu : SU L.sm) (hE : eligR L = some E) (hn : 0 ≤ now ∧ now ≤ 157785119) : FileOk 73 (((fs.length : Int) + 1) % 4294967296) now (cumOf fs) ((differ rows E).take 20) := by
  obtain ⟨e1, e2, -⟩ := eligR_spec hu hE
  have hb := h.cumB
  refine ⟨Or.inr rfl, ?_, fun k => by have := k.2; simp at this; omega, fun q hq => ?_⟩
  · unfold NumsOk
    omega
  · have hm : ((differ rows E).take 20)[q] ∈ differ rows E := List.mem_of_mem_take (List.getElem_mem hq)
    refine ⟨Or.inr ⟨by decide, ?_⟩, ?_, lines_rise ?_ q hq⟩
    · rcases differ_rows hm with k | k
      · exact Or.inr (Or.inr k.1)
      · rcases k.1 with k | k
        · exact Or.inl k
        · exact Or.inr (Or.inl k)
    · rcases differ_rows hm with k | k
      · exact h.rowOk k.2
      · obtain ⟨r, -, s, -, -, -, e⟩ := e2 _ k.2
        exact (rowOkB_iff _).1 e
    · rw [List.map_take]
      exact (applyF_look h.rise (apply_differ h.rise e1)).2.1.sublist (List.take_sublist _ _)
/-- The next cumulative file is a valid one. -/
theorem cum_fileOk {ps : List KV} {fs : List File} {rows : List Row} {now : Int} (h : FI ps fs rows) (hl : fs.length ≤ 1000000) (hn : 0 ≤ now ∧ now ≤ 157785119) : FileOk 67 (((fs.length : Int) + 1) % 4294967296) now (cumOf fs) (asCur rows) := by
  have hb := h.cumB
  refine ⟨Or.inl rfl, ?_, fun k => by have := k.1; omega, fun q hq => ?_⟩
  · unfold NumsOk
    omega
  · have hm : (asCur rows)[q] ∈ asCur rows := List.getElem_mem hq
    obtain ⟨r, hr, e⟩ := List.mem_map.1 hm
    refine ⟨Or.inl ⟨rfl, by rw [← e]⟩, by rw [← e]; exact h.rowOk hr, lines_rise ?_ q hq⟩
    have : (asCur rows).map (·.row) = rows := by unfold asCur; rw [List.map_map]; exact List.map_id _
    rw [this]
    exact h.rise
/-- A handler of the real layer beside the model's change. -/
structure HT (R : HR) (C : CR3) (m : Mod) : Prop where
  c : R.c = C.c
  iss : C.c = 0 → R.iss = C.iss
  low : C.c = 0 → C.m.low = R.low
  full : C.m.full = m.full
  au : C.m.au = m.au
theorem mUser_known {m : Mod} {u : Int} (h : u ≠ 1) : (mUser m u).2.1 = (m.us.find? (fun x => x.id == u)).isSome := by
  unfold mUser
  rw [if_neg h]
  cases m.us.find? (fun x => x.id == u) <;> rfl
theorem hand_tie {q : Nat} {t : ST} {m : Mod} {rows : List Row} {r : Req} (h : TJ q t m rows) (hq : q ≤ 65536) (hi : Inv q t) (hu : SU t.low.sm) (hv : VI q t.low) (hr : r.Ok) (hk : isCmd r.kind = true) (hn : 0 ≤ r.now ∧ r.now ≤ 157785119) : HT (handR t.ps t.low (mStat m) r) (mChange m r) m := by
  have hfl := h.fl
  obtain ⟨E, hE⟩ := eligR_some hv hi.low hu
  have hpe : pendR t.ps t.low = some (differ rows E) := by
    unfold pendR
    rw [h.fi.relR (by omega), hE]
  have hmp : mPend m = differ rows E := mPend_eq h.fi (by rw [h.low]; exact hu) (by rw [h.low]; exact hE)
  have hme : mEliB m.low = E := by rw [h.low]; exact mEliB_eq hu hE
  have hl := h.low
  have hus := h.us r.id hr.id
  unfold usR at hus
  rcases kindCmd hk with e | e | e | e | e | e | e | e | e | e | e | e | e | e | e | e | e | e | e | e
  · have e1 : handR t.ps t.low (mStat m) r = ⟨(addUserR t.ps r).1, mStat m, 0, (addUserR t.ps r).2, t.low⟩ := by unfold handR; rw [if_pos e]
    have e2 : mChange m r = addU m r := by unfold mChange; rw [if_pos e]
    rw [e1, e2]
    unfold addU addUserR
    have er : roleOk r.role = !(decide (r.role < 1) || decide (6 < r.role)) := by
      unfold roleOk
      by_cases a1 : r.role < 1
      · have : ¬ 1 ≤ r.role := by omega
        simp [a1, this]
      · by_cases a2 : 6 < r.role
        · have : ¬ r.role ≤ 6 := by omega
          simp [a2, this]
        · have b1 : 1 ≤ r.role := by omega
          have b2 : r.role ≤ 6 := by omega
          simp [a1, a2, b1, b2]
    rw [er]
    cases h0 : (r.id == 0) with
    | true => exact ⟨rfl, fun k => (by cases k), fun k => (by cases k), rfl, rfl⟩
    | false =>
      cases h1 : (decide (r.role < 1) || decide (6 < r.role)) with
      | true => exact ⟨rfl, fun k => (by cases k), fun k => (by cases k), rfl, rfl⟩
      | false =>
        cases h2 : (mUser m r.id).2.1 with
        | true =>
          rw [h2, if_pos rfl] at hus
          rw [hus]
          exact ⟨rfl, fun k => (by cases k), fun k => (by cases k), rfl, rfl⟩
        | false =>
          rw [h2, if_neg (by simp)] at hus
          rw [hus]
          exact ⟨rfl, fun _ => rfl, fun _ => hl, rfl, rfl⟩
  · have e1 : handR t.ps t.low (mStat m) r = ⟨(revokeR t.ps r).1, mStat m, 0, (revokeR t.ps r).2, t.low⟩ := by unfold handR; rw [if_neg (by omega), if_pos e]
    have e2 : mChange m r = revU m r := by unfold mChange; rw [if_neg (by omega), if_pos e]
    rw [e1, e2]
    unfold revU revokeR
    cases h0 : (r.id == 1) with
    | true => exact ⟨rfl, fun k => (by cases k), fun k => (by cases k), rfl, rfl⟩
    | false =>
      cases h2 : (mUser m r.id).2.1 with
      | false =>
        rw [h2, if_neg (by simp)] at hus
        rw [hus]
        exact ⟨rfl, fun k => (by cases k), fun k => (by cases k), rfl, rfl⟩
      | true =>
        rw [h2, if_pos rfl] at hus
        rw [hus]
        cases h3 : (mUser m r.id).2.2 with
        | false => exact ⟨rfl, fun k => (by cases k), fun k => (by cases k), rfl, rfl⟩
        | true => exact ⟨rfl, fun _ => rfl, fun _ => hl, rfl, rfl⟩
  · unfold handR mChange; rw [e, hl]; exact ⟨rfl, fun _ => rfl, fun _ => rfl, rfl, rfl⟩
  · unfold handR mChange; rw [e, hl]; exact ⟨rfl, fun _ => rfl, fun _ => rfl, rfl, rfl⟩
  · unfold handR mChange; rw [e, hl]; exact ⟨rfl, fun _ => rfl, fun _ => rfl, rfl, rfl⟩
  · unfold handR mChange; rw [e, hl]; exact ⟨rfl, fun _ => rfl, fun _ => rfl, rfl, rfl⟩
  · unfold handR mChange; rw [e, hl]; exact ⟨rfl, fun _ => rfl, fun _ => rfl, rfl, rfl⟩
  · have e1 : handR t.ps t.low (mStat m) r = ⟨(shipK t.low r.id r.ref).2, mStat m, 0, [], { t.low with kit := (shipK t.low r.id r.ref).1 }⟩ := by unfold handR; rw [e]; rfl
    have e2 : mChange m r = (if m.low.pr.site.any (fun x : Int => (x == r.ref)) = true then ⟨{ m with low := { m.low with kit := (shipP m.low.kit r.id r.ref).1 } }, 0, (shipP m.low.kit r.id r.ref).2⟩ else ⟨m, 0, 18⟩) := by unfold mChange; rw [e]; rfl
    rw [e1, e2, hl]
    unfold shipK
    cases h0 : t.low.pr.site.any (fun x : Int => (x == r.ref)) with
    | true => exact ⟨rfl, fun _ => rfl, fun _ => rfl, rfl, rfl⟩
    | false => exact ⟨rfl, fun k => (by cases k), fun k => (by cases k), rfl, rfl⟩
  · unfold handR mChange; rw [e, hl]; exact ⟨rfl, fun _ => rfl, fun _ => rfl, rfl, rfl⟩
  · unfold handR mChange; rw [e, hl]; exact ⟨rfl, fun _ => rfl, fun _ => rfl, rfl, rfl⟩
  · unfold handR mChange; rw [e, hl]; exact ⟨rfl, fun _ => rfl, fun _ => rfl, rfl, rfl⟩
  · unfold handR mChange; rw [e, hl]; exact ⟨rfl, fun _ => rfl, fun _ => rfl, rfl, rfl⟩
  · unfold handR mChange; rw [e, hl]; exact ⟨rfl, fun _ => rfl, fun _ => rfl, rfl, rfl⟩
  · unfold handR mChange; rw [e, hl]; exact ⟨rfl, fun _ => rfl, fun _ => rfl, rfl, rfl⟩
  · unfold handR mChange; rw [e, hl]; exact ⟨rfl, fun _ => rfl, fun _ => rfl, rfl, rfl⟩
  · unfold handR mChange; rw [e, hl]; exact ⟨rfl, fun _ => rfl, fun _ => rfl, rfl, rfl⟩
  · unfold handR mChange; rw [e, hl]; exact ⟨rfl, fun _ => rfl, fun _ => rfl, rfl, rfl⟩
  · unfold handR mChange; rw [e, hl]; exact ⟨rfl, fun _ => rfl, fun _ => rfl, rfl, rfl⟩
  · have e1 : handR t.ps t.low (mStat m) r = ⟨(incR t.ps t.low r.now (mStat m) 0).1, (incR t.ps t.low r.now (mStat m) 0).2.1, (incR t.ps t.low r.now (mStat m) 0).2.2.1, (incR t.ps t.low r.now (mStat m) 0).2.2.2, t.low⟩ := by unfold handR; rw [e]; rfl
    have e2 : mChange m r = incM m r := by unfold mChange; rw [e]; rfl
    rw [e1, e2]
    have ei : incR t.ps t.low r.now (mStat m) 0 = (0, { mStat m with transfers := ((mStat m).transfers + 1) % 4294967296 }, ((mStat m).transfers + 1) % 4294967296, ((key1B 104 (((mStat m).transfers + 1) % 4294967296), hdrB (hdrOf 73 (((mStat m).transfers + 1) % 4294967296) r.now (mStat m).lastCum ((differ rows E).take 20))), false) :: incW (((mStat m).transfers + 1) % 4294967296) 0 ((differ rows E).take 20)) := by
      unfold incR
      rw [hpe]
      exact if_pos (inc_fileOk h.fi (by omega) hu hE hn)
    rw [ei]
    refine ⟨rfl, fun _ => ?_, fun _ => hl, rfl, rfl⟩
    show ((m.fs.length : Int) + 1) % 4294967296 = ((m.fs.length + 1 : Nat) : Int)
    omega
  · have e1 : handR t.ps t.low (mStat m) r = ⟨(cumR t.ps t.low r.now (mStat m) 0).1, (cumR t.ps t.low r.now (mStat m) 0).2.1, (cumR t.ps t.low r.now (mStat m) 0).2.2.1, (cumR t.ps t.low r.now (mStat m) 0).2.2.2, t.low⟩ := by unfold handR; rw [e]; rfl
    have e2 : mChange m r = cumM m r := by unfold mChange; rw [e]; rfl
    rw [e1, e2]
    unfold cumM
    rw [hmp]
    unfold cumR
    rw [hpe]
    by_cases hz : 0 < (differ rows E).length
    · simp only [if_pos hz]
      exact ⟨rfl, fun k => (by cases k), fun k => (by cases k), rfl, rfl⟩
    · simp only [if_neg hz]
      rw [h.fi.relR (by omega)]
      simp only
      rw [if_pos (show FileOk 67 (((mStat m).transfers + 1) % 4294967296) r.now (mStat m).lastCum (asCur rows) from cum_fileOk h.fi (by omega) hn)]
      refine ⟨rfl, fun _ => ?_, fun _ => hl, rfl, rfl⟩
      show ((m.fs.length : Int) + 1) % 4294967296 = ((m.fs.length + 1 : Nat) : Int)
      omega
end Go.Proofs.Qxb6500666aGreatDoor
