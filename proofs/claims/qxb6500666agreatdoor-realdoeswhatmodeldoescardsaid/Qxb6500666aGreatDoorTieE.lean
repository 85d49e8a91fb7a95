/- The model beside the real layer behind every step. Plain. -/
import Derived.Test.Qxb6500666aGreatDoorTieD
namespace Go.Proofs.Qxb6500666aGreatDoor
open Go.RowKit
/-- The counts behind an accepted command. -/
theorem st_cmd {q : Nat} {t : ST} {m : Mod} {rows : List Row} {r : Req} {role : Int} (h : TJ q t m rows) (hq : q ≤ 65536) (hn : 0 ≤ r.now ∧ r.now ≤ 157785119) {es : List Ent} {fs : List File} {rows' : List Row}
    (ha : AI (applyW t.ps (wsAll (handR t.ps t.low (mStat m) r) r role)) es) (hf : FI (applyW t.ps (wsAll (handR t.ps t.low (mStat m) r) r role)) fs rows') (he : es.getLast?.map (fun e => e.req.now) = some r.now) : statR (applyW t.ps (wsAll (handR t.ps t.low (mStat m) r) r role)) = .ok ⟨es.length, fs.length, cumOf fs, (es.getLast?.map (fun e => e.req.now)).getD 0⟩ := by
  have hb := h.fi.cumB
  have hfl := h.fl
  have hal := h.al
  have hs := handR_stn t.ps t.low (mStat m) r
  have hst : (stNext (handR t.ps t.low (mStat m) r).st r.now).Ok ∧ (handR t.ps t.low (mStat m) r).st.lastCum ≤ (handR t.ps t.low (mStat m) r).st.transfers := by
    have i1 : (mStat m).entries = m.au.length := rfl
    have i2 : (mStat m).transfers = m.fs.length := rfl
    have i3 : (mStat m).lastCum = cumOf m.fs := rfl
    rcases hs.1 with e | e | e
    · rw [e]
      exact ⟨⟨⟨by simp only [stNext]; omega, by simp only [stNext]; omega⟩, ⟨by simp only [stNext]; omega, by simp only [stNext]; omega⟩, ⟨by simp only [stNext]; omega, by simp only [stNext]; omega⟩, ⟨by simp only [stNext]; omega, by simp only [stNext]; omega⟩⟩, by omega⟩
    · rw [e]
      exact ⟨⟨⟨by simp only [stNext]; omega, by simp only [stNext]; omega⟩, ⟨by simp only [stNext]; omega, by simp only [stNext]; omega⟩, ⟨by simp only [stNext]; omega, by simp only [stNext]; omega⟩, ⟨by simp only [stNext]; omega, by simp only [stNext]; omega⟩⟩, by dsimp only; omega⟩
    · rw [e]
      exact ⟨⟨⟨by simp only [stNext]; omega, by simp only [stNext]; omega⟩, ⟨by simp only [stNext]; omega, by simp only [stNext]; omega⟩, ⟨by simp only [stNext]; omega, by simp only [stNext]; omega⟩, ⟨by simp only [stNext]; omega, by simp only [stNext]; omega⟩⟩, by dsimp only; omega⟩
  have hw := stat_ws h.fi.kn (handR t.ps t.low (mStat m) r) r role hst.1 hst.2 hn
  obtain ⟨s1, e1, a1, -⟩ := ha.st
  obtain ⟨s2, e2, b1, b2, -⟩ := hf.st
  rw [hw] at e1 e2
  injection e1 with e1
  injection e2 with e2
  rw [hw, he]
  rw [← e1] at a1
  rw [← e2] at b1 b2
  congr 1
  have e3 : (stNext (handR t.ps t.low (mStat m) r).st r.now).lastMin = r.now := rfl
  generalize stNext (handR t.ps t.low (mStat m) r).st r.now = S at *
  obtain ⟨x1, x2, x3, x4⟩ := S
  dsimp only at a1 b1 b2 e3
  rw [a1, b1, b2, e3]
  rfl
/-- The files behind an accepted command are the model's. -/
theorem fs_cmd {q : Nat} {t : ST} {m : Mod} {rows rows' : List Row} {fs' : List File} {r : Req} {iss : Int} {L' : Low} (h : TJ q t m rows) (hu : SU t.low.sm) (hk : isCmd r.kind = true) (hc : (mChange m r).c = 0) (hs : FStep t.low r iss m.fs rows fs' rows' L') : (mChange m r).m.fs = fs' := by
  rcases hs with ⟨k1, k2, e, -⟩ | ⟨k, -, -, E, hE, e, -⟩ | ⟨k, -, -, hE, e, -⟩
  · rw [mChange_fs hk k1 k2, e]
  · have em : mChange m r = incM m r := by unfold mChange; rw [k]; rfl
    rw [em, e]
    unfold incM fileM
    dsimp only
    rw [mPend_eq h.fi (by rw [h.low]; exact hu) (by rw [h.low]; exact hE)]
    rfl
  · have em : mChange m r = cumM m r := by unfold mChange; rw [k]; rfl
    rw [em] at hc ⊢
    unfold cumM at hc ⊢
    split at hc
    · cases hc
    rename_i hz
    rw [if_neg hz, e]
    unfold fileM cumLn
    dsimp only
    rw [h.low, mEliB_eq hu hE]
    rfl
theorem rtB_add : ∀ (xs : List Ent) (i : Nat) (x : Ent), rtB i (xs ++ [x]) = (rtB i xs && entOk x ((i + xs.length + 1 : Nat) : Int))
  | [], i, x => by simp [rtB]
  | y :: xs, i, x => by
    rw [List.cons_append, rtB, rtB, rtB_add xs (i + 1) x]
    split
    · rw [List.length_cons, show i + 1 + xs.length + 1 = i + (xs.length + 1) + 1 by omega]
    · rfl
theorem mChange_ul {m : Mod} {r : Req} (hk : isCmd r.kind = true) : (mChange m r).m.us.length ≤ m.us.length + 1 := by
  by_cases k1 : r.kind = 1
  · have em : mChange m r = addU m r := by unfold mChange; rw [if_pos k1]
    rw [em]
    unfold addU
    repeat' split
    all_goals simp
  by_cases k2 : r.kind = 2
  · have em : mChange m r = revU m r := by unfold mChange; rw [if_neg k1, if_pos k2]
    rw [em]
    unfold revU
    repeat' split
    all_goals simp
  rw [mChange_us hk k1 k2]
  omega
theorem TJ.up {q : Nat} {t : ST} {m : Mod} {rows : List Row} (h : TJ q t m rows) : TJ (q + 1) t m rows := ⟨h.low, h.full, h.ci, h.ai, h.st, h.us, by have := h.fl; omega, by have := h.al; omega, by have := h.ul; omega, h.eo, h.tr⟩
/-- The model beside the real layer behind a step. -/
theorem TJ.step {q : Nat} {t : ST} {m : Mod} {rows : List Row} {o : Op} (h : TJ q t m rows) (hq : q < 65536) (hi : Inv q t) (hu : SU t.low.sm) (hv : VI q t.low) (hr : o.req.Ok) (hids : ∀ y ∈ o.req.list, U32 y) :
    ∃ rows', TJ (q + 1) (stepR t o) (mStep m o) rows' ∧ (AccS t o → FStep t.low o.req (mEx m o.req).iss m.fs rows (mStep m o).fs rows' (stepR t o).low) := by
  obtain ⟨vf, lf, hci⟩ := h.ci
  have hcs := hci.step (o := o) (by omega : q ≤ 65536) h.fl hi hu hv
  by_cases ha : AccS t o
  · obtain ⟨fs', rows', hc', hfl', hst⟩ := hcs.2 ha
    obtain ⟨k1, hk, hc0⟩ := ha
    obtain ⟨t1, t2, -⟩ := ex_tie h (by omega) hi hu hv hr
    rw [hc0] at t1
    obtain ⟨e1, e2, e3, e4, e5, e6, e7, e8⟩ := ex_acc hk t1.symm
    obtain ⟨role, s, a1, a2, a3, a4, a5, a6, a7, a8, a9⟩ := exR_acc hk hc0
    have hs : s = mStat m := by rw [h.st] at a2; injection a2 with a2; exact a2.symm
    subst hs
    have hms : mStep m o = { (mChange m o.req).m with au := m.au ++ [entM m o.req (mChange m o.req).iss] } := by unfold mStep; rw [if_pos k1, e1]
    have hps : (stepR t o).ps = applyW t.ps (wsAll (handR t.ps t.low (mStat m) o.req) o.req role) := by rw [stepR_one k1, a9]
    have ht := hand_tie h (by omega) hi hu hv hr hk e3
    have hfs : (mStep m o).fs = fs' := by rw [hms]; exact fs_cmd h hu hk e2 hst
    have hro : role = (mUser m o.req.user).1 := by
      rw [auth_tie h hr.user, e7, e8] at a1
      simp only [Bool.true_eq_false, if_false] at a1
      split at a1
      · cases a1
      · injection a1 with a1; exact a1.symm
    obtain ⟨role2, b1, b2⟩ := h.ai.cmd (full := t.full) (off := t.off) (lar := t.lar) (L := t.low) hr hids (by have := h.al; omega) hk hc0
    have hr2 : role2 = (mUser m o.req.user).1 := by
      rw [h.us _ hr.user] at b1
      unfold usR at b1
      rw [e7, if_pos rfl] at b1
      injection b1 with b1
      exact (congrArg Prod.fst b1).symm
    have hai : AI (stepR t o).ps (mStep m o).au := by
      rw [stepR_one k1, hms]
      dsimp only
      unfold entM
      rw [← hr2, show (mChange m o.req).iss = (exR t.ps t.full t.off t.lar t.low o.req).iss by rw [t2, e1]]
      exact b2
    have hfi : FI (stepR t o).ps (mStep m o).fs rows' := by rw [hfs]; exact hc'.fi
    refine ⟨rows', ⟨?_, ?_, ⟨_, _, by rw [hfs]; exact hc'⟩, hai, ?_, ?_, by rw [hfs]; omega, ?_, ?_, ?_, ?_⟩, fun _ => ?_⟩
    · rw [hms, stepR_one k1, a9]
      dsimp only
      exact ht.low e2
    · rw [hms, stepR_one k1]
      dsimp only
      rw [ht.full, h.full]
    · rw [hps] at hai hfi ⊢
      have := st_cmd h (by omega) e3 hai hfi (by rw [hms]; simp [entM])
      exact this
    · rw [hps]
      intro u hu'
      have := us_cmd h hr hk e2 (WS := wsAll (handR t.ps t.low (mStat m) o.req) o.req role) (fun u d => last_u _ _ _ _ _) u hu'
      rw [this]
      congr 1
      rw [hms]
      rfl
    · rw [hms]
      have := h.al
      simp
      omega
    · rw [hms]
      have := mChange_ul (m := m) hk
      have := h.ul
      dsimp only
      omega
    · rw [hms]
      intro e he
      rcases List.mem_append.1 he with he | he
      · exact h.eo e he
      · simp only [List.mem_singleton] at he
        subst he
        have hiss : U32 (mChange m o.req).iss := by
          rw [← ht.iss e2]
          exact (handR_stn t.ps t.low (mStat m) o.req).2
        have hro2 : U8 (mUser m o.req.user).1 := by
          rw [← hro]
          exact authR_u8 hi.pk a1
        exact ⟨hro2, hiss, hr, hids⟩
    · rw [hms]
      dsimp only
      rw [rtB_add, h.tr, Nat.zero_add]
      have hrk := (authR_role a1).1
      rw [hro] at hrk
      simp [entOk, entM, hrk, hk, e5]
    · rw [hfs, ← t2]
      exact hst
  · obtain ⟨p1, p2⟩ := stepR_not ha
    have hc' := hcs.1 ha
    have hm : (mStep m o).low = m.low ∧ (mStep m o).us = m.us ∧ (mStep m o).au = m.au ∧ (mStep m o).fs = m.fs ∧ (mStep m o).full = (stepR t o).full := by
      unfold mStep
      by_cases k1 : o.kind = 1
      · rw [if_pos k1]
        obtain ⟨t1, t2, t3⟩ := ex_tie h (by omega) hi hu hv hr
        rw [t3 (fun k => ha ⟨k1, k.1, t1.trans k.2⟩), stepR_one k1]
        exact ⟨rfl, rfl, rfl, rfl, h.full⟩
      · rw [if_neg k1]
        by_cases k2 : o.kind = 2
        · rw [if_pos k2]
          exact ⟨rfl, rfl, rfl, rfl, by unfold stepR; rw [if_neg k1, if_pos k2]⟩
        · rw [if_neg k2]
          exact ⟨rfl, rfl, rfl, rfl, by unfold stepR; rw [if_neg k1, if_neg k2]; exact h.full⟩
    obtain ⟨m1, m2, m3, m4, m5⟩ := hm
    refine ⟨rows, ⟨by rw [m1, p2]; exact h.low, m5, ⟨vf, lf, by rw [m4]; exact hc'⟩, by rw [p1, m3]; exact h.ai, ?_, ?_, by rw [m4]; have := h.fl; omega, by rw [m3]; have := h.al; omega, by rw [m2]; have := h.ul; omega, by rw [m3]; exact h.eo, by rw [m3]; exact h.tr⟩, fun k => absurd k ha⟩
    · rw [p1, h.st]
      unfold mStat
      rw [m3, m4]
    · intro u hu'
      rw [p1, h.us u hu']
      congr 1
      exact (mUser_us m2 u).symm
/-- The model behind the first q steps. -/
def mdAt (s : List Op) (q : Nat) : Mod := (s.take q).foldl mStep ⟨low0, [], [], [], false⟩
theorem mdAt_succ {s : List Op} {q : Nat} (h : q < s.length) : mdAt s (q + 1) = mStep (mdAt s q) s[q] := by
  unfold mdAt
  rw [List.take_succ_eq_append_getElem h, List.foldl_append]
  rfl
theorem ti_all {s : List Op} (hr : ∀ k (hk : k < s.length), s[k].req.Ok) (hids : ∀ k (hk : k < s.length), ∀ y ∈ s[k].req.list, U32 y) (hl : s.length ≤ 65536) : ∀ q, q ≤ s.length → ∃ rows, TJ q (stAt s q) (mdAt s q) rows
  | 0, _ => ⟨[], TJ.start⟩
  | q + 1, hq => by
    obtain ⟨rows, h⟩ := ti_all hr hids hl q (by omega)
    rw [stAt_succ (by omega), mdAt_succ (by omega)]
    obtain ⟨rows', h', -⟩ := h.step (o := s[q]) (by omega) (inv_all hr q (by omega)) (su_all s q (by omega)) (vi_all s hl q (by omega)) (hr q (by omega)) (hids q (by omega))
    exact ⟨rows', h'⟩
end Go.Proofs.Qxb6500666aGreatDoor
