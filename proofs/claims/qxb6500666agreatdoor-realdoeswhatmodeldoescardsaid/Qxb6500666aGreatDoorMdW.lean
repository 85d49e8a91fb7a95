/- The model behind a request. Plain. -/
import Derived.Test.Qxb6500666aGreatDoorMdN
import Derived.Test.Qxb6500666aGreatDoorMdT1
namespace Go.Proofs.Qxb6500666aGreatDoor
open Go.RowKit
/-- What the model keeps between its steps. -/
structure MInv (m : Mod) : Prop where
  small : m.low.Small
  times : m.low.Times
  su : SU m.low.sm
  fl : m.fs.length ≤ 65536
  al : m.au.length ≤ 65536
  ul : m.us.length ≤ 65536
  cl : ∀ f ∈ m.fs, f.changes.length ≤ 65536
  rl : (mrl m.fs m.fs.length).length ≤ 1000000
  file : ∀ f ∈ m.fs, FileOk f.kind f.seq f.issued f.base f.changes ∧ U32 f.seq ∧ I64 f.issued ∧ U32 f.base ∧ ∀ c ∈ f.changes, c.Ok
  ents : ∀ e ∈ m.au, e.Ok
  rep : ∀ id ref, U32 id → U32 ref → ∀ fe fl, mFrom m id = some fe → mIss m ref = some fl → fe.kind = 67 → fl.kind = 67 → id < ref → rpC id ref (mDiffs (fe.changes.map (·.row)) (fl.changes.map (·.row))) = 0 ∧ ∀ d ∈ mDiffs (fe.changes.map (·.row)) (fl.changes.map (·.row)), d.Ok
/-- The entry of an accepted command. -/
def entM (m : Mod) (r : Req) (iss : Int) : Ent := ⟨(m.au.length + 1 : Nat), (mUser m r.user).1, iss, r⟩
/-- The model behind a request; the file issued; the code. -/
def mEx (m : Mod) (r : Req) : CR3 :=
  if (! isCmd r.kind && ! isRdg r.kind) = true then ⟨m, 0, 2⟩
  else if (mUser m r.user).2.1 = false then ⟨m, 0, 3⟩
  else if (mUser m r.user).2.2 = false then ⟨m, 0, 3⟩
  else if mayP (mUser m r.user).1 r.kind = false then ⟨m, 0, 4⟩
  else if isRdg r.kind = true then ⟨m, 0, 0⟩
  else if r.now < 0 then ⟨m, 0, 5⟩
  else if 157785119 < r.now then ⟨m, 0, 5⟩
  else if r.now < (mStat m).lastMin then ⟨m, 0, 6⟩
  else if 12 < r.list.length then ⟨m, 0, 14⟩
  else if (mChange m r).c ≠ 0 then ⟨m, 0, (mChange m r).c⟩
  else if m.full = true then ⟨m, 0, 27⟩
  else ⟨{ (mChange m r).m with au := m.au ++ [entM m r (mChange m r).iss] }, (mChange m r).iss, 0⟩
/-- A permitted reading. -/
def mReads (m : Mod) (r : Req) : Prop := isRdg r.kind = true ∧ (mUser m r.user).2.1 = true ∧ (mUser m r.user).2.2 = true ∧ mayP (mUser m r.user).1 r.kind = true
/-- The model behind a step of the script. -/
def mStep (m : Mod) (o : Op) : Mod := if o.kind = 1 then (mEx m o.req).m else if o.kind = 2 then { m with full := o.num == 1 } else m
theorem cmd_rdg {k : Int} (h : isCmd k = true) : isRdg k = false := by unfold isCmd at h; unfold isRdg; simp at h ⊢; omega
theorem mEx_no {m : Mod} {r : Req} (h1 : isCmd r.kind = false) (h2 : isRdg r.kind = false) : mEx m r = ⟨m, 0, 2⟩ := by unfold mEx; rw [h1, h2]; rfl
theorem mEx_u3 {m : Mod} {r : Req} {ro : Int} {ac : Bool} (h : (! isCmd r.kind && ! isRdg r.kind) = false) (hU : mUser m r.user = (ro, false, ac)) : mEx m r = ⟨m, 0, 3⟩ := by unfold mEx; rw [h, hU]; rfl
theorem mEx_u3' {m : Mod} {r : Req} {ro : Int} (h : (! isCmd r.kind && ! isRdg r.kind) = false) (hU : mUser m r.user = (ro, true, false)) : mEx m r = ⟨m, 0, 3⟩ := by unfold mEx; rw [h, hU]; rfl
theorem mEx_u4 {m : Mod} {r : Req} {ro : Int} (h : (! isCmd r.kind && ! isRdg r.kind) = false) (hU : mUser m r.user = (ro, true, true)) (hm : mayP ro r.kind = false) : mEx m r = ⟨m, 0, 4⟩ := by unfold mEx; rw [h, hU]; simp [hm]
theorem mEx_rd {m : Mod} {r : Req} {ro : Int} (h : isRdg r.kind = true) (hU : mUser m r.user = (ro, true, true)) (hm : mayP ro r.kind = true) : mEx m r = ⟨m, 0, 0⟩ := by unfold mEx; rw [hU]; simp [hm, h]
/-- A permitted command. -/
def mCmd (m : Mod) (r : Req) (ro : Int) : CR3 :=
  if r.now < 0 then ⟨m, 0, 5⟩
  else if 157785119 < r.now then ⟨m, 0, 5⟩
  else if r.now < (mStat m).lastMin then ⟨m, 0, 6⟩
  else if 12 < r.list.length then ⟨m, 0, 14⟩
  else if (mChange m r).c ≠ 0 then ⟨m, 0, (mChange m r).c⟩
  else if m.full = true then ⟨m, 0, 27⟩
  else ⟨{ (mChange m r).m with au := m.au ++ [⟨(m.au.length + 1 : Nat), ro, (mChange m r).iss, r⟩] }, (mChange m r).iss, 0⟩
theorem mEx_cmd {m : Mod} {r : Req} {ro : Int} (h : isCmd r.kind = true) (hU : mUser m r.user = (ro, true, true)) (hm : mayP ro r.kind = true) : mEx m r = mCmd m r ro := by
  have h2 := cmd_rdg h
  unfold mEx mCmd entM
  rw [hU]
  simp [hm, h, h2]
theorem mCmd_5 {m : Mod} {r : Req} {ro : Int} (h : r.now < 0) : mCmd m r ro = ⟨m, 0, 5⟩ := if_pos h
theorem mCmd_5' {m : Mod} {r : Req} {ro : Int} (h : 157785119 < r.now) : mCmd m r ro = ⟨m, 0, 5⟩ := by unfold mCmd; rw [if_neg (by omega), if_pos h]
theorem mCmd_6 {m : Mod} {r : Req} {ro : Int} (h1 : 0 ≤ r.now) (h2 : r.now ≤ 157785119) (h : r.now < (mStat m).lastMin) : mCmd m r ro = ⟨m, 0, 6⟩ := by unfold mCmd; rw [if_neg (by omega), if_neg (by omega), if_pos h]
theorem mCmd_14 {m : Mod} {r : Req} {ro : Int} (h1 : 0 ≤ r.now) (h2 : r.now ≤ 157785119) (h3 : (mStat m).lastMin ≤ r.now) (h : 12 < r.list.length) : mCmd m r ro = ⟨m, 0, 14⟩ := by unfold mCmd; rw [if_neg (by omega), if_neg (by omega), if_neg (by omega), if_pos h]
theorem mCmd_c {m m1 : Mod} {r : Req} {ro iss c : Int} (h1 : 0 ≤ r.now) (h2 : r.now ≤ 157785119) (h3 : (mStat m).lastMin ≤ r.now) (h4 : r.list.length ≤ 12) (hR : mChange m r = ⟨m1, iss, c⟩) (h : c ≠ 0) : mCmd m r ro = ⟨m, 0, c⟩ := by unfold mCmd; rw [if_neg (by omega), if_neg (by omega), if_neg (by omega), if_neg (by omega), hR, if_pos h]
theorem mCmd_27 {m m1 : Mod} {r : Req} {ro iss : Int} (h1 : 0 ≤ r.now) (h2 : r.now ≤ 157785119) (h3 : (mStat m).lastMin ≤ r.now) (h4 : r.list.length ≤ 12) (hR : mChange m r = ⟨m1, iss, 0⟩) (h : m.full = true) : mCmd m r ro = ⟨m, 0, 27⟩ := by unfold mCmd; rw [if_neg (by omega), if_neg (by omega), if_neg (by omega), if_neg (by omega), hR]; simp [h]
theorem mCmd_ok {m m1 : Mod} {r : Req} {ro iss : Int} (h1 : 0 ≤ r.now) (h2 : r.now ≤ 157785119) (h3 : (mStat m).lastMin ≤ r.now) (h4 : r.list.length ≤ 12) (hR : mChange m r = ⟨m1, iss, 0⟩) (h : m.full = false) : mCmd m r ro = ⟨{ m1 with au := m.au ++ [⟨(m.au.length + 1 : Nat), ro, iss, r⟩] }, iss, 0⟩ := by unfold mCmd; rw [if_neg (by omega), if_neg (by omega), if_neg (by omega), if_neg (by omega), hR]; simp [h]
theorem mReads_not {m : Mod} {r : Req} {U : Int × Bool × Bool} (hU : mUser m r.user = U) (h : isRdg r.kind = false ∨ U.2.1 = false ∨ U.2.2 = false ∨ mayP U.1 r.kind = false) : ¬ mReads m r := fun ⟨a, b, c, d⟩ => by
  subst hU
  rcases h with h | h | h | h
  · rw [a] at h; cases h
  · rw [b] at h; cases h
  · rw [c] at h; cases h
  · rw [d] at h; cases h
end Go.Proofs.Qxb6500666aGreatDoor
