/- The receiver's ledger. Plain. -/
import Derived.Test.Qxb6500666aGreatDoorFilR
import Derived.Test.Qxb6500666aGreatDoorCorQ
namespace Go.Proofs.Qxb6500666aGreatDoor
open Go.RowKit

/-- What the ledger knows. -/
structure Led where
  taken : Int
  base : Int
  issued : Int
  rows : List Row

instance : DecidableEq Row := fun a b => decidable_of_iff (a.eqB b = true) (Row.eqB_iff a b)
/-- A file is in turn. -/
def Turn (L : Led) (f : File) : Prop := f.seq = L.taken + 1 ∧ f.base = L.base ∧ L.issued ≤ f.issued
instance (L : Led) (f : File) : Decidable (Turn L f) := by unfold Turn; infer_instance
/-- Take, on a file that parses. -/
def takeR (L : Led) (f : File) : Option Led :=
  if Turn L f then
    if f.kind = 73 then (applyF L.rows f.changes).map fun rs => ⟨f.seq, L.base, f.issued, rs⟩
    else if f.changes.map (·.row) = L.rows then some ⟨f.seq, f.seq, f.issued, L.rows⟩ else none
  else none
theorem takeR_not {L : Led} {f : File} (h : ¬ Turn L f) : takeR L f = none := by unfold takeR; rw [if_neg h]
theorem takeR_inc {L : Led} {f : File} (h : Turn L f) (hk : f.kind = 73) : takeR L f = (applyF L.rows f.changes).map fun rs => ⟨f.seq, L.base, f.issued, rs⟩ := by unfold takeR; rw [if_pos h, if_pos hk]
theorem takeR_cum {L : Led} {f : File} (h : Turn L f) (hk : f.kind ≠ 73) : takeR L f = if f.changes.map (·.row) = L.rows then some ⟨f.seq, f.seq, f.issued, L.rows⟩ else none := by unfold takeR; rw [if_pos h, if_neg hk]
/-- A list of files, one after the other: how many are taken, and what stands behind them. -/
def takeAll (L : Led) : List File → Nat × Led
  | [] => (0, L)
  | f :: fs => match takeR L f with
    | none => (0, L)
    | some L' => ((takeAll L' fs).1 + 1, (takeAll L' fs).2)

def led0 : Led := ⟨0, 0, 0, []⟩
/-- Behind the first k files. -/
def ledAt (fs : List File) (k : Nat) : Led := ⟨k, cumOf (fs.take k), match k with | 0 => 0 | j + 1 => (fs[j]?.map (·.issued)).getD 0, (relOf (fs.take k)).getD []⟩
theorem ledAt_zero (fs : List File) : ledAt fs 0 = led0 := by simp [ledAt, led0, cumOf, relOf]

section
variable {ps : List KV} {fs : List File} {rows : List Row}
theorem FI.take_ok (h : FI ps fs rows) (hl : fs.length ≤ 1000000) {k : Nat} (hk : k < fs.length) : takeR (ledAt fs k) fs[k] = some (ledAt fs (k + 1)) := by
  obtain ⟨h1, h2⟩ := h.seq k hk
  have hn := h.nums hl hk
  have ht : Turn (ledAt fs k) fs[k] := by
    refine ⟨h1, h2, ?_⟩
    cases k with
    | zero => exact hn.2.2.2.2.2.1
    | succ j =>
      have hj : j < fs.length := by omega
      simp only [ledAt, List.getElem?_eq_getElem hj, Option.map_some, Option.getD_some]
      exact List.pairwise_iff_getElem.1 h.mono j (j + 1) hj hk (by omega)
  have e1 : fs.take (k + 1) = fs.take k ++ [fs[k]] := List.take_succ_eq_append_getElem hk
  obtain ⟨rs, hr⟩ := h.pre k
  obtain ⟨rs', hr'⟩ := h.pre (k + 1)
  have hr2 := hr'
  rw [e1, relOf_snoc, hr] at hr2
  have ec : ledAt fs (k + 1) = ⟨(k : Int) + 1, if fs[k].kind = 67 then fs[k].seq else cumOf (fs.take k), fs[k].issued, rs'⟩ := by
    simp only [ledAt, List.getElem?_eq_getElem hk, Option.map_some, Option.getD_some, hr']
    rw [e1, cumOf_snoc]
    simp
  rw [ec]
  rcases h.kind (List.getElem_mem hk) with e | e
  · have hne : fs[k].kind ≠ 73 := by omega
    rw [takeR_cum ht hne]
    unfold relF at hr2
    dsimp only at hr2
    rw [if_neg hne] at hr2
    injection hr2 with hr2
    obtain ⟨rq, hq1, hq2⟩ := h.cum k hk e
    rw [hr] at hq1
    injection hq1 with hq1
    have : (ledAt fs k).rows = rs := by simp [ledAt, hr]
    rw [this, hq2, ← hq1, if_pos (by simp [asCur, Function.comp_def]), if_pos e, h1, hr2]
  · rw [takeR_inc ht e]
    unfold relF at hr2
    dsimp only at hr2
    rw [if_pos e] at hr2
    have : (ledAt fs k).rows = rs := by simp [ledAt, hr]
    rw [this, hr2, if_neg (by omega), h1]
    rfl
theorem FI.ledRows (h : FI ps fs rows) : (ledAt fs fs.length).rows = rows := by simp [ledAt, h.rel]
/-- Behind the first k files, taken one after the other. -/
theorem FI.all_ok (h : FI ps fs rows) (hl : fs.length ≤ 1000000) : ∀ (n k : Nat), k + n = fs.length → takeAll (ledAt fs k) (fs.drop k) = (n, ledAt fs fs.length)
  | 0, k, e => by
    have : k = fs.length := by omega
    subst this
    rw [List.drop_length]
    rfl
  | n + 1, k, e => by
    have hk : k < fs.length := by omega
    rw [List.drop_eq_getElem_cons hk, takeAll, h.take_ok hl hk]
    dsimp only
    rw [h.all_ok hl n (k + 1) (by omega)]
theorem FI.all (h : FI ps fs rows) (hl : fs.length ≤ 1000000) : takeAll led0 fs = (fs.length, ledAt fs fs.length) := by
  have := h.all_ok hl fs.length 0 (by omega)
  rwa [ledAt_zero, List.drop_zero] at this
/-- Without its first file, the chain is refused at once. -/
theorem FI.all_tail (h : FI ps fs rows) : (takeAll led0 (fs.drop 1)).1 = 0 := by
  cases hd : fs.drop 1 with
  | nil => rfl
  | cons f l =>
    have h1 : 1 < fs.length := by
      have := congrArg List.length hd
      rw [List.length_drop, List.length_cons] at this
      omega
    have h2 := hd
    rw [List.drop_eq_getElem_cons h1] at h2
    injection h2 with h2 _
    have := (h.seq 1 h1).1
    rw [takeAll, takeR_not (fun ht => by
      have := ht.1
      rw [← h2] at this
      simp only [led0] at this
      omega)]
/-- With its first file twice, at the second. -/
theorem FI.all_twice (h : FI ps fs rows) (hl : fs.length ≤ 1000000) (h0 : 0 < fs.length) : (takeAll led0 (fs[0] :: fs)).1 = 1 := by
  have e := h.take_ok hl h0
  rw [ledAt_zero] at e
  rw [takeAll, e]
  dsimp only
  have : fs = fs[0] :: fs.drop 1 := by
    have := List.drop_eq_getElem_cons h0
    rwa [List.drop_zero] at this
  have hs := (h.seq 0 h0).1
  rw [this, takeAll, takeR_not (fun ht => by
    have := ht.1
    simp only [ledAt] at this
    omega)]
end
/-- What the search finds. -/
theorem find_hit {rows : List Row} (h : Rise rows) {s a : Int} {i : Nat} (hi : i < rows.length) (hk : rows[i].sample = s ∧ rows[i].analyte = a) : mlook rows s a = some rows[i] := by
  rw [← hk.1, ← hk.2]
  exact mlook_self h (List.getElem_mem hi)
end Go.Proofs.Qxb6500666aGreatDoor
