/- Amend, plain. -/
import Derived.Test.Qxb6500665aDoorCmdWalk3
import Derived.Test.Qxb6500665aDoorSortWalk
namespace Go.Proofs.Qxb6500665aDoor
open Go.RowKit

section
variable {α β : Type}
theorem sink_map (f : α → β) (lt : α → α → Bool) (lt' : β → β → Bool) (h : ∀ x y, lt x y = lt' (f x) (f y)) : ∀ (j : Nat) (xs : List α), (sink lt j xs).map f = sink lt' j (xs.map f)
  | 0, xs => rfl
  | j + 1, xs => by
    unfold sink
    simp only [List.getElem?_map]
    cases h1 : xs[j + 1]? with
    | none => simp
    | some a =>
      cases h2 : xs[j]? with
      | none => simp
      | some b =>
        simp only [Option.map_some, ← h]
        split
        · rw [sink_map f lt lt' h j]; simp [List.map_set]
        · rfl
theorem sortFrom_map (f : α → β) (lt : α → α → Bool) (lt' : β → β → Bool) (h : ∀ x y, lt x y = lt' (f x) (f y)) : ∀ (c i : Nat) (xs : List α), (sortFrom lt c i xs).map f = sortFrom lt' c i (xs.map f)
  | 0, _, _ => rfl
  | c + 1, i, xs => by
    simp only [sortFrom]
    rw [sortFrom_map f lt lt' h c, sink_map f lt lt' h]
theorem sortL_map (f : α → β) (lt : α → α → Bool) (lt' : β → β → Bool) (h : ∀ x y, lt x y = lt' (f x) (f y)) (xs : List α) : (sortL lt xs).map f = sortL lt' (xs.map f) := by
  unfold sortL
  rw [sortFrom_map f lt lt' h, List.length_map]

theorem swap_perm (xs : List α) (j : Nat) (h : j + 1 < xs.length) : ((xs.set (j + 1) xs[j]).set j xs[j + 1]).Perm xs := by
  induction xs generalizing j with
  | nil => simp at h
  | cons x r ih =>
    cases j with
    | zero =>
      cases r with
      | nil => simp at h
      | cons y r => simp; exact List.Perm.swap x y r
    | succ j =>
      simp only [List.set_cons_succ, List.getElem_cons_succ]
      exact (ih j (by simpa using h)).cons x

theorem sink_perm (lt : α → α → Bool) : ∀ (j : Nat) (xs : List α), (sink lt j xs).Perm xs
  | 0, xs => List.Perm.refl _
  | j + 1, xs => by
    by_cases h : j + 1 < xs.length
    · cases hl : lt xs[j + 1] xs[j] with
      | true => rw [sink_hit lt h hl]; exact (sink_perm lt j _).trans (swap_perm xs j h)
      | false => rw [sink_miss lt h hl]
    · unfold sink
      rw [List.getElem?_eq_none (by omega)]
theorem sortFrom_perm (lt : α → α → Bool) : ∀ (c i : Nat) (xs : List α), (sortFrom lt c i xs).Perm xs
  | 0, _, _ => List.Perm.refl _
  | c + 1, i, xs => (sortFrom_perm lt c (i + 1) _).trans (sink_perm lt i xs)
theorem sortL_perm (lt : α → α → Bool) (xs : List α) : (sortL lt xs).Perm xs := sortFrom_perm lt _ _ xs
end

def ltV (x y : Visit) : Bool := decide (x.target < y.target)
def sortV (vs : List Visit) : List Visit := sortL ltV vs
theorem sortV_map (zs : List ZV) : (sortL ltT zs).map (·.1) = sortV (zs.map (·.1)) := sortL_map (fun z : ZV => z.1) ltT ltV (fun _ _ => rfl) zs

def firstErr : List Visit → Int
  | [] => 0
  | v :: r => if visErr v = 0 then firstErr r else visErr v

def lapAt (xs : List Visit) (i : Nat) : Bool := match xs[i]?, xs[i + 1]? with
  | some a, some b => decide (b.target - b.early ≤ a.target + a.late)
  | _, _ => false
def laps (xs : List Visit) : Bool := (List.range (xs.length - 1)).any (lapAt xs)

def known (ps : List KV) (vs : List Visit) : Bool := vs.all fun v => v.panels.all fun x => (getB ps (keyB 112 x)).isSome

def lastEff (vers : List Ver) : Int := (vers[vers.length - 1]?.getD (0, [])).1

def amErr (ps : List KV) (vers : List Ver) (full : Bool) (eff : Int) (vs : List Visit) : Int :=
  if eff < 0 ∨ 157785119 < eff then 3 else if vs.length = 0 ∨ 12 < vs.length then 7 else if firstErr vs ≠ 0 then firstErr vs else if listErr (vs.map (·.id)) 12 ≠ 0 then listErr (vs.map (·.id)) 12
  else if laps (sortV vs) then 12 else if !known ps vs then 15 else if vers.length ≠ 0 ∧ eff ≤ lastEff vers then 13 else if full then 21 else 0

def amWs (vers : List Ver) (eff : Int) (vs : List Visit) : List KV := [(keyB 118 ((vers.length : Int) + 1), verB eff (sortV vs)), (keyB 104 0, headB ((vers.length : Int) + 1))]

/-- What Amend hands back. -/
def AmPost (w w' : World) (e : Ending) (S : Nat) (A : Nat → Prop) (ps ws : List KV) (full : Bool) (n : Nat) (k : Int) : Prop :=
  e = .returned (.tuple #[.int .u32 (if k = 0 then (n : Int) + 1 else 0), errOr k]) ∧ Cmd w w' S A (cmdPs k ps ws) full

theorem AmPost.no {w w' : World} {P S : Nat} {A : Nat → Prop} {ps ws : List KV} {full : Bool} {n : Nat} {k : Int} (hP : PAt w P S A ps full) (hb : Below w.heap.size w w') (hk : k ≠ 0) : AmPost w w' (.returned (.tuple #[.int .u32 0, errW k])) S A ps ws full n k := by
  refine ⟨by rw [if_neg hk, errOr_pos hk], ?_⟩
  rw [cmdPs, if_neg hk]
  exact Cmd.of_below hP hb

theorem firstErr_take {vs : List Visit} : ∀ {q : Nat}, (∀ v ∈ vs.take q, visErr v = 0) → firstErr vs = firstErr (vs.drop q) := by
  induction vs with
  | nil => intro q _; simp
  | cons v r ih =>
    intro q h
    cases q with
    | zero => rfl
    | succ q =>
      have h1 := h v (by simp)
      simp only [firstErr, h1, if_true, List.drop_succ_cons]
      exact ih (fun x hx => h x (by simp [hx]))

theorem firstErr_at {vs : List Visit} {q : Nat} (h : ∀ v ∈ vs.take q, visErr v = 0) (hq : q < vs.length) (he : visErr vs[q] ≠ 0) : firstErr vs = visErr vs[q] := by
  rw [firstErr_take h, List.drop_eq_getElem_cons hq, firstErr, if_neg he]
theorem firstErr_zero {vs : List Visit} (h : ∀ v ∈ vs, visErr v = 0) : firstErr vs = 0 := by
  rw [firstErr_take (q := vs.length) (by rw [List.take_length]; exact h), List.drop_length]; rfl

theorem visErr_ok {v : Visit} (h : visErr v = 0) : v.id ≠ 0 ∧ -3650 ≤ v.target ∧ v.target ≤ 3650 ∧ 0 ≤ v.early ∧ v.early ≤ 365 ∧ 0 ≤ v.late ∧ v.late ≤ 365 ∧ v.panels.length ≤ 6 := by
  unfold visErr at h
  split at h
  · cases h
  · rename_i h1
    split at h
    · cases h
    · rename_i h2
      split at h
      · cases h
      · rename_i h3
        refine ⟨h1, by omega, by omega, by omega, by omega, by omega, by omega, ?_⟩
        unfold listErr at h
        split at h
        · cases h
        · omega

theorem lap_hit {xs : List Visit} {i : Nat} (h : i + 1 < xs.length) (hl : xs[i + 1].target - xs[i + 1].early ≤ xs[i].target + xs[i].late) : laps xs = true := by
  refine List.any_eq_true.2 ⟨i, List.mem_range.2 (by omega), ?_⟩
  unfold lapAt
  rw [List.getElem?_eq_getElem (by omega), List.getElem?_eq_getElem h]
  exact decide_eq_true hl

theorem lap_none {xs : List Visit} (h : ∀ i (hi : i + 1 < xs.length), ¬ xs[i + 1].target - xs[i + 1].early ≤ xs[i].target + xs[i].late) : laps xs = false := by
  refine List.any_eq_false.2 fun i hi => ?_
  have hi2 := List.mem_range.1 hi
  unfold lapAt
  rw [List.getElem?_eq_getElem (by omega), List.getElem?_eq_getElem (show i + 1 < xs.length by omega)]
  simp only [decide_eq_true_eq]
  exact h i (by omega)

/-- A batch of two writes, just built. -/
theorem writes_two {w : World} {base : Nat} {ka va ka' va' : Option Addr} {kn kc vn vc kn' kc' vn' vc' : Nat} {kb vb kb' vb' : List Int} (hk : BytesAt w (base ≤ ·) (.slice ka kn kc) kb) (hv : BytesAt w (base ≤ ·) (.slice va vn vc) vb) (hk' : BytesAt w (base ≤ ·) (.slice ka' kn' kc') kb') (hv' : BytesAt w (base ≤ ·) (.slice va' vn' vc') vb') (hb : base ≤ w.heap.size) :
    WritesAt (w.alloc (.cells #[.slice ka kn kc, .slice va vn vc, .bool false, .slice ka' kn' kc', .slice va' vn' vc', .bool false] 130)) (base ≤ ·) (.slice (some ⟨w.heap.size, 0, none⟩) 2 2) [(kb, vb), (kb', vb')] := by
  refine ⟨[(((ka, kn, kc), (va, vn, vc)), (kb, vb)), (((ka', kn', kc'), (va', vn', vc')), (kb', vb'))], ⟨_, 2, w.heap.size, 0, rfl, Nat.le_refl _, ⟨by unfold maxLen; omega, fun h => by cases h⟩, by simp, fun _ => ⟨rfl, hb⟩, fun i hi => ?_⟩, rfl, fun z hz => ?_⟩
  · rw [rng_alloc_at _ _ _ _ _ _ _ rfl]
    have h0 : i = 0 ∨ i = 1 := by simp at hi; omega
    rcases h0 with rfl | rfl <;> rfl
  · have hbl : Below w.heap.size w (w.alloc (.cells #[.slice ka kn kc, .slice va vn vc, .bool false, .slice ka' kn' kc', .slice va' vn' vc', .bool false] 130)) := (Below.refl _ _).alloc (Nat.le_refl _) _
    rcases List.mem_cons.1 hz with rfl | hz
    · exact ⟨hk.below hbl, hv.below hbl⟩
    · rw [List.mem_singleton.1 hz]
      exact ⟨hk'.below hbl, hv'.below hbl⟩

end Go.Proofs.Qxb6500665aDoor
