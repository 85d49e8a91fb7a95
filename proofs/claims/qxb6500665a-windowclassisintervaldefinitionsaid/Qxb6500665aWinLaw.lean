/- What Classify answers, by the interval's own definition. -/
import Derived.Test.Qxb6500665aInForce
namespace Go.Proofs.Qxb6500665a
open Go.RowKit Go.Proofs.Qxb6500665a.Cal

theorem laps_step {xs : List Visit} (h : laps xs = false) (i : Nat) (hi : i + 1 < xs.length) : xs[i].target + xs[i].late < xs[i + 1].target - xs[i + 1].early := by
  apply Classical.byContradiction
  intro hn
  rw [lap_hit hi (by omega)] at h
  cases h

theorem pairwise_of_steps : ∀ (xs : List Visit), (∀ i (hi : i + 1 < xs.length), xs[i].target < xs[i + 1].target) → xs.Pairwise (fun a b => a.target < b.target)
  | [], _ => List.Pairwise.nil
  | [x], _ => by simp
  | x :: y :: r, h => by
    have ih := pairwise_of_steps (y :: r) (fun i hi => h (i + 1) (by simpa using hi))
    refine List.Pairwise.cons (fun z hz => ?_) ih
    have hxy : x.target < y.target := h 0 (by simp)
    rcases List.mem_cons.1 hz with rfl | hz
    · exact hxy
    · have := (List.pairwise_cons.1 ih).1 z hz
      omega

theorem sorted_of_laps {xs : List Visit} (h : laps xs = false) (hb : ∀ v ∈ xs, VB v) : xs.Pairwise (fun a b => a.target < b.target) :=
  pairwise_of_steps xs fun i hi => by
    have h1 := laps_step h i hi
    have h2 := hb xs[i] (List.getElem_mem _)
    have h3 := hb xs[i + 1] (List.getElem_mem _)
    have := h2.l1
    have := h3.e1
    omega

theorem clsT_none {num ad day id : Int} : ∀ (S : List Visit), (∀ v ∈ S, v.id ≠ id) → clsT num ad day id S = ⟨0, num, 5, 0, 0⟩
  | [], _ => rfl
  | v :: r, h => by
    rw [clsT, if_neg (h v (List.mem_cons_self ..))]
    exact clsT_none r (fun x hx => h x (List.mem_cons_of_mem _ hx))

theorem clsT_split {num ad day id : Int} {x : Visit} (hx : x.id = id) : ∀ (pre r : List Visit), (∀ v ∈ pre, v.id ≠ id) → clsT num ad day id (pre ++ x :: r) = clsEnd num ad day x r
  | [], r, _ => by simp [clsT, hx]
  | v :: p, r, h => by
    rw [List.cons_append, clsT, if_neg (h v (List.mem_cons_self ..))]
    exact clsT_split hx p r (fun y hy => h y (List.mem_cons_of_mem _ hy))

/-- What is known of a version's visits as given. -/
structure VGood (vs : List Visit) : Prop where
  vb : ∀ v ∈ vs, VB v
  nd : (vs.map (·.id)).Nodup
  lap : laps (sortV vs) = false

section
variable {vs : List Visit} (g : VGood vs)
include g

omit g in
theorem mem_sortV (x : Visit) : x ∈ sortV vs ↔ x ∈ vs := (sortL_perm ltV vs).mem_iff

omit g in
theorem cls_none {num ad day id : Int} (h : ∀ v ∈ vs, v.id ≠ id) : clsT num ad day id (sortV vs) = ⟨0, num, 5, 0, 0⟩ :=
  clsT_none _ fun v hv => h v ((sortL_perm ltV vs).mem_iff.1 hv)

theorem VGood.split {x : Visit} (hx : x ∈ vs) : ∃ pre r, sortV vs = pre ++ x :: r ∧ (∀ v ∈ pre, v.target < x.target ∧ v.id ≠ x.id) ∧ (∀ v ∈ r, x.target < v.target) ∧ r.Pairwise (fun a b => a.target < b.target) := by
  obtain ⟨pre, r, he⟩ := List.append_of_mem ((mem_sortV x).2 hx)
  have hs := sorted_of_laps g.lap (fun v hv => g.vb v ((mem_sortV v).1 hv))
  have hn : ((sortV vs).map (·.id)).Nodup := ((sortL_perm ltV vs).map (·.id)).nodup_iff.2 g.nd
  rw [he] at hs hn
  rw [List.pairwise_append] at hs
  obtain ⟨-, h2, h3⟩ := hs
  obtain ⟨h4, h5⟩ := List.pairwise_cons.1 h2
  refine ⟨pre, r, he, fun v hv => ⟨h3 v hv x (List.mem_cons_self ..), ?_⟩, h4, h5⟩
  rw [List.map_append, List.nodup_append] at hn
  exact hn.2.2 v.id (List.mem_map_of_mem hv) x.id (by simp)

theorem VGood.last {num ad day id : Int} {x : Visit} (hx : x ∈ vs) (hi : x.id = id) (hl : ∀ v ∈ vs, ¬ x.target < v.target) : clsT num ad day id (sortV vs) = clsEnd num ad day x [] := by
  obtain ⟨pre, r, he, h1, h2, -⟩ := g.split hx
  rw [he, clsT_split hi pre r (fun v hv => by rw [← hi]; exact (h1 v hv).2)]
  cases r with
  | nil => rfl
  | cons y r' =>
    have hy := h2 y (List.mem_cons_self ..)
    exact absurd hy (hl y ((mem_sortV y).1 (by rw [he]; simp)))

theorem VGood.next {num ad day id : Int} {x y : Visit} (hx : x ∈ vs) (hi : x.id = id) (hy : y ∈ vs) (hxy : x.target < y.target) (hl : ∀ v ∈ vs, x.target < v.target → y.target ≤ v.target) : clsT num ad day id (sortV vs) = clsEnd num ad day x [y] := by
  obtain ⟨pre, r, he, h1, h2, h3⟩ := g.split hx
  rw [he, clsT_split hi pre r (fun v hv => by rw [← hi]; exact (h1 v hv).2)]
  have hyS : y ∈ pre ++ x :: r := he ▸ (mem_sortV y).2 hy
  have hyr : y ∈ r := by
    rcases List.mem_append.1 hyS with h | h
    · have := (h1 y h).1; omega
    · rcases List.mem_cons.1 h with h | h
      · rw [h] at hxy; omega
      · exact h
  cases r with
  | nil => cases hyr
  | cons z r' =>
    have hz : z = y := by
      rcases List.mem_cons.1 hyr with h | h
      · exact h.symm
      · have h4 := (List.pairwise_cons.1 h3).1 y h
        have h5 := hl z ((mem_sortV z).1 (by rw [he]; simp)) (h2 z (List.mem_cons_self ..))
        omega
    rw [hz]
    rfl
end

/-- What the script's accepted commands have set up, as the history tells it. -/
structure HInv (T : Tab) (hv : List HVer) (hs : List HSub) : Prop where
  vers : T.vers = hv.map toVer
  num : ∀ k (h : k < hv.length), hv[k].num = (k : Int) + 1
  good : ∀ x ∈ hv, VGood x.vs
  subs : ∀ s ∈ hs, T.sub s.id = some (s.site, s.anchor) ∧ 0 ≤ s.anchor ∧ s.anchor ≤ 157785119 ∧ U32 s.id

theorem hinv_nil (T : Tab) (h : T.vers = []) : HInv T [] [] := ⟨h, fun k h => absurd h (by simp), fun x hx => (by cases hx), fun s hs => (by cases hs)⟩

/-- One step. -/
theorem HInv.next {T T' : Tab} {hv : List HVer} {hs : List HSub} {o : Op} {code num : Int} (s : SV) (h : HInv T hv hs) (hr : Rel T o T' code num) (hid : U32 o.id) : HInv T' (noteV o code num s hv) (noteS o code hs) := by
  unfold noteV noteS
  by_cases hc : code = 0
  · by_cases k3 : o.kind = 3
    · obtain ⟨a1, a2, a3, a4, a5, a6, a7, a8, a9⟩ := hr.am k3 hc
      rw [if_pos ⟨hc, k3⟩, if_neg (fun h => by omega)]
      refine ⟨by rw [a1, h.vers]; simp [toVer], fun k hk => ?_, fun x hx => ?_, fun s hs => ?_⟩
      · by_cases hkl : k < hv.length
        · rw [List.getElem_append_left hkl]; exact h.num k hkl
        · have hke : k = hv.length := by simp at hk; omega
          subst hke
          simp [a2, h.vers]
      · rcases List.mem_append.1 hx with hx | hx
        · exact h.good x hx
        · rw [List.mem_singleton.1 hx]
          exact ⟨fun v hv => VB.of_ok (a4 v hv), a5, a6⟩
      · rw [a3]; exact h.subs s hs
    · rw [if_neg (fun h => k3 h.2)]
      by_cases k5 : o.kind = 5
      · obtain ⟨a1, a2, a3, a4, a5⟩ := hr.en k5 hc
        rw [if_pos ⟨hc, k5⟩]
        refine ⟨a1.trans h.vers, h.num, h.good, fun s hs => ?_⟩
        rcases List.mem_append.1 hs with hs | hs
        · obtain ⟨b1, b2⟩ := h.subs s hs
          refine ⟨?_, b2⟩
          rw [a2, upd, if_neg ?_]
          · exact b1
          · intro e
            rw [e, a3] at b1
            cases b1
        · rw [List.mem_singleton.1 hs]
          exact ⟨by rw [a2, upd, if_pos rfl], a4, a5, hid⟩
      · rw [if_neg (fun h => k5 h.2)]
        obtain ⟨a1, a2⟩ := hr.other (Or.inl ⟨k3, k5⟩)
        exact ⟨a1.trans h.vers, h.num, h.good, fun s hs => by rw [a2]; exact h.subs s hs⟩
  · rw [if_neg (fun h => hc h.1), if_neg (fun h => hc h.1)]
    obtain ⟨a1, a2⟩ := hr.other (Or.inr hc)
    exact ⟨a1.trans h.vers, h.num, h.good, fun s hs => by rw [a2]; exact h.subs s hs⟩

/-- Classify, by the history. -/
theorem HInv.bad {T : Tab} {hv : List HVer} {hs : List HSub} (_h : HInv T hv hs) {sid id m : Int} (hm : m < 0 ∨ 157785119 < m) : clsR T sid id m = noPl 3 := by
  rw [clsR, if_pos hm]

theorem HInv.nover {T : Tab} {hv : List HVer} {hs : List HSub} (h : HInv T hv hs) {s : HSub} (hm : s ∈ hs) {id m : Int} (h0 : 0 ≤ m) (h1 : m ≤ 157785119) (hf : hF hv m = none) : clsR T s.id id m = noPl 20 := by
  rw [clsR, if_neg (by omega), (h.subs s hm).1, h.vers]
  unfold hF at hf
  cases hi : inF (hv.map toVer) m with
  | none => rfl
  | some k =>
    exfalso
    have hk := inFrom_lt hi
    rw [hi] at hf
    simp at hk
    simp only [Option.bind_some, List.getElem?_eq_none_iff] at hf
    omega

theorem HInv.some {T : Tab} {hv : List HVer} {hs : List HSub} (h : HInv T hv hs) {s : HSub} (hm : s ∈ hs) {id m : Int} (h0 : 0 ≤ m) (h1 : m ≤ 157785119) {x : HVer} (hf : hF hv m = some x) : x ∈ hv ∧ clsR T s.id id m = clsT x.num (s.anchor / 1440) (m / 1440) id (sortV x.vs) := by
  rw [clsR, if_neg (by omega), (h.subs s hm).1, h.vers]
  unfold hF at hf
  cases hi : inF (hv.map toVer) m with
  | none => rw [hi] at hf; cases hf
  | some k =>
    rw [hi] at hf
    simp only [Option.bind_some] at hf
    obtain ⟨hk, hx⟩ := List.getElem?_eq_some_iff.1 hf
    refine ⟨hx ▸ List.getElem_mem hk, ?_⟩
    have hn := h.num k hk
    simp [hk, hx, toVer, ← hn]

end Go.Proofs.Qxb6500665a
