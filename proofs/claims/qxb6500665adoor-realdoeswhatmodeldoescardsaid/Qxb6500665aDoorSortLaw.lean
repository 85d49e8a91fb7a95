/- The sort sorts; lists in order are told by their members; overlaps in order and out of it. Plain. -/
import Derived.Test.Qxb6500665aDoorModTests
namespace Go.Proofs.Qxb6500665aDoor
open Go.RowKit Go.Proofs.Qxb6500665aDoor.Cal

section
variable {α : Type} (k : α → Int)
def ltK (x y : α) : Bool := decide (k x < k y)
/-- The first n stand in order. -/
def SU (xs : List α) (n : Nat) : Prop := ∀ i j x y, i < j → j < n → xs[i]? = some x → xs[j]? = some y → k x ≤ k y

theorem sink_su : ∀ (j : Nat) (xs : List α), j < xs.length → SU k xs j → SU k (sink (ltK k) j xs) (j + 1) ∧ (∀ i, j < i → (sink (ltK k) j xs)[i]? = xs[i]?) ∧ (∀ i, i ≤ j → ∃ i', i' ≤ j ∧ (sink (ltK k) j xs)[i]? = xs[i']?)
  | 0, xs, _, _ => ⟨fun i j x y h1 h2 => by omega, fun _ _ => rfl, fun i hi => ⟨i, hi, rfl⟩⟩
  | j + 1, xs, hj, hs => by
    have hj0 : j < xs.length := by omega
    cases hl : ltK k xs[j + 1] xs[j] with
    | false =>
      have hle : k xs[j] ≤ k xs[j + 1] := by have := of_decide_eq_false hl; omega
      rw [sink_miss (ltK k) hj hl]
      refine ⟨fun i i2 x y h1 h2 hx hy => ?_, fun _ _ => rfl, fun i hi => ⟨i, hi, rfl⟩⟩
      by_cases h3 : i2 < j + 1
      · exact hs i i2 x y h1 h3 hx hy
      · have h4 : i2 = j + 1 := by omega
        subst h4
        rw [List.getElem?_eq_getElem hj] at hy
        cases hy
        by_cases h5 : i = j
        · subst h5
          rw [List.getElem?_eq_getElem hj0] at hx
          cases hx
          exact hle
        · have := hs i j x xs[j] (by omega) (by omega) hx (List.getElem?_eq_getElem hj0)
          omega
    | true =>
      have hlt : k xs[j + 1] < k xs[j] := of_decide_eq_true hl
      rw [sink_hit (ltK k) hj hl]
      obtain ⟨ys, hys⟩ : ∃ ys, ys = (xs.set (j + 1) xs[j]).set j xs[j + 1] := ⟨_, rfl⟩
      rw [← hys]
      have yl : ys.length = xs.length := by rw [hys]; simp
      have yj : ys[j]? = some xs[j + 1] := by rw [hys, List.getElem?_set_self (by simp; omega)]
      have yj1 : ys[j + 1]? = some xs[j] := by rw [hys, List.getElem?_set_ne (by omega), List.getElem?_set_self hj]
      have yo : ∀ i, i ≠ j → i ≠ j + 1 → ys[i]? = xs[i]? := fun i h1 h2 => by rw [hys, List.getElem?_set_ne (by omega), List.getElem?_set_ne (by omega)]
      obtain ⟨q1, q2, q3⟩ := sink_su j ys (by omega) (fun i i2 x y h1 h2 hx hy => by
        rw [yo i (by omega) (by omega)] at hx
        rw [yo i2 (by omega) (by omega)] at hy
        exact hs i i2 x y h1 (by omega) hx hy)
      refine ⟨fun i i2 x y h1 h2 hx hy => ?_, fun i hi => ?_, fun i hi => ?_⟩
      · by_cases h3 : i2 < j + 1
        · exact q1 i i2 x y h1 h3 hx hy
        · have h4 : i2 = j + 1 := by omega
          subst h4
          rw [q2 (j + 1) (by omega), yj1] at hy
          cases hy
          obtain ⟨i', h5, h6⟩ := q3 i (by omega)
          rw [h6] at hx
          by_cases h7 : i' = j
          · subst h7
            rw [yj] at hx
            cases hx
            omega
          · rw [yo i' h7 (by omega)] at hx
            exact hs i' j x xs[j] (by omega) (by omega) hx (List.getElem?_eq_getElem hj0)
      · rw [q2 i (by omega), yo i (by omega) (by omega)]
      · by_cases h3 : i = j + 1
        · subst h3
          exact ⟨j, by omega, by rw [q2 (j + 1) (by omega), yj1, List.getElem?_eq_getElem hj0]⟩
        · obtain ⟨i', h5, h6⟩ := q3 i (by omega)
          by_cases h7 : i' = j
          · subst h7
            exact ⟨i' + 1, by omega, by rw [h6, yj, List.getElem?_eq_getElem hj]⟩
          · exact ⟨i', by omega, by rw [h6, yo i' h7 (by omega)]⟩

theorem sortFrom_su : ∀ (c i : Nat) (xs : List α), i + c ≤ xs.length → SU k xs i → SU k (sortFrom (ltK k) c i xs) (i + c)
  | 0, i, xs, _, h => h
  | c + 1, i, xs, hl, h => by
    have h1 := (sink_su k i xs (by omega) h).1
    have h2 := sortFrom_su c (i + 1) (sink (ltK k) i xs) (by rw [sink_len]; omega) h1
    rw [sortFrom, show i + (c + 1) = i + 1 + c by omega]
    exact h2

theorem sortL_sorted (xs : List α) : (sortL (ltK k) xs).Pairwise (fun a b => k a ≤ k b) := by
  rw [List.pairwise_iff_getElem]
  intro i j hi hj hij
  have hlen : (sortL (ltK k) xs).length = xs.length := (sortL_perm (ltK k) xs).length_eq
  have h := sortFrom_su k (xs.length - 1) 1 xs (by omega) (fun i j x y h1 h2 => by omega)
  exact h i j _ _ hij (by omega) (List.getElem?_eq_getElem hi) (List.getElem?_eq_getElem hj)

/-- Lists in strictly rising order with the same members are the same. -/
theorem strict_unique : ∀ {l1 l2 : List α}, l1.Pairwise (fun a b => k a < k b) → l2.Pairwise (fun a b => k a < k b) → (∀ x, x ∈ l1 ↔ x ∈ l2) → l1 = l2
  | [], [], _, _, _ => rfl
  | [], y :: r, _, _, h => by have := (h y).2 (List.mem_cons_self ..); cases this
  | x :: r, [], _, _, h => by have := (h x).1 (List.mem_cons_self ..); cases this
  | x :: r1, y :: r2, h1, h2, h => by
    rw [List.pairwise_cons] at h1 h2
    have hxy : x = y := by
      rcases List.mem_cons.1 ((h x).1 (List.mem_cons_self ..)) with h3 | h3
      · exact h3
      · rcases List.mem_cons.1 ((h y).2 (List.mem_cons_self ..)) with h4 | h4
        · exact h4.symm
        · have := h2.1 x h3
          have := h1.1 y h4
          omega
    subst hxy
    rw [strict_unique h1.2 h2.2 (fun z => ⟨fun hz => ?_, fun hz => ?_⟩)]
    · rcases List.mem_cons.1 ((h z).1 (List.mem_cons_of_mem _ hz)) with h3 | h3
      · subst h3; have := h1.1 z hz; omega
      · exact h3
    · rcases List.mem_cons.1 ((h z).2 (List.mem_cons_of_mem _ hz)) with h3 | h3
      · subst h3; have := h2.1 z hz; omega
      · exact h3
end

theorem ltV_key : ltV = ltK (fun v : Visit => v.target) := rfl
theorem ltN_key : ltN = ltK (fun x : Int => x) := rfl

/-- No two windows share a day. -/
def NoLap (vs : List Visit) : Prop := vs.Pairwise (fun a b => lapB a b = false)
instance (vs : List Visit) : Decidable (NoLap vs) := inferInstanceAs (Decidable (vs.Pairwise (fun a b => lapB a b = false)))
theorem lapB_symm {a b : Visit} (h : lapB a b = false) : lapB b a = false := by
  unfold lapB at *
  have := of_decide_eq_false h
  exact decide_eq_false (fun h2 => this ⟨h2.2, h2.1⟩)
theorem noLap_perm {l l' : List Visit} (h : l.Perm l') : NoLap l ↔ NoLap l' := h.pairwise_iff (fun h => lapB_symm h)

theorem lapsStep {xs : List Visit} (h : laps xs = false) (i : Nat) (hi : i + 1 < xs.length) : xs[i].target + xs[i].late < xs[i + 1].target - xs[i + 1].early := by
  apply Classical.byContradiction
  intro hn
  rw [lap_hit hi (by omega)] at h
  cases h

theorem laps_far {xs : List Visit} (h : laps xs = false) (hb : ∀ v ∈ xs, VB v) (i : Nat) : ∀ (d : Nat) (hd : i + d + 1 < xs.length), xs[i].target + xs[i].late < xs[i + d + 1].target - xs[i + d + 1].early
  | 0, hd => lapsStep h i hd
  | d + 1, hd => by
    have h1 := laps_far h hb i d (by omega)
    have h2 := lapsStep h (i + d + 1) hd
    have h3 := hb xs[i + d + 1] (List.getElem_mem _)
    have := h3.e1
    have := h3.l1
    have e : i + (d + 1) + 1 = i + d + 1 + 1 := by omega
    simp only [e]
    omega

theorem laps_false_iff {vs : List Visit} (hb : ∀ v ∈ vs, VB v) : laps (sortV vs) = false ↔ NoLap vs := by
  have hp : (sortV vs).Perm vs := sortL_perm ltV vs
  have hb' : ∀ v ∈ sortV vs, VB v := fun v hv => hb v (hp.mem_iff.1 hv)
  rw [← noLap_perm hp]
  constructor
  · intro h
    unfold NoLap
    rw [List.pairwise_iff_getElem]
    intro i j hi hj hij
    obtain ⟨d, rfl⟩ : ∃ d, j = i + d + 1 := ⟨j - i - 1, by omega⟩
    have h1 := laps_far h hb' i d hj
    exact decide_eq_false (fun h2 => by omega)
  · intro h
    refine lap_none (fun i hi hle => ?_)
    have h1 := List.pairwise_iff_getElem.1 h i (i + 1) (by omega) hi (by omega)
    have h2 := of_decide_eq_false h1
    have h3 := List.pairwise_iff_getElem.1 (sortL_sorted (fun v : Visit => v.target) vs) i (i + 1) (by rw [← ltV_key]; exact (by omega : i < (sortV vs).length)) (by rw [← ltV_key]; exact hi) (by omega)
    simp only [← ltV_key] at h3
    have h4 := hb' (sortV vs)[i] (List.getElem_mem _)
    have h5 := hb' (sortV vs)[i + 1] (List.getElem_mem _)
    have := h4.e1
    have := h5.l1
    have h6 : (sortV vs)[i].target ≤ (sortV vs)[i + 1].target := h3
    exact h2 ⟨by omega, hle⟩

/-- Visits of which no two share a day, put in order by target: one way only. -/
theorem sortV_unique {vs bs : List Visit} (hb : ∀ v ∈ vs, VB v) (hn : NoLap vs) (hp : bs.Perm vs) (hs : bs.Pairwise (fun a b => a.target ≤ b.target)) : bs = sortV vs := by
  have hvp : (sortV vs).Perm vs := sortL_perm ltV vs
  have key : ∀ l : List Visit, l.Perm vs → l.Pairwise (fun a b => a.target ≤ b.target) → l.Pairwise (fun a b => a.target < b.target) := fun l hl hs => by
    have h1 := (noLap_perm hl).2 hn
    rw [List.pairwise_iff_getElem] at hs ⊢
    intro i j hi hj hij
    have h2 := of_decide_eq_false (List.pairwise_iff_getElem.1 h1 i j hi hj hij)
    have h3 := hs i j hi hj hij
    have h4 := hb l[i] (hl.mem_iff.1 (List.getElem_mem _))
    have h5 := hb l[j] (hl.mem_iff.1 (List.getElem_mem _))
    have := h4.e1
    have := h4.l1
    have := h5.e1
    have := h5.l1
    apply Classical.byContradiction
    intro hn
    exact h2 ⟨by omega, by omega⟩
  refine strict_unique (fun v : Visit => v.target) (key bs hp hs) (key _ hvp ?_) (fun x => hp.mem_iff.trans hvp.mem_iff.symm)
  have := sortL_sorted (fun v : Visit => v.target) vs
  exact this

/-- .. and the order is strict. -/
theorem sortV_strict {vs : List Visit} (hb : ∀ v ∈ vs, VB v) (hn : NoLap vs) : (sortV vs).Pairwise (fun a b => a.target < b.target) := by
  have hvp : (sortV vs).Perm vs := sortL_perm ltV vs
  have hs : (sortV vs).Pairwise (fun a b => a.target ≤ b.target) := sortL_sorted (fun v : Visit => v.target) vs
  have h1 := (noLap_perm hvp).2 hn
  rw [List.pairwise_iff_getElem] at hs ⊢
  intro i j hi hj hij
  have h2 := of_decide_eq_false (List.pairwise_iff_getElem.1 h1 i j hi hj hij)
  have h3 := hs i j hi hj hij
  have h4 := hb (sortV vs)[i] (hvp.mem_iff.1 (List.getElem_mem _))
  have h5 := hb (sortV vs)[j] (hvp.mem_iff.1 (List.getElem_mem _))
  have := h4.e1
  have := h4.l1
  have := h5.e1
  have := h5.l1
  apply Classical.byContradiction
  intro hn
  exact h2 ⟨by omega, by omega⟩

end Go.Proofs.Qxb6500665aDoor
