/- The sort sorts; the eligible rows stand in rising key order. Plain. -/
import Derived.Test.Qxb6500666aGreatDoorEligP
import Derived.Test.Qxb6500666aGreatDoorMapP
namespace Go.Proofs.Qxb6500666aGreatDoor
open Go.RowKit

section
variable {α : Type} (lt : α → α → Bool)
/-- The first n stand in order. -/
def SO (xs : List α) (n : Nat) : Prop := ∀ i j x y, i < j → j < n → xs[i]? = some x → xs[j]? = some y → lt y x = false
variable (ha : ∀ a b, lt a b = true → lt b a = false) (ht : ∀ a b c, lt b a = false → lt c b = false → lt c a = false)
include ha ht
theorem sink_so : ∀ (j : Nat) (xs : List α), j < xs.length → SO lt xs j → SO lt (sink lt j xs) (j + 1) ∧ (∀ i, j < i → (sink lt j xs)[i]? = xs[i]?) ∧ (∀ i, i ≤ j → ∃ i', i' ≤ j ∧ (sink lt j xs)[i]? = xs[i']?)
  | 0, xs, _, _ => ⟨fun i j x y h1 h2 => by omega, fun _ _ => rfl, fun i hi => ⟨i, hi, rfl⟩⟩
  | j + 1, xs, hj, hs => by
    have hj0 : j < xs.length := by omega
    cases hl : lt xs[j + 1] xs[j] with
    | false =>
      rw [sink_miss lt hj hl]
      refine ⟨fun i i2 x y h1 h2 hx hy => ?_, fun _ _ => rfl, fun i hi => ⟨i, hi, rfl⟩⟩
      by_cases h3 : i2 < j + 1
      · exact hs i i2 x y h1 h3 hx hy
      · have h4 : i2 = j + 1 := by omega
        subst h4
        rw [List.getElem?_eq_getElem hj] at hy
        cases hy
        by_cases h5 : i = j
        · subst h5
          rw [List.getElem?_eq_getElem hj0] at hx
          cases hx
          exact hl
        · exact ht _ _ _ (hs i j x xs[j] (by omega) (by omega) hx (List.getElem?_eq_getElem hj0)) hl
    | true =>
      rw [sink_hit lt hj hl]
      obtain ⟨ys, hys⟩ : ∃ ys, ys = (xs.set (j + 1) xs[j]).set j xs[j + 1] := ⟨_, rfl⟩
      rw [← hys]
      have yl : ys.length = xs.length := by rw [hys]; simp
      have yj : ys[j]? = some xs[j + 1] := by rw [hys, List.getElem?_set_self (by simp; omega)]
      have yj1 : ys[j + 1]? = some xs[j] := by rw [hys, List.getElem?_set_ne (by omega), List.getElem?_set_self hj]
      have yo : ∀ i, i ≠ j → i ≠ j + 1 → ys[i]? = xs[i]? := fun i h1 h2 => by rw [hys, List.getElem?_set_ne (by omega), List.getElem?_set_ne (by omega)]
      obtain ⟨q1, q2, q3⟩ := sink_so j ys (by omega) (fun i i2 x y h1 h2 hx hy => by
        rw [yo i (by omega) (by omega)] at hx
        rw [yo i2 (by omega) (by omega)] at hy
        exact hs i i2 x y h1 (by omega) hx hy)
      refine ⟨fun i i2 x y h1 h2 hx hy => ?_, fun i hi => ?_, fun i hi => ?_⟩
      · by_cases h3 : i2 < j + 1
        · exact q1 i i2 x y h1 h3 hx hy
        · have h4 : i2 = j + 1 := by omega
          subst h4
          rw [q2 (j + 1) (by omega), yj1] at hy
          cases hy
          obtain ⟨i', h5, h6⟩ := q3 i (by omega)
          rw [h6] at hx
          by_cases h7 : i' = j
          · subst h7
            rw [yj] at hx
            cases hx
            exact ha _ _ hl
          · rw [yo i' h7 (by omega)] at hx
            exact hs i' j x xs[j] (by omega) (by omega) hx (List.getElem?_eq_getElem hj0)
      · rw [q2 i (by omega), yo i (by omega) (by omega)]
      · by_cases h3 : i = j + 1
        · subst h3
          exact ⟨j, by omega, by rw [q2 (j + 1) (by omega), yj1, List.getElem?_eq_getElem hj0]⟩
        · obtain ⟨i', h5, h6⟩ := q3 i (by omega)
          by_cases h7 : i' = j
          · subst h7
            exact ⟨i' + 1, by omega, by rw [h6, yj, List.getElem?_eq_getElem hj]⟩
          · exact ⟨i', by omega, by rw [h6, yo i' h7 (by omega)]⟩
theorem sortFrom_so : ∀ (c i : Nat) (xs : List α), i + c ≤ xs.length → SO lt xs i → SO lt (sortFrom lt c i xs) (i + c)
  | 0, i, xs, _, h => h
  | c + 1, i, xs, hl, h => by
    have h1 := (sink_so lt ha ht i xs (by omega) h).1
    have h2 := sortFrom_so c (i + 1) (sink lt i xs) (by rw [sink_len]; omega) h1
    rw [sortFrom, show i + (c + 1) = i + 1 + c by omega]
    exact h2
theorem sortL_so (xs : List α) : (sortL lt xs).Pairwise (fun a b => lt b a = false) := by
  rw [List.pairwise_iff_getElem]
  intro i j hi hj hij
  have hlen : (sortL lt xs).length = xs.length := (sortL_perm lt xs).length_eq
  have h := sortFrom_so lt ha ht (xs.length - 1) 1 xs (by omega) (fun i j x y h1 h2 => by omega)
  exact h i j _ _ hij (by omega) (List.getElem?_eq_getElem hi) (List.getElem?_eq_getElem hj)
end

theorem rowLt_iff {a b : Row} : rowLt a b = true ↔ keyLt a b := by unfold rowLt; rw [decide_eq_true_iff]; exact cmpK_neg
theorem rowLt_false {a b : Row} : rowLt a b = false ↔ ¬ keyLt a b := by rw [← rowLt_iff]; simp
theorem sortRows_rise {l : List Row} (h : l.Pairwise fun p q => ¬ (p.sample = q.sample ∧ p.analyte = q.analyte)) : Rise (sortL rowLt l) := by
  have h1 := sortL_so rowLt (fun a b q => by rw [rowLt_iff] at q; rw [rowLt_false]; unfold keyLt at *; omega) (fun a b c q1 q2 => by rw [rowLt_false] at *; unfold keyLt at *; omega) l
  have h2 : Apart (sortL rowLt l) := ((sortL_perm rowLt l).pairwise_iff (fun {a b} q k => q ⟨k.1.symm, k.2.symm⟩)).2 h
  refine (h1.and h2).imp fun {a b} q => ?_
  have q1 := rowLt_false.1 q.1
  have q2 := q.2
  unfold keyLt at *
  omega
theorem smpGet_id {T : Sm} {id : Int} {s : Smp} (h : smpGet T id = some s) : s.id = id := by
  unfold smpGet at h
  split at h
  · cases h
  · rcases findI_cases (fun x : Smp => (x.id == id)) T.ss with e | ⟨q, hq, e, hp⟩
    · rename_i hn
      exact absurd (show sIdx T.ss id < 0 by unfold sIdx; omega) hn
    · have e' : sIdx T.ss id = q := e
      rw [e', Int.toNat_natCast, List.getElem?_eq_getElem hq] at h
      injection h with h
      subst h
      simpa using hp
/-- The rows that go on record: of results on record that nothing holds back. -/
theorem eligGo_mem {L : Low} : ∀ {rs : List Res} {acc out : List Row}, eligGo L rs acc = some out → ∃ l, out = acc ++ l ∧ (l.map fun r : Row => (r.sample, r.analyte)).Sublist (rs.map resKey) ∧ (∀ y ∈ l, ∃ r ∈ rs, ∃ s, smpGet L.sm r.sample = some s ∧ holdsOf L s r = 0 ∧ y = rowOf L s r ∧ rowOkB y = true) ∧ ∀ r ∈ rs, ∀ s, smpGet L.sm r.sample = some s → holdsOf L s r = 0 → rowOf L s r ∈ l
  | [], acc, out, h => by
    injection h with h
    subst h
    exact ⟨[], by simp, by simp, fun y hy => (by cases hy), fun r hr => (by cases hr)⟩
  | r :: rs, acc, out, h => by
    simp only [eligGo] at h
    split at h
    · cases h
    · rename_i s hs
      have hid := smpGet_id hs
      split at h
      · rename_i hh
        obtain ⟨l, h1, h2, h3, h4⟩ := eligGo_mem h
        refine ⟨l, h1, h2.cons _, fun y hy => ?_, fun r' hr' s' hs' h0 => ?_⟩
        · obtain ⟨r', k1, k2⟩ := h3 y hy
          exact ⟨r', List.mem_cons_of_mem _ k1, k2⟩
        · rcases List.mem_cons.1 hr' with e | hr'
          · subst e
            rw [hs] at hs'
            injection hs' with hs'
            subst hs'
            rw [h0] at hh
            simp at hh
          · exact h4 r' hr' s' hs' h0
      · rename_i hh
        have h0 : holdsOf L s r = 0 := by simpa using hh
        split at h
        · rename_i hok
          obtain ⟨l, h1, h2, h3, h4⟩ := eligGo_mem h
          refine ⟨rowOf L s r :: l, by rw [h1]; simp, ?_, fun y hy => ?_, fun r' hr' s' hs' h0' => ?_⟩
          · rw [List.map_cons, List.map_cons]
            have : ((rowOf L s r).sample, (rowOf L s r).analyte) = resKey r := by simp [rowOf, resKey, hid]
            rw [this]
            exact h2.cons_cons _
          · rcases List.mem_cons.1 hy with e | hy
            · exact ⟨r, List.mem_cons_self .., s, hs, h0, e, by rw [e]; exact hok⟩
            · obtain ⟨r', k1, k2⟩ := h3 y hy
              exact ⟨r', List.mem_cons_of_mem _ k1, k2⟩
          · rcases List.mem_cons.1 hr' with e | hr'
            · subst e
              rw [hs] at hs'
              injection hs' with hs'
              subst hs'
              exact List.mem_cons_self ..
            · exact List.mem_cons_of_mem _ (h4 r' hr' s' hs' h0')
        · cases h
/-- The eligible rows: in rising key order, each of a result that nothing holds back, and all of these. -/
theorem eligR_spec {L : Low} (hu : SU L.sm) {a : List Row} (h : eligR L = some a) : Rise a ∧ (∀ y ∈ a, ∃ r ∈ L.sm.rs, ∃ s, smpGet L.sm r.sample = some s ∧ holdsOf L s r = 0 ∧ y = rowOf L s r ∧ rowOkB y = true) ∧ ∀ r ∈ L.sm.rs, ∀ s, smpGet L.sm r.sample = some s → holdsOf L s r = 0 → rowOf L s r ∈ a := by
  unfold eligR at h
  cases hg : eligGo L L.sm.rs [] with
  | none => rw [hg] at h; cases h
  | some g =>
    rw [hg] at h
    injection h with h
    subst h
    obtain ⟨l, h1, h2, h3, h4⟩ := eligGo_mem hg
    rw [List.nil_append] at h1
    subst h1
    have hp := sortL_perm rowLt g
    refine ⟨sortRows_rise ?_, fun y hy => h3 y (hp.mem_iff.1 hy), fun r hr s hs h0 => hp.mem_iff.2 (h4 r hr s hs h0)⟩
    have hn : (g.map fun r : Row => (r.sample, r.analyte)).Nodup := hu.nd.sublist h2
    exact (List.pairwise_map.1 hn).imp fun {p q} k e => k (by rw [e.1, e.2])
/-- Lists in rising key order with the same members are the same. -/
theorem rise_unique : ∀ {l1 l2 : List Row}, Rise l1 → Rise l2 → (∀ x, x ∈ l1 ↔ x ∈ l2) → l1 = l2
  | [], [], _, _, _ => rfl
  | [], y :: r, _, _, h => by have := (h y).2 (List.mem_cons_self ..); cases this
  | x :: r, [], _, _, h => by have := (h x).1 (List.mem_cons_self ..); cases this
  | x :: r1, y :: r2, h1, h2, h => by
    have h1' := List.pairwise_cons.1 h1
    have h2' := List.pairwise_cons.1 h2
    have hxy : x = y := by
      rcases List.mem_cons.1 ((h x).1 (List.mem_cons_self ..)) with h3 | h3
      · exact h3
      · rcases List.mem_cons.1 ((h y).2 (List.mem_cons_self ..)) with h4 | h4
        · exact h4.symm
        · exact absurd (keyLt_trans (h2'.1 x h3) (h1'.1 y h4)) keyLt_irrefl
    subst hxy
    rw [rise_unique h1'.2 h2'.2 (fun z => ⟨fun hz => ?_, fun hz => ?_⟩)]
    · rcases List.mem_cons.1 ((h z).1 (List.mem_cons_of_mem _ hz)) with h3 | h3
      · subst h3; exact absurd (h1'.1 z hz) keyLt_irrefl
      · exact h3
    · rcases List.mem_cons.1 ((h z).2 (List.mem_cons_of_mem _ hz)) with h3 | h3
      · subst h3; exact absurd (h2'.1 z hz) keyLt_irrefl
      · exact h3

end Go.Proofs.Qxb6500666aGreatDoor
