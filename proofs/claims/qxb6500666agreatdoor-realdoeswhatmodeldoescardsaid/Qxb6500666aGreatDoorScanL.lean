/- What a scan finds, plain. (Made by tools/mk_scanl.py out of q/ScanLaw.) -/
import Derived.Test.Qxb6500666aGreatDoorScanWalk
import Derived.Test.Qxb6500666aGreatDoorRowsB
import Derived.Test.Qxb6500666aGreatDoorKeys
namespace Go.Proofs.Qxb6500666aGreatDoor
open Go.RowKit

theorem ltB_total : ∀ {a b : List Int}, ltB a b = false → ltB b a = false → a = b
  | [], [], _, _ => rfl
  | [], _ :: _, h, _ => by simp [ltB] at h
  | _ :: _, [], _, h => by simp [ltB] at h
  | x :: r, y :: s, h1, h2 => by
    simp only [ltB] at h1 h2
    by_cases hxy : x = y
    · subst hxy
      rw [if_pos rfl] at h1 h2
      rw [ltB_total h1 h2]
    · rw [if_neg hxy] at h1
      rw [if_neg (Ne.symm hxy)] at h2
      have a1 := of_decide_eq_false h1
      have a2 := of_decide_eq_false h2
      omega

theorem pickN_none {ps : List KV} {f t : List Int} {last : Option (List Int)} : ∀ {q : Nat}, pickN ps f t last q = none → ∀ j, j < q → inRange f t last (keyAt ps j) = false
  | 0, _, j, hj => by omega
  | q + 1, h, j, hj => by
    simp only [pickN] at h
    split at h
    · split at h
      · cases h
      · split at h <;> cases h
    · rename_i hr
      by_cases hjq : j = q
      · subst hjq; simpa using hr
      · exact pickN_none h j (by omega)

theorem pickN_min {ps : List KV} {f t : List Int} {last : Option (List Int)} : ∀ {q i : Nat}, pickN ps f t last q = some i → ∀ j, j < q → inRange f t last (keyAt ps j) = true → ltB (keyAt ps j) (keyAt ps i) = false ∧ (keyAt ps j = keyAt ps i → i ≤ j)
  | 0, _, h, _, _, _ => by cases h
  | q + 1, i, h, j, hj, hr => by
    simp only [pickN] at h
    split at h
    · split at h
      · rename_i hq
        cases h
        by_cases hjq : j = q
        · subst hjq; exact ⟨ltB_irrefl _, fun _ => Nat.le_refl _⟩
        · have := pickN_none hq j (by omega)
          rw [hr] at this; cases this
      · rename_i k hk
        split at h
        · rename_i hlt
          cases h
          by_cases hjq : j = q
          · subst hjq; exact ⟨ltB_irrefl _, fun _ => Nat.le_refl _⟩
          · obtain ⟨a1, a2⟩ := pickN_min hk j (by omega) hr
            refine ⟨?_, fun he => ?_⟩
            · cases hx : ltB (keyAt ps j) (keyAt ps q) with
              | false => rfl
              | true => rw [ltB_trans hx hlt] at a1; cases a1
            · rw [he, hlt] at a1; cases a1
        · rename_i hlt
          cases h
          by_cases hjq : j = q
          · subst hjq; exact ⟨by simpa using hlt, fun _ => by have := (pickN_some hk).1; omega⟩
          · exact pickN_min hk j (by omega) hr
    · rename_i hr2
      by_cases hjq : j = q
      · subst hjq; exact absurd hr hr2
      · exact pickN_min h j (by omega) hr

theorem getB_first : ∀ {ps : List KV} {i : Nat} (hi : i < ps.length), (∀ j (hj : j < ps.length), ps[j].1 = ps[i].1 → i ≤ j) → getB ps ps[i].1 = some ps[i].2
  | [], i, hi, _ => by simp at hi
  | p :: r, 0, _, _ => by simp [getB]
  | p :: r, i + 1, hi, h => by
    have hi' : i < r.length := by simpa using hi
    have hp : ¬ p.1 = r[i].1 := fun e => by
      have := h 0 (by simp) e
      omega
    simp only [List.getElem_cons_succ, getB, if_neg hp]
    exact getB_first hi' (fun j hj e => by have := h (j + 1) (by simpa using hj) e; omega)

theorem scanB_spec (ps : List KV) (f t : List Int) : ∀ (n : Nat) (last : Option (List Int)), leftC ps f t last < n →
    (scanB ps f t n last).Pairwise (fun p q => ltB p.1 q.1 = true) ∧ (∀ p ∈ scanB ps f t n last, p ∈ ps ∧ inRange f t last p.1 = true ∧ getB ps p.1 = some p.2) ∧ (∀ p ∈ ps, inRange f t last p.1 = true → ∃ q ∈ scanB ps f t n last, q.1 = p.1)
  | 0, _, h => by omega
  | n + 1, last, h => by
    unfold scanB
    cases hp : pick ps f t last with
    | none =>
      refine ⟨List.Pairwise.nil, (fun p hp => absurd hp (by simp)), fun p hm hr => ?_⟩
      obtain ⟨j, hj, rfl⟩ := List.mem_iff_getElem.1 hm
      have := pickN_none hp j hj
      rw [show keyAt ps j = ps[j].1 by simp [keyAt, hj], hr] at this
      cases this
    | some i =>
      obtain ⟨hi, hir⟩ := pickN_some hp
      have hki : keyAt ps i = ps[i].1 := by simp [keyAt, hi]
      have hgi : ps[i]?.getD ([], []) = ps[i] := by simp [hi]
      have hl := leftC_lt hp
      obtain ⟨h1, h2, h3⟩ := scanB_spec ps f t n (some (keyAt ps i)) (by omega)
      have hgt : ∀ q ∈ scanB ps f t n (some (keyAt ps i)), ltB (keyAt ps i) q.1 = true := fun q hq => by
        have := (h2 q hq).2.1
        unfold inRange at this
        simp only [Bool.and_eq_true] at this
        exact this.2
      simp only [hgi]
      refine ⟨List.pairwise_cons.2 ⟨fun q hq => by rw [← hki]; exact hgt q hq, h1⟩, fun p hm => ?_, fun p hm hr => ?_⟩
      · rcases List.mem_cons.1 hm with rfl | hm
        · refine ⟨List.getElem_mem hi, by rw [← hki]; exact hir, getB_first hi (fun j hj e => ?_)⟩
          have hkj : keyAt ps j = ps[j].1 := by simp [keyAt, hj]
          exact (pickN_min hp j hj (by rw [hkj, e, ← hki]; exact hir)).2 (by rw [hkj, hki, e])
        · obtain ⟨a1, a2, a3⟩ := h2 p hm
          exact ⟨a1, inRange_next hir a2, a3⟩
      · obtain ⟨j, hj, rfl⟩ := List.mem_iff_getElem.1 hm
        have hkj : keyAt ps j = ps[j].1 := by simp [keyAt, hj]
        obtain ⟨a1, -⟩ := pickN_min hp j hj (by rw [hkj]; exact hr)
        by_cases he : ps[j].1 = ps[i].1
        · exact ⟨_, List.mem_cons_self .., he.symm⟩
        · have hlt : ltB (keyAt ps i) (keyAt ps j) = true := by
            cases hx : ltB (keyAt ps i) (keyAt ps j) with
            | true => rfl
            | false => exact absurd (by rw [← hkj, ← hki]; exact ltB_total a1 hx) he
          obtain ⟨q, hq, hqe⟩ := h3 ps[j] (List.getElem_mem hj) (by
            unfold inRange at hr ⊢
            simp only [Bool.and_eq_true] at hr ⊢
            exact ⟨hr.1, by rw [← hkj]; exact hlt⟩)
          exact ⟨q, List.mem_cons_of_mem _ hq, hqe⟩

theorem ltB_snoc : ∀ {a b : List Int} {x y : Int}, a.length = b.length → ltB (a ++ [x]) (b ++ [y]) = true → ltB a b = true ∨ (a = b ∧ x < y)
  | [], [], x, y, _, h => by
    simp only [List.nil_append, ltB] at h
    split at h
    · cases h
    · exact Or.inr ⟨rfl, of_decide_eq_true h⟩
  | [], _ :: _, _, _, hl, _ => by simp at hl
  | _ :: _, [], _, _, hl, _ => by simp at hl
  | u :: r, v :: s, x, y, hl, h => by
    simp only [List.cons_append, ltB] at h ⊢
    by_cases huv : u = v
    · subst huv
      rw [if_pos rfl] at h ⊢
      rcases ltB_snoc (by simpa using hl) h with h1 | ⟨rfl, h1⟩
      · exact Or.inl h1
      · exact Or.inr ⟨rfl, h1⟩
    · rw [if_neg huv] at h ⊢
      exact Or.inl h

theorem d256_lt : ∀ (c : Nat) (i j : Int), 0 ≤ i → 0 ≤ j → i < 256 ^ c → j < 256 ^ c → ltB (d256 c i) (d256 c j) = true → i < j
  | 0, i, j, _, _, _, _, h => by simp [d256, ltB] at h
  | c + 1, i, j, hi, hj, hi2, hj2, h => by
    have e1 : (256 : Int) ^ (c + 1) = 256 ^ c * 256 := by rw [Int.pow_succ]
    rw [e1] at hi2 hj2
    have i1 : i / 256 < 256 ^ c := Int.ediv_lt_of_lt_mul (by decide) hi2
    have j1 : j / 256 < 256 ^ c := Int.ediv_lt_of_lt_mul (by decide) hj2
    simp only [d256] at h
    rcases ltB_snoc (by rw [d256_len, d256_len]) h with h1 | ⟨h1, h2⟩
    · have := d256_lt c (i / 256) (j / 256) (by omega) (by omega) i1 j1 h1
      omega
    · have : i / 256 = j / 256 := by
        rw [← v256_d256 c (i / 256) (by omega) i1, ← v256_d256 c (j / 256) (by omega) j1, h1]
      omega

theorem leftC_le (ps : List KV) (f t : List Int) (last : Option (List Int)) : leftC ps f t last < ps.length + 1 := by
  unfold leftC
  have := List.length_filter_le (fun p : KV => inRange f t last p.1) ps
  omega

end Go.Proofs.Qxb6500666aGreatDoor
