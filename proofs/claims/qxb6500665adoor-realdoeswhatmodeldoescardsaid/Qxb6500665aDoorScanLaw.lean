/- What a scan finds: plain. The sites and the subjects, in ascending order. -/
import Derived.Test.Qxb6500665aDoorRep
namespace Go.Proofs.Qxb6500665aDoor
open Go.RowKit

theorem ltB_total : ∀ {a b : List Int}, ltB a b = false → ltB b a = false → a = b
  | [], [], _, _ => rfl
  | [], _ :: _, h, _ => by simp [ltB] at h
  | _ :: _, [], _, h => by simp [ltB] at h
  | x :: r, y :: s, h1, h2 => by
    simp only [ltB] at h1 h2
    by_cases hxy : x = y
    · subst hxy
      rw [if_pos rfl] at h1 h2
      rw [ltB_total h1 h2]
    · rw [if_neg hxy] at h1
      rw [if_neg (Ne.symm hxy)] at h2
      have a1 := of_decide_eq_false h1
      have a2 := of_decide_eq_false h2
      omega

theorem pickN_none {ps : List KV} {f t : List Int} {last : Option (List Int)} : ∀ {q : Nat}, pickN ps f t last q = none → ∀ j, j < q → inRange f t last (keyAt ps j) = false
  | 0, _, j, hj => by omega
  | q + 1, h, j, hj => by
    simp only [pickN] at h
    split at h
    · split at h
      · cases h
      · split at h <;> cases h
    · rename_i hr
      by_cases hjq : j = q
      · subst hjq; simpa using hr
      · exact pickN_none h j (by omega)

theorem pickN_min {ps : List KV} {f t : List Int} {last : Option (List Int)} : ∀ {q i : Nat}, pickN ps f t last q = some i → ∀ j, j < q → inRange f t last (keyAt ps j) = true → ltB (keyAt ps j) (keyAt ps i) = false ∧ (keyAt ps j = keyAt ps i → i ≤ j)
  | 0, _, h, _, _, _ => by cases h
  | q + 1, i, h, j, hj, hr => by
    simp only [pickN] at h
    split at h
    · split at h
      · rename_i hq
        cases h
        by_cases hjq : j = q
        · subst hjq; exact ⟨ltB_irrefl _, fun _ => Nat.le_refl _⟩
        · have := pickN_none hq j (by omega)
          rw [hr] at this; cases this
      · rename_i k hk
        split at h
        · rename_i hlt
          cases h
          by_cases hjq : j = q
          · subst hjq; exact ⟨ltB_irrefl _, fun _ => Nat.le_refl _⟩
          · obtain ⟨a1, a2⟩ := pickN_min hk j (by omega) hr
            refine ⟨?_, fun he => ?_⟩
            · cases hx : ltB (keyAt ps j) (keyAt ps q) with
              | false => rfl
              | true => rw [ltB_trans hx hlt] at a1; cases a1
            · rw [he, hlt] at a1; cases a1
        · rename_i hlt
          cases h
          by_cases hjq : j = q
          · subst hjq; exact ⟨by simpa using hlt, fun _ => by have := (pickN_some hk).1; omega⟩
          · exact pickN_min hk j (by omega) hr
    · rename_i hr2
      by_cases hjq : j = q
      · subst hjq; exact absurd hr hr2
      · exact pickN_min h j (by omega) hr

theorem getB_first : ∀ {ps : List KV} {i : Nat} (hi : i < ps.length), (∀ j (hj : j < ps.length), ps[j].1 = ps[i].1 → i ≤ j) → getB ps ps[i].1 = some ps[i].2
  | [], i, hi, _ => by simp at hi
  | p :: r, 0, _, _ => by simp [getB]
  | p :: r, i + 1, hi, h => by
    have hi' : i < r.length := by simpa using hi
    have hp : ¬ p.1 = r[i].1 := fun e => by
      have := h 0 (by simp) e
      omega
    simp only [List.getElem_cons_succ, getB, if_neg hp]
    exact getB_first hi' (fun j hj e => by have := h (j + 1) (by simpa using hj) e; omega)

theorem getB_mem : ∀ {ps : List KV} {k v : List Int}, getB ps k = some v → (k, v) ∈ ps
  | [], _, _, h => by simp [getB] at h
  | p :: r, k, v, h => by
    simp only [getB] at h
    split at h
    · rename_i hp; cases h; subst hp; exact List.mem_cons_self ..
    · exact List.mem_cons_of_mem _ (getB_mem h)

theorem scanB_spec (ps : List KV) (f t : List Int) : ∀ (n : Nat) (last : Option (List Int)), leftC ps f t last < n →
    (scanB ps f t n last).Pairwise (fun p q => ltB p.1 q.1 = true) ∧ (∀ p ∈ scanB ps f t n last, p ∈ ps ∧ inRange f t last p.1 = true ∧ getB ps p.1 = some p.2) ∧ (∀ p ∈ ps, inRange f t last p.1 = true → ∃ q ∈ scanB ps f t n last, q.1 = p.1)
  | 0, _, h => by omega
  | n + 1, last, h => by
    unfold scanB
    cases hp : pick ps f t last with
    | none =>
      refine ⟨List.Pairwise.nil, (fun p hp => absurd hp (by simp)), fun p hm hr => ?_⟩
      obtain ⟨j, hj, rfl⟩ := List.mem_iff_getElem.1 hm
      have := pickN_none hp j hj
      rw [show keyAt ps j = ps[j].1 by simp [keyAt, hj], hr] at this
      cases this
    | some i =>
      obtain ⟨hi, hir⟩ := pickN_some hp
      have hki : keyAt ps i = ps[i].1 := by simp [keyAt, hi]
      have hgi : ps[i]?.getD ([], []) = ps[i] := by simp [hi]
      have hl := leftC_lt hp
      obtain ⟨h1, h2, h3⟩ := scanB_spec ps f t n (some (keyAt ps i)) (by omega)
      have hgt : ∀ q ∈ scanB ps f t n (some (keyAt ps i)), ltB (keyAt ps i) q.1 = true := fun q hq => by
        have := (h2 q hq).2.1
        unfold inRange at this
        simp only [Bool.and_eq_true] at this
        exact this.2
      simp only [hgi]
      refine ⟨List.pairwise_cons.2 ⟨fun q hq => by rw [← hki]; exact hgt q hq, h1⟩, fun p hm => ?_, fun p hm hr => ?_⟩
      · rcases List.mem_cons.1 hm with rfl | hm
        · refine ⟨List.getElem_mem hi, by rw [← hki]; exact hir, getB_first hi (fun j hj e => ?_)⟩
          have hkj : keyAt ps j = ps[j].1 := by simp [keyAt, hj]
          exact (pickN_min hp j hj (by rw [hkj, e, ← hki]; exact hir)).2 (by rw [hkj, hki, e])
        · obtain ⟨a1, a2, a3⟩ := h2 p hm
          exact ⟨a1, inRange_next hir a2, a3⟩
      · obtain ⟨j, hj, rfl⟩ := List.mem_iff_getElem.1 hm
        have hkj : keyAt ps j = ps[j].1 := by simp [keyAt, hj]
        obtain ⟨a1, -⟩ := pickN_min hp j hj (by rw [hkj]; exact hr)
        by_cases he : ps[j].1 = ps[i].1
        · exact ⟨_, List.mem_cons_self .., he.symm⟩
        · have hlt : ltB (keyAt ps i) (keyAt ps j) = true := by
            cases hx : ltB (keyAt ps i) (keyAt ps j) with
            | true => rfl
            | false => exact absurd (by rw [← hkj, ← hki]; exact ltB_total a1 hx) he
          obtain ⟨q, hq, hqe⟩ := h3 ps[j] (List.getElem_mem hj) (by
            unfold inRange at hr ⊢
            simp only [Bool.and_eq_true] at hr ⊢
            exact ⟨hr.1, by rw [← hkj]; exact hlt⟩)
          exact ⟨q, List.mem_cons_of_mem _ hq, hqe⟩

theorem ltB_snoc : ∀ {a b : List Int} {x y : Int}, a.length = b.length → ltB (a ++ [x]) (b ++ [y]) = true → ltB a b = true ∨ (a = b ∧ x < y)
  | [], [], x, y, _, h => by
    simp only [List.nil_append, ltB] at h
    split at h
    · cases h
    · exact Or.inr ⟨rfl, of_decide_eq_true h⟩
  | [], _ :: _, _, _, hl, _ => by simp at hl
  | _ :: _, [], _, _, hl, _ => by simp at hl
  | u :: r, v :: s, x, y, hl, h => by
    simp only [List.cons_append, ltB] at h ⊢
    by_cases huv : u = v
    · subst huv
      rw [if_pos rfl] at h ⊢
      rcases ltB_snoc (by simpa using hl) h with h1 | ⟨rfl, h1⟩
      · exact Or.inl h1
      · exact Or.inr ⟨rfl, h1⟩
    · rw [if_neg huv] at h ⊢
      exact Or.inl h

theorem d256_lt : ∀ (c : Nat) (i j : Int), 0 ≤ i → 0 ≤ j → i < 256 ^ c → j < 256 ^ c → ltB (d256 c i) (d256 c j) = true → i < j
  | 0, i, j, _, _, _, _, h => by simp [d256, ltB] at h
  | c + 1, i, j, hi, hj, hi2, hj2, h => by
    have e1 : (256 : Int) ^ (c + 1) = 256 ^ c * 256 := by rw [Int.pow_succ]
    rw [e1] at hi2 hj2
    have i1 : i / 256 < 256 ^ c := Int.ediv_lt_of_lt_mul (by decide) hi2
    have j1 : j / 256 < 256 ^ c := Int.ediv_lt_of_lt_mul (by decide) hj2
    simp only [d256] at h
    rcases ltB_snoc (by rw [d256_len, d256_len]) h with h1 | ⟨h1, h2⟩
    · have := d256_lt c (i / 256) (j / 256) (by omega) (by omega) i1 j1 h1
      omega
    · have : i / 256 = j / 256 := by
        rw [← v256_d256 c (i / 256) (by omega) i1, ← v256_d256 c (j / 256) (by omega) j1, h1]
      omega

theorem keyB_cons {t i : Int} (h0 : 0 ≤ t) (h1 : t ≤ 255) : keyB t i = t :: d256 4 i := by
  have : d256 1 t = [t] := by simp [d256]; omega
  rw [keyB, this]; rfl
theorem keyB_lt {t i j : Int} (h0 : 0 ≤ t) (h1 : t ≤ 255) (hi : U32 i) (hj : U32 j) (h : ltB (keyB t i) (keyB t j) = true) : i < j := by
  rw [keyB_cons h0 h1, keyB_cons h0 h1] at h
  simp only [ltB, if_true] at h
  have := hi.1; have := hi.2; have := hj.1; have := hj.2
  exact d256_lt 4 i j (by omega) (by omega) (by have : (256 : Int) ^ 4 = 4294967296 := by decide
                                                omega) (by have : (256 : Int) ^ 4 = 4294967296 := by decide
                                                           omega) h
theorem key_in (tag : Nat) (ht : tag ≤ 255) (id : Int) : inRange [(tag : Int)] [(tag : Int) + 1] none (keyB tag id) = true := by
  rw [keyB_cons (by omega) (by omega)]
  have : d256 4 id ≠ [] := fun e => by have := d256_len 4 id; rw [e] at this; cases this
  simp only [inRange, ltB, Bool.and_true, Bool.and_eq_true, Bool.not_eq_true']
  refine ⟨?_, ?_⟩
  · cases hd : d256 4 id with
    | nil => exact absurd hd this
    | cons x r => simp
  · rw [if_neg (by omega)]; exact decide_eq_true (by omega)

theorem leftC_le (ps : List KV) (f t : List Int) (last : Option (List Int)) : leftC ps f t last < ps.length + 1 := by
  unfold leftC
  have := List.length_filter_le (fun p : KV => inRange f t last p.1) ps
  omega

/-- The pairs with a tag, each key once, in the order of their ids. -/
theorem scan_tag {ps : List KV} (hk : KeysOk ps) (tag : Nat) (ht : tag ≤ 255) : ∃ l : List (Int × List Int), scanB ps [(tag : Int)] [(tag : Int) + 1] (ps.length + 1) none = l.map (fun x => (keyB tag x.1, x.2)) ∧ l.Pairwise (fun a b => a.1 < b.1) ∧ (∀ x ∈ l, U32 x.1) ∧ (∀ i v, U32 i → ((i, v) ∈ l ↔ getB ps (keyB tag i) = some v)) := by
  obtain ⟨h1, h2, h3⟩ := scanB_spec ps [(tag : Int)] [(tag : Int) + 1] (ps.length + 1) none (leftC_le _ _ _ _)
  generalize scanB ps [(tag : Int)] [(tag : Int) + 1] (ps.length + 1) none = sc at *
  have hkey : ∀ p ∈ sc, U32 (idOf p.1) ∧ p.1 = keyB tag (idOf p.1) := fun p hp => by
    obtain ⟨a1, a2, a3⟩ := h2 p hp
    obtain ⟨t, id, t0, t1, hid, he⟩ := hk p a1
    rw [he] at a2
    have := key_range t0 t1 a2
    subst this
    rw [he, idOf_key _ _ hid]
    exact ⟨hid, rfl⟩
  refine ⟨sc.map (fun p => (idOf p.1, p.2)), ?_, ?_, ?_, ?_⟩
  · rw [List.map_map]
    conv => lhs; rw [← List.map_id sc]
    refine List.map_congr_left fun p hp => ?_
    show p = (keyB tag (idOf p.1), p.2)
    rw [← (hkey p hp).2]
  · rw [List.pairwise_map]
    refine List.Pairwise.imp_of_mem (fun {p q} hp hq hpq => ?_) h1
    obtain ⟨u1, e1⟩ := hkey p hp
    obtain ⟨u2, e2⟩ := hkey q hq
    rw [e1, e2] at hpq
    exact keyB_lt (by omega) (by omega) u1 u2 hpq
  · intro x hx
    obtain ⟨p, hp, rfl⟩ := List.mem_map.1 hx
    exact (hkey p hp).1
  · intro i v hi
    constructor
    · intro hx
      obtain ⟨p, hp, he⟩ := List.mem_map.1 hx
      cases he
      rw [← (hkey p hp).2]
      exact (h2 p hp).2.2
    · intro hg
      obtain ⟨q, hq, he⟩ := h3 _ (getB_mem hg) (key_in tag ht i)
      have hq2 := (h2 q hq).2.2
      rw [he] at hq2
      rw [hg] at hq2
      refine List.mem_map.2 ⟨q, hq, ?_⟩
      rw [he, idOf_key _ _ hi]
      cases hq2
      rfl

theorem sitesOf_mem {ps : List KV} {T : Tab} (h : Rep ps T) (x : Int) : x ∈ sitesOf ps ↔ U32 x ∧ T.site x = true := by
  obtain ⟨l, h1, h2, h3, h4⟩ := scan_tag h.keys 115 (by decide)
  have h1' : scanB ps [115] [116] (ps.length + 1) none = l.map (fun x => (keyB 115 x.1, x.2)) := h1
  rw [sitesOf, h1', List.mem_flatMap]
  constructor
  · rintro ⟨p, hp, hx⟩
    obtain ⟨y, hy, rfl⟩ := List.mem_map.1 hp
    rw [List.mem_singleton, idOf_key _ _ (h3 y hy)] at hx
    subst hx
    have := (h4 y.1 y.2 (h3 y hy)).1 hy
    rw [show keyB (115 : Nat) y.1 = keyB 115 y.1 from rfl, h.site _ (h3 y hy)] at this
    refine ⟨h3 y hy, ?_⟩
    cases hs : T.site y.1 with
    | true => rfl
    | false => rw [hs] at this; cases this
  · rintro ⟨hx, hs⟩
    have hg := h.site x hx
    rw [hs] at hg
    exact ⟨(keyB 115 x, []), List.mem_map.2 ⟨(x, []), (h4 x [] hx).2 hg, rfl⟩, by rw [List.mem_singleton, idOf_key _ _ hx]⟩
theorem sitesOf_strict {ps : List KV} {T : Tab} (h : Rep ps T) : (sitesOf ps).Pairwise (fun a b => a < b) := by
  obtain ⟨l, h1, h2, h3, h4⟩ := scan_tag h.keys 115 (by decide)
  have h1' : scanB ps [115] [116] (ps.length + 1) none = l.map (fun x => (keyB 115 x.1, x.2)) := h1
  have : sitesOf ps = l.map (fun x => x.1) := by
    rw [sitesOf, h1']
    clear h1 h1' h2 h4
    induction l with
    | nil => rfl
    | cons y r ih =>
      simp only [List.map_cons, List.flatMap_cons, idOf_key _ _ (h3 y (List.mem_cons_self ..)), List.singleton_append]
      rw [ih (fun x hx => h3 x (List.mem_cons_of_mem _ hx))]
  rw [this, List.pairwise_map]
  exact h2

theorem subsOf_eq {ps : List KV} {T : Tab} (h : Rep ps T) (site : Int) : ∃ l : List (Int × List Int), subsOf ps site = (l.filter (fun x => decide (site = 0 ∨ stOf x.2 = site))).map (fun x => x.1) ∧ l.Pairwise (fun a b => a.1 < b.1) ∧ (∀ x ∈ l, U32 x.1) ∧ (∀ i v, U32 i → ((i, v) ∈ l ↔ getB ps (keyB 117 i) = some v)) := by
  obtain ⟨l, h1, h2, h3, h4⟩ := scan_tag h.keys 117 (by decide)
  have h1' : scanB ps [117] [118] (ps.length + 1) none = l.map (fun x => (keyB 117 x.1, x.2)) := h1
  refine ⟨l, ?_, h2, h3, h4⟩
  rw [subsOf, h1']
  clear h1 h1' h2 h4
  induction l with
  | nil => rfl
  | cons y r ih =>
    simp only [List.map_cons, List.flatMap_cons, List.filter_cons]
    rw [ih (fun x hx => h3 x (List.mem_cons_of_mem _ hx))]
    unfold selSub
    simp only [idOf_key _ _ (h3 y (List.mem_cons_self ..))]
    by_cases hc : site = 0 ∨ stOf y.2 = site
    · rw [if_pos hc, decide_eq_true hc, if_pos rfl]; rfl
    · rw [if_neg hc, decide_eq_false hc, if_neg (by simp)]; rfl
theorem subsOf_strict {ps : List KV} {T : Tab} (h : Rep ps T) (site : Int) : (subsOf ps site).Pairwise (fun a b => a < b) := by
  obtain ⟨l, h1, h2, h3, h4⟩ := subsOf_eq h site
  rw [h1, List.pairwise_map]
  exact h2.filter _
theorem subsOf_mem {ps : List KV} {T : Tab} (h : Rep ps T) (site x : Int) : x ∈ subsOf ps site ↔ U32 x ∧ ∃ l, T.sub x = some l ∧ (site = 0 ∨ l.1 = site) := by
  obtain ⟨l, h1, h2, h3, h4⟩ := subsOf_eq h site
  rw [h1, List.mem_map]
  constructor
  · rintro ⟨y, hy, rfl⟩
    obtain ⟨hy1, hy2⟩ := List.mem_filter.1 hy
    have hu := h3 y hy1
    have hg := (h4 y.1 y.2 hu).1 hy1
    rw [h.sub _ hu] at hg
    cases hs : T.sub y.1 with
    | none => rw [hs] at hg; cases hg
    | some s =>
      rw [hs] at hg
      have hv : subB s.1 s.2 = y.2 := by simpa using hg
      refine ⟨hu, s, rfl, ?_⟩
      have := of_decide_eq_true hy2
      rwa [← hv, stOf_sub _ _ (h.subok _ _ hs).1] at this
  · rintro ⟨hu, s, hs, hc⟩
    have hg := h.sub x hu
    rw [hs] at hg
    refine ⟨(x, subB s.1 s.2), List.mem_filter.2 ⟨(h4 x _ hu).2 hg, decide_eq_true ?_⟩, rfl⟩
    show site = 0 ∨ stOf (subB s.1 s.2) = site
    rw [stOf_sub _ _ (h.subok _ _ hs).1]
    exact hc

end Go.Proofs.Qxb6500665aDoor
