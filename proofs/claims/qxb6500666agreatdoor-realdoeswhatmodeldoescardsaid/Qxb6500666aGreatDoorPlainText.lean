/- Decimal text, lines of fields: no Go in sight. -/
import Derived.Test.Qxb6500666aGreatDoorPlainDiffer
import Derived.Laws.BytesArg
namespace Go.Proofs.Qxb6500666aGreatDoor

/-- The decimal digits of a number, as bytes. -/
def digs (m : Nat) : List Int := if m < 10 then [48 + (m : Int)] else digs (m / 10) ++ [48 + ((m % 10 : Nat) : Int)]
termination_by m

theorem digs_small {m : Nat} (h : m < 10) : digs m = [48 + (m : Int)] := by rw [digs, if_pos h]
theorem digs_big {m : Nat} (h : ¬ m < 10) : digs m = digs (m / 10) ++ [48 + ((m % 10 : Nat) : Int)] := by rw [digs, if_neg h]

theorem digs_pos (m : Nat) : 0 < (digs m).length := by
  by_cases h : m < 10
  · rw [digs_small h]; simp
  · rw [digs_big h]; simp

theorem digs_range (m : Nat) : ∀ b ∈ digs m, 48 ≤ b ∧ b ≤ 57 := by
  induction m using Nat.strongRecOn with
  | _ m ih =>
    by_cases h : m < 10
    · rw [digs_small h]; intro b hb; simp at hb; omega
    · rw [digs_big h]
      intro b hb
      rcases List.mem_append.1 hb with hb | hb
      · exact ih (m / 10) (by omega) b hb
      · simp at hb; omega

theorem digs_len (k : Nat) : ∀ m : Nat, m < 10 ^ (k + 1) → (digs m).length ≤ k + 1 := by
  induction k with
  | zero => intro m h; rw [digs_small (by simpa using h)]; simp
  | succ k ih =>
    intro m h
    by_cases h1 : m < 10
    · rw [digs_small h1]; simp
    · rw [digs_big h1]
      have := ih (m / 10) (by rw [Nat.div_lt_iff_lt_mul (by decide)]; rw [Nat.pow_succ] at h; exact h)
      simp; omega

/-- The parser's number, on the negative side. -/
def negVal (l : List Int) : Int := l.foldl (fun n d => n * 10 - (d - 48)) 0

theorem negVal_snoc (l : List Int) (d : Int) : negVal (l ++ [d]) = negVal l * 10 - (d - 48) := by simp [negVal]

theorem negVal_digs (m : Nat) : negVal (digs m) = -(m : Int) := by
  induction m using Nat.strongRecOn with
  | _ m ih =>
    by_cases h : m < 10
    · rw [digs_small h]; simp [negVal]; omega
    · rw [digs_big h, negVal_snoc, ih (m / 10) (by omega)]; omega

theorem negVal_prefix : ∀ (r l : List Int), negVal l ≤ 0 → (∀ b ∈ r, 48 ≤ b ∧ b ≤ 57) → negVal (l ++ r) ≤ negVal l
  | [], l, _, _ => by simp
  | d :: r, l, h, hr => by
    have h1 := hr d (List.mem_cons_self ..)
    have h2 := negVal_prefix r (l ++ [d]) (by rw [negVal_snoc]; omega) (fun b hb => hr b (List.mem_cons_of_mem _ hb))
    rw [negVal_snoc] at h2
    simp only [List.append_assoc, List.singleton_append] at h2
    omega

theorem negVal_nonpos (l : List Int) (h : ∀ b ∈ l, 48 ≤ b ∧ b ≤ 57) : negVal l ≤ 0 := by
  have := negVal_prefix l [] (by simp [negVal]) h
  simpa [negVal] using this

theorem negVal_take {m i : Nat} : -(m : Int) ≤ negVal ((digs m).take i) ∧ negVal ((digs m).take i) ≤ 0 := by
  have h0 := digs_range m
  have h1 : ∀ b ∈ (digs m).take i, 48 ≤ b ∧ b ≤ 57 := fun b hb => h0 b (List.mem_of_mem_take hb)
  have h2 := negVal_nonpos _ h1
  have h3 := negVal_prefix ((digs m).drop i) ((digs m).take i) h2 (fun b hb => h0 b (List.mem_of_mem_drop hb))
  rw [List.take_append_drop, negVal_digs] at h3
  exact ⟨h3, h2⟩

theorem digs_head {m : Nat} (h : 0 < m) : ∃ d r, digs m = d :: r ∧ 49 ≤ d ∧ d ≤ 57 := by
  induction m using Nat.strongRecOn with
  | _ m ih =>
    by_cases h1 : m < 10
    · exact ⟨_, _, digs_small h1, by omega, by omega⟩
    · obtain ⟨d, r, e, h2⟩ := ih (m / 10) (by omega) (by omega)
      exact ⟨d, r ++ [_], by rw [digs_big h1, e]; rfl, h2⟩

theorem digs_zero : digs 0 = [48] := by rw [digs_small (by decide)]; simp

theorem bytesLess_snoc : ∀ (x y : List UInt8) (c d : UInt8), x.length = y.length → Op.bytesLess (x ++ [c]) (y ++ [d]) = (Op.bytesLess x y || (x == y && decide (c < d)))
  | [], [], c, d, _ => by simp [Op.bytesLess]
  | a :: x, b :: y, c, d, h => by
    simp only [List.cons_append, Op.bytesLess, bytesLess_snoc x y c d (by simpa using h)]
    cases decide (a < b) <;> cases h2 : (a == b) <;> simp [h2]
  | [], _ :: _, _, _, h => by simp at h
  | _ :: _, [], _, _, h => by simp at h

def u8s (l : List Int) : List UInt8 := l.map fun n => UInt8.ofNat n.toNat

theorem u8_lt {a b : Int} (ha : 0 ≤ a) (hb : 0 ≤ b) (h : a < b) (h2 : b < 256) : UInt8.ofNat a.toNat < UInt8.ofNat b.toNat := by
  rw [UInt8.lt_iff_toNat_lt]
  simp
  omega

theorem digs_length_eq {a b : Nat} (h : (digs a).length = (digs b).length) : (a < 10 ↔ b < 10) := by
  constructor
  · intro ha
    rw [digs_small ha] at h
    rcases Nat.lt_or_ge b 10 with hb | hb
    · exact hb
    · rw [digs_big (by omega)] at h
      have := digs_pos (b / 10)
      simp only [List.length_append, List.length_cons, List.length_nil] at h
      omega
  · intro hb
    rw [digs_small hb] at h
    rcases Nat.lt_or_ge a 10 with ha | ha
    · exact ha
    · rw [digs_big (by omega)] at h
      have := digs_pos (a / 10)
      simp only [List.length_append, List.length_cons, List.length_nil] at h
      omega

theorem digs_less : ∀ (b a : Nat), (digs a).length = (digs b).length → a < b → Op.bytesLess (u8s (digs a)) (u8s (digs b)) = true := by
  intro b
  induction b using Nat.strongRecOn with
  | _ b ih =>
    intro a hl hab
    have hiff := digs_length_eq hl
    by_cases h : b < 10
    · have ha := hiff.2 h
      rw [digs_small ha, digs_small h]
      simp only [u8s, List.map_cons, List.map_nil, Op.bytesLess, Bool.or_eq_true, decide_eq_true_eq]
      exact Or.inl (u8_lt (by omega) (by omega) (by omega) (by omega))
    · have ha : ¬ a < 10 := fun h' => h (hiff.1 h')
      rw [digs_big h, digs_big ha] at hl ⊢
      have hl' : (digs (a / 10)).length = (digs (b / 10)).length := by simpa using hl
      have e : ∀ (l : List Int) (d : Int), u8s (l ++ [d]) = u8s l ++ [UInt8.ofNat d.toNat] := fun l d => by simp [u8s]
      rw [e, e, bytesLess_snoc _ _ _ _ (by simpa [u8s] using hl')]
      by_cases hq : a / 10 < b / 10
      · rw [ih (b / 10) (by omega) (a / 10) hl' hq]; rfl
      · have hq' : a / 10 = b / 10 := by omega
        rw [hq']
        simp only [BEq.rfl, Bool.true_and, Bool.or_eq_true, decide_eq_true_eq]
        exact Or.inr (u8_lt (by omega) (by omega) (by omega) (by omega))

/-- A number's text. -/
def dec (v : Int) : List Int := if v < 0 then 45 :: digs v.natAbs else digs v.natAbs

theorem dec_range (v : Int) : ∀ b ∈ dec v, 45 ≤ b ∧ b ≤ 57 := by
  intro b hb
  unfold dec at hb
  split at hb
  · rcases List.mem_cons.1 hb with rfl | hb
    · omega
    · have := digs_range _ b hb; omega
  · have := digs_range _ b hb; omega

theorem dec_pos (v : Int) : 0 < (dec v).length := by
  unfold dec
  have := digs_pos v.natAbs
  split
  · simp
  · exact this

theorem dec_len {v : Int} (h1 : -9223372036854775808 ≤ v) (h2 : v ≤ 9223372036854775807) : (dec v).length ≤ 20 := by
  have := digs_len 18 v.natAbs (by omega)
  unfold dec
  split
  · simp; omega
  · omega

end Go.Proofs.Qxb6500666aGreatDoor
