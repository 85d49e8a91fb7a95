/- Which bytes are a numeral. Plain. -/
import Derived.Test.Qxb6500666aGreatDoorWkInt
import Derived.Test.Qxb6500666aGreatDoorDmgB
namespace Go.Proofs.Qxb6500666aGreatDoor
open Go.RowKit
theorem digs_lt (m : Nat) : m < 10 ^ (digs m).length := by
  induction m using Nat.strongRecOn with
  | _ m ih =>
    by_cases h : m < 10
    · rw [digs_small h]
      simpa using h
    · rw [digs_big h, List.length_append]
      have := ih (m / 10) (by omega)
      show m < 10 ^ ((digs (m / 10)).length + 1)
      rw [Nat.pow_succ]
      omega
/-- Digits without a leading nought are those of a number. -/
theorem digs_canon : ∀ (k : Nat) (ds : List Int), ds.length = k + 1 → (∀ b ∈ ds, 48 ≤ b ∧ b ≤ 57) → (∀ d r, ds = d :: r → d = 48 → r = []) → ∃ m, ds = digs m
  | 0, ds, hl, hr, _ => by
    obtain ⟨d, rfl⟩ := List.length_eq_one_iff.1 hl
    have := hr d (List.mem_cons_self ..)
    refine ⟨(d - 48).toNat, ?_⟩
    rw [digs_small (by omega)]
    congr 1
    omega
  | k + 1, ds, hl, hr, hz => by
    obtain ⟨r, d, rfl⟩ : ∃ r d, ds = r ++ [d] := by
      refine ⟨ds.dropLast, ds.getLast (by intro e; rw [e] at hl; simp at hl), ?_⟩
      exact (List.dropLast_concat_getLast _).symm
    have hl : r.length = k + 1 := by simpa using hl
    obtain ⟨m, rfl⟩ := digs_canon k r hl (fun b hb => hr b (List.mem_append_left _ hb)) (fun d' r' e h48 => by
      exfalso
      have h1 := hz d' (r' ++ [d]) (by rw [e]; rfl) h48
      simp at h1)
    have hd := hr d (by simp)
    have hm : 0 < m := by
      rcases Nat.eq_zero_or_pos m with h0 | h0
      · exfalso
        subst h0
        rw [digs_zero] at hz
        have h1 := hz 48 [d] rfl rfl
        cases h1
      · exact h0
    refine ⟨m * 10 + (d - 48).toNat, ?_⟩
    rw [digs_big (m := m * 10 + (d - 48).toNat) (by omega), show (m * 10 + (d - 48).toNat) / 10 = m by omega, show (m * 10 + (d - 48).toNat) % 10 = (d - 48).toNat by omega]
    congr 2
    omega
theorem bytesLess_not : ∀ (x y : List UInt8), Op.bytesLess x y = true → Op.bytesLess y x = false ∧ (y == x) = false
  | [], [], h => by simp [Op.bytesLess] at h
  | [], _ :: _, _ => by simp [Op.bytesLess]
  | _ :: _, [], h => by simp [Op.bytesLess] at h
  | a :: r, b :: s, h => by
    have ih := bytesLess_not r s
    simp only [Op.bytesLess, Bool.or_eq_true, Bool.and_eq_true, beq_iff_eq, decide_eq_true_eq] at h
    rcases h with h | ⟨h1, h2⟩
    · have h3 : ¬ b < a := UInt8.lt_asymm h
      have h4 : ¬ b = a := fun e => UInt8.lt_irrefl a (e ▸ h)
      simp [Op.bytesLess, h3, h4]
    · subst h1
      have := ih h2
      simp [Op.bytesLess, this.1]
      have := this.2
      simpa using this
/-- A numeral. -/
def IsNum (p : List Int) : Prop := ∃ x, I64 x ∧ p = dec x
theorem isNum_of {neg : Bool} {p ds : List Int} {M : Nat} (hn : neg = true → p = 45 :: ds) (hn' : neg = false → p = ds) (hM : M = if neg then 9223372036854775808 else 9223372036854775807)
    (h0 : ds ≠ []) (hz : ∀ r, ds = 48 :: r → r = [] ∧ neg = false) (hr : ∀ b ∈ ds, 48 ≤ b ∧ b ≤ 57) (hl : ds.length ≤ 19) (hb : ds.length = 19 → (!Op.bytesLess (u8s ds) (u8s (digs M)) && !(u8s ds == u8s (digs M))) = false) : IsNum p := by
  have hp : 0 < ds.length := List.length_pos_iff.2 h0
  obtain ⟨m, hm⟩ := digs_canon (ds.length - 1) ds (by omega) hr (fun d r e h48 => by subst h48; exact (hz r e).1)
  have hML : (digs M).length = 19 := by
    cases neg with
    | true => rw [hM, if_pos rfl, digs_bound']; rfl
    | false =>
      rw [hM]
      simp only [Bool.false_eq_true, if_false]
      rw [digs_bound]
      rfl
  have hmM : m ≤ M := by
    rcases Nat.lt_or_ge ds.length 19 with h | h
    · have h1 := digs_lt m
      rw [← hm] at h1
      have h2 : 10 ^ ds.length ≤ 10 ^ 18 := Nat.pow_le_pow_right (by decide) (by omega)
      have h3 : 9223372036854775807 ≤ M := by rw [hM]; split <;> omega
      omega
    · have hb := hb (by omega)
      rcases Nat.lt_or_ge M m with h4 | h4
      · have := digs_less m M (by rw [hML, ← hm]; omega) h4
        have := bytesLess_not _ _ this
        rw [hm, this.1, this.2] at hb
        cases hb
      · exact h4
  cases neg with
  | true =>
    have hm0 : m ≠ 0 := fun e => by
      rw [e, digs_zero] at hm
      have := (hz [] hm).2
      cases this
    rw [if_pos rfl] at hM
    refine ⟨-(m : Int), ⟨by omega, by omega⟩, ?_⟩
    rw [hn rfl, dec, if_pos (by omega), hm]
    congr 2
    omega
  | false =>
    simp only [Bool.false_eq_true, if_false] at hM
    refine ⟨(m : Int), ⟨by omega, by omega⟩, ?_⟩
    rw [hn' rfl, dec, if_neg (by omega), hm]
    congr 1
theorem strNums_inj {l : List Int} : (strOfNums l).toList = u8s l := by simp [u8s, strOfNums, ByteArray.toList_eq]
end Go.Proofs.Qxb6500666aGreatDoor
