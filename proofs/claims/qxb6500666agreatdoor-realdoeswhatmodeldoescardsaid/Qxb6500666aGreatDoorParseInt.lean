/- ParseInt, walked on the texts that AppendInt writes. -/
import Derived.Test.Qxb6500666aGreatDoorBytes
namespace Go.Proofs.Qxb6500666aGreatDoor
open Go.RowKit

theorem strOfNums_at {xs : List Int} {i : Nat} (h : i < xs.length) (h2 : 0 ≤ xs[i] ∧ xs[i] < 256) : ((strOfNums xs)[i]'(by rw [strOfNums_size]; exact h)).toNat = xs[i].toNat := by
  simp [strOfNums, ByteArray.getElem_eq_getElem_data]
  omega

theorem str_neg {l : List Int} : (strOfNums (45 :: l)).extract 1 (l.length + 1) = strOfNums l := by
  apply ByteArray.ext
  simp [strOfNums, ByteArray.data_extract, List.take_of_length_le]

/-- The digits, as ParseInt's string holds them. -/
structure DigS (D : ByteArray) (m L : Nat) : Prop where
  size : D.size = L
  pos : 0 < L
  le : L ≤ 19
  list : D.toList = u8s (digs m)
  at_ : ∀ i (h : i < D.size) (h' : i < (digs m).length), (D[i].toNat : Int) = (digs m)[i]
  len : (digs m).length = L

theorem digS_of {m : Nat} (h : m ≤ 9223372036854775808) : DigS (strOfNums (digs m)) m (digs m).length where
  size := strOfNums_size _
  pos := digs_pos m
  le := digs_len 18 m (by omega)
  list := by simp [u8s, strOfNums, ByteArray.toList_eq]
  at_ := fun i hi hi' => by
    have h2 := digs_range m _ (List.getElem_mem hi')
    have := strOfNums_at hi' (by omega)
    omega
  len := rfl

theorem digs_bound : digs 9223372036854775807 = [57, 50, 50, 51, 51, 55, 50, 48, 51, 54, 56, 53, 52, 55, 55, 53, 56, 48, 55] := by simp [digs]
theorem digs_bound' : digs 9223372036854775808 = [57, 50, 50, 51, 51, 55, 50, 48, 51, 54, 56, 53, 52, 55, 55, 53, 56, 48, 56] := by simp [digs]
theorem bound_list : (⟨#[57, 50, 50, 51, 51, 55, 50, 48, 51, 54, 56, 53, 52, 55, 55, 53, 56, 48, 55]⟩ : ByteArray).toList = u8s (digs 9223372036854775807) := by
  rw [digs_bound]; simp [u8s, ByteArray.toList_eq]
theorem bound_list' : (⟨#[57, 50, 50, 51, 51, 55, 50, 48, 51, 54, 56, 53, 52, 55, 55, 53, 56, 48, 56]⟩ : ByteArray).toList = u8s (digs 9223372036854775808) := by
  rw [digs_bound']; simp [u8s, ByteArray.toList_eq]

/-- The bound, as ParseInt's string holds it. -/
def Bound (m : Nat) (b : Value) : Prop := ∃ (Bd : ByteArray) (M : Nat), b = .string Bd ∧ Bd.size = 19 ∧ Bd.toList = u8s (digs M) ∧ (digs M).length = 19 ∧ m ≤ M

set_option maxRecDepth 100000 in
set_option maxHeartbeats 1000000 in
theorem parseInt_calls (w : World) (ok : Nat → Prop) (v : Value) (x : Int) (h : BytesAt w ok v (dec x)) (h1 : -9223372036854775808 ≤ x) (h2 : x ≤ 9223372036854775807) :
    Calls Tryz.prog 157 #[v] w fun e w' => e = .returned (.tuple #[.int .i64 x, .nilIface]) ∧ w = w' := by
  obtain ⟨a, cap, b, off, hv, hr, -, -, -, ha, hc⟩ := h.parts _ rfl
  have hp := dec_pos x
  obtain ⟨rfl, -, -⟩ := ha hp
  subst hv
  have hcv := run_convert_bytes_arg (P := Tryz.prog) w 55 5 Tryz.underlying55 Tryz.underlying5 b off (dec x).length cap (dec x) rfl (fun i hi => by rw [hc i hi]; simp [List.getD, hi]) 9 Tryz.underlying9
  obtain ⟨m, hm⟩ : ∃ m : Nat, x.natAbs = m := ⟨_, rfl⟩
  have hDS := digS_of (m := m) (by omega)
  go_enter Tryz.func157, Tryz.ntmps157
  obtain ⟨S, hS⟩ : ∃ S, strOfNums (dec x) = S := ⟨_, rfl⟩
  rw [hS] at hcv
  obtain ⟨n, hn⟩ : ∃ n, (dec x).length = n := ⟨_, rfl⟩
  have hSz : S.size = n := by rw [← hS, strOfNums_size, hn]
  rw [hn] at hp hr hcv ⊢
  have hS0 : ((S[0]'(by omega)).toNat : Int) = (dec x)[0]'(by omega) := by
    subst hS
    have h0 : 0 < (dec x).length := by omega
    have h2 := dec_range x _ (List.getElem_mem h0)
    have := strOfNums_at h0 (by omega)
    omega
  obtain ⟨neg, hng⟩ : ∃ neg, decide (x < 0) = neg := ⟨_, rfl⟩
  have hS1 : (((S[0]'(by omega)).toNat : Int) == 45) = neg := by
    rw [hS0, ← hng]
    by_cases hx : x < 0
    · have e : dec x = 45 :: digs m := by rw [dec, if_pos hx, hm]
      simp [e, hx]
    · have e : dec x = digs m := by rw [dec, if_neg hx, hm]
      have := digs_range m ((digs m)[0]'(digs_pos m)) (List.getElem_mem _)
      simp [e, hx]
      omega
  clear hc ha h hS0
  go_upto_if 19 with fail
  obtain ⟨D, hD⟩ : ∃ D, strOfNums (digs m) = D := ⟨_, rfl⟩
  rw [hD] at hDS
  obtain ⟨L, hL⟩ : ∃ L, (digs m).length = L := ⟨_, rfl⟩
  rw [hL] at hDS
  go_cut [4] (fun d W => d = .string D ∧ w = W)
  case first =>
    by_cases hx : x < 0
    · have e : dec x = 45 :: digs m := by rw [dec, if_pos hx, hm]
      have e1 : S.extract 1 n = D := by rw [← hS, e, ← hD, ← hn, e]; exact str_neg
      have ed : neg = true := by rw [← hng]; simpa using hx
      subst ed
      go_wp2
      go_meet
      case rel => exact ⟨rfl, rfl⟩
    · have e : dec x = digs m := by rw [dec, if_neg hx, hm]
      have e1 : S = D := by rw [← hS, e, ← hD]
      have ed : neg = false := by rw [← hng]; simpa using hx
      subst ed
      go_wp2
      go_meet
      case rel => exact ⟨rfl, rfl⟩
  case rest =>
  obtain ⟨rfl, rfl⟩ := hcut
  obtain ⟨hDz, hDp, hDl, hDL, hDa, -⟩ := hDS
  have hD0 : (((D[0]'(by omega)).toNat : Int) == 48) = decide (m = 0) := by
    rw [hDa 0 (by omega) (by omega)]
    rcases Nat.eq_zero_or_pos m with rfl | hmp
    · simp [digs_zero]
    · obtain ⟨d, r, e, h49, h57⟩ := digs_head hmp
      have e1 : (digs m)[0]'(by omega) = d := by simp [e]
      rw [e1]
      have e2 : (d == 48) = false := by simp; omega
      have e3 : decide (m = 0) = false := by simp; omega
      rw [e2, e3]
  have hDn : ¬ D.toList = [] := by
    rw [hDL]
    intro h
    have := congrArg List.length h
    simp [u8s] at this
    have := digs_pos m
    simp_all
  have hDe : D.toList.isEmpty = false := by simpa using hDn
  have HDL := hide hDL
  have HDA := hide hDa
  have HX := hide hng
  clear hcv hS1 hSz hDL hDa hng hDn
  go_upto_region 5 with fail
  go_cut [36] (fun t W => t = .bool false ∧ w = W)
  case first =>
    by_cases hm0 : m = 0
    · have hL1 : L = 1 := by rw [← hL, hm0, digs_zero]; rfl
      have hn0 : neg = false := by rw [← HX.out]; simp; omega
      rw [hm0] at hD0
      simp only [decide_true] at hD0
      subst hL1 hn0
      go_wp2
      go_meet
      case rel => exact ⟨rfl, rfl⟩
    · have hm1 : (decide (m = 0)) = false := by simpa using hm0
      rw [hm1] at hD0
      go_wp2
      go_meet
      case rel => exact ⟨rfl, rfl⟩
  case rest =>
  obtain ⟨rfl, rfl⟩ := hcut
  go_upto_if 38 with fail
  go_cut [6] (fun b W => Bound m b ∧ w = W)
  case first =>
    obtain hneg | hneg : neg = true ∨ neg = false := by cases neg <;> simp
    · subst hneg
      go_wp2
      go_meet
      case rel => exact ⟨⟨_, _, rfl, rfl, bound_list', by rw [digs_bound']; rfl, by omega⟩, rfl⟩
    · subst hneg
      have hx0 := HX.out
      simp at hx0
      go_wp2
      go_meet
      case rel => exact ⟨⟨_, _, rfl, rfl, bound_list, by rw [digs_bound]; rfl, by omega⟩, rfl⟩
  case rest =>
  obtain ⟨⟨Bd, M, rfl, hBz, hBl, hBL, hmM⟩, rfl⟩ := hcut
  go_upto_region 10 with fail
  go_cut [55] (fun t W => t = .bool false ∧ w = W)
  case first =>
    by_cases hL19 : L = 19
    · have hcmp : (Op.bytesLess D.toList Bd.toList) = true ∨ D.toList = Bd.toList := by
        rw [HDL.out, hBl]
        rcases Nat.lt_or_ge m M with h | h
        · exact Or.inl (digs_less M m (by omega) h)
        · exact Or.inr (by rw [Nat.le_antisymm hmM h])
      subst hL19
      clear hBl
      rcases hcmp with hc1 | hc1
      · go_wp2
        go_meet
        case rel => exact ⟨by first | rfl | simp, rfl⟩
      · go_wp2
        go_meet
        case rel => exact ⟨by first | rfl | simp [hc1], rfl⟩
    · have hL2 : decide ((L : Int) = 19) = false := by simpa using (show ¬ (L : Int) = 19 by omega)
      have hL3 : decide (19 < (L : Int)) = false := by simpa using (show ¬ (19 : Int) < L by omega)
      have hL4 : ((L : Int) == 19) = false := by simpa using (show ¬ (L : Int) = 19 by omega)
      go_wp2
      go_meet
      case rel => exact ⟨rfl, rfl⟩
  case rest =>
  obtain ⟨rfl, rfl⟩ := hcut
  clear hBz hBl hBL hD0 hDe
  go_wp2
  go_loopg [7, 8] L (fun g y j W => ∃ i : Nat, i ≤ L ∧ g = L - i ∧ j = .int .i64 i ∧ y = .int .i64 (negVal ((digs m).take i)) ∧ w = W)
  case atStart => exact ⟨0, by omega, by omega, rfl, rfl, rfl⟩
  case round =>
    obtain ⟨i, hi, rfl, rfl, rfl, rfl⟩ := hrel
    obtain ⟨hv1, hv2⟩ := negVal_take (m := m) (i := i)
    by_cases hlt : i < L
    · have hil : i < (digs m).length := by omega
      have hiD : i < D.size := by omega
      have hdi : ((D[i]'hiD).toNat : Int) = (digs m)[i] := HDA.out i hiD hil
      have hrange := digs_range m _ (List.getElem_mem hil)
      have HN : Hid (negVal ((digs m).take (i + 1)) = negVal ((digs m).take i) * 10 - ((digs m)[i] - 48)) := by
        show _ = _
        rw [List.take_succ_eq_append_getElem hil, negVal_snoc]
      obtain ⟨hw1, hw2⟩ := negVal_take (m := m) (i := i + 1)
      rw [HN.out] at hw1 hw2
      generalize (digs m)[i] = d at *
      generalize negVal ((digs m).take i) = y at *
      go_wp2
      go_roundg (L - (i + 1))
      case measure => omega
      case rel => exact ⟨i + 1, by omega, rfl, by go_num, by rw [HN.out], rfl⟩
    · have e : (digs m).take i = digs m := List.take_of_length_le (by omega)
      rw [e, negVal_digs]
      obtain hneg | hneg : neg = true ∨ neg = false := by cases neg <;> simp
      · subst hneg
        have hx0 := HX.out
        simp at hx0
        go_wp2
        go_ret2
        exact ⟨by rw [show (-(m : Int)) = x by omega]; rfl, rfl⟩
      · subst hneg
        have hx0 := HX.out
        simp at hx0
        go_wp2
        go_ret2
        exact ⟨by rw [show (m : Int) = x by omega]; rfl, rfl⟩

end Go.Proofs.Qxb6500666aGreatDoor
