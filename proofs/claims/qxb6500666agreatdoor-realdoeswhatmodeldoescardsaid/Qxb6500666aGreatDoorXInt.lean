/- ParseInt on bytes that are no numeral: an error. -/
import Derived.Test.Qxb6500666aGreatDoorXIntP
import Derived.Test.Qxb6500666aGreatDoorFieldsWalk
namespace Go.Proofs.Qxb6500666aGreatDoor
open Go.RowKit

set_option maxRecDepth 100000 in
set_option maxHeartbeats 1000000 in
theorem parseInt_bad (w : World) (b off n cap : Nat) (p : List Int) (hn : p.length = n) (hnl : n ≤ 140737488355328) (hc : ∀ t (h : t < p.length), w.cell? ⟨b, off + t, none⟩ = some (.int .u8 p[t])) (hB : ByteL p) (hno : ¬ IsNum p) :
    Calls Tryz.prog 157 #[.slice (some ⟨b, off, none⟩) n cap] w fun e w' => (∃ t v, e = .returned (.tuple #[.int .i64 0, .iface t v])) ∧ w = w' := by
  have hcv := run_convert_bytes_arg (P := Tryz.prog) w 55 5 Tryz.underlying55 Tryz.underlying5 b off n cap p hn (fun i hi => by rw [hc i (by omega)]; simp [List.getD, show i < p.length by omega]) 9 Tryz.underlying9
  obtain ⟨S, hS⟩ : ∃ S, strOfNums p = S := ⟨_, rfl⟩
  have hSz : S.size = n := by rw [← hS, strOfNums_size, hn]
  have HS := hide hS
  have HP := hide hn
  have HBL := hide hB
  have HNO := hide hno
  rw [hS] at hcv
  have hS0 : ∀ (h : 0 < S.size) (h0 : 0 < p.length), ((S[0]'h).toNat : Int) = p[0] := fun h h0 => by
    subst hS
    have h2 := hB _ (List.getElem_mem h0)
    have := strOfNums_at h0 (by omega)
    omega
  clear hS hc hn hB hno
  go_enter Tryz.func157, Tryz.ntmps157
  go_upto_region 2 with fail
  go_cut [5] (fun t W => ∃ c : Bool, t = .bool c ∧ (c = true → 0 < n) ∧ Hid ((c = true → ∃ r, p = 45 :: r)) ∧ w = W)
  case first =>
    by_cases h0 : 0 < n
    · obtain ⟨t, ht⟩ : ∃ t : Bool, (((S[0]'(by omega)).toNat : Int) == 45) = t := ⟨_, rfl⟩
      have HT : Hid (t = true → ∃ r, p = 45 :: r) := fun e => by
        have hp0 : 0 < p.length := by have := HP.out; omega
        rw [e, hS0 (by omega) hp0] at ht
        simp at ht
        exact ⟨p.drop 1, by rw [← ht]; exact (List.drop_eq_getElem_cons hp0 ▸ List.drop_zero.symm)⟩
      clear hS0
      go_wp2
      go_meet
      case rel => exact ⟨_, rfl, fun _ => h0, HT, rfl⟩
    · have hn0 : n = 0 := by omega
      subst hn0
      clear hS0
      go_wp2
      go_meet
      case rel => exact ⟨false, rfl, fun h => Bool.noConfusion h, fun h => Bool.noConfusion h, rfl⟩
  case rest =>
  obtain ⟨neg, rfl, hneg, HNEG, rfl⟩ := hcut
  clear hcv hS0
  go_upto_if 19 with fail
  go_cut [4] (fun d W => ∃ D : ByteArray, d = .string D ∧ D.size ≤ n ∧ Hid (∃ ds, D = strOfNums ds ∧ (neg = true → p = 45 :: ds) ∧ (neg = false → p = ds)) ∧ w = W)
  case first =>
    cases neg with
    | true =>
      have h0 := hneg rfl
      go_wp2
      go_meet
      case rel =>
        refine ⟨_, rfl, by simp [ByteArray.size_extract]; omega, ?_, rfl⟩
        obtain ⟨r, hr⟩ := HNEG.out (by trivial)
        refine ⟨r, ?_, fun _ => hr, fun e => (by cases e)⟩
        have h1 := HP.out
        rw [hr] at h1
        rw [← HS.out, hr, show n = r.length + 1 by simpa using h1.symm]
        exact str_neg
    | false =>
      go_wp2
      go_meet
      case rel => exact ⟨_, rfl, by omega, ⟨p, HS.out.symm, fun e => (by cases e), fun _ => rfl⟩, rfl⟩
  case rest =>
  obtain ⟨D, rfl, hDn, HDS, rfl⟩ := hcut
  obtain ⟨ds, hDS, hp1, hp2⟩ := HDS.out
  have HDE := hide hDS
  have HPN := hide hp1
  have HPP := hide hp2
  have HSZ : Hid (D.size = ds.length) := by show _ = _; rw [hDS, strOfNums_size]
  have HBD : Hid (ByteL ds) := fun d hd => by
    cases neg with
    | true => exact HBL.out d (by rw [hp1 rfl]; exact List.mem_cons_of_mem _ hd)
    | false => exact HBL.out d (by rw [hp2 rfl]; exact hd)
  have HAT : Hid (∀ i (h : i < D.size) (h' : i < ds.length), ((D[i]'h).toNat : Int) = ds[i]) := fun i h h' => by
    subst hDS
    have h2 := HBD.out _ (List.getElem_mem h')
    have := strOfNums_at h' (by omega)
    omega
  clear hSz hneg hDS hp1 hp2 HDS HNEG HS HP HBL
  go_upto_region 5 with fail
  go_cut [36] (fun t W => ∃ c : Bool, t = .bool c ∧ Hid (c = false → ds ≠ [] ∧ ∀ r, ds = 48 :: r → r = [] ∧ neg = false) ∧ w = W)
  case first =>
    by_cases h0 : 0 < D.size
    · obtain ⟨u, hu⟩ : ∃ u : Bool, D.toList.isEmpty = u := ⟨_, rfl⟩
      obtain ⟨t, ht⟩ : ∃ t : Bool, (((D[0]'(by omega)).toNat : Int) == 48) = t := ⟨_, rfl⟩
      have hds : 0 < ds.length := by rw [← HSZ.out]; exact h0
      have HH0 : Hid (ds ≠ []) := fun e => by rw [e] at hds; simp at hds
      have HHT : Hid (t = false → ∀ r, ds ≠ 48 :: r) := fun e r hr => by
        rw [e, HAT.out 0 h0 hds] at ht
        subst hr
        simp at ht
      clear hds
      cases u with
      | true =>
        go_wp2
        go_meet
        case rel => exact ⟨_, rfl, fun e => (by cases e), rfl⟩
      | false =>
        cases t with
        | true =>
          cases t2 : decide ((1 : Int) < D.size) with
          | true =>
            go_wp2
            go_meet
            case rel => exact ⟨_, rfl, fun e => (by cases e), rfl⟩
          | false =>
            have t2' := of_decide_eq_false t2
            have HHL : Hid (∀ r, ds = 48 :: r → r = []) := fun r hr => by
              have h1 := HSZ.out
              rw [hr] at h1
              simp only [List.length_cons] at h1
              exact List.length_eq_zero_iff.1 (by omega)
            clear t2'
            cases neg with
            | true =>
              go_wp2
              go_meet
              case rel => exact ⟨_, rfl, fun e => (by cases e), rfl⟩
            | false =>
              go_wp2
              go_meet
              case rel => exact ⟨_, rfl, fun _ => ⟨HH0.out, fun r hr => ⟨HHL.out r hr, by trivial⟩⟩, rfl⟩
        | false =>
          go_wp2
          go_meet
          case rel => exact ⟨_, rfl, fun _ => ⟨HH0.out, fun r hr => absurd hr (HHT.out (by trivial) r)⟩, rfl⟩
    · have hD0 : D = ByteArray.empty := ByteArray.ext (Array.eq_empty_of_size_eq_zero (by have : D.data.size = D.size := rfl; omega))
      subst hD0
      go_wp2
      go_meet
      case rel => exact ⟨_, rfl, fun e => (by cases e), rfl⟩
  case rest =>
  obtain ⟨c, rfl, HC36, rfl⟩ := hcut
  cases c with
  | true =>
    go_wp2
    go_ret2
    exact ⟨⟨_, _, rfl⟩, rfl⟩
  | false =>
  go_upto_if 38 with fail
  go_cut [6] (fun d W => ∃ Bd : ByteArray, d = .string Bd ∧ Bd.size = 19 ∧ Hid (Bd.toList = u8s (digs (if neg then 9223372036854775808 else 9223372036854775807))) ∧ w = W)
  case first =>
    cases neg with
    | true =>
      go_wp2
      go_meet
      case rel => exact ⟨_, rfl, rfl, by show _ = _; rw [if_pos trivial]; exact bound_list', rfl⟩
    | false =>
      go_wp2
      go_meet
      case rel => exact ⟨_, rfl, rfl, by show _ = _; simp only [Bool.false_eq_true, if_false]; exact bound_list, rfl⟩
  case rest =>
  obtain ⟨Bd, rfl, hBd, HBT, rfl⟩ := hcut
  go_upto_region 10 with fail
  go_cut [55] (fun t W => ∃ c : Bool, t = .bool c ∧ Hid (c = false → D.size ≤ 19 ∧ (D.size = 19 → (!Op.bytesLess D.toList Bd.toList && !(D.toList == Bd.toList)) = false)) ∧ w = W)
  case first =>
    cases t2 : decide ((19 : Int) < D.size) with
    | true =>
      go_wp2
      go_meet
      case rel => exact ⟨_, rfl, fun e => (by cases e), rfl⟩
    | false =>
      have t2' := of_decide_eq_false t2
      have HT2 : Hid (D.size ≤ 19) := by show _ ≤ _; omega
      cases t3 : ((D.size : Int) == 19) with
      | true =>
        go_wp2
        go_meet
        case rel => exact ⟨_, rfl, fun e => ⟨HT2.out, fun _ => e⟩, rfl⟩
      | false =>
        have HT3 : Hid (¬ D.size = 19) := fun e => by rw [e] at t3; simp at t3
        go_wp2
        go_meet
        case rel => exact ⟨_, rfl, fun _ => ⟨HT2.out, fun e => absurd e HT3.out⟩, rfl⟩
  case rest =>
  obtain ⟨c, rfl, HC55, rfl⟩ := hcut
  cases c with
  | true =>
    go_wp2
    go_ret2
    exact ⟨⟨_, _, rfl⟩, rfl⟩
  | false =>
  go_upto_region 14 with fail
  go_loopw [7, 8] (fun x i W => ∃ (y : Int) (q : Nat), x = .int .i64 y ∧ I64 y ∧ i = .int .i64 q ∧ q ≤ D.size ∧ Hid (∀ t (h : t < ds.length), t < q → 48 ≤ ds[t] ∧ ds[t] ≤ 57) ∧ w = W) (fun _ j _ => D.size - (intOf j).toNat)
  case atStart => exact ⟨0, 0, rfl, ⟨by decide, by decide⟩, rfl, by omega, fun t _ h => by omega, rfl⟩
  case round =>
    obtain ⟨y, q, rfl, hy, rfl, hq, HRG, rfl⟩ := hrel
    by_cases hlt : q < D.size
    · obtain ⟨d, hd⟩ : ∃ d : Int, ((D[q]'hlt).toNat : Int) = d := ⟨_, rfl⟩
      have HDD : Hid (∀ h : q < ds.length, ds[q] = d) := fun h => by rw [← hd, HAT.out q hlt h]
      have hd1 : 0 ≤ d ∧ d < 256 := by
        have := (D[q]'hlt).toNat_lt
        omega
      cases t1 : decide (d < 48) with
      | true =>
        have t1' := of_decide_eq_true t1
        go_wp2
        go_ret2
        exact ⟨⟨_, _, rfl⟩, rfl⟩
      | false =>
        have t1' := of_decide_eq_false t1
        cases t2 : decide (57 < d) with
        | true =>
          have t2' := of_decide_eq_true t2
          go_wp2
          go_ret2
          exact ⟨⟨_, _, rfl⟩, rfl⟩
        | false =>
          have t2' := of_decide_eq_false t2
          have HRN : Hid (∀ t (h : t < ds.length), t < q + 1 → 48 ≤ ds[t] ∧ ds[t] ≤ 57) := fun t h h' => by
            rcases Nat.lt_or_ge t q with h3 | h3
            · exact HRG.out t h h3
            · obtain rfl : t = q := by omega
              rw [HDD.out h]
              exact ⟨by omega, by omega⟩
          go_wp2
          go_roundw
          case rel => exact ⟨_, q + 1, rfl, wrap64_ok _, by go_num, by omega, HRN, trivial⟩
          case measure => simp [intOf]; omega
    · exfalso
      have h1 := HC36.out (by trivial)
      have h2 := HC55.out (by trivial)
      have hz := HSZ.out
      refine HNO.out (isNum_of HPN.out HPP.out rfl h1.1 h1.2 (fun x hx => ?_) (by omega) (fun h => ?_))
      · obtain ⟨t, ht, rfl⟩ := List.getElem_of_mem hx
        exact HRG.out t ht (by omega)
      · have h3 := h2.2 (by omega)
        rw [HBT.out, HDE.out, strNums_inj] at h3
        exact h3

/-- ParseInt, on bytes of every kind. -/
theorem parseInt_x (w : World) (b off n cap : Nat) (p : List Int) (hn : p.length = n) (hcap : n ≤ cap ∧ cap ≤ maxLen) (hnl : n ≤ 140737488355328) (hc : ∀ t (h : t < p.length), w.cell? ⟨b, off + t, none⟩ = some (.int .u8 p[t])) (hB : ByteL p) :
    Calls Tryz.prog 157 #[.slice (some ⟨b, off, none⟩) n cap] w fun e w' => ∃ x er, e = .returned (.tuple #[.int .i64 x, er]) ∧ I64 x ∧ ((er = .nilIface ∧ p = dec x) ∨ (∃ t u, er = .iface t u) ∧ ¬ IsNum p ∧ x = 0) ∧ w = w' := by
  by_cases h : IsNum p
  · obtain ⟨x, hx, rfl⟩ := h
    refine (parseInt_calls w (fun _ => True) _ x ⟨_, cap, b, off, by rw [← hn], by omega, ⟨hcap.2, fun e => (by cases e)⟩, by omega, fun _ => ⟨rfl, trivial⟩, fun i hi => ?_⟩ hx.1 hx.2).mono ?_
    · have := hc i hi
      rw [Nat.mul_one]
      exact rng_one this
    · rintro e w' ⟨rfl, rfl⟩
      exact ⟨x, _, rfl, hx, Or.inl ⟨rfl, rfl⟩, rfl⟩
  · refine (parseInt_bad w b off n cap p hn hnl hc hB h).mono ?_
    rintro e w' ⟨⟨t, v, rfl⟩, rfl⟩
    exact ⟨0, _, rfl, ⟨by decide, by decide⟩, Or.inr ⟨⟨t, v, rfl⟩, h, rfl⟩, rfl⟩
end Go.Proofs.Qxb6500666aGreatDoor
