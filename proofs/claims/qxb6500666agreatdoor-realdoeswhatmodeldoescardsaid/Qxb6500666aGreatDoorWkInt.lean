/- ParseInt on bytes of every kind: it returns. -/
import Derived.Test.Qxb6500666aGreatDoorParseInt
namespace Go.Proofs.Qxb6500666aGreatDoor
open Go.RowKit

theorem wrap64_ok (x : Int) : I64 (wrap64 x) := by
  unfold I64 wrap64
  omega

/-- Some answer of ParseInt. -/
def IntAns (e : Ending) : Prop := ∃ x : Int, I64 x ∧ (e = .returned (.tuple #[.int .i64 x, .nilIface]) ∨ ∃ t v, e = .returned (.tuple #[.int .i64 x, .iface t v]))

set_option maxRecDepth 100000 in
set_option maxHeartbeats 1000000 in
theorem parseInt_any (w : World) (b off n cap : Nat) (p : List Int) (hn : p.length = n) (hnl : n ≤ 140737488355328) (hc : ∀ t (h : t < p.length), w.cell? ⟨b, off + t, none⟩ = some (.int .u8 p[t])) :
    Calls Tryz.prog 157 #[.slice (some ⟨b, off, none⟩) n cap] w fun e w' => IntAns e ∧ w = w' := by
  have hcv := run_convert_bytes_arg (P := Tryz.prog) w 55 5 Tryz.underlying55 Tryz.underlying5 b off n cap p hn (fun i hi => by rw [hc i (by omega)]; simp [List.getD, show i < p.length by omega]) 9 Tryz.underlying9
  obtain ⟨S, hS⟩ : ∃ S, strOfNums p = S := ⟨_, rfl⟩
  have hSz : S.size = n := by rw [← hS, strOfNums_size, hn]
  rw [hS] at hcv
  clear hS hc hn
  go_enter Tryz.func157, Tryz.ntmps157
  go_upto_region 2 with fail
  go_cut [5] (fun t W => ∃ c : Bool, t = .bool c ∧ (c = true → 0 < n) ∧ w = W)
  case first =>
    by_cases h0 : 0 < n
    · obtain ⟨t, ht⟩ : ∃ t : Bool, (((S[0]'(by omega)).toNat : Int) == 45) = t := ⟨_, rfl⟩
      go_wp2
      go_meet
      case rel => exact ⟨_, rfl, fun _ => h0, rfl⟩
    · have hn0 : n = 0 := by omega
      subst hn0
      go_wp2
      go_meet
      case rel => exact ⟨false, rfl, fun h => Bool.noConfusion h, rfl⟩
  case rest =>
  obtain ⟨neg, rfl, hneg, rfl⟩ := hcut
  clear hcv
  go_upto_if 19 with fail
  go_cut [4] (fun d W => ∃ D : ByteArray, d = .string D ∧ D.size ≤ n ∧ w = W)
  case first =>
    cases neg with
    | true =>
      have h0 := hneg rfl
      go_wp2
      go_meet
      case rel => exact ⟨_, rfl, by simp [ByteArray.size_extract]; omega, rfl⟩
    | false =>
      go_wp2
      go_meet
      case rel => exact ⟨_, rfl, by omega, rfl⟩
  case rest =>
  obtain ⟨D, rfl, hDn, rfl⟩ := hcut
  clear hSz hneg
  go_upto_region 5 with fail
  go_cut [36] (fun t W => ∃ c : Bool, t = .bool c ∧ w = W)
  case first =>
    by_cases h0 : 0 < D.size
    · obtain ⟨u, hu⟩ : ∃ u : Bool, D.toList.isEmpty = u := ⟨_, rfl⟩
      obtain ⟨t, ht⟩ : ∃ t : Bool, (((D[0]'(by omega)).toNat : Int) == 48) = t := ⟨_, rfl⟩
      cases u with
      | true =>
        go_wp2
        go_meet
        case rel => exact ⟨_, rfl, rfl⟩
      | false =>
        cases t with
        | true =>
          cases t2 : decide ((1 : Int) < D.size) with
          | true =>
            go_wp2
            go_meet
            case rel => exact ⟨_, rfl, rfl⟩
          | false =>
            go_wp2
            go_meet
            case rel => exact ⟨_, rfl, rfl⟩
        | false =>
          go_wp2
          go_meet
          case rel => exact ⟨_, rfl, rfl⟩
    · have hD0 : D = ByteArray.empty := ByteArray.ext (Array.eq_empty_of_size_eq_zero (by have : D.data.size = D.size := rfl; omega))
      subst hD0
      go_wp2
      go_meet
      case rel => exact ⟨_, rfl, rfl⟩
  case rest =>
  obtain ⟨c, rfl, rfl⟩ := hcut
  cases c with
  | true =>
    go_wp2
    go_ret2
    exact ⟨⟨0, ⟨by decide, by decide⟩, Or.inr ⟨_, _, rfl⟩⟩, rfl⟩
  | false =>
  go_upto_if 38 with fail
  go_cut [6] (fun d W => ∃ Bd : ByteArray, d = .string Bd ∧ Bd.size = 19 ∧ w = W)
  case first =>
    cases neg with
    | true =>
      go_wp2
      go_meet
      case rel => exact ⟨_, rfl, rfl, rfl⟩
    | false =>
      go_wp2
      go_meet
      case rel => exact ⟨_, rfl, rfl, rfl⟩
  case rest =>
  obtain ⟨Bd, rfl, hBd, rfl⟩ := hcut
  go_upto_region 10 with fail
  go_cut [55] (fun t W => ∃ c : Bool, t = .bool c ∧ w = W)
  case first =>
    cases t2 : decide ((19 : Int) < D.size) with
    | true =>
      go_wp2
      go_meet
      case rel => exact ⟨_, rfl, rfl⟩
    | false =>
      cases t3 : ((D.size : Int) == 19) with
      | true =>
        go_wp2
        go_meet
        case rel => exact ⟨_, rfl, rfl⟩
      | false =>
        go_wp2
        go_meet
        case rel => exact ⟨_, rfl, rfl⟩
  case rest =>
  obtain ⟨c, rfl, rfl⟩ := hcut
  cases c with
  | true =>
    go_wp2
    go_ret2
    exact ⟨⟨0, ⟨by decide, by decide⟩, Or.inr ⟨_, _, rfl⟩⟩, rfl⟩
  | false =>
  go_upto_region 14 with fail
  go_loopw [7, 8] (fun x i W => ∃ (y : Int) (q : Nat), x = .int .i64 y ∧ I64 y ∧ i = .int .i64 q ∧ q ≤ D.size ∧ w = W) (fun _ j _ => D.size - (intOf j).toNat)
  case atStart => exact ⟨0, 0, rfl, ⟨by decide, by decide⟩, rfl, by omega, rfl⟩
  case round =>
    obtain ⟨y, q, rfl, hy, rfl, hq, rfl⟩ := hrel
    by_cases hlt : q < D.size
    · obtain ⟨d, hd⟩ : ∃ d : Int, ((D[q]'hlt).toNat : Int) = d := ⟨_, rfl⟩
      have hd1 : 0 ≤ d ∧ d < 256 := by
        have := (D[q]'hlt).toNat_lt
        omega
      cases t1 : decide (d < 48) with
      | true =>
        have t1' := of_decide_eq_true t1
        go_wp2
        go_ret2
        exact ⟨⟨0, ⟨by decide, by decide⟩, Or.inr ⟨_, _, rfl⟩⟩, rfl⟩
      | false =>
        have t1' := of_decide_eq_false t1
        cases t2 : decide (57 < d) with
        | true =>
          have t2' := of_decide_eq_true t2
          go_wp2
          go_ret2
          exact ⟨⟨0, ⟨by decide, by decide⟩, Or.inr ⟨_, _, rfl⟩⟩, rfl⟩
        | false =>
          have t2' := of_decide_eq_false t2
          go_wp2
          go_roundw
          case rel => exact ⟨_, q + 1, rfl, wrap64_ok _, by go_num, by omega, trivial⟩
          case measure => simp [intOf]; omega
    · cases neg with
      | true =>
        go_wp2
        go_ret2
        exact ⟨⟨_, hy, Or.inl rfl⟩, rfl⟩
      | false =>
        go_wp2
        go_ret2
        exact ⟨⟨_, wrap64_ok _, Or.inl rfl⟩, rfl⟩

end Go.Proofs.Qxb6500666aGreatDoor
