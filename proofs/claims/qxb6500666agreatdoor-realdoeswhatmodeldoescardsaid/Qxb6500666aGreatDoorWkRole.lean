/- A role or a kind, read by its name: weak. (Made by tools/mk_wkrole.py.) -/
import Derived.Test.Qxb6500666aGreatDoorWkTrl
import Derived.Test.Qxb6500666aGreatDoorRTrail
namespace Go.Proofs.Qxb6500666aGreatDoor
open Go.RowKit

def U8Ans (w w' : World) (g b : Nat) (ps : List (List Int)) (k : Nat) (f : Int) (e : Ending) : Prop := ∃ x f', e = .returned (.int .u8 x) ∧ U8 x ∧ (f' = f ∨ f' = spf f 3) ∧ FieldsAt w' g b ps ((k + 1 : Nat) : Int) f' ∧ Upd g w w'

set_option maxRecDepth 100000 in
set_option maxHeartbeats 2000000 in
theorem role_any (w : World) (rn kn ft : Nat → ByteArray) (g b : Nat) (ps : List (List Int)) (k : Nat) (f : Int) (hnm : NmAt w rn kn ft) (hgg : 5 < g) (h : FieldsAt w g b ps k f) (hk : k < ps.length) (hp : PsL ps) :
    Calls Tryz.prog 141 #[.pointer (some ⟨g, 0, none⟩)] w fun e w' => U8Ans w w' g b ps k f e := by
  have hpl := hp.each _ (List.getElem_mem hk)
  go_enter Tryz.func141, Tryz.ntmps141
  go_upto_region 1 with fail
  go_cut [3] (fun v W => (∃ S, v = .string S) ∧ Hid (FieldsAt W g b ps ((k + 1 : Nat) : Int) f) ∧ Hid (Upd g w W))
  case first =>
    go_wp2_with (go_at_call 156; refine (take_calls _ g b ps k f h hk hp.len hpl).mono ?_; rintro e w1 ⟨o, c, rfl, hB, hF, hU⟩; have HBC := hide (bytesAt_cells hB); have HFD := hide hF; have HU := hide hU; have hcv := run_convert_bytes_arg (P := Tryz.prog) w1 55 5 Tryz.underlying55 Tryz.underlying5 b o ps[k].length c ps[k] rfl (fun i hi => (by rw [HBC.out i hi]; simp [List.getD, hi])) 9 Tryz.underlying9; clear hB hF hU)
    go_meet
    case rel => exact ⟨⟨_, rfl⟩, HFD, HU⟩
  case rest =>
    obtain ⟨⟨S, rfl⟩, HF, HU⟩ := hcut
    have HNM : Hid (NmAt wc rn kn ft) := hnm.same HU.out.below hgg
    clear h hnm
    go_upto_region 3 with fail
    go_loopg [4] 6 (fun gk j W => ∃ q : Nat, 1 ≤ q ∧ q ≤ 6 + 1 ∧ gk = 6 + 1 - q ∧ j = .int .u8 q ∧ wc = W)
    case atStart => exact ⟨1, by omega, by omega, by omega, rfl, rfl⟩
    case round =>
      obtain ⟨q, hq1, hq2, rfl, rfl, rfl⟩ := hrel
      by_cases hlt : q ≤ 6
      · have hu : U8 (q : Int) := ⟨by omega, by omega⟩
        go_upto_region 5 with fail
        go_cut [15] (fun v W => (∃ c, v = .bool c) ∧ wc = W)
        case first =>
          go_wp2_with (go_at_call 137; refine (roleStr_calls _ rn kn ft _ HNM.out hu).mono ?_; rintro e w9 ⟨rfl, hw9⟩; have hw8 := hw9.symm; subst hw8)
          go_meet
          case rel => exact ⟨⟨_, rfl⟩, rfl⟩
        case rest =>
          obtain ⟨⟨c, rfl⟩, rfl⟩ := hcut
          cases c with
          | true =>
            go_wp2
            go_ret
            exact ⟨q, f, rfl, hu, Or.inl rfl, HF.out, HU.out⟩
          | false =>
            go_wp2
            go_roundg (6 + 1 - (q + 1))
            case measure => omega
            case rel => exact ⟨q + 1, by omega, by omega, rfl, by go_num, rfl⟩
      · go_wp2_with (go_at_call 155; refine (spoil_any _ g b ps _ f 3 HF.out).mono ?_; rintro e w2 ⟨rfl, hF2, hU2⟩)
        go_ret
        exact ⟨0, _, rfl, ⟨by decide, by decide⟩, Or.inr rfl, hF2, HU.out.trans hU2⟩

set_option maxRecDepth 100000 in
set_option maxHeartbeats 2000000 in
theorem command_any (w : World) (rn kn ft : Nat → ByteArray) (g b : Nat) (ps : List (List Int)) (k : Nat) (f : Int) (hnm : NmAt w rn kn ft) (hgg : 5 < g) (h : FieldsAt w g b ps k f) (hk : k < ps.length) (hp : PsL ps) :
    Calls Tryz.prog 142 #[.pointer (some ⟨g, 0, none⟩)] w fun e w' => U8Ans w w' g b ps k f e := by
  have hpl := hp.each _ (List.getElem_mem hk)
  go_enter Tryz.func142, Tryz.ntmps142
  go_upto_region 1 with fail
  go_cut [3] (fun v W => (∃ S, v = .string S) ∧ Hid (FieldsAt W g b ps ((k + 1 : Nat) : Int) f) ∧ Hid (Upd g w W))
  case first =>
    go_wp2_with (go_at_call 156; refine (take_calls _ g b ps k f h hk hp.len hpl).mono ?_; rintro e w1 ⟨o, c, rfl, hB, hF, hU⟩; have HBC := hide (bytesAt_cells hB); have HFD := hide hF; have HU := hide hU; have hcv := run_convert_bytes_arg (P := Tryz.prog) w1 55 5 Tryz.underlying55 Tryz.underlying5 b o ps[k].length c ps[k] rfl (fun i hi => (by rw [HBC.out i hi]; simp [List.getD, hi])) 9 Tryz.underlying9; clear hB hF hU)
    go_meet
    case rel => exact ⟨⟨_, rfl⟩, HFD, HU⟩
  case rest =>
    obtain ⟨⟨S, rfl⟩, HF, HU⟩ := hcut
    have HNM : Hid (NmAt wc rn kn ft) := hnm.same HU.out.below hgg
    clear h hnm
    go_upto_region 3 with fail
    go_loopg [4] 20 (fun gk j W => ∃ q : Nat, 1 ≤ q ∧ q ≤ 20 + 1 ∧ gk = 20 + 1 - q ∧ j = .int .u8 q ∧ wc = W)
    case atStart => exact ⟨1, by omega, by omega, by omega, rfl, rfl⟩
    case round =>
      obtain ⟨q, hq1, hq2, rfl, rfl, rfl⟩ := hrel
      by_cases hlt : q ≤ 20
      · have hu : U8 (q : Int) := ⟨by omega, by omega⟩
        go_upto_region 5 with fail
        go_cut [15] (fun v W => (∃ c, v = .bool c) ∧ wc = W)
        case first =>
          go_wp2_with (go_at_call 138; refine (kindStr_calls _ rn kn ft _ HNM.out hu).mono ?_; rintro e w9 ⟨rfl, hw9⟩; have hw8 := hw9.symm; subst hw8)
          go_meet
          case rel => exact ⟨⟨_, rfl⟩, rfl⟩
        case rest =>
          obtain ⟨⟨c, rfl⟩, rfl⟩ := hcut
          cases c with
          | true =>
            go_wp2
            go_ret
            exact ⟨q, f, rfl, hu, Or.inl rfl, HF.out, HU.out⟩
          | false =>
            go_wp2
            go_roundg (20 + 1 - (q + 1))
            case measure => omega
            case rel => exact ⟨q + 1, by omega, by omega, rfl, by go_num, rfl⟩
      · go_wp2_with (go_at_call 155; refine (spoil_any _ g b ps _ f 3 HF.out).mono ?_; rintro e w2 ⟨rfl, hF2, hU2⟩)
        go_ret
        exact ⟨0, _, rfl, ⟨by decide, by decide⟩, Or.inr rfl, hF2, HU.out.trans hU2⟩

end Go.Proofs.Qxb6500666aGreatDoor
