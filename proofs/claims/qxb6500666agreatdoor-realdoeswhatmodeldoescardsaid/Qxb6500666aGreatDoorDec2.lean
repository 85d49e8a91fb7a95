/- splitKey2, read back. -/
import Derived.Test.Qxb6500666aGreatDoorDec
namespace Go.Proofs.Qxb6500666aGreatDoor
open Go.RowKit

def splitK (tag : Int) (bs : List Int) : Option (Int × Int) :=
  let p1 := rdDig 1 ⟨bs, false⟩
  let p2 := rdDig 4 p1.2
  let p3 := rdDig 4 p2.2
  if ! rdDone p3.2 then none else if (p1.1 != tag) then none else some (p2.1, p3.1)

def splitV : Option (Int × Int) → Value
  | none => .tuple #[.int .u32 0, .int .u32 0, .iface 63 (.int .u8 28)]
  | some p => .tuple #[.int .u32 p.1, .int .u32 p.2, .nilIface]

set_option maxRecDepth 100000 in
set_option maxHeartbeats 2000000 in
theorem splitK_calls (w : World) (tag : Int) (ok : Nat → Prop) (v : Value) (bs : List Int) (hB : BytesAt w ok v bs) (hby : ByteL bs) :
    Calls Tryz.prog 251 #[.int .u8 tag, v] w fun e w' => e = .returned (splitV (splitK tag bs)) ∧ Below w.heap.size w w' := by
  obtain ⟨R, hR⟩ : ∃ R, R = splitV (splitK tag bs) := ⟨_, rfl⟩
  rw [← hR]
  obtain ⟨p1, E1⟩ : ∃ p, p = rdDig 1 ⟨bs, false⟩ := ⟨_, rfl⟩
  obtain ⟨p2, E2⟩ : ∃ p, p = rdDig 4 p1.2 := ⟨_, rfl⟩
  obtain ⟨p3, E3⟩ : ∃ p, p = rdDig 4 p2.2 := ⟨_, rfl⟩
  have HR : Hid (R = splitV (if ! rdDone p3.2 then none else if (p1.1 != tag) then none else some (p2.1, p3.1))) := hR.trans (by simp only [splitK, ← E1, ← E2, ← E3])
  have HE1 := hide E1
  have HE2 := hide E2
  have HE3 := hide E3
  obtain ⟨a, m, c, rfl, -⟩ := Src.of hB
  have HB : Hid (BytesAt w (fun b => ok b ∧ b < w.heap.size) (.slice a m c) bs) := RArr.lt hB
  clear hR hB E1 E2 E3
  go_enter Tryz.func251, Tryz.ntmps251
  go_upto_region 2 with (go_at_call 211; refine (newRd_calls _ a m c).mono ?_; rintro e w0 ⟨rfl, rfl⟩)
  have hr0 := RdAt.new HB.out hby
  have hb1 : Below w.heap.size w (w.alloc (.cells #[.slice a m c, .bool false] 407)) := (Below.refl _ _).alloc (Nat.le_refl _) _
  generalize (World.alloc w _) = V at *
  have hok : ∀ b, (ok b ∧ b < w.heap.size) → b ≠ w.heap.size := fun b hb => by have := hb.2; omega
  have HV0 := hide hb1
  have HD0 := hide hr0
  have HQ0 : Hid (RdStep V V w.heap.size) := ⟨rfl, fun _ _ => rfl, Below.refl _ _⟩
  clear hb1 hr0 HB
  go_upto_region 3 with (go_at_call 218; refine (rdU8_calls _ _ _ _ HD0.out hok).mono ?_; rintro e w1 ⟨rfl, hd1, hs1⟩; rw [← HE1.out] at hd1 ⊢; have HD1 := hide hd1; have HQ1 := hide (HQ0.out.trans hs1); clear hd1 hs1)
  go_upto_region 4 with (first | (go_at_call 212; refine (rdU32_calls _ _ _ _ HD2.out hok).mono ?_; rintro e w3 ⟨rfl, hd3, hs3⟩; rw [← HE3.out] at hd3 ⊢; have HD3 := hide hd3; have HQ3 := hide (HQ2.out.trans hs3); clear hd3 hs3) | (go_at_call 212; refine (rdU32_calls _ _ _ _ HD1.out hok).mono ?_; rintro e w2 ⟨rfl, hd2, hs2⟩; rw [← HE2.out] at hd2 ⊢; have HD2 := hide hd2; have HQ2 := hide (HQ1.out.trans hs2); clear hd2 hs2))
  have HBN := hide (HV0.out.trans (HQ3.out.below))
  cases td : rdDone p3.2 with
  | false =>
    have HE : Hid (R = splitV none) := HR.out.trans (by simp [td])
    go_wp2_with (go_at_call 214; refine (rdDone_calls _ _ _ _ HD3.out).mono ?_; rintro e w9 ⟨⟨sx, rfl⟩, rfl⟩; rw [td])
    go_ret3
    exact ⟨ret_v HE, HBN.out⟩
  | true =>
    cases t1 : (p1.1 != tag) with
    | true =>
      have HE : Hid (R = splitV none) := HR.out.trans (by simp [td, t1])
      go_wp2_with (go_at_call 214; refine (rdDone_calls _ _ _ _ HD3.out).mono ?_; rintro e w9 ⟨⟨sx, rfl⟩, rfl⟩; rw [td])
      go_ret3
      exact ⟨ret_v HE, HBN.out⟩
    | false =>
      have HE : Hid (R = splitV (some (p2.1, p3.1))) := HR.out.trans (by simp [td, t1])
      go_wp2_with (go_at_call 214; refine (rdDone_calls _ _ _ _ HD3.out).mono ?_; rintro e w9 ⟨⟨sx, rfl⟩, rfl⟩; rw [td])
      go_ret3
      exact ⟨ret_v HE, HBN.out⟩

end Go.Proofs.Qxb6500666aGreatDoor
