/- Records, read back. (Made by tools/mk_dec.py.) -/
import Derived.Test.Qxb6500666aGreatDoorRd
import Derived.Test.Qxb6500666aGreatDoorEnc2
import Derived.Test.Qxb6500666aGreatDoorValidWalk
namespace Go.Proofs.Qxb6500666aGreatDoor
open Go.RowKit

/-- What a decoder hands back. -/
def DecPost {α : Type} (w w' : World) (e : Ending) (f : α → Array Value) (z : α) (R : Option α) : Prop :=
  (match R with | some x => e = .returned (.tuple #[.agg (f x), .nilIface]) | none => e = .returned (.tuple #[.agg (f z), .iface 63 (.int .u8 28)])) ∧ Below w.heap.size w w'
theorem dec_none {α : Type} {w w' : World} {f : α → Array Value} {z : α} {R : Option α} (HE : Hid (R = none)) (hb : Below w.heap.size w w') : DecPost w w' (.returned (.tuple #[.agg (f z), .iface 63 (.int .u8 28)])) f z R := by
  rw [HE.out]; exact ⟨rfl, hb⟩
theorem dec_some {α : Type} {w w' : World} {f : α → Array Value} {z : α} {R : Option α} {x : α} (HE : Hid (R = some x)) (hb : Below w.heap.size w w') : DecPost w w' (.returned (.tuple #[.agg (f x), .nilIface])) f z R := by
  rw [HE.out]; exact ⟨rfl, hb⟩

def roleOk (r : Int) : Bool := decide (1 ≤ r) && decide (r ≤ 6)
set_option maxRecDepth 100000 in
theorem validRole_calls (w : World) (r : Int) : Calls Tryz.prog 181 #[.int .u8 r] w fun e w' => e = .returned (.bool (roleOk r)) ∧ w' = w := by
  unfold roleOk
  cases t0 : decide (1 ≤ r) with
  | false =>
    go_enter Tryz.func181, Tryz.ntmps181
    go_wp2
    go_ret
    exact ⟨rfl, rfl⟩
  | true =>
    go_enter Tryz.func181, Tryz.ntmps181
    go_wp2
    go_ret
    exact ⟨rfl, rfl⟩
set_option maxRecDepth 100000 in
theorem validMin_calls (w : World) (m : Int) : Calls Tryz.prog 159 #[.int .i64 m] w fun e w' => e = .returned (.bool (inCal m)) ∧ w' = w := by
  unfold inCal
  cases t0 : decide (0 ≤ m) with
  | false =>
    go_enter Tryz.func159, Tryz.ntmps159
    go_wp2
    go_ret
    exact ⟨rfl, rfl⟩
  | true =>
    go_enter Tryz.func159, Tryz.ntmps159
    go_wp2
    go_ret
    exact ⟨rfl, rfl⟩

def statCs (s : Stat) : Array Value := #[.int .u32 s.entries, .int .u32 s.transfers, .int .u32 s.lastCum, .int .i64 s.lastMin]
def accCs (a : Int × Bool) : Array Value := #[.int .u8 a.1, .bool a.2]
def plcCs (a : Int × Int) : Array Value := #[.int .u32 a.1, .int .u32 a.2]
def hdrCs (x : Hdr) : Array Value := #[.int .u8 x.kind, .int .u32 x.seq, .int .i64 x.issued, .int .u32 x.base, .int .u32 x.count, .int .u32 x.sum, .int .u32 x.len]
def readerDone (r : Rd) : Bool := rdDone r

section
variable (ρ : Operand → Value) (dst : Option Tmp) (x y : Operand) (ty : TypeId) (pos : String) (after : Array Edge) (guard : Option (Nat × Bool))
theorem exec_ldStat : execOp ρ { dst, op := .load 65 x, type := ty, pos, after, guard } = (do pure (.value (← ldS 65 (ρ x)))) := rfl
theorem exec_stStat : execOp ρ { dst, op := .store 65 x y, type := ty, pos, after, guard } = (do stS 65 (ρ x) (ρ y); pure .skip) := rfl
theorem exec_ldAcc : execOp ρ { dst, op := .load 314 x, type := ty, pos, after, guard } = (do pure (.value (← ldS 314 (ρ x)))) := rfl
theorem exec_stAcc : execOp ρ { dst, op := .store 314 x y, type := ty, pos, after, guard } = (do stS 314 (ρ x) (ρ y); pure .skip) := rfl
theorem exec_ldPlc : execOp ρ { dst, op := .load 405 x, type := ty, pos, after, guard } = (do pure (.value (← ldS 405 (ρ x)))) := rfl
theorem exec_stPlc : execOp ρ { dst, op := .store 405 x y, type := ty, pos, after, guard } = (do stS 405 (ρ x) (ρ y); pure .skip) := rfl
theorem exec_ldHd : execOp ρ { dst, op := .load 71 x, type := ty, pos, after, guard } = (do pure (.value (← ldS 71 (ρ x)))) := rfl
theorem exec_stHd : execOp ρ { dst, op := .store 71 x y, type := ty, pos, after, guard } = (do stS 71 (ρ x) (ρ y); pure .skip) := rfl
end
theorem Tryz.size65_z (w : World) : (sizeOf 65).run Tryz.prog w = .ok 4 w := by kernel_rfl
theorem run_ldStat (w : World) (b off : Nat) : (ldS 65 (.pointer (some ⟨b, off, none⟩))).run Tryz.prog w = match rng w b off 4 with | some cs => .ok (.agg cs) w | none => (Instr.loadAt 65 (.pointer (some ⟨b, off, none⟩))).run Tryz.prog w :=
  run_ldS Tryz.underlying65 Tryz.size65_z w b off
theorem run_stStat (w : World) (b : Nat) (cs : Array Value) : (stS 65 (.pointer (some ⟨b, 0, none⟩)) (.agg cs)).run Tryz.prog w = if whole w b 4 = true ∧ ones cs 4 = true then .ok () (w.setRow b cs) else (Instr.storeAt 65 (.pointer (some ⟨b, 0, none⟩)) (.agg cs)).run Tryz.prog w := run_stS Tryz.size65_z w b cs
theorem Tryz.size314_z (w : World) : (sizeOf 314).run Tryz.prog w = .ok 2 w := by kernel_rfl
theorem run_ldAcc (w : World) (b off : Nat) : (ldS 314 (.pointer (some ⟨b, off, none⟩))).run Tryz.prog w = match rng w b off 2 with | some cs => .ok (.agg cs) w | none => (Instr.loadAt 314 (.pointer (some ⟨b, off, none⟩))).run Tryz.prog w :=
  run_ldS Tryz.underlying314 Tryz.size314_z w b off
theorem run_stAcc (w : World) (b : Nat) (cs : Array Value) : (stS 314 (.pointer (some ⟨b, 0, none⟩)) (.agg cs)).run Tryz.prog w = if whole w b 2 = true ∧ ones cs 2 = true then .ok () (w.setRow b cs) else (Instr.storeAt 314 (.pointer (some ⟨b, 0, none⟩)) (.agg cs)).run Tryz.prog w := run_stS Tryz.size314_z w b cs
theorem Tryz.size405_z (w : World) : (sizeOf 405).run Tryz.prog w = .ok 2 w := by kernel_rfl
theorem run_ldPlc (w : World) (b off : Nat) : (ldS 405 (.pointer (some ⟨b, off, none⟩))).run Tryz.prog w = match rng w b off 2 with | some cs => .ok (.agg cs) w | none => (Instr.loadAt 405 (.pointer (some ⟨b, off, none⟩))).run Tryz.prog w :=
  run_ldS Tryz.underlying405 Tryz.size405_z w b off
theorem run_stPlc (w : World) (b : Nat) (cs : Array Value) : (stS 405 (.pointer (some ⟨b, 0, none⟩)) (.agg cs)).run Tryz.prog w = if whole w b 2 = true ∧ ones cs 2 = true then .ok () (w.setRow b cs) else (Instr.storeAt 405 (.pointer (some ⟨b, 0, none⟩)) (.agg cs)).run Tryz.prog w := run_stS Tryz.size405_z w b cs
theorem Tryz.size71_z (w : World) : (sizeOf 71).run Tryz.prog w = .ok 7 w := by kernel_rfl
theorem run_ldHd (w : World) (b off : Nat) : (ldS 71 (.pointer (some ⟨b, off, none⟩))).run Tryz.prog w = match rng w b off 7 with | some cs => .ok (.agg cs) w | none => (Instr.loadAt 71 (.pointer (some ⟨b, off, none⟩))).run Tryz.prog w :=
  run_ldS Tryz.underlying71 Tryz.size71_z w b off
theorem run_stHd (w : World) (b : Nat) (cs : Array Value) : (stS 71 (.pointer (some ⟨b, 0, none⟩)) (.agg cs)).run Tryz.prog w = if whole w b 7 = true ∧ ones cs 7 = true then .ok () (w.setRow b cs) else (Instr.storeAt 71 (.pointer (some ⟨b, 0, none⟩)) (.agg cs)).run Tryz.prog w := run_stS Tryz.size71_z w b cs
attribute [local go_sem] ext_const Ext.cell Ext.frozen Ext.rng Ext.whole
attribute [local go_sem ↓] exec_ldStat exec_stStat exec_ldAcc exec_stAcc exec_ldPlc exec_stPlc exec_ldHd exec_stHd
attribute [local go_sem] run_ldStat run_stStat run_ldAcc run_stAcc run_ldPlc run_stPlc run_ldHd run_stHd whole_alloc_lt whole_alloc_at whole_drew setRow_alloc_at setRow_alloc_lt rng_alloc_lt rng_alloc_at rng_drew rng_drewN rng_setCell_other whole_setCell_other

def decAcc (bs : List Int) : Option (Int × Bool) :=
  let p1 := rdDig 1 ⟨bs, false⟩
  let p2 := rdDig 1 p1.2
  if ! rdDone p2.2 then none else if ! roleOk p1.1 then none else if decide (1 < p2.1) then none else some (p1.1, p2.1 == 1)
set_option maxRecDepth 100000 in
set_option maxHeartbeats 2000000 in
theorem decAcc_calls (w : World) (ok : Nat → Prop) (v : Value) (bs : List Int) (hB : BytesAt w ok v bs) (hby : ByteL bs) :
    Calls Tryz.prog 220 #[v] w fun e w' => DecPost w w' e accCs (0, false) (decAcc bs) := by
  obtain ⟨R, hR⟩ : ∃ R, R = decAcc bs := ⟨_, rfl⟩
  rw [← hR]
  obtain ⟨p1, E1⟩ : ∃ p, p = rdDig 1 ⟨bs, false⟩ := ⟨_, rfl⟩
  obtain ⟨p2, E2⟩ : ∃ p, p = rdDig 1 p1.2 := ⟨_, rfl⟩
  have HR : Hid (R = if ! rdDone p2.2 then none else if ! roleOk p1.1 then none else if decide (1 < p2.1) then none else some (p1.1, p2.1 == 1)) := hR.trans (by simp only [decAcc, ← E1, ← E2])
  have HE1 := hide E1
  have HE2 := hide E2
  obtain ⟨a, m, c, rfl, -⟩ := Src.of hB
  have HB : Hid (BytesAt w (fun b => ok b ∧ b < w.heap.size) (.slice a m c) bs) := RArr.lt hB
  clear hR hB E1 E2
  go_enter Tryz.func220, Tryz.ntmps220
  go_upto_region 1 with fail
  have hb0 : Below w.heap.size w (w.alloc (.cells (accCs (0, false)) 314)) := (Below.refl _ _).alloc (Nat.le_refl _) _
  have hx0 : (w.alloc (.cells (accCs (0, false)) 314)).heap[w.heap.size]? = some (.cells (accCs (0, false)) 314 (0, 0)) := heap_alloc_at _ _
  have hs0 : (w.alloc (.cells (accCs (0, false)) 314)).heap.size = w.heap.size + 1 := by simp
  have HB1 : Hid (BytesAt (w.alloc (.cells (accCs (0, false)) 314)) (fun b => ok b ∧ b < w.heap.size) (.slice a m c) bs) := HB.out.mono (fun b hb => hb0.block b hb.2) (fun _ h => h)
  simp only [accCs] at hb0 hx0 hs0 HB1
  generalize (World.alloc w _) = W at *
  go_upto_region 2 with (go_at_call 211; refine (newRd_calls _ a m c).mono ?_; rintro e w0 ⟨rfl, rfl⟩)
  have hr0 := RdAt.new HB1.out hby
  have hb1 := hb0.alloc hb0.size (.cells #[.slice a m c, .bool false] 407)
  have hx1 := (Below.heap_alloc W (.cells #[.slice a m c, .bool false] 407) w.heap.size (by omega)).trans hx0
  have hs1 : (W.alloc (.cells #[.slice a m c, .bool false] 407)).heap.size = w.heap.size + 2 := by simp [hs0]
  rw [hs0] at hr0
  generalize (World.alloc W _) = V at *
  have hok : ∀ b, (ok b ∧ b < w.heap.size) → b ≠ w.heap.size + 1 := fun b hb => by have := hb.2; omega
  clear hb0 hx0 hs0 HB HB1
  have HV0 := hide hb1
  have HX0 := hide hx1
  have HS0 := hide hs1
  have HD0 := hide hr0
  have hq0 : RdStep V V (w.heap.size + 1) := ⟨rfl, fun _ _ => rfl, Below.refl _ _⟩
  have HQ0 := hide hq0
  clear hb1 hx1 hs1 hr0 hq0
  have hzV : V.heap.size = w.heap.size + 2 := HS0.out
  go_upto_region 3 with (first | (go_at_call 218; refine (rdU8_calls _ _ _ _ HD1.out hok).mono ?_; rintro e w2 ⟨rfl, hd2, hs2⟩; rw [← HE2.out] at hd2 ⊢; have HD2 := hide hd2; have HQ2 := hide (HQ1.out.trans hs2); clear hd2 hs2) | (go_at_call 218; refine (rdU8_calls _ _ _ _ HD0.out hok).mono ?_; rintro e w1 ⟨rfl, hd1, hs1⟩; rw [← HE1.out] at hd1 ⊢; have HD1 := hide hd1; have HQ1 := hide (HQ0.out.trans hs1); clear hd1 hs1))
  clear hzV
  have hzn : w2.heap.size = w.heap.size + 2 := HQ2.out.size.trans HS0.out
  have hxn := (HQ2.out.same w.heap.size (by omega)).trans HX0.out
  have hbn : Below w.heap.size w w2 := HV0.out.trans (HQ2.out.below.mono (by omega))
  have HDn := HD2
  have hwx : whole w2 w.heap.size 2 = true := whole_blk hxn
  have hlx := blk_lt hxn
  have HXN := hide hxn
  have HBN := hide hbn
  clear hxn hbn
  have hov : ∀ x, ones (accCs x) 2 = true := fun _ => rfl
  simp only [accCs] at hov
  cases td : rdDone p2.2 with
  | false =>
    have HE : Hid (R = none) := HR.out.trans (by simp [td])
    go_wp2_with (first | (go_at_call 214; refine (rdDone_calls _ _ _ _ HDn.out).mono ?_; rintro e w9 ⟨⟨sx, rfl⟩, rfl⟩; rw [td]) | (go_at_call 181; refine (validRole_calls _ _).mono ?_; rintro e w9 ⟨rfl, rfl⟩; rw [t0]))
    refine bodyPost_ret (results_cell_tmp Tryz.results220 _ _ w.heap.size _ _ _ _ rfl (heap_setRow_at HXN.out) Tryz.underlying314 rfl (by kernel_rfl)) rfl ?_
    exact dec_none (f := accCs) (z := (0, false)) HE (HBN.out.trans (below_setRow' _ _ (Nat.le_refl _)))
  | true =>
    cases t0 : roleOk p1.1 with
    | false =>
      have HE : Hid (R = none) := HR.out.trans (by simp [td, t0])
      go_wp2_with (first | (go_at_call 214; refine (rdDone_calls _ _ _ _ HDn.out).mono ?_; rintro e w9 ⟨⟨sx, rfl⟩, rfl⟩; rw [td]) | (go_at_call 181; refine (validRole_calls _ _).mono ?_; rintro e w9 ⟨rfl, rfl⟩; rw [t0]))
      refine bodyPost_ret (results_cell_tmp Tryz.results220 _ _ w.heap.size _ _ _ _ rfl (heap_setRow_at HXN.out) Tryz.underlying314 rfl (by kernel_rfl)) rfl ?_
      exact dec_none (f := accCs) (z := (0, false)) HE (HBN.out.trans (below_setRow' _ _ (Nat.le_refl _)))
    | true =>
      cases t1 : decide (1 < p2.1) with
      | true =>
        have HE : Hid (R = none) := HR.out.trans (by simp [td, t0, t1])
        go_wp2_with (first | (go_at_call 214; refine (rdDone_calls _ _ _ _ HDn.out).mono ?_; rintro e w9 ⟨⟨sx, rfl⟩, rfl⟩; rw [td]) | (go_at_call 181; refine (validRole_calls _ _).mono ?_; rintro e w9 ⟨rfl, rfl⟩; rw [t0]))
        refine bodyPost_ret (results_cell_tmp Tryz.results220 _ _ w.heap.size _ _ _ _ rfl (heap_setRow_at HXN.out) Tryz.underlying314 rfl (by kernel_rfl)) rfl ?_
        exact dec_none (f := accCs) (z := (0, false)) HE (HBN.out.trans (below_setRow' _ _ (Nat.le_refl _)))
      | false =>
        have HE : Hid (R = some (p1.1, p2.1 == 1)) := HR.out.trans (by simp [td, t0, t1])
        go_wp2_with (first | (go_at_call 214; refine (rdDone_calls _ _ _ _ HDn.out).mono ?_; rintro e w9 ⟨⟨sx, rfl⟩, rfl⟩; rw [td]) | (go_at_call 181; refine (validRole_calls _ _).mono ?_; rintro e w9 ⟨rfl, rfl⟩; rw [t0]))
        refine bodyPost_ret (results_cell_tmp Tryz.results220 _ _ w.heap.size _ _ _ _ rfl (heap_setRow_at HXN.out) Tryz.underlying314 rfl (by kernel_rfl)) rfl ?_
        exact dec_some (f := accCs) (z := (0, false)) HE (HBN.out.trans (below_setRow' _ _ (Nat.le_refl _)))

def decPlc (bs : List Int) : Option (Int × Int) :=
  let p1 := rdDig 4 ⟨bs, false⟩
  let p2 := rdDig 4 p1.2
  if ! rdDone p2.2 then none else if (p1.1 == 0) then none else some (p1.1, p2.1)
set_option maxRecDepth 100000 in
set_option maxHeartbeats 2000000 in
theorem decPlc_calls (w : World) (ok : Nat → Prop) (v : Value) (bs : List Int) (hB : BytesAt w ok v bs) (hby : ByteL bs) :
    Calls Tryz.prog 252 #[v] w fun e w' => DecPost w w' e plcCs (0, 0) (decPlc bs) := by
  obtain ⟨R, hR⟩ : ∃ R, R = decPlc bs := ⟨_, rfl⟩
  rw [← hR]
  obtain ⟨p1, E1⟩ : ∃ p, p = rdDig 4 ⟨bs, false⟩ := ⟨_, rfl⟩
  obtain ⟨p2, E2⟩ : ∃ p, p = rdDig 4 p1.2 := ⟨_, rfl⟩
  have HR : Hid (R = if ! rdDone p2.2 then none else if (p1.1 == 0) then none else some (p1.1, p2.1)) := hR.trans (by simp only [decPlc, ← E1, ← E2])
  have HE1 := hide E1
  have HE2 := hide E2
  obtain ⟨a, m, c, rfl, -⟩ := Src.of hB
  have HB : Hid (BytesAt w (fun b => ok b ∧ b < w.heap.size) (.slice a m c) bs) := RArr.lt hB
  clear hR hB E1 E2
  go_enter Tryz.func252, Tryz.ntmps252
  go_upto_region 1 with fail
  have hb0 : Below w.heap.size w (w.alloc (.cells (plcCs (0, 0)) 405)) := (Below.refl _ _).alloc (Nat.le_refl _) _
  have hx0 : (w.alloc (.cells (plcCs (0, 0)) 405)).heap[w.heap.size]? = some (.cells (plcCs (0, 0)) 405 (0, 0)) := heap_alloc_at _ _
  have hs0 : (w.alloc (.cells (plcCs (0, 0)) 405)).heap.size = w.heap.size + 1 := by simp
  have HB1 : Hid (BytesAt (w.alloc (.cells (plcCs (0, 0)) 405)) (fun b => ok b ∧ b < w.heap.size) (.slice a m c) bs) := HB.out.mono (fun b hb => hb0.block b hb.2) (fun _ h => h)
  simp only [plcCs] at hb0 hx0 hs0 HB1
  generalize (World.alloc w _) = W at *
  go_upto_region 2 with (go_at_call 211; refine (newRd_calls _ a m c).mono ?_; rintro e w0 ⟨rfl, rfl⟩)
  have hr0 := RdAt.new HB1.out hby
  have hb1 := hb0.alloc hb0.size (.cells #[.slice a m c, .bool false] 407)
  have hx1 := (Below.heap_alloc W (.cells #[.slice a m c, .bool false] 407) w.heap.size (by omega)).trans hx0
  have hs1 : (W.alloc (.cells #[.slice a m c, .bool false] 407)).heap.size = w.heap.size + 2 := by simp [hs0]
  rw [hs0] at hr0
  generalize (World.alloc W _) = V at *
  have hok : ∀ b, (ok b ∧ b < w.heap.size) → b ≠ w.heap.size + 1 := fun b hb => by have := hb.2; omega
  clear hb0 hx0 hs0 HB HB1
  have HV0 := hide hb1
  have HX0 := hide hx1
  have HS0 := hide hs1
  have HD0 := hide hr0
  have hq0 : RdStep V V (w.heap.size + 1) := ⟨rfl, fun _ _ => rfl, Below.refl _ _⟩
  have HQ0 := hide hq0
  clear hb1 hx1 hs1 hr0 hq0
  have hzV : V.heap.size = w.heap.size + 2 := HS0.out
  go_upto_region 3 with (first | (go_at_call 212; refine (rdU32_calls _ _ _ _ HD1.out hok).mono ?_; rintro e w2 ⟨rfl, hd2, hs2⟩; rw [← HE2.out] at hd2 ⊢; have HD2 := hide hd2; have HQ2 := hide (HQ1.out.trans hs2); clear hd2 hs2) | (go_at_call 212; refine (rdU32_calls _ _ _ _ HD0.out hok).mono ?_; rintro e w1 ⟨rfl, hd1, hs1⟩; rw [← HE1.out] at hd1 ⊢; have HD1 := hide hd1; have HQ1 := hide (HQ0.out.trans hs1); clear hd1 hs1))
  clear hzV
  have hzn : w2.heap.size = w.heap.size + 2 := HQ2.out.size.trans HS0.out
  have hxn := (HQ2.out.same w.heap.size (by omega)).trans HX0.out
  have hbn : Below w.heap.size w w2 := HV0.out.trans (HQ2.out.below.mono (by omega))
  have HDn : Hid (RdAt (w2.alloc (.cells #[.int .u32 p1.1, .int .u32 p2.1] 405)) (w.heap.size + 1) (fun b => ok b ∧ b < w.heap.size) p2.2) := ⟨HD2.out.at'.elim fun v h => ⟨v, (Below.heap_alloc _ _ _ (by omega)).trans h.1, RArr.below h.2 ((Below.refl _ _).alloc (Nat.le_refl _) _)⟩, HD2.out.bytes⟩
  have hbN : (w2.alloc (.cells #[.int .u32 p1.1, .int .u32 p2.1] 405)).heap[w.heap.size + 2]? = some (.cells #[.int .u32 p1.1, .int .u32 p2.1] 405 (0, 0)) := by rw [← hzn]; exact heap_alloc_at _ _
  have hbn := hbn.alloc hbn.size (.cells #[.int .u32 p1.1, .int .u32 p2.1] 405)
  have hxn := (Below.heap_alloc w2 (.cells #[.int .u32 p1.1, .int .u32 p2.1] 405) w.heap.size (by omega)).trans hxn
  generalize (World.alloc w2 _) = V9 at *
  have hwN : rng V9 (w.heap.size + 2) 0 2 = some #[.int .u32 p1.1, .int .u32 p2.1] := rng_whole hbN
  have hlN := blk_lt hbN
  have c0 : V9.cell? ⟨w.heap.size + 2, 0, none⟩ = some (.int .u32 p1.1) := by rw [World.cell?, hbN]; rfl
  have hwx : whole V9 w.heap.size 2 = true := whole_blk hxn
  have hlx := blk_lt hxn
  have HXN := hide hxn
  have HBN := hide hbn
  clear hxn hbn
  have hov : ∀ x, ones (plcCs x) 2 = true := fun _ => rfl
  simp only [plcCs] at hov
  cases td : rdDone p2.2 with
  | false =>
    have HE : Hid (R = none) := HR.out.trans (by simp [td])
    go_wp2_with (first | (go_at_call 214; refine (rdDone_calls _ _ _ _ HDn.out).mono ?_; rintro e w9 ⟨⟨sx, rfl⟩, rfl⟩; rw [td]))
    refine bodyPost_ret (results_cell_tmp Tryz.results252 _ _ w.heap.size _ _ _ _ rfl (heap_setRow_at HXN.out) Tryz.underlying405 rfl (by kernel_rfl)) rfl ?_
    exact dec_none (f := plcCs) (z := (0, 0)) HE (HBN.out.trans (below_setRow' _ _ (Nat.le_refl _)))
  | true =>
    cases t0 : (p1.1 == 0) with
    | true =>
      have HE : Hid (R = none) := HR.out.trans (by simp [td, t0])
      go_wp2_with (first | (go_at_call 214; refine (rdDone_calls _ _ _ _ HDn.out).mono ?_; rintro e w9 ⟨⟨sx, rfl⟩, rfl⟩; rw [td]))
      refine bodyPost_ret (results_cell_tmp Tryz.results252 _ _ w.heap.size _ _ _ _ rfl (heap_setRow_at HXN.out) Tryz.underlying405 rfl (by kernel_rfl)) rfl ?_
      exact dec_none (f := plcCs) (z := (0, 0)) HE (HBN.out.trans (below_setRow' _ _ (Nat.le_refl _)))
    | false =>
      have HE : Hid (R = some (p1.1, p2.1)) := HR.out.trans (by simp [td, t0])
      go_wp2_with (first | (go_at_call 214; refine (rdDone_calls _ _ _ _ HDn.out).mono ?_; rintro e w9 ⟨⟨sx, rfl⟩, rfl⟩; rw [td]))
      refine bodyPost_ret (results_cell_tmp Tryz.results252 _ _ w.heap.size _ _ _ _ rfl (heap_setRow_at HXN.out) Tryz.underlying405 rfl (by kernel_rfl)) rfl ?_
      exact dec_some (f := plcCs) (z := (0, 0)) HE (HBN.out.trans (below_setRow' _ _ (Nat.le_refl _)))

def decStat (bs : List Int) : Option (Stat) :=
  let p1 := rdDig 4 ⟨bs, false⟩
  let p2 := rdDig 4 p1.2
  let p3 := rdDig 4 p2.2
  let p4 := rdI64 p3.2
  if ! rdDone p4.2 then none else if decide (p2.1 < p3.1) then none else if ! inCal p4.1 then none else some ⟨p1.1, p2.1, p3.1, p4.1⟩
set_option maxRecDepth 100000 in
set_option maxHeartbeats 2000000 in
theorem decStat_calls (w : World) (ok : Nat → Prop) (v : Value) (bs : List Int) (hB : BytesAt w ok v bs) (hby : ByteL bs) :
    Calls Tryz.prog 162 #[v] w fun e w' => DecPost w w' e statCs ⟨0, 0, 0, 0⟩ (decStat bs) := by
  obtain ⟨R, hR⟩ : ∃ R, R = decStat bs := ⟨_, rfl⟩
  rw [← hR]
  obtain ⟨p1, E1⟩ : ∃ p, p = rdDig 4 ⟨bs, false⟩ := ⟨_, rfl⟩
  obtain ⟨p2, E2⟩ : ∃ p, p = rdDig 4 p1.2 := ⟨_, rfl⟩
  obtain ⟨p3, E3⟩ : ∃ p, p = rdDig 4 p2.2 := ⟨_, rfl⟩
  obtain ⟨p4, E4⟩ : ∃ p, p = rdI64 p3.2 := ⟨_, rfl⟩
  have HR : Hid (R = if ! rdDone p4.2 then none else if decide (p2.1 < p3.1) then none else if ! inCal p4.1 then none else some ⟨p1.1, p2.1, p3.1, p4.1⟩) := hR.trans (by simp only [decStat, ← E1, ← E2, ← E3, ← E4])
  have HE1 := hide E1
  have HE2 := hide E2
  have HE3 := hide E3
  have HE4 := hide E4
  obtain ⟨a, m, c, rfl, -⟩ := Src.of hB
  have HB : Hid (BytesAt w (fun b => ok b ∧ b < w.heap.size) (.slice a m c) bs) := RArr.lt hB
  clear hR hB E1 E2 E3 E4
  go_enter Tryz.func162, Tryz.ntmps162
  go_upto_region 1 with fail
  have hb0 : Below w.heap.size w (w.alloc (.cells (statCs ⟨0, 0, 0, 0⟩) 65)) := (Below.refl _ _).alloc (Nat.le_refl _) _
  have hx0 : (w.alloc (.cells (statCs ⟨0, 0, 0, 0⟩) 65)).heap[w.heap.size]? = some (.cells (statCs ⟨0, 0, 0, 0⟩) 65 (0, 0)) := heap_alloc_at _ _
  have hs0 : (w.alloc (.cells (statCs ⟨0, 0, 0, 0⟩) 65)).heap.size = w.heap.size + 1 := by simp
  have HB1 : Hid (BytesAt (w.alloc (.cells (statCs ⟨0, 0, 0, 0⟩) 65)) (fun b => ok b ∧ b < w.heap.size) (.slice a m c) bs) := HB.out.mono (fun b hb => hb0.block b hb.2) (fun _ h => h)
  simp only [statCs] at hb0 hx0 hs0 HB1
  generalize (World.alloc w _) = W at *
  go_upto_region 2 with (go_at_call 211; refine (newRd_calls _ a m c).mono ?_; rintro e w0 ⟨rfl, rfl⟩)
  have hr0 := RdAt.new HB1.out hby
  have hb1 := hb0.alloc hb0.size (.cells #[.slice a m c, .bool false] 407)
  have hx1 := (Below.heap_alloc W (.cells #[.slice a m c, .bool false] 407) w.heap.size (by omega)).trans hx0
  have hs1 : (W.alloc (.cells #[.slice a m c, .bool false] 407)).heap.size = w.heap.size + 2 := by simp [hs0]
  rw [hs0] at hr0
  generalize (World.alloc W _) = V at *
  have hok : ∀ b, (ok b ∧ b < w.heap.size) → b ≠ w.heap.size + 1 := fun b hb => by have := hb.2; omega
  clear hb0 hx0 hs0 HB HB1
  have HV0 := hide hb1
  have HX0 := hide hx1
  have HS0 := hide hs1
  have HD0 := hide hr0
  have hq0 : RdStep V V (w.heap.size + 1) := ⟨rfl, fun _ _ => rfl, Below.refl _ _⟩
  have HQ0 := hide hq0
  clear hb1 hx1 hs1 hr0 hq0
  have hzV : V.heap.size = w.heap.size + 2 := HS0.out
  go_upto_region 3 with (first | (go_at_call 213; refine (rdI64_calls _ _ _ _ HD3.out hok).mono ?_; rintro e w4 ⟨rfl, hd4, hs4⟩; rw [← HE4.out] at hd4 ⊢; have HD4 := hide hd4; have HQ4 := hide (HQ3.out.trans hs4); clear hd4 hs4) | (go_at_call 212; refine (rdU32_calls _ _ _ _ HD2.out hok).mono ?_; rintro e w3 ⟨rfl, hd3, hs3⟩; rw [← HE3.out] at hd3 ⊢; have HD3 := hide hd3; have HQ3 := hide (HQ2.out.trans hs3); clear hd3 hs3) | (go_at_call 212; refine (rdU32_calls _ _ _ _ HD1.out hok).mono ?_; rintro e w2 ⟨rfl, hd2, hs2⟩; rw [← HE2.out] at hd2 ⊢; have HD2 := hide hd2; have HQ2 := hide (HQ1.out.trans hs2); clear hd2 hs2) | (go_at_call 212; refine (rdU32_calls _ _ _ _ HD0.out hok).mono ?_; rintro e w1 ⟨rfl, hd1, hs1⟩; rw [← HE1.out] at hd1 ⊢; have HD1 := hide hd1; have HQ1 := hide (HQ0.out.trans hs1); clear hd1 hs1))
  clear hzV
  have hzn : w4.heap.size = w.heap.size + 2 := HQ4.out.size.trans HS0.out
  have hxn := (HQ4.out.same w.heap.size (by omega)).trans HX0.out
  have hbn : Below w.heap.size w w4 := HV0.out.trans (HQ4.out.below.mono (by omega))
  have HDn : Hid (RdAt (w4.alloc (.cells #[.int .u32 p1.1, .int .u32 p2.1, .int .u32 p3.1, .int .i64 p4.1] 65)) (w.heap.size + 1) (fun b => ok b ∧ b < w.heap.size) p4.2) := ⟨HD4.out.at'.elim fun v h => ⟨v, (Below.heap_alloc _ _ _ (by omega)).trans h.1, RArr.below h.2 ((Below.refl _ _).alloc (Nat.le_refl _) _)⟩, HD4.out.bytes⟩
  have hbN : (w4.alloc (.cells #[.int .u32 p1.1, .int .u32 p2.1, .int .u32 p3.1, .int .i64 p4.1] 65)).heap[w.heap.size + 2]? = some (.cells #[.int .u32 p1.1, .int .u32 p2.1, .int .u32 p3.1, .int .i64 p4.1] 65 (0, 0)) := by rw [← hzn]; exact heap_alloc_at _ _
  have hbn := hbn.alloc hbn.size (.cells #[.int .u32 p1.1, .int .u32 p2.1, .int .u32 p3.1, .int .i64 p4.1] 65)
  have hxn := (Below.heap_alloc w4 (.cells #[.int .u32 p1.1, .int .u32 p2.1, .int .u32 p3.1, .int .i64 p4.1] 65) w.heap.size (by omega)).trans hxn
  generalize (World.alloc w4 _) = V9 at *
  have hwN : rng V9 (w.heap.size + 2) 0 4 = some #[.int .u32 p1.1, .int .u32 p2.1, .int .u32 p3.1, .int .i64 p4.1] := rng_whole hbN
  have hlN := blk_lt hbN
  have c1 : V9.cell? ⟨w.heap.size + 2, 1, none⟩ = some (.int .u32 p2.1) := by rw [World.cell?, hbN]; rfl
  have c2 : V9.cell? ⟨w.heap.size + 2, 2, none⟩ = some (.int .u32 p3.1) := by rw [World.cell?, hbN]; rfl
  have c3 : V9.cell? ⟨w.heap.size + 2, 3, none⟩ = some (.int .i64 p4.1) := by rw [World.cell?, hbN]; rfl
  have hwx : whole V9 w.heap.size 4 = true := whole_blk hxn
  have hlx := blk_lt hxn
  have HXN := hide hxn
  have HBN := hide hbn
  clear hxn hbn
  have hov : ∀ x, ones (statCs x) 4 = true := fun _ => rfl
  simp only [statCs] at hov
  cases td : rdDone p4.2 with
  | false =>
    have HE : Hid (R = none) := HR.out.trans (by simp [td])
    go_wp2_with (first | (go_at_call 214; refine (rdDone_calls _ _ _ _ HDn.out).mono ?_; rintro e w9 ⟨⟨sx, rfl⟩, rfl⟩; rw [td]) | (go_at_call 159; refine (validMin_calls _ _).mono ?_; rintro e w9 ⟨rfl, rfl⟩; rw [t1]))
    refine bodyPost_ret (results_cell_tmp Tryz.results162 _ _ w.heap.size _ _ _ _ rfl (heap_setRow_at HXN.out) Tryz.underlying65 rfl (by kernel_rfl)) rfl ?_
    exact dec_none (f := statCs) (z := ⟨0, 0, 0, 0⟩) HE (HBN.out.trans (below_setRow' _ _ (Nat.le_refl _)))
  | true =>
    cases t0 : decide (p2.1 < p3.1) with
    | true =>
      have HE : Hid (R = none) := HR.out.trans (by simp [td, t0])
      go_wp2_with (first | (go_at_call 214; refine (rdDone_calls _ _ _ _ HDn.out).mono ?_; rintro e w9 ⟨⟨sx, rfl⟩, rfl⟩; rw [td]) | (go_at_call 159; refine (validMin_calls _ _).mono ?_; rintro e w9 ⟨rfl, rfl⟩; rw [t1]))
      refine bodyPost_ret (results_cell_tmp Tryz.results162 _ _ w.heap.size _ _ _ _ rfl (heap_setRow_at HXN.out) Tryz.underlying65 rfl (by kernel_rfl)) rfl ?_
      exact dec_none (f := statCs) (z := ⟨0, 0, 0, 0⟩) HE (HBN.out.trans (below_setRow' _ _ (Nat.le_refl _)))
    | false =>
      cases t1 : inCal p4.1 with
      | false =>
        have HE : Hid (R = none) := HR.out.trans (by simp [td, t0, t1])
        go_wp2_with (first | (go_at_call 214; refine (rdDone_calls _ _ _ _ HDn.out).mono ?_; rintro e w9 ⟨⟨sx, rfl⟩, rfl⟩; rw [td]) | (go_at_call 159; refine (validMin_calls _ _).mono ?_; rintro e w9 ⟨rfl, rfl⟩; rw [t1]))
        refine bodyPost_ret (results_cell_tmp Tryz.results162 _ _ w.heap.size _ _ _ _ rfl (heap_setRow_at HXN.out) Tryz.underlying65 rfl (by kernel_rfl)) rfl ?_
        exact dec_none (f := statCs) (z := ⟨0, 0, 0, 0⟩) HE (HBN.out.trans (below_setRow' _ _ (Nat.le_refl _)))
      | true =>
        have HE : Hid (R = some ⟨p1.1, p2.1, p3.1, p4.1⟩) := HR.out.trans (by simp [td, t0, t1])
        go_wp2_with (first | (go_at_call 214; refine (rdDone_calls _ _ _ _ HDn.out).mono ?_; rintro e w9 ⟨⟨sx, rfl⟩, rfl⟩; rw [td]) | (go_at_call 159; refine (validMin_calls _ _).mono ?_; rintro e w9 ⟨rfl, rfl⟩; rw [t1]))
        refine bodyPost_ret (results_cell_tmp Tryz.results162 _ _ w.heap.size _ _ _ _ rfl (heap_setRow_at HXN.out) Tryz.underlying65 rfl (by kernel_rfl)) rfl ?_
        exact dec_some (f := statCs) (z := ⟨0, 0, 0, 0⟩) HE (HBN.out.trans (below_setRow' _ _ (Nat.le_refl _)))

def decHdr (seq : Int) (bs : List Int) : Option (Hdr) :=
  let p1 := rdDig 1 ⟨bs, false⟩
  let p2 := rdI64 p1.2
  let p3 := rdDig 4 p2.2
  let p4 := rdDig 4 p3.2
  let p5 := rdDig 4 p4.2
  let p6 := rdDig 4 p5.2
  if ! rdDone p6.2 then none else if (p1.1 != 67) && (p1.1 != 73) then none else if decide (seq ≤ p3.1) then none else some ⟨p1.1, seq, p2.1, p3.1, p4.1, p5.1, p6.1⟩
set_option maxRecDepth 100000 in
set_option maxHeartbeats 2000000 in
theorem decHdr_calls (w : World) (seq : Int) (ok : Nat → Prop) (v : Value) (bs : List Int) (hB : BytesAt w ok v bs) (hby : ByteL bs) :
    Calls Tryz.prog 225 #[.int .u32 seq, v] w fun e w' => DecPost w w' e hdrCs ⟨0, 0, 0, 0, 0, 0, 0⟩ (decHdr seq bs) := by
  obtain ⟨R, hR⟩ : ∃ R, R = decHdr seq bs := ⟨_, rfl⟩
  rw [← hR]
  obtain ⟨p1, E1⟩ : ∃ p, p = rdDig 1 ⟨bs, false⟩ := ⟨_, rfl⟩
  obtain ⟨p2, E2⟩ : ∃ p, p = rdI64 p1.2 := ⟨_, rfl⟩
  obtain ⟨p3, E3⟩ : ∃ p, p = rdDig 4 p2.2 := ⟨_, rfl⟩
  obtain ⟨p4, E4⟩ : ∃ p, p = rdDig 4 p3.2 := ⟨_, rfl⟩
  obtain ⟨p5, E5⟩ : ∃ p, p = rdDig 4 p4.2 := ⟨_, rfl⟩
  obtain ⟨p6, E6⟩ : ∃ p, p = rdDig 4 p5.2 := ⟨_, rfl⟩
  have HR : Hid (R = if ! rdDone p6.2 then none else if (p1.1 != 67) && (p1.1 != 73) then none else if decide (seq ≤ p3.1) then none else some ⟨p1.1, seq, p2.1, p3.1, p4.1, p5.1, p6.1⟩) := hR.trans (by simp only [decHdr, ← E1, ← E2, ← E3, ← E4, ← E5, ← E6])
  have HE1 := hide E1
  have HE2 := hide E2
  have HE3 := hide E3
  have HE4 := hide E4
  have HE5 := hide E5
  have HE6 := hide E6
  obtain ⟨a, m, c, rfl, -⟩ := Src.of hB
  have HB : Hid (BytesAt w (fun b => ok b ∧ b < w.heap.size) (.slice a m c) bs) := RArr.lt hB
  clear hR hB E1 E2 E3 E4 E5 E6
  go_enter Tryz.func225, Tryz.ntmps225
  go_upto_region 1 with fail
  have hb0 : Below w.heap.size w (w.alloc (.cells (hdrCs ⟨0, 0, 0, 0, 0, 0, 0⟩) 71)) := (Below.refl _ _).alloc (Nat.le_refl _) _
  have hx0 : (w.alloc (.cells (hdrCs ⟨0, 0, 0, 0, 0, 0, 0⟩) 71)).heap[w.heap.size]? = some (.cells (hdrCs ⟨0, 0, 0, 0, 0, 0, 0⟩) 71 (0, 0)) := heap_alloc_at _ _
  have hs0 : (w.alloc (.cells (hdrCs ⟨0, 0, 0, 0, 0, 0, 0⟩) 71)).heap.size = w.heap.size + 1 := by simp
  have HB1 : Hid (BytesAt (w.alloc (.cells (hdrCs ⟨0, 0, 0, 0, 0, 0, 0⟩) 71)) (fun b => ok b ∧ b < w.heap.size) (.slice a m c) bs) := HB.out.mono (fun b hb => hb0.block b hb.2) (fun _ h => h)
  simp only [hdrCs] at hb0 hx0 hs0 HB1
  generalize (World.alloc w _) = W at *
  go_upto_region 2 with (go_at_call 211; refine (newRd_calls _ a m c).mono ?_; rintro e w0 ⟨rfl, rfl⟩)
  have hr0 := RdAt.new HB1.out hby
  have hb1 := hb0.alloc hb0.size (.cells #[.slice a m c, .bool false] 407)
  have hx1 := (Below.heap_alloc W (.cells #[.slice a m c, .bool false] 407) w.heap.size (by omega)).trans hx0
  have hs1 : (W.alloc (.cells #[.slice a m c, .bool false] 407)).heap.size = w.heap.size + 2 := by simp [hs0]
  rw [hs0] at hr0
  generalize (World.alloc W _) = V at *
  have hok : ∀ b, (ok b ∧ b < w.heap.size) → b ≠ w.heap.size + 1 := fun b hb => by have := hb.2; omega
  clear hb0 hx0 hs0 HB HB1
  have HV0 := hide hb1
  have HX0 := hide hx1
  have HS0 := hide hs1
  have HD0 := hide hr0
  have hq0 : RdStep V V (w.heap.size + 1) := ⟨rfl, fun _ _ => rfl, Below.refl _ _⟩
  have HQ0 := hide hq0
  clear hb1 hx1 hs1 hr0 hq0
  have hzV : V.heap.size = w.heap.size + 2 := HS0.out
  go_upto_region 3 with (first | (go_at_call 212; refine (rdU32_calls _ _ _ _ HD5.out hok).mono ?_; rintro e w6 ⟨rfl, hd6, hs6⟩; rw [← HE6.out] at hd6 ⊢; have HD6 := hide hd6; have HQ6 := hide (HQ5.out.trans hs6); clear hd6 hs6) | (go_at_call 212; refine (rdU32_calls _ _ _ _ HD4.out hok).mono ?_; rintro e w5 ⟨rfl, hd5, hs5⟩; rw [← HE5.out] at hd5 ⊢; have HD5 := hide hd5; have HQ5 := hide (HQ4.out.trans hs5); clear hd5 hs5) | (go_at_call 212; refine (rdU32_calls _ _ _ _ HD3.out hok).mono ?_; rintro e w4 ⟨rfl, hd4, hs4⟩; rw [← HE4.out] at hd4 ⊢; have HD4 := hide hd4; have HQ4 := hide (HQ3.out.trans hs4); clear hd4 hs4) | (go_at_call 212; refine (rdU32_calls _ _ _ _ HD2.out hok).mono ?_; rintro e w3 ⟨rfl, hd3, hs3⟩; rw [← HE3.out] at hd3 ⊢; have HD3 := hide hd3; have HQ3 := hide (HQ2.out.trans hs3); clear hd3 hs3) | (go_at_call 213; refine (rdI64_calls _ _ _ _ HD1.out hok).mono ?_; rintro e w2 ⟨rfl, hd2, hs2⟩; rw [← HE2.out] at hd2 ⊢; have HD2 := hide hd2; have HQ2 := hide (HQ1.out.trans hs2); clear hd2 hs2) | (go_at_call 218; refine (rdU8_calls _ _ _ _ HD0.out hok).mono ?_; rintro e w1 ⟨rfl, hd1, hs1⟩; rw [← HE1.out] at hd1 ⊢; have HD1 := hide hd1; have HQ1 := hide (HQ0.out.trans hs1); clear hd1 hs1))
  clear hzV
  have hzn : w6.heap.size = w.heap.size + 2 := HQ6.out.size.trans HS0.out
  have hxn := (HQ6.out.same w.heap.size (by omega)).trans HX0.out
  have hbn : Below w.heap.size w w6 := HV0.out.trans (HQ6.out.below.mono (by omega))
  have HDn : Hid (RdAt (w6.alloc (.cells #[.int .u8 p1.1, .int .u32 seq, .int .i64 p2.1, .int .u32 p3.1, .int .u32 p4.1, .int .u32 p5.1, .int .u32 p6.1] 71)) (w.heap.size + 1) (fun b => ok b ∧ b < w.heap.size) p6.2) := ⟨HD6.out.at'.elim fun v h => ⟨v, (Below.heap_alloc _ _ _ (by omega)).trans h.1, RArr.below h.2 ((Below.refl _ _).alloc (Nat.le_refl _) _)⟩, HD6.out.bytes⟩
  have hbN : (w6.alloc (.cells #[.int .u8 p1.1, .int .u32 seq, .int .i64 p2.1, .int .u32 p3.1, .int .u32 p4.1, .int .u32 p5.1, .int .u32 p6.1] 71)).heap[w.heap.size + 2]? = some (.cells #[.int .u8 p1.1, .int .u32 seq, .int .i64 p2.1, .int .u32 p3.1, .int .u32 p4.1, .int .u32 p5.1, .int .u32 p6.1] 71 (0, 0)) := by rw [← hzn]; exact heap_alloc_at _ _
  have hbn := hbn.alloc hbn.size (.cells #[.int .u8 p1.1, .int .u32 seq, .int .i64 p2.1, .int .u32 p3.1, .int .u32 p4.1, .int .u32 p5.1, .int .u32 p6.1] 71)
  have hxn := (Below.heap_alloc w6 (.cells #[.int .u8 p1.1, .int .u32 seq, .int .i64 p2.1, .int .u32 p3.1, .int .u32 p4.1, .int .u32 p5.1, .int .u32 p6.1] 71) w.heap.size (by omega)).trans hxn
  generalize (World.alloc w6 _) = V9 at *
  have hwN : rng V9 (w.heap.size + 2) 0 7 = some #[.int .u8 p1.1, .int .u32 seq, .int .i64 p2.1, .int .u32 p3.1, .int .u32 p4.1, .int .u32 p5.1, .int .u32 p6.1] := rng_whole hbN
  have hlN := blk_lt hbN
  have c0 : V9.cell? ⟨w.heap.size + 2, 0, none⟩ = some (.int .u8 p1.1) := by rw [World.cell?, hbN]; rfl
  have c3 : V9.cell? ⟨w.heap.size + 2, 3, none⟩ = some (.int .u32 p3.1) := by rw [World.cell?, hbN]; rfl
  have hwx : whole V9 w.heap.size 7 = true := whole_blk hxn
  have hlx := blk_lt hxn
  have HXN := hide hxn
  have HBN := hide hbn
  clear hxn hbn
  have hov : ∀ x, ones (hdrCs x) 7 = true := fun _ => rfl
  simp only [hdrCs] at hov
  cases td : rdDone p6.2 with
  | false =>
    have HE : Hid (R = none) := HR.out.trans (by simp [td])
    go_wp2_with (first | (go_at_call 214; refine (rdDone_calls _ _ _ _ HDn.out).mono ?_; rintro e w9 ⟨⟨sx, rfl⟩, rfl⟩; rw [td]))
    refine bodyPost_ret (results_cell_tmp Tryz.results225 _ _ w.heap.size _ _ _ _ rfl (heap_setRow_at HXN.out) Tryz.underlying71 rfl (by kernel_rfl)) rfl ?_
    exact dec_none (f := hdrCs) (z := ⟨0, 0, 0, 0, 0, 0, 0⟩) HE (HBN.out.trans (below_setRow' _ _ (Nat.le_refl _)))
  | true =>
    cases t0a : (p1.1 != 67) with
    | false =>
      cases t1 : decide (seq ≤ p3.1) with
      | true =>
        have HE : Hid (R = none) := HR.out.trans (by simp [td, t0a, t1])
        go_wp2_with (first | (go_at_call 214; refine (rdDone_calls _ _ _ _ HDn.out).mono ?_; rintro e w9 ⟨⟨sx, rfl⟩, rfl⟩; rw [td]))
        refine bodyPost_ret (results_cell_tmp Tryz.results225 _ _ w.heap.size _ _ _ _ rfl (heap_setRow_at HXN.out) Tryz.underlying71 rfl (by kernel_rfl)) rfl ?_
        exact dec_none (f := hdrCs) (z := ⟨0, 0, 0, 0, 0, 0, 0⟩) HE (HBN.out.trans (below_setRow' _ _ (Nat.le_refl _)))
      | false =>
        have HE : Hid (R = some ⟨p1.1, seq, p2.1, p3.1, p4.1, p5.1, p6.1⟩) := HR.out.trans (by simp [td, t0a, t1])
        go_wp2_with (first | (go_at_call 214; refine (rdDone_calls _ _ _ _ HDn.out).mono ?_; rintro e w9 ⟨⟨sx, rfl⟩, rfl⟩; rw [td]))
        refine bodyPost_ret (results_cell_tmp Tryz.results225 _ _ w.heap.size _ _ _ _ rfl (heap_setRow_at HXN.out) Tryz.underlying71 rfl (by kernel_rfl)) rfl ?_
        exact dec_some (f := hdrCs) (z := ⟨0, 0, 0, 0, 0, 0, 0⟩) HE (HBN.out.trans (below_setRow' _ _ (Nat.le_refl _)))
    | true =>
      cases t0b : (p1.1 != 73) with
      | true =>
        have HE : Hid (R = none) := HR.out.trans (by simp [td, t0a, t0b])
        go_wp2_with (first | (go_at_call 214; refine (rdDone_calls _ _ _ _ HDn.out).mono ?_; rintro e w9 ⟨⟨sx, rfl⟩, rfl⟩; rw [td]))
        refine bodyPost_ret (results_cell_tmp Tryz.results225 _ _ w.heap.size _ _ _ _ rfl (heap_setRow_at HXN.out) Tryz.underlying71 rfl (by kernel_rfl)) rfl ?_
        exact dec_none (f := hdrCs) (z := ⟨0, 0, 0, 0, 0, 0, 0⟩) HE (HBN.out.trans (below_setRow' _ _ (Nat.le_refl _)))
      | false =>
        cases t1 : decide (seq ≤ p3.1) with
        | true =>
          have HE : Hid (R = none) := HR.out.trans (by simp [td, t0a, t0b, t1])
          go_wp2_with (first | (go_at_call 214; refine (rdDone_calls _ _ _ _ HDn.out).mono ?_; rintro e w9 ⟨⟨sx, rfl⟩, rfl⟩; rw [td]))
          refine bodyPost_ret (results_cell_tmp Tryz.results225 _ _ w.heap.size _ _ _ _ rfl (heap_setRow_at HXN.out) Tryz.underlying71 rfl (by kernel_rfl)) rfl ?_
          exact dec_none (f := hdrCs) (z := ⟨0, 0, 0, 0, 0, 0, 0⟩) HE (HBN.out.trans (below_setRow' _ _ (Nat.le_refl _)))
        | false =>
          have HE : Hid (R = some ⟨p1.1, seq, p2.1, p3.1, p4.1, p5.1, p6.1⟩) := HR.out.trans (by simp [td, t0a, t0b, t1])
          go_wp2_with (first | (go_at_call 214; refine (rdDone_calls _ _ _ _ HDn.out).mono ?_; rintro e w9 ⟨⟨sx, rfl⟩, rfl⟩; rw [td]))
          refine bodyPost_ret (results_cell_tmp Tryz.results225 _ _ w.heap.size _ _ _ _ rfl (heap_setRow_at HXN.out) Tryz.underlying71 rfl (by kernel_rfl)) rfl ?_
          exact dec_some (f := hdrCs) (z := ⟨0, 0, 0, 0, 0, 0, 0⟩) HE (HBN.out.trans (below_setRow' _ _ (Nat.le_refl _)))

end Go.Proofs.Qxb6500666aGreatDoor
