/- A request, read back. (Made by tools/mk_req.py.) -/
import Derived.Test.Qxb6500666aGreatDoorAuth2
import Derived.Test.Qxb6500666aGreatDoorEnc5
import Derived.Test.Qxb6500666aGreatDoorDec2
import Derived.Test.Qxb6500666aGreatDoorMix4
namespace Go.Proofs.Qxb6500666aGreatDoor
open Go.RowKit

def zeroReq : Req := ⟨0, 0, 0, 0, 0, 0, 0, 0, 0, 0, 0, 0, 0, 0, 0, 0, []⟩
def rdIds : Nat → Rd → List Int → List Int × Rd
  | 0, r, acc => (acc, r)
  | n + 1, r, acc => rdIds n (rdDig 4 r).2 (acc ++ [(rdDig 4 r).1])
def readReq (r : Rd) : (Req × Bool) × Rd :=
  let p1 := rdDig 1 r
  let p2 := rdDig 4 p1.2
  let p3 := rdI64 p2.2
  let p4 := rdDig 4 p3.2
  let p5 := rdDig 4 p4.2
  let p6 := rdDig 4 p5.2
  let p7 := rdDig 4 p6.2
  let p8 := rdDig 4 p7.2
  let p9 := rdDig 1 p8.2
  let p10 := rdDig 1 p9.2
  let p11 := rdI64 p10.2
  let p12 := rdI64 p11.2
  let p13 := rdI64 p12.2
  let p14 := rdI64 p13.2
  let p15 := rdI64 p14.2
  let p16 := rdI64 p15.2
  let p17 := rdDig 1 p16.2
  if (decide (12 < p17.1)) then ((zeroReq, false), p17.2) else ((⟨p1.1, p2.1, p3.1, p4.1, p5.1, p6.1, p7.1, p8.1, p9.1, p10.1, p11.1, p12.1, p13.1, p14.1, p15.1, p16.1, (rdIds p17.1.toNat p17.2 []).1⟩, isCmd p1.1), (rdIds p17.1.toNat p17.2 []).2)

section
variable (ρ : Operand → Value) (dst : Option Tmp) (a0 a1 a2 a3 a4 a5 a6 a7 a8 a9 a10 a11 a12 : Operand) (ty : TypeId) (pos : String) (after : Array Edge) (guard : Option (Nat × Bool))
def bdReqS (a0 a1 a2 a3 a4 a5 a6 a7 a8 a9 a10 a11 a12 : Value) : Sem Value := Instr.build 53 #[(0, a0), (1, a1), (2, a2), (3, a3), (4, a4), (5, a5), (6, a6), (7, a7), (8, a8), (9, a9), (10, a10), (11, a11), (12, a12)]
theorem exec_bdReq : execOp ρ { dst, op := .build 53 #[(0, a0), (1, a1), (2, a2), (3, a3), (4, a4), (5, a5), (6, a6), (7, a7), (8, a8), (9, a9), (10, a10), (11, a11), (12, a12)], type := ty, pos, after, guard } = (do pure (.value (← bdReqS (ρ a0) (ρ a1) (ρ a2) (ρ a3) (ρ a4) (ρ a5) (ρ a6) (ρ a7) (ρ a8) (ρ a9) (ρ a10) (ρ a11) (ρ a12)))) := by simp [execOp, bdReqS]
end
theorem run_bdReq (w : World) (a0 a1 a2 a3 a4 a5 a6 a7 a8 a9 a10 a11 a12 : Int) : (bdReqS (.int .u8 a0) (.int .u32 a1) (.int .i64 a2) (.int .u32 a3) (.int .u32 a4) (.int .u32 a5) (.int .u32 a6) (.int .u32 a7) (.int .u8 a8) (.int .u8 a9) (.int .i64 a10) (.int .i64 a11) (.int .i64 a12)).run Tryz.prog w = .ok (.agg #[.int .u8 a0, .int .u32 a1, .int .i64 a2, .int .u32 a3, .int .u32 a4, .int .u32 a5, .int .u32 a6, .int .u32 a7, .int .u8 a8, .int .u8 a9, .int .i64 a10, .int .i64 a11, .int .i64 a12, .int .i64 0, .int .i64 0, .int .i64 0, .slice none 0 0]) w := by kernel_rfl
section
variable (ρ : Operand → Value) (dst : Option Tmp) (ty : TypeId) (pos : String) (after : Array Edge) (guard : Option (Nat × Bool))
def bdReq0S : Sem Value := Instr.build 53 #[]
theorem exec_bdReq0 : execOp ρ { dst, op := .build 53 #[], type := ty, pos, after, guard } = (do pure (.value (← bdReq0S))) := by simp [execOp, bdReq0S]
end
theorem run_bdReq0 (w : World) : bdReq0S.run Tryz.prog w = .ok (.agg #[.int .u8 0, .int .u32 0, .int .i64 0, .int .u32 0, .int .u32 0, .int .u32 0, .int .u32 0, .int .u32 0, .int .u8 0, .int .u8 0, .int .i64 0, .int .i64 0, .int .i64 0, .int .i64 0, .int .i64 0, .int .i64 0, .slice none 0 0]) w := by kernel_rfl

def rd4 (a b c d : Rd) : Nat → Rd
  | 0 => a
  | 1 => b
  | 2 => c
  | _ => d
def lm (q i : Nat) (x : Int) : Int := if i < q then x else 0
def zreqA : Array Value := #[.int .u8 0, .int .u32 0, .int .i64 0, .int .u32 0, .int .u32 0, .int .u32 0, .int .u32 0, .int .u32 0, .int .u8 0, .int .u8 0, .int .i64 0, .int .i64 0, .int .i64 0, .int .i64 0, .int .i64 0, .int .i64 0, .slice none 0 0]
structure ReqI (w V : World) (g : Nat) (ok : Nat → Prop) (rd : Rd) (cs : Array Value) : Prop where
  box : V.heap[w.heap.size + 1]? = some (.cells cs 53 (0, 0))
  res : V.heap[w.heap.size]? = some (.cells zreqA 53 (0, 0))
  rd : RdAt V g ok rd
  size : w.heap.size + 2 ≤ V.heap.size
  same : ∀ b, b < w.heap.size → b ≠ g → V.heap[b]? = w.heap[b]?
  below : Below g w V
theorem ReqI.step {w V V' : World} {g : Nat} {ok : Nat → Prop} {rd rd' : Rd} {cs : Array Value} (h : ReqI w V g ok rd cs) (hg : g < w.heap.size) (hr : RdAt V' g ok rd') (hs : RdStep V V' g) : ReqI w V' g ok rd' cs :=
  ⟨(hs.same _ (by omega)).trans h.box, (hs.same _ (by omega)).trans h.res, hr, by have := h.size; have := hs.size; omega, fun b h1 h2 => (hs.same b h2).trans (h.same b h1 h2), h.below.trans hs.below⟩
theorem ReqI.set {w V : World} {g : Nat} {ok : Nat → Prop} {rd : Rd} {cs cs' : Array Value} {j : Nat} {v : Value} (h : ReqI w V g ok rd cs) (hg : g < w.heap.size) (hok : ∀ b, ok b → b < w.heap.size) (he : cs.setIfInBounds j v = cs') : ReqI w (V.setCell ⟨w.heap.size + 1, j, none⟩ v) g ok rd cs' := by
  have ho : ∀ b, b ≠ w.heap.size + 1 → (V.setCell ⟨w.heap.size + 1, j, none⟩ v).heap[b]? = V.heap[b]? := fun b hb => Below.heap_setCell _ _ _ _ hb
  exact ⟨he ▸ heap_set3 (j := j) (v := v) h.box, (ho _ (by omega)).trans h.res, ⟨h.rd.at'.elim fun u hu => ⟨u, (ho _ (by omega)).trans hu.1, RArr.mono hu.2 (fun b hb => ho b (by have := hok b hb; omega)) (fun _ hb => hb)⟩, h.rd.bytes⟩, by simpa using h.size, fun b h1 h2 => (ho b (by omega)).trans (h.same b h1 h2), h.below.setCell (p := ⟨w.heap.size + 1, j, none⟩) (by show g ≤ w.heap.size + 1; omega) _⟩
theorem ReqI.grow {w V V' : World} {g : Nat} {ok : Nat → Prop} {rd : Rd} {cs : Array Value} (h : ReqI w V g ok rd cs) (hg : g < w.heap.size) (hok : ∀ b, ok b → b < w.heap.size) (hb : Below (w.heap.size + 2) V V') : ReqI w V' g ok rd cs := by
  have hz := h.size
  have := hb.size
  exact ⟨(hb.block _ (by omega)).trans h.box, (hb.block _ (by omega)).trans h.res, ⟨h.rd.at'.elim fun u hu => ⟨u, (hb.block _ (by omega)).trans hu.1, RArr.mono hu.2 (fun b hb' => hb.block b (by have := hok b hb'; omega)) (fun _ h => h)⟩, h.rd.bytes⟩, by omega, fun b h1 h2 => (hb.block b (by omega)).trans (h.same b h1 h2), h.below.trans (hb.mono (by omega))⟩

theorem rd_drew {w : World} {g : Nat} {ok : Nat → Prop} {r : Rd} (h : RdAt w g ok r) : RdAt w.drew g ok r := ⟨h.at'.elim fun v hv => ⟨v, hv.1, RArr.below hv.2 (Below.refl _ _).drew⟩, h.bytes⟩

structure ReqPost (w w' : World) (g : Nat) (ok : Nat → Prop) (e : Ending) (R : (Req × Bool) × Rd) : Prop where
  ex : ∃ lv, e = .returned (.tuple #[.agg (reqA R.1.1 lv), .bool R.1.2]) ∧ U32sAt w' (fun b => w.heap.size ≤ b) lv R.1.1.list ∧ (∃ a n c, lv = .slice a n c)
  rd : RdAt w' g ok R.2
  same : ∀ b, b < w.heap.size → b ≠ g → w'.heap[b]? = w.heap[b]?
  below : Below g w w'

attribute [local go_sem] ext_const Ext.cell Ext.frozen Ext.rng Ext.whole
attribute [local go_sem ↓] exec_ldReq exec_stReq exec_bdReq exec_bdReq0
attribute [local go_sem] run_ldReq run_stReq run_bdReq run_bdReq0 whole_alloc_lt whole_alloc_at whole_drew setRow_alloc_at setRow_alloc_lt rng_alloc_lt rng_alloc_at rng_drew rng_drewN rng_setCell_other whole_setCell_other

set_option maxRecDepth 100000 in
set_option maxHeartbeats 4000000 in
theorem readReq_calls (w : World) (g : Nat) (ok : Nat → Prop) (r : Rd) (h : RdAt w g ok r) (hok : ∀ b, ok b → b ≠ g) (hlt : ∀ b, ok b → b < w.heap.size) :
    Calls Tryz.prog 219 #[.pointer (some ⟨g, 0, none⟩)] w fun e w' => ReqPost w w' g ok e (readReq r) := by
  obtain ⟨R, hR⟩ : ∃ R, R = readReq r := ⟨_, rfl⟩
  rw [← hR]
  obtain ⟨p1, E1⟩ : ∃ p, p = rdDig 1 r := ⟨_, rfl⟩
  obtain ⟨p2, E2⟩ : ∃ p, p = rdDig 4 p1.2 := ⟨_, rfl⟩
  obtain ⟨p3, E3⟩ : ∃ p, p = rdI64 p2.2 := ⟨_, rfl⟩
  obtain ⟨p4, E4⟩ : ∃ p, p = rdDig 4 p3.2 := ⟨_, rfl⟩
  obtain ⟨p5, E5⟩ : ∃ p, p = rdDig 4 p4.2 := ⟨_, rfl⟩
  obtain ⟨p6, E6⟩ : ∃ p, p = rdDig 4 p5.2 := ⟨_, rfl⟩
  obtain ⟨p7, E7⟩ : ∃ p, p = rdDig 4 p6.2 := ⟨_, rfl⟩
  obtain ⟨p8, E8⟩ : ∃ p, p = rdDig 4 p7.2 := ⟨_, rfl⟩
  obtain ⟨p9, E9⟩ : ∃ p, p = rdDig 1 p8.2 := ⟨_, rfl⟩
  obtain ⟨p10, E10⟩ : ∃ p, p = rdDig 1 p9.2 := ⟨_, rfl⟩
  obtain ⟨p11, E11⟩ : ∃ p, p = rdI64 p10.2 := ⟨_, rfl⟩
  obtain ⟨p12, E12⟩ : ∃ p, p = rdI64 p11.2 := ⟨_, rfl⟩
  obtain ⟨p13, E13⟩ : ∃ p, p = rdI64 p12.2 := ⟨_, rfl⟩
  obtain ⟨p14, E14⟩ : ∃ p, p = rdI64 p13.2 := ⟨_, rfl⟩
  obtain ⟨p15, E15⟩ : ∃ p, p = rdI64 p14.2 := ⟨_, rfl⟩
  obtain ⟨p16, E16⟩ : ∃ p, p = rdI64 p15.2 := ⟨_, rfl⟩
  obtain ⟨p17, E17⟩ : ∃ p, p = rdDig 1 p16.2 := ⟨_, rfl⟩
  have HR : Hid (R = if (decide (12 < p17.1)) then ((zeroReq, false), p17.2) else ((⟨p1.1, p2.1, p3.1, p4.1, p5.1, p6.1, p7.1, p8.1, p9.1, p10.1, p11.1, p12.1, p13.1, p14.1, p15.1, p16.1, (rdIds p17.1.toNat p17.2 []).1⟩, isCmd p1.1), (rdIds p17.1.toNat p17.2 []).2)) := hR.trans (by subst E17 E16 E15 E14 E13 E12 E11 E10 E9 E8 E7 E6 E5 E4 E3 E2 E1; rfl)
  have HE1 := hide E1
  have HE2 := hide E2
  have HE3 := hide E3
  have HE4 := hide E4
  have HE5 := hide E5
  have HE6 := hide E6
  have HE7 := hide E7
  have HE8 := hide E8
  have HE9 := hide E9
  have HE10 := hide E10
  have HE11 := hide E11
  have HE12 := hide E12
  have HE13 := hide E13
  have HE14 := hide E14
  have HE15 := hide E15
  have HE16 := hide E16
  have HE17 := hide E17
  have HD := hide h
  have hgl : g < w.heap.size := h.at'.elim fun v h => blk_lt h.1
  clear hR h E1 E2 E3 E4 E5 E6 E7 E8 E9 E10 E11 E12 E13 E14 E15 E16 E17
  go_enter Tryz.func219, Tryz.ntmps219
  go_upto_region 1 with fail
  have hb0 : Below w.heap.size w (w.alloc (.cells #[.int .u8 0, .int .u32 0, .int .i64 0, .int .u32 0, .int .u32 0, .int .u32 0, .int .u32 0, .int .u32 0, .int .u8 0, .int .u8 0, .int .i64 0, .int .i64 0, .int .i64 0, .int .i64 0, .int .i64 0, .int .i64 0, .slice none 0 0] 53)) := (Below.refl _ _).alloc (Nat.le_refl _) _
  have hx0 : (w.alloc (.cells #[.int .u8 0, .int .u32 0, .int .i64 0, .int .u32 0, .int .u32 0, .int .u32 0, .int .u32 0, .int .u32 0, .int .u8 0, .int .u8 0, .int .i64 0, .int .i64 0, .int .i64 0, .int .i64 0, .int .i64 0, .int .i64 0, .slice none 0 0] 53)).heap[w.heap.size]? = some (.cells #[.int .u8 0, .int .u32 0, .int .i64 0, .int .u32 0, .int .u32 0, .int .u32 0, .int .u32 0, .int .u32 0, .int .u8 0, .int .u8 0, .int .i64 0, .int .i64 0, .int .i64 0, .int .i64 0, .int .i64 0, .int .i64 0, .slice none 0 0] 53 (0, 0)) := heap_alloc_at _ _
  have hs0 : (w.alloc (.cells #[.int .u8 0, .int .u32 0, .int .i64 0, .int .u32 0, .int .u32 0, .int .u32 0, .int .u32 0, .int .u32 0, .int .u8 0, .int .u8 0, .int .i64 0, .int .i64 0, .int .i64 0, .int .i64 0, .int .i64 0, .int .i64 0, .slice none 0 0] 53)).heap.size = w.heap.size + 1 := by simp
  have hd0 : RdAt (w.alloc (.cells #[.int .u8 0, .int .u32 0, .int .i64 0, .int .u32 0, .int .u32 0, .int .u32 0, .int .u32 0, .int .u32 0, .int .u8 0, .int .u8 0, .int .i64 0, .int .i64 0, .int .i64 0, .int .i64 0, .int .i64 0, .int .i64 0, .slice none 0 0] 53)) g ok r := ⟨HD.out.at'.elim fun v h => ⟨v, (Below.heap_alloc _ _ _ hgl).trans h.1, RArr.below h.2 hb0⟩, HD.out.bytes⟩
  generalize (World.alloc w _) = V at *
  have HD0 := hide hd0
  have HX0 := hide hx0
  have HV0 := hide hb0
  have HS0 := hide hs0
  have HQ0 : Hid (RdStep V V g) := ⟨rfl, fun _ _ => rfl, Below.refl _ _⟩
  clear hb0 hx0 hs0 hd0 HD
  go_upto_region 3 with (first | (go_at_call 213; refine (rdI64_calls _ _ _ _ HD12.out hok).mono ?_; rintro e w13 ⟨rfl, hd13, hs13⟩; rw [← HE13.out] at hd13 ⊢; have HD13 := hide hd13; have HQ13 := hide (HQ12.out.trans hs13); clear hd13 hs13) | (go_at_call 213; refine (rdI64_calls _ _ _ _ HD11.out hok).mono ?_; rintro e w12 ⟨rfl, hd12, hs12⟩; rw [← HE12.out] at hd12 ⊢; have HD12 := hide hd12; have HQ12 := hide (HQ11.out.trans hs12); clear hd12 hs12) | (go_at_call 213; refine (rdI64_calls _ _ _ _ HD10.out hok).mono ?_; rintro e w11 ⟨rfl, hd11, hs11⟩; rw [← HE11.out] at hd11 ⊢; have HD11 := hide hd11; have HQ11 := hide (HQ10.out.trans hs11); clear hd11 hs11) | (go_at_call 218; refine (rdU8_calls _ _ _ _ HD9.out hok).mono ?_; rintro e w10 ⟨rfl, hd10, hs10⟩; rw [← HE10.out] at hd10 ⊢; have HD10 := hide hd10; have HQ10 := hide (HQ9.out.trans hs10); clear hd10 hs10) | (go_at_call 218; refine (rdU8_calls _ _ _ _ HD8.out hok).mono ?_; rintro e w9 ⟨rfl, hd9, hs9⟩; rw [← HE9.out] at hd9 ⊢; have HD9 := hide hd9; have HQ9 := hide (HQ8.out.trans hs9); clear hd9 hs9) | (go_at_call 212; refine (rdU32_calls _ _ _ _ HD7.out hok).mono ?_; rintro e w8 ⟨rfl, hd8, hs8⟩; rw [← HE8.out] at hd8 ⊢; have HD8 := hide hd8; have HQ8 := hide (HQ7.out.trans hs8); clear hd8 hs8) | (go_at_call 212; refine (rdU32_calls _ _ _ _ HD6.out hok).mono ?_; rintro e w7 ⟨rfl, hd7, hs7⟩; rw [← HE7.out] at hd7 ⊢; have HD7 := hide hd7; have HQ7 := hide (HQ6.out.trans hs7); clear hd7 hs7) | (go_at_call 212; refine (rdU32_calls _ _ _ _ HD5.out hok).mono ?_; rintro e w6 ⟨rfl, hd6, hs6⟩; rw [← HE6.out] at hd6 ⊢; have HD6 := hide hd6; have HQ6 := hide (HQ5.out.trans hs6); clear hd6 hs6) | (go_at_call 212; refine (rdU32_calls _ _ _ _ HD4.out hok).mono ?_; rintro e w5 ⟨rfl, hd5, hs5⟩; rw [← HE5.out] at hd5 ⊢; have HD5 := hide hd5; have HQ5 := hide (HQ4.out.trans hs5); clear hd5 hs5) | (go_at_call 212; refine (rdU32_calls _ _ _ _ HD3.out hok).mono ?_; rintro e w4 ⟨rfl, hd4, hs4⟩; rw [← HE4.out] at hd4 ⊢; have HD4 := hide hd4; have HQ4 := hide (HQ3.out.trans hs4); clear hd4 hs4) | (go_at_call 213; refine (rdI64_calls _ _ _ _ HD2.out hok).mono ?_; rintro e w3 ⟨rfl, hd3, hs3⟩; rw [← HE3.out] at hd3 ⊢; have HD3 := hide hd3; have HQ3 := hide (HQ2.out.trans hs3); clear hd3 hs3) | (go_at_call 212; refine (rdU32_calls _ _ _ _ HD1.out hok).mono ?_; rintro e w2 ⟨rfl, hd2, hs2⟩; rw [← HE2.out] at hd2 ⊢; have HD2 := hide hd2; have HQ2 := hide (HQ1.out.trans hs2); clear hd2 hs2) | (go_at_call 218; refine (rdU8_calls _ _ _ _ HD0.out hok).mono ?_; rintro e w1 ⟨rfl, hd1, hs1⟩; rw [← HE1.out] at hd1 ⊢; have HD1 := hide hd1; have HQ1 := hide (HQ0.out.trans hs1); clear hd1 hs1))
  have hzz : w13.heap.size = w.heap.size + 1 := HQ13.out.size.trans HS0.out
  have hkA : (w13.alloc (.cells #[.int .u8 p1.1, .int .u32 p2.1, .int .i64 p3.1, .int .u32 p4.1, .int .u32 p5.1, .int .u32 p6.1, .int .u32 p7.1, .int .u32 p8.1, .int .u8 p9.1, .int .u8 p10.1, .int .i64 p11.1, .int .i64 p12.1, .int .i64 p13.1, .int .i64 0, .int .i64 0, .int .i64 0, .slice none 0 0] 53)).heap[w.heap.size + 1]? = some (.cells #[.int .u8 p1.1, .int .u32 p2.1, .int .i64 p3.1, .int .u32 p4.1, .int .u32 p5.1, .int .u32 p6.1, .int .u32 p7.1, .int .u32 p8.1, .int .u8 p9.1, .int .u8 p10.1, .int .i64 p11.1, .int .i64 p12.1, .int .i64 p13.1, .int .i64 0, .int .i64 0, .int .i64 0, .slice none 0 0] 53 (0, 0)) := by rw [← hzz]; exact heap_alloc_at _ _
  have hxA : (w13.alloc (.cells #[.int .u8 p1.1, .int .u32 p2.1, .int .i64 p3.1, .int .u32 p4.1, .int .u32 p5.1, .int .u32 p6.1, .int .u32 p7.1, .int .u32 p8.1, .int .u8 p9.1, .int .u8 p10.1, .int .i64 p11.1, .int .i64 p12.1, .int .i64 p13.1, .int .i64 0, .int .i64 0, .int .i64 0, .slice none 0 0] 53)).heap[w.heap.size]? = some (.cells #[.int .u8 0, .int .u32 0, .int .i64 0, .int .u32 0, .int .u32 0, .int .u32 0, .int .u32 0, .int .u32 0, .int .u8 0, .int .u8 0, .int .i64 0, .int .i64 0, .int .i64 0, .int .i64 0, .int .i64 0, .int .i64 0, .slice none 0 0] 53 (0, 0)) := (Below.heap_alloc _ _ _ (by omega)).trans ((HQ13.out.same _ (by omega)).trans HX0.out)
  have hdA : RdAt (w13.alloc (.cells #[.int .u8 p1.1, .int .u32 p2.1, .int .i64 p3.1, .int .u32 p4.1, .int .u32 p5.1, .int .u32 p6.1, .int .u32 p7.1, .int .u32 p8.1, .int .u8 p9.1, .int .u8 p10.1, .int .i64 p11.1, .int .i64 p12.1, .int .i64 p13.1, .int .i64 0, .int .i64 0, .int .i64 0, .slice none 0 0] 53)) g ok p13.2 := ⟨HD13.out.at'.elim fun v h => ⟨v, (Below.heap_alloc _ _ _ (by omega)).trans h.1, RArr.below h.2 ((Below.refl _ _).alloc (Nat.le_refl _) _)⟩, HD13.out.bytes⟩
  have hsA : (w13.alloc (.cells #[.int .u8 p1.1, .int .u32 p2.1, .int .i64 p3.1, .int .u32 p4.1, .int .u32 p5.1, .int .u32 p6.1, .int .u32 p7.1, .int .u32 p8.1, .int .u8 p9.1, .int .u8 p10.1, .int .i64 p11.1, .int .i64 p12.1, .int .i64 p13.1, .int .i64 0, .int .i64 0, .int .i64 0, .slice none 0 0] 53)).heap.size = w.heap.size + 2 := by simp [hzz]
  have hfA : ∀ b, b < w.heap.size → b ≠ g → (w13.alloc (.cells #[.int .u8 p1.1, .int .u32 p2.1, .int .i64 p3.1, .int .u32 p4.1, .int .u32 p5.1, .int .u32 p6.1, .int .u32 p7.1, .int .u32 p8.1, .int .u8 p9.1, .int .u8 p10.1, .int .i64 p11.1, .int .i64 p12.1, .int .i64 p13.1, .int .i64 0, .int .i64 0, .int .i64 0, .slice none 0 0] 53)).heap[b]? = w.heap[b]? := fun b h1 h2 => (Below.heap_alloc _ _ _ (by omega)).trans ((HQ13.out.same b h2).trans (HV0.out.block b h1))
  have hbA : Below g w (w13.alloc (.cells #[.int .u8 p1.1, .int .u32 p2.1, .int .i64 p3.1, .int .u32 p4.1, .int .u32 p5.1, .int .u32 p6.1, .int .u32 p7.1, .int .u32 p8.1, .int .u8 p9.1, .int .u8 p10.1, .int .i64 p11.1, .int .i64 p12.1, .int .i64 p13.1, .int .i64 0, .int .i64 0, .int .i64 0, .slice none 0 0] 53)) := ((HV0.out.mono (Nat.le_of_lt hgl)).trans HQ13.out.below).alloc (by omega) _
  rw [hzz]
  generalize (World.alloc w13 _) = VA at *
  have HI0 : Hid (ReqI w VA g ok p13.2 #[.int .u8 p1.1, .int .u32 p2.1, .int .i64 p3.1, .int .u32 p4.1, .int .u32 p5.1, .int .u32 p6.1, .int .u32 p7.1, .int .u32 p8.1, .int .u8 p9.1, .int .u8 p10.1, .int .i64 p11.1, .int .i64 p12.1, .int .i64 p13.1, .int .i64 0, .int .i64 0, .int .i64 0, .slice none 0 0]) := ⟨hkA, hxA, hdA, by omega, hfA, hbA⟩
  clear hkA hxA hdA hsA hfA hbA hzz HX0 HV0 HS0 HQ0 HD0 HD1 HQ1 HD2 HQ2 HD3 HQ3 HD4 HQ4 HD5 HQ5 HD6 HQ6 HD7 HQ7 HD8 HQ8 HD9 HQ9 HD10 HQ10 HD11 HQ11 HD12 HQ12 HD13 HQ13
  go_loopg [35] 3 (fun gk j wr => ∃ q : Nat, q ≤ 3 ∧ gk = 3 - q ∧ j = .int .i64 q ∧ Hid (ReqI w wr g ok (rd4 p13.2 p14.2 p15.2 p16.2 q) #[.int .u8 p1.1, .int .u32 p2.1, .int .i64 p3.1, .int .u32 p4.1, .int .u32 p5.1, .int .u32 p6.1, .int .u32 p7.1, .int .u32 p8.1, .int .u8 p9.1, .int .u8 p10.1, .int .i64 p11.1, .int .i64 p12.1, .int .i64 p13.1, .int .i64 (lm q 0 p14.1), .int .i64 (lm q 1 p15.1), .int .i64 (lm q 2 p16.1), .slice none 0 0]))
  case atStart => exact ⟨0, by omega, by omega, rfl, HI0⟩
  clear HI0
  case round =>
    obtain ⟨q, hq, rfl, rfl, HI⟩ := hrel
    have hKf : ∀ j, wr.frozen? ⟨w.heap.size + 1, j, none⟩ = false := fun j => by rw [World.frozen?, HI.out.box]; simp
    have hKl := blk_lt HI.out.box
    by_cases h0 : q = 0
    · subst h0
      have HI2 : Hid (ReqI w wr g ok p13.2 #[.int .u8 p1.1, .int .u32 p2.1, .int .i64 p3.1, .int .u32 p4.1, .int .u32 p5.1, .int .u32 p6.1, .int .u32 p7.1, .int .u32 p8.1, .int .u8 p9.1, .int .u8 p10.1, .int .i64 p11.1, .int .i64 p12.1, .int .i64 p13.1, .int .i64 0, .int .i64 0, .int .i64 0, .slice none 0 0]) := HI
      clear HI
      go_wp2_with (go_at_call 213; refine (rdI64_calls _ _ _ _ HI2.out.rd hok).mono ?_; rintro e w1 ⟨rfl, hd1, hs1⟩; rw [← HE14.out] at hd1 ⊢; have HI3 := hide (HI2.out.step hgl hd1 hs1); clear hKf hKl; have hKf : ∀ j, w1.frozen? ⟨w.heap.size + 1, j, none⟩ = false := (fun j => by rw [World.frozen?, HI3.out.box]; simp); have hKl := blk_lt HI3.out.box; have hKc : w1.cell? ⟨w.heap.size + 1, 13, none⟩ = some (.int .i64 0) := (by rw [World.cell?, HI3.out.box]; rfl))
      go_roundg (3 - 1)
      case measure => omega
      case rel => exact ⟨1, by omega, rfl, rfl, HI3.out.set hgl hlt rfl⟩
    by_cases h1 : q = 1
    · subst h1
      have HI2 : Hid (ReqI w wr g ok p14.2 #[.int .u8 p1.1, .int .u32 p2.1, .int .i64 p3.1, .int .u32 p4.1, .int .u32 p5.1, .int .u32 p6.1, .int .u32 p7.1, .int .u32 p8.1, .int .u8 p9.1, .int .u8 p10.1, .int .i64 p11.1, .int .i64 p12.1, .int .i64 p13.1, .int .i64 p14.1, .int .i64 0, .int .i64 0, .slice none 0 0]) := HI
      clear HI
      go_wp2_with (go_at_call 213; refine (rdI64_calls _ _ _ _ HI2.out.rd hok).mono ?_; rintro e w1 ⟨rfl, hd1, hs1⟩; rw [← HE15.out] at hd1 ⊢; have HI3 := hide (HI2.out.step hgl hd1 hs1); clear hKf hKl; have hKf : ∀ j, w1.frozen? ⟨w.heap.size + 1, j, none⟩ = false := (fun j => by rw [World.frozen?, HI3.out.box]; simp); have hKl := blk_lt HI3.out.box; have hKc : w1.cell? ⟨w.heap.size + 1, 14, none⟩ = some (.int .i64 0) := (by rw [World.cell?, HI3.out.box]; rfl))
      go_roundg (3 - 2)
      case measure => omega
      case rel => exact ⟨2, by omega, rfl, rfl, HI3.out.set hgl hlt rfl⟩
    by_cases h2 : q = 2
    · subst h2
      have HI2 : Hid (ReqI w wr g ok p15.2 #[.int .u8 p1.1, .int .u32 p2.1, .int .i64 p3.1, .int .u32 p4.1, .int .u32 p5.1, .int .u32 p6.1, .int .u32 p7.1, .int .u32 p8.1, .int .u8 p9.1, .int .u8 p10.1, .int .i64 p11.1, .int .i64 p12.1, .int .i64 p13.1, .int .i64 p14.1, .int .i64 p15.1, .int .i64 0, .slice none 0 0]) := HI
      clear HI
      go_wp2_with (go_at_call 213; refine (rdI64_calls _ _ _ _ HI2.out.rd hok).mono ?_; rintro e w1 ⟨rfl, hd1, hs1⟩; rw [← HE16.out] at hd1 ⊢; have HI3 := hide (HI2.out.step hgl hd1 hs1); clear hKf hKl; have hKf : ∀ j, w1.frozen? ⟨w.heap.size + 1, j, none⟩ = false := (fun j => by rw [World.frozen?, HI3.out.box]; simp); have hKl := blk_lt HI3.out.box; have hKc : w1.cell? ⟨w.heap.size + 1, 15, none⟩ = some (.int .i64 0) := (by rw [World.cell?, HI3.out.box]; rfl))
      go_roundg (3 - 3)
      case measure => omega
      case rel => exact ⟨3, by omega, rfl, rfl, HI3.out.set hgl hlt rfl⟩
    have hq3 : q = 3 := by omega
    subst hq3
    clear h0 h1 h2
    have HI2 : Hid (ReqI w wr g ok p16.2 #[.int .u8 p1.1, .int .u32 p2.1, .int .i64 p3.1, .int .u32 p4.1, .int .u32 p5.1, .int .u32 p6.1, .int .u32 p7.1, .int .u32 p8.1, .int .u8 p9.1, .int .u8 p10.1, .int .i64 p11.1, .int .i64 p12.1, .int .i64 p13.1, .int .i64 p14.1, .int .i64 p15.1, .int .i64 p16.1, .slice none 0 0]) := HI
    clear HI
    have hby : 0 ≤ p17.1 ∧ p17.1 < 256 := by rw [HE17.out]; exact rdDig_bound (c := 1) HI2.out.rd.bytes
    go_upto_region 8 with (go_at_call 218; refine (rdU8_calls _ _ _ _ HI2.out.rd hok).mono ?_; rintro e w1 ⟨rfl, hd1, hs1⟩; rw [← HE17.out] at hd1 ⊢; have HI3 := hide (HI2.out.step hgl hd1 hs1))
    clear HI2 hd1 hs1 hKf hKl
    have hwx : whole w1 w.heap.size 17 = true := whole_blk HI3.out.res
    have hlx := blk_lt HI3.out.res
    have hzo : ones #[.int .u8 0, .int .u32 0, .int .i64 0, .int .u32 0, .int .u32 0, .int .u32 0, .int .u32 0, .int .u32 0, .int .u8 0, .int .u8 0, .int .i64 0, .int .i64 0, .int .i64 0, .int .i64 0, .int .i64 0, .int .i64 0, .slice none 0 0] 17 = true := rfl
    cases td : decide (12 < p17.1) with
    | true =>
      have td' := of_decide_eq_true td
      have HE : Hid (R = ((zeroReq, false), p17.2)) := HR.out.trans (by simp [td])
      go_wp2
      refine bodyPost_ret (results_cell_tmp Tryz.results219 _ _ w.heap.size _ _ _ _ rfl (heap_setRow_at HI3.out.res) Tryz.underlying53 rfl (by kernel_rfl)) rfl ?_
      rw [HE.out]
      exact ⟨⟨.slice none 0 0, rfl, RArr.nil _ _ _ _, _, _, _, rfl⟩, ⟨HI3.out.rd.at'.elim fun u hu => ⟨u, (setRow_other _ _ _ _ (by omega)).trans hu.1, RArr.mono hu.2 (fun b hb => setRow_other _ _ _ _ (by have := hlt b hb; omega)) (fun _ h => h)⟩, HI3.out.rd.bytes⟩, fun b h1 h2 => (setRow_other _ _ _ _ (by omega)).trans (HI3.out.same b h1 h2), HI3.out.below.trans (below_setRow' _ _ (by omega))⟩
    | false =>
      have td' := of_decide_eq_false td
      obtain ⟨n, hnn⟩ : ∃ n, n = p17.1.toNat := ⟨_, rfl⟩
      have hpn : p17.1 = (n : Int) := by omega
      have hn12 : n ≤ 12 := by omega
      have HE : Hid (R = ((⟨p1.1, p2.1, p3.1, p4.1, p5.1, p6.1, p7.1, p8.1, p9.1, p10.1, p11.1, p12.1, p13.1, p14.1, p15.1, p16.1, (rdIds n p17.2 []).1⟩, isCmd p1.1), (rdIds n p17.2 []).2)) := HR.out.trans (by simp [td, ← hnn])
      rw [hpn]
      clear hnn hby td td' hpn
      go_upto_region 11 with fail
      obtain ⟨RR, hRR⟩ : ∃ RR, RR = rdIds n p17.2 [] := ⟨_, rfl⟩
      rw [← hRR] at HE
      have HG0 : Hid (RR = rdIds (n - 0) p17.2 []) := hRR
      have HO0 := hide (OwnR.nil w1 (w.heap.size + 2) 48 1 u32Cs)
      clear hwx hlx hRR
      go_loopg [7] n (fun gk i wr => ∃ (q : Nat) (acc : List Int) (rd : Rd) (lv : Value), q ≤ n ∧ gk = n - q ∧ i = .int .i64 q ∧ acc.length ≤ q ∧ Hid (ReqI w wr g ok rd #[.int .u8 p1.1, .int .u32 p2.1, .int .i64 p3.1, .int .u32 p4.1, .int .u32 p5.1, .int .u32 p6.1, .int .u32 p7.1, .int .u32 p8.1, .int .u8 p9.1, .int .u8 p10.1, .int .i64 p11.1, .int .i64 p12.1, .int .i64 p13.1, .int .i64 p14.1, .int .i64 p15.1, .int .i64 p16.1, lv]) ∧ Hid (OwnR wr (w.heap.size + 2) 48 1 u32Cs lv acc) ∧ Hid (RR = rdIds (n - q) rd acc))
      case atStart => exact ⟨0, [], _, _, by omega, by omega, rfl, by simp, HI3, HO0, HG0⟩
      clear HI3 HO0 HG0
      case round =>
        obtain ⟨q, acc, rd, lv, hq, rfl, rfl, hal, HI, HO, HG⟩ := hrel
        obtain ⟨va, vn, vc, hv⟩ := HO.out.form3
        subst hv
        by_cases hqn : q < n
        · have hKc : wr.cell? ⟨w.heap.size + 1, 16, none⟩ = some (.slice va vn vc) := by rw [World.cell?, HI.out.box]; rfl
          have hKl := blk_lt HI.out.box
          go_upto_region 13 with fail
          refine wp_region_mixT (wr.heap.size) [] (by kernel_rfl) ?_
          refine mixT_slots [0, 2] (fuel := 6) rfl (by kernel_rfl) (by kernel_rfl) (fun d _ _ _ _ h => by cases d <;> exact h) ?_
          simp only [opersAt, List.getElem?_toArray, List.getElem?_cons_zero, List.getElem?_cons_succ]
          repeat (go_big_quiet_step (fail))
          refine wpQuiet_nil ?_
          refine mixT_two (k := 1) (k' := 3) (by kernel_rfl) rfl rfl ?_ ?_
          · go_wp2
            refine ⟨Or.inl (by kernel_rfl), ?_⟩
            refine mixT_one (k := 3) (by kernel_rfl) rfl ?_
            go_wp2_with (go_at_call 212; refine (rdU32_calls _ _ _ _ (rd_drew HI.out.rd) hok).mono ?_; rintro e w2 ⟨rfl, hd2, hs2⟩)
            refine ⟨Or.inl (by kernel_rfl), ?_⟩
            have hs3 : RdStep wr w2 g := ⟨hs2.size, hs2.same, ⟨hs2.below.1, hs2.below.2, hs2.below.3, hs2.below.4, hs2.below.5⟩⟩
            have HI2 := hide (HI.out.step hgl hd2 hs3)
            have HO2 : Hid (OwnR w2 (w.heap.size + 2) 48 1 u32Cs (.slice va vn vc) acc) := HO.out.mono (fun b hb => hs3.same b (by have := (HO.out.block b hb).1; omega))
            have hKc2 : w2.cell? ⟨w.heap.size + 1, 16, none⟩ = some (.slice va vn vc) := by rw [World.cell?, HI2.out.box]; rfl
            have hKl2 := blk_lt HI2.out.box
            have hz2 := HI2.out.size
            clear hs2 hd2 hs3 hKc hKl
            refine mixT_one (k := 4) (by kernel_rfl) rfl ?_
            go_wp2
            refine ⟨Or.inl (by kernel_rfl), ?_⟩
            refine mixT_one (k := 5) (by kernel_rfl) rfl ?_
            go_wp2_with (at_builtin; refine wpList_app1 (α := Int) rfl _ _ 29 rfl (w.heap.size + 2) 48 u32Cs Tryz.underlying29 Tryz.info48 rfl (by decide) u32Cs_size u32Cs_one _ acc rfl (OwnR.below HO2.out ((Below.refl _ _).alloc (Nat.le_refl _) _) (Nat.le_refl _)) _ rfl (rdDig 4 rd).1 (rng_whole (heap_alloc_at _ _)) (by omega) (by unfold maxLen; omega) (by simp only [World.size_alloc]; omega) ?_; intro v9 w9 hown9 hsame9 hbel9 hat9; obtain ⟨xa, xn, xc, ex⟩ := hown9.form3; subst ex)
            refine ⟨Or.inl (by kernel_rfl), ?_⟩
            have HI9 := hide (HI2.out.grow hgl hlt (((Below.refl _ _).alloc hz2 _).trans hbel9))
            have hK9 : w9.cell? ⟨w.heap.size + 1, 16, none⟩ = some (.slice va vn vc) := by rw [World.cell?, HI9.out.box]; rfl
            have hf9 : w9.frozen? ⟨w.heap.size + 1, 16, none⟩ = false := by rw [World.frozen?, HI9.out.box]; simp
            have hl9 := blk_lt HI9.out.box
            refine mixT_one (k := 6) (by kernel_rfl) rfl ?_
            go_wp2
            refine ⟨Or.inl (by kernel_rfl), ?_⟩
            refine mixT_one (k := 7) (by kernel_rfl) rfl ?_
            go_wp2
            refine ⟨Or.inl (by kernel_rfl), ?_⟩
            refine mixT_nil (by kernel_rfl) ?_
            go_wp2
            go_roundg (n - (q + 1))
            case measure => omega
            case rel => exact ⟨q + 1, acc ++ [(rdDig 4 rd).1], (rdDig 4 rd).2, _, by omega, rfl, by go_num, by simp; omega, HI9.out.set hgl hlt rfl, hown9.mono (fun b hb => Below.heap_setCell _ _ _ _ (by have := (hown9.block b hb).1; show b ≠ w.heap.size + 1; omega)), HG.out.trans (by rw [show n - q = n - (q + 1) + 1 by omega]; rfl)⟩
          · skip
            go_wp2_with (go_at_call 212; refine (rdU32_calls _ _ _ _ (rd_drew HI.out.rd) hok).mono ?_; rintro e w2 ⟨rfl, hd2, hs2⟩)
            refine ⟨Or.inl (by kernel_rfl), ?_⟩
            have hs3 : RdStep wr w2 g := ⟨hs2.size, hs2.same, ⟨hs2.below.1, hs2.below.2, hs2.below.3, hs2.below.4, hs2.below.5⟩⟩
            have HI2 := hide (HI.out.step hgl hd2 hs3)
            have HO2 : Hid (OwnR w2 (w.heap.size + 2) 48 1 u32Cs (.slice va vn vc) acc) := HO.out.mono (fun b hb => hs3.same b (by have := (HO.out.block b hb).1; omega))
            have hKc2 : w2.cell? ⟨w.heap.size + 1, 16, none⟩ = some (.slice va vn vc) := by rw [World.cell?, HI2.out.box]; rfl
            have hKl2 := blk_lt HI2.out.box
            have hz2 := HI2.out.size
            clear hs2 hd2 hs3 hKc hKl
            refine mixT_two (k := 1) (k' := 4) (by kernel_rfl) rfl rfl ?_ ?_
            · go_wp2
              refine ⟨Or.inl (by kernel_rfl), ?_⟩
              refine mixT_one (k := 4) (by kernel_rfl) rfl ?_
              go_wp2
              refine ⟨Or.inl (by kernel_rfl), ?_⟩
              refine mixT_one (k := 5) (by kernel_rfl) rfl ?_
              go_wp2_with (at_builtin; refine wpList_app1 (α := Int) rfl _ _ 29 rfl (w.heap.size + 2) 48 u32Cs Tryz.underlying29 Tryz.info48 rfl (by decide) u32Cs_size u32Cs_one _ acc rfl (OwnR.below HO2.out ((Below.refl _ _).alloc (Nat.le_refl _) _) (Nat.le_refl _)) _ rfl (rdDig 4 rd).1 (rng_whole (heap_alloc_at _ _)) (by omega) (by unfold maxLen; omega) (by simp only [World.size_alloc]; omega) ?_; intro v9 w9 hown9 hsame9 hbel9 hat9; obtain ⟨xa, xn, xc, ex⟩ := hown9.form3; subst ex)
              refine ⟨Or.inl (by kernel_rfl), ?_⟩
              have HI9 := hide (HI2.out.grow hgl hlt (((Below.refl _ _).alloc hz2 _).trans hbel9))
              have hK9 : w9.cell? ⟨w.heap.size + 1, 16, none⟩ = some (.slice va vn vc) := by rw [World.cell?, HI9.out.box]; rfl
              have hf9 : w9.frozen? ⟨w.heap.size + 1, 16, none⟩ = false := by rw [World.frozen?, HI9.out.box]; simp
              have hl9 := blk_lt HI9.out.box
              refine mixT_one (k := 6) (by kernel_rfl) rfl ?_
              go_wp2
              refine ⟨Or.inl (by kernel_rfl), ?_⟩
              refine mixT_one (k := 7) (by kernel_rfl) rfl ?_
              go_wp2
              refine ⟨Or.inl (by kernel_rfl), ?_⟩
              refine mixT_nil (by kernel_rfl) ?_
              go_wp2
              go_roundg (n - (q + 1))
              case measure => omega
              case rel => exact ⟨q + 1, acc ++ [(rdDig 4 rd).1], (rdDig 4 rd).2, _, by omega, rfl, by go_num, by simp; omega, HI9.out.set hgl hlt rfl, hown9.mono (fun b hb => Below.heap_setCell _ _ _ _ (by have := (hown9.block b hb).1; show b ≠ w.heap.size + 1; omega)), HG.out.trans (by rw [show n - q = n - (q + 1) + 1 by omega]; rfl)⟩
            · go_wp2
              refine ⟨Or.inl (by kernel_rfl), ?_⟩
              refine mixT_one (k := 1) (by kernel_rfl) rfl ?_
              go_wp2
              refine ⟨Or.inl (by kernel_rfl), ?_⟩
              refine mixT_one (k := 5) (by kernel_rfl) rfl ?_
              go_wp2_with (at_builtin; refine wpList_app1 (α := Int) rfl _ _ 29 rfl (w.heap.size + 2) 48 u32Cs Tryz.underlying29 Tryz.info48 rfl (by decide) u32Cs_size u32Cs_one _ acc rfl (OwnR.below HO2.out ((Below.refl _ _).alloc (Nat.le_refl _) _) (Nat.le_refl _)) _ rfl (rdDig 4 rd).1 (rng_whole (heap_alloc_at _ _)) (by omega) (by unfold maxLen; omega) (by simp only [World.size_alloc]; omega) ?_; intro v9 w9 hown9 hsame9 hbel9 hat9; obtain ⟨xa, xn, xc, ex⟩ := hown9.form3; subst ex)
              refine ⟨Or.inl (by kernel_rfl), ?_⟩
              have HI9 := hide (HI2.out.grow hgl hlt (((Below.refl _ _).alloc hz2 _).trans hbel9))
              have hK9 : w9.cell? ⟨w.heap.size + 1, 16, none⟩ = some (.slice va vn vc) := by rw [World.cell?, HI9.out.box]; rfl
              have hf9 : w9.frozen? ⟨w.heap.size + 1, 16, none⟩ = false := by rw [World.frozen?, HI9.out.box]; simp
              have hl9 := blk_lt HI9.out.box
              refine mixT_one (k := 6) (by kernel_rfl) rfl ?_
              go_wp2
              refine ⟨Or.inl (by kernel_rfl), ?_⟩
              refine mixT_one (k := 7) (by kernel_rfl) rfl ?_
              go_wp2
              refine ⟨Or.inl (by kernel_rfl), ?_⟩
              refine mixT_nil (by kernel_rfl) ?_
              go_wp2
              go_roundg (n - (q + 1))
              case measure => omega
              case rel => exact ⟨q + 1, acc ++ [(rdDig 4 rd).1], (rdDig 4 rd).2, _, by omega, rfl, by go_num, by simp; omega, HI9.out.set hgl hlt rfl, hown9.mono (fun b hb => Below.heap_setCell _ _ _ _ (by have := (hown9.block b hb).1; show b ≠ w.heap.size + 1; omega)), HG.out.trans (by rw [show n - q = n - (q + 1) + 1 by omega]; rfl)⟩
        · have hqn2 : q = n := by omega
          have HF : Hid (RR = (acc, rd)) := HG.out.trans (by rw [show n - q = 0 by omega]; rfl)
          have hwx : whole wr w.heap.size 17 = true := whole_blk HI.out.res
          have hlx := blk_lt HI.out.res
          have hrk : rng wr (w.heap.size + 1) 0 17 = some #[.int .u8 p1.1, .int .u32 p2.1, .int .i64 p3.1, .int .u32 p4.1, .int .u32 p5.1, .int .u32 p6.1, .int .u32 p7.1, .int .u32 p8.1, .int .u8 p9.1, .int .u8 p10.1, .int .i64 p11.1, .int .i64 p12.1, .int .i64 p13.1, .int .i64 p14.1, .int .i64 p15.1, .int .i64 p16.1, .slice va vn vc] := rng_whole HI.out.box
          have hk0 : wr.cell? ⟨w.heap.size + 1, 0, none⟩ = some (.int .u8 p1.1) := by rw [World.cell?, HI.out.box]; rfl
          have hKl := blk_lt HI.out.box
          have hzv : ones #[.int .u8 p1.1, .int .u32 p2.1, .int .i64 p3.1, .int .u32 p4.1, .int .u32 p5.1, .int .u32 p6.1, .int .u32 p7.1, .int .u32 p8.1, .int .u8 p9.1, .int .u8 p10.1, .int .i64 p11.1, .int .i64 p12.1, .int .i64 p13.1, .int .i64 p14.1, .int .i64 p15.1, .int .i64 p16.1, .slice va vn vc] 17 = true := rfl
          go_upto_region 14 with fail
          refine wp_region_mixT (wr.heap.size) [0, 2] (by kernel_rfl) ?_
          refine mixT_slots [1] (fuel := 5) rfl (by kernel_rfl) (by kernel_rfl) (fun d _ _ _ _ h => by cases d <;> exact h) ?_
          simp only [opersAt, List.getElem?_toArray, List.getElem?_cons_zero, List.getElem?_cons_succ]
          repeat (go_big_quiet_step (fail))
          refine wpQuiet_nil ?_
          refine mixT_reads [0, 2] (fuel := 3) rfl (by kernel_rfl) (by decide) (by kernel_rfl) (fun d _ _ _ _ h => by cases d <;> exact h) (ext_drew _ _) ?_
          simp only [opersAt, List.getElem?_toArray, List.getElem?_cons_zero, List.getElem?_cons_succ]
          repeat (go_big_quiet_step (fail))
          refine wpQuiet_nil ?_
          refine mixT_one (k := 3) (by kernel_rfl) rfl ?_
          go_wp2_with (go_at_call 26; refine (isCmd_calls _ _).mono ?_; rintro e w5 ⟨rfl, hw5⟩; have hw6 := hw5.symm; subst hw6)
          refine ⟨Or.inr (by intros; exact ⟨⟨_, (Below.refl _ _).drew⟩, rfl⟩), ?_⟩
          refine mixT_one (k := 4) (by kernel_rfl) rfl ?_
          go_wp2
          refine ⟨Or.inl (by kernel_rfl), ?_⟩
          refine mixT_one (k := 5) (by kernel_rfl) rfl ?_
          go_wp2
          refine ⟨Or.inl (by kernel_rfl), ?_⟩
          refine mixT_nil (by kernel_rfl) ?_
          go_wp2
          refine bodyPost_ret (results_cell_tmp Tryz.results219 _ _ w.heap.size _ _ _ _ rfl (heap_setRow_at HI.out.res) Tryz.underlying53 rfl (by kernel_rfl)) rfl ?_
          rw [HE.out, HF.out]
          exact ⟨⟨.slice va vn vc, rfl, RArr.mono (HO.out.rows u32Cs_size (by decide) (by omega)) (fun b hb => setRow_other _ _ _ _ (by omega)) (fun b hb => by omega), _, _, _, rfl⟩, ⟨HI.out.rd.at'.elim fun u hu => ⟨u, (setRow_other _ _ _ _ (by omega)).trans hu.1, RArr.mono hu.2 (fun b hb => setRow_other _ _ _ _ (by have := hlt b hb; omega)) (fun _ h => h)⟩, HI.out.rd.bytes⟩, fun b h1 h2 => (setRow_other _ _ _ _ (by omega)).trans (HI.out.same b h1 h2), HI.out.below.drew.trans (below_setRow' _ _ (Nat.le_of_lt hgl))⟩
    
    end Go.Proofs.Qxb6500666aGreatDoor
