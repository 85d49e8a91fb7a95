/- The entry, written. (Made by tools/mk_enc4.py.) -/
import Derived.Test.Qxb6500666aGreatDoorEnc4
namespace Go.Proofs.Qxb6500666aGreatDoor
open Go.RowKit

section
variable (ρ : Operand → Value) (dst : Option Tmp) (x y : Operand) (ty : TypeId) (pos : String) (after : Array Edge) (guard : Option (Nat × Bool))
theorem exec_ldReq : execOp ρ { dst, op := .load 53 x, type := ty, pos, after, guard } = (do pure (.value (← ldS 53 (ρ x)))) := rfl
theorem exec_stReq : execOp ρ { dst, op := .store 53 x y, type := ty, pos, after, guard } = (do stS 53 (ρ x) (ρ y); pure .skip) := rfl
end
theorem Tryz.size53 (w : World) : (sizeOf 53).run Tryz.prog w = .ok 17 w := by kernel_rfl
theorem run_ldReq (w : World) (b off : Nat) : (ldS 53 (.pointer (some ⟨b, off, none⟩))).run Tryz.prog w = match rng w b off 17 with | some cs => .ok (.agg cs) w | none => (Instr.loadAt 53 (.pointer (some ⟨b, off, none⟩))).run Tryz.prog w :=
  run_ldS Tryz.underlying53 Tryz.size53 w b off
theorem run_stReq (w : World) (b : Nat) (cs : Array Value) : (stS 53 (.pointer (some ⟨b, 0, none⟩)) (.agg cs)).run Tryz.prog w = if whole w b 17 = true ∧ ones cs 17 = true then .ok () (w.setRow b cs) else (Instr.storeAt 53 (.pointer (some ⟨b, 0, none⟩)) (.agg cs)).run Tryz.prog w := run_stS Tryz.size53 w b cs

def entB (role issued : Int) (r : Req) : List Int := d256 1 role ++ d256 4 issued ++ reqB r
attribute [local irreducible] reqB
attribute [local go_sem ↓] exec_ldReq
attribute [local go_sem] run_ldReq

set_option maxRecDepth 100000 in
set_option maxHeartbeats 2000000 in
theorem ent_calls (w : World) (ok : Nat → Prop) (seq role issued : Int) (r : Req) (lv : Value) (h1 : U8 role) (h2 : U32 issued) (hr : r.Ok) (hid : U32sAt w ok lv r.list) (hids : ∀ x ∈ r.list, U32 x) (hn : r.list.length ≤ 255) :
    Calls Tryz.prog 178 #[.agg #[.int .u32 seq, .int .u8 role, .int .u32 issued, .int .u8 r.kind, .int .u32 r.user, .int .i64 r.now, .int .u32 r.id, .int .u32 r.ref, .int .u32 r.kit, .int .u32 r.subject, .int .u32 r.visit, .int .u8 r.role, .int .u8 r.cls, .int .i64 r.time, .int .i64 r.till, .int .i64 r.value, .int .i64 r.l0, .int .i64 r.l1, .int .i64 r.l2, lv]] w fun e w' => Enc w w' e (entB role issued r) := by
  have hidl : U32sAt w (fun b => ok b ∧ b < w.heap.size) lv r.list := RArr.lt hid
  have HID := hide hidl
  clear hid hidl
  go_enter Tryz.func178, Tryz.ntmps178
  have hb0 : Below w.heap.size w ((w.alloc (.cells #[.int .u32 seq, .int .u8 role, .int .u32 issued, .int .u8 r.kind, .int .u32 r.user, .int .i64 r.now, .int .u32 r.id, .int .u32 r.ref, .int .u32 r.kit, .int .u32 r.subject, .int .u32 r.visit, .int .u8 r.role, .int .u8 r.cls, .int .i64 r.time, .int .i64 r.till, .int .i64 r.value, .int .i64 r.l0, .int .i64 r.l1, .int .i64 r.l2, lv] 67)).alloc (.cells #[.slice none 0 0] 373)) := ((Below.refl _ _).alloc (Nat.le_refl _) _).alloc (by simp) _
  have hW0 := writer_new (w.alloc (.cells #[.int .u32 seq, .int .u8 role, .int .u32 issued, .int .u8 r.kind, .int .u32 r.user, .int .i64 r.now, .int .u32 r.id, .int .u32 r.ref, .int .u32 r.kit, .int .u32 r.subject, .int .u32 r.visit, .int .u8 r.role, .int .u8 r.cls, .int .i64 r.time, .int .i64 r.till, .int .i64 r.value, .int .i64 r.l0, .int .i64 r.l1, .int .i64 r.l2, lv] 67)) (w.heap.size + 1) (by simp)
  have hx0 : ((w.alloc (.cells #[.int .u32 seq, .int .u8 role, .int .u32 issued, .int .u8 r.kind, .int .u32 r.user, .int .i64 r.now, .int .u32 r.id, .int .u32 r.ref, .int .u32 r.kit, .int .u32 r.subject, .int .u32 r.visit, .int .u8 r.role, .int .u8 r.cls, .int .i64 r.time, .int .i64 r.till, .int .i64 r.value, .int .i64 r.l0, .int .i64 r.l1, .int .i64 r.l2, lv] 67)).alloc (.cells #[.slice none 0 0] 373)).heap[w.heap.size]? = some (.cells #[.int .u32 seq, .int .u8 role, .int .u32 issued, .int .u8 r.kind, .int .u32 r.user, .int .i64 r.now, .int .u32 r.id, .int .u32 r.ref, .int .u32 r.kit, .int .u32 r.subject, .int .u32 r.visit, .int .u8 r.role, .int .u8 r.cls, .int .i64 r.time, .int .i64 r.till, .int .i64 r.value, .int .i64 r.l0, .int .i64 r.l1, .int .i64 r.l2, lv] 67 (0, 0)) := (Below.heap_alloc _ _ _ (by simp)).trans (heap_alloc_at _ _)
  go_upto_region 2 with fail
  generalize (World.alloc (World.alloc w _) _) = W at *
  have HB0 := hide hb0
  have ck : W.cell? ⟨w.heap.size, 1, none⟩ = some (.int .u8 role) := by rw [World.cell?, hx0]; rfl
  have hlk := blk_lt hx0
  go_upto_region 3 with (go_at_call 215; refine (wU8_calls _ _ _ _ _ role hW0 (by simp) h1.1 h1.2).mono ?_; rintro e w1 ⟨rfl, hV1⟩)
  have HB1 := hide (HB0.out.trans (hV1.below.mono (by omega)))
  have hx1 := (hV1.below.block _ (by omega)).trans hx0
  clear ck hlk hW0 HB0 hx0 hb0
  have ck : w1.cell? ⟨w.heap.size, 2, none⟩ = some (.int .u32 issued) := by rw [World.cell?, hx1]; rfl
  have hlk := blk_lt hx1
  go_upto_region 4 with (go_at_call 216; refine (wU32_calls _ _ _ _ _ issued hV1.text (by simp [d256_len]) h2.1 h2.2).mono ?_; rintro e w2 ⟨rfl, hV2⟩)
  have HB2 := hide (HB1.out.trans (hV2.below.mono (by omega)))
  have hx2 := (hV2.below.block _ (by omega)).trans hx1
  clear ck hlk HB1 hx1
  have hrg : rng w2 w.heap.size 3 17 = some #[.int .u8 r.kind, .int .u32 r.user, .int .i64 r.now, .int .u32 r.id, .int .u32 r.ref, .int .u32 r.kit, .int .u32 r.subject, .int .u32 r.visit, .int .u8 r.role, .int .u8 r.cls, .int .i64 r.time, .int .i64 r.till, .int .i64 r.value, .int .i64 r.l0, .int .i64 r.l1, .int .i64 r.l2, lv] := by unfold Qxb6500666aGreatDoor.rng; rw [hx2]; rfl
  have hlk := blk_lt hx2
  go_upto_region 5 with (go_at_call 230; refine (writeRequest_calls _ _ _ _ (fun b => ok b ∧ b < w.heap.size) _ r lv hV2.text hr (HID.out.mono (fun b hb => HB2.out.block b hb.2) (fun _ hb => hb)) hids (fun b hb => Or.inl (by have := hb.2; omega)) hn (by simp [d256_len])).mono ?_; rintro e w3 ⟨rfl, hV3⟩)
  have HB3 := hide (HB2.out.trans (hV3.below.mono (by omega)))
  obtain ⟨t, ht⟩ : ∃ t, t = [] ++ d256 1 role ++ d256 4 issued ++ reqB r := ⟨_, rfl⟩
  rw [← ht] at hV3
  have HT := hide ht
  obtain ⟨a, cap, hg, hBg, hown, -⟩ := hV3.text
  clear ht
  go_wp2_with (go_at_call 217; refine (finish_calls _ _ _ hg).mono ?_; rintro e w99 ⟨rfl, rfl⟩)
  go_ret
  refine ⟨_, rfl, ?_, HB3.out⟩
  have hfin : entB role issued r = t := by rw [HT.out, List.nil_append, entB]
  rw [hfin]
  exact hown.lower (by omega)

end Go.Proofs.Qxb6500666aGreatDoor
