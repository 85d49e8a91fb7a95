/- The request and the entry, written. (Made by tools/mk_enc4.py.) -/
import Derived.Test.Qxb6500666aGreatDoorEnc3
import Derived.Test.Qxb6500666aGreatDoorLowPrD
namespace Go.Proofs.Qxb6500666aGreatDoor
open Go.RowKit

def idsT (ids : List Int) : List Int := ids.flatMap (d256 4)
theorem idsT_len (ids : List Int) : (idsT ids).length = 4 * ids.length := by
  induction ids with
  | nil => rfl
  | cons x r ih =>
    have h1 : idsT (x :: r) = d256 4 x ++ idsT r := rfl
    rw [h1, List.length_append, d256_len, ih, List.length_cons]; omega
theorem idsT_append (a b : List Int) : idsT (a ++ b) = idsT a ++ idsT b := by
  induction a with
  | nil => rfl
  | cons x r ih =>
    have h1 : idsT (x :: r ++ b) = d256 4 x ++ idsT (r ++ b) := rfl
    have h2 : idsT (x :: r) = d256 4 x ++ idsT r := rfl
    rw [h1, h2, ih, List.append_assoc]
theorem idsT_take {ids : List Int} {q : Nat} (h : q < ids.length) : idsT (ids.take (q + 1)) = idsT (ids.take q) ++ d256 4 ids[q] := by
  rw [List.take_succ_eq_append_getElem h, idsT_append]
  exact congrArg _ (List.append_nil _)

def reqHeadB (r : Req) : List Int := d256 1 r.kind ++ d256 4 r.user ++ i64B r.now ++ d256 4 r.id ++ d256 4 r.ref ++ d256 4 r.kit ++ d256 4 r.subject ++ d256 4 r.visit ++ d256 1 r.role ++ d256 1 r.cls ++ i64B r.time ++ i64B r.till ++ i64B r.value
def limB (r : Req) : Nat → List Int
  | 0 => []
  | 1 => i64B r.l0
  | 2 => i64B r.l0 ++ i64B r.l1
  | _ => i64B r.l0 ++ i64B r.l1 ++ i64B r.l2
def reqB (r : Req) : List Int := reqHeadB r ++ limB r 3 ++ d256 1 r.list.length ++ idsT r.list

attribute [local go_sem] run_ix0 run_ix1 run_ix2

set_option maxRecDepth 100000 in
set_option maxHeartbeats 2000000 in
theorem writeRequest_calls (w : World) (B g : Nat) (A ok : Nat → Prop) (bs : List Int) (r : Req) (lv : Value) (h : WriterAt w B g A bs) (hr : r.Ok) (hid : U32sAt w ok lv r.list) (hids : ∀ x ∈ r.list, U32 x) (hok : ∀ b, ok b → b < B ∨ A b) (hn : r.list.length ≤ 255) (hl : bs.length ≤ 1000) :
    Calls Tryz.prog 230 #[.pointer (some ⟨g, 0, none⟩), .agg #[.int .u8 r.kind, .int .u32 r.user, .int .i64 r.now, .int .u32 r.id, .int .u32 r.ref, .int .u32 r.kit, .int .u32 r.subject, .int .u32 r.visit, .int .u8 r.role, .int .u8 r.cls, .int .i64 r.time, .int .i64 r.till, .int .i64 r.value, .int .i64 r.l0, .int .i64 r.l1, .int .i64 r.l2, lv]] w fun e w' => e = .returned (.tuple #[]) ∧ WroteW w w' B g A (bs ++ reqB r) := by
  have hokl := hid.lt
  obtain ⟨a, n, cap, rfl, S0⟩ := Src.of hid
  have HS := hide S0
  obtain ⟨hnl, hnc, hnm⟩ := RArr.caps hid
  have Hn := hide hnl
  have HRR := hide hids
  have hn2 : n ≤ 255 := by omega
  have HOPEN := hide (RArr.openAt hid)
  have hBw := h.size
  clear hid S0 hnl hids hokl hn
  go_enter Tryz.func230, Tryz.ntmps230
  go_upto_region 1 with fail
  have hW0 := h.more (.cells #[.int .u8 r.kind, .int .u32 r.user, .int .i64 r.now, .int .u32 r.id, .int .u32 r.ref, .int .u32 r.kit, .int .u32 r.subject, .int .u32 r.visit, .int .u8 r.role, .int .u8 r.cls, .int .i64 r.time, .int .i64 r.till, .int .i64 r.value, .int .i64 r.l0, .int .i64 r.l1, .int .i64 r.l2, .slice a n cap] 53)
  have hx0 : (w.alloc (.cells #[.int .u8 r.kind, .int .u32 r.user, .int .i64 r.now, .int .u32 r.id, .int .u32 r.ref, .int .u32 r.kit, .int .u32 r.subject, .int .u32 r.visit, .int .u8 r.role, .int .u8 r.cls, .int .i64 r.time, .int .i64 r.till, .int .i64 r.value, .int .i64 r.l0, .int .i64 r.l1, .int .i64 r.l2, .slice a n cap] 53)).heap[w.heap.size]? = some (.cells #[.int .u8 r.kind, .int .u32 r.user, .int .i64 r.now, .int .u32 r.id, .int .u32 r.ref, .int .u32 r.kit, .int .u32 r.subject, .int .u32 r.visit, .int .u8 r.role, .int .u8 r.cls, .int .i64 r.time, .int .i64 r.till, .int .i64 r.value, .int .i64 r.l0, .int .i64 r.l1, .int .i64 r.l2, .slice a n cap] 53 (0, 0)) := heap_alloc_at _ _
  have hbx : Below B w (w.alloc (.cells #[.int .u8 r.kind, .int .u32 r.user, .int .i64 r.now, .int .u32 r.id, .int .u32 r.ref, .int .u32 r.kit, .int .u32 r.subject, .int .u32 r.visit, .int .u8 r.role, .int .u8 r.cls, .int .i64 r.time, .int .i64 r.till, .int .i64 r.value, .int .i64 r.l0, .int .i64 r.l1, .int .i64 r.l2, .slice a n cap] 53)) := (Below.refl _ _).alloc (by omega) _
  have hsx : ∀ b, b < w.heap.size → (w.alloc (.cells #[.int .u8 r.kind, .int .u32 r.user, .int .i64 r.now, .int .u32 r.id, .int .u32 r.ref, .int .u32 r.kit, .int .u32 r.subject, .int .u32 r.visit, .int .u8 r.role, .int .u8 r.cls, .int .i64 r.time, .int .i64 r.till, .int .i64 r.value, .int .i64 r.l0, .int .i64 r.l1, .int .i64 r.l2, .slice a n cap] 53)).heap[b]? = w.heap[b]? := fun b hb => Below.heap_alloc _ _ _ hb
  generalize (World.alloc w _) = W at *
  have HBX := hide hbx
  have HSX := hide hsx
  have hV0 : WroteW W W B g (fun b => A b ∨ b = w.heap.size) bs := ⟨hW0, Below.refl _ _, Same.refl _ _⟩
  have HA : Hid (∀ b, A b → b < w.heap.size) := by obtain ⟨-, -, -, -, -, -, -, -, h9⟩ := h; exact h9
  clear hbx hsx hW0 h
  have ck : W.cell? ⟨w.heap.size, 0, none⟩ = some (.int .u8 r.kind) := by rw [World.cell?, hx0]; rfl
  have hlk := blk_lt hx0
  go_upto_region 2 with (go_at_call 215; refine (wU8_calls _ _ _ _ _ r.kind hV0.text (by omega) hr.kind.1 hr.kind.2).mono ?_; rintro e w1 ⟨rfl, hU⟩)
  obtain ⟨t1, ht⟩ : ∃ t, t = bs ++ d256 1 r.kind := ⟨_, rfl⟩
  rw [← ht] at hU
  have hl1 : t1.length ≤ 1008 := by rw [ht, List.length_append, d256_len]; omega
  have HT1 := hide ht
  clear ht
  have hx1 := (hU.same _ (Or.inr rfl)).trans hx0
  have hV1 := hV0.trans hU
  clear ck hlk hx0 hV0 hU
  have ck : w1.cell? ⟨w.heap.size, 1, none⟩ = some (.int .u32 r.user) := by rw [World.cell?, hx1]; rfl
  have hlk := blk_lt hx1
  go_upto_region 3 with (go_at_call 216; refine (wU32_calls _ _ _ _ _ r.user hV1.text (by omega) hr.user.1 hr.user.2).mono ?_; rintro e w2 ⟨rfl, hU⟩)
  obtain ⟨t2, ht⟩ : ∃ t, t = t1 ++ d256 4 r.user := ⟨_, rfl⟩
  rw [← ht] at hU
  have hl2 : t2.length ≤ 1016 := by rw [ht, List.length_append, d256_len]; omega
  have HT2 := hide ht
  clear ht
  have hx2 := (hU.same _ (Or.inr rfl)).trans hx1
  have hV2 := hV1.trans hU
  clear ck hlk hx1 hV1 hU
  have ck : w2.cell? ⟨w.heap.size, 2, none⟩ = some (.int .i64 r.now) := by rw [World.cell?, hx2]; rfl
  have hlk := blk_lt hx2
  go_upto_region 4 with (go_at_call 231; refine (wI64_calls _ _ _ _ _ r.now hV2.text (by omega) hr.now.1 hr.now.2).mono ?_; rintro e w3 ⟨rfl, hU⟩)
  obtain ⟨t3, ht⟩ : ∃ t, t = t2 ++ d256 8 (r.now + 9223372036854775808) := ⟨_, rfl⟩
  rw [← ht] at hU
  have hl3 : t3.length ≤ 1024 := by rw [ht, List.length_append, d256_len]; omega
  have HT3 := hide ht
  clear ht
  have hx3 := (hU.same _ (Or.inr rfl)).trans hx2
  have hV3 := hV2.trans hU
  clear ck hlk hx2 hV2 hU
  have ck : w3.cell? ⟨w.heap.size, 3, none⟩ = some (.int .u32 r.id) := by rw [World.cell?, hx3]; rfl
  have hlk := blk_lt hx3
  go_upto_region 5 with (go_at_call 216; refine (wU32_calls _ _ _ _ _ r.id hV3.text (by omega) hr.id.1 hr.id.2).mono ?_; rintro e w4 ⟨rfl, hU⟩)
  obtain ⟨t4, ht⟩ : ∃ t, t = t3 ++ d256 4 r.id := ⟨_, rfl⟩
  rw [← ht] at hU
  have hl4 : t4.length ≤ 1032 := by rw [ht, List.length_append, d256_len]; omega
  have HT4 := hide ht
  clear ht
  have hx4 := (hU.same _ (Or.inr rfl)).trans hx3
  have hV4 := hV3.trans hU
  clear ck hlk hx3 hV3 hU
  have ck : w4.cell? ⟨w.heap.size, 4, none⟩ = some (.int .u32 r.ref) := by rw [World.cell?, hx4]; rfl
  have hlk := blk_lt hx4
  go_upto_region 6 with (go_at_call 216; refine (wU32_calls _ _ _ _ _ r.ref hV4.text (by omega) hr.ref.1 hr.ref.2).mono ?_; rintro e w5 ⟨rfl, hU⟩)
  obtain ⟨t5, ht⟩ : ∃ t, t = t4 ++ d256 4 r.ref := ⟨_, rfl⟩
  rw [← ht] at hU
  have hl5 : t5.length ≤ 1040 := by rw [ht, List.length_append, d256_len]; omega
  have HT5 := hide ht
  clear ht
  have hx5 := (hU.same _ (Or.inr rfl)).trans hx4
  have hV5 := hV4.trans hU
  clear ck hlk hx4 hV4 hU
  have ck : w5.cell? ⟨w.heap.size, 5, none⟩ = some (.int .u32 r.kit) := by rw [World.cell?, hx5]; rfl
  have hlk := blk_lt hx5
  go_upto_region 7 with (go_at_call 216; refine (wU32_calls _ _ _ _ _ r.kit hV5.text (by omega) hr.kit.1 hr.kit.2).mono ?_; rintro e w6 ⟨rfl, hU⟩)
  obtain ⟨t6, ht⟩ : ∃ t, t = t5 ++ d256 4 r.kit := ⟨_, rfl⟩
  rw [← ht] at hU
  have hl6 : t6.length ≤ 1048 := by rw [ht, List.length_append, d256_len]; omega
  have HT6 := hide ht
  clear ht
  have hx6 := (hU.same _ (Or.inr rfl)).trans hx5
  have hV6 := hV5.trans hU
  clear ck hlk hx5 hV5 hU
  have ck : w6.cell? ⟨w.heap.size, 6, none⟩ = some (.int .u32 r.subject) := by rw [World.cell?, hx6]; rfl
  have hlk := blk_lt hx6
  go_upto_region 8 with (go_at_call 216; refine (wU32_calls _ _ _ _ _ r.subject hV6.text (by omega) hr.subject.1 hr.subject.2).mono ?_; rintro e w7 ⟨rfl, hU⟩)
  obtain ⟨t7, ht⟩ : ∃ t, t = t6 ++ d256 4 r.subject := ⟨_, rfl⟩
  rw [← ht] at hU
  have hl7 : t7.length ≤ 1056 := by rw [ht, List.length_append, d256_len]; omega
  have HT7 := hide ht
  clear ht
  have hx7 := (hU.same _ (Or.inr rfl)).trans hx6
  have hV7 := hV6.trans hU
  clear ck hlk hx6 hV6 hU
  have ck : w7.cell? ⟨w.heap.size, 7, none⟩ = some (.int .u32 r.visit) := by rw [World.cell?, hx7]; rfl
  have hlk := blk_lt hx7
  go_upto_region 9 with (go_at_call 216; refine (wU32_calls _ _ _ _ _ r.visit hV7.text (by omega) hr.visit.1 hr.visit.2).mono ?_; rintro e w8 ⟨rfl, hU⟩)
  obtain ⟨t8, ht⟩ : ∃ t, t = t7 ++ d256 4 r.visit := ⟨_, rfl⟩
  rw [← ht] at hU
  have hl8 : t8.length ≤ 1064 := by rw [ht, List.length_append, d256_len]; omega
  have HT8 := hide ht
  clear ht
  have hx8 := (hU.same _ (Or.inr rfl)).trans hx7
  have hV8 := hV7.trans hU
  clear ck hlk hx7 hV7 hU
  have ck : w8.cell? ⟨w.heap.size, 8, none⟩ = some (.int .u8 r.role) := by rw [World.cell?, hx8]; rfl
  have hlk := blk_lt hx8
  go_upto_region 10 with (go_at_call 215; refine (wU8_calls _ _ _ _ _ r.role hV8.text (by omega) hr.role.1 hr.role.2).mono ?_; rintro e w9 ⟨rfl, hU⟩)
  obtain ⟨t9, ht⟩ : ∃ t, t = t8 ++ d256 1 r.role := ⟨_, rfl⟩
  rw [← ht] at hU
  have hl9 : t9.length ≤ 1072 := by rw [ht, List.length_append, d256_len]; omega
  have HT9 := hide ht
  clear ht
  have hx9 := (hU.same _ (Or.inr rfl)).trans hx8
  have hV9 := hV8.trans hU
  clear ck hlk hx8 hV8 hU
  have ck : w9.cell? ⟨w.heap.size, 9, none⟩ = some (.int .u8 r.cls) := by rw [World.cell?, hx9]; rfl
  have hlk := blk_lt hx9
  go_upto_region 11 with (go_at_call 215; refine (wU8_calls _ _ _ _ _ r.cls hV9.text (by omega) hr.cls.1 hr.cls.2).mono ?_; rintro e w10 ⟨rfl, hU⟩)
  obtain ⟨t10, ht⟩ : ∃ t, t = t9 ++ d256 1 r.cls := ⟨_, rfl⟩
  rw [← ht] at hU
  have hl10 : t10.length ≤ 1080 := by rw [ht, List.length_append, d256_len]; omega
  have HT10 := hide ht
  clear ht
  have hx10 := (hU.same _ (Or.inr rfl)).trans hx9
  have hV10 := hV9.trans hU
  clear ck hlk hx9 hV9 hU
  have ck : w10.cell? ⟨w.heap.size, 10, none⟩ = some (.int .i64 r.time) := by rw [World.cell?, hx10]; rfl
  have hlk := blk_lt hx10
  go_upto_region 12 with (go_at_call 231; refine (wI64_calls _ _ _ _ _ r.time hV10.text (by omega) hr.time.1 hr.time.2).mono ?_; rintro e w11 ⟨rfl, hU⟩)
  obtain ⟨t11, ht⟩ : ∃ t, t = t10 ++ d256 8 (r.time + 9223372036854775808) := ⟨_, rfl⟩
  rw [← ht] at hU
  have hl11 : t11.length ≤ 1088 := by rw [ht, List.length_append, d256_len]; omega
  have HT11 := hide ht
  clear ht
  have hx11 := (hU.same _ (Or.inr rfl)).trans hx10
  have hV11 := hV10.trans hU
  clear ck hlk hx10 hV10 hU
  have ck : w11.cell? ⟨w.heap.size, 11, none⟩ = some (.int .i64 r.till) := by rw [World.cell?, hx11]; rfl
  have hlk := blk_lt hx11
  go_upto_region 13 with (go_at_call 231; refine (wI64_calls _ _ _ _ _ r.till hV11.text (by omega) hr.till.1 hr.till.2).mono ?_; rintro e w12 ⟨rfl, hU⟩)
  obtain ⟨t12, ht⟩ : ∃ t, t = t11 ++ d256 8 (r.till + 9223372036854775808) := ⟨_, rfl⟩
  rw [← ht] at hU
  have hl12 : t12.length ≤ 1096 := by rw [ht, List.length_append, d256_len]; omega
  have HT12 := hide ht
  clear ht
  have hx12 := (hU.same _ (Or.inr rfl)).trans hx11
  have hV12 := hV11.trans hU
  clear ck hlk hx11 hV11 hU
  have ck : w12.cell? ⟨w.heap.size, 12, none⟩ = some (.int .i64 r.value) := by rw [World.cell?, hx12]; rfl
  have hlk := blk_lt hx12
  go_upto_region 14 with (go_at_call 231; refine (wI64_calls _ _ _ _ _ r.value hV12.text (by omega) hr.value.1 hr.value.2).mono ?_; rintro e w13 ⟨rfl, hU⟩)
  obtain ⟨t13, ht⟩ : ∃ t, t = t12 ++ d256 8 (r.value + 9223372036854775808) := ⟨_, rfl⟩
  rw [← ht] at hU
  have hl13 : t13.length ≤ 1104 := by rw [ht, List.length_append, d256_len]; omega
  have HT13 := hide ht
  clear ht
  have hx13 := (hU.same _ (Or.inr rfl)).trans hx12
  have hV13 := hV12.trans hU
  clear ck hlk hx12 hV12 hU
  have HTE : Hid (t13 = bs ++ reqHeadB r) := by show _ = _; rw [HT13.out, HT12.out, HT11.out, HT10.out, HT9.out, HT8.out, HT7.out, HT6.out, HT5.out, HT4.out, HT3.out, HT2.out, HT1.out]; simp [reqHeadB, i64B, List.append_assoc]
  clear HT1 HT2 HT3 HT4 HT5 HT6 HT7 HT8 HT9 HT10 HT11 HT12 HT13
  generalize ht13 : t13 = t at *
  clear ht13
  obtain ⟨q13, q14, q15⟩ : w13.cell? ⟨w.heap.size, 13, none⟩ = some (.int .i64 r.l0) ∧ w13.cell? ⟨w.heap.size, 14, none⟩ = some (.int .i64 r.l1) ∧ w13.cell? ⟨w.heap.size, 15, none⟩ = some (.int .i64 r.l2) := ⟨by rw [World.cell?, hx13]; rfl, by rw [World.cell?, hx13]; rfl, by rw [World.cell?, hx13]; rfl⟩
  have hlk := blk_lt hx13
  go_upto_region 15 with fail
  clear q13 q14 q15 hlk
  go_loopg [62] 3 (fun gk x wr => ∃ q : Nat, q ≤ 3 ∧ gk = 3 - q ∧ x = .int .i64 q ∧ Hid (WroteW W wr B g (fun b => A b ∨ b = w.heap.size) (t ++ limB r q) ∧ wr.heap[w.heap.size]? = some (.cells #[.int .u8 r.kind, .int .u32 r.user, .int .i64 r.now, .int .u32 r.id, .int .u32 r.ref, .int .u32 r.kit, .int .u32 r.subject, .int .u32 r.visit, .int .u8 r.role, .int .u8 r.cls, .int .i64 r.time, .int .i64 r.till, .int .i64 r.value, .int .i64 r.l0, .int .i64 r.l1, .int .i64 r.l2, .slice a n cap] 53 (0, 0))))
  case atStart => exact ⟨0, by omega, by omega, rfl, by rw [show limB r 0 = [] from rfl, List.append_nil]; exact hV13, hx13⟩
  case round =>
    obtain ⟨q, hq, rfl, rfl, HQ⟩ := hrel
    clear hx13 hV13
    by_cases hlt : q < 3
    · have hqq : q = 0 ∨ q = 1 ∨ q = 2 := by omega
      rcases hqq with rfl | rfl | rfl
      · go_wp2_with (go_at_call 231; refine (wI64_calls _ _ _ _ _ r.l0 HQ.out.1.text (by simp only [limB, List.length_append, List.length_nil]; omega) hr.l0.1 hr.l0.2).mono ?_; rintro e w99 ⟨rfl, hU⟩)
        go_roundg (3 - (0 + 1))
        case measure => omega
        case rel => exact ⟨0 + 1, by omega, rfl, by go_num, by rw [show limB r (0 + 1) = limB r 0 ++ d256 8 (r.l0 + 9223372036854775808) from by simp [limB, i64B], ← List.append_assoc]; exact HQ.out.1.trans hU, (hU.same _ (Or.inr rfl)).trans HQ.out.2⟩
      · go_wp2_with (go_at_call 231; refine (wI64_calls _ _ _ _ _ r.l1 HQ.out.1.text (by simp only [limB, List.length_append, i64B_len]; omega) hr.l1.1 hr.l1.2).mono ?_; rintro e w99 ⟨rfl, hU⟩)
        go_roundg (3 - (1 + 1))
        case measure => omega
        case rel => exact ⟨1 + 1, by omega, rfl, by go_num, by rw [show limB r (1 + 1) = limB r 1 ++ d256 8 (r.l1 + 9223372036854775808) from by simp [limB, i64B], ← List.append_assoc]; exact HQ.out.1.trans hU, (hU.same _ (Or.inr rfl)).trans HQ.out.2⟩
      · go_wp2_with (go_at_call 231; refine (wI64_calls _ _ _ _ _ r.l2 HQ.out.1.text (by simp only [limB, List.length_append, i64B_len]; omega) hr.l2.1 hr.l2.2).mono ?_; rintro e w99 ⟨rfl, hU⟩)
        go_roundg (3 - (2 + 1))
        case measure => omega
        case rel => exact ⟨2 + 1, by omega, rfl, by go_num, by rw [show limB r (2 + 1) = limB r 2 ++ d256 8 (r.l2 + 9223372036854775808) from by simp [limB, i64B], ← List.append_assoc]; exact HQ.out.1.trans hU, (hU.same _ (Or.inr rfl)).trans HQ.out.2⟩
    · have hq3 : q = 3 := by omega
      subst hq3
      obtain ⟨hWr, hxr⟩ := HQ.out
      have c16 : wr.cell? ⟨w.heap.size, 16, none⟩ = some (.slice a n cap) := by rw [World.cell?, hxr]; rfl
      have hlk := blk_lt hxr
      have hlen0 : (t ++ limB r 3).length ≤ 2000 := by simp only [limB, List.length_append, i64B_len]; omega
      obtain ⟨u, hu⟩ : ∃ u, u = t ++ limB r 3 := ⟨_, rfl⟩
      rw [← hu] at hWr hlen0
      have HU := hide hu
      have HWR := hide hWr
      have HXR := hide hxr
      clear hu HQ hWr hxr
      go_upto_region 20 with (go_at_call 215; refine (wU8_calls _ _ _ _ _ (n : Int) HWR.out.text (by omega) (by omega) (by omega)).mono ?_; rintro e w50 ⟨rfl, hU⟩)
      have hx50 := (hU.same _ (Or.inr rfl)).trans HXR.out
      have HV50 := hide (HWR.out.trans hU)
      have HX50 := hide hx50
      have d16 : w50.cell? ⟨w.heap.size, 16, none⟩ = some (.slice a n cap) := by rw [World.cell?, hx50]; rfl
      have hlk50 := blk_lt hx50
      clear c16 hlk hx50 hU HWR HXR
      obtain ⟨b, off, hb⟩ : ∃ b off, 0 < n → a = some ⟨b, off, none⟩ ∧ ok b ∧ ∀ i (hi : i < r.list.length), rng w b (off + i * 1) 1 = some (u32Cs r.list[i]) := by
        by_cases h0 : 0 < n
        · obtain ⟨b, off, h1⟩ := HOPEN.out h0
          exact ⟨b, off, fun _ => h1⟩
        · exact ⟨0, 0, fun h1 => absurd h1 h0⟩
      have hi := run_indexAt_arr (P := Tryz.prog) (a := a) (b := b) (off := off) (n := n) (cap := cap) Tryz.underlying29 Tryz.size48 (fun h => (hb h).1)
      have HBO := hide hb
      clear hb
      go_upto_region 21 with fail
      clear d16 hlk50
      go_loopg [78] n (fun gk x wr => ∃ q : Nat, q ≤ n ∧ gk = n - q ∧ x = .int .i64 q ∧ Hid (WroteW W wr B g (fun b => A b ∨ b = w.heap.size) (u ++ d256 1 n ++ idsT (r.list.take q))))
      case atStart => exact ⟨0, by omega, by omega, rfl, by simpa [idsT] using HV50⟩
      case round =>
        obtain ⟨q, hq, rfl, rfl, HQ⟩ := hrel
        by_cases hlt : q < n
        · have h1 : q < r.list.length := by rw [← Hn.out]; exact hlt
          obtain ⟨-, hkb, hcs⟩ := HBO.out (by omega)
          have hrg := hcs q h1
          have hbl := rng_lt hrg
          have c0 := (rng_cell hrg).2 0 (by decide)
          simp only [u32Cs, List.getElem?_toArray, List.getElem?_cons_zero, Nat.add_zero, Nat.mul_one] at c0
          have hb1 : wr.cell? ⟨b, off + q, none⟩ = some (.int .u32 r.list[q]) := by
            rw [← c0]
            rcases hok b hkb with h9 | h9
            · exact (HQ.out.below.cell (p := ⟨b, off + q, none⟩) h9).trans (HBX.out.cell (p := ⟨b, off + q, none⟩) h9)
            · exact (HQ.out.same.cell (Or.inl h9)).trans (by unfold World.cell?; rw [HSX.out b hbl])
          obtain ⟨x1, x2⟩ := HRR.out _ (List.getElem_mem h1)
          have HT := hide (idsT_take h1)
          have hlen : (u ++ d256 1 n ++ idsT (r.list.take q)).length ≤ 70368744177664 := by
            simp only [List.length_append, d256_len, idsT_len, List.length_take]; omega
          generalize r.list[q] = x at *
          clear c0 hrg hcs
          go_wp2_with (go_at_call 216; refine (wU32_calls _ _ _ _ _ x HQ.out.text hlen x1 x2).mono ?_; rintro e w99 ⟨rfl, hU⟩)
          go_roundg (n - (q + 1))
          case measure => omega
          case rel =>
            refine ⟨q + 1, by omega, rfl, by go_num, ?_⟩
            rw [HT.out, ← List.append_assoc]
            exact HQ.out.trans hU
        · have hE : r.list.take q = r.list := List.take_of_length_le (by have := Hn.out; omega)
          rw [hE] at HQ
          go_wp2
          go_end0
          refine ⟨rfl, ?_⟩
          have hfin : u ++ d256 1 n ++ idsT r.list = bs ++ reqB r := by rw [HU.out, HTE.out, Hn.out]; simp [reqB, List.append_assoc]
          obtain ⟨⟨a9, cap9, y1, y2, y3, y4, y5, y6, y7⟩, z2, z3⟩ := HQ.out
          rw [hfin] at y1 y3 y4 y6
          refine ⟨⟨a9, cap9, y1, y2, y3, y4, fun h => y5 (Or.inl h), fun b hb h => y6 b hb (Or.inl h), fun b hb => y7 b (Or.inl hb)⟩, HBX.out.trans z2, fun b hb => (z3 b (Or.inl hb)).trans (HSX.out b (HA.out b hb))⟩
    
end Go.Proofs.Qxb6500666aGreatDoor
