/- The change, written. (Made by tools/mk_enc.py.) -/
import Derived.Test.Qxb6500666aGreatDoorEnc
namespace Go.Proofs.Qxb6500666aGreatDoor
open Go.RowKit

attribute [local go_sem ↓] exec_ldRow exec_stRow
attribute [local go_sem] run_ldRow run_stRow whole_alloc_lt whole_alloc_at whole_drew setRow_alloc_at setRow_alloc_lt rng_alloc_lt rng_alloc_at rng_drew rng_drewN

def chgB (c : Change) : List Int := d256 1 c.action ++ d256 4 c.row.sample ++ d256 4 c.row.analyte ++ d256 4 c.row.version ++ i64B c.row.value ++ d256 4 c.row.subject ++ d256 4 c.row.site ++ d256 4 c.row.visit ++ d256 4 c.row.proto ++ d256 4 c.row.kit ++ d256 1 c.row.cls ++ i64B c.row.collected ++ i64B c.row.received ++ i64B c.row.tested
set_option maxRecDepth 100000 in
set_option maxHeartbeats 1000000 in
theorem chg_calls (w : World) (c : Change) (h : c.Ok) :
    Calls Tryz.prog 308 #[.agg #[.int .u8 c.action, .int .u32 c.row.sample, .int .u32 c.row.analyte, .int .u32 c.row.version, .int .i64 c.row.value, .int .u32 c.row.subject, .int .u32 c.row.site, .int .u32 c.row.visit, .int .u32 c.row.proto, .int .u32 c.row.kit, .int .u8 c.row.cls, .int .i64 c.row.collected, .int .i64 c.row.received, .int .i64 c.row.tested]] w fun e w' => Enc w w' e (chgB c) := by
  go_enter Tryz.func308, Tryz.ntmps308
  have hb0 : Below w.heap.size w ((w.alloc (.cells #[.int .u8 c.action, .int .u32 c.row.sample, .int .u32 c.row.analyte, .int .u32 c.row.version, .int .i64 c.row.value, .int .u32 c.row.subject, .int .u32 c.row.site, .int .u32 c.row.visit, .int .u32 c.row.proto, .int .u32 c.row.kit, .int .u8 c.row.cls, .int .i64 c.row.collected, .int .i64 c.row.received, .int .i64 c.row.tested] 111)).alloc (.cells #[.slice none 0 0] 373)) := ((Below.refl _ _).alloc (Nat.le_refl _) _).alloc (by simp) _
  have hW0 := writer_new (w.alloc (.cells #[.int .u8 c.action, .int .u32 c.row.sample, .int .u32 c.row.analyte, .int .u32 c.row.version, .int .i64 c.row.value, .int .u32 c.row.subject, .int .u32 c.row.site, .int .u32 c.row.visit, .int .u32 c.row.proto, .int .u32 c.row.kit, .int .u8 c.row.cls, .int .i64 c.row.collected, .int .i64 c.row.received, .int .i64 c.row.tested] 111)) (w.heap.size + 1) (by simp)
  have hx0 : ((w.alloc (.cells #[.int .u8 c.action, .int .u32 c.row.sample, .int .u32 c.row.analyte, .int .u32 c.row.version, .int .i64 c.row.value, .int .u32 c.row.subject, .int .u32 c.row.site, .int .u32 c.row.visit, .int .u32 c.row.proto, .int .u32 c.row.kit, .int .u8 c.row.cls, .int .i64 c.row.collected, .int .i64 c.row.received, .int .i64 c.row.tested] 111)).alloc (.cells #[.slice none 0 0] 373)).heap[w.heap.size]? = some (.cells #[.int .u8 c.action, .int .u32 c.row.sample, .int .u32 c.row.analyte, .int .u32 c.row.version, .int .i64 c.row.value, .int .u32 c.row.subject, .int .u32 c.row.site, .int .u32 c.row.visit, .int .u32 c.row.proto, .int .u32 c.row.kit, .int .u8 c.row.cls, .int .i64 c.row.collected, .int .i64 c.row.received, .int .i64 c.row.tested] 111 (0, 0)) := (Below.heap_alloc _ _ _ (by simp)).trans (heap_alloc_at _ _)
  go_upto_region 2 with fail
  generalize ((w.alloc (.cells #[.int .u8 c.action, .int .u32 c.row.sample, .int .u32 c.row.analyte, .int .u32 c.row.version, .int .i64 c.row.value, .int .u32 c.row.subject, .int .u32 c.row.site, .int .u32 c.row.visit, .int .u32 c.row.proto, .int .u32 c.row.kit, .int .u8 c.row.cls, .int .i64 c.row.collected, .int .i64 c.row.received, .int .i64 c.row.tested] 111)).alloc (.cells #[.slice none 0 0] 373)) = W at *
  have hrg : rng W w.heap.size 1 13 = some (rowCs c.row) := by unfold Qxb6500666aGreatDoor.rng; rw [hx0]; rfl
  have hlt0 := blk_lt hx0
  have hov := rowCs_ones c.row
  go_upto_region 3 with fail
  have hW0 := hW0.more (.cells (rowCs c.row) 109)
  have hr0 : (W.alloc (.cells (rowCs c.row) 109)).heap[W.heap.size]? = some (.cells (rowCs c.row) 109 (0, 0)) := heap_alloc_at _ _
  have hx0 := (Below.heap_alloc W (.cells (rowCs c.row) 109) w.heap.size hlt0).trans hx0
  have hb0 := hb0.alloc hb0.size (.cells (rowCs c.row) 109)
  clear hrg hlt0 hov
  generalize hG : W.heap.size = G at *
  generalize (World.alloc W _) = W0 at *
  clear hG
  have HB0 := hide hb0
  clear hb0
  have ck : W0.cell? ⟨w.heap.size, 0, none⟩ = some (.int .u8 c.action) := by rw [World.cell?, hx0]; rfl
  have hlk := blk_lt hx0
  go_upto_region 4 with (go_at_call 215; refine (wU8_calls _ _ _ _ _ c.action hW0 (by simp) h.action.1 h.action.2).mono ?_; rintro e w1 ⟨rfl, hV1⟩)
  obtain ⟨t1, ht⟩ : ∃ t, t = [] ++ d256 1 c.action := ⟨_, rfl⟩
  rw [← ht] at hV1
  have hl1 : t1.length ≤ 8 := by rw [ht, List.length_append, d256_len]; simp
  have HT1 := hide ht
  clear ht
  have HB1 := hide (HB0.out.trans (hV1.below.mono (by omega)))
  have hx1 := (hV1.below.block _ (by omega)).trans hx0
  have hr1 := (hV1.same _ (Or.inr rfl)).trans hr0
  have hW1 := hV1
  clear hW0 hV1 HB0 hx0 hr0 ck hlk
  have ck : w1.cell? ⟨G, 0, none⟩ = some (.int .u32 c.row.sample) := by rw [World.cell?, hr1]; rfl
  have hlk := blk_lt hr1
  go_upto_region 5 with (go_at_call 216; refine (wU32_calls _ _ _ _ _ c.row.sample hW1.text (by omega) h.row.sample.1 h.row.sample.2).mono ?_; rintro e w2 ⟨rfl, hV2⟩)
  obtain ⟨t2, ht⟩ : ∃ t, t = t1 ++ d256 4 c.row.sample := ⟨_, rfl⟩
  rw [← ht] at hV2
  have hl2 : t2.length ≤ 16 := by rw [ht, List.length_append, d256_len]; omega
  have HT2 := hide ht
  clear ht
  have HB2 := hide (HB1.out.trans (hV2.below.mono (by omega)))
  have hx2 := (hV2.below.block _ (by omega)).trans hx1
  have hr2 := (hV2.same _ (Or.inr rfl)).trans hr1
  have hW2 := hV2
  clear hW1 hV2 HB1 hx1 hr1 ck hlk
  have ck : w2.cell? ⟨G, 1, none⟩ = some (.int .u32 c.row.analyte) := by rw [World.cell?, hr2]; rfl
  have hlk := blk_lt hr2
  go_upto_region 6 with (go_at_call 216; refine (wU32_calls _ _ _ _ _ c.row.analyte hW2.text (by omega) h.row.analyte.1 h.row.analyte.2).mono ?_; rintro e w3 ⟨rfl, hV3⟩)
  obtain ⟨t3, ht⟩ : ∃ t, t = t2 ++ d256 4 c.row.analyte := ⟨_, rfl⟩
  rw [← ht] at hV3
  have hl3 : t3.length ≤ 24 := by rw [ht, List.length_append, d256_len]; omega
  have HT3 := hide ht
  clear ht
  have HB3 := hide (HB2.out.trans (hV3.below.mono (by omega)))
  have hx3 := (hV3.below.block _ (by omega)).trans hx2
  have hr3 := (hV3.same _ (Or.inr rfl)).trans hr2
  have hW3 := hV3
  clear hW2 hV3 HB2 hx2 hr2 ck hlk
  have ck : w3.cell? ⟨G, 2, none⟩ = some (.int .u32 c.row.version) := by rw [World.cell?, hr3]; rfl
  have hlk := blk_lt hr3
  go_upto_region 7 with (go_at_call 216; refine (wU32_calls _ _ _ _ _ c.row.version hW3.text (by omega) h.row.version.1 h.row.version.2).mono ?_; rintro e w4 ⟨rfl, hV4⟩)
  obtain ⟨t4, ht⟩ : ∃ t, t = t3 ++ d256 4 c.row.version := ⟨_, rfl⟩
  rw [← ht] at hV4
  have hl4 : t4.length ≤ 32 := by rw [ht, List.length_append, d256_len]; omega
  have HT4 := hide ht
  clear ht
  have HB4 := hide (HB3.out.trans (hV4.below.mono (by omega)))
  have hx4 := (hV4.below.block _ (by omega)).trans hx3
  have hr4 := (hV4.same _ (Or.inr rfl)).trans hr3
  have hW4 := hV4
  clear hW3 hV4 HB3 hx3 hr3 ck hlk
  have ck : w4.cell? ⟨G, 3, none⟩ = some (.int .i64 c.row.value) := by rw [World.cell?, hr4]; rfl
  have hlk := blk_lt hr4
  go_upto_region 8 with (go_at_call 231; refine (wI64_calls _ _ _ _ _ c.row.value hW4.text (by omega) h.row.value.1 h.row.value.2).mono ?_; rintro e w5 ⟨rfl, hV5⟩)
  obtain ⟨t5, ht⟩ : ∃ t, t = t4 ++ d256 8 (c.row.value + 9223372036854775808) := ⟨_, rfl⟩
  rw [← ht] at hV5
  have hl5 : t5.length ≤ 40 := by rw [ht, List.length_append, d256_len]; omega
  have HT5 := hide ht
  clear ht
  have HB5 := hide (HB4.out.trans (hV5.below.mono (by omega)))
  have hx5 := (hV5.below.block _ (by omega)).trans hx4
  have hr5 := (hV5.same _ (Or.inr rfl)).trans hr4
  have hW5 := hV5
  clear hW4 hV5 HB4 hx4 hr4 ck hlk
  have ck : w5.cell? ⟨G, 4, none⟩ = some (.int .u32 c.row.subject) := by rw [World.cell?, hr5]; rfl
  have hlk := blk_lt hr5
  go_upto_region 9 with (go_at_call 216; refine (wU32_calls _ _ _ _ _ c.row.subject hW5.text (by omega) h.row.subject.1 h.row.subject.2).mono ?_; rintro e w6 ⟨rfl, hV6⟩)
  obtain ⟨t6, ht⟩ : ∃ t, t = t5 ++ d256 4 c.row.subject := ⟨_, rfl⟩
  rw [← ht] at hV6
  have hl6 : t6.length ≤ 48 := by rw [ht, List.length_append, d256_len]; omega
  have HT6 := hide ht
  clear ht
  have HB6 := hide (HB5.out.trans (hV6.below.mono (by omega)))
  have hx6 := (hV6.below.block _ (by omega)).trans hx5
  have hr6 := (hV6.same _ (Or.inr rfl)).trans hr5
  have hW6 := hV6
  clear hW5 hV6 HB5 hx5 hr5 ck hlk
  have ck : w6.cell? ⟨G, 5, none⟩ = some (.int .u32 c.row.site) := by rw [World.cell?, hr6]; rfl
  have hlk := blk_lt hr6
  go_upto_region 10 with (go_at_call 216; refine (wU32_calls _ _ _ _ _ c.row.site hW6.text (by omega) h.row.site.1 h.row.site.2).mono ?_; rintro e w7 ⟨rfl, hV7⟩)
  obtain ⟨t7, ht⟩ : ∃ t, t = t6 ++ d256 4 c.row.site := ⟨_, rfl⟩
  rw [← ht] at hV7
  have hl7 : t7.length ≤ 56 := by rw [ht, List.length_append, d256_len]; omega
  have HT7 := hide ht
  clear ht
  have HB7 := hide (HB6.out.trans (hV7.below.mono (by omega)))
  have hx7 := (hV7.below.block _ (by omega)).trans hx6
  have hr7 := (hV7.same _ (Or.inr rfl)).trans hr6
  have hW7 := hV7
  clear hW6 hV7 HB6 hx6 hr6 ck hlk
  have ck : w7.cell? ⟨G, 6, none⟩ = some (.int .u32 c.row.visit) := by rw [World.cell?, hr7]; rfl
  have hlk := blk_lt hr7
  go_upto_region 11 with (go_at_call 216; refine (wU32_calls _ _ _ _ _ c.row.visit hW7.text (by omega) h.row.visit.1 h.row.visit.2).mono ?_; rintro e w8 ⟨rfl, hV8⟩)
  obtain ⟨t8, ht⟩ : ∃ t, t = t7 ++ d256 4 c.row.visit := ⟨_, rfl⟩
  rw [← ht] at hV8
  have hl8 : t8.length ≤ 64 := by rw [ht, List.length_append, d256_len]; omega
  have HT8 := hide ht
  clear ht
  have HB8 := hide (HB7.out.trans (hV8.below.mono (by omega)))
  have hx8 := (hV8.below.block _ (by omega)).trans hx7
  have hr8 := (hV8.same _ (Or.inr rfl)).trans hr7
  have hW8 := hV8
  clear hW7 hV8 HB7 hx7 hr7 ck hlk
  have ck : w8.cell? ⟨G, 7, none⟩ = some (.int .u32 c.row.proto) := by rw [World.cell?, hr8]; rfl
  have hlk := blk_lt hr8
  go_upto_region 12 with (go_at_call 216; refine (wU32_calls _ _ _ _ _ c.row.proto hW8.text (by omega) h.row.proto.1 h.row.proto.2).mono ?_; rintro e w9 ⟨rfl, hV9⟩)
  obtain ⟨t9, ht⟩ : ∃ t, t = t8 ++ d256 4 c.row.proto := ⟨_, rfl⟩
  rw [← ht] at hV9
  have hl9 : t9.length ≤ 72 := by rw [ht, List.length_append, d256_len]; omega
  have HT9 := hide ht
  clear ht
  have HB9 := hide (HB8.out.trans (hV9.below.mono (by omega)))
  have hx9 := (hV9.below.block _ (by omega)).trans hx8
  have hr9 := (hV9.same _ (Or.inr rfl)).trans hr8
  have hW9 := hV9
  clear hW8 hV9 HB8 hx8 hr8 ck hlk
  have ck : w9.cell? ⟨G, 8, none⟩ = some (.int .u32 c.row.kit) := by rw [World.cell?, hr9]; rfl
  have hlk := blk_lt hr9
  go_upto_region 13 with (go_at_call 216; refine (wU32_calls _ _ _ _ _ c.row.kit hW9.text (by omega) h.row.kit.1 h.row.kit.2).mono ?_; rintro e w10 ⟨rfl, hV10⟩)
  obtain ⟨t10, ht⟩ : ∃ t, t = t9 ++ d256 4 c.row.kit := ⟨_, rfl⟩
  rw [← ht] at hV10
  have hl10 : t10.length ≤ 80 := by rw [ht, List.length_append, d256_len]; omega
  have HT10 := hide ht
  clear ht
  have HB10 := hide (HB9.out.trans (hV10.below.mono (by omega)))
  have hx10 := (hV10.below.block _ (by omega)).trans hx9
  have hr10 := (hV10.same _ (Or.inr rfl)).trans hr9
  have hW10 := hV10
  clear hW9 hV10 HB9 hx9 hr9 ck hlk
  have ck : w10.cell? ⟨G, 9, none⟩ = some (.int .u8 c.row.cls) := by rw [World.cell?, hr10]; rfl
  have hlk := blk_lt hr10
  go_upto_region 14 with (go_at_call 215; refine (wU8_calls _ _ _ _ _ c.row.cls hW10.text (by omega) h.row.cls.1 h.row.cls.2).mono ?_; rintro e w11 ⟨rfl, hV11⟩)
  obtain ⟨t11, ht⟩ : ∃ t, t = t10 ++ d256 1 c.row.cls := ⟨_, rfl⟩
  rw [← ht] at hV11
  have hl11 : t11.length ≤ 88 := by rw [ht, List.length_append, d256_len]; omega
  have HT11 := hide ht
  clear ht
  have HB11 := hide (HB10.out.trans (hV11.below.mono (by omega)))
  have hx11 := (hV11.below.block _ (by omega)).trans hx10
  have hr11 := (hV11.same _ (Or.inr rfl)).trans hr10
  have hW11 := hV11
  clear hW10 hV11 HB10 hx10 hr10 ck hlk
  have ck : w11.cell? ⟨G, 10, none⟩ = some (.int .i64 c.row.collected) := by rw [World.cell?, hr11]; rfl
  have hlk := blk_lt hr11
  go_upto_region 15 with (go_at_call 231; refine (wI64_calls _ _ _ _ _ c.row.collected hW11.text (by omega) h.row.collected.1 h.row.collected.2).mono ?_; rintro e w12 ⟨rfl, hV12⟩)
  obtain ⟨t12, ht⟩ : ∃ t, t = t11 ++ d256 8 (c.row.collected + 9223372036854775808) := ⟨_, rfl⟩
  rw [← ht] at hV12
  have hl12 : t12.length ≤ 96 := by rw [ht, List.length_append, d256_len]; omega
  have HT12 := hide ht
  clear ht
  have HB12 := hide (HB11.out.trans (hV12.below.mono (by omega)))
  have hx12 := (hV12.below.block _ (by omega)).trans hx11
  have hr12 := (hV12.same _ (Or.inr rfl)).trans hr11
  have hW12 := hV12
  clear hW11 hV12 HB11 hx11 hr11 ck hlk
  have ck : w12.cell? ⟨G, 11, none⟩ = some (.int .i64 c.row.received) := by rw [World.cell?, hr12]; rfl
  have hlk := blk_lt hr12
  go_upto_region 16 with (go_at_call 231; refine (wI64_calls _ _ _ _ _ c.row.received hW12.text (by omega) h.row.received.1 h.row.received.2).mono ?_; rintro e w13 ⟨rfl, hV13⟩)
  obtain ⟨t13, ht⟩ : ∃ t, t = t12 ++ d256 8 (c.row.received + 9223372036854775808) := ⟨_, rfl⟩
  rw [← ht] at hV13
  have hl13 : t13.length ≤ 104 := by rw [ht, List.length_append, d256_len]; omega
  have HT13 := hide ht
  clear ht
  have HB13 := hide (HB12.out.trans (hV13.below.mono (by omega)))
  have hx13 := (hV13.below.block _ (by omega)).trans hx12
  have hr13 := (hV13.same _ (Or.inr rfl)).trans hr12
  have hW13 := hV13
  clear hW12 hV13 HB12 hx12 hr12 ck hlk
  have ck : w13.cell? ⟨G, 12, none⟩ = some (.int .i64 c.row.tested) := by rw [World.cell?, hr13]; rfl
  have hlk := blk_lt hr13
  go_upto_region 17 with (go_at_call 231; refine (wI64_calls _ _ _ _ _ c.row.tested hW13.text (by omega) h.row.tested.1 h.row.tested.2).mono ?_; rintro e w14 ⟨rfl, hV14⟩)
  obtain ⟨t14, ht⟩ : ∃ t, t = t13 ++ d256 8 (c.row.tested + 9223372036854775808) := ⟨_, rfl⟩
  rw [← ht] at hV14
  have hl14 : t14.length ≤ 112 := by rw [ht, List.length_append, d256_len]; omega
  have HT14 := hide ht
  clear ht
  have HB14 := hide (HB13.out.trans (hV14.below.mono (by omega)))
  have hx14 := (hV14.below.block _ (by omega)).trans hx13
  have hr14 := (hV14.same _ (Or.inr rfl)).trans hr13
  have hW14 := hV14
  clear hW13 hV14 HB13 hx13 hr13 ck hlk
  obtain ⟨a, cap, hg, hBg, hown, -⟩ := hW14.text
  go_wp2_with (go_at_call 217; refine (finish_calls _ _ _ hg).mono ?_; rintro e w99 ⟨rfl, rfl⟩)
  go_ret
  have hfin : t14 = chgB c := by rw [HT14.out, HT13.out, HT12.out, HT11.out, HT10.out, HT9.out, HT8.out, HT7.out, HT6.out, HT5.out, HT4.out, HT3.out, HT2.out, HT1.out]; rfl
  refine ⟨_, rfl, ?_, HB14.out⟩
  rw [← hfin]
  exact hown.lower (by omega)

end Go.Proofs.Qxb6500666aGreatDoor
