/- A change, read back. (Made by tools/mk_dec3.py.) -/
import Derived.Test.Qxb6500666aGreatDoorDec2
namespace Go.Proofs.Qxb6500666aGreatDoor
open Go.RowKit

open Classical in
noncomputable def decChg (bs : List Int) : Option Change :=
  let p1 := rdDig 1 ⟨bs, false⟩
  let p2 := rdDig 4 p1.2
  let p3 := rdDig 4 p2.2
  let p4 := rdDig 4 p3.2
  let p5 := rdI64 p4.2
  let p6 := rdDig 4 p5.2
  let p7 := rdDig 4 p6.2
  let p8 := rdDig 4 p7.2
  let p9 := rdDig 4 p8.2
  let p10 := rdDig 4 p9.2
  let p11 := rdDig 1 p10.2
  let p12 := rdI64 p11.2
  let p13 := rdI64 p12.2
  let p14 := rdI64 p13.2
  if ! rdDone p14.2 then none else if ¬ ActOk 73 p1.1 then none else if ¬ RowOk ⟨p2.1, p3.1, p4.1, p5.1, p6.1, p7.1, p8.1, p9.1, p10.1, p11.1, p12.1, p13.1, p14.1⟩ then none else some ⟨p1.1, ⟨p2.1, p3.1, p4.1, p5.1, p6.1, p7.1, p8.1, p9.1, p10.1, p11.1, p12.1, p13.1, p14.1⟩⟩

def zeroChg : Change := ⟨0, ⟨0, 0, 0, 0, 0, 0, 0, 0, 0, 0, 0, 0, 0⟩⟩

theorem chg_sets (w : World) (b : Nat) (t : TypeId) (x0 z1 z2 z3 z4 z5 z6 z7 z8 z9 z10 z11 z12 z13 v1 v2 v3 v4 v5 v6 v7 v8 v9 v10 v11 v12 v13 : Value) (h : w.heap[b]? = some (.cells #[x0, z1, z2, z3, z4, z5, z6, z7, z8, z9, z10, z11, z12, z13] t (0, 0))) :
    (((((((((((((w.setCell ⟨b, 1, none⟩ v1).setCell ⟨b, 2, none⟩ v2).setCell ⟨b, 3, none⟩ v3).setCell ⟨b, 4, none⟩ v4).setCell ⟨b, 5, none⟩ v5).setCell ⟨b, 6, none⟩ v6).setCell ⟨b, 7, none⟩ v7).setCell ⟨b, 8, none⟩ v8).setCell ⟨b, 9, none⟩ v9).setCell ⟨b, 10, none⟩ v10).setCell ⟨b, 11, none⟩ v11).setCell ⟨b, 12, none⟩ v12).setCell ⟨b, 13, none⟩ v13).heap[b]? = some (.cells #[x0, v1, v2, v3, v4, v5, v6, v7, v8, v9, v10, v11, v12, v13] t (0, 0)) ∧ (∀ c, c ≠ b → (((((((((((((w.setCell ⟨b, 1, none⟩ v1).setCell ⟨b, 2, none⟩ v2).setCell ⟨b, 3, none⟩ v3).setCell ⟨b, 4, none⟩ v4).setCell ⟨b, 5, none⟩ v5).setCell ⟨b, 6, none⟩ v6).setCell ⟨b, 7, none⟩ v7).setCell ⟨b, 8, none⟩ v8).setCell ⟨b, 9, none⟩ v9).setCell ⟨b, 10, none⟩ v10).setCell ⟨b, 11, none⟩ v11).setCell ⟨b, 12, none⟩ v12).setCell ⟨b, 13, none⟩ v13).heap[c]? = w.heap[c]?) ∧ (((((((((((((w.setCell ⟨b, 1, none⟩ v1).setCell ⟨b, 2, none⟩ v2).setCell ⟨b, 3, none⟩ v3).setCell ⟨b, 4, none⟩ v4).setCell ⟨b, 5, none⟩ v5).setCell ⟨b, 6, none⟩ v6).setCell ⟨b, 7, none⟩ v7).setCell ⟨b, 8, none⟩ v8).setCell ⟨b, 9, none⟩ v9).setCell ⟨b, 10, none⟩ v10).setCell ⟨b, 11, none⟩ v11).setCell ⟨b, 12, none⟩ v12).setCell ⟨b, 13, none⟩ v13).heap.size = w.heap.size ∧ ∀ B, B ≤ b → Below B w (((((((((((((w.setCell ⟨b, 1, none⟩ v1).setCell ⟨b, 2, none⟩ v2).setCell ⟨b, 3, none⟩ v3).setCell ⟨b, 4, none⟩ v4).setCell ⟨b, 5, none⟩ v5).setCell ⟨b, 6, none⟩ v6).setCell ⟨b, 7, none⟩ v7).setCell ⟨b, 8, none⟩ v8).setCell ⟨b, 9, none⟩ v9).setCell ⟨b, 10, none⟩ v10).setCell ⟨b, 11, none⟩ v11).setCell ⟨b, 12, none⟩ v12).setCell ⟨b, 13, none⟩ v13) := by
  have h1 : (w.setCell ⟨b, 1, none⟩ v1).heap[b]? = some (.cells #[x0, v1, z2, z3, z4, z5, z6, z7, z8, z9, z10, z11, z12, z13] t (0, 0)) := heap_set3 (j := 1) (v := v1) h
  have h2 : ((w.setCell ⟨b, 1, none⟩ v1).setCell ⟨b, 2, none⟩ v2).heap[b]? = some (.cells #[x0, v1, v2, z3, z4, z5, z6, z7, z8, z9, z10, z11, z12, z13] t (0, 0)) := heap_set3 (j := 2) (v := v2) h1
  have h3 : (((w.setCell ⟨b, 1, none⟩ v1).setCell ⟨b, 2, none⟩ v2).setCell ⟨b, 3, none⟩ v3).heap[b]? = some (.cells #[x0, v1, v2, v3, z4, z5, z6, z7, z8, z9, z10, z11, z12, z13] t (0, 0)) := heap_set3 (j := 3) (v := v3) h2
  have h4 : ((((w.setCell ⟨b, 1, none⟩ v1).setCell ⟨b, 2, none⟩ v2).setCell ⟨b, 3, none⟩ v3).setCell ⟨b, 4, none⟩ v4).heap[b]? = some (.cells #[x0, v1, v2, v3, v4, z5, z6, z7, z8, z9, z10, z11, z12, z13] t (0, 0)) := heap_set3 (j := 4) (v := v4) h3
  have h5 : (((((w.setCell ⟨b, 1, none⟩ v1).setCell ⟨b, 2, none⟩ v2).setCell ⟨b, 3, none⟩ v3).setCell ⟨b, 4, none⟩ v4).setCell ⟨b, 5, none⟩ v5).heap[b]? = some (.cells #[x0, v1, v2, v3, v4, v5, z6, z7, z8, z9, z10, z11, z12, z13] t (0, 0)) := heap_set3 (j := 5) (v := v5) h4
  have h6 : ((((((w.setCell ⟨b, 1, none⟩ v1).setCell ⟨b, 2, none⟩ v2).setCell ⟨b, 3, none⟩ v3).setCell ⟨b, 4, none⟩ v4).setCell ⟨b, 5, none⟩ v5).setCell ⟨b, 6, none⟩ v6).heap[b]? = some (.cells #[x0, v1, v2, v3, v4, v5, v6, z7, z8, z9, z10, z11, z12, z13] t (0, 0)) := heap_set3 (j := 6) (v := v6) h5
  have h7 : (((((((w.setCell ⟨b, 1, none⟩ v1).setCell ⟨b, 2, none⟩ v2).setCell ⟨b, 3, none⟩ v3).setCell ⟨b, 4, none⟩ v4).setCell ⟨b, 5, none⟩ v5).setCell ⟨b, 6, none⟩ v6).setCell ⟨b, 7, none⟩ v7).heap[b]? = some (.cells #[x0, v1, v2, v3, v4, v5, v6, v7, z8, z9, z10, z11, z12, z13] t (0, 0)) := heap_set3 (j := 7) (v := v7) h6
  have h8 : ((((((((w.setCell ⟨b, 1, none⟩ v1).setCell ⟨b, 2, none⟩ v2).setCell ⟨b, 3, none⟩ v3).setCell ⟨b, 4, none⟩ v4).setCell ⟨b, 5, none⟩ v5).setCell ⟨b, 6, none⟩ v6).setCell ⟨b, 7, none⟩ v7).setCell ⟨b, 8, none⟩ v8).heap[b]? = some (.cells #[x0, v1, v2, v3, v4, v5, v6, v7, v8, z9, z10, z11, z12, z13] t (0, 0)) := heap_set3 (j := 8) (v := v8) h7
  have h9 : (((((((((w.setCell ⟨b, 1, none⟩ v1).setCell ⟨b, 2, none⟩ v2).setCell ⟨b, 3, none⟩ v3).setCell ⟨b, 4, none⟩ v4).setCell ⟨b, 5, none⟩ v5).setCell ⟨b, 6, none⟩ v6).setCell ⟨b, 7, none⟩ v7).setCell ⟨b, 8, none⟩ v8).setCell ⟨b, 9, none⟩ v9).heap[b]? = some (.cells #[x0, v1, v2, v3, v4, v5, v6, v7, v8, v9, z10, z11, z12, z13] t (0, 0)) := heap_set3 (j := 9) (v := v9) h8
  have h10 : ((((((((((w.setCell ⟨b, 1, none⟩ v1).setCell ⟨b, 2, none⟩ v2).setCell ⟨b, 3, none⟩ v3).setCell ⟨b, 4, none⟩ v4).setCell ⟨b, 5, none⟩ v5).setCell ⟨b, 6, none⟩ v6).setCell ⟨b, 7, none⟩ v7).setCell ⟨b, 8, none⟩ v8).setCell ⟨b, 9, none⟩ v9).setCell ⟨b, 10, none⟩ v10).heap[b]? = some (.cells #[x0, v1, v2, v3, v4, v5, v6, v7, v8, v9, v10, z11, z12, z13] t (0, 0)) := heap_set3 (j := 10) (v := v10) h9
  have h11 : (((((((((((w.setCell ⟨b, 1, none⟩ v1).setCell ⟨b, 2, none⟩ v2).setCell ⟨b, 3, none⟩ v3).setCell ⟨b, 4, none⟩ v4).setCell ⟨b, 5, none⟩ v5).setCell ⟨b, 6, none⟩ v6).setCell ⟨b, 7, none⟩ v7).setCell ⟨b, 8, none⟩ v8).setCell ⟨b, 9, none⟩ v9).setCell ⟨b, 10, none⟩ v10).setCell ⟨b, 11, none⟩ v11).heap[b]? = some (.cells #[x0, v1, v2, v3, v4, v5, v6, v7, v8, v9, v10, v11, z12, z13] t (0, 0)) := heap_set3 (j := 11) (v := v11) h10
  have h12 : ((((((((((((w.setCell ⟨b, 1, none⟩ v1).setCell ⟨b, 2, none⟩ v2).setCell ⟨b, 3, none⟩ v3).setCell ⟨b, 4, none⟩ v4).setCell ⟨b, 5, none⟩ v5).setCell ⟨b, 6, none⟩ v6).setCell ⟨b, 7, none⟩ v7).setCell ⟨b, 8, none⟩ v8).setCell ⟨b, 9, none⟩ v9).setCell ⟨b, 10, none⟩ v10).setCell ⟨b, 11, none⟩ v11).setCell ⟨b, 12, none⟩ v12).heap[b]? = some (.cells #[x0, v1, v2, v3, v4, v5, v6, v7, v8, v9, v10, v11, v12, z13] t (0, 0)) := heap_set3 (j := 12) (v := v12) h11
  have h13 : (((((((((((((w.setCell ⟨b, 1, none⟩ v1).setCell ⟨b, 2, none⟩ v2).setCell ⟨b, 3, none⟩ v3).setCell ⟨b, 4, none⟩ v4).setCell ⟨b, 5, none⟩ v5).setCell ⟨b, 6, none⟩ v6).setCell ⟨b, 7, none⟩ v7).setCell ⟨b, 8, none⟩ v8).setCell ⟨b, 9, none⟩ v9).setCell ⟨b, 10, none⟩ v10).setCell ⟨b, 11, none⟩ v11).setCell ⟨b, 12, none⟩ v12).setCell ⟨b, 13, none⟩ v13).heap[b]? = some (.cells #[x0, v1, v2, v3, v4, v5, v6, v7, v8, v9, v10, v11, v12, v13] t (0, 0)) := heap_set3 (j := 13) (v := v13) h12
  refine ⟨h13, fun c hc => ?_, by simp only [World.size_setCell], fun B hB => ?_⟩
  · rw [Below.heap_setCell _ ⟨b, 13, none⟩ _ _ hc, Below.heap_setCell _ ⟨b, 12, none⟩ _ _ hc, Below.heap_setCell _ ⟨b, 11, none⟩ _ _ hc, Below.heap_setCell _ ⟨b, 10, none⟩ _ _ hc, Below.heap_setCell _ ⟨b, 9, none⟩ _ _ hc, Below.heap_setCell _ ⟨b, 8, none⟩ _ _ hc, Below.heap_setCell _ ⟨b, 7, none⟩ _ _ hc, Below.heap_setCell _ ⟨b, 6, none⟩ _ _ hc, Below.heap_setCell _ ⟨b, 5, none⟩ _ _ hc, Below.heap_setCell _ ⟨b, 4, none⟩ _ _ hc, Below.heap_setCell _ ⟨b, 3, none⟩ _ _ hc, Below.heap_setCell _ ⟨b, 2, none⟩ _ _ hc, Below.heap_setCell _ ⟨b, 1, none⟩ _ _ hc]
  · have e0 : Below B w w := Below.refl _ _
    have e1 := e0.setCell (p := ⟨b, 1, none⟩) hB v1
    have e2 := e1.setCell (p := ⟨b, 2, none⟩) hB v2
    have e3 := e2.setCell (p := ⟨b, 3, none⟩) hB v3
    have e4 := e3.setCell (p := ⟨b, 4, none⟩) hB v4
    have e5 := e4.setCell (p := ⟨b, 5, none⟩) hB v5
    have e6 := e5.setCell (p := ⟨b, 6, none⟩) hB v6
    have e7 := e6.setCell (p := ⟨b, 7, none⟩) hB v7
    have e8 := e7.setCell (p := ⟨b, 8, none⟩) hB v8
    have e9 := e8.setCell (p := ⟨b, 9, none⟩) hB v9
    have e10 := e9.setCell (p := ⟨b, 10, none⟩) hB v10
    have e11 := e10.setCell (p := ⟨b, 11, none⟩) hB v11
    have e12 := e11.setCell (p := ⟨b, 12, none⟩) hB v12
    have e13 := e12.setCell (p := ⟨b, 13, none⟩) hB v13
    exact e13

theorem chg_cells {w : World} {b : Nat} {x0 x1 x2 x3 x4 x5 x6 x7 x8 x9 x10 x11 x12 x13 : Value} {t : TypeId} (h : w.heap[b]? = some (.cells #[x0, x1, x2, x3, x4, x5, x6, x7, x8, x9, x10, x11, x12, x13] t (0, 0))) : (∀ j, w.frozen? ⟨b, j, none⟩ = false) ∧ (w.cell? ⟨b, 0, none⟩ = some x0 ∧ w.cell? ⟨b, 1, none⟩ = some x1 ∧ w.cell? ⟨b, 2, none⟩ = some x2 ∧ w.cell? ⟨b, 3, none⟩ = some x3 ∧ w.cell? ⟨b, 4, none⟩ = some x4 ∧ w.cell? ⟨b, 5, none⟩ = some x5 ∧ w.cell? ⟨b, 6, none⟩ = some x6 ∧ w.cell? ⟨b, 7, none⟩ = some x7 ∧ w.cell? ⟨b, 8, none⟩ = some x8 ∧ w.cell? ⟨b, 9, none⟩ = some x9 ∧ w.cell? ⟨b, 10, none⟩ = some x10 ∧ w.cell? ⟨b, 11, none⟩ = some x11 ∧ w.cell? ⟨b, 12, none⟩ = some x12 ∧ w.cell? ⟨b, 13, none⟩ = some x13) :=
  ⟨fun j => by rw [World.frozen?, h]; simp, by rw [World.cell?, h]; rfl, by rw [World.cell?, h]; rfl, by rw [World.cell?, h]; rfl, by rw [World.cell?, h]; rfl, by rw [World.cell?, h]; rfl, by rw [World.cell?, h]; rfl, by rw [World.cell?, h]; rfl, by rw [World.cell?, h]; rfl, by rw [World.cell?, h]; rfl, by rw [World.cell?, h]; rfl, by rw [World.cell?, h]; rfl, by rw [World.cell?, h]; rfl, by rw [World.cell?, h]; rfl, by rw [World.cell?, h]; rfl⟩

attribute [local go_sem] ext_const Ext.cell Ext.frozen Ext.rng Ext.whole
attribute [local go_sem ↓] exec_ldRow exec_ldChange exec_stChange
attribute [local go_sem] run_ldRow run_ldChange run_stChange whole_alloc_lt whole_alloc_at whole_drew setRow_alloc_at setRow_alloc_lt rng_alloc_lt rng_alloc_at rng_drew rng_drewN rng_setCell_other whole_setCell_other

set_option maxRecDepth 100000 in
set_option maxHeartbeats 4000000 in
theorem decChg_calls (w : World) (ok : Nat → Prop) (v : Value) (bs : List Int) (hB : BytesAt w ok v bs) (hby : ByteL bs) :
    Calls Tryz.prog 259 #[v] w fun e w' => DecPost w w' e changeCs zeroChg (decChg bs) := by
  obtain ⟨R, hR⟩ : ∃ R, R = decChg bs := ⟨_, rfl⟩
  rw [← hR]
  obtain ⟨p1, E1⟩ : ∃ p, p = rdDig 1 ⟨bs, false⟩ := ⟨_, rfl⟩
  obtain ⟨p2, E2⟩ : ∃ p, p = rdDig 4 p1.2 := ⟨_, rfl⟩
  obtain ⟨p3, E3⟩ : ∃ p, p = rdDig 4 p2.2 := ⟨_, rfl⟩
  obtain ⟨p4, E4⟩ : ∃ p, p = rdDig 4 p3.2 := ⟨_, rfl⟩
  obtain ⟨p5, E5⟩ : ∃ p, p = rdI64 p4.2 := ⟨_, rfl⟩
  obtain ⟨p6, E6⟩ : ∃ p, p = rdDig 4 p5.2 := ⟨_, rfl⟩
  obtain ⟨p7, E7⟩ : ∃ p, p = rdDig 4 p6.2 := ⟨_, rfl⟩
  obtain ⟨p8, E8⟩ : ∃ p, p = rdDig 4 p7.2 := ⟨_, rfl⟩
  obtain ⟨p9, E9⟩ : ∃ p, p = rdDig 4 p8.2 := ⟨_, rfl⟩
  obtain ⟨p10, E10⟩ : ∃ p, p = rdDig 4 p9.2 := ⟨_, rfl⟩
  obtain ⟨p11, E11⟩ : ∃ p, p = rdDig 1 p10.2 := ⟨_, rfl⟩
  obtain ⟨p12, E12⟩ : ∃ p, p = rdI64 p11.2 := ⟨_, rfl⟩
  obtain ⟨p13, E13⟩ : ∃ p, p = rdI64 p12.2 := ⟨_, rfl⟩
  obtain ⟨p14, E14⟩ : ∃ p, p = rdI64 p13.2 := ⟨_, rfl⟩
  have HR : Hid (open Classical in R = if ! rdDone p14.2 then none else if ¬ ActOk 73 p1.1 then none else if ¬ RowOk ⟨p2.1, p3.1, p4.1, p5.1, p6.1, p7.1, p8.1, p9.1, p10.1, p11.1, p12.1, p13.1, p14.1⟩ then none else some ⟨p1.1, ⟨p2.1, p3.1, p4.1, p5.1, p6.1, p7.1, p8.1, p9.1, p10.1, p11.1, p12.1, p13.1, p14.1⟩⟩) := hR.trans (by subst E14 E13 E12 E11 E10 E9 E8 E7 E6 E5 E4 E3 E2 E1; rfl)
  have HE1 := hide E1
  have HE2 := hide E2
  have HE3 := hide E3
  have HE4 := hide E4
  have HE5 := hide E5
  have HE6 := hide E6
  have HE7 := hide E7
  have HE8 := hide E8
  have HE9 := hide E9
  have HE10 := hide E10
  have HE11 := hide E11
  have HE12 := hide E12
  have HE13 := hide E13
  have HE14 := hide E14
  obtain ⟨a, m, c, rfl, -⟩ := Src.of hB
  have HB : Hid (BytesAt w (fun b => ok b ∧ b < w.heap.size) (.slice a m c) bs) := RArr.lt hB
  clear hR hB E1 E2 E3 E4 E5 E6 E7 E8 E9 E10 E11 E12 E13 E14
  go_enter Tryz.func259, Tryz.ntmps259
  go_upto_region 1 with fail
  have hb0 : Below w.heap.size w (w.alloc (.cells #[.int .u8 0, .int .u32 0, .int .u32 0, .int .u32 0, .int .i64 0, .int .u32 0, .int .u32 0, .int .u32 0, .int .u32 0, .int .u32 0, .int .u8 0, .int .i64 0, .int .i64 0, .int .i64 0] 111)) := (Below.refl _ _).alloc (Nat.le_refl _) _
  have hx0 : (w.alloc (.cells #[.int .u8 0, .int .u32 0, .int .u32 0, .int .u32 0, .int .i64 0, .int .u32 0, .int .u32 0, .int .u32 0, .int .u32 0, .int .u32 0, .int .u8 0, .int .i64 0, .int .i64 0, .int .i64 0] 111)).heap[w.heap.size]? = some (.cells #[.int .u8 0, .int .u32 0, .int .u32 0, .int .u32 0, .int .i64 0, .int .u32 0, .int .u32 0, .int .u32 0, .int .u32 0, .int .u32 0, .int .u8 0, .int .i64 0, .int .i64 0, .int .i64 0] 111 (0, 0)) := heap_alloc_at _ _
  have hs0 : (w.alloc (.cells #[.int .u8 0, .int .u32 0, .int .u32 0, .int .u32 0, .int .i64 0, .int .u32 0, .int .u32 0, .int .u32 0, .int .u32 0, .int .u32 0, .int .u8 0, .int .i64 0, .int .i64 0, .int .i64 0] 111)).heap.size = w.heap.size + 1 := by simp
  have HB1 : Hid (BytesAt (w.alloc (.cells #[.int .u8 0, .int .u32 0, .int .u32 0, .int .u32 0, .int .i64 0, .int .u32 0, .int .u32 0, .int .u32 0, .int .u32 0, .int .u32 0, .int .u8 0, .int .i64 0, .int .i64 0, .int .i64 0] 111)) (fun b => ok b ∧ b < w.heap.size) (.slice a m c) bs) := HB.out.mono (fun b hb => hb0.block b hb.2) (fun _ h => h)
  generalize (World.alloc w _) = W at *
  go_upto_region 2 with (go_at_call 211; refine (newRd_calls _ a m c).mono ?_; rintro e w0 ⟨rfl, rfl⟩)
  have hr0 := RdAt.new HB1.out hby
  have hb1 := hb0.alloc hb0.size (.cells #[.slice a m c, .bool false] 407)
  have hx1 := (Below.heap_alloc W (.cells #[.slice a m c, .bool false] 407) w.heap.size (by omega)).trans hx0
  have hs1 : (W.alloc (.cells #[.slice a m c, .bool false] 407)).heap.size = w.heap.size + 2 := by simp [hs0]
  rw [hs0] at hr0
  generalize (World.alloc W _) = V at *
  have hok : ∀ b, (ok b ∧ b < w.heap.size) → b ≠ w.heap.size + 1 := fun b hb => by have := hb.2; omega
  have HV0 := hide hb1
  have HX0 := hide hx1
  have HS0 := hide hs1
  have HD0 := hide hr0
  clear hb0 hx0 hs0 HB HB1 hb1 hx1 hs1 hr0
  have hov1 : ∀ x, ones (changeCs x) 14 = true := fun _ => rfl
  go_upto_region 3 with (go_at_call 218; refine (rdU8_calls _ _ _ _ HD0.out hok).mono ?_; rintro e w1 ⟨rfl, hd1, hs1⟩; rw [← HE1.out] at hd1 ⊢; have HD1 := hide hd1; have HQ1 := hide hs1; have hzz : w1.heap.size = w.heap.size + 2 := hs1.size.trans HS0.out; clear hd1 hs1)
  have hxA := (Below.heap_alloc w1 (.cells #[.int .u8 p1.1, .int .u32 0, .int .u32 0, .int .u32 0, .int .i64 0, .int .u32 0, .int .u32 0, .int .u32 0, .int .u32 0, .int .u32 0, .int .u8 0, .int .i64 0, .int .i64 0, .int .i64 0] 111) w.heap.size (by omega)).trans ((HQ1.out.same w.heap.size (by omega)).trans HX0.out)
  have hcA : (w1.alloc (.cells #[.int .u8 p1.1, .int .u32 0, .int .u32 0, .int .u32 0, .int .i64 0, .int .u32 0, .int .u32 0, .int .u32 0, .int .u32 0, .int .u32 0, .int .u8 0, .int .i64 0, .int .i64 0, .int .i64 0] 111)).heap[w.heap.size + 2]? = some (.cells #[.int .u8 p1.1, .int .u32 0, .int .u32 0, .int .u32 0, .int .i64 0, .int .u32 0, .int .u32 0, .int .u32 0, .int .u32 0, .int .u32 0, .int .u8 0, .int .i64 0, .int .i64 0, .int .i64 0] 111 (0, 0)) := by rw [← hzz]; exact heap_alloc_at _ _
  have hbA := (HV0.out.trans (HQ1.out.below.mono (by omega))).alloc (by omega) (.cells #[.int .u8 p1.1, .int .u32 0, .int .u32 0, .int .u32 0, .int .i64 0, .int .u32 0, .int .u32 0, .int .u32 0, .int .u32 0, .int .u32 0, .int .u8 0, .int .i64 0, .int .i64 0, .int .i64 0] 111)
  have hdA : RdAt (w1.alloc (.cells #[.int .u8 p1.1, .int .u32 0, .int .u32 0, .int .u32 0, .int .i64 0, .int .u32 0, .int .u32 0, .int .u32 0, .int .u32 0, .int .u32 0, .int .u8 0, .int .i64 0, .int .i64 0, .int .i64 0] 111)) (w.heap.size + 1) (fun b => ok b ∧ b < w.heap.size) p1.2 := ⟨HD1.out.at'.elim fun v h => ⟨v, (Below.heap_alloc _ _ _ (by omega)).trans h.1, RArr.below h.2 ((Below.refl _ _).alloc (Nat.le_refl _) _)⟩, HD1.out.bytes⟩
  have hsA : (w1.alloc (.cells #[.int .u8 p1.1, .int .u32 0, .int .u32 0, .int .u32 0, .int .i64 0, .int .u32 0, .int .u32 0, .int .u32 0, .int .u32 0, .int .u32 0, .int .u8 0, .int .i64 0, .int .i64 0, .int .i64 0] 111)).heap.size = w.heap.size + 3 := by simp [hzz]
  generalize (World.alloc w1 _) = VA at *
  clear hzz HQ1 HD1 HX0 HV0 HS0 HD0
  have HD1 := hide hdA
  have HXA := hide hxA
  have HCA := hide hcA
  have HBA := hide hbA
  have HSA := hide hsA
  have HQ1 : Hid (RdStep VA VA (w.heap.size + 1)) := ⟨rfl, fun _ _ => rfl, Below.refl _ _⟩
  clear hdA hxA hcA hbA hsA
  go_upto_region 4 with (first | (go_at_call 213; refine (rdI64_calls _ _ _ _ HD13.out hok).mono ?_; rintro e w14 ⟨rfl, hd14, hs14⟩; rw [← HE14.out] at hd14 ⊢; have HD14 := hide hd14; have HQ14 := hide (HQ13.out.trans hs14); obtain ⟨hfz, hcl⟩ := chg_cells ((HQ14.out.same (w.heap.size + 2) (by omega)).trans HCA.out); clear hd14 hs14) | (go_at_call 213; refine (rdI64_calls _ _ _ _ HD12.out hok).mono ?_; rintro e w13 ⟨rfl, hd13, hs13⟩; rw [← HE13.out] at hd13 ⊢; have HD13 := hide hd13; have HQ13 := hide (HQ12.out.trans hs13); clear hd13 hs13) | (go_at_call 213; refine (rdI64_calls _ _ _ _ HD11.out hok).mono ?_; rintro e w12 ⟨rfl, hd12, hs12⟩; rw [← HE12.out] at hd12 ⊢; have HD12 := hide hd12; have HQ12 := hide (HQ11.out.trans hs12); clear hd12 hs12) | (go_at_call 218; refine (rdU8_calls _ _ _ _ HD10.out hok).mono ?_; rintro e w11 ⟨rfl, hd11, hs11⟩; rw [← HE11.out] at hd11 ⊢; have HD11 := hide hd11; have HQ11 := hide (HQ10.out.trans hs11); clear hd11 hs11) | (go_at_call 212; refine (rdU32_calls _ _ _ _ HD9.out hok).mono ?_; rintro e w10 ⟨rfl, hd10, hs10⟩; rw [← HE10.out] at hd10 ⊢; have HD10 := hide hd10; have HQ10 := hide (HQ9.out.trans hs10); clear hd10 hs10) | (go_at_call 212; refine (rdU32_calls _ _ _ _ HD8.out hok).mono ?_; rintro e w9 ⟨rfl, hd9, hs9⟩; rw [← HE9.out] at hd9 ⊢; have HD9 := hide hd9; have HQ9 := hide (HQ8.out.trans hs9); clear hd9 hs9) | (go_at_call 212; refine (rdU32_calls _ _ _ _ HD7.out hok).mono ?_; rintro e w8 ⟨rfl, hd8, hs8⟩; rw [← HE8.out] at hd8 ⊢; have HD8 := hide hd8; have HQ8 := hide (HQ7.out.trans hs8); clear hd8 hs8) | (go_at_call 212; refine (rdU32_calls _ _ _ _ HD6.out hok).mono ?_; rintro e w7 ⟨rfl, hd7, hs7⟩; rw [← HE7.out] at hd7 ⊢; have HD7 := hide hd7; have HQ7 := hide (HQ6.out.trans hs7); clear hd7 hs7) | (go_at_call 212; refine (rdU32_calls _ _ _ _ HD5.out hok).mono ?_; rintro e w6 ⟨rfl, hd6, hs6⟩; rw [← HE6.out] at hd6 ⊢; have HD6 := hide hd6; have HQ6 := hide (HQ5.out.trans hs6); clear hd6 hs6) | (go_at_call 213; refine (rdI64_calls _ _ _ _ HD4.out hok).mono ?_; rintro e w5 ⟨rfl, hd5, hs5⟩; rw [← HE5.out] at hd5 ⊢; have HD5 := hide hd5; have HQ5 := hide (HQ4.out.trans hs5); clear hd5 hs5) | (go_at_call 212; refine (rdU32_calls _ _ _ _ HD3.out hok).mono ?_; rintro e w4 ⟨rfl, hd4, hs4⟩; rw [← HE4.out] at hd4 ⊢; have HD4 := hide hd4; have HQ4 := hide (HQ3.out.trans hs4); clear hd4 hs4) | (go_at_call 212; refine (rdU32_calls _ _ _ _ HD2.out hok).mono ?_; rintro e w3 ⟨rfl, hd3, hs3⟩; rw [← HE3.out] at hd3 ⊢; have HD3 := hide hd3; have HQ3 := hide (HQ2.out.trans hs3); clear hd3 hs3) | (go_at_call 212; refine (rdU32_calls _ _ _ _ HD1.out hok).mono ?_; rintro e w2 ⟨rfl, hd2, hs2⟩; rw [← HE2.out] at hd2 ⊢; have HD2 := hide hd2; have HQ2 := hide (HQ1.out.trans hs2); clear hd2 hs2))
  obtain ⟨hs1, hs2, hs3, hs4⟩ := chg_sets w14 (w.heap.size + 2) 111 (.int .u8 p1.1) (.int .u32 0) (.int .u32 0) (.int .u32 0) (.int .i64 0) (.int .u32 0) (.int .u32 0) (.int .u32 0) (.int .u32 0) (.int .u32 0) (.int .u8 0) (.int .i64 0) (.int .i64 0) (.int .i64 0) (.int .u32 p2.1) (.int .u32 p3.1) (.int .u32 p4.1) (.int .i64 p5.1) (.int .u32 p6.1) (.int .u32 p7.1) (.int .u32 p8.1) (.int .u32 p9.1) (.int .u32 p10.1) (.int .u8 p11.1) (.int .i64 p12.1) (.int .i64 p13.1) (.int .i64 p14.1) ((HQ14.out.same (w.heap.size + 2) (by omega)).trans HCA.out)
  have HCN := hide hs1
  have HOT := hide hs2
  have HBL := hide (hs4 w.heap.size (by omega))
  clear hs1 hs2 hs3 hs4
  generalize (((((((((((((w14.setCell ⟨w.heap.size + 2, 1, none⟩ (.int .u32 p2.1)).setCell ⟨w.heap.size + 2, 2, none⟩ (.int .u32 p3.1)).setCell ⟨w.heap.size + 2, 3, none⟩ (.int .u32 p4.1)).setCell ⟨w.heap.size + 2, 4, none⟩ (.int .i64 p5.1)).setCell ⟨w.heap.size + 2, 5, none⟩ (.int .u32 p6.1)).setCell ⟨w.heap.size + 2, 6, none⟩ (.int .u32 p7.1)).setCell ⟨w.heap.size + 2, 7, none⟩ (.int .u32 p8.1)).setCell ⟨w.heap.size + 2, 8, none⟩ (.int .u32 p9.1)).setCell ⟨w.heap.size + 2, 9, none⟩ (.int .u32 p10.1)).setCell ⟨w.heap.size + 2, 10, none⟩ (.int .u8 p11.1)).setCell ⟨w.heap.size + 2, 11, none⟩ (.int .i64 p12.1)).setCell ⟨w.heap.size + 2, 12, none⟩ (.int .i64 p13.1)).setCell ⟨w.heap.size + 2, 13, none⟩ (.int .i64 p14.1)) = V9 at *
  clear hfz hcl
  have hxn := (HOT.out w.heap.size (by omega)).trans ((HQ14.out.same w.heap.size (by omega)).trans HXA.out)
  have HBN := hide (HBA.out.trans ((HQ14.out.below.mono (by omega)).trans HBL.out))
  have HDn : Hid (RdAt V9 (w.heap.size + 1) (fun b => ok b ∧ b < w.heap.size) p14.2) := ⟨HD14.out.at'.elim fun v h => ⟨v, (HOT.out _ (by omega)).trans h.1, RArr.mono h.2 (fun b hb => HOT.out b (by have := hb.2; omega)) (fun _ hb => hb)⟩, HD14.out.bytes⟩
  have hlC := blk_lt HCN.out
  have hwC : rng V9 (w.heap.size + 2) 0 14 = some #[.int .u8 p1.1, .int .u32 p2.1, .int .u32 p3.1, .int .u32 p4.1, .int .i64 p5.1, .int .u32 p6.1, .int .u32 p7.1, .int .u32 p8.1, .int .u32 p9.1, .int .u32 p10.1, .int .u8 p11.1, .int .i64 p12.1, .int .i64 p13.1, .int .i64 p14.1] := rng_whole HCN.out
  have hwR : rng V9 (w.heap.size + 2) 1 13 = some (rowCs ⟨p2.1, p3.1, p4.1, p5.1, p6.1, p7.1, p8.1, p9.1, p10.1, p11.1, p12.1, p13.1, p14.1⟩) := by unfold Qxb6500666aGreatDoor.rng; rw [HCN.out]; rfl
  have c0 : V9.cell? ⟨w.heap.size + 2, 0, none⟩ = some (.int .u8 p1.1) := by rw [World.cell?, HCN.out]; rfl
  have hwx : whole V9 w.heap.size 14 = true := whole_blk hxn
  have hlx := blk_lt hxn
  have HXN := hide hxn
  clear hxn HOT HBL HCN HXA HCA HBA HSA
  simp only [changeCs] at hov1
  cases td : rdDone p14.2 with
  | false =>
    have HE : Hid (R = none) := HR.out.trans (by simp [td])
    go_wp2_with (first | (go_at_call 214; refine (rdDone_calls _ _ _ _ HDn.out).mono ?_; rintro e w99 ⟨⟨sx, rfl⟩, rfl⟩; rw [td]))
    refine bodyPost_ret (results_cell_tmp Tryz.results259 _ _ w.heap.size _ _ _ _ rfl (heap_setRow_at HXN.out) Tryz.underlying111 rfl (by kernel_rfl)) rfl ?_
    exact dec_none (f := changeCs) (z := zeroChg) HE ((HBN.out).trans (below_setRow' _ _ (Nat.le_refl _)))
  | true =>
    by_cases ta : ActOk 73 p1.1
    · by_cases tr : RowOk ⟨p2.1, p3.1, p4.1, p5.1, p6.1, p7.1, p8.1, p9.1, p10.1, p11.1, p12.1, p13.1, p14.1⟩
      · skip
        have HE : Hid (R = some ⟨p1.1, ⟨p2.1, p3.1, p4.1, p5.1, p6.1, p7.1, p8.1, p9.1, p10.1, p11.1, p12.1, p13.1, p14.1⟩⟩) := HR.out.trans (by simp [td, ta, tr])
        go_wp2_with (first | (go_at_call 214; refine (rdDone_calls _ _ _ _ HDn.out).mono ?_; rintro e w99 ⟨⟨sx, rfl⟩, rfl⟩; rw [td]) | (go_at_call 110; refine (validAction_calls _ _ _ true ⟨fun _ => ta, fun _ => rfl⟩).mono ?_; rintro e w99 ⟨rfl, rfl⟩) | (go_at_call 111; refine (validRow_calls ⟨p2.1, p3.1, p4.1, p5.1, p6.1, p7.1, p8.1, p9.1, p10.1, p11.1, p12.1, p13.1, p14.1⟩ _ true ⟨fun _ => tr, fun _ => rfl⟩).mono ?_; rintro e wv ⟨rfl, hbv⟩; have hxv := (hbv.block _ hlx).trans HXN.out; have hwv : whole wv w.heap.size 14 = true := whole_blk hxv; have hwcv : rng wv (w.heap.size + 2) 0 14 = some #[.int .u8 p1.1, .int .u32 p2.1, .int .u32 p3.1, .int .u32 p4.1, .int .i64 p5.1, .int .u32 p6.1, .int .u32 p7.1, .int .u32 p8.1, .int .u32 p9.1, .int .u32 p10.1, .int .u8 p11.1, .int .i64 p12.1, .int .i64 p13.1, .int .i64 p14.1] := (rng_of_block (hbv.block _ hlC) _ _).trans hwC; have hlv := blk_lt hxv))
        refine bodyPost_ret (results_cell_tmp Tryz.results259 _ _ w.heap.size _ _ _ _ rfl (heap_setRow_at hxv) Tryz.underlying111 rfl (by kernel_rfl)) rfl ?_
        exact dec_some (f := changeCs) (z := zeroChg) HE ((HBN.out.trans (hbv.mono (by omega))).trans (below_setRow' _ _ (Nat.le_refl _)))
      · skip
        have HE : Hid (R = none) := HR.out.trans (by simp [td, ta, tr])
        go_wp2_with (first | (go_at_call 214; refine (rdDone_calls _ _ _ _ HDn.out).mono ?_; rintro e w99 ⟨⟨sx, rfl⟩, rfl⟩; rw [td]) | (go_at_call 110; refine (validAction_calls _ _ _ true ⟨fun _ => ta, fun _ => rfl⟩).mono ?_; rintro e w99 ⟨rfl, rfl⟩) | (go_at_call 111; refine (validRow_calls ⟨p2.1, p3.1, p4.1, p5.1, p6.1, p7.1, p8.1, p9.1, p10.1, p11.1, p12.1, p13.1, p14.1⟩ _ false ⟨fun h => (by cases h), fun h => absurd h tr⟩).mono ?_; rintro e wv ⟨rfl, hbv⟩; have hxv := (hbv.block _ hlx).trans HXN.out; have hwv : whole wv w.heap.size 14 = true := whole_blk hxv; have hwcv : rng wv (w.heap.size + 2) 0 14 = some #[.int .u8 p1.1, .int .u32 p2.1, .int .u32 p3.1, .int .u32 p4.1, .int .i64 p5.1, .int .u32 p6.1, .int .u32 p7.1, .int .u32 p8.1, .int .u32 p9.1, .int .u32 p10.1, .int .u8 p11.1, .int .i64 p12.1, .int .i64 p13.1, .int .i64 p14.1] := (rng_of_block (hbv.block _ hlC) _ _).trans hwC; have hlv := blk_lt hxv))
        refine bodyPost_ret (results_cell_tmp Tryz.results259 _ _ w.heap.size _ _ _ _ rfl (heap_setRow_at hxv) Tryz.underlying111 rfl (by kernel_rfl)) rfl ?_
        exact dec_none (f := changeCs) (z := zeroChg) HE ((HBN.out.trans (hbv.mono (by omega))).trans (below_setRow' _ _ (Nat.le_refl _)))
    · skip
      have HE : Hid (R = none) := HR.out.trans (by simp [td, ta])
      go_wp2_with (first | (go_at_call 214; refine (rdDone_calls _ _ _ _ HDn.out).mono ?_; rintro e w99 ⟨⟨sx, rfl⟩, rfl⟩; rw [td]) | (go_at_call 110; refine (validAction_calls _ _ _ false ⟨fun h => (by cases h), fun h => absurd h ta⟩).mono ?_; rintro e w99 ⟨rfl, rfl⟩))
      refine bodyPost_ret (results_cell_tmp Tryz.results259 _ _ w.heap.size _ _ _ _ rfl (heap_setRow_at HXN.out) Tryz.underlying111 rfl (by kernel_rfl)) rfl ?_
      exact dec_none (f := changeCs) (z := zeroChg) HE ((HBN.out).trans (below_setRow' _ _ (Nat.le_refl _)))

end Go.Proofs.Qxb6500666aGreatDoor
