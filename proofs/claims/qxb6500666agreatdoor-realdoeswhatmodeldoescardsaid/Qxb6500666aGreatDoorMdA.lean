/- The model's small functions on rows: sameKey, find. -/
import Derived.Test.Qxb6500666aGreatDoorLedF
import Derived.Test.Qxb6500666aGreatDoorModelValid
import Derived.BigQuiet
namespace Go.Proofs.Qxb6500666aGreatDoor
open Go.RowKit
/-- Of one key. -/
def sameK (a b : Row) : Bool := (a.sample == b.sample) && (a.analyte == b.analyte)
/-- The first row of r's key. -/
def mfind (rows : List Row) (r : Row) : Option Row := rows.find? (fun x => sameK x r)
attribute [local go_sem] ext_const Ext.cell Ext.frozen Ext.rng Ext.whole
attribute [local go_sem ↓] exec_ldRow exec_stRow exec_bdRow0
attribute [local go_sem] run_ldRow run_stRow run_bdRow0 rowCs_size rowCs_ones rowCs_all whole_alloc_lt whole_alloc_at whole_drew setRow_alloc_at setRow_alloc_lt setRow_drew rng_alloc_lt rng_alloc_at rng_drew rng_drewN

set_option maxRecDepth 100000 in
theorem sameKey_calls (w : World) (a b : Row) : Calls Tryz.prog 257 #[.agg (rowCs a), .agg (rowCs b)] w fun e w' => e = .returned (.bool (sameK a b)) ∧ Below w.heap.size w w' := by
  have hb := below2 w (.cells (rowCs a) 109) (.cells (rowCs b) 109)
  obtain ⟨R, hR⟩ : ∃ R, R = sameK a b := ⟨_, rfl⟩
  rw [← hR]
  have HR := hide hR
  clear hR
  have hx : ((w.alloc (.cells (rowCs a) 109)).alloc (.cells (rowCs b) 109)).heap[w.heap.size]? = some (.cells (rowCs a) 109 (0, 0)) := (Below.heap_alloc _ _ _ (by simp)).trans (heap_alloc_at _ _)
  have hy : ((w.alloc (.cells (rowCs a) 109)).alloc (.cells (rowCs b) 109)).heap[w.heap.size + 1]? = some (.cells (rowCs b) 109 (0, 0)) := box2 w _ _ _ _
  go_enter Tryz.func257, Tryz.ntmps257
  go_upto_region 1 with fail
  generalize (World.alloc (World.alloc w _) _) = W at *
  have HB := hide hb
  have c0 : W.cell? ⟨w.heap.size, 0, none⟩ = some (.int .u32 a.sample) := cells_all hx 0
  have c1 : W.cell? ⟨w.heap.size, 1, none⟩ = some (.int .u32 a.analyte) := cells_all hx 1
  have d0 : W.cell? ⟨w.heap.size + 1, 0, none⟩ = some (.int .u32 b.sample) := cells_all hy 0
  have d1 : W.cell? ⟨w.heap.size + 1, 1, none⟩ = some (.int .u32 b.analyte) := cells_all hy 1
  have hl := blk_lt hx
  have hl2 := blk_lt hy
  clear hb hx hy
  cases h1 : (a.sample == b.sample) with
  | false =>
    have HE : Hid (R = false) := HR.out.trans (by rw [sameK, h1]; rfl)
    go_wp2
    go_ret
    exact ⟨ret_boolH HE, HB.out⟩
  | true =>
    cases h2 : (a.analyte == b.analyte) with
    | false =>
      have HE : Hid (R = false) := HR.out.trans (by rw [sameK, h1, h2]; rfl)
      go_wp2
      go_ret
      exact ⟨ret_boolH HE, HB.out⟩
    | true =>
      have HE : Hid (R = true) := HR.out.trans (by rw [sameK, h1, h2]; rfl)
      go_wp2
      go_ret
      exact ⟨ret_boolH HE, HB.out⟩

set_option maxRecDepth 100000 in
set_option maxHeartbeats 4000000 in
theorem mfind_calls (w : World) (ok : Nat → Prop) (a : Option Addr) (n cap : Nat) (rows : List Row) (r : Row) (h : RArr w ok 13 rowCs (.slice a n cap) rows) :
    Calls Tryz.prog 235 #[.slice a n cap, .agg (rowCs r)] w fun e w' => e = .returned (.tuple #[.agg (rowCs ((mfind rows r).getD zeroRow)), .bool (mfind rows r).isSome]) ∧ Below w.heap.size w w' := by
  obtain ⟨R, hR⟩ : ∃ R, R = mfind rows r := ⟨_, rfl⟩
  rw [← hR]
  have HR : Hid (R = mfind (rows.drop 0) r) := hR
  obtain ⟨a', cap', b, off, hv, hl, hm, hr, ha, hc⟩ := RArr.lt h
  simp only [Value.slice.injEq] at hv
  obtain ⟨rfl, hn, rfl⟩ := hv
  have Hn : Hid (n = rows.length) := hn
  rw [← hn] at hl hr ha
  have hi := run_indexAt_arr (P := Tryz.prog) (n := n) (cap := cap) Tryz.underlying150 Tryz.size109 (fun h => (ha h).1)
  have HB : Hid (0 < n → b < w.heap.size) := fun h => (ha h).2.2
  have HC := hide hc
  clear ha hc hn hm hl h hR
  go_enter Tryz.func235, Tryz.ntmps235
  go_upto_region 1 with fail
  have hb1 : Below w.heap.size w ((w.alloc (.cells (rowCs r) 109)).alloc (.cells #[.int .u32 0, .int .u32 0, .int .u32 0, .int .i64 0, .int .u32 0, .int .u32 0, .int .u32 0, .int .u32 0, .int .u32 0, .int .u8 0, .int .i64 0, .int .i64 0, .int .i64 0] 109)) := below2 w _ _
  have hk1 : ((w.alloc (.cells (rowCs r) 109)).alloc (.cells #[.int .u32 0, .int .u32 0, .int .u32 0, .int .i64 0, .int .u32 0, .int .u32 0, .int .u32 0, .int .u32 0, .int .u32 0, .int .u8 0, .int .i64 0, .int .i64 0, .int .i64 0] 109)).heap[w.heap.size]? = some (.cells (rowCs r) 109 (0, 0)) := (Below.heap_alloc _ _ _ (by simp)).trans (heap_alloc_at _ _)
  have hk2 : ((w.alloc (.cells (rowCs r) 109)).alloc (.cells #[.int .u32 0, .int .u32 0, .int .u32 0, .int .i64 0, .int .u32 0, .int .u32 0, .int .u32 0, .int .u32 0, .int .u32 0, .int .u8 0, .int .i64 0, .int .i64 0, .int .i64 0] 109)).heap[w.heap.size + 1]? = some (.cells (rowCs zeroRow) 109 (0, 0)) := box2 w _ _ _ _
  generalize (w.alloc (.cells (rowCs r) 109)).alloc (.cells #[.int .u32 0, .int .u32 0, .int .u32 0, .int .i64 0, .int .u32 0, .int .u32 0, .int .u32 0, .int .u32 0, .int .u32 0, .int .u8 0, .int .i64 0, .int .i64 0, .int .i64 0] 109) = W1 at *
  have HB1 := hide hb1
  have HK1 := hide hk1
  have HK2 := hide hk2
  have hz1 := hb1.size
  have z1 := blk_lt hk1
  have z2 := blk_lt hk2
  obtain ⟨G, hG⟩ : ∃ G, w.heap.size = G := ⟨_, rfl⟩
  rw [hG] at HK1 HK2 HB1 hz1 z1 z2 HB ⊢
  have HG := hide hG
  clear hb1 hk1 hk2 hG
  have HB0 := hide (Below.refl W1.heap.size W1)
  go_upto_region 2 with fail
  go_loopg [10] n (fun gk j W => ∃ q : Nat, q ≤ n ∧ gk = n - q ∧ j = .int .i64 q ∧ Hid (Below W1.heap.size W1 W) ∧ Hid (R = mfind (rows.drop q) r))
  case atStart => exact ⟨0, by omega, by omega, rfl, HB0, HR⟩
  clear HB0 HR
  case round =>
    obtain ⟨q, hq, rfl, rfl, HBR, HE⟩ := hrel
    have hsr := HBR.out.size
    have HKR : Hid (wr.heap[G]? = some (.cells (rowCs r) 109 (0, 0))) := (HBR.out.block _ z1).trans HK1.out
    have HKZ : Hid (wr.heap[G + 1]? = some (.cells (rowCs zeroRow) 109 (0, 0))) := (HBR.out.block _ z2).trans HK2.out
    have HWr : Hid (Below G w wr) := HB1.out.trans (HBR.out.mono hz1)
    by_cases hlt : q < n
    · have hqs : q < rows.length := by rw [← Hn.out]; exact hlt
      have hbb := HB.out (by omega)
      have c0 := HC.out q hqs
      rw [← rng_of_block (HWr.out.block _ hbb)] at c0
      have hbw : b < wr.heap.size := by have := HWr.out.size; omega
      have HD : Hid (R = if sameK rows[q] r then some rows[q] else mfind (rows.drop (q + 1)) r) := HE.out.trans (by
        rw [List.drop_eq_getElem_cons hqs, mfind, List.find?_cons]
        cases sameK rows[q] r <;> rfl)
      generalize rows[q] = x at *
      go_upto_region 4 with fail
      have hb2 : Below wr.heap.size wr (wr.alloc (.cells (rowCs x) 109)) := (Below.refl _ _).alloc (Nat.le_refl _) _
      have hkx : (wr.alloc (.cells (rowCs x) 109)).heap[wr.heap.size]? = some (.cells (rowCs x) 109 (0, 0)) := heap_alloc_at _ _
      generalize wr.alloc (.cells (rowCs x) 109) = V at *
      have HV : Hid (Below W1.heap.size W1 V) := HBR.out.trans (hb2.mono hsr)
      have r1 : rng V wr.heap.size 0 13 = some (rowCs x) := rng_whole hkx
      have r2 : rng V G 0 13 = some (rowCs r) := rng_whole ((hb2.block _ (blk_lt HKR.out)).trans HKR.out)
      have HKZ2 := hide ((hb2.block _ (blk_lt HKZ.out)).trans HKZ.out)
      have HKX := hide hkx
      have zx := blk_lt hkx
      have zG : G < V.heap.size := by have := HV.out.size; omega
      clear c0 hbw hb2 hkx HKR HKZ HBR
      generalize wr.heap.size = D at *
      cases ts : sameK x r with
      | true =>
        have HF : Hid (R = some x) := HD.out.trans (by rw [ts]; rfl)
        clear HD HE
        go_wp2_with (go_at_call 257; refine (sameKey_calls _ x r).mono ?_; rw [ts]; rintro e V2 ⟨rfl, hb2⟩; have r3 : rng V2 D 0 13 = some (rowCs x) := (rng_of_block (hb2.block _ zx) _ _).trans r1; have zx2 : D < V2.heap.size := Nat.lt_of_lt_of_le zx hb2.size; have hkz := (hb2.block _ (blk_lt HKZ2.out)).trans HKZ2.out; have hwz : whole V2 (G + 1) 13 = true := (by unfold whole; rw [hkz]; rfl); have HFIN := hide (heap_setRow_at (ds := rowCs x) hkz); have HB2 := hide hb2; clear hb2 hkz)
        refine bodyPost_ret (results_cell_tmp Tryz.results235 _ _ (G + 1) _ _ _ _ rfl HFIN.out Tryz.underlying109 rfl (by kernel_rfl)) rfl ?_
        refine ⟨by rw [HF.out]; rfl, ?_⟩
        rw [HG.out]
        exact HB1.out.trans ((HV.out.trans (HB2.out.mono HV.out.size)).mono hz1) |>.trans ⟨rfl, rfl, rfl, by simp, fun k hk => setRow_other _ _ _ _ (by omega)⟩
      | false =>
        have HF : Hid (R = mfind (rows.drop (q + 1)) r) := HD.out.trans (by rw [ts]; rfl)
        clear HD HE
        go_wp2_with (go_at_call 257; refine (sameKey_calls _ x r).mono ?_; rw [ts]; rintro e V2 ⟨rfl, hb2⟩)
        go_roundg (n - (q + 1))
        case measure => omega
        case rel => exact ⟨q + 1, by omega, rfl, by go_num, HV.out.trans (hb2.mono HV.out.size), HF⟩
    · obtain rfl : q = n := by omega
      have HF : Hid (R = none) := HE.out.trans (by rw [List.drop_of_length_le (by rw [← Hn.out]; omega)]; rfl)
      have hwz : whole wr (G + 1) 13 = true := by unfold whole; rw [HKZ.out]; rfl
      have HFIN := hide (heap_setRow_at (ds := rowCs zeroRow) HKZ.out)
      go_wp2
      refine bodyPost_ret (results_cell_tmp Tryz.results235 _ _ (G + 1) _ _ _ _ rfl HFIN.out Tryz.underlying109 rfl (by kernel_rfl)) rfl ?_
      refine ⟨by rw [HF.out]; rfl, ?_⟩
      rw [HG.out]
      exact HWr.out.trans ⟨rfl, rfl, rfl, by simp, fun k hk => setRow_other _ _ _ _ (by omega)⟩
end Go.Proofs.Qxb6500666aGreatDoor
