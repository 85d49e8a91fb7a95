/- The layers beneath: Limit, Find, walked. -/
import Derived.Test.Qxb6500666aGreatDoorLowFind2
namespace Go.Proofs.Qxb6500666aGreatDoor
open Go.RowKit

theorem below_setRow' {w : World} (g : Nat) (cs : Array Value) {B : Nat} (hB : B ≤ g) : Below B w (w.setRow g cs) := ⟨rfl, rfl, rfl, by simp, fun k hk => setRow_other _ _ _ _ (by omega)⟩

def anaLim (x : Ana) (c : Int) : Int := if c = 1 then x.l0 else if c = 2 then x.l1 else x.l2
/-- Limit. -/
def limV (l : List Ana) (id c : Int) : Value := findV (fun x : Ana => (x.id == id) && (decide (1 ≤ c) && decide (c ≤ 3))) (fun x => .tuple #[.int .i64 (anaLim x c), .bool true]) (.tuple #[.int .i64 0, .bool false]) l

attribute [local go_sem] ext_const Ext.cell Ext.frozen Ext.rng Ext.whole
attribute [local go_sem ↓] exec_ldAna exec_stAna exec_ldKit exec_stKit
attribute [local go_sem] run_ldAna run_stAna run_ldKit run_stKit whole_alloc_lt whole_alloc_at whole_drew setRow_alloc_at setRow_alloc_lt rng_alloc_lt rng_alloc_at rng_drew rng_drewN

set_option maxRecDepth 100000 in
set_option maxHeartbeats 1000000 in
theorem limit_calls (w : World) (ok : Nat → Prop) (v0 v1 v2 v3 : Value) (l : List Ana) (id c : Int) (h : RArr w ok 4 anaCs v0 l) :
    Calls Tryz.prog 98 #[.agg #[v0, v1, v2, v3], .int .u32 id, .int .u8 c] w fun e w' => e = .returned (limV l id c) ∧ Below w.heap.size w w' := by
  obtain ⟨R, hR⟩ : ∃ R : Value, R = limV l id c := ⟨_, rfl⟩
  rw [← hR]
  have HR : Hid (R = limV (l.drop 0) id c) := hR
  clear hR
  obtain ⟨a, cap, b, off, rfl, hl, hm, hr, ha, hc⟩ := h.lt
  obtain ⟨n, hn⟩ : ∃ n, n = l.length := ⟨_, rfl⟩
  have Hn : Hid (n = l.length) := hn
  rw [← hn] at hl hr ha ⊢
  have hi := run_indexAt_arr (P := Tryz.prog) (n := n) (cap := cap) Tryz.underlying27 Tryz.size197 (fun h => (ha h).1)
  have HB : Hid (0 < n → b < w.heap.size) := fun h => (ha h).2.2
  have HC := hide hc
  clear ha hc hn hm h hl
  go_enter Tryz.func98, Tryz.ntmps98
  go_upto_region 2 with fail
  obtain ⟨w1, hw1⟩ : ∃ w1, w1 = w.alloc (.cells #[.slice a n cap, v1, v2, v3] 32) := ⟨_, rfl⟩
  have hb1 : Below w.heap.size w w1 := by rw [hw1]; exact (Below.refl _ _).alloc (Nat.le_refl _) _
  rw [← hw1]
  have HB1 := hide hb1
  clear hw1 hb1
  go_loopg [13] n (fun g x wr => ∃ q : Nat, q ≤ n ∧ g = n - q ∧ x = .int .i64 q ∧ Hid (Below w.heap.size w wr) ∧ Hid (R = limV (l.drop q) id c))
  case atStart => exact ⟨0, by omega, by omega, rfl, HB1, HR⟩
  clear HR
  case round =>
    obtain ⟨q, hq, rfl, rfl, HBR, HRQ⟩ := hrel
    have hsr := HBR.out.size
    by_cases hlt : q < n
    · have h1 : q < l.length := by rw [← Hn.out]; exact hlt
      have hbb := HB.out (by omega)
      have hrg := HC.out q h1
      rw [← rng_of_block (HBR.out.block b hbb)] at hrg
      have hbr : b < wr.heap.size := by omega
      have HS : Hid (R = _) := HRQ.out.trans (findV_drop h1)
      generalize l[q] = x at *
      obtain ⟨xid, xl0, xl1, xl2⟩ := x
      simp only [anaCs] at hrg
      have hov : ones #[.int .u32 xid, .int .i64 xl0, .int .i64 xl1, .int .i64 xl2] 4 = true := rfl
      simp only at HS
      clear HRQ
      cases t0 : (xid == id) with
      | false =>
        have HS2 : Hid (R = limV (l.drop (q + 1)) id c) := HS.out.trans (by simp [t0, limV])
        clear HS
        go_wp2
        go_roundg (n - (q + 1))
        case measure => omega
        case rel => exact ⟨q + 1, by omega, rfl, by go_num, HBR.out.alloc hsr _, HS2⟩
      | true =>
        by_cases hc1 : 1 ≤ c
        · by_cases hc2 : c ≤ 3
          · have HS2 : Hid (R = .tuple #[.int .i64 (anaLim ⟨xid, xl0, xl1, xl2⟩ c), .bool true]) := HS.out.trans (by simp [t0, hc1, hc2])
            clear HS
            obtain rfl | rfl | rfl : c = 1 ∨ c = 2 ∨ c = 3 := by omega
            · go_wp2
              go_ret2
              exact ⟨ret_v HS2, HBR.out.alloc hsr _⟩
            · go_wp2
              go_ret2
              exact ⟨ret_v HS2, HBR.out.alloc hsr _⟩
            · go_wp2
              go_ret2
              exact ⟨ret_v HS2, HBR.out.alloc hsr _⟩
          · have HS2 : Hid (R = limV (l.drop (q + 1)) id c) := HS.out.trans (by simp [hc2, limV])
            clear HS
            go_wp2
            go_roundg (n - (q + 1))
            case measure => omega
            case rel => exact ⟨q + 1, by omega, rfl, by go_num, HBR.out.alloc hsr _, HS2⟩
        · have HS2 : Hid (R = limV (l.drop (q + 1)) id c) := HS.out.trans (by simp [hc1, limV])
          clear HS
          go_wp2
          go_roundg (n - (q + 1))
          case measure => omega
          case rel => exact ⟨q + 1, by omega, rfl, by go_num, HBR.out.alloc hsr _, HS2⟩
    · have HS2 : Hid (R = .tuple #[.int .i64 0, .bool false]) := HRQ.out.trans (findV_end (by rw [← Hn.out]; omega))
      clear HRQ
      go_wp2
      go_ret2
      exact ⟨ret_v HS2, HBR.out⟩

/-- Find. -/
def kitV (l : List Kit) (id : Int) : Value := findV (fun x : Kit => (x.id == id)) (fun x => .tuple #[.agg (kitCs x), .bool true]) (.tuple #[.agg (kitCs ⟨0, 0⟩), .bool false]) l

set_option maxRecDepth 100000 in
set_option maxHeartbeats 1000000 in
theorem kitFind_calls (w : World) (ok : Nat → Prop) (v0 : Value) (l : List Kit) (id : Int) (h : RArr w ok 2 kitCs v0 l) :
    Calls Tryz.prog 97 #[.agg #[v0], .int .u32 id] w fun e w' => e = .returned (kitV l id) ∧ Below w.heap.size w w' := by
  obtain ⟨R, hR⟩ : ∃ R : Value, R = kitV l id := ⟨_, rfl⟩
  rw [← hR]
  have HR : Hid (R = kitV (l.drop 0) id) := hR
  clear hR
  obtain ⟨a, cap, b, off, rfl, hl, hm, hr, ha, hc⟩ := h.lt
  obtain ⟨n, hn⟩ : ∃ n, n = l.length := ⟨_, rfl⟩
  have Hn : Hid (n = l.length) := hn
  rw [← hn] at hl hr ha ⊢
  have hi := run_indexAt_arr (P := Tryz.prog) (n := n) (cap := cap) Tryz.underlying33 Tryz.size202 (fun h => (ha h).1)
  have HB : Hid (0 < n → b < w.heap.size) := fun h => (ha h).2.2
  have HC := hide hc
  clear ha hc hn hm h hl
  go_enter Tryz.func97, Tryz.ntmps97
  go_upto_region 2 with fail
  obtain ⟨w1, hw1⟩ : ∃ w1, w1 = (w.alloc (.cells #[.slice a n cap] 35)).alloc (.cells #[.int .u32 0, .int .u32 0] 202) := ⟨_, rfl⟩
  have hb1 : Below w.heap.size w w1 := by rw [hw1]; exact ((Below.refl _ _).alloc (Nat.le_refl _) _).alloc (by simp) _
  have hk1 : w1.heap[w.heap.size + 1]? = some (.cells #[.int .u32 0, .int .u32 0] 202 (0, 0)) := by
    rw [hw1]
    have := heap_alloc_at (w.alloc (.cells #[.slice a n cap] 35)) (.cells #[.int .u32 0, .int .u32 0] 202)
    simpa using this
  rw [← hw1]
  have HB1 := hide hb1
  have HK1 := hide hk1
  clear hw1 hb1 hk1
  go_loopg [11] n (fun g x wr => ∃ q : Nat, q ≤ n ∧ g = n - q ∧ x = .int .i64 q ∧ Hid (Below w.heap.size w wr) ∧ Hid (wr.heap[w.heap.size + 1]? = some (.cells #[.int .u32 0, .int .u32 0] 202 (0, 0))) ∧ Hid (R = kitV (l.drop q) id))
  case atStart => exact ⟨0, by omega, by omega, rfl, HB1, HK1, HR⟩
  clear HR
  case round =>
    obtain ⟨q, hq, rfl, rfl, HBR, HKR, HRQ⟩ := hrel
    have hsr := HBR.out.size
    have hkl : w.heap.size + 1 < wr.heap.size := by
      apply Classical.byContradiction
      intro hn
      have h0 := HKR.out
      rw [Array.getElem?_eq_none_iff.2 (Nat.le_of_not_lt hn)] at h0
      cases h0
    have hwk : whole wr (w.heap.size + 1) 2 = true := by unfold whole; rw [HKR.out]; rfl
    by_cases hlt : q < n
    · have h1 : q < l.length := by rw [← Hn.out]; exact hlt
      have hbb := HB.out (by omega)
      have hrg := HC.out q h1
      rw [← rng_of_block (HBR.out.block b hbb)] at hrg
      have hbr : b < wr.heap.size := by omega
      have HS : Hid (R = _) := HRQ.out.trans (findV_drop h1)
      generalize l[q] = x at *
      obtain ⟨xid, xsite⟩ := x
      simp only [kitCs] at hrg
      have hov : ones #[.int .u32 xid, .int .u32 xsite] 2 = true := rfl
      simp only at HS
      clear HRQ
      cases t0 : (xid == id) with
      | false =>
        have HS2 : Hid (R = kitV (l.drop (q + 1)) id) := HS.out.trans (by simp [t0, kitV])
        clear HS
        go_wp2
        go_roundg (n - (q + 1))
        case measure => omega
        case rel => exact ⟨q + 1, by omega, rfl, by go_num, HBR.out.alloc hsr _, (Below.heap_alloc _ _ _ hkl).trans HKR.out, HS2⟩
      | true =>
        have HS2 : Hid (R = .tuple #[.agg #[.int .u32 xid, .int .u32 xsite], .bool true]) := HS.out.trans (by simp [t0, kitCs])
        clear HS
        go_wp2
        have hfin : ((wr.setRow (w.heap.size + 1) #[.int .u32 xid, .int .u32 xsite]).alloc (.cells #[.int .u32 xid, .int .u32 xsite] 202)).heap[w.heap.size + 1]? = some (.cells #[.int .u32 xid, .int .u32 xsite] 202 (0, 0)) := (Below.heap_alloc _ _ _ (by simpa using hkl)).trans (heap_setRow_at HKR.out)
        refine bodyPost_ret (results_cell_tmp Tryz.results97 _ _ (w.heap.size + 1) _ _ _ _ rfl hfin Tryz.underlying202 rfl (by kernel_rfl)) rfl ?_
        exact ⟨ret_v HS2, (HBR.out.trans (below_setRow' (w.heap.size + 1) #[.int .u32 xid, .int .u32 xsite] (by omega))).alloc (by simpa using hsr) _⟩
    · have HS2 : Hid (R = .tuple #[.agg #[.int .u32 0, .int .u32 0], .bool false]) := HRQ.out.trans (findV_end (by rw [← Hn.out]; omega))
      clear HRQ
      go_wp2
      have hfin : (wr.setRow (w.heap.size + 1) #[.int .u32 0, .int .u32 0]).heap[w.heap.size + 1]? = some (.cells #[.int .u32 0, .int .u32 0] 202 (0, 0)) := heap_setRow_at HKR.out
      refine bodyPost_ret (results_cell_tmp Tryz.results97 _ _ (w.heap.size + 1) _ _ _ _ rfl hfin Tryz.underlying202 rfl (by kernel_rfl)) rfl ?_
      exact ⟨ret_v HS2, HBR.out.trans (below_setRow' _ _ (by omega))⟩

end Go.Proofs.Qxb6500666aGreatDoor
