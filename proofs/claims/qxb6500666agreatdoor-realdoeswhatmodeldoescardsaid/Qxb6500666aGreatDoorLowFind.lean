/- The layers beneath: what looks things up, walked. -/
import Derived.Test.Qxb6500666aGreatDoorLow
namespace Go.Proofs.Qxb6500666aGreatDoor
open Go.RowKit

theorem Tryz.size48 (w : World) : (sizeOf 48).run Tryz.prog w = .ok 1 w := by kernel_rfl

theorem ret_v {R V : Value} (h : Hid (R = V)) : Ending.returned V = .returned R := by rw [h.out]

/-- The first that fits. -/
def findV {α : Type} (p : α → Bool) (hit : α → Value) (miss : Value) : List α → Value
  | [] => miss
  | x :: r => if p x then hit x else findV p hit miss r
/-- The place of the first that fits. -/
def findI {α : Type} (p : α → Bool) : Nat → List α → Int
  | _, [] => -1
  | k, x :: r => if p x then k else findI p (k + 1) r
theorem findV_drop {α : Type} {p : α → Bool} {hit : α → Value} {miss : Value} {l : List α} {q : Nat} (h : q < l.length) : findV p hit miss (l.drop q) = if p l[q] then hit l[q] else findV p hit miss (l.drop (q + 1)) := by
  rw [List.drop_eq_getElem_cons h, findV]
theorem findI_drop {α : Type} {p : α → Bool} {l : List α} {q : Nat} (h : q < l.length) : findI p q (l.drop q) = if p l[q] then (q : Int) else findI p (q + 1) (l.drop (q + 1)) := by
  rw [List.drop_eq_getElem_cons h, findI]
theorem findV_end {α : Type} {p : α → Bool} {hit : α → Value} {miss : Value} {l : List α} {q : Nat} (h : l.length ≤ q) : findV p hit miss (l.drop q) = miss := by
  rw [List.drop_of_length_le h]; rfl
theorem findI_end {α : Type} {p : α → Bool} {l : List α} {q : Nat} (h : l.length ≤ q) : findI p q (l.drop q) = -1 := by
  rw [List.drop_of_length_le h]; rfl

attribute [local go_sem] ext_const Ext.cell Ext.frozen Ext.rng Ext.whole
attribute [local go_sem ↓] exec_ldAna exec_stAna exec_ldSbj exec_stSbj exec_ldKit exec_stKit exec_ldSmp exec_stSmp exec_ldRes exec_stRes exec_ldQry exec_stQry
attribute [local go_sem] run_ldAna run_stAna run_ldSbj run_stSbj run_ldKit run_stKit run_ldSmp run_stSmp run_ldRes run_stRes run_ldQry run_stQry whole_alloc_lt whole_alloc_at whole_drew setRow_alloc_at setRow_alloc_lt rng_alloc_lt rng_drew rng_drewN

set_option maxRecDepth 100000 in
set_option maxHeartbeats 1000000 in
theorem hasSite_calls (w : World) (ok : Nat → Prop) (v0 v1 v2 v3 : Value) (l : List Int) (id : Int) (h : RArr w ok 1 u32Cs v2 l) :
    Calls Tryz.prog 192 #[.agg #[v0, v1, v2, v3], .int .u32 id] w fun e w' => e = .returned (findV (fun x : Int => (x == id)) (fun _ => .bool true) (.bool false) l) ∧ Below w.heap.size w w' := by
  obtain ⟨R, hR⟩ : ∃ R : Value, R = findV (fun x : Int => (x == id)) (fun _ => .bool true) (.bool false) l := ⟨_, rfl⟩
  rw [← hR]
  have HR : Hid (R = findV (fun x : Int => (x == id)) (fun _ => .bool true) (.bool false) (l.drop 0)) := hR
  clear hR
  obtain ⟨a, cap, b, off, rfl, hl, hm, hr, ha, hc⟩ := h.lt
  obtain ⟨n, hn⟩ : ∃ n, n = l.length := ⟨_, rfl⟩
  have Hn : Hid (n = l.length) := hn
  rw [← hn] at hl hr ha ⊢
  have hi := run_indexAt_arr (P := Tryz.prog) (n := n) (cap := cap) Tryz.underlying29 Tryz.size48 (fun h => (ha h).1)
  have HB : Hid (0 < n → b < w.heap.size) := fun h => (ha h).2.2
  have HC := hide hc
  clear ha hc hn hm h hl
  go_enter Tryz.func192, Tryz.ntmps192
  go_upto_region 2 with fail
  obtain ⟨w1, hw1⟩ : ∃ w1, w1 = w.alloc (.cells #[v0, v1, .slice a n cap, v3] 32) := ⟨_, rfl⟩
  have hb1 : Below w.heap.size w w1 := by rw [hw1]; exact (Below.refl _ _).alloc (Nat.le_refl _) _
  rw [← hw1]
  have HB1 := hide hb1
  clear hw1 hb1
  go_loopg [10] n (fun g x wr => ∃ q : Nat, q ≤ n ∧ g = n - q ∧ x = .int .i64 q ∧ Hid (Below w.heap.size w wr) ∧ Hid (R = findV (fun x : Int => (x == id)) (fun _ => .bool true) (.bool false) (l.drop q)))
  case atStart => exact ⟨0, by omega, by omega, rfl, HB1, HR⟩
  clear HR
  case round =>
    obtain ⟨q, hq, rfl, rfl, HBR, HRQ⟩ := hrel
    have hsr := HBR.out.size
    by_cases hlt : q < n
    · have h1 : q < l.length := by rw [← Hn.out]; exact hlt
      have hbb := HB.out (by omega)
      have hrg := HC.out q h1
      rw [← rng_of_block (HBR.out.block b hbb)] at hrg
      have hbr : b < wr.heap.size := by omega
      have HS : Hid (R = _) := HRQ.out.trans (findV_drop h1)
      generalize l[q] = x at *
      have e0 := (rng_cell hrg).2 0 (by decide)
      simp only [u32Cs, List.getElem?_toArray, List.getElem?_cons_zero, Nat.add_zero, Nat.mul_one] at e0
      clear HRQ
      cases t0 : (x == id) with
      | false =>
        have HS2 : Hid (R = findV (fun x : Int => (x == id)) (fun _ => .bool true) (.bool false) (l.drop (q + 1))) := HS.out.trans (by simp [t0])
        clear HS
        go_wp2
        go_roundg (n - (q + 1))
        case measure => omega
        case rel => exact ⟨q + 1, by omega, rfl, by go_num, HBR, HS2⟩
      | true =>
        have HS2 : Hid (R = .bool true) := HS.out.trans (by simp [t0])
        clear HS
        go_wp2
        go_ret
        exact ⟨ret_v HS2, HBR.out⟩
    · have HS2 : Hid (R = .bool false) := HRQ.out.trans (findV_end (by rw [← Hn.out]; omega))
      clear HRQ
      go_wp2
      go_ret
      exact ⟨ret_v HS2, HBR.out⟩

set_option maxRecDepth 100000 in
set_option maxHeartbeats 1000000 in
theorem siteOf_calls (w : World) (ok : Nat → Prop) (v0 v1 v2 v3 : Value) (l : List Sbj) (id : Int) (h : RArr w ok 2 sbjCs v3 l) :
    Calls Tryz.prog 96 #[.agg #[v0, v1, v2, v3], .int .u32 id] w fun e w' => e = .returned (findV (fun x : Sbj => (x.id == id)) (fun x => .tuple #[.int .u32 x.site, .bool true]) (.tuple #[.int .u32 0, .bool false]) l) ∧ Below w.heap.size w w' := by
  obtain ⟨R, hR⟩ : ∃ R : Value, R = findV (fun x : Sbj => (x.id == id)) (fun x => .tuple #[.int .u32 x.site, .bool true]) (.tuple #[.int .u32 0, .bool false]) l := ⟨_, rfl⟩
  rw [← hR]
  have HR : Hid (R = findV (fun x : Sbj => (x.id == id)) (fun x => .tuple #[.int .u32 x.site, .bool true]) (.tuple #[.int .u32 0, .bool false]) (l.drop 0)) := hR
  clear hR
  obtain ⟨a, cap, b, off, rfl, hl, hm, hr, ha, hc⟩ := h.lt
  obtain ⟨n, hn⟩ : ∃ n, n = l.length := ⟨_, rfl⟩
  have Hn : Hid (n = l.length) := hn
  rw [← hn] at hl hr ha ⊢
  have hi := run_indexAt_arr (P := Tryz.prog) (n := n) (cap := cap) Tryz.underlying30 Tryz.size200 (fun h => (ha h).1)
  have HB : Hid (0 < n → b < w.heap.size) := fun h => (ha h).2.2
  have HC := hide hc
  clear ha hc hn hm h hl
  go_enter Tryz.func96, Tryz.ntmps96
  go_upto_region 2 with fail
  obtain ⟨w1, hw1⟩ : ∃ w1, w1 = w.alloc (.cells #[v0, v1, v2, .slice a n cap] 32) := ⟨_, rfl⟩
  have hb1 : Below w.heap.size w w1 := by rw [hw1]; exact (Below.refl _ _).alloc (Nat.le_refl _) _
  rw [← hw1]
  have HB1 := hide hb1
  clear hw1 hb1
  go_loopg [11] n (fun g x wr => ∃ q : Nat, q ≤ n ∧ g = n - q ∧ x = .int .i64 q ∧ Hid (Below w.heap.size w wr) ∧ Hid (R = findV (fun x : Sbj => (x.id == id)) (fun x => .tuple #[.int .u32 x.site, .bool true]) (.tuple #[.int .u32 0, .bool false]) (l.drop q)))
  case atStart => exact ⟨0, by omega, by omega, rfl, HB1, HR⟩
  clear HR
  case round =>
    obtain ⟨q, hq, rfl, rfl, HBR, HRQ⟩ := hrel
    have hsr := HBR.out.size
    by_cases hlt : q < n
    · have h1 : q < l.length := by rw [← Hn.out]; exact hlt
      have hbb := HB.out (by omega)
      have hrg := HC.out q h1
      rw [← rng_of_block (HBR.out.block b hbb)] at hrg
      have hbr : b < wr.heap.size := by omega
      have HS : Hid (R = _) := HRQ.out.trans (findV_drop h1)
      generalize l[q] = x at *
      obtain ⟨xid, xsite⟩ := x
      simp only [sbjCs] at hrg
      have hov : ones #[.int .u32 xid, .int .u32 xsite] 2 = true := rfl
      simp only at HS
      clear HRQ
      cases t0 : (xid == id) with
      | false =>
        have HS2 : Hid (R = findV (fun x : Sbj => (x.id == id)) (fun x => .tuple #[.int .u32 x.site, .bool true]) (.tuple #[.int .u32 0, .bool false]) (l.drop (q + 1))) := HS.out.trans (by simp [t0])
        clear HS
        go_wp2
        go_roundg (n - (q + 1))
        case measure => omega
        case rel => exact ⟨q + 1, by omega, rfl, by go_num, HBR.out.alloc hsr _, HS2⟩
      | true =>
        have HS2 : Hid (R = .tuple #[.int .u32 xsite, .bool true]) := HS.out.trans (by simp [t0])
        clear HS
        go_wp2
        go_ret2
        exact ⟨ret_v HS2, HBR.out.alloc hsr _⟩
    · have HS2 : Hid (R = .tuple #[.int .u32 0, .bool false]) := HRQ.out.trans (findV_end (by rw [← Hn.out]; omega))
      clear HRQ
      go_wp2
      go_ret2
      exact ⟨ret_v HS2, HBR.out⟩

set_option maxRecDepth 100000 in
set_option maxHeartbeats 1000000 in
theorem sampleI_calls (w : World) (ok : Nat → Prop) (v0 v1 v2 : Value) (l : List Smp) (id : Int) (h : RArr w ok 8 smpCs v0 l) :
    Calls Tryz.prog 95 #[.agg #[v0, v1, v2], .int .u32 id] w fun e w' => e = .returned (.int .i64 (findI (fun x : Smp => (x.id == id)) 0 l)) ∧ Below w.heap.size w w' := by
  obtain ⟨R, hR⟩ : ∃ R : Value, R = .int .i64 (findI (fun x : Smp => (x.id == id)) 0 l) := ⟨_, rfl⟩
  rw [← hR]
  have HR : Hid (R = .int .i64 (findI (fun x : Smp => (x.id == id)) 0 (l.drop 0))) := hR
  clear hR
  obtain ⟨a, cap, b, off, rfl, hl, hm, hr, ha, hc⟩ := h.lt
  obtain ⟨n, hn⟩ : ∃ n, n = l.length := ⟨_, rfl⟩
  have Hn : Hid (n = l.length) := hn
  rw [← hn] at hl hr ha ⊢
  have hi := run_indexAt_arr (P := Tryz.prog) (n := n) (cap := cap) Tryz.underlying36 Tryz.size94 (fun h => (ha h).1)
  have HB : Hid (0 < n → b < w.heap.size) := fun h => (ha h).2.2
  have HC := hide hc
  clear ha hc hn hm h hl
  go_enter Tryz.func95, Tryz.ntmps95
  go_upto_region 2 with fail
  obtain ⟨w1, hw1⟩ : ∃ w1, w1 = w.alloc (.cells #[.slice a n cap, v1, v2] 40) := ⟨_, rfl⟩
  have hb1 : Below w.heap.size w w1 := by rw [hw1]; exact (Below.refl _ _).alloc (Nat.le_refl _) _
  rw [← hw1]
  have HB1 := hide hb1
  clear hw1 hb1
  go_loopg [10] n (fun g x wr => ∃ q : Nat, q ≤ n ∧ g = n - q ∧ x = .int .i64 q ∧ Hid (Below w.heap.size w wr) ∧ Hid (R = .int .i64 (findI (fun x : Smp => (x.id == id)) q (l.drop q))))
  case atStart => exact ⟨0, by omega, by omega, rfl, HB1, HR⟩
  clear HR
  case round =>
    obtain ⟨q, hq, rfl, rfl, HBR, HRQ⟩ := hrel
    have hsr := HBR.out.size
    by_cases hlt : q < n
    · have h1 : q < l.length := by rw [← Hn.out]; exact hlt
      have hbb := HB.out (by omega)
      have hrg := HC.out q h1
      rw [← rng_of_block (HBR.out.block b hbb)] at hrg
      have hbr : b < wr.heap.size := by omega
      have HS : Hid (R = _) := HRQ.out.trans (congrArg (Value.int .i64) (findI_drop h1))
      generalize l[q] = x at *
      obtain ⟨xid, xkit, xsubject, xvisit, xcls, xcollected, xreceived, xexc⟩ := x
      simp only [smpCs] at hrg
      have hov : ones #[.int .u32 xid, .int .u32 xkit, .int .u32 xsubject, .int .u32 xvisit, .int .u8 xcls, .int .i64 xcollected, .int .i64 xreceived, .bool xexc] 8 = true := rfl
      simp only at HS
      clear HRQ
      cases t0 : (xid == id) with
      | false =>
        have HS2 : Hid (R = .int .i64 (findI (fun x : Smp => (x.id == id)) (q + 1) (l.drop (q + 1)))) := HS.out.trans (by simp [t0])
        clear HS
        go_wp2
        go_roundg (n - (q + 1))
        case measure => omega
        case rel => exact ⟨q + 1, by omega, rfl, by go_num, HBR.out.alloc hsr _, HS2⟩
      | true =>
        have HS2 : Hid (R = .int .i64 q) := HS.out.trans (by simp [t0])
        clear HS
        go_wp2
        go_ret
        exact ⟨ret_v HS2, HBR.out.alloc hsr _⟩
    · have HS2 : Hid (R = .int .i64 (-1)) := HRQ.out.trans (congrArg (Value.int .i64) (findI_end (by rw [← Hn.out]; omega)))
      clear HRQ
      go_wp2
      go_ret
      exact ⟨ret_v HS2, HBR.out⟩

set_option maxRecDepth 100000 in
set_option maxHeartbeats 1000000 in
theorem resultI_calls (w : World) (ok : Nat → Prop) (v0 v1 v2 : Value) (l : List Res) (sid aid : Int) (h : RArr w ok 6 resCs v1 l) :
    Calls Tryz.prog 233 #[.agg #[v0, v1, v2], .int .u32 sid, .int .u32 aid] w fun e w' => e = .returned (.int .i64 (findI (fun x : Res => (x.sample == sid) && (x.analyte == aid)) 0 l)) ∧ Below w.heap.size w w' := by
  obtain ⟨R, hR⟩ : ∃ R : Value, R = .int .i64 (findI (fun x : Res => (x.sample == sid) && (x.analyte == aid)) 0 l) := ⟨_, rfl⟩
  rw [← hR]
  have HR : Hid (R = .int .i64 (findI (fun x : Res => (x.sample == sid) && (x.analyte == aid)) 0 (l.drop 0))) := hR
  clear hR
  obtain ⟨a, cap, b, off, rfl, hl, hm, hr, ha, hc⟩ := h.lt
  obtain ⟨n, hn⟩ : ∃ n, n = l.length := ⟨_, rfl⟩
  have Hn : Hid (n = l.length) := hn
  rw [← hn] at hl hr ha ⊢
  have hi := run_indexAt_arr (P := Tryz.prog) (n := n) (cap := cap) Tryz.underlying37 Tryz.size92 (fun h => (ha h).1)
  have HB : Hid (0 < n → b < w.heap.size) := fun h => (ha h).2.2
  have HC := hide hc
  clear ha hc hn hm h hl
  go_enter Tryz.func233, Tryz.ntmps233
  go_upto_region 2 with fail
  obtain ⟨w1, hw1⟩ : ∃ w1, w1 = w.alloc (.cells #[v0, .slice a n cap, v2] 40) := ⟨_, rfl⟩
  have hb1 : Below w.heap.size w w1 := by rw [hw1]; exact (Below.refl _ _).alloc (Nat.le_refl _) _
  rw [← hw1]
  have HB1 := hide hb1
  clear hw1 hb1
  go_loopg [12] n (fun g x wr => ∃ q : Nat, q ≤ n ∧ g = n - q ∧ x = .int .i64 q ∧ Hid (Below w.heap.size w wr) ∧ Hid (R = .int .i64 (findI (fun x : Res => (x.sample == sid) && (x.analyte == aid)) q (l.drop q))))
  case atStart => exact ⟨0, by omega, by omega, rfl, HB1, HR⟩
  clear HR
  case round =>
    obtain ⟨q, hq, rfl, rfl, HBR, HRQ⟩ := hrel
    have hsr := HBR.out.size
    by_cases hlt : q < n
    · have h1 : q < l.length := by rw [← Hn.out]; exact hlt
      have hbb := HB.out (by omega)
      have hrg := HC.out q h1
      rw [← rng_of_block (HBR.out.block b hbb)] at hrg
      have hbr : b < wr.heap.size := by omega
      have HS : Hid (R = _) := HRQ.out.trans (congrArg (Value.int .i64) (findI_drop h1))
      generalize l[q] = x at *
      obtain ⟨xsample, xanalyte, xversion, xvalue, xtested, xwd⟩ := x
      simp only [resCs] at hrg
      have hov : ones #[.int .u32 xsample, .int .u32 xanalyte, .int .u32 xversion, .int .i64 xvalue, .int .i64 xtested, .bool xwd] 6 = true := rfl
      simp only at HS
      clear HRQ
      cases t0 : (xsample == sid) with
      | false =>
        have HS2 : Hid (R = .int .i64 (findI (fun x : Res => (x.sample == sid) && (x.analyte == aid)) (q + 1) (l.drop (q + 1)))) := HS.out.trans (by simp [t0])
        clear HS
        go_wp2
        go_roundg (n - (q + 1))
        case measure => omega
        case rel => exact ⟨q + 1, by omega, rfl, by go_num, HBR.out.alloc hsr _, HS2⟩
      | true =>
        cases t1 : (xanalyte == aid) with
        | false =>
          have HS2 : Hid (R = .int .i64 (findI (fun x : Res => (x.sample == sid) && (x.analyte == aid)) (q + 1) (l.drop (q + 1)))) := HS.out.trans (by simp [t0, t1])
          clear HS
          go_wp2
          go_roundg (n - (q + 1))
          case measure => omega
          case rel => exact ⟨q + 1, by omega, rfl, by go_num, HBR.out.alloc hsr _, HS2⟩
        | true =>
          have HS2 : Hid (R = .int .i64 q) := HS.out.trans (by simp [t0, t1])
          clear HS
          go_wp2
          go_ret
          exact ⟨ret_v HS2, HBR.out.alloc hsr _⟩
    · have HS2 : Hid (R = .int .i64 (-1)) := HRQ.out.trans (congrArg (Value.int .i64) (findI_end (by rw [← Hn.out]; omega)))
      clear HRQ
      go_wp2
      go_ret
      exact ⟨ret_v HS2, HBR.out⟩

set_option maxRecDepth 100000 in
set_option maxHeartbeats 1000000 in
theorem queryI_calls (w : World) (ok : Nat → Prop) (v0 v1 v2 : Value) (l : List Qry) (id : Int) (h : RArr w ok 3 qryCs v2 l) :
    Calls Tryz.prog 243 #[.agg #[v0, v1, v2], .int .u32 id] w fun e w' => e = .returned (.int .i64 (findI (fun x : Qry => (x.id == id)) 0 l)) ∧ Below w.heap.size w w' := by
  obtain ⟨R, hR⟩ : ∃ R : Value, R = .int .i64 (findI (fun x : Qry => (x.id == id)) 0 l) := ⟨_, rfl⟩
  rw [← hR]
  have HR : Hid (R = .int .i64 (findI (fun x : Qry => (x.id == id)) 0 (l.drop 0))) := hR
  clear hR
  obtain ⟨a, cap, b, off, rfl, hl, hm, hr, ha, hc⟩ := h.lt
  obtain ⟨n, hn⟩ : ∃ n, n = l.length := ⟨_, rfl⟩
  have Hn : Hid (n = l.length) := hn
  rw [← hn] at hl hr ha ⊢
  have hi := run_indexAt_arr (P := Tryz.prog) (n := n) (cap := cap) Tryz.underlying38 Tryz.size208 (fun h => (ha h).1)
  have HB : Hid (0 < n → b < w.heap.size) := fun h => (ha h).2.2
  have HC := hide hc
  clear ha hc hn hm h hl
  go_enter Tryz.func243, Tryz.ntmps243
  go_upto_region 2 with fail
  obtain ⟨w1, hw1⟩ : ∃ w1, w1 = w.alloc (.cells #[v0, v1, .slice a n cap] 40) := ⟨_, rfl⟩
  have hb1 : Below w.heap.size w w1 := by rw [hw1]; exact (Below.refl _ _).alloc (Nat.le_refl _) _
  rw [← hw1]
  have HB1 := hide hb1
  clear hw1 hb1
  go_loopg [10] n (fun g x wr => ∃ q : Nat, q ≤ n ∧ g = n - q ∧ x = .int .i64 q ∧ Hid (Below w.heap.size w wr) ∧ Hid (R = .int .i64 (findI (fun x : Qry => (x.id == id)) q (l.drop q))))
  case atStart => exact ⟨0, by omega, by omega, rfl, HB1, HR⟩
  clear HR
  case round =>
    obtain ⟨q, hq, rfl, rfl, HBR, HRQ⟩ := hrel
    have hsr := HBR.out.size
    by_cases hlt : q < n
    · have h1 : q < l.length := by rw [← Hn.out]; exact hlt
      have hbb := HB.out (by omega)
      have hrg := HC.out q h1
      rw [← rng_of_block (HBR.out.block b hbb)] at hrg
      have hbr : b < wr.heap.size := by omega
      have HS : Hid (R = _) := HRQ.out.trans (congrArg (Value.int .i64) (findI_drop h1))
      generalize l[q] = x at *
      obtain ⟨xid, xsample, xstage⟩ := x
      simp only [qryCs] at hrg
      have hov : ones #[.int .u32 xid, .int .u32 xsample, .int .u8 xstage] 3 = true := rfl
      simp only at HS
      clear HRQ
      cases t0 : (xid == id) with
      | false =>
        have HS2 : Hid (R = .int .i64 (findI (fun x : Qry => (x.id == id)) (q + 1) (l.drop (q + 1)))) := HS.out.trans (by simp [t0])
        clear HS
        go_wp2
        go_roundg (n - (q + 1))
        case measure => omega
        case rel => exact ⟨q + 1, by omega, rfl, by go_num, HBR.out.alloc hsr _, HS2⟩
      | true =>
        have HS2 : Hid (R = .int .i64 q) := HS.out.trans (by simp [t0])
        clear HS
        go_wp2
        go_ret
        exact ⟨ret_v HS2, HBR.out.alloc hsr _⟩
    · have HS2 : Hid (R = .int .i64 (-1)) := HRQ.out.trans (congrArg (Value.int .i64) (findI_end (by rw [← Hn.out]; omega)))
      clear HRQ
      go_wp2
      go_ret
      exact ⟨ret_v HS2, HBR.out⟩

set_option maxRecDepth 100000 in
set_option maxHeartbeats 1000000 in
theorem unsettled_calls (w : World) (ok : Nat → Prop) (v0 v1 v2 : Value) (l : List Qry) (sid : Int) (h : RArr w ok 3 qryCs v2 l) :
    Calls Tryz.prog 101 #[.agg #[v0, v1, v2], .int .u32 sid] w fun e w' => e = .returned (findV (fun x : Qry => (x.sample == sid) && (x.stage != 3)) (fun _ => .bool true) (.bool false) l) ∧ Below w.heap.size w w' := by
  obtain ⟨R, hR⟩ : ∃ R : Value, R = findV (fun x : Qry => (x.sample == sid) && (x.stage != 3)) (fun _ => .bool true) (.bool false) l := ⟨_, rfl⟩
  rw [← hR]
  have HR : Hid (R = findV (fun x : Qry => (x.sample == sid) && (x.stage != 3)) (fun _ => .bool true) (.bool false) (l.drop 0)) := hR
  clear hR
  obtain ⟨a, cap, b, off, rfl, hl, hm, hr, ha, hc⟩ := h.lt
  obtain ⟨n, hn⟩ : ∃ n, n = l.length := ⟨_, rfl⟩
  have Hn : Hid (n = l.length) := hn
  rw [← hn] at hl hr ha ⊢
  have hi := run_indexAt_arr (P := Tryz.prog) (n := n) (cap := cap) Tryz.underlying38 Tryz.size208 (fun h => (ha h).1)
  have HB : Hid (0 < n → b < w.heap.size) := fun h => (ha h).2.2
  have HC := hide hc
  clear ha hc hn hm h hl
  go_enter Tryz.func101, Tryz.ntmps101
  go_upto_region 2 with fail
  obtain ⟨w1, hw1⟩ : ∃ w1, w1 = w.alloc (.cells #[v0, v1, .slice a n cap] 40) := ⟨_, rfl⟩
  have hb1 : Below w.heap.size w w1 := by rw [hw1]; exact (Below.refl _ _).alloc (Nat.le_refl _) _
  rw [← hw1]
  have HB1 := hide hb1
  clear hw1 hb1
  go_loopg [10] n (fun g x wr => ∃ q : Nat, q ≤ n ∧ g = n - q ∧ x = .int .i64 q ∧ Hid (Below w.heap.size w wr) ∧ Hid (R = findV (fun x : Qry => (x.sample == sid) && (x.stage != 3)) (fun _ => .bool true) (.bool false) (l.drop q)))
  case atStart => exact ⟨0, by omega, by omega, rfl, HB1, HR⟩
  clear HR
  case round =>
    obtain ⟨q, hq, rfl, rfl, HBR, HRQ⟩ := hrel
    have hsr := HBR.out.size
    by_cases hlt : q < n
    · have h1 : q < l.length := by rw [← Hn.out]; exact hlt
      have hbb := HB.out (by omega)
      have hrg := HC.out q h1
      rw [← rng_of_block (HBR.out.block b hbb)] at hrg
      have hbr : b < wr.heap.size := by omega
      have HS : Hid (R = _) := HRQ.out.trans (findV_drop h1)
      generalize l[q] = x at *
      obtain ⟨xid, xsample, xstage⟩ := x
      simp only [qryCs] at hrg
      have hov : ones #[.int .u32 xid, .int .u32 xsample, .int .u8 xstage] 3 = true := rfl
      simp only at HS
      clear HRQ
      cases t0 : (xsample == sid) with
      | false =>
        have HS2 : Hid (R = findV (fun x : Qry => (x.sample == sid) && (x.stage != 3)) (fun _ => .bool true) (.bool false) (l.drop (q + 1))) := HS.out.trans (by simp [t0])
        clear HS
        go_wp2
        go_roundg (n - (q + 1))
        case measure => omega
        case rel => exact ⟨q + 1, by omega, rfl, by go_num, HBR.out.alloc hsr _, HS2⟩
      | true =>
        cases t1 : (xstage != 3) with
        | false =>
          have HS2 : Hid (R = findV (fun x : Qry => (x.sample == sid) && (x.stage != 3)) (fun _ => .bool true) (.bool false) (l.drop (q + 1))) := HS.out.trans (by simp [t0, t1])
          clear HS
          go_wp2
          go_roundg (n - (q + 1))
          case measure => omega
          case rel => exact ⟨q + 1, by omega, rfl, by go_num, HBR.out.alloc hsr _, HS2⟩
        | true =>
          have HS2 : Hid (R = .bool true) := HS.out.trans (by simp [t0, t1])
          clear HS
          go_wp2
          go_ret
          exact ⟨ret_v HS2, HBR.out.alloc hsr _⟩
    · have HS2 : Hid (R = .bool false) := HRQ.out.trans (findV_end (by rw [← Hn.out]; omega))
      clear HRQ
      go_wp2
      go_ret
      exact ⟨ret_v HS2, HBR.out⟩

end Go.Proofs.Qxb6500666aGreatDoor
