/- The layers beneath: InForce, HasVisit, Limit, Find, walked. -/
import Derived.Test.Qxb6500666aGreatDoorLowWith
import Derived.Test.Qxb6500666aGreatDoorRenderWalk
import Derived.Test.Qxb6500666aGreatDoorParseParts
namespace Go.Proofs.Qxb6500666aGreatDoor
open Go.RowKit

/-- The number of the last of the first versions that is in force. -/
def inForceN (vs : List Vsn) (m : Int) : Nat → Int
  | 0 => 0
  | q + 1 => if (vs[q]?.getD (0, [])).1 ≤ m then (q : Int) + 1 else inForceN vs m q
def inForce (vs : List Vsn) (m : Int) : Int := inForceN vs m vs.length

theorem inForceN_le (vs : List Vsn) (m : Int) : ∀ q, 0 ≤ inForceN vs m q ∧ inForceN vs m q ≤ q
  | 0 => by simp [inForceN]
  | q + 1 => by
    have := inForceN_le vs m q
    unfold inForceN
    split <;> omega

theorem ones_vz (e : Int) (a : Option Addr) (n c : Nat) : ones #[.int .i64 e, .slice a n c] 2 = true := rfl

attribute [local go_sem] ext_const Ext.cell Ext.frozen Ext.rng Ext.whole
attribute [local go_sem ↓] exec_ldVsn exec_stVsn exec_ldAna exec_stAna exec_ldKit exec_stKit
attribute [local go_sem] run_ldVsn run_stVsn run_ldAna run_stAna run_ldKit run_stKit ones_vz whole_alloc_lt whole_alloc_at whole_drew setRow_alloc_at setRow_alloc_lt rng_alloc_lt rng_drew rng_drewN

set_option maxRecDepth 100000 in
set_option maxHeartbeats 1000000 in
theorem inForce_calls (w : World) (ok : Nat → Prop) (v0 v1 v2 v3 : Value) (vs : List Vsn) (m : Int) (h : VersAt w ok v1 vs) (hlen : vs.length ≤ 1000000) :
    Calls Tryz.prog 100 #[.agg #[v0, v1, v2, v3], .int .i64 m] w fun e w' => e = .returned (.int .u32 (inForce vs m)) ∧ Below w.heap.size w w' := by
  obtain ⟨R, hR⟩ : ∃ R : Value, R = .int .u32 (inForce vs m) := ⟨_, rfl⟩
  rw [← hR]
  have HR := hide hR
  clear hR
  obtain ⟨zs, hz, hzm, hzu⟩ := h
  obtain ⟨a, cap, b, off, rfl, hl, hm, hr, ha, hc⟩ := hz.lt
  obtain ⟨n, hn⟩ : ∃ n, n = zs.length := ⟨_, rfl⟩
  have Hn : Hid (n = zs.length) := hn
  have hvl : vs.length = n := by rw [← hzm, List.length_map]; exact hn.symm
  rw [hvl] at hlen
  have HVL := hide hvl
  have HZM := hide hzm
  rw [← hn] at hl hr ha ⊢
  have hi := run_indexAt_arr (P := Tryz.prog) (n := n) (cap := cap) Tryz.underlying28 Tryz.size193 (fun h => (ha h).1)
  have HB : Hid (0 < n → b < w.heap.size) := fun h => (ha h).2.2
  have HC := hide hc
  clear ha hc hn hm hl hz hzm hzu hvl
  go_enter Tryz.func100, Tryz.ntmps100
  go_upto_region 3 with fail
  obtain ⟨w1, hw1⟩ : ∃ w1, w1 = w.alloc (.cells #[v0, .slice a n cap, v2, v3] 32) := ⟨_, rfl⟩
  have hb1 : Below w.heap.size w w1 := by rw [hw1]; exact (Below.refl _ _).alloc (Nat.le_refl _) _
  rw [← hw1]
  have HB1 := hide hb1
  clear hw1 hb1
  go_loopg [5, 11] n (fun g x5 x wr => ∃ q : Nat, q ≤ n ∧ g = n - q ∧ x = .int .i64 q ∧ ∃ z : Int, x5 = .int .u32 z ∧ Hid (z = inForceN vs m q) ∧ Hid (Below w.heap.size w wr))
  case atStart => exact ⟨0, by omega, by omega, rfl, 0, rfl, rfl, HB1⟩
  case round =>
    obtain ⟨q, hq, rfl, rfl, z, rfl, HZ, HBR⟩ := hrel
    have hsr := HBR.out.size
    by_cases hlt : q < n
    · have h1 : q < zs.length := by rw [← Hn.out]; exact hlt
      have h2 : q < vs.length := by rw [HVL.out]; exact hlt
      have hvq : vs[q]?.getD (0, []) = (zs[q].eff, zs[q].vis) := by
        rw [List.getElem?_eq_getElem h2]
        simp [← HZM.out]
      have hbb := HB.out (by omega)
      have hrg := HC.out q h1
      rw [← rng_of_block (HBR.out.block b hbb)] at hrg
      have hbr : b < wr.heap.size := by omega
      generalize zs[q] = x at *
      obtain ⟨xe, xv, ⟨xa, xn, xc⟩⟩ := x
      simp only [vzCs, sv] at hrg
      have HV := hide hvq
      clear hvq h1 h2
      have hw : ((q : Int) + 1) % 4294967296 = (q : Int) + 1 := by omega
      by_cases hle : xe ≤ m
      · have HZ2 : Hid ((q : Int) + 1 = inForceN vs m (q + 1)) := by show _ = _; rw [inForceN, HV.out, if_pos hle]
        go_wp2
        go_roundg (n - (q + 1))
        case measure => omega
        case rel => exact ⟨q + 1, by omega, rfl, by go_num, (q : Int) + 1, by go_num, HZ2, HBR.out.alloc hsr _⟩
      · have HZ2 : Hid (z = inForceN vs m (q + 1)) := by show _ = _; rw [inForceN, HV.out, if_neg hle]; exact HZ.out
        go_wp2
        go_roundg (n - (q + 1))
        case measure => omega
        case rel => exact ⟨q + 1, by omega, rfl, by go_num, z, rfl, HZ2, HBR.out.alloc hsr _⟩
    · have HF : Hid (R = .int .u32 z) := by show _ = _; rw [HR.out, inForce, HZ.out, HVL.out, show q = n by omega]
      go_wp2
      go_ret
      exact ⟨ret_v HF, HBR.out⟩

/-- HasVisit. -/
def hasVisit (vs : List Vsn) (number visit : Int) : Bool := if number = 0 ∨ (vs.length : Int) < number then false else (vs[(number - 1).toNat]?.getD (0, [])).2.any (· == visit)

set_option maxRecDepth 100000 in
set_option maxHeartbeats 1000000 in
theorem hasVisit_calls (w : World) (ok : Nat → Prop) (v0 v1 v2 v3 : Value) (vs : List Vsn) (k visit : Int) (h : VersAt w ok v1 vs) (hlen : vs.length ≤ 1000000) (hk0 : 0 ≤ k) (hk1 : k ≤ 4294967295) :
    Calls Tryz.prog 99 #[.agg #[v0, v1, v2, v3], .int .u32 k, .int .u32 visit] w fun e w' => e = .returned (.bool (hasVisit vs k visit)) ∧ Below w.heap.size w w' := by
  obtain ⟨R, hR⟩ : ∃ R : Value, R = .bool (hasVisit vs k visit) := ⟨_, rfl⟩
  rw [← hR]
  have HR := hide hR
  clear hR
  obtain ⟨zs, hz, hzm, hzu⟩ := h
  obtain ⟨a, cap, b, off, rfl, hl, hm, hr, ha, hc⟩ := hz.lt
  obtain ⟨n, hn⟩ : ∃ n, n = zs.length := ⟨_, rfl⟩
  have Hn : Hid (n = zs.length) := hn
  have hvl : vs.length = n := by rw [← hzm, List.length_map]; exact hn.symm
  rw [hvl] at hlen
  have HVL := hide hvl
  have HZM := hide hzm
  have HZU := hide hzu
  rw [← hn] at hl hr ha ⊢
  have hi := run_indexAt_u32 (P := Tryz.prog) (n := n) (cap := cap) Tryz.underlying28 Tryz.size193 (fun h => (ha h).1)
  have HB : Hid (0 < n → b < w.heap.size) := fun h => (ha h).2.2
  have HC := hide hc
  clear ha hc hn hm hl hz hzm hzu hvl
  by_cases hk2 : k = 0
  · have HF : Hid (R = .bool false) := by show _ = _; rw [HR.out, hasVisit, if_pos (Or.inl hk2)]
    subst hk2
    go_enter Tryz.func99, Tryz.ntmps99
    go_wp2
    go_ret
    exact ⟨ret_v HF, (Below.refl _ _).alloc (Nat.le_refl _) _⟩
  have t0 : (k == 0) = false := by simp [hk2]
  by_cases hk3 : (n : Int) < k
  · have HF : Hid (R = .bool false) := by show _ = _; rw [HR.out, hasVisit, HVL.out, if_pos (Or.inr hk3)]
    go_enter Tryz.func99, Tryz.ntmps99
    go_wp2
    go_ret
    exact ⟨ret_v HF, (Below.refl _ _).alloc (Nat.le_refl _) _⟩
  obtain ⟨j, rfl⟩ : ∃ j : Nat, k = (j : Int) + 1 := ⟨(k - 1).toNat, by omega⟩
  have hjn : j < n := by omega
  have h1 : j < zs.length := by rw [← Hn.out]; exact hjn
  have h2 : j < vs.length := by rw [HVL.out]; exact hjn
  have hvq : vs[j]?.getD (0, []) = (zs[j].eff, zs[j].vis) := by
    rw [List.getElem?_eq_getElem h2]
    simp [← HZM.out]
  have hbb := HB.out (by omega)
  have hrg := HC.out j h1
  have hU := HZU.out zs[j] (List.getElem_mem h1)
  generalize zs[j] = x at *
  obtain ⟨xe, xv, ⟨xa, xn, xc⟩⟩ := x
  simp only [vzCs, sv] at hrg hU
  have c1 := (rng_cell hrg).2 1 (by decide)
  simp only [List.getElem?_toArray, List.getElem?_cons_zero, List.getElem?_cons_succ] at c1
  have HF0 : Hid (R = findV (fun x : Int => (x == visit)) (fun _ => .bool true) (.bool false) (xv.drop 0)) := by
    show _ = _
    rw [HR.out, hasVisit, HVL.out, if_neg (by omega), show (((j : Int) + 1) - 1).toNat = j by omega, hvq]
    simp only [List.drop_zero]
    clear HR hvq hU
    induction xv with
    | nil => rfl
    | cons y r ih =>
      simp only [List.any_cons, findV]
      cases hy : (y == visit) with
      | true => simp
      | false => simpa using ih
  have hij : ∀ W : World, (Instr.indexAt 28 (.slice a n cap) (.int .u32 (j : Int))).run Tryz.prog W = .ok (.pointer (some ⟨b, off + j * 2, none⟩)) W := fun W => by
    have := hi W (j : Int) (by omega) (by omega)
    simpa using this
  obtain ⟨a', cap', b', off', hv', hl', hm', hr', ha', hc'⟩ := hU.lt
  injection hv' with e1 hxn e3
  subst e1 e3
  have HXN := hide hxn
  rw [← hxn] at hl' hr' ha'
  have hi' := run_indexAt_arr (P := Tryz.prog) (n := xn) (cap := xc) Tryz.underlying29 Tryz.size48 (fun h => (ha' h).1)
  have HB' : Hid (0 < xn → b' < w.heap.size) := fun h => (ha' h).2.2
  have HC' := hide hc'
  clear ha' hc' hm' hl' hU hi hvq h1 h2 hrg HC HB HZU HZM HR hxn
  have hsub : ((j : Int) + 1 - 1) = (j : Int) := by omega
  go_enter Tryz.func99, Tryz.ntmps99
  go_upto_region 4 with fail
  obtain ⟨w1, hw1⟩ : ∃ w1, w1 = w.alloc (.cells #[v0, .slice a n cap, v2, v3] 32) := ⟨_, rfl⟩
  have hb1 : Below w.heap.size w w1 := by rw [hw1]; exact (Below.refl _ _).alloc (Nat.le_refl _) _
  rw [← hw1]
  have HB1 := hide hb1
  clear hw1 hb1
  go_loopg [27] xn (fun g x wr => ∃ q : Nat, q ≤ xn ∧ g = xn - q ∧ x = .int .i64 q ∧ Hid (Below w.heap.size w wr) ∧ Hid (R = findV (fun x : Int => (x == visit)) (fun _ => .bool true) (.bool false) (xv.drop q)))
  case atStart => exact ⟨0, by omega, by omega, rfl, HB1, HF0⟩
  clear HF0
  case round =>
    obtain ⟨q, hq, rfl, rfl, HBR, HRQ⟩ := hrel
    have hsr := HBR.out.size
    by_cases hlt : q < xn
    · have h1 : q < xv.length := by rw [← HXN.out]; exact hlt
      have hbb' := HB'.out (by omega)
      have hrg := HC'.out q h1
      rw [← rng_of_block (HBR.out.block b' hbb')] at hrg
      have hbr : b' < wr.heap.size := by omega
      have HS : Hid (R = _) := HRQ.out.trans (findV_drop h1)
      generalize xv[q] = x at *
      have e0 := (rng_cell hrg).2 0 (by decide)
      simp only [u32Cs, List.getElem?_toArray, List.getElem?_cons_zero, Nat.add_zero, Nat.mul_one] at e0
      clear HRQ
      cases t1 : (x == visit) with
      | false =>
        have HS2 : Hid (R = findV (fun x : Int => (x == visit)) (fun _ => .bool true) (.bool false) (xv.drop (q + 1))) := HS.out.trans (by simp [t1])
        clear HS
        go_wp2
        go_roundg (xn - (q + 1))
        case measure => omega
        case rel => exact ⟨q + 1, by omega, rfl, by go_num, HBR, HS2⟩
      | true =>
        have HS2 : Hid (R = .bool true) := HS.out.trans (by simp [t1])
        clear HS
        go_wp2
        go_ret
        exact ⟨ret_v HS2, HBR.out⟩
    · have HS2 : Hid (R = .bool false) := HRQ.out.trans (findV_end (by rw [← HXN.out]; omega))
      clear HRQ
      go_wp2
      go_ret
      exact ⟨ret_v HS2, HBR.out⟩

end Go.Proofs.Qxb6500666aGreatDoor
