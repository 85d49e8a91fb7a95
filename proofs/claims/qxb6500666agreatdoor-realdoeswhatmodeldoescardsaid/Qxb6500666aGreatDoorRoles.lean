/- Who has which role, as the laws follow it: newRoles, accepted. -/
import Derived.Test.Qxb6500666aGreatDoorMapU
namespace Go.Proofs.Qxb6500666aGreatDoor
open Go.RowKit

theorem Tryz.mapRole : Tryz.prog.underlying 120 = some (.map 48 49) := by kernel_rfl
theorem Tryz.mapActive : Tryz.prog.underlying 121 = some (.map 48 4) := by kernel_rfl
theorem Tryz.zeroRole (w : World) : (zeroValue 49).run Tryz.prog w = .ok (.int .u8 0) w := by kernel_rfl
theorem Tryz.zeroBoolz (w : World) : (zeroValue 4).run Tryz.prog w = .ok (.bool false) w := by kernel_rfl
/-- The two maps. -/
structure RoAt (w : World) (Rb M1 M2 n : Nat) (ro : Int → Option Int) (ac : Int → Option Bool) : Prop where
  top : w.heap[Rb]? = some (.cells #[.map (some M1), .map (some M2)] 123 (0, 0))
  m1 : MapU w M1 n (.int .u8 0) (fun k => (ro k).map (Value.int .u8))
  m2 : MapU w M2 n (.bool false) (fun k => (ac k).map Value.bool)
  ne : Rb ≠ M1 ∧ Rb ≠ M2 ∧ M1 ≠ M2
theorem RoAt.same {w w' : World} {Rb M1 M2 n : Nat} {ro : Int → Option Int} {ac : Int → Option Bool} (h : RoAt w Rb M1 M2 n ro ac) (hs : ∀ b, (b = Rb ∨ b = M1 ∨ b = M2) → w'.heap[b]? = w.heap[b]?) : RoAt w' Rb M1 M2 n ro ac :=
  ⟨(hs _ (by simp)).trans h.top, h.m1.same (hs _ (by simp)), h.m2.same (hs _ (by simp)), h.ne⟩
theorem upd_map {α : Type} (f : α → Value) (g : Int → Option α) (k : Int) (v : α) : upd (fun j => (g j).map f) k (some (f v)) = fun j => (upd g k (some v) j).map f := by
  funext j
  unfold upd
  split <;> rfl
def ro0 : Int → Option Int := upd (fun _ => none) 1 (some 1)
def ac0 : Int → Option Bool := upd (fun _ => none) 1 (some true)
theorem u32one : U32 1 := ⟨by decide, by decide⟩

set_option maxRecDepth 100000 in
set_option maxHeartbeats 2000000 in
theorem newRoles_calls (w : World) :
    Calls Tryz.prog 34 #[] w fun e w' => ∃ Rb M1 M2, e = .returned (.pointer (some ⟨Rb, 0, none⟩)) ∧ RoAt w' Rb M1 M2 1 ro0 ac0 ∧ Below w.heap.size w w' ∧ w.heap.size ≤ Rb ∧ w.heap.size ≤ M1 ∧ w.heap.size ≤ M2 ∧ Rb < w'.heap.size := by
  have hmm := @run_makeMap Tryz.prog
  obtain ⟨w1, hu1, hm1, hg1⟩ := (MapU.made w (.int .u8 0)).put Tryz.mapRole (by unfold maxLen; omega) u32one (.int .u8 1)
  obtain ⟨w2, hu2, hm2, hg2⟩ := (MapU.made w1 (.bool false)).put Tryz.mapActive (by unfold maxLen; omega) u32one (.bool true)
  have hz1 := hm1.lt
  have hz2 := hm2.lt
  have hs1 : w.heap.size + 1 ≤ w1.heap.size := by have := hg1.size; simpa using this
  have hs2 : w1.heap.size + 1 ≤ w2.heap.size := by have := hg2.size; simpa using this
  have hk1 : w2.heap[w.heap.size]? = w1.heap[w.heap.size]? := (hg2.block _ (by simp; omega) (by simp; omega)).trans (Below.heap_alloc _ _ _ hz1)
  have hb1 : Below w.heap.size w w1 := ((Below.refl _ _).alloc (Nat.le_refl _) _).grown hg1 (by simp) (fun j hj => by cases hj; exact Nat.le_refl _)
  have hb2 : Below w.heap.size w w2 := (hb1.trans (((Below.refl w.heap.size w1).alloc (by omega) _).grown hg2 (by simp; omega) (fun j hj => by cases hj; omega)))
  have HM1 := hide (hm1.same hk1)
  have HM2 := hide hm2
  have HB2 := hide hb2
  clear hm1 hm2 hg1 hg2 hk1 hb1 hb2
  go_enter Tryz.func34, Tryz.ntmps34
  go_wp2
  go_ret
  refine ⟨w2.heap.size, w.heap.size, w1.heap.size, rfl, ⟨heap_alloc_at _ _, ?_, ?_, by omega, by omega, by omega⟩, HB2.out.alloc (by omega) _, by omega, by omega, by omega, by simp⟩
  · have := HM1.out.same (w' := w2.alloc (.cells #[.map (some w.heap.size), .map (some w1.heap.size)] 123)) (Below.heap_alloc _ _ _ (by omega))
    rw [show (fun k => (ro0 k).map (Value.int .u8)) = upd (fun _ => none) 1 (some (.int .u8 1)) from (upd_map (Value.int .u8) (fun _ => none) 1 1).symm]
    exact this
  · have := HM2.out.same (w' := w2.alloc (.cells #[.map (some w.heap.size), .map (some w1.heap.size)] 123)) (Below.heap_alloc _ _ _ hz2)
    rw [show (fun k => (ac0 k).map Value.bool) = upd (fun _ => none) 1 (some (.bool true)) from (upd_map Value.bool (fun _ => none) 1 true).symm]
    exact this

/-- Was the step a command that was taken? -/
def accP (o : Op) (x : Rsp) : Bool := o.kind == 1 && isCmd o.req.kind && x.code == 0
attribute [local go_sem ↓] exec_ldOpz exec_stOpz exec_ldAns exec_stAns
attribute [local go_sem] run_ldOpz run_stOpz opA_size run_ldAns run_stAns ansCs_ones whole_alloc_lt whole_alloc_at whole_drew setRow_alloc_at setRow_alloc_lt rng_alloc_lt rng_alloc_at rng_drew rng_drewN

set_option maxRecDepth 100000 in
set_option maxHeartbeats 2000000 in
theorem accepted_calls (w : World) (o : Op) (lv dv : Value) (ca : Option Addr) (cn cc : Nat) (a : AnsR) :
    Calls Tryz.prog 31 #[.agg (opA o lv dv ca cn cc), .agg (ansCs a)] w fun e w' => e = .returned (.bool (accP o a.resp)) ∧ Below w.heap.size w w' := by
  obtain ⟨R, hR⟩ : ∃ R, R = accP o a.resp := ⟨_, rfl⟩
  rw [← hR]
  have HR := hide hR
  clear hR
  obtain ⟨b1, c1⟩ : ∃ b, (o.kind == 1) = b := ⟨_, rfl⟩
  obtain ⟨b2, c2⟩ : ∃ b, isCmd o.req.kind = b := ⟨_, rfl⟩
  obtain ⟨b3, c3⟩ : ∃ b, (a.resp.code == 0) = b := ⟨_, rfl⟩
  have HE : Hid (R = (b1 && b2 && b3)) := HR.out.trans (by unfold accP; rw [c1, c2, c3])
  have HB : Hid (Below w.heap.size w ((w.alloc (.cells (opA o lv dv ca cn cc) 61)).alloc (.cells (ansCs a) 77))) := ((Below.refl _ _).alloc (Nat.le_refl _) _).alloc (by simp) _
  have e0 : ((w.alloc (.cells (opA o lv dv ca cn cc) 61)).alloc (.cells (ansCs a) 77)).heap[w.heap.size]? = some (.cells (opA o lv dv ca cn cc) 61 (0, 0)) := (Below.heap_alloc _ _ _ (by simp)).trans (heap_alloc_at _ _)
  have e1 : ((w.alloc (.cells (opA o lv dv ca cn cc) 61)).alloc (.cells (ansCs a) 77)).heap[w.heap.size + 1]? = some (.cells (ansCs a) 77 (0, 0)) := box2 w _ _ _ _
  go_enter Tryz.func31, Tryz.ntmps31
  go_upto_region 1 with fail
  generalize ((w.alloc (.cells (opA o lv dv ca cn cc) 61)).alloc (.cells (ansCs a) 77)) = W at *
  have k0 := cells_all e0 0
  have k1 := cells_all e0 1
  have k2 := cells_all e1 0
  simp only [opA, ansCs, List.getElem?_toArray, List.getElem?_cons_zero, List.getElem?_cons_succ] at k0 k1 k2
  clear e0 e1
  cases b1 <;> cases b2 <;> cases b3
  all_goals
    go_wp2_with (go_at_call 26; refine (isCmd_calls _ _).mono ?_; rintro e w1 ⟨rfl, rfl⟩; rw [c2])
    go_ret
    exact ⟨by rw [HE.out]; rfl, HB.out⟩

end Go.Proofs.Qxb6500666aGreatDoor
