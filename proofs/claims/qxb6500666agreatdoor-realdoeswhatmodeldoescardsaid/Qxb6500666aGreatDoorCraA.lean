/- sameAnswer, walked on the answers to readings. -/
import Derived.Test.Qxb6500666aGreatDoorCraR
import Derived.Test.Qxb6500666aGreatDoorStepP
namespace Go.Proofs.Qxb6500666aGreatDoor
open Go.RowKit
def ansOf (x : Rsp) : AnsR := { ans0 with resp := x }
/-- The two boxes. -/
structure A2 (w W : World) (x y : Rsp) : Prop where
  a : W.heap[w.heap.size]? = some (.cells (ansCs (ansOf x)) 77 (0, 0))
  b : W.heap[w.heap.size + 1]? = some (.cells (ansCs (ansOf y)) 77 (0, 0))
  bel : Below w.heap.size w W
theorem A2.start (w : World) (x y : Rsp) : A2 w ((w.alloc (.cells (ansCs (ansOf x)) 77)).alloc (.cells (ansCs (ansOf y)) 77)) x y :=
  ⟨(Below.heap_alloc _ _ _ (by simp)).trans (heap_alloc_at _ _), box2 w _ _ _ _, ((Below.refl _ _).alloc (Nat.le_refl _) _).alloc (by simp) _⟩
theorem A2.below {w W W' : World} {x y : Rsp} (h : A2 w W x y) (hb : Below W.heap.size W W') : A2 w W' x y :=
  ⟨(hb.block _ (blk_lt h.a)).trans h.a, (hb.block _ (blk_lt h.b)).trans h.b, h.bel.trans (hb.mono h.bel.size)⟩
theorem ansCs_rs (x : Rsp) : (ansCs (ansOf x)).extract 0 (0 + 40) = respCs x := by kernel_rfl
theorem ansCs_fl (x : Rsp) : (ansCs (ansOf x)).extract 41 (41 + 5) = fileCs 0 0 0 0 none 0 0 := by kernel_rfl
/-- The facts read out of one box. -/
structure C1 (W : World) (B : Nat) (x : Rsp) : Prop where
  rs : rng W B 0 40 = some (respCs x)
  c40 : W.cell? ⟨B, 40, none⟩ = some (.int .u8 0)
  fl : rng W B 41 5 = some (fileCs 0 0 0 0 none 0 0)
  c46 : W.cell? ⟨B, 46, none⟩ = some (.slice none 0 0)
  c47 : W.cell? ⟨B, 47, none⟩ = some (.slice none 0 0)
theorem C1.of {W : World} {B : Nat} {x : Rsp} {t : TypeId} (h : W.heap[B]? = some (.cells (ansCs (ansOf x)) t (0, 0))) : C1 W B x := by
  have h48 : rng W B 0 48 = some (ansCs (ansOf x)) := rng_whole h
  have s1 := rng_sub (o := 0) (m := 40) h48 (by decide)
  have s2 := rng_sub (o := 41) (m := 5) h48 (by decide)
  rw [ansCs_rs, Nat.zero_add] at s1
  rw [ansCs_fl, Nat.zero_add] at s2
  exact ⟨s1, cells_all h 40, s2, cells_all h 46, cells_all h 47⟩
attribute [local go_sem] ext_const Ext.cell Ext.frozen Ext.rng Ext.whole
attribute [local go_sem ↓] exec_ldRsp exec_ldFile
attribute [local go_sem] run_ldRsp run_ldFile
set_option maxRecDepth 100000 in
set_option maxHeartbeats 4000000 in
theorem sameAns_calls (w : World) (x y : Rsp) (h : RS w x y) :
    Calls Tryz.prog 20 #[.agg (ansCs (ansOf x)), .agg (ansCs (ansOf y))] w fun e w' => e = .returned (.bool true) ∧ Below w.heap.size w w' := by
  have HRS := hide (fun W (hb : Below w.heap.size w W) => h.below hb)
  have HR0 := hide (A2.start w x y)
  have HB : Hid (∀ W, A2 w W x y → C1 W w.heap.size x ∧ C1 W (w.heap.size + 1) y) := fun W hr => ⟨C1.of hr.a, C1.of hr.b⟩
  clear h
  go_enter Tryz.func20, Tryz.ntmps20
  go_upto_region 1 with fail
  change Code.wp _ _ _ _ ((w.alloc (.cells (ansCs (ansOf x)) 77)).alloc (.cells (ansCs (ansOf y)) 77))
  generalize (w.alloc (.cells (ansCs (ansOf x)) 77)).alloc (.cells (ansCs (ansOf y)) 77) = W0 at *
  obtain ⟨⟨p0, -, -, -, -⟩, ⟨q0, -, -, -, -⟩⟩ := HB.out _ HR0.out
  go_wp2_with (first
    | (go_at_call 77; refine (sameResp_calls _ x y (HRS.out _ HR0.out.bel)).mono ?_; rintro e W1 ⟨rfl, hb1⟩; have HR1 := hide (HR0.out.below hb1); clear hb1 p0 q0; obtain ⟨⟨-, p1, p2, -, -⟩, ⟨-, q1, q2, -, -⟩⟩ := HB.out _ HR1.out)
    | (go_at_call 45; refine (sameFile_calls _ (fun _ => True) (fun _ => True) 0 0 0 0 none none 0 0 0 [] (RArr.nil _ _ _ _) (RArr.nil _ _ _ _)).mono ?_; rintro e W2 ⟨rfl, hb2⟩; have HR2 := hide (HR1.out.below hb2); clear hb2 p1 q1 p2 q2; obtain ⟨⟨-, -, -, p3, -⟩, ⟨-, -, -, q3, -⟩⟩ := HB.out _ HR2.out)
    | (go_at_call 48; refine (sameBytW_calls _ _ _ [] RWk.nil RWk.nil).mono ?_; rintro e W3' ⟨rfl, k3, rfl⟩; have HR3 := hide (HR2.out.below (below_drewN (Below.refl _ _) k3)); generalize W2.drewN k3 = W3 at *; clear p3 q3; obtain ⟨⟨-, -, -, -, p4⟩, ⟨-, -, -, -, q4⟩⟩ := HB.out _ HR3.out)
    | (go_at_call 38; refine (sameTrail_calls _ (fun _ => True) (fun _ => True) (fun _ => True) (fun _ => True) _ _ [] [] (RArr.nil _ _ _ _) (RArr.nil _ _ _ _) (fun _ h => (by cases h)) (fun _ h => (by cases h)) rfl).mono ?_; rintro e W4 ⟨rfl, hb4⟩; have HR4 := hide (HR3.out.below hb4); clear hb4))
  go_ret
  exact ⟨rfl, HR4.out.bel⟩
end Go.Proofs.Qxb6500666aGreatDoor
