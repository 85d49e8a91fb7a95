/- DamagedStoreIsSurvived: bare requests as steps; reading. -/
import Derived.Test.Qxb6500666aGreatDoorDmgM
import Derived.Test.Qxb6500666aGreatDoorMapB
namespace Go.Proofs.Qxb6500666aGreatDoor
open Go.RowKit

/-- A step that is a bare request. -/
def qOp (r : Req) : Op := ⟨1, r, 0, 0, 0, [], ⟨0, 0, 0, 0, []⟩⟩
def qCs (r : Req) : Array Value := opA (qOp r) (.slice none 0 0) (.slice none 0 0) none 0 0
theorem qCs_size (r : Req) : (qCs r).size = 27 := rfl
theorem qCs_one (r : Req) : ∀ u ∈ (qCs r).toList, u.oneCell' = true := by simp [qCs, opA, Value.oneCell']
theorem qCs_ones (r : Req) : ones (qCs r) 27 = true := rfl
structure QOk (r : Req) : Prop where
  ok : r.Ok
  nil : r.list = []
theorem u64z : U64 0 := ⟨by decide, by decide⟩
theorem QOk.inn {r : Req} (h : QOk r) (W : World) : OpIn W (fun _ => True) (qOp r) (.slice none 0 0) (.slice none 0 0) none 0 0 := by
  have hl := h.nil
  refine ⟨⟨by show (0 : Int) ≤ 1; decide, by show (1 : Int) ≤ 255; decide⟩, h.ok, u32z, u8z, u64z, ?_, ?_, RArr.nil _ _ _ _, ?_, ?_, ?_, ?_, ?_⟩
  · show RArr _ _ _ _ _ r.list
    rw [hl]
    exact RArr.nil _ _ _ _
  · show ∀ y ∈ r.list, _
    rw [hl]
    intro y hy
    cases hy
  · exact RArr.nil _ _ _ _
  · exact ⟨u8z, u32z, i64z, u32z⟩
  · intro c hc
    cases hc
  · show 0 ≤ 65536
    omega
  · show 0 ≤ 65536
    omega
def cmdReq (k u : Int) : Req := ⟨k, u, 157785119, 4000000000, 0, 0, 0, 0, 6, 0, 0, 0, 0, 0, 0, 0, []⟩
theorem askReq_q {k i j : Int} (hk : U8 k) (hi : U32 i) (hj : U32 j) : QOk (askReq k i j) := ⟨askReq_ok hk hi hj, rfl⟩
theorem cmdReq_q {k u : Int} (hk : U8 k) (hu : U32 u) : QOk (cmdReq k u) :=
  ⟨⟨hk, hu, ⟨by show _ ≤ (157785119 : Int); decide, by show (157785119 : Int) ≤ _; decide⟩, ⟨by show (0 : Int) ≤ 4000000000; decide, by show (4000000000 : Int) ≤ _; decide⟩, u32z, u32z, u32z, u32z, ⟨by show (0 : Int) ≤ 6; decide, by show (6 : Int) ≤ 255; decide⟩, u8z, i64z, i64z, i64z, i64z, i64z, i64z⟩, rfl⟩
section
variable (ρ : Operand → Value) (dst : Option Tmp) (x y a0 a1 a2 a3 a4 a5 a6 a7 a8 : Operand) (ty : TypeId) (pos : String) (after : Array Edge) (guard : Option (Nat × Bool))
theorem exec_bdOp2 : execOp ρ { dst, op := .build 61 #[(0, x), (1, y)], type := ty, pos, after, guard } = (do pure (.value (← bdS 61 (ρ x) (ρ y)))) := by simp [execOp, bdS]
def bdCmdS (a0 a1 a2 a3 a4 : Value) : Sem Value := Instr.build 53 #[(0, a0), (1, a1), (2, a2), (3, a3), (8, a4)]
theorem exec_bdCmd : execOp ρ { dst, op := .build 53 #[(0, a0), (1, a1), (2, a2), (3, a3), (8, a4)], type := ty, pos, after, guard } = (do pure (.value (← bdCmdS (ρ a0) (ρ a1) (ρ a2) (ρ a3) (ρ a4)))) := by simp [execOp, bdCmdS]
def bs9S (a0 a1 a2 a3 a4 a5 a6 a7 a8 : Value) : Sem Value := Instr.buildSlice 22 9 #[(0, a0), (1, a1), (2, a2), (3, a3), (4, a4), (5, a5), (6, a6), (7, a7), (8, a8)]
theorem exec_bs9 : execOp ρ { dst, op := .buildSlice 22 9 #[(0, a0), (1, a1), (2, a2), (3, a3), (4, a4), (5, a5), (6, a6), (7, a7), (8, a8)], type := ty, pos, after, guard } = (do pure (.value (← bs9S (ρ a0) (ρ a1) (ρ a2) (ρ a3) (ρ a4) (ρ a5) (ρ a6) (ρ a7) (ρ a8)))) := by simp [execOp, bs9S]
theorem exec_bsOpz : execOp ρ { dst, op := .buildSlice 22 1 #[(0, x)], type := ty, pos, after, guard } = (do pure (.value (← bsS 22 (ρ x)))) := by simp [execOp, bsS]
end
theorem run_bdOp2 (w : World) (r : Req) : (bdS 61 (.int .u8 1) (.agg (reqA r (.slice none 0 0)))).run Tryz.prog w = .ok (.agg (qCs r)) w := by kernel_rfl
theorem run_bdCmd (w : World) (k u : Int) : (bdCmdS (.int .u8 k) (.int .u32 u) (.int .i64 157785119) (.int .u32 4000000000) (.int .u8 6)).run Tryz.prog w = .ok (.agg (reqA (cmdReq k u) (.slice none 0 0))) w := by kernel_rfl
theorem run_bsOpz (w : World) (r : Req) : (bsS 22 (.agg (qCs r))).run Tryz.prog w = .ok (.slice (some ⟨w.heap.size, 0, none⟩) 1 1) (w.alloc (.cells (qCs r) 61)) := by kernel_rfl
theorem run_bs9 (w : World) (r0 r1 r2 r3 r4 r5 r6 r7 r8 : Req) : (bs9S (.agg (qCs r0)) (.agg (qCs r1)) (.agg (qCs r2)) (.agg (qCs r3)) (.agg (qCs r4)) (.agg (qCs r5)) (.agg (qCs r6)) (.agg (qCs r7)) (.agg (qCs r8))).run Tryz.prog w = .ok (.slice (some ⟨w.heap.size, 0, none⟩) 9 9) (w.alloc (.cells (flat qCs [r0, r1, r2, r3, r4, r5, r6, r7, r8]).toArray 61)) := by kernel_rfl
theorem sizeStD (w : World) : (sizeOf 65).run Tryz.prog w = .ok 4 w := by kernel_rfl
section
variable (ρ : Operand → Value) (dst : Option Tmp) (x y : Operand) (ty : TypeId) (pos : String) (after : Array Edge) (guard : Option (Nat × Bool))
theorem exec_stStD : execOp ρ { dst, op := .store 65 x y, type := ty, pos, after, guard } = (do stS 65 (ρ x) (ρ y); pure .skip) := rfl
end
theorem run_stStD (w : World) (b : Nat) (cs : Array Value) : (stS 65 (.pointer (some ⟨b, 0, none⟩)) (.agg cs)).run Tryz.prog w = if whole w b 4 = true ∧ ones cs 4 = true then .ok () (w.setRow b cs) else (Instr.storeAt 65 (.pointer (some ⟨b, 0, none⟩)) (.agg cs)).run Tryz.prog w := run_stS sizeStD w b cs
/-- The store takes commands again. -/
theorem BX.setFull {w W : World} {K : Nat → Prop} {t : ST} (h : BX w W K t) (f : Bool) : BX w (W.setCell ⟨w.heap.size, 1, none⟩ (.bool f)) K { t with full := f } := by
  obtain ⟨Y, pv, A, ok, zs, x, h1, h2, h3, h4⟩ := h
  exact ⟨Y, pv, A, ok, zs, x, h1.setFull f, h2, ⟨h3.1, h3.2, h3.3, by have := h3.size; simpa using this, fun k hk => (Below.heap_setCell _ _ _ _ (by show k ≠ w.heap.size; omega)).trans (h3.block k hk)⟩, fun g hg => ⟨by have := (h4 g hg).1; simpa using this, (h4 g hg).2⟩⟩
/-- A slice literal is owned. -/
theorem OwnR.lit {α : Type} {w : World} {base : Nat} {e : TypeId} {size : Nat} {f : α → Array Value} (hf : ∀ x, (f x).size = size) (xs : List α) (hb : base ≤ w.heap.size) (hl : xs.length ≤ maxLen) : OwnR (w.alloc (.cells (flat f xs).toArray e)) base e size f (.slice (some ⟨w.heap.size, 0, none⟩) xs.length xs.length) xs := by
  have h := flat_length hf xs
  exact ⟨h, Or.inr ⟨_, _, _, rfl, hb, heap_alloc_at _ _, Nat.le_refl _, hl, by simpa using h, by rw [List.take_of_length_le (by rw [h]; exact Nat.le_refl _)]⟩⟩

attribute [local go_sem] ext_const Ext.cell Ext.frozen Ext.rng Ext.whole
attribute [local go_sem ↓] exec_ldOpz exec_stOpz exec_bdAsk exec_bdOp2
attribute [local go_sem] run_ldOpz run_stOpz run_bdAsk run_bdOp2 qCs_ones whole_alloc_lt whole_alloc_at whole_drew setRow_alloc_at setRow_alloc_lt rng_alloc_lt rng_alloc_at rng_drew rng_drewN
set_option maxRecDepth 100000 in
set_option maxHeartbeats 1000000 in
theorem reading_calls (W : World) (k i j : Int) : Calls Tryz.prog 76 #[.int .u8 k, .int .u32 i, .int .u32 j] W fun e w' => e = .returned (.agg (qCs (askReq k i j))) ∧ Below W.heap.size W w' := by
  go_enter Tryz.func76, Tryz.ntmps76
  go_wp2
  refine bodyPost_ret (results_cell1 Tryz.results76 _ _ W.heap.size _ _ _ _ rfl (heap_alloc_at W (.cells (qCs (askReq k i j)) 61)) Tryz.underlying61 rfl (by kernel_rfl)) rfl ?_
  exact ⟨rfl, (Below.refl _ _).alloc (Nat.le_refl _) _⟩

end Go.Proofs.Qxb6500666aGreatDoor
