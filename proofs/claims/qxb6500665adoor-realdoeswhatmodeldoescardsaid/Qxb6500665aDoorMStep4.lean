/- The kinds of the model's step, walked. (Made by tools/mk_mstep.py.) -/
import Derived.Test.Qxb6500665aDoorMStep3
namespace Go.Proofs.Qxb6500665aDoor
open Go.RowKit Go.Proofs.Qxb6500665aDoor.Cal

attribute [local go_sem ↓] exec_stAnswer exec_ldAnswer exec_stAnalyte
attribute [local go_sem] run_stAnswer run_ldAnswer rng_drew ext_const Ext.cell Ext.frozen Ext.rng Ext.whole ones17 run_stAnalyte whole_alloc_lt whole_alloc_at whole_drew setRow_alloc_at setRow_alloc_lt setRow_drew

set_option maxRecDepth 100000 in
set_option maxHeartbeats 8000000 in
theorem mstep_default (w : World) (M base N a p s u : Nat) (v : Value) (C : Nat → Prop) (T : Tab) (full : Bool) (o : Op) (la va : Option Addr) (ln lc vn vc : Nat) (h : MAt w M base N a p s u v C T full)  (hk : o.kind < 1 ∨ 19 < o.kind) :
    Calls Tryd.prog 10 #[.pointer (some ⟨M, 0, none⟩), .agg (opCs o (.slice la ln lc) (.slice va vn vc))] w fun e w' => MSPost w w' e M base (N + 1) a p s u v C { code := 1 } T full := by
  obtain ⟨w4, HW4, hb4, hs4, hP, hX, hR, hA⟩ := mstep_start w o la va ln lc vn vc M
  obtain ⟨okind, oid, oref, omin, odel, ol0, ol1, ol2, olist, ovis⟩ := o
  simp only at hk
  simp only [opCs, ansCs, sv] at hX HW4 hR hA ⊢
  obtain ⟨AA, hAA⟩ : ∃ AA : PA, AA = { code := 1 } := ⟨_, rfl⟩
  obtain ⟨FF, hFF⟩ : ∃ FF : Bool, FF = full := ⟨_, rfl⟩
  obtain ⟨TT, hTT⟩ : ∃ TT : Tab, TT = T := ⟨_, rfl⟩
  rw [← hAA, ← hTT, ← hFF]
  have HAA := hide (And.intro hAA (And.intro hTT hFF))
  clear hAA hFF hTT
  have p0 : w4.cell? ⟨w.heap.size, 0, none⟩ = some (.pointer (some ⟨M, 0, none⟩)) := by rw [World.cell?, hP]; rfl
  have x0 : w4.cell? ⟨w.heap.size + 1, 0, none⟩ = some (.int .u8 okind) := by rw [World.cell?, hX]; rfl
  have x1 : w4.cell? ⟨w.heap.size + 1, 1, none⟩ = some (.int .u32 oid) := by rw [World.cell?, hX]; rfl
  have x2 : w4.cell? ⟨w.heap.size + 1, 2, none⟩ = some (.int .u32 oref) := by rw [World.cell?, hX]; rfl
  have x3 : w4.cell? ⟨w.heap.size + 1, 3, none⟩ = some (.int .i64 omin) := by rw [World.cell?, hX]; rfl
  have x4 : w4.cell? ⟨w.heap.size + 1, 4, none⟩ = some (.int .i64 odel) := by rw [World.cell?, hX]; rfl
  have x5 : w4.cell? ⟨w.heap.size + 1, 5, none⟩ = some (.int .i64 ol0) := by rw [World.cell?, hX]; rfl
  have x6 : w4.cell? ⟨w.heap.size + 1, 6, none⟩ = some (.int .i64 ol1) := by rw [World.cell?, hX]; rfl
  have x7 : w4.cell? ⟨w.heap.size + 1, 7, none⟩ = some (.int .i64 ol2) := by rw [World.cell?, hX]; rfl
  have x8 : w4.cell? ⟨w.heap.size + 1, 8, none⟩ = some (.slice la ln lc) := by rw [World.cell?, hX]; rfl
  have x9 : w4.cell? ⟨w.heap.size + 1, 9, none⟩ = some (.slice va vn vc) := by rw [World.cell?, hX]; rfl
  have HM := hide h
  have HM4 := hide (h.ext hb4)
  have hMl := h.hlt M (Or.inl (by simp))
  have hM4 : M < w.heap.size + 4 := by omega
  have hM4' : M < w4.heap.size := by omega
  have HB4 := hide hb4
  have HR := hide hR
  have HA := hide hA
  have HX := hide hX
  have HP := hide hP
  have hbs := h.bs
  have k1 : (okind == 1) = false := by simp; omega
  have k2 : (okind == 2) = false := by simp; omega
  have k3 : (okind == 3) = false := by simp; omega
  have k4 : (okind == 4) = false := by simp; omega
  have k5 : (okind == 5) = false := by simp; omega
  have k6 : (okind == 6) = false := by simp; omega
  have k7 : (okind == 7) = false := by simp; omega
  have k8 : (okind == 8) = false := by simp; omega
  have k9 : (okind == 9) = false := by simp; omega
  have k10 : (okind == 10) = false := by simp; omega
  have k11 : (okind == 11) = false := by simp; omega
  have k12 : (okind == 12) = false := by simp; omega
  have k13 : (okind == 13) = false := by simp; omega
  have k14 : (okind == 14) = false := by simp; omega
  have k15 : (okind == 15) = false := by simp; omega
  have k16 : (okind == 16) = false := by simp; omega
  have k17 : (okind == 17) = false := by simp; omega
  have k18 : (okind == 18) = false := by simp; omega
  have k19 : (okind == 19) = false := by simp; omega
  clear hk
  clear h hb4 hR hA hX hP
  go_enter Tryd.func10, Tryd.ntmps10
  go_upto_region 2 with fail
  rw [← HW4.out]
  clear HW4
  have hA5 : w4.heap[w.heap.size + 3]? = _ := HA.out
  have a0 : w4.cell? ⟨w.heap.size + 1 + 1 + 1, 0, none⟩ = some (.int .u8 0) := by rw [World.cell?, show w.heap.size + 1 + 1 + 1 = w.heap.size + 3 from rfl, hA5]; rfl
  have f0 : w4.frozen? ⟨w.heap.size + 1 + 1 + 1, 0, none⟩ = false := by rw [World.frozen?, show w.heap.size + 1 + 1 + 1 = w.heap.size + 3 from rfl, hA5]; rfl
  go_upto_region 75 with fail
  obtain ⟨W, hW⟩ : ∃ W, W = (w4.setCell ⟨w.heap.size + 1 + 1 + 1, 0, none⟩ (.int .u8 1)) := ⟨_, rfl⟩
  have hS0 : (w4.setCell ⟨w.heap.size + 1 + 1 + 1, 0, none⟩ (.int .u8 1)).heap[w.heap.size + 3]? = some (.cells #[.int .u8 1, .int .i64 0, .slice none 0 0, .int .u32 0, .int .u8 0, .int .i64 0, .int .i64 0, .int .u32 0, .int .i64 0, .slice none 0 0, .int .u32 0, .int .i64 0, .int .i64 0, .int .i64 0, .int .u32 0, .int .u32 0, .int .i64 0] 47 (0, 0)) := heap_setCell_same _ (w.heap.size + 3) 0 _ _ (.int .u8 1) hA5
  have hAW : W.heap[w.heap.size + 3]? = some (.cells #[.int .u8 1, .int .i64 0, .slice none 0 0, .int .u32 0, .int .u8 0, .int .i64 0, .int .i64 0, .int .u32 0, .int .i64 0, .slice none 0 0, .int .u32 0, .int .i64 0, .int .i64 0, .int .i64 0, .int .u32 0, .int .u32 0, .int .i64 0] 47 (0, 0)) := by rw [hW]; exact hS0
  have hWo : ∀ b, b ≠ w.heap.size + 3 → W.heap[b]? = w4.heap[b]? := fun b hb => by rw [hW]; exact (Below.heap_setCell _ _ _ _ hb)
  have hWs : w4.heap.size ≤ W.heap.size := by rw [hW]; simp [World.setCell]
  have hWb : Below base w4 W := by rw [hW]; exact ((Below.refl _ _).setCell (p := ⟨w.heap.size + 1 + 1 + 1, 0, none⟩) (by show base ≤ w.heap.size + 1 + 1 + 1; omega) _)
  rw [← hW]
  have hRW : W.heap[w.heap.size + 2]? = some (.cells #[.int .u8 0, .int .i64 0, .slice none 0 0, .int .u32 0, .int .u8 0, .int .i64 0, .int .i64 0, .int .u32 0, .int .i64 0, .slice none 0 0, .int .u32 0, .int .i64 0, .int .i64 0, .int .i64 0, .int .u32 0, .int .u32 0, .int .i64 0] 47 (0, 0)) := (hWo _ (by omega)).trans (HR.out)
  have rz : rng W (w.heap.size + 1 + 1 + 1) 0 17 = some #[.int .u8 1, .int .i64 0, .slice none 0 0, .int .u32 0, .int .u8 0, .int .i64 0, .int .i64 0, .int .u32 0, .int .i64 0, .slice none 0 0, .int .u32 0, .int .i64 0, .int .i64 0, .int .i64 0, .int .u32 0, .int .u32 0, .int .i64 0] := rng_whole hAW
  have hwh : whole W (w.heap.size + 1 + 1) 17 = true := whole_of_heap hRW
  have HWO := hide hWo
  have HWB := hide hWb
  have HRW := hide hRW
  clear hW hWo hWb hRW hAW
  go_wp2
  have hfin := heap_setRow_at (ds := #[.int .u8 1, .int .i64 0, .slice none 0 0, .int .u32 0, .int .u8 0, .int .i64 0, .int .i64 0, .int .u32 0, .int .i64 0, .slice none 0 0, .int .u32 0, .int .i64 0, .int .i64 0, .int .i64 0, .int .u32 0, .int .u32 0, .int .i64 0]) HRW.out
  refine bodyPost_ret (results_cell1 Tryd.results10 _ _ (w.heap.size + 2) _ _ _ _ rfl hfin Tryd.underlying47 rfl (by kernel_rfl)) rfl ?_
  have hoth : ∀ b, b ≠ w.heap.size + 2 → b ≠ w.heap.size + 3 → (W.setRow (w.heap.size + 2) #[.int .u8 1, .int .i64 0, .slice none 0 0, .int .u32 0, .int .u8 0, .int .i64 0, .int .i64 0, .int .u32 0, .int .i64 0, .slice none 0 0, .int .u32 0, .int .i64 0, .int .i64 0, .int .i64 0, .int .u32 0, .int .u32 0, .int .i64 0]).heap[b]? = w4.heap[b]? := fun b h1 h2 => (setRow_other _ _ _ _ h1).trans (HWO.out b h2)
  have hcm := MCmd.around HM.out HB4.out hs4 (MCmd.refl HM4.out) hoth (by simp; omega) (HWB.out.trans (below_setRow' _ _ (by omega)))
  exact ret_ms HAA ⟨_, _, { code := 1 }, rfl, hcm, ⟨u32s_none _, visits_any (visits_nil _ (fun _ => True)), by simp⟩⟩

set_option maxRecDepth 100000 in
set_option maxHeartbeats 8000000 in
theorem mstep_19 (w : World) (M base N a p s u : Nat) (v : Value) (C : Nat → Prop) (T : Tab) (full : Bool) (o : Op) (la va : Option Addr) (ln lc vn vc : Nat) (h : MAt w M base N a p s u v C T full)  (hk : o.kind = 19) :
    Calls Tryd.prog 10 #[.pointer (some ⟨M, 0, none⟩), .agg (opCs o (.slice la ln lc) (.slice va vn vc))] w fun e w' => MSPost w w' e M base (N + 1) a p s u v C {} T full := by
  obtain ⟨w4, HW4, hb4, hs4, hP, hX, hR, hA⟩ := mstep_start w o la va ln lc vn vc M
  obtain ⟨okind, oid, oref, omin, odel, ol0, ol1, ol2, olist, ovis⟩ := o
  simp only at hk
  simp only [opCs, ansCs, sv] at hX HW4 hR hA ⊢
  obtain ⟨AA, hAA⟩ : ∃ AA : PA, AA = {} := ⟨_, rfl⟩
  obtain ⟨FF, hFF⟩ : ∃ FF : Bool, FF = full := ⟨_, rfl⟩
  obtain ⟨TT, hTT⟩ : ∃ TT : Tab, TT = T := ⟨_, rfl⟩
  rw [← hAA, ← hTT, ← hFF]
  have HAA := hide (And.intro hAA (And.intro hTT hFF))
  clear hAA hFF hTT
  have p0 : w4.cell? ⟨w.heap.size, 0, none⟩ = some (.pointer (some ⟨M, 0, none⟩)) := by rw [World.cell?, hP]; rfl
  have x0 : w4.cell? ⟨w.heap.size + 1, 0, none⟩ = some (.int .u8 okind) := by rw [World.cell?, hX]; rfl
  have x1 : w4.cell? ⟨w.heap.size + 1, 1, none⟩ = some (.int .u32 oid) := by rw [World.cell?, hX]; rfl
  have x2 : w4.cell? ⟨w.heap.size + 1, 2, none⟩ = some (.int .u32 oref) := by rw [World.cell?, hX]; rfl
  have x3 : w4.cell? ⟨w.heap.size + 1, 3, none⟩ = some (.int .i64 omin) := by rw [World.cell?, hX]; rfl
  have x4 : w4.cell? ⟨w.heap.size + 1, 4, none⟩ = some (.int .i64 odel) := by rw [World.cell?, hX]; rfl
  have x5 : w4.cell? ⟨w.heap.size + 1, 5, none⟩ = some (.int .i64 ol0) := by rw [World.cell?, hX]; rfl
  have x6 : w4.cell? ⟨w.heap.size + 1, 6, none⟩ = some (.int .i64 ol1) := by rw [World.cell?, hX]; rfl
  have x7 : w4.cell? ⟨w.heap.size + 1, 7, none⟩ = some (.int .i64 ol2) := by rw [World.cell?, hX]; rfl
  have x8 : w4.cell? ⟨w.heap.size + 1, 8, none⟩ = some (.slice la ln lc) := by rw [World.cell?, hX]; rfl
  have x9 : w4.cell? ⟨w.heap.size + 1, 9, none⟩ = some (.slice va vn vc) := by rw [World.cell?, hX]; rfl
  have HM := hide h
  have HM4 := hide (h.ext hb4)
  have hMl := h.hlt M (Or.inl (by simp))
  have hM4 : M < w.heap.size + 4 := by omega
  have hM4' : M < w4.heap.size := by omega
  have HB4 := hide hb4
  have HR := hide hR
  have HA := hide hA
  have HX := hide hX
  have HP := hide hP
  have hbs := h.bs
  subst hk
  clear h hb4 hR hA hX hP
  go_enter Tryd.func10, Tryd.ntmps10
  go_upto_region 2 with fail
  rw [← HW4.out]
  clear HW4
  have hA5 : w4.heap[w.heap.size + 3]? = _ := HA.out
  have a0 : w4.cell? ⟨w.heap.size + 1 + 1 + 1, 0, none⟩ = some (.int .u8 0) := by rw [World.cell?, show w.heap.size + 1 + 1 + 1 = w.heap.size + 3 from rfl, hA5]; rfl
  have f0 : w4.frozen? ⟨w.heap.size + 1 + 1 + 1, 0, none⟩ = false := by rw [World.frozen?, show w.heap.size + 1 + 1 + 1 = w.heap.size + 3 from rfl, hA5]; rfl
  go_upto_region 75 with fail
  obtain ⟨W, hW⟩ : ∃ W, W = w4 := ⟨_, rfl⟩
  have hAW : W.heap[w.heap.size + 3]? = some (.cells #[.int .u8 0, .int .i64 0, .slice none 0 0, .int .u32 0, .int .u8 0, .int .i64 0, .int .i64 0, .int .u32 0, .int .i64 0, .slice none 0 0, .int .u32 0, .int .i64 0, .int .i64 0, .int .i64 0, .int .u32 0, .int .u32 0, .int .i64 0] 47 (0, 0)) := by rw [hW]; exact hA5
  have hWo : ∀ b, b ≠ w.heap.size + 3 → W.heap[b]? = w4.heap[b]? := fun b _ => congrArg (fun X : World => X.heap[b]?) hW
  have hWs : w4.heap.size ≤ W.heap.size := Nat.le_of_eq (congrArg (fun X : World => X.heap.size) hW.symm)
  have hWb : Below base w4 W := by subst hW; exact Below.refl _ _
  rw [← hW]
  have hRW : W.heap[w.heap.size + 2]? = some (.cells #[.int .u8 0, .int .i64 0, .slice none 0 0, .int .u32 0, .int .u8 0, .int .i64 0, .int .i64 0, .int .u32 0, .int .i64 0, .slice none 0 0, .int .u32 0, .int .i64 0, .int .i64 0, .int .i64 0, .int .u32 0, .int .u32 0, .int .i64 0] 47 (0, 0)) := (hWo _ (by omega)).trans (HR.out)
  have rz : rng W (w.heap.size + 1 + 1 + 1) 0 17 = some #[.int .u8 0, .int .i64 0, .slice none 0 0, .int .u32 0, .int .u8 0, .int .i64 0, .int .i64 0, .int .u32 0, .int .i64 0, .slice none 0 0, .int .u32 0, .int .i64 0, .int .i64 0, .int .i64 0, .int .u32 0, .int .u32 0, .int .i64 0] := rng_whole hAW
  have hwh : whole W (w.heap.size + 1 + 1) 17 = true := whole_of_heap hRW
  have HWO := hide hWo
  have HWB := hide hWb
  have HRW := hide hRW
  clear hW hWo hWb hRW hAW
  go_wp2
  have hfin := heap_setRow_at (ds := #[.int .u8 0, .int .i64 0, .slice none 0 0, .int .u32 0, .int .u8 0, .int .i64 0, .int .i64 0, .int .u32 0, .int .i64 0, .slice none 0 0, .int .u32 0, .int .i64 0, .int .i64 0, .int .i64 0, .int .u32 0, .int .u32 0, .int .i64 0]) HRW.out
  refine bodyPost_ret (results_cell1 Tryd.results10 _ _ (w.heap.size + 2) _ _ _ _ rfl hfin Tryd.underlying47 rfl (by kernel_rfl)) rfl ?_
  have hoth : ∀ b, b ≠ w.heap.size + 2 → b ≠ w.heap.size + 3 → (W.setRow (w.heap.size + 2) #[.int .u8 0, .int .i64 0, .slice none 0 0, .int .u32 0, .int .u8 0, .int .i64 0, .int .i64 0, .int .u32 0, .int .i64 0, .slice none 0 0, .int .u32 0, .int .i64 0, .int .i64 0, .int .i64 0, .int .u32 0, .int .u32 0, .int .i64 0]).heap[b]? = w4.heap[b]? := fun b h1 h2 => (setRow_other _ _ _ _ h1).trans (HWO.out b h2)
  have hcm := MCmd.around HM.out HB4.out hs4 (MCmd.refl HM4.out) hoth (by simp; omega) (HWB.out.trans (below_setRow' _ _ (by omega)))
  exact ret_ms HAA ⟨_, _, {}, rfl, hcm, ⟨u32s_none _, visits_any (visits_nil _ (fun _ => True)), by simp⟩⟩

set_option maxRecDepth 100000 in
set_option maxHeartbeats 8000000 in
theorem mstep_16 (w : World) (M base N a p s u : Nat) (v : Value) (C : Nat → Prop) (T : Tab) (full : Bool) (o : Op) (la va : Option Addr) (ln lc vn vc : Nat) (h : MAt w M base N a p s u v C T full)  (hk : o.kind = 16) :
    Calls Tryd.prog 10 #[.pointer (some ⟨M, 0, none⟩), .agg (opCs o (.slice la ln lc) (.slice va vn vc))] w fun e w' => MSPost w w' e M base (N + 1) a p s u v C { code := (dayR o.minute).1, num := (dayR o.minute).2 } T full := by
  obtain ⟨w4, HW4, hb4, hs4, hP, hX, hR, hA⟩ := mstep_start w o la va ln lc vn vc M
  obtain ⟨okind, oid, oref, omin, odel, ol0, ol1, ol2, olist, ovis⟩ := o
  simp only at hk
  simp only [opCs, ansCs, sv] at hX HW4 hR hA ⊢
  obtain ⟨AA, hAA⟩ : ∃ AA : PA, AA = { code := (dayR omin).1, num := (dayR omin).2 } := ⟨_, rfl⟩
  obtain ⟨FF, hFF⟩ : ∃ FF : Bool, FF = full := ⟨_, rfl⟩
  obtain ⟨TT, hTT⟩ : ∃ TT : Tab, TT = T := ⟨_, rfl⟩
  rw [← hAA, ← hTT, ← hFF]
  have HAA := hide (And.intro hAA (And.intro hTT hFF))
  clear hAA hFF hTT
  have p0 : w4.cell? ⟨w.heap.size, 0, none⟩ = some (.pointer (some ⟨M, 0, none⟩)) := by rw [World.cell?, hP]; rfl
  have x0 : w4.cell? ⟨w.heap.size + 1, 0, none⟩ = some (.int .u8 okind) := by rw [World.cell?, hX]; rfl
  have x1 : w4.cell? ⟨w.heap.size + 1, 1, none⟩ = some (.int .u32 oid) := by rw [World.cell?, hX]; rfl
  have x2 : w4.cell? ⟨w.heap.size + 1, 2, none⟩ = some (.int .u32 oref) := by rw [World.cell?, hX]; rfl
  have x3 : w4.cell? ⟨w.heap.size + 1, 3, none⟩ = some (.int .i64 omin) := by rw [World.cell?, hX]; rfl
  have x4 : w4.cell? ⟨w.heap.size + 1, 4, none⟩ = some (.int .i64 odel) := by rw [World.cell?, hX]; rfl
  have x5 : w4.cell? ⟨w.heap.size + 1, 5, none⟩ = some (.int .i64 ol0) := by rw [World.cell?, hX]; rfl
  have x6 : w4.cell? ⟨w.heap.size + 1, 6, none⟩ = some (.int .i64 ol1) := by rw [World.cell?, hX]; rfl
  have x7 : w4.cell? ⟨w.heap.size + 1, 7, none⟩ = some (.int .i64 ol2) := by rw [World.cell?, hX]; rfl
  have x8 : w4.cell? ⟨w.heap.size + 1, 8, none⟩ = some (.slice la ln lc) := by rw [World.cell?, hX]; rfl
  have x9 : w4.cell? ⟨w.heap.size + 1, 9, none⟩ = some (.slice va vn vc) := by rw [World.cell?, hX]; rfl
  have HM := hide h
  have HM4 := hide (h.ext hb4)
  have hMl := h.hlt M (Or.inl (by simp))
  have hM4 : M < w.heap.size + 4 := by omega
  have hM4' : M < w4.heap.size := by omega
  have HB4 := hide hb4
  have HR := hide hR
  have HA := hide hA
  have HX := hide hX
  have HP := hide hP
  have hbs := h.bs
  subst hk
  clear h hb4 hR hA hX hP
  go_enter Tryd.func10, Tryd.ntmps10
  go_upto_region 2 with fail
  rw [← HW4.out]
  clear HW4
  by_cases hin : 0 ≤ omin ∧ omin ≤ 157785119
  · have hic : inCal omin = true := decide_eq_true hin
    have hquo : Int.tdiv omin 1440 = omin / 1440 := Int.tdiv_eq_ediv_of_nonneg hin.1
    obtain ⟨i1, i2⟩ := hin
    have HE : Hid (AA = ({ num := omin / 1440 } : PA) ∧ TT = T ∧ FF = full) := ⟨by rw [HAA.out.1, dayR, if_neg (by omega)], HAA.out.2⟩
    have hA5 : w4.heap[w.heap.size + 3]? = _ := HA.out
    have a0 : w4.cell? ⟨w.heap.size + 1 + 1 + 1, 0, none⟩ = some (.int .u8 0) := by rw [World.cell?, show w.heap.size + 1 + 1 + 1 = w.heap.size + 3 from rfl, hA5]; rfl
    have f0 : w4.frozen? ⟨w.heap.size + 1 + 1 + 1, 0, none⟩ = false := by rw [World.frozen?, show w.heap.size + 1 + 1 + 1 = w.heap.size + 3 from rfl, hA5]; rfl
    have a1 : w4.cell? ⟨w.heap.size + 1 + 1 + 1, 1, none⟩ = some (.int .i64 0) := by rw [World.cell?, show w.heap.size + 1 + 1 + 1 = w.heap.size + 3 from rfl, hA5]; rfl
    have f1 : w4.frozen? ⟨w.heap.size + 1 + 1 + 1, 1, none⟩ = false := by rw [World.frozen?, show w.heap.size + 1 + 1 + 1 = w.heap.size + 3 from rfl, hA5]; rfl
    go_upto_region 75 with (go_at_call 45; refine (inCal_calls omin _).mono ?_; rintro e w' ⟨rfl, rfl⟩)
    obtain ⟨W, hW⟩ : ∃ W, W = (w4.setCell ⟨w.heap.size + 1 + 1 + 1, 1, none⟩ (.int .i64 (omin / 1440))) := ⟨_, rfl⟩
    have hS0 : (w4.setCell ⟨w.heap.size + 1 + 1 + 1, 1, none⟩ (.int .i64 (omin / 1440))).heap[w.heap.size + 3]? = some (.cells #[.int .u8 0, .int .i64 (omin / 1440), .slice none 0 0, .int .u32 0, .int .u8 0, .int .i64 0, .int .i64 0, .int .u32 0, .int .i64 0, .slice none 0 0, .int .u32 0, .int .i64 0, .int .i64 0, .int .i64 0, .int .u32 0, .int .u32 0, .int .i64 0] 47 (0, 0)) := heap_setCell_same _ (w.heap.size + 3) 1 _ _ (.int .i64 (omin / 1440)) hA5
    have hAW : W.heap[w.heap.size + 3]? = some (.cells #[.int .u8 0, .int .i64 (omin / 1440), .slice none 0 0, .int .u32 0, .int .u8 0, .int .i64 0, .int .i64 0, .int .u32 0, .int .i64 0, .slice none 0 0, .int .u32 0, .int .i64 0, .int .i64 0, .int .i64 0, .int .u32 0, .int .u32 0, .int .i64 0] 47 (0, 0)) := by rw [hW]; exact hS0
    have hWo : ∀ b, b ≠ w.heap.size + 3 → W.heap[b]? = w4.heap[b]? := fun b hb => by rw [hW]; exact (Below.heap_setCell _ _ _ _ hb)
    have hWs : w4.heap.size ≤ W.heap.size := by rw [hW]; simp [World.setCell]
    have hWb : Below base w4 W := by rw [hW]; exact ((Below.refl _ _).setCell (p := ⟨w.heap.size + 1 + 1 + 1, 1, none⟩) (by show base ≤ w.heap.size + 1 + 1 + 1; omega) _)
    rw [← hW]
    have hRW : W.heap[w.heap.size + 2]? = some (.cells #[.int .u8 0, .int .i64 0, .slice none 0 0, .int .u32 0, .int .u8 0, .int .i64 0, .int .i64 0, .int .u32 0, .int .i64 0, .slice none 0 0, .int .u32 0, .int .i64 0, .int .i64 0, .int .i64 0, .int .u32 0, .int .u32 0, .int .i64 0] 47 (0, 0)) := (hWo _ (by omega)).trans (HR.out)
    have rz : rng W (w.heap.size + 1 + 1 + 1) 0 17 = some #[.int .u8 0, .int .i64 (omin / 1440), .slice none 0 0, .int .u32 0, .int .u8 0, .int .i64 0, .int .i64 0, .int .u32 0, .int .i64 0, .slice none 0 0, .int .u32 0, .int .i64 0, .int .i64 0, .int .i64 0, .int .u32 0, .int .u32 0, .int .i64 0] := rng_whole hAW
    have hwh : whole W (w.heap.size + 1 + 1) 17 = true := whole_of_heap hRW
    have HWO := hide hWo
    have HWB := hide hWb
    have HRW := hide hRW
    clear hW hWo hWb hRW hAW
    go_wp2
    have hfin := heap_setRow_at (ds := #[.int .u8 0, .int .i64 (omin / 1440), .slice none 0 0, .int .u32 0, .int .u8 0, .int .i64 0, .int .i64 0, .int .u32 0, .int .i64 0, .slice none 0 0, .int .u32 0, .int .i64 0, .int .i64 0, .int .i64 0, .int .u32 0, .int .u32 0, .int .i64 0]) HRW.out
    refine bodyPost_ret (results_cell1 Tryd.results10 _ _ (w.heap.size + 2) _ _ _ _ rfl hfin Tryd.underlying47 rfl (by kernel_rfl)) rfl ?_
    have hoth : ∀ b, b ≠ w.heap.size + 2 → b ≠ w.heap.size + 3 → (W.setRow (w.heap.size + 2) #[.int .u8 0, .int .i64 (omin / 1440), .slice none 0 0, .int .u32 0, .int .u8 0, .int .i64 0, .int .i64 0, .int .u32 0, .int .i64 0, .slice none 0 0, .int .u32 0, .int .i64 0, .int .i64 0, .int .i64 0, .int .u32 0, .int .u32 0, .int .i64 0]).heap[b]? = w4.heap[b]? := fun b h1 h2 => (setRow_other _ _ _ _ h1).trans (HWO.out b h2)
    have hcm := MCmd.around HM.out HB4.out hs4 (MCmd.refl HM4.out) hoth (by simp; omega) (HWB.out.trans (below_setRow' _ _ (by omega)))
    exact ret_ms HE ⟨_, _, { num := omin / 1440 }, rfl, hcm, ⟨u32s_none _, visits_any (visits_nil _ (fun _ => True)), by simp⟩⟩

  · have hic : inCal omin = false := decide_eq_false hin
    have HE : Hid (AA = ({ code := 3 } : PA) ∧ TT = T ∧ FF = full) := ⟨by rw [HAA.out.1, dayR, if_pos (by omega)], HAA.out.2⟩
    clear hin
    have hA5 : w4.heap[w.heap.size + 3]? = _ := HA.out
    have a0 : w4.cell? ⟨w.heap.size + 1 + 1 + 1, 0, none⟩ = some (.int .u8 0) := by rw [World.cell?, show w.heap.size + 1 + 1 + 1 = w.heap.size + 3 from rfl, hA5]; rfl
    have f0 : w4.frozen? ⟨w.heap.size + 1 + 1 + 1, 0, none⟩ = false := by rw [World.frozen?, show w.heap.size + 1 + 1 + 1 = w.heap.size + 3 from rfl, hA5]; rfl
    have a1 : w4.cell? ⟨w.heap.size + 1 + 1 + 1, 1, none⟩ = some (.int .i64 0) := by rw [World.cell?, show w.heap.size + 1 + 1 + 1 = w.heap.size + 3 from rfl, hA5]; rfl
    have f1 : w4.frozen? ⟨w.heap.size + 1 + 1 + 1, 1, none⟩ = false := by rw [World.frozen?, show w.heap.size + 1 + 1 + 1 = w.heap.size + 3 from rfl, hA5]; rfl
    go_upto_region 75 with (go_at_call 45; refine (inCal_calls omin _).mono ?_; rintro e w' ⟨rfl, rfl⟩)
    obtain ⟨W, hW⟩ : ∃ W, W = (w4.setCell ⟨w.heap.size + 1 + 1 + 1, 0, none⟩ (.int .u8 3)) := ⟨_, rfl⟩
    have hS0 : (w4.setCell ⟨w.heap.size + 1 + 1 + 1, 0, none⟩ (.int .u8 3)).heap[w.heap.size + 3]? = some (.cells #[.int .u8 3, .int .i64 0, .slice none 0 0, .int .u32 0, .int .u8 0, .int .i64 0, .int .i64 0, .int .u32 0, .int .i64 0, .slice none 0 0, .int .u32 0, .int .i64 0, .int .i64 0, .int .i64 0, .int .u32 0, .int .u32 0, .int .i64 0] 47 (0, 0)) := heap_setCell_same _ (w.heap.size + 3) 0 _ _ (.int .u8 3) hA5
    have hAW : W.heap[w.heap.size + 3]? = some (.cells #[.int .u8 3, .int .i64 0, .slice none 0 0, .int .u32 0, .int .u8 0, .int .i64 0, .int .i64 0, .int .u32 0, .int .i64 0, .slice none 0 0, .int .u32 0, .int .i64 0, .int .i64 0, .int .i64 0, .int .u32 0, .int .u32 0, .int .i64 0] 47 (0, 0)) := by rw [hW]; exact hS0
    have hWo : ∀ b, b ≠ w.heap.size + 3 → W.heap[b]? = w4.heap[b]? := fun b hb => by rw [hW]; exact (Below.heap_setCell _ _ _ _ hb)
    have hWs : w4.heap.size ≤ W.heap.size := by rw [hW]; simp [World.setCell]
    have hWb : Below base w4 W := by rw [hW]; exact ((Below.refl _ _).setCell (p := ⟨w.heap.size + 1 + 1 + 1, 0, none⟩) (by show base ≤ w.heap.size + 1 + 1 + 1; omega) _)
    rw [← hW]
    have hRW : W.heap[w.heap.size + 2]? = some (.cells #[.int .u8 0, .int .i64 0, .slice none 0 0, .int .u32 0, .int .u8 0, .int .i64 0, .int .i64 0, .int .u32 0, .int .i64 0, .slice none 0 0, .int .u32 0, .int .i64 0, .int .i64 0, .int .i64 0, .int .u32 0, .int .u32 0, .int .i64 0] 47 (0, 0)) := (hWo _ (by omega)).trans (HR.out)
    have rz : rng W (w.heap.size + 1 + 1 + 1) 0 17 = some #[.int .u8 3, .int .i64 0, .slice none 0 0, .int .u32 0, .int .u8 0, .int .i64 0, .int .i64 0, .int .u32 0, .int .i64 0, .slice none 0 0, .int .u32 0, .int .i64 0, .int .i64 0, .int .i64 0, .int .u32 0, .int .u32 0, .int .i64 0] := rng_whole hAW
    have hwh : whole W (w.heap.size + 1 + 1) 17 = true := whole_of_heap hRW
    have HWO := hide hWo
    have HWB := hide hWb
    have HRW := hide hRW
    clear hW hWo hWb hRW hAW
    go_wp2
    have hfin := heap_setRow_at (ds := #[.int .u8 3, .int .i64 0, .slice none 0 0, .int .u32 0, .int .u8 0, .int .i64 0, .int .i64 0, .int .u32 0, .int .i64 0, .slice none 0 0, .int .u32 0, .int .i64 0, .int .i64 0, .int .i64 0, .int .u32 0, .int .u32 0, .int .i64 0]) HRW.out
    refine bodyPost_ret (results_cell1 Tryd.results10 _ _ (w.heap.size + 2) _ _ _ _ rfl hfin Tryd.underlying47 rfl (by kernel_rfl)) rfl ?_
    have hoth : ∀ b, b ≠ w.heap.size + 2 → b ≠ w.heap.size + 3 → (W.setRow (w.heap.size + 2) #[.int .u8 3, .int .i64 0, .slice none 0 0, .int .u32 0, .int .u8 0, .int .i64 0, .int .i64 0, .int .u32 0, .int .i64 0, .slice none 0 0, .int .u32 0, .int .i64 0, .int .i64 0, .int .i64 0, .int .u32 0, .int .u32 0, .int .i64 0]).heap[b]? = w4.heap[b]? := fun b h1 h2 => (setRow_other _ _ _ _ h1).trans (HWO.out b h2)
    have hcm := MCmd.around HM.out HB4.out hs4 (MCmd.refl HM4.out) hoth (by simp; omega) (HWB.out.trans (below_setRow' _ _ (by omega)))
    exact ret_ms HE ⟨_, _, { code := 3 }, rfl, hcm, ⟨u32s_none _, visits_any (visits_nil _ (fun _ => True)), by simp⟩⟩

set_option maxRecDepth 100000 in
set_option maxHeartbeats 8000000 in
theorem mstep_17 (w : World) (M base N a p s u : Nat) (v : Value) (C : Nat → Prop) (T : Tab) (full : Bool) (o : Op) (la va : Option Addr) (ln lc vn vc : Nat) (h : MAt w M base N a p s u v C T full) (hdl : I64 o.delta) (hk : o.kind = 17) :
    Calls Tryd.prog 10 #[.pointer (some ⟨M, 0, none⟩), .agg (opCs o (.slice la ln lc) (.slice va vn vc))] w fun e w' => MSPost w w' e M base (N + 1) a p s u v C { code := (addR o.minute o.delta).1, num := (addR o.minute o.delta).2 } T full := by
  obtain ⟨w4, HW4, hb4, hs4, hP, hX, hR, hA⟩ := mstep_start w o la va ln lc vn vc M
  obtain ⟨okind, oid, oref, omin, odel, ol0, ol1, ol2, olist, ovis⟩ := o
  simp only at hk
  simp only [opCs, ansCs, sv] at hX HW4 hR hA ⊢
  obtain ⟨AA, hAA⟩ : ∃ AA : PA, AA = { code := (addR omin odel).1, num := (addR omin odel).2 } := ⟨_, rfl⟩
  obtain ⟨FF, hFF⟩ : ∃ FF : Bool, FF = full := ⟨_, rfl⟩
  obtain ⟨TT, hTT⟩ : ∃ TT : Tab, TT = T := ⟨_, rfl⟩
  rw [← hAA, ← hTT, ← hFF]
  have HAA := hide (And.intro hAA (And.intro hTT hFF))
  clear hAA hFF hTT
  have p0 : w4.cell? ⟨w.heap.size, 0, none⟩ = some (.pointer (some ⟨M, 0, none⟩)) := by rw [World.cell?, hP]; rfl
  have x0 : w4.cell? ⟨w.heap.size + 1, 0, none⟩ = some (.int .u8 okind) := by rw [World.cell?, hX]; rfl
  have x1 : w4.cell? ⟨w.heap.size + 1, 1, none⟩ = some (.int .u32 oid) := by rw [World.cell?, hX]; rfl
  have x2 : w4.cell? ⟨w.heap.size + 1, 2, none⟩ = some (.int .u32 oref) := by rw [World.cell?, hX]; rfl
  have x3 : w4.cell? ⟨w.heap.size + 1, 3, none⟩ = some (.int .i64 omin) := by rw [World.cell?, hX]; rfl
  have x4 : w4.cell? ⟨w.heap.size + 1, 4, none⟩ = some (.int .i64 odel) := by rw [World.cell?, hX]; rfl
  have x5 : w4.cell? ⟨w.heap.size + 1, 5, none⟩ = some (.int .i64 ol0) := by rw [World.cell?, hX]; rfl
  have x6 : w4.cell? ⟨w.heap.size + 1, 6, none⟩ = some (.int .i64 ol1) := by rw [World.cell?, hX]; rfl
  have x7 : w4.cell? ⟨w.heap.size + 1, 7, none⟩ = some (.int .i64 ol2) := by rw [World.cell?, hX]; rfl
  have x8 : w4.cell? ⟨w.heap.size + 1, 8, none⟩ = some (.slice la ln lc) := by rw [World.cell?, hX]; rfl
  have x9 : w4.cell? ⟨w.heap.size + 1, 9, none⟩ = some (.slice va vn vc) := by rw [World.cell?, hX]; rfl
  have HM := hide h
  have HM4 := hide (h.ext hb4)
  have hMl := h.hlt M (Or.inl (by simp))
  have hM4 : M < w.heap.size + 4 := by omega
  have hM4' : M < w4.heap.size := by omega
  have HB4 := hide hb4
  have HR := hide hR
  have HA := hide hA
  have HX := hide hX
  have HP := hide hP
  have hbs := h.bs
  subst hk
  clear h hb4 hR hA hX hP
  go_enter Tryd.func10, Tryd.ntmps10
  go_upto_region 2 with fail
  rw [← HW4.out]
  clear HW4
  simp only at hdl
  obtain ⟨dl1, dl2⟩ := hdl
  by_cases hin : 0 ≤ omin ∧ omin ≤ 109572
  case neg =>
    have hic : dayIn omin = false := decide_eq_false hin
    have HE : Hid (AA = ({ code := 3 } : PA) ∧ TT = T ∧ FF = full) := ⟨by rw [HAA.out.1, addR, if_pos (by omega)], HAA.out.2⟩
    clear hin
    have hA5 : w4.heap[w.heap.size + 3]? = _ := HA.out
    have a0 : w4.cell? ⟨w.heap.size + 1 + 1 + 1, 0, none⟩ = some (.int .u8 0) := by rw [World.cell?, show w.heap.size + 1 + 1 + 1 = w.heap.size + 3 from rfl, hA5]; rfl
    have f0 : w4.frozen? ⟨w.heap.size + 1 + 1 + 1, 0, none⟩ = false := by rw [World.frozen?, show w.heap.size + 1 + 1 + 1 = w.heap.size + 3 from rfl, hA5]; rfl
    have a1 : w4.cell? ⟨w.heap.size + 1 + 1 + 1, 1, none⟩ = some (.int .i64 0) := by rw [World.cell?, show w.heap.size + 1 + 1 + 1 = w.heap.size + 3 from rfl, hA5]; rfl
    have f1 : w4.frozen? ⟨w.heap.size + 1 + 1 + 1, 1, none⟩ = false := by rw [World.frozen?, show w.heap.size + 1 + 1 + 1 = w.heap.size + 3 from rfl, hA5]; rfl
    go_upto_region 75 with (go_at_call 46; refine (dayIn_calls _ _).mono ?_; rintro e w' ⟨rfl, rfl⟩)
    obtain ⟨W, hW⟩ : ∃ W, W = (w4.setCell ⟨w.heap.size + 1 + 1 + 1, 0, none⟩ (.int .u8 3)) := ⟨_, rfl⟩
    have hS0 : (w4.setCell ⟨w.heap.size + 1 + 1 + 1, 0, none⟩ (.int .u8 3)).heap[w.heap.size + 3]? = some (.cells #[.int .u8 3, .int .i64 0, .slice none 0 0, .int .u32 0, .int .u8 0, .int .i64 0, .int .i64 0, .int .u32 0, .int .i64 0, .slice none 0 0, .int .u32 0, .int .i64 0, .int .i64 0, .int .i64 0, .int .u32 0, .int .u32 0, .int .i64 0] 47 (0, 0)) := heap_setCell_same _ (w.heap.size + 3) 0 _ _ (.int .u8 3) hA5
    have hAW : W.heap[w.heap.size + 3]? = some (.cells #[.int .u8 3, .int .i64 0, .slice none 0 0, .int .u32 0, .int .u8 0, .int .i64 0, .int .i64 0, .int .u32 0, .int .i64 0, .slice none 0 0, .int .u32 0, .int .i64 0, .int .i64 0, .int .i64 0, .int .u32 0, .int .u32 0, .int .i64 0] 47 (0, 0)) := by rw [hW]; exact hS0
    have hWo : ∀ b, b ≠ w.heap.size + 3 → W.heap[b]? = w4.heap[b]? := fun b hb => by rw [hW]; exact (Below.heap_setCell _ _ _ _ hb)
    have hWs : w4.heap.size ≤ W.heap.size := by rw [hW]; simp [World.setCell]
    have hWb : Below base w4 W := by rw [hW]; exact ((Below.refl _ _).setCell (p := ⟨w.heap.size + 1 + 1 + 1, 0, none⟩) (by show base ≤ w.heap.size + 1 + 1 + 1; omega) _)
    rw [← hW]
    have hRW : W.heap[w.heap.size + 2]? = some (.cells #[.int .u8 0, .int .i64 0, .slice none 0 0, .int .u32 0, .int .u8 0, .int .i64 0, .int .i64 0, .int .u32 0, .int .i64 0, .slice none 0 0, .int .u32 0, .int .i64 0, .int .i64 0, .int .i64 0, .int .u32 0, .int .u32 0, .int .i64 0] 47 (0, 0)) := (hWo _ (by omega)).trans (HR.out)
    have rz : rng W (w.heap.size + 1 + 1 + 1) 0 17 = some #[.int .u8 3, .int .i64 0, .slice none 0 0, .int .u32 0, .int .u8 0, .int .i64 0, .int .i64 0, .int .u32 0, .int .i64 0, .slice none 0 0, .int .u32 0, .int .i64 0, .int .i64 0, .int .i64 0, .int .u32 0, .int .u32 0, .int .i64 0] := rng_whole hAW
    have hwh : whole W (w.heap.size + 1 + 1) 17 = true := whole_of_heap hRW
    have HWO := hide hWo
    have HWB := hide hWb
    have HRW := hide hRW
    clear hW hWo hWb hRW hAW
    go_wp2
    have hfin := heap_setRow_at (ds := #[.int .u8 3, .int .i64 0, .slice none 0 0, .int .u32 0, .int .u8 0, .int .i64 0, .int .i64 0, .int .u32 0, .int .i64 0, .slice none 0 0, .int .u32 0, .int .i64 0, .int .i64 0, .int .i64 0, .int .u32 0, .int .u32 0, .int .i64 0]) HRW.out
    refine bodyPost_ret (results_cell1 Tryd.results10 _ _ (w.heap.size + 2) _ _ _ _ rfl hfin Tryd.underlying47 rfl (by kernel_rfl)) rfl ?_
    have hoth : ∀ b, b ≠ w.heap.size + 2 → b ≠ w.heap.size + 3 → (W.setRow (w.heap.size + 2) #[.int .u8 3, .int .i64 0, .slice none 0 0, .int .u32 0, .int .u8 0, .int .i64 0, .int .i64 0, .int .u32 0, .int .i64 0, .slice none 0 0, .int .u32 0, .int .i64 0, .int .i64 0, .int .i64 0, .int .u32 0, .int .u32 0, .int .i64 0]).heap[b]? = w4.heap[b]? := fun b h1 h2 => (setRow_other _ _ _ _ h1).trans (HWO.out b h2)
    have hcm := MCmd.around HM.out HB4.out hs4 (MCmd.refl HM4.out) hoth (by simp; omega) (HWB.out.trans (below_setRow' _ _ (by omega)))
    exact ret_ms HE ⟨_, _, { code := 3 }, rfl, hcm, ⟨u32s_none _, visits_any (visits_nil _ (fun _ => True)), by simp⟩⟩

  have hic : dayIn omin = true := decide_eq_true hin
  obtain ⟨i1, i2⟩ := hin
  have HA1 : Hid (addR omin odel = if 109572 < omin + odel ∨ omin + odel < 0 then (4, 0) else (0, omin + odel)) := by show _ = _; rw [addR, if_neg (by omega)]
  by_cases q1 : odel < -109572
  · have HE : Hid (AA = ({ code := 4 } : PA) ∧ TT = T ∧ FF = full) := ⟨by rw [HAA.out.1, HA1.out, if_pos (by omega)], HAA.out.2⟩
    have hA5 : w4.heap[w.heap.size + 3]? = _ := HA.out
    have a0 : w4.cell? ⟨w.heap.size + 1 + 1 + 1, 0, none⟩ = some (.int .u8 0) := by rw [World.cell?, show w.heap.size + 1 + 1 + 1 = w.heap.size + 3 from rfl, hA5]; rfl
    have f0 : w4.frozen? ⟨w.heap.size + 1 + 1 + 1, 0, none⟩ = false := by rw [World.frozen?, show w.heap.size + 1 + 1 + 1 = w.heap.size + 3 from rfl, hA5]; rfl
    have a1 : w4.cell? ⟨w.heap.size + 1 + 1 + 1, 1, none⟩ = some (.int .i64 0) := by rw [World.cell?, show w.heap.size + 1 + 1 + 1 = w.heap.size + 3 from rfl, hA5]; rfl
    have f1 : w4.frozen? ⟨w.heap.size + 1 + 1 + 1, 1, none⟩ = false := by rw [World.frozen?, show w.heap.size + 1 + 1 + 1 = w.heap.size + 3 from rfl, hA5]; rfl
    go_upto_region 75 with (go_at_call 46; refine (dayIn_calls _ _).mono ?_; rintro e w' ⟨rfl, rfl⟩)
    obtain ⟨W, hW⟩ : ∃ W, W = (w4.setCell ⟨w.heap.size + 1 + 1 + 1, 0, none⟩ (.int .u8 4)) := ⟨_, rfl⟩
    have hS0 : (w4.setCell ⟨w.heap.size + 1 + 1 + 1, 0, none⟩ (.int .u8 4)).heap[w.heap.size + 3]? = some (.cells #[.int .u8 4, .int .i64 0, .slice none 0 0, .int .u32 0, .int .u8 0, .int .i64 0, .int .i64 0, .int .u32 0, .int .i64 0, .slice none 0 0, .int .u32 0, .int .i64 0, .int .i64 0, .int .i64 0, .int .u32 0, .int .u32 0, .int .i64 0] 47 (0, 0)) := heap_setCell_same _ (w.heap.size + 3) 0 _ _ (.int .u8 4) hA5
    have hAW : W.heap[w.heap.size + 3]? = some (.cells #[.int .u8 4, .int .i64 0, .slice none 0 0, .int .u32 0, .int .u8 0, .int .i64 0, .int .i64 0, .int .u32 0, .int .i64 0, .slice none 0 0, .int .u32 0, .int .i64 0, .int .i64 0, .int .i64 0, .int .u32 0, .int .u32 0, .int .i64 0] 47 (0, 0)) := by rw [hW]; exact hS0
    have hWo : ∀ b, b ≠ w.heap.size + 3 → W.heap[b]? = w4.heap[b]? := fun b hb => by rw [hW]; exact (Below.heap_setCell _ _ _ _ hb)
    have hWs : w4.heap.size ≤ W.heap.size := by rw [hW]; simp [World.setCell]
    have hWb : Below base w4 W := by rw [hW]; exact ((Below.refl _ _).setCell (p := ⟨w.heap.size + 1 + 1 + 1, 0, none⟩) (by show base ≤ w.heap.size + 1 + 1 + 1; omega) _)
    rw [← hW]
    have hRW : W.heap[w.heap.size + 2]? = some (.cells #[.int .u8 0, .int .i64 0, .slice none 0 0, .int .u32 0, .int .u8 0, .int .i64 0, .int .i64 0, .int .u32 0, .int .i64 0, .slice none 0 0, .int .u32 0, .int .i64 0, .int .i64 0, .int .i64 0, .int .u32 0, .int .u32 0, .int .i64 0] 47 (0, 0)) := (hWo _ (by omega)).trans (HR.out)
    have rz : rng W (w.heap.size + 1 + 1 + 1) 0 17 = some #[.int .u8 4, .int .i64 0, .slice none 0 0, .int .u32 0, .int .u8 0, .int .i64 0, .int .i64 0, .int .u32 0, .int .i64 0, .slice none 0 0, .int .u32 0, .int .i64 0, .int .i64 0, .int .i64 0, .int .u32 0, .int .u32 0, .int .i64 0] := rng_whole hAW
    have hwh : whole W (w.heap.size + 1 + 1) 17 = true := whole_of_heap hRW
    have HWO := hide hWo
    have HWB := hide hWb
    have HRW := hide hRW
    clear hW hWo hWb hRW hAW
    go_wp2
    have hfin := heap_setRow_at (ds := #[.int .u8 4, .int .i64 0, .slice none 0 0, .int .u32 0, .int .u8 0, .int .i64 0, .int .i64 0, .int .u32 0, .int .i64 0, .slice none 0 0, .int .u32 0, .int .i64 0, .int .i64 0, .int .i64 0, .int .u32 0, .int .u32 0, .int .i64 0]) HRW.out
    refine bodyPost_ret (results_cell1 Tryd.results10 _ _ (w.heap.size + 2) _ _ _ _ rfl hfin Tryd.underlying47 rfl (by kernel_rfl)) rfl ?_
    have hoth : ∀ b, b ≠ w.heap.size + 2 → b ≠ w.heap.size + 3 → (W.setRow (w.heap.size + 2) #[.int .u8 4, .int .i64 0, .slice none 0 0, .int .u32 0, .int .u8 0, .int .i64 0, .int .i64 0, .int .u32 0, .int .i64 0, .slice none 0 0, .int .u32 0, .int .i64 0, .int .i64 0, .int .i64 0, .int .u32 0, .int .u32 0, .int .i64 0]).heap[b]? = w4.heap[b]? := fun b h1 h2 => (setRow_other _ _ _ _ h1).trans (HWO.out b h2)
    have hcm := MCmd.around HM.out HB4.out hs4 (MCmd.refl HM4.out) hoth (by simp; omega) (HWB.out.trans (below_setRow' _ _ (by omega)))
    exact ret_ms HE ⟨_, _, { code := 4 }, rfl, hcm, ⟨u32s_none _, visits_any (visits_nil _ (fun _ => True)), by simp⟩⟩

  by_cases q2 : 109572 < odel
  · have HE : Hid (AA = ({ code := 4 } : PA) ∧ TT = T ∧ FF = full) := ⟨by rw [HAA.out.1, HA1.out, if_pos (by omega)], HAA.out.2⟩
    have hA5 : w4.heap[w.heap.size + 3]? = _ := HA.out
    have a0 : w4.cell? ⟨w.heap.size + 1 + 1 + 1, 0, none⟩ = some (.int .u8 0) := by rw [World.cell?, show w.heap.size + 1 + 1 + 1 = w.heap.size + 3 from rfl, hA5]; rfl
    have f0 : w4.frozen? ⟨w.heap.size + 1 + 1 + 1, 0, none⟩ = false := by rw [World.frozen?, show w.heap.size + 1 + 1 + 1 = w.heap.size + 3 from rfl, hA5]; rfl
    have a1 : w4.cell? ⟨w.heap.size + 1 + 1 + 1, 1, none⟩ = some (.int .i64 0) := by rw [World.cell?, show w.heap.size + 1 + 1 + 1 = w.heap.size + 3 from rfl, hA5]; rfl
    have f1 : w4.frozen? ⟨w.heap.size + 1 + 1 + 1, 1, none⟩ = false := by rw [World.frozen?, show w.heap.size + 1 + 1 + 1 = w.heap.size + 3 from rfl, hA5]; rfl
    go_upto_region 75 with (go_at_call 46; refine (dayIn_calls _ _).mono ?_; rintro e w' ⟨rfl, rfl⟩)
    obtain ⟨W, hW⟩ : ∃ W, W = (w4.setCell ⟨w.heap.size + 1 + 1 + 1, 0, none⟩ (.int .u8 4)) := ⟨_, rfl⟩
    have hS0 : (w4.setCell ⟨w.heap.size + 1 + 1 + 1, 0, none⟩ (.int .u8 4)).heap[w.heap.size + 3]? = some (.cells #[.int .u8 4, .int .i64 0, .slice none 0 0, .int .u32 0, .int .u8 0, .int .i64 0, .int .i64 0, .int .u32 0, .int .i64 0, .slice none 0 0, .int .u32 0, .int .i64 0, .int .i64 0, .int .i64 0, .int .u32 0, .int .u32 0, .int .i64 0] 47 (0, 0)) := heap_setCell_same _ (w.heap.size + 3) 0 _ _ (.int .u8 4) hA5
    have hAW : W.heap[w.heap.size + 3]? = some (.cells #[.int .u8 4, .int .i64 0, .slice none 0 0, .int .u32 0, .int .u8 0, .int .i64 0, .int .i64 0, .int .u32 0, .int .i64 0, .slice none 0 0, .int .u32 0, .int .i64 0, .int .i64 0, .int .i64 0, .int .u32 0, .int .u32 0, .int .i64 0] 47 (0, 0)) := by rw [hW]; exact hS0
    have hWo : ∀ b, b ≠ w.heap.size + 3 → W.heap[b]? = w4.heap[b]? := fun b hb => by rw [hW]; exact (Below.heap_setCell _ _ _ _ hb)
    have hWs : w4.heap.size ≤ W.heap.size := by rw [hW]; simp [World.setCell]
    have hWb : Below base w4 W := by rw [hW]; exact ((Below.refl _ _).setCell (p := ⟨w.heap.size + 1 + 1 + 1, 0, none⟩) (by show base ≤ w.heap.size + 1 + 1 + 1; omega) _)
    rw [← hW]
    have hRW : W.heap[w.heap.size + 2]? = some (.cells #[.int .u8 0, .int .i64 0, .slice none 0 0, .int .u32 0, .int .u8 0, .int .i64 0, .int .i64 0, .int .u32 0, .int .i64 0, .slice none 0 0, .int .u32 0, .int .i64 0, .int .i64 0, .int .i64 0, .int .u32 0, .int .u32 0, .int .i64 0] 47 (0, 0)) := (hWo _ (by omega)).trans (HR.out)
    have rz : rng W (w.heap.size + 1 + 1 + 1) 0 17 = some #[.int .u8 4, .int .i64 0, .slice none 0 0, .int .u32 0, .int .u8 0, .int .i64 0, .int .i64 0, .int .u32 0, .int .i64 0, .slice none 0 0, .int .u32 0, .int .i64 0, .int .i64 0, .int .i64 0, .int .u32 0, .int .u32 0, .int .i64 0] := rng_whole hAW
    have hwh : whole W (w.heap.size + 1 + 1) 17 = true := whole_of_heap hRW
    have HWO := hide hWo
    have HWB := hide hWb
    have HRW := hide hRW
    clear hW hWo hWb hRW hAW
    go_wp2
    have hfin := heap_setRow_at (ds := #[.int .u8 4, .int .i64 0, .slice none 0 0, .int .u32 0, .int .u8 0, .int .i64 0, .int .i64 0, .int .u32 0, .int .i64 0, .slice none 0 0, .int .u32 0, .int .i64 0, .int .i64 0, .int .i64 0, .int .u32 0, .int .u32 0, .int .i64 0]) HRW.out
    refine bodyPost_ret (results_cell1 Tryd.results10 _ _ (w.heap.size + 2) _ _ _ _ rfl hfin Tryd.underlying47 rfl (by kernel_rfl)) rfl ?_
    have hoth : ∀ b, b ≠ w.heap.size + 2 → b ≠ w.heap.size + 3 → (W.setRow (w.heap.size + 2) #[.int .u8 4, .int .i64 0, .slice none 0 0, .int .u32 0, .int .u8 0, .int .i64 0, .int .i64 0, .int .u32 0, .int .i64 0, .slice none 0 0, .int .u32 0, .int .i64 0, .int .i64 0, .int .i64 0, .int .u32 0, .int .u32 0, .int .i64 0]).heap[b]? = w4.heap[b]? := fun b h1 h2 => (setRow_other _ _ _ _ h1).trans (HWO.out b h2)
    have hcm := MCmd.around HM.out HB4.out hs4 (MCmd.refl HM4.out) hoth (by simp; omega) (HWB.out.trans (below_setRow' _ _ (by omega)))
    exact ret_ms HE ⟨_, _, { code := 4 }, rfl, hcm, ⟨u32s_none _, visits_any (visits_nil _ (fun _ => True)), by simp⟩⟩

  by_cases q3 : 0 ≤ omin + odel ∧ omin + odel ≤ 109572
  · have hd3 : dayIn (omin + odel) = true := decide_eq_true q3
    have HE : Hid (AA = ({ num := omin + odel } : PA) ∧ TT = T ∧ FF = full) := ⟨by rw [HAA.out.1, HA1.out, if_neg (by omega)], HAA.out.2⟩
    clear q3
    have hA5 : w4.heap[w.heap.size + 3]? = _ := HA.out
    have a0 : w4.cell? ⟨w.heap.size + 1 + 1 + 1, 0, none⟩ = some (.int .u8 0) := by rw [World.cell?, show w.heap.size + 1 + 1 + 1 = w.heap.size + 3 from rfl, hA5]; rfl
    have f0 : w4.frozen? ⟨w.heap.size + 1 + 1 + 1, 0, none⟩ = false := by rw [World.frozen?, show w.heap.size + 1 + 1 + 1 = w.heap.size + 3 from rfl, hA5]; rfl
    have a1 : w4.cell? ⟨w.heap.size + 1 + 1 + 1, 1, none⟩ = some (.int .i64 0) := by rw [World.cell?, show w.heap.size + 1 + 1 + 1 = w.heap.size + 3 from rfl, hA5]; rfl
    have f1 : w4.frozen? ⟨w.heap.size + 1 + 1 + 1, 1, none⟩ = false := by rw [World.frozen?, show w.heap.size + 1 + 1 + 1 = w.heap.size + 3 from rfl, hA5]; rfl
    go_upto_region 75 with (go_at_call 46; refine (dayIn_calls _ _).mono ?_; rintro e w' ⟨rfl, rfl⟩)
    obtain ⟨W, hW⟩ : ∃ W, W = (w4.setCell ⟨w.heap.size + 1 + 1 + 1, 1, none⟩ (.int .i64 (omin + odel))) := ⟨_, rfl⟩
    have hS0 : (w4.setCell ⟨w.heap.size + 1 + 1 + 1, 1, none⟩ (.int .i64 (omin + odel))).heap[w.heap.size + 3]? = some (.cells #[.int .u8 0, .int .i64 (omin + odel), .slice none 0 0, .int .u32 0, .int .u8 0, .int .i64 0, .int .i64 0, .int .u32 0, .int .i64 0, .slice none 0 0, .int .u32 0, .int .i64 0, .int .i64 0, .int .i64 0, .int .u32 0, .int .u32 0, .int .i64 0] 47 (0, 0)) := heap_setCell_same _ (w.heap.size + 3) 1 _ _ (.int .i64 (omin + odel)) hA5
    have hAW : W.heap[w.heap.size + 3]? = some (.cells #[.int .u8 0, .int .i64 (omin + odel), .slice none 0 0, .int .u32 0, .int .u8 0, .int .i64 0, .int .i64 0, .int .u32 0, .int .i64 0, .slice none 0 0, .int .u32 0, .int .i64 0, .int .i64 0, .int .i64 0, .int .u32 0, .int .u32 0, .int .i64 0] 47 (0, 0)) := by rw [hW]; exact hS0
    have hWo : ∀ b, b ≠ w.heap.size + 3 → W.heap[b]? = w4.heap[b]? := fun b hb => by rw [hW]; exact (Below.heap_setCell _ _ _ _ hb)
    have hWs : w4.heap.size ≤ W.heap.size := by rw [hW]; simp [World.setCell]
    have hWb : Below base w4 W := by rw [hW]; exact ((Below.refl _ _).setCell (p := ⟨w.heap.size + 1 + 1 + 1, 1, none⟩) (by show base ≤ w.heap.size + 1 + 1 + 1; omega) _)
    rw [← hW]
    have hRW : W.heap[w.heap.size + 2]? = some (.cells #[.int .u8 0, .int .i64 0, .slice none 0 0, .int .u32 0, .int .u8 0, .int .i64 0, .int .i64 0, .int .u32 0, .int .i64 0, .slice none 0 0, .int .u32 0, .int .i64 0, .int .i64 0, .int .i64 0, .int .u32 0, .int .u32 0, .int .i64 0] 47 (0, 0)) := (hWo _ (by omega)).trans (HR.out)
    have rz : rng W (w.heap.size + 1 + 1 + 1) 0 17 = some #[.int .u8 0, .int .i64 (omin + odel), .slice none 0 0, .int .u32 0, .int .u8 0, .int .i64 0, .int .i64 0, .int .u32 0, .int .i64 0, .slice none 0 0, .int .u32 0, .int .i64 0, .int .i64 0, .int .i64 0, .int .u32 0, .int .u32 0, .int .i64 0] := rng_whole hAW
    have hwh : whole W (w.heap.size + 1 + 1) 17 = true := whole_of_heap hRW
    have HWO := hide hWo
    have HWB := hide hWb
    have HRW := hide hRW
    clear hW hWo hWb hRW hAW
    go_wp2
    have hfin := heap_setRow_at (ds := #[.int .u8 0, .int .i64 (omin + odel), .slice none 0 0, .int .u32 0, .int .u8 0, .int .i64 0, .int .i64 0, .int .u32 0, .int .i64 0, .slice none 0 0, .int .u32 0, .int .i64 0, .int .i64 0, .int .i64 0, .int .u32 0, .int .u32 0, .int .i64 0]) HRW.out
    refine bodyPost_ret (results_cell1 Tryd.results10 _ _ (w.heap.size + 2) _ _ _ _ rfl hfin Tryd.underlying47 rfl (by kernel_rfl)) rfl ?_
    have hoth : ∀ b, b ≠ w.heap.size + 2 → b ≠ w.heap.size + 3 → (W.setRow (w.heap.size + 2) #[.int .u8 0, .int .i64 (omin + odel), .slice none 0 0, .int .u32 0, .int .u8 0, .int .i64 0, .int .i64 0, .int .u32 0, .int .i64 0, .slice none 0 0, .int .u32 0, .int .i64 0, .int .i64 0, .int .i64 0, .int .u32 0, .int .u32 0, .int .i64 0]).heap[b]? = w4.heap[b]? := fun b h1 h2 => (setRow_other _ _ _ _ h1).trans (HWO.out b h2)
    have hcm := MCmd.around HM.out HB4.out hs4 (MCmd.refl HM4.out) hoth (by simp; omega) (HWB.out.trans (below_setRow' _ _ (by omega)))
    exact ret_ms HE ⟨_, _, { num := omin + odel }, rfl, hcm, ⟨u32s_none _, visits_any (visits_nil _ (fun _ => True)), by simp⟩⟩

  · have hd3 : dayIn (omin + odel) = false := decide_eq_false q3
    have HE : Hid (AA = ({ code := 4 } : PA) ∧ TT = T ∧ FF = full) := ⟨by rw [HAA.out.1, HA1.out, if_pos (by omega)], HAA.out.2⟩
    clear q3
    have hA5 : w4.heap[w.heap.size + 3]? = _ := HA.out
    have a0 : w4.cell? ⟨w.heap.size + 1 + 1 + 1, 0, none⟩ = some (.int .u8 0) := by rw [World.cell?, show w.heap.size + 1 + 1 + 1 = w.heap.size + 3 from rfl, hA5]; rfl
    have f0 : w4.frozen? ⟨w.heap.size + 1 + 1 + 1, 0, none⟩ = false := by rw [World.frozen?, show w.heap.size + 1 + 1 + 1 = w.heap.size + 3 from rfl, hA5]; rfl
    have a1 : w4.cell? ⟨w.heap.size + 1 + 1 + 1, 1, none⟩ = some (.int .i64 0) := by rw [World.cell?, show w.heap.size + 1 + 1 + 1 = w.heap.size + 3 from rfl, hA5]; rfl
    have f1 : w4.frozen? ⟨w.heap.size + 1 + 1 + 1, 1, none⟩ = false := by rw [World.frozen?, show w.heap.size + 1 + 1 + 1 = w.heap.size + 3 from rfl, hA5]; rfl
    go_upto_region 75 with (go_at_call 46; refine (dayIn_calls _ _).mono ?_; rintro e w' ⟨rfl, rfl⟩)
    obtain ⟨W, hW⟩ : ∃ W, W = (w4.setCell ⟨w.heap.size + 1 + 1 + 1, 0, none⟩ (.int .u8 4)) := ⟨_, rfl⟩
    have hS0 : (w4.setCell ⟨w.heap.size + 1 + 1 + 1, 0, none⟩ (.int .u8 4)).heap[w.heap.size + 3]? = some (.cells #[.int .u8 4, .int .i64 0, .slice none 0 0, .int .u32 0, .int .u8 0, .int .i64 0, .int .i64 0, .int .u32 0, .int .i64 0, .slice none 0 0, .int .u32 0, .int .i64 0, .int .i64 0, .int .i64 0, .int .u32 0, .int .u32 0, .int .i64 0] 47 (0, 0)) := heap_setCell_same _ (w.heap.size + 3) 0 _ _ (.int .u8 4) hA5
    have hAW : W.heap[w.heap.size + 3]? = some (.cells #[.int .u8 4, .int .i64 0, .slice none 0 0, .int .u32 0, .int .u8 0, .int .i64 0, .int .i64 0, .int .u32 0, .int .i64 0, .slice none 0 0, .int .u32 0, .int .i64 0, .int .i64 0, .int .i64 0, .int .u32 0, .int .u32 0, .int .i64 0] 47 (0, 0)) := by rw [hW]; exact hS0
    have hWo : ∀ b, b ≠ w.heap.size + 3 → W.heap[b]? = w4.heap[b]? := fun b hb => by rw [hW]; exact (Below.heap_setCell _ _ _ _ hb)
    have hWs : w4.heap.size ≤ W.heap.size := by rw [hW]; simp [World.setCell]
    have hWb : Below base w4 W := by rw [hW]; exact ((Below.refl _ _).setCell (p := ⟨w.heap.size + 1 + 1 + 1, 0, none⟩) (by show base ≤ w.heap.size + 1 + 1 + 1; omega) _)
    rw [← hW]
    have hRW : W.heap[w.heap.size + 2]? = some (.cells #[.int .u8 0, .int .i64 0, .slice none 0 0, .int .u32 0, .int .u8 0, .int .i64 0, .int .i64 0, .int .u32 0, .int .i64 0, .slice none 0 0, .int .u32 0, .int .i64 0, .int .i64 0, .int .i64 0, .int .u32 0, .int .u32 0, .int .i64 0] 47 (0, 0)) := (hWo _ (by omega)).trans (HR.out)
    have rz : rng W (w.heap.size + 1 + 1 + 1) 0 17 = some #[.int .u8 4, .int .i64 0, .slice none 0 0, .int .u32 0, .int .u8 0, .int .i64 0, .int .i64 0, .int .u32 0, .int .i64 0, .slice none 0 0, .int .u32 0, .int .i64 0, .int .i64 0, .int .i64 0, .int .u32 0, .int .u32 0, .int .i64 0] := rng_whole hAW
    have hwh : whole W (w.heap.size + 1 + 1) 17 = true := whole_of_heap hRW
    have HWO := hide hWo
    have HWB := hide hWb
    have HRW := hide hRW
    clear hW hWo hWb hRW hAW
    go_wp2
    have hfin := heap_setRow_at (ds := #[.int .u8 4, .int .i64 0, .slice none 0 0, .int .u32 0, .int .u8 0, .int .i64 0, .int .i64 0, .int .u32 0, .int .i64 0, .slice none 0 0, .int .u32 0, .int .i64 0, .int .i64 0, .int .i64 0, .int .u32 0, .int .u32 0, .int .i64 0]) HRW.out
    refine bodyPost_ret (results_cell1 Tryd.results10 _ _ (w.heap.size + 2) _ _ _ _ rfl hfin Tryd.underlying47 rfl (by kernel_rfl)) rfl ?_
    have hoth : ∀ b, b ≠ w.heap.size + 2 → b ≠ w.heap.size + 3 → (W.setRow (w.heap.size + 2) #[.int .u8 4, .int .i64 0, .slice none 0 0, .int .u32 0, .int .u8 0, .int .i64 0, .int .i64 0, .int .u32 0, .int .i64 0, .slice none 0 0, .int .u32 0, .int .i64 0, .int .i64 0, .int .i64 0, .int .u32 0, .int .u32 0, .int .i64 0]).heap[b]? = w4.heap[b]? := fun b h1 h2 => (setRow_other _ _ _ _ h1).trans (HWO.out b h2)
    have hcm := MCmd.around HM.out HB4.out hs4 (MCmd.refl HM4.out) hoth (by simp; omega) (HWB.out.trans (below_setRow' _ _ (by omega)))
    exact ret_ms HE ⟨_, _, { code := 4 }, rfl, hcm, ⟨u32s_none _, visits_any (visits_nil _ (fun _ => True)), by simp⟩⟩

set_option maxRecDepth 100000 in
set_option maxHeartbeats 8000000 in
theorem mstep_18 (w : World) (M base N a p s u : Nat) (v : Value) (C : Nat → Prop) (T : Tab) (full : Bool) (o : Op) (la va : Option Addr) (ln lc vn vc : Nat) (h : MAt w M base N a p s u v C T full)  (hk : o.kind = 18) :
    Calls Tryd.prog 10 #[.pointer (some ⟨M, 0, none⟩), .agg (opCs o (.slice la ln lc) (.slice va vn vc))] w fun e w' => MSPost w w' e M base (N + 1) a p s u v C {} T (decide (o.ref = 1)) := by
  obtain ⟨w4, HW4, hb4, hs4, hP, hX, hR, hA⟩ := mstep_start w o la va ln lc vn vc M
  obtain ⟨okind, oid, oref, omin, odel, ol0, ol1, ol2, olist, ovis⟩ := o
  simp only at hk
  simp only [opCs, ansCs, sv] at hX HW4 hR hA ⊢
  obtain ⟨AA, hAA⟩ : ∃ AA : PA, AA = {} := ⟨_, rfl⟩
  obtain ⟨FF, hFF⟩ : ∃ FF : Bool, FF = (decide (oref = 1)) := ⟨_, rfl⟩
  obtain ⟨TT, hTT⟩ : ∃ TT : Tab, TT = T := ⟨_, rfl⟩
  rw [← hAA, ← hTT, ← hFF]
  have HAA := hide (And.intro hAA (And.intro hTT hFF))
  clear hAA hFF hTT
  have p0 : w4.cell? ⟨w.heap.size, 0, none⟩ = some (.pointer (some ⟨M, 0, none⟩)) := by rw [World.cell?, hP]; rfl
  have x0 : w4.cell? ⟨w.heap.size + 1, 0, none⟩ = some (.int .u8 okind) := by rw [World.cell?, hX]; rfl
  have x1 : w4.cell? ⟨w.heap.size + 1, 1, none⟩ = some (.int .u32 oid) := by rw [World.cell?, hX]; rfl
  have x2 : w4.cell? ⟨w.heap.size + 1, 2, none⟩ = some (.int .u32 oref) := by rw [World.cell?, hX]; rfl
  have x3 : w4.cell? ⟨w.heap.size + 1, 3, none⟩ = some (.int .i64 omin) := by rw [World.cell?, hX]; rfl
  have x4 : w4.cell? ⟨w.heap.size + 1, 4, none⟩ = some (.int .i64 odel) := by rw [World.cell?, hX]; rfl
  have x5 : w4.cell? ⟨w.heap.size + 1, 5, none⟩ = some (.int .i64 ol0) := by rw [World.cell?, hX]; rfl
  have x6 : w4.cell? ⟨w.heap.size + 1, 6, none⟩ = some (.int .i64 ol1) := by rw [World.cell?, hX]; rfl
  have x7 : w4.cell? ⟨w.heap.size + 1, 7, none⟩ = some (.int .i64 ol2) := by rw [World.cell?, hX]; rfl
  have x8 : w4.cell? ⟨w.heap.size + 1, 8, none⟩ = some (.slice la ln lc) := by rw [World.cell?, hX]; rfl
  have x9 : w4.cell? ⟨w.heap.size + 1, 9, none⟩ = some (.slice va vn vc) := by rw [World.cell?, hX]; rfl
  have HM := hide h
  have HM4 := hide (h.ext hb4)
  have hMl := h.hlt M (Or.inl (by simp))
  have hM4 : M < w.heap.size + 4 := by omega
  have hM4' : M < w4.heap.size := by omega
  have HB4 := hide hb4
  have HR := hide hR
  have HA := hide hA
  have HX := hide hX
  have HP := hide hP
  have hbs := h.bs
  subst hk
  clear h hb4 hR hA hX hP
  go_enter Tryd.func10, Tryd.ntmps10
  go_upto_region 2 with fail
  rw [← HW4.out]
  clear HW4
  obtain ⟨d0, d1, d2, d3, d4, d5, dF, -⟩ := cell_six HM4.out.top
  have df5 := dF 5
  have hM4 : M < w4.heap.size := by omega
  obtain ⟨bb, hbb⟩ : ∃ bb, bb = decide (oref = 1) := ⟨_, rfl⟩
  have hb1 : (oref == 1) = bb := by rw [hbb]; by_cases h9 : oref = 1 <;> simp [h9]
  have HE : Hid (AA = ({} : PA) ∧ TT = T ∧ FF = bb) := ⟨HAA.out.1, HAA.out.2.1, HAA.out.2.2.trans hbb.symm⟩
  clear hbb dF
  go_upto_region 75 with fail
  obtain ⟨w5, hw5⟩ : ∃ w5, w5 = w4.setCell ⟨M, 5, none⟩ (.bool bb) := ⟨_, rfl⟩
  have hM5 : w5.heap[M]? = some (.cells #[.map (some a), .map (some p), v, .map (some s), .map (some u), .bool bb] 70 (0, 0)) := by
    rw [hw5]
    have := heap_setCell_same w4 M 5 _ _ (.bool bb) HM4.out.top
    simpa using this
  have hlow := (HM4.out.low M (by simp)).1
  have hoth5 : ∀ b, b ≠ M → w5.heap[b]? = w4.heap[b]? := fun b hb => by rw [hw5]; exact Below.heap_setCell _ _ _ _ hb
  have hsz5 : w5.heap.size = w4.heap.size := by rw [hw5]; simp [World.setCell]
  have hbl5 : Below base w4 w5 := by rw [hw5]; exact (Below.refl _ _).setCell (p := ⟨M, 5, none⟩) hlow _
  have HC := hide (HM4.out.setFull (full' := bb) (fun b _ hb => hoth5 b hb) hbl5 hM5)
  rw [← hw5]
  have hA5 : w5.heap[w.heap.size + 3]? = _ := (hoth5 _ (by omega)).trans HA.out
  have hR5 : w5.heap[w.heap.size + 2]? = _ := (hoth5 _ (by omega)).trans HR.out
  clear hw5 hM5 hoth5 hbl5
  obtain ⟨W, hW⟩ : ∃ W, W = w5 := ⟨_, rfl⟩
  have hAW : W.heap[w.heap.size + 3]? = some (.cells #[.int .u8 0, .int .i64 0, .slice none 0 0, .int .u32 0, .int .u8 0, .int .i64 0, .int .i64 0, .int .u32 0, .int .i64 0, .slice none 0 0, .int .u32 0, .int .i64 0, .int .i64 0, .int .i64 0, .int .u32 0, .int .u32 0, .int .i64 0] 47 (0, 0)) := by rw [hW]; exact hA5
  have hWo : ∀ b, b ≠ w.heap.size + 3 → W.heap[b]? = w5.heap[b]? := fun b _ => congrArg (fun X : World => X.heap[b]?) hW
  have hWs : w5.heap.size ≤ W.heap.size := Nat.le_of_eq (congrArg (fun X : World => X.heap.size) hW.symm)
  have hWb : Below base w5 W := by subst hW; exact Below.refl _ _
  rw [← hW]
  have hRW : W.heap[w.heap.size + 2]? = some (.cells #[.int .u8 0, .int .i64 0, .slice none 0 0, .int .u32 0, .int .u8 0, .int .i64 0, .int .i64 0, .int .u32 0, .int .i64 0, .slice none 0 0, .int .u32 0, .int .i64 0, .int .i64 0, .int .i64 0, .int .u32 0, .int .u32 0, .int .i64 0] 47 (0, 0)) := (hWo _ (by omega)).trans (hR5)
  have rz : rng W (w.heap.size + 1 + 1 + 1) 0 17 = some #[.int .u8 0, .int .i64 0, .slice none 0 0, .int .u32 0, .int .u8 0, .int .i64 0, .int .i64 0, .int .u32 0, .int .i64 0, .slice none 0 0, .int .u32 0, .int .i64 0, .int .i64 0, .int .i64 0, .int .u32 0, .int .u32 0, .int .i64 0] := rng_whole hAW
  have hwh : whole W (w.heap.size + 1 + 1) 17 = true := whole_of_heap hRW
  have HWO := hide hWo
  have HWB := hide hWb
  have HRW := hide hRW
  clear hW hWo hWb hRW hAW
  go_wp2
  have hfin := heap_setRow_at (ds := #[.int .u8 0, .int .i64 0, .slice none 0 0, .int .u32 0, .int .u8 0, .int .i64 0, .int .i64 0, .int .u32 0, .int .i64 0, .slice none 0 0, .int .u32 0, .int .i64 0, .int .i64 0, .int .i64 0, .int .u32 0, .int .u32 0, .int .i64 0]) HRW.out
  refine bodyPost_ret (results_cell1 Tryd.results10 _ _ (w.heap.size + 2) _ _ _ _ rfl hfin Tryd.underlying47 rfl (by kernel_rfl)) rfl ?_
  have hoth : ∀ b, b ≠ w.heap.size + 2 → b ≠ w.heap.size + 3 → (W.setRow (w.heap.size + 2) #[.int .u8 0, .int .i64 0, .slice none 0 0, .int .u32 0, .int .u8 0, .int .i64 0, .int .i64 0, .int .u32 0, .int .i64 0, .slice none 0 0, .int .u32 0, .int .i64 0, .int .i64 0, .int .i64 0, .int .u32 0, .int .u32 0, .int .i64 0]).heap[b]? = w5.heap[b]? := fun b h1 h2 => (setRow_other _ _ _ _ h1).trans (HWO.out b h2)
  have hcm := MCmd.around HM.out HB4.out hs4 (HC.out) hoth (by simp; omega) (HWB.out.trans (below_setRow' _ _ (by omega)))
  exact ret_ms HE ⟨_, _, {}, rfl, hcm, ⟨u32s_none _, visits_any (visits_nil _ (fun _ => True)), by simp⟩⟩

set_option maxRecDepth 100000 in
set_option maxHeartbeats 8000000 in
theorem mstep_10 (w : World) (M base N a p s u : Nat) (v : Value) (C : Nat → Prop) (T : Tab) (full : Bool) (o : Op) (la va : Option Addr) (ln lc vn vc : Nat) (h : MAt w M base N a p s u v C T full) (hid : U32 o.id) (hk : o.kind = 10) :
    Calls Tryd.prog 10 #[.pointer (some ⟨M, 0, none⟩), .agg (opCs o (.slice la ln lc) (.slice va vn vc))] w fun e w' => MSPost w w' e M base (N + 1) a p s u v C { code := (panR T o.id).1, list := (panR T o.id).2.2 } T full := by
  obtain ⟨w4, HW4, hb4, hs4, hP, hX, hR, hA⟩ := mstep_start w o la va ln lc vn vc M
  obtain ⟨okind, oid, oref, omin, odel, ol0, ol1, ol2, olist, ovis⟩ := o
  simp only at hk
  simp only [opCs, ansCs, sv] at hX HW4 hR hA ⊢
  obtain ⟨AA, hAA⟩ : ∃ AA : PA, AA = { code := (panR T oid).1, list := (panR T oid).2.2 } := ⟨_, rfl⟩
  obtain ⟨FF, hFF⟩ : ∃ FF : Bool, FF = full := ⟨_, rfl⟩
  obtain ⟨TT, hTT⟩ : ∃ TT : Tab, TT = T := ⟨_, rfl⟩
  rw [← hAA, ← hTT, ← hFF]
  have HAA := hide (And.intro hAA (And.intro hTT hFF))
  clear hAA hFF hTT
  have p0 : w4.cell? ⟨w.heap.size, 0, none⟩ = some (.pointer (some ⟨M, 0, none⟩)) := by rw [World.cell?, hP]; rfl
  have x0 : w4.cell? ⟨w.heap.size + 1, 0, none⟩ = some (.int .u8 okind) := by rw [World.cell?, hX]; rfl
  have x1 : w4.cell? ⟨w.heap.size + 1, 1, none⟩ = some (.int .u32 oid) := by rw [World.cell?, hX]; rfl
  have x2 : w4.cell? ⟨w.heap.size + 1, 2, none⟩ = some (.int .u32 oref) := by rw [World.cell?, hX]; rfl
  have x3 : w4.cell? ⟨w.heap.size + 1, 3, none⟩ = some (.int .i64 omin) := by rw [World.cell?, hX]; rfl
  have x4 : w4.cell? ⟨w.heap.size + 1, 4, none⟩ = some (.int .i64 odel) := by rw [World.cell?, hX]; rfl
  have x5 : w4.cell? ⟨w.heap.size + 1, 5, none⟩ = some (.int .i64 ol0) := by rw [World.cell?, hX]; rfl
  have x6 : w4.cell? ⟨w.heap.size + 1, 6, none⟩ = some (.int .i64 ol1) := by rw [World.cell?, hX]; rfl
  have x7 : w4.cell? ⟨w.heap.size + 1, 7, none⟩ = some (.int .i64 ol2) := by rw [World.cell?, hX]; rfl
  have x8 : w4.cell? ⟨w.heap.size + 1, 8, none⟩ = some (.slice la ln lc) := by rw [World.cell?, hX]; rfl
  have x9 : w4.cell? ⟨w.heap.size + 1, 9, none⟩ = some (.slice va vn vc) := by rw [World.cell?, hX]; rfl
  have HM := hide h
  have HM4 := hide (h.ext hb4)
  have hMl := h.hlt M (Or.inl (by simp))
  have hM4 : M < w.heap.size + 4 := by omega
  have hM4' : M < w4.heap.size := by omega
  have HB4 := hide hb4
  have HR := hide hR
  have HA := hide hA
  have HX := hide hX
  have HP := hide hP
  have hbs := h.bs
  subst hk
  clear h hb4 hR hA hX hP
  go_enter Tryd.func10, Tryd.ntmps10
  go_upto_region 2 with fail
  rw [← HW4.out]
  clear HW4
  obtain ⟨pa, pn, pc, hpl, hpu⟩ := pan_form HM4.out hid
  obtain ⟨d0, d1, d2, d3, d4, d5, -, -⟩ := cell_six HM4.out.top
  have hlk : ∀ x : Ext w4.heap.size w4, (Instr.lookup 65 (.map (some p)) (.int .u32 oid) true).run Tryd.prog x.world = .ok (.tuple #[.slice pa pn pc, .bool (T.pan oid).isSome]) x.world := fun x => (hpl x.world x.below).1
  have HU := hide hpu
  clear hpl hpu
  go_upto_region 30 with fail
  cases hT : T.pan oid with
  | some l =>
    rw [hT] at hlk HU
    simp only [Option.isSome_some] at hlk
    refine wp_region_mixT (w4.heap.size) [0, 3, 5, 6] (by kernel_rfl) ?_
    refine mixT_reads [0] (fuel := 11) rfl (by kernel_rfl) (by decide) (by kernel_rfl) (fun d _ _ _ _ h => by cases d <;> exact h) (ext_drew _ _) ?_
    simp only [opersAt, List.getElem?_toArray, List.getElem?_cons_zero]
    repeat (go_big_quiet_step (fail))
    refine wpQuiet_nil ?_
    refine mixT_slots [1, 2] (fuel := 9) rfl (by kernel_rfl) (by kernel_rfl) (fun d _ _ _ _ h => by cases d <;> exact h) ?_
    simp only [opersAt, List.getElem?_toArray, List.getElem?_cons_zero, List.getElem?_cons_succ]
    repeat (go_big_quiet_step (fail))
    refine wpQuiet_nil ?_
    refine mixT_reads [3] (fuel := 8) rfl (by kernel_rfl) (by decide) (by kernel_rfl) (fun d _ _ _ _ h => by cases d <;> exact h) (ext_drew _ _) ?_
    simp only [opersAt, List.getElem?_toArray, List.getElem?_cons_zero, List.getElem?_cons_succ]
    repeat (go_big_quiet_step (fail))
    refine wpQuiet_nil ?_
    refine mixT_slots [4] (fuel := 7) rfl (by kernel_rfl) (by kernel_rfl) (fun d _ _ _ _ h => by cases d <;> exact h) ?_
    simp only [opersAt, List.getElem?_toArray, List.getElem?_cons_zero, List.getElem?_cons_succ]
    repeat (go_big_quiet_step (fail))
    refine wpQuiet_nil ?_
    refine mixT_reads [5, 6] (fuel := 5) rfl (by kernel_rfl) (by decide) (by kernel_rfl) (fun d _ _ _ _ h => by cases d <;> exact h) (ext_drew _ _) ?_
    simp only [opersAt, List.getElem?_toArray, List.getElem?_cons_zero, List.getElem?_cons_succ]
    repeat (go_big_quiet_step (fail))
    refine wpQuiet_nil ?_
    refine mixT_slots [7, 8, 9] (fuel := 2) rfl (by kernel_rfl) (by kernel_rfl) (fun d _ _ _ _ h => by cases d <;> exact h) ?_
    simp only [opersAt, List.getElem?_toArray, List.getElem?_cons_zero, List.getElem?_cons_succ]
    repeat (go_big_quiet_step (fail))
    refine wpQuiet_nil ?_
    refine mixT_one (k := 10) (by kernel_rfl) rfl ?_
    go_wp2
    first | refine ⟨Or.inr (fun h => h), ?_⟩ | skip
    refine mixT_one (k := 11) (by kernel_rfl) rfl ?_
    go_wp2
    first | refine ⟨Or.inr (fun h => h), ?_⟩ | skip
    refine mixT_nil (by kernel_rfl) ?_

    obtain ⟨w5, hw5⟩ : ∃ w5, w5 = w4.drew := ⟨_, rfl⟩
    have hb5 : Below w4.heap.size w4 w5 := by rw [hw5]; exact (Below.refl _ _).drew
    rw [← hw5]
    clear hw5
    have HB5 := hide hb5
    have hz5 := hb5.size
    have hA5 : w5.heap[w.heap.size + 3]? = _ := (hb5.block (w.heap.size + 3) (by omega)).trans HA.out
    have a0 : w5.cell? ⟨w.heap.size + 1 + 1 + 1, 0, none⟩ = some (.int .u8 0) := by rw [World.cell?, show w.heap.size + 1 + 1 + 1 = w.heap.size + 3 from rfl, hA5]; rfl
    have f0 : w5.frozen? ⟨w.heap.size + 1 + 1 + 1, 0, none⟩ = false := by rw [World.frozen?, show w.heap.size + 1 + 1 + 1 = w.heap.size + 3 from rfl, hA5]; rfl
    have a2 : w5.cell? ⟨w.heap.size + 1 + 1 + 1, 2, none⟩ = some (.slice none 0 0) := by rw [World.cell?, show w.heap.size + 1 + 1 + 1 = w.heap.size + 3 from rfl, hA5]; rfl
    have f2 : w5.frozen? ⟨w.heap.size + 1 + 1 + 1, 2, none⟩ = false := by rw [World.frozen?, show w.heap.size + 1 + 1 + 1 = w.heap.size + 3 from rfl, hA5]; rfl
    have HU5 := hide (HU.out.below hb5)
    clear hb5
    go_upto_region 75 with fail
    obtain ⟨W, hW⟩ : ∃ W, W = (w5.setCell ⟨w.heap.size + 1 + 1 + 1, 2, none⟩ (.slice pa pn pc)) := ⟨_, rfl⟩
    have hS0 : (w5.setCell ⟨w.heap.size + 1 + 1 + 1, 2, none⟩ (.slice pa pn pc)).heap[w.heap.size + 3]? = some (.cells #[.int .u8 0, .int .i64 0, .slice pa pn pc, .int .u32 0, .int .u8 0, .int .i64 0, .int .i64 0, .int .u32 0, .int .i64 0, .slice none 0 0, .int .u32 0, .int .i64 0, .int .i64 0, .int .i64 0, .int .u32 0, .int .u32 0, .int .i64 0] 47 (0, 0)) := heap_setCell_same _ (w.heap.size + 3) 2 _ _ (.slice pa pn pc) hA5
    have hAW : W.heap[w.heap.size + 3]? = some (.cells #[.int .u8 0, .int .i64 0, .slice pa pn pc, .int .u32 0, .int .u8 0, .int .i64 0, .int .i64 0, .int .u32 0, .int .i64 0, .slice none 0 0, .int .u32 0, .int .i64 0, .int .i64 0, .int .i64 0, .int .u32 0, .int .u32 0, .int .i64 0] 47 (0, 0)) := by rw [hW]; exact hS0
    have hWo : ∀ b, b ≠ w.heap.size + 3 → W.heap[b]? = w5.heap[b]? := fun b hb => by rw [hW]; exact (Below.heap_setCell _ _ _ _ hb)
    have hWs : w5.heap.size ≤ W.heap.size := by rw [hW]; simp [World.setCell]
    have hWb : Below base w5 W := by rw [hW]; exact ((Below.refl _ _).setCell (p := ⟨w.heap.size + 1 + 1 + 1, 2, none⟩) (by show base ≤ w.heap.size + 1 + 1 + 1; omega) _)
    rw [← hW]
    have hRW : W.heap[w.heap.size + 2]? = some (.cells #[.int .u8 0, .int .i64 0, .slice none 0 0, .int .u32 0, .int .u8 0, .int .i64 0, .int .i64 0, .int .u32 0, .int .i64 0, .slice none 0 0, .int .u32 0, .int .i64 0, .int .i64 0, .int .i64 0, .int .u32 0, .int .u32 0, .int .i64 0] 47 (0, 0)) := (hWo _ (by omega)).trans ((HB5.out.block (w.heap.size + 2) (by omega)).trans HR.out)
    have rz : rng W (w.heap.size + 1 + 1 + 1) 0 17 = some #[.int .u8 0, .int .i64 0, .slice pa pn pc, .int .u32 0, .int .u8 0, .int .i64 0, .int .i64 0, .int .u32 0, .int .i64 0, .slice none 0 0, .int .u32 0, .int .i64 0, .int .i64 0, .int .i64 0, .int .u32 0, .int .u32 0, .int .i64 0] := rng_whole hAW
    have hwh : whole W (w.heap.size + 1 + 1) 17 = true := whole_of_heap hRW
    have HWO := hide hWo
    have HWB := hide hWb
    have HRW := hide hRW
    clear hW hWo hWb hRW hAW
    go_wp2
    have hfin := heap_setRow_at (ds := #[.int .u8 0, .int .i64 0, .slice pa pn pc, .int .u32 0, .int .u8 0, .int .i64 0, .int .i64 0, .int .u32 0, .int .i64 0, .slice none 0 0, .int .u32 0, .int .i64 0, .int .i64 0, .int .i64 0, .int .u32 0, .int .u32 0, .int .i64 0]) HRW.out
    refine bodyPost_ret (results_cell1 Tryd.results10 _ _ (w.heap.size + 2) _ _ _ _ rfl hfin Tryd.underlying47 rfl (by kernel_rfl)) rfl ?_
    have hoth : ∀ b, b ≠ w.heap.size + 2 → b ≠ w.heap.size + 3 → (W.setRow (w.heap.size + 2) #[.int .u8 0, .int .i64 0, .slice pa pn pc, .int .u32 0, .int .u8 0, .int .i64 0, .int .i64 0, .int .u32 0, .int .i64 0, .slice none 0 0, .int .u32 0, .int .i64 0, .int .i64 0, .int .i64 0, .int .u32 0, .int .u32 0, .int .i64 0]).heap[b]? = w5.heap[b]? := fun b h1 h2 => (setRow_other _ _ _ _ h1).trans (HWO.out b h2)
    have hcm := MCmd.around HM.out HB4.out hs4 (MCmd.after HM4.out HB5.out (MCmd.refl (HM4.out.ext HB5.out))) hoth (by simp; omega) (HWB.out.trans (below_setRow' _ _ (by omega)))
    exact ret_ms (hide ⟨HAA.out.1.trans (by simp only [panR, hT]), HAA.out.2⟩ : Hid (AA = ({ list := l } : PA) ∧ TT = T ∧ FF = full)) ⟨_, _, { list := (pa, pn, pc) }, rfl, hcm, ⟨u32s_any (HU5.out.mono (fun b hb => hoth b (by have := HM.out.hlt b (Or.inr (Or.inr hb)); omega) (by have := HM.out.hlt b (Or.inr (Or.inr hb)); omega)) (fun _ h => h)), visits_any (visits_nil _ (fun _ => True)), by simp⟩⟩

  | none =>
    rw [hT] at hlk HU
    simp only [Option.isSome_none] at hlk
    refine wp_region_mixT (w4.heap.size) [0, 3, 5, 6] (by kernel_rfl) ?_
    refine mixT_reads [0] (fuel := 11) rfl (by kernel_rfl) (by decide) (by kernel_rfl) (fun d _ _ _ _ h => by cases d <;> exact h) (ext_drew _ _) ?_
    simp only [opersAt, List.getElem?_toArray, List.getElem?_cons_zero]
    repeat (go_big_quiet_step (fail))
    refine wpQuiet_nil ?_
    refine mixT_slots [1, 2] (fuel := 9) rfl (by kernel_rfl) (by kernel_rfl) (fun d _ _ _ _ h => by cases d <;> exact h) ?_
    simp only [opersAt, List.getElem?_toArray, List.getElem?_cons_zero, List.getElem?_cons_succ]
    repeat (go_big_quiet_step (fail))
    refine wpQuiet_nil ?_
    refine mixT_reads [3] (fuel := 8) rfl (by kernel_rfl) (by decide) (by kernel_rfl) (fun d _ _ _ _ h => by cases d <;> exact h) (ext_drew _ _) ?_
    simp only [opersAt, List.getElem?_toArray, List.getElem?_cons_zero, List.getElem?_cons_succ]
    repeat (go_big_quiet_step (fail))
    refine wpQuiet_nil ?_
    refine mixT_slots [4] (fuel := 7) rfl (by kernel_rfl) (by kernel_rfl) (fun d _ _ _ _ h => by cases d <;> exact h) ?_
    simp only [opersAt, List.getElem?_toArray, List.getElem?_cons_zero, List.getElem?_cons_succ]
    repeat (go_big_quiet_step (fail))
    refine wpQuiet_nil ?_
    refine mixT_reads [5, 6] (fuel := 5) rfl (by kernel_rfl) (by decide) (by kernel_rfl) (fun d _ _ _ _ h => by cases d <;> exact h) (ext_drew _ _) ?_
    simp only [opersAt, List.getElem?_toArray, List.getElem?_cons_zero, List.getElem?_cons_succ]
    repeat (go_big_quiet_step (fail))
    refine wpQuiet_nil ?_
    refine mixT_slots [7, 8, 9] (fuel := 2) rfl (by kernel_rfl) (by kernel_rfl) (fun d _ _ _ _ h => by cases d <;> exact h) ?_
    simp only [opersAt, List.getElem?_toArray, List.getElem?_cons_zero, List.getElem?_cons_succ]
    repeat (go_big_quiet_step (fail))
    refine wpQuiet_nil ?_
    refine mixT_one (k := 10) (by kernel_rfl) rfl ?_
    go_wp2
    first | refine ⟨Or.inr (fun h => h), ?_⟩ | skip
    refine mixT_one (k := 11) (by kernel_rfl) rfl ?_
    go_wp2
    first | refine ⟨Or.inr (fun h => h), ?_⟩ | skip
    refine mixT_nil (by kernel_rfl) ?_

    obtain ⟨w5, hw5⟩ : ∃ w5, w5 = w4.drew := ⟨_, rfl⟩
    have hb5 : Below w4.heap.size w4 w5 := by rw [hw5]; exact (Below.refl _ _).drew
    rw [← hw5]
    clear hw5
    have HB5 := hide hb5
    have hz5 := hb5.size
    have hA5 : w5.heap[w.heap.size + 3]? = _ := (hb5.block (w.heap.size + 3) (by omega)).trans HA.out
    have a0 : w5.cell? ⟨w.heap.size + 1 + 1 + 1, 0, none⟩ = some (.int .u8 0) := by rw [World.cell?, show w.heap.size + 1 + 1 + 1 = w.heap.size + 3 from rfl, hA5]; rfl
    have f0 : w5.frozen? ⟨w.heap.size + 1 + 1 + 1, 0, none⟩ = false := by rw [World.frozen?, show w.heap.size + 1 + 1 + 1 = w.heap.size + 3 from rfl, hA5]; rfl
    have a2 : w5.cell? ⟨w.heap.size + 1 + 1 + 1, 2, none⟩ = some (.slice none 0 0) := by rw [World.cell?, show w.heap.size + 1 + 1 + 1 = w.heap.size + 3 from rfl, hA5]; rfl
    have f2 : w5.frozen? ⟨w.heap.size + 1 + 1 + 1, 2, none⟩ = false := by rw [World.frozen?, show w.heap.size + 1 + 1 + 1 = w.heap.size + 3 from rfl, hA5]; rfl
    have HU5 := hide (HU.out.below hb5)
    clear hb5
    go_upto_region 75 with fail
    obtain ⟨W, hW⟩ : ∃ W, W = ((w5.setCell ⟨w.heap.size + 1 + 1 + 1, 2, none⟩ (.slice pa pn pc)).setCell ⟨w.heap.size + 1 + 1 + 1, 0, none⟩ (.int .u8 15)) := ⟨_, rfl⟩
    have hS0 : (w5.setCell ⟨w.heap.size + 1 + 1 + 1, 2, none⟩ (.slice pa pn pc)).heap[w.heap.size + 3]? = some (.cells #[.int .u8 0, .int .i64 0, .slice pa pn pc, .int .u32 0, .int .u8 0, .int .i64 0, .int .i64 0, .int .u32 0, .int .i64 0, .slice none 0 0, .int .u32 0, .int .i64 0, .int .i64 0, .int .i64 0, .int .u32 0, .int .u32 0, .int .i64 0] 47 (0, 0)) := heap_setCell_same _ (w.heap.size + 3) 2 _ _ (.slice pa pn pc) hA5
    have hS1 : ((w5.setCell ⟨w.heap.size + 1 + 1 + 1, 2, none⟩ (.slice pa pn pc)).setCell ⟨w.heap.size + 1 + 1 + 1, 0, none⟩ (.int .u8 15)).heap[w.heap.size + 3]? = some (.cells #[.int .u8 15, .int .i64 0, .slice pa pn pc, .int .u32 0, .int .u8 0, .int .i64 0, .int .i64 0, .int .u32 0, .int .i64 0, .slice none 0 0, .int .u32 0, .int .i64 0, .int .i64 0, .int .i64 0, .int .u32 0, .int .u32 0, .int .i64 0] 47 (0, 0)) := heap_setCell_same _ (w.heap.size + 3) 0 _ _ (.int .u8 15) hS0
    have hAW : W.heap[w.heap.size + 3]? = some (.cells #[.int .u8 15, .int .i64 0, .slice pa pn pc, .int .u32 0, .int .u8 0, .int .i64 0, .int .i64 0, .int .u32 0, .int .i64 0, .slice none 0 0, .int .u32 0, .int .i64 0, .int .i64 0, .int .i64 0, .int .u32 0, .int .u32 0, .int .i64 0] 47 (0, 0)) := by rw [hW]; exact hS1
    have hWo : ∀ b, b ≠ w.heap.size + 3 → W.heap[b]? = w5.heap[b]? := fun b hb => by rw [hW]; exact ((Below.heap_setCell _ _ _ _ hb).trans (Below.heap_setCell _ _ _ _ hb))
    have hWs : w5.heap.size ≤ W.heap.size := by rw [hW]; simp [World.setCell]
    have hWb : Below base w5 W := by rw [hW]; exact (((Below.refl _ _).setCell (p := ⟨w.heap.size + 1 + 1 + 1, 2, none⟩) (by show base ≤ w.heap.size + 1 + 1 + 1; omega) _).setCell (p := ⟨w.heap.size + 1 + 1 + 1, 0, none⟩) (by show base ≤ w.heap.size + 1 + 1 + 1; omega) _)
    rw [← hW]
    have hRW : W.heap[w.heap.size + 2]? = some (.cells #[.int .u8 0, .int .i64 0, .slice none 0 0, .int .u32 0, .int .u8 0, .int .i64 0, .int .i64 0, .int .u32 0, .int .i64 0, .slice none 0 0, .int .u32 0, .int .i64 0, .int .i64 0, .int .i64 0, .int .u32 0, .int .u32 0, .int .i64 0] 47 (0, 0)) := (hWo _ (by omega)).trans ((HB5.out.block (w.heap.size + 2) (by omega)).trans HR.out)
    have rz : rng W (w.heap.size + 1 + 1 + 1) 0 17 = some #[.int .u8 15, .int .i64 0, .slice pa pn pc, .int .u32 0, .int .u8 0, .int .i64 0, .int .i64 0, .int .u32 0, .int .i64 0, .slice none 0 0, .int .u32 0, .int .i64 0, .int .i64 0, .int .i64 0, .int .u32 0, .int .u32 0, .int .i64 0] := rng_whole hAW
    have hwh : whole W (w.heap.size + 1 + 1) 17 = true := whole_of_heap hRW
    have HWO := hide hWo
    have HWB := hide hWb
    have HRW := hide hRW
    clear hW hWo hWb hRW hAW
    go_wp2
    have hfin := heap_setRow_at (ds := #[.int .u8 15, .int .i64 0, .slice pa pn pc, .int .u32 0, .int .u8 0, .int .i64 0, .int .i64 0, .int .u32 0, .int .i64 0, .slice none 0 0, .int .u32 0, .int .i64 0, .int .i64 0, .int .i64 0, .int .u32 0, .int .u32 0, .int .i64 0]) HRW.out
    refine bodyPost_ret (results_cell1 Tryd.results10 _ _ (w.heap.size + 2) _ _ _ _ rfl hfin Tryd.underlying47 rfl (by kernel_rfl)) rfl ?_
    have hoth : ∀ b, b ≠ w.heap.size + 2 → b ≠ w.heap.size + 3 → (W.setRow (w.heap.size + 2) #[.int .u8 15, .int .i64 0, .slice pa pn pc, .int .u32 0, .int .u8 0, .int .i64 0, .int .i64 0, .int .u32 0, .int .i64 0, .slice none 0 0, .int .u32 0, .int .i64 0, .int .i64 0, .int .i64 0, .int .u32 0, .int .u32 0, .int .i64 0]).heap[b]? = w5.heap[b]? := fun b h1 h2 => (setRow_other _ _ _ _ h1).trans (HWO.out b h2)
    have hcm := MCmd.around HM.out HB4.out hs4 (MCmd.after HM4.out HB5.out (MCmd.refl (HM4.out.ext HB5.out))) hoth (by simp; omega) (HWB.out.trans (below_setRow' _ _ (by omega)))
    exact ret_ms (hide ⟨HAA.out.1.trans (by simp only [panR, hT]), HAA.out.2⟩ : Hid (AA = ({ code := 15 } : PA) ∧ TT = T ∧ FF = full)) ⟨_, _, { code := 15, list := (pa, pn, pc) }, rfl, hcm, ⟨u32s_any (HU5.out.mono (fun b hb => hoth b (by have := HM.out.hlt b (Or.inr (Or.inr hb)); omega) (by have := HM.out.hlt b (Or.inr (Or.inr hb)); omega)) (fun _ h => h)), visits_any (visits_nil _ (fun _ => True)), by simp⟩⟩

end Go.Proofs.Qxb6500665aDoor
