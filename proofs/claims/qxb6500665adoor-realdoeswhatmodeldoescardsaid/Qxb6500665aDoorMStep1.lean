/- The kinds of the model's step, walked. (Made by tools/mk_mstep.py.) -/
import Derived.Test.Qxb6500665aDoorModAm
import Derived.Test.Qxb6500665aDoorMStep0
namespace Go.Proofs.Qxb6500665aDoor
open Go.RowKit Go.Proofs.Qxb6500665aDoor.Cal

attribute [local go_sem ↓] exec_stAnswer exec_ldAnswer 
attribute [local go_sem] run_stAnswer run_ldAnswer rng_drew ext_const Ext.cell Ext.frozen Ext.rng Ext.whole ones17 

set_option maxRecDepth 100000 in
set_option maxHeartbeats 8000000 in
theorem mstep_1 (w : World) (M base N a p s u : Nat) (v : Value) (C : Nat → Prop) (T : Tab) (full : Bool) (o : Op) (la va : Option Addr) (ln lc vn vc : Nat) (h : MAt w M base N a p s u v C T full) (hid : U32 o.id) (hN : N < 1000000000) (hk : o.kind = 1) :
    Calls Tryd.prog 10 #[.pointer (some ⟨M, 0, none⟩), .agg (opCs o (.slice la ln lc) (.slice va vn vc))] w fun e w' => MSPost w w' e M base (N + 1) a p s u v C { code := mAn T full o.id o.l0 o.l1 o.l2 } (mAnT T full o.id o.l0 o.l1 o.l2) full := by
  obtain ⟨w4, HW4, hb4, hs4, hP, hX, hR, hA⟩ := mstep_start w o la va ln lc vn vc M
  obtain ⟨okind, oid, oref, omin, odel, ol0, ol1, ol2, olist, ovis⟩ := o
  simp only at hk
  simp only [opCs, ansCs, sv] at hX HW4 hR hA ⊢
  obtain ⟨AA, hAA⟩ : ∃ AA : PA, AA = { code := mAn T full oid ol0 ol1 ol2 } := ⟨_, rfl⟩
  obtain ⟨FF, hFF⟩ : ∃ FF : Bool, FF = full := ⟨_, rfl⟩
  obtain ⟨TT, hTT⟩ : ∃ TT : Tab, TT = (mAnT T full oid ol0 ol1 ol2) := ⟨_, rfl⟩
  rw [← hAA, ← hTT, ← hFF]
  have HAA := hide (And.intro hAA (And.intro hTT hFF))
  clear hAA hFF hTT
  have p0 : w4.cell? ⟨w.heap.size, 0, none⟩ = some (.pointer (some ⟨M, 0, none⟩)) := by rw [World.cell?, hP]; rfl
  have x0 : w4.cell? ⟨w.heap.size + 1, 0, none⟩ = some (.int .u8 okind) := by rw [World.cell?, hX]; rfl
  have x1 : w4.cell? ⟨w.heap.size + 1, 1, none⟩ = some (.int .u32 oid) := by rw [World.cell?, hX]; rfl
  have x2 : w4.cell? ⟨w.heap.size + 1, 2, none⟩ = some (.int .u32 oref) := by rw [World.cell?, hX]; rfl
  have x3 : w4.cell? ⟨w.heap.size + 1, 3, none⟩ = some (.int .i64 omin) := by rw [World.cell?, hX]; rfl
  have x4 : w4.cell? ⟨w.heap.size + 1, 4, none⟩ = some (.int .i64 odel) := by rw [World.cell?, hX]; rfl
  have x5 : w4.cell? ⟨w.heap.size + 1, 5, none⟩ = some (.int .i64 ol0) := by rw [World.cell?, hX]; rfl
  have x6 : w4.cell? ⟨w.heap.size + 1, 6, none⟩ = some (.int .i64 ol1) := by rw [World.cell?, hX]; rfl
  have x7 : w4.cell? ⟨w.heap.size + 1, 7, none⟩ = some (.int .i64 ol2) := by rw [World.cell?, hX]; rfl
  have x8 : w4.cell? ⟨w.heap.size + 1, 8, none⟩ = some (.slice la ln lc) := by rw [World.cell?, hX]; rfl
  have x9 : w4.cell? ⟨w.heap.size + 1, 9, none⟩ = some (.slice va vn vc) := by rw [World.cell?, hX]; rfl
  have HM := hide h
  have HM4 := hide (h.ext hb4)
  have hMl := h.hlt M (Or.inl (by simp))
  have hM4 : M < w.heap.size + 4 := by omega
  have hM4' : M < w4.heap.size := by omega
  have HB4 := hide hb4
  have HR := hide hR
  have HA := hide hA
  have HX := hide hX
  have HP := hide hP
  have hbs := h.bs
  subst hk
  clear h hb4 hR hA hX hP
  go_enter Tryd.func10, Tryd.ntmps10
  go_upto_region 2 with fail
  rw [← HW4.out]
  clear HW4
  have HCALL := hide (defineAnalyte_m w4 M base N a p s u v C T full oid ol0 ol1 ol2 HM4.out hid hN)
  go_upto_region 75 with (go_at_call 34; refine HCALL.out.mono ?_; rintro e w5 ⟨rfl, hcmd⟩; have hA5 : w5.heap[w.heap.size + 3]? = _ := (ans_after HM.out hs4 hcmd (w.heap.size + 3) (by omega) (by omega)).trans HA.out; have a0 : w5.cell? ⟨w.heap.size + 1 + 1 + 1, 0, none⟩ = some (.int .u8 0) := (by rw [World.cell?, show w.heap.size + 1 + 1 + 1 = w.heap.size + 3 from rfl, hA5]; rfl); have f0 : w5.frozen? ⟨w.heap.size + 1 + 1 + 1, 0, none⟩ = false := (by rw [World.frozen?, show w.heap.size + 1 + 1 + 1 = w.heap.size + 3 from rfl, hA5]; rfl); have HC := hide hcmd; clear hcmd)
  have hz5 := HC.out.below.size
  obtain ⟨W, hW⟩ : ∃ W, W = (w5.setCell ⟨w.heap.size + 1 + 1 + 1, 0, none⟩ (.int .u8 (mAn T full oid ol0 ol1 ol2))) := ⟨_, rfl⟩
  have hS0 : (w5.setCell ⟨w.heap.size + 1 + 1 + 1, 0, none⟩ (.int .u8 (mAn T full oid ol0 ol1 ol2))).heap[w.heap.size + 3]? = some (.cells #[.int .u8 (mAn T full oid ol0 ol1 ol2), .int .i64 0, .slice none 0 0, .int .u32 0, .int .u8 0, .int .i64 0, .int .i64 0, .int .u32 0, .int .i64 0, .slice none 0 0, .int .u32 0, .int .i64 0, .int .i64 0, .int .i64 0, .int .u32 0, .int .u32 0, .int .i64 0] 47 (0, 0)) := heap_setCell_same _ (w.heap.size + 3) 0 _ _ (.int .u8 (mAn T full oid ol0 ol1 ol2)) hA5
  have hAW : W.heap[w.heap.size + 3]? = some (.cells #[.int .u8 (mAn T full oid ol0 ol1 ol2), .int .i64 0, .slice none 0 0, .int .u32 0, .int .u8 0, .int .i64 0, .int .i64 0, .int .u32 0, .int .i64 0, .slice none 0 0, .int .u32 0, .int .i64 0, .int .i64 0, .int .i64 0, .int .u32 0, .int .u32 0, .int .i64 0] 47 (0, 0)) := by rw [hW]; exact hS0
  have hWo : ∀ b, b ≠ w.heap.size + 3 → W.heap[b]? = w5.heap[b]? := fun b hb => by rw [hW]; exact (Below.heap_setCell _ _ _ _ hb)
  have hWs : w5.heap.size ≤ W.heap.size := by rw [hW]; simp [World.setCell]
  have hWb : Below base w5 W := by rw [hW]; exact ((Below.refl _ _).setCell (p := ⟨w.heap.size + 1 + 1 + 1, 0, none⟩) (by show base ≤ w.heap.size + 1 + 1 + 1; omega) _)
  rw [← hW]
  have hRW : W.heap[w.heap.size + 2]? = some (.cells #[.int .u8 0, .int .i64 0, .slice none 0 0, .int .u32 0, .int .u8 0, .int .i64 0, .int .i64 0, .int .u32 0, .int .i64 0, .slice none 0 0, .int .u32 0, .int .i64 0, .int .i64 0, .int .i64 0, .int .u32 0, .int .u32 0, .int .i64 0] 47 (0, 0)) := (hWo _ (by omega)).trans ((ans_after HM.out hs4 HC.out (w.heap.size + 2) (by omega) (by omega)).trans HR.out)
  have rz : rng W (w.heap.size + 1 + 1 + 1) 0 17 = some #[.int .u8 (mAn T full oid ol0 ol1 ol2), .int .i64 0, .slice none 0 0, .int .u32 0, .int .u8 0, .int .i64 0, .int .i64 0, .int .u32 0, .int .i64 0, .slice none 0 0, .int .u32 0, .int .i64 0, .int .i64 0, .int .i64 0, .int .u32 0, .int .u32 0, .int .i64 0] := rng_whole hAW
  have hwh : whole W (w.heap.size + 1 + 1) 17 = true := whole_of_heap hRW
  have HWO := hide hWo
  have HWB := hide hWb
  have HRW := hide hRW
  clear hW hWo hWb hRW hAW
  go_wp2
  have hfin := heap_setRow_at (ds := #[.int .u8 (mAn T full oid ol0 ol1 ol2), .int .i64 0, .slice none 0 0, .int .u32 0, .int .u8 0, .int .i64 0, .int .i64 0, .int .u32 0, .int .i64 0, .slice none 0 0, .int .u32 0, .int .i64 0, .int .i64 0, .int .i64 0, .int .u32 0, .int .u32 0, .int .i64 0]) HRW.out
  refine bodyPost_ret (results_cell1 Tryd.results10 _ _ (w.heap.size + 2) _ _ _ _ rfl hfin Tryd.underlying47 rfl (by kernel_rfl)) rfl ?_
  have hoth : ∀ b, b ≠ w.heap.size + 2 → b ≠ w.heap.size + 3 → (W.setRow (w.heap.size + 2) #[.int .u8 (mAn T full oid ol0 ol1 ol2), .int .i64 0, .slice none 0 0, .int .u32 0, .int .u8 0, .int .i64 0, .int .i64 0, .int .u32 0, .int .i64 0, .slice none 0 0, .int .u32 0, .int .i64 0, .int .i64 0, .int .i64 0, .int .u32 0, .int .u32 0, .int .i64 0]).heap[b]? = w5.heap[b]? := fun b h1 h2 => (setRow_other _ _ _ _ h1).trans (HWO.out b h2)
  have hcm := MCmd.around HM.out HB4.out hs4 (HC.out) hoth (by simp; omega) (HWB.out.trans (below_setRow' _ _ (by omega)))
  exact ret_ms HAA ⟨_, _, { code := mAn T full oid ol0 ol1 ol2 }, rfl, hcm, ⟨u32s_none _, visits_any (visits_nil _ (fun _ => True)), by simp⟩⟩

set_option maxRecDepth 100000 in
set_option maxHeartbeats 8000000 in
theorem mstep_4 (w : World) (M base N a p s u : Nat) (v : Value) (C : Nat → Prop) (T : Tab) (full : Bool) (o : Op) (la va : Option Addr) (ln lc vn vc : Nat) (h : MAt w M base N a p s u v C T full) (hid : U32 o.id) (hN : N < 1000000000) (hk : o.kind = 4) :
    Calls Tryd.prog 10 #[.pointer (some ⟨M, 0, none⟩), .agg (opCs o (.slice la ln lc) (.slice va vn vc))] w fun e w' => MSPost w w' e M base (N + 1) a p s u v C { code := mSite T full o.id } (mSiteT T full o.id) full := by
  obtain ⟨w4, HW4, hb4, hs4, hP, hX, hR, hA⟩ := mstep_start w o la va ln lc vn vc M
  obtain ⟨okind, oid, oref, omin, odel, ol0, ol1, ol2, olist, ovis⟩ := o
  simp only at hk
  simp only [opCs, ansCs, sv] at hX HW4 hR hA ⊢
  obtain ⟨AA, hAA⟩ : ∃ AA : PA, AA = { code := mSite T full oid } := ⟨_, rfl⟩
  obtain ⟨FF, hFF⟩ : ∃ FF : Bool, FF = full := ⟨_, rfl⟩
  obtain ⟨TT, hTT⟩ : ∃ TT : Tab, TT = (mSiteT T full oid) := ⟨_, rfl⟩
  rw [← hAA, ← hTT, ← hFF]
  have HAA := hide (And.intro hAA (And.intro hTT hFF))
  clear hAA hFF hTT
  have p0 : w4.cell? ⟨w.heap.size, 0, none⟩ = some (.pointer (some ⟨M, 0, none⟩)) := by rw [World.cell?, hP]; rfl
  have x0 : w4.cell? ⟨w.heap.size + 1, 0, none⟩ = some (.int .u8 okind) := by rw [World.cell?, hX]; rfl
  have x1 : w4.cell? ⟨w.heap.size + 1, 1, none⟩ = some (.int .u32 oid) := by rw [World.cell?, hX]; rfl
  have x2 : w4.cell? ⟨w.heap.size + 1, 2, none⟩ = some (.int .u32 oref) := by rw [World.cell?, hX]; rfl
  have x3 : w4.cell? ⟨w.heap.size + 1, 3, none⟩ = some (.int .i64 omin) := by rw [World.cell?, hX]; rfl
  have x4 : w4.cell? ⟨w.heap.size + 1, 4, none⟩ = some (.int .i64 odel) := by rw [World.cell?, hX]; rfl
  have x5 : w4.cell? ⟨w.heap.size + 1, 5, none⟩ = some (.int .i64 ol0) := by rw [World.cell?, hX]; rfl
  have x6 : w4.cell? ⟨w.heap.size + 1, 6, none⟩ = some (.int .i64 ol1) := by rw [World.cell?, hX]; rfl
  have x7 : w4.cell? ⟨w.heap.size + 1, 7, none⟩ = some (.int .i64 ol2) := by rw [World.cell?, hX]; rfl
  have x8 : w4.cell? ⟨w.heap.size + 1, 8, none⟩ = some (.slice la ln lc) := by rw [World.cell?, hX]; rfl
  have x9 : w4.cell? ⟨w.heap.size + 1, 9, none⟩ = some (.slice va vn vc) := by rw [World.cell?, hX]; rfl
  have HM := hide h
  have HM4 := hide (h.ext hb4)
  have hMl := h.hlt M (Or.inl (by simp))
  have hM4 : M < w.heap.size + 4 := by omega
  have hM4' : M < w4.heap.size := by omega
  have HB4 := hide hb4
  have HR := hide hR
  have HA := hide hA
  have HX := hide hX
  have HP := hide hP
  have hbs := h.bs
  subst hk
  clear h hb4 hR hA hX hP
  go_enter Tryd.func10, Tryd.ntmps10
  go_upto_region 2 with fail
  rw [← HW4.out]
  clear HW4
  have HCALL := hide (addSite_m w4 M base N a p s u v C T full oid HM4.out hid hN)
  go_upto_region 75 with (go_at_call 37; refine HCALL.out.mono ?_; rintro e w5 ⟨rfl, hcmd⟩; have hA5 : w5.heap[w.heap.size + 3]? = _ := (ans_after HM.out hs4 hcmd (w.heap.size + 3) (by omega) (by omega)).trans HA.out; have a0 : w5.cell? ⟨w.heap.size + 1 + 1 + 1, 0, none⟩ = some (.int .u8 0) := (by rw [World.cell?, show w.heap.size + 1 + 1 + 1 = w.heap.size + 3 from rfl, hA5]; rfl); have f0 : w5.frozen? ⟨w.heap.size + 1 + 1 + 1, 0, none⟩ = false := (by rw [World.frozen?, show w.heap.size + 1 + 1 + 1 = w.heap.size + 3 from rfl, hA5]; rfl); have HC := hide hcmd; clear hcmd)
  have hz5 := HC.out.below.size
  obtain ⟨W, hW⟩ : ∃ W, W = (w5.setCell ⟨w.heap.size + 1 + 1 + 1, 0, none⟩ (.int .u8 (mSite T full oid))) := ⟨_, rfl⟩
  have hS0 : (w5.setCell ⟨w.heap.size + 1 + 1 + 1, 0, none⟩ (.int .u8 (mSite T full oid))).heap[w.heap.size + 3]? = some (.cells #[.int .u8 (mSite T full oid), .int .i64 0, .slice none 0 0, .int .u32 0, .int .u8 0, .int .i64 0, .int .i64 0, .int .u32 0, .int .i64 0, .slice none 0 0, .int .u32 0, .int .i64 0, .int .i64 0, .int .i64 0, .int .u32 0, .int .u32 0, .int .i64 0] 47 (0, 0)) := heap_setCell_same _ (w.heap.size + 3) 0 _ _ (.int .u8 (mSite T full oid)) hA5
  have hAW : W.heap[w.heap.size + 3]? = some (.cells #[.int .u8 (mSite T full oid), .int .i64 0, .slice none 0 0, .int .u32 0, .int .u8 0, .int .i64 0, .int .i64 0, .int .u32 0, .int .i64 0, .slice none 0 0, .int .u32 0, .int .i64 0, .int .i64 0, .int .i64 0, .int .u32 0, .int .u32 0, .int .i64 0] 47 (0, 0)) := by rw [hW]; exact hS0
  have hWo : ∀ b, b ≠ w.heap.size + 3 → W.heap[b]? = w5.heap[b]? := fun b hb => by rw [hW]; exact (Below.heap_setCell _ _ _ _ hb)
  have hWs : w5.heap.size ≤ W.heap.size := by rw [hW]; simp [World.setCell]
  have hWb : Below base w5 W := by rw [hW]; exact ((Below.refl _ _).setCell (p := ⟨w.heap.size + 1 + 1 + 1, 0, none⟩) (by show base ≤ w.heap.size + 1 + 1 + 1; omega) _)
  rw [← hW]
  have hRW : W.heap[w.heap.size + 2]? = some (.cells #[.int .u8 0, .int .i64 0, .slice none 0 0, .int .u32 0, .int .u8 0, .int .i64 0, .int .i64 0, .int .u32 0, .int .i64 0, .slice none 0 0, .int .u32 0, .int .i64 0, .int .i64 0, .int .i64 0, .int .u32 0, .int .u32 0, .int .i64 0] 47 (0, 0)) := (hWo _ (by omega)).trans ((ans_after HM.out hs4 HC.out (w.heap.size + 2) (by omega) (by omega)).trans HR.out)
  have rz : rng W (w.heap.size + 1 + 1 + 1) 0 17 = some #[.int .u8 (mSite T full oid), .int .i64 0, .slice none 0 0, .int .u32 0, .int .u8 0, .int .i64 0, .int .i64 0, .int .u32 0, .int .i64 0, .slice none 0 0, .int .u32 0, .int .i64 0, .int .i64 0, .int .i64 0, .int .u32 0, .int .u32 0, .int .i64 0] := rng_whole hAW
  have hwh : whole W (w.heap.size + 1 + 1) 17 = true := whole_of_heap hRW
  have HWO := hide hWo
  have HWB := hide hWb
  have HRW := hide hRW
  clear hW hWo hWb hRW hAW
  go_wp2
  have hfin := heap_setRow_at (ds := #[.int .u8 (mSite T full oid), .int .i64 0, .slice none 0 0, .int .u32 0, .int .u8 0, .int .i64 0, .int .i64 0, .int .u32 0, .int .i64 0, .slice none 0 0, .int .u32 0, .int .i64 0, .int .i64 0, .int .i64 0, .int .u32 0, .int .u32 0, .int .i64 0]) HRW.out
  refine bodyPost_ret (results_cell1 Tryd.results10 _ _ (w.heap.size + 2) _ _ _ _ rfl hfin Tryd.underlying47 rfl (by kernel_rfl)) rfl ?_
  have hoth : ∀ b, b ≠ w.heap.size + 2 → b ≠ w.heap.size + 3 → (W.setRow (w.heap.size + 2) #[.int .u8 (mSite T full oid), .int .i64 0, .slice none 0 0, .int .u32 0, .int .u8 0, .int .i64 0, .int .i64 0, .int .u32 0, .int .i64 0, .slice none 0 0, .int .u32 0, .int .i64 0, .int .i64 0, .int .i64 0, .int .u32 0, .int .u32 0, .int .i64 0]).heap[b]? = w5.heap[b]? := fun b h1 h2 => (setRow_other _ _ _ _ h1).trans (HWO.out b h2)
  have hcm := MCmd.around HM.out HB4.out hs4 (HC.out) hoth (by simp; omega) (HWB.out.trans (below_setRow' _ _ (by omega)))
  exact ret_ms HAA ⟨_, _, { code := mSite T full oid }, rfl, hcm, ⟨u32s_none _, visits_any (visits_nil _ (fun _ => True)), by simp⟩⟩

set_option maxRecDepth 100000 in
set_option maxHeartbeats 8000000 in
theorem mstep_5 (w : World) (M base N a p s u : Nat) (v : Value) (C : Nat → Prop) (T : Tab) (full : Bool) (o : Op) (la va : Option Addr) (ln lc vn vc : Nat) (h : MAt w M base N a p s u v C T full) (hid : U32 o.id) (hre : U32 o.ref) (hasc : AscV T.vers) (hvl : T.vers.length ≤ 1000000) (hN : N < 1000000000) (hk : o.kind = 5) :
    Calls Tryd.prog 10 #[.pointer (some ⟨M, 0, none⟩), .agg (opCs o (.slice la ln lc) (.slice va vn vc))] w fun e w' => MSPost w w' e M base (N + 1) a p s u v C { code := mEnr T full o.id o.ref o.minute } (mEnrT T full o.id o.ref o.minute) full := by
  obtain ⟨w4, HW4, hb4, hs4, hP, hX, hR, hA⟩ := mstep_start w o la va ln lc vn vc M
  obtain ⟨okind, oid, oref, omin, odel, ol0, ol1, ol2, olist, ovis⟩ := o
  simp only at hk
  simp only [opCs, ansCs, sv] at hX HW4 hR hA ⊢
  obtain ⟨AA, hAA⟩ : ∃ AA : PA, AA = { code := mEnr T full oid oref omin } := ⟨_, rfl⟩
  obtain ⟨FF, hFF⟩ : ∃ FF : Bool, FF = full := ⟨_, rfl⟩
  obtain ⟨TT, hTT⟩ : ∃ TT : Tab, TT = (mEnrT T full oid oref omin) := ⟨_, rfl⟩
  rw [← hAA, ← hTT, ← hFF]
  have HAA := hide (And.intro hAA (And.intro hTT hFF))
  clear hAA hFF hTT
  have p0 : w4.cell? ⟨w.heap.size, 0, none⟩ = some (.pointer (some ⟨M, 0, none⟩)) := by rw [World.cell?, hP]; rfl
  have x0 : w4.cell? ⟨w.heap.size + 1, 0, none⟩ = some (.int .u8 okind) := by rw [World.cell?, hX]; rfl
  have x1 : w4.cell? ⟨w.heap.size + 1, 1, none⟩ = some (.int .u32 oid) := by rw [World.cell?, hX]; rfl
  have x2 : w4.cell? ⟨w.heap.size + 1, 2, none⟩ = some (.int .u32 oref) := by rw [World.cell?, hX]; rfl
  have x3 : w4.cell? ⟨w.heap.size + 1, 3, none⟩ = some (.int .i64 omin) := by rw [World.cell?, hX]; rfl
  have x4 : w4.cell? ⟨w.heap.size + 1, 4, none⟩ = some (.int .i64 odel) := by rw [World.cell?, hX]; rfl
  have x5 : w4.cell? ⟨w.heap.size + 1, 5, none⟩ = some (.int .i64 ol0) := by rw [World.cell?, hX]; rfl
  have x6 : w4.cell? ⟨w.heap.size + 1, 6, none⟩ = some (.int .i64 ol1) := by rw [World.cell?, hX]; rfl
  have x7 : w4.cell? ⟨w.heap.size + 1, 7, none⟩ = some (.int .i64 ol2) := by rw [World.cell?, hX]; rfl
  have x8 : w4.cell? ⟨w.heap.size + 1, 8, none⟩ = some (.slice la ln lc) := by rw [World.cell?, hX]; rfl
  have x9 : w4.cell? ⟨w.heap.size + 1, 9, none⟩ = some (.slice va vn vc) := by rw [World.cell?, hX]; rfl
  have HM := hide h
  have HM4 := hide (h.ext hb4)
  have hMl := h.hlt M (Or.inl (by simp))
  have hM4 : M < w.heap.size + 4 := by omega
  have hM4' : M < w4.heap.size := by omega
  have HB4 := hide hb4
  have HR := hide hR
  have HA := hide hA
  have HX := hide hX
  have HP := hide hP
  have hbs := h.bs
  subst hk
  clear h hb4 hR hA hX hP
  go_enter Tryd.func10, Tryd.ntmps10
  go_upto_region 2 with fail
  rw [← HW4.out]
  clear HW4
  have HCALL := hide (enrol_m w4 M base N a p s u v C T full oid oref omin HM4.out hid hre hasc hvl hN)
  go_upto_region 75 with (go_at_call 38; refine HCALL.out.mono ?_; rintro e w5 ⟨rfl, hcmd⟩; have hA5 : w5.heap[w.heap.size + 3]? = _ := (ans_after HM.out hs4 hcmd (w.heap.size + 3) (by omega) (by omega)).trans HA.out; have a0 : w5.cell? ⟨w.heap.size + 1 + 1 + 1, 0, none⟩ = some (.int .u8 0) := (by rw [World.cell?, show w.heap.size + 1 + 1 + 1 = w.heap.size + 3 from rfl, hA5]; rfl); have f0 : w5.frozen? ⟨w.heap.size + 1 + 1 + 1, 0, none⟩ = false := (by rw [World.frozen?, show w.heap.size + 1 + 1 + 1 = w.heap.size + 3 from rfl, hA5]; rfl); have HC := hide hcmd; clear hcmd)
  have hz5 := HC.out.below.size
  obtain ⟨W, hW⟩ : ∃ W, W = (w5.setCell ⟨w.heap.size + 1 + 1 + 1, 0, none⟩ (.int .u8 (mEnr T full oid oref omin))) := ⟨_, rfl⟩
  have hS0 : (w5.setCell ⟨w.heap.size + 1 + 1 + 1, 0, none⟩ (.int .u8 (mEnr T full oid oref omin))).heap[w.heap.size + 3]? = some (.cells #[.int .u8 (mEnr T full oid oref omin), .int .i64 0, .slice none 0 0, .int .u32 0, .int .u8 0, .int .i64 0, .int .i64 0, .int .u32 0, .int .i64 0, .slice none 0 0, .int .u32 0, .int .i64 0, .int .i64 0, .int .i64 0, .int .u32 0, .int .u32 0, .int .i64 0] 47 (0, 0)) := heap_setCell_same _ (w.heap.size + 3) 0 _ _ (.int .u8 (mEnr T full oid oref omin)) hA5
  have hAW : W.heap[w.heap.size + 3]? = some (.cells #[.int .u8 (mEnr T full oid oref omin), .int .i64 0, .slice none 0 0, .int .u32 0, .int .u8 0, .int .i64 0, .int .i64 0, .int .u32 0, .int .i64 0, .slice none 0 0, .int .u32 0, .int .i64 0, .int .i64 0, .int .i64 0, .int .u32 0, .int .u32 0, .int .i64 0] 47 (0, 0)) := by rw [hW]; exact hS0
  have hWo : ∀ b, b ≠ w.heap.size + 3 → W.heap[b]? = w5.heap[b]? := fun b hb => by rw [hW]; exact (Below.heap_setCell _ _ _ _ hb)
  have hWs : w5.heap.size ≤ W.heap.size := by rw [hW]; simp [World.setCell]
  have hWb : Below base w5 W := by rw [hW]; exact ((Below.refl _ _).setCell (p := ⟨w.heap.size + 1 + 1 + 1, 0, none⟩) (by show base ≤ w.heap.size + 1 + 1 + 1; omega) _)
  rw [← hW]
  have hRW : W.heap[w.heap.size + 2]? = some (.cells #[.int .u8 0, .int .i64 0, .slice none 0 0, .int .u32 0, .int .u8 0, .int .i64 0, .int .i64 0, .int .u32 0, .int .i64 0, .slice none 0 0, .int .u32 0, .int .i64 0, .int .i64 0, .int .i64 0, .int .u32 0, .int .u32 0, .int .i64 0] 47 (0, 0)) := (hWo _ (by omega)).trans ((ans_after HM.out hs4 HC.out (w.heap.size + 2) (by omega) (by omega)).trans HR.out)
  have rz : rng W (w.heap.size + 1 + 1 + 1) 0 17 = some #[.int .u8 (mEnr T full oid oref omin), .int .i64 0, .slice none 0 0, .int .u32 0, .int .u8 0, .int .i64 0, .int .i64 0, .int .u32 0, .int .i64 0, .slice none 0 0, .int .u32 0, .int .i64 0, .int .i64 0, .int .i64 0, .int .u32 0, .int .u32 0, .int .i64 0] := rng_whole hAW
  have hwh : whole W (w.heap.size + 1 + 1) 17 = true := whole_of_heap hRW
  have HWO := hide hWo
  have HWB := hide hWb
  have HRW := hide hRW
  clear hW hWo hWb hRW hAW
  go_wp2
  have hfin := heap_setRow_at (ds := #[.int .u8 (mEnr T full oid oref omin), .int .i64 0, .slice none 0 0, .int .u32 0, .int .u8 0, .int .i64 0, .int .i64 0, .int .u32 0, .int .i64 0, .slice none 0 0, .int .u32 0, .int .i64 0, .int .i64 0, .int .i64 0, .int .u32 0, .int .u32 0, .int .i64 0]) HRW.out
  refine bodyPost_ret (results_cell1 Tryd.results10 _ _ (w.heap.size + 2) _ _ _ _ rfl hfin Tryd.underlying47 rfl (by kernel_rfl)) rfl ?_
  have hoth : ∀ b, b ≠ w.heap.size + 2 → b ≠ w.heap.size + 3 → (W.setRow (w.heap.size + 2) #[.int .u8 (mEnr T full oid oref omin), .int .i64 0, .slice none 0 0, .int .u32 0, .int .u8 0, .int .i64 0, .int .i64 0, .int .u32 0, .int .i64 0, .slice none 0 0, .int .u32 0, .int .i64 0, .int .i64 0, .int .i64 0, .int .u32 0, .int .u32 0, .int .i64 0]).heap[b]? = w5.heap[b]? := fun b h1 h2 => (setRow_other _ _ _ _ h1).trans (HWO.out b h2)
  have hcm := MCmd.around HM.out HB4.out hs4 (HC.out) hoth (by simp; omega) (HWB.out.trans (below_setRow' _ _ (by omega)))
  exact ret_ms HAA ⟨_, _, { code := mEnr T full oid oref omin }, rfl, hcm, ⟨u32s_none _, visits_any (visits_nil _ (fun _ => True)), by simp⟩⟩

set_option maxRecDepth 100000 in
set_option maxHeartbeats 8000000 in
theorem mstep_2 (w : World) (M base N a p s u : Nat) (v : Value) (C : Nat → Prop) (T : Tab) (full : Bool) (o : Op) (la va : Option Addr) (ln lc vn vc : Nat) (h : MAt w M base N a p s u v C T full) (ok : Nat → Prop) (hid : U32 o.id) (hl : U32sAt w ok (.slice la ln lc) o.list) (hxs : ∀ x ∈ o.list, U32 x) (hN : N < 1000000000) (hk : o.kind = 2) :
    Calls Tryd.prog 10 #[.pointer (some ⟨M, 0, none⟩), .agg (opCs o (.slice la ln lc) (.slice va vn vc))] w fun e w' => MSPost w w' e M base (N + 1) a p s u v C { code := mPan T full o.id o.list } (mPanT T full o.id o.list) full := by
  obtain ⟨w4, HW4, hb4, hs4, hP, hX, hR, hA⟩ := mstep_start w o la va ln lc vn vc M
  obtain ⟨okind, oid, oref, omin, odel, ol0, ol1, ol2, olist, ovis⟩ := o
  simp only at hk
  simp only [opCs, ansCs, sv] at hX HW4 hR hA ⊢
  obtain ⟨AA, hAA⟩ : ∃ AA : PA, AA = { code := mPan T full oid olist } := ⟨_, rfl⟩
  obtain ⟨FF, hFF⟩ : ∃ FF : Bool, FF = full := ⟨_, rfl⟩
  obtain ⟨TT, hTT⟩ : ∃ TT : Tab, TT = (mPanT T full oid olist) := ⟨_, rfl⟩
  rw [← hAA, ← hTT, ← hFF]
  have HAA := hide (And.intro hAA (And.intro hTT hFF))
  clear hAA hFF hTT
  have p0 : w4.cell? ⟨w.heap.size, 0, none⟩ = some (.pointer (some ⟨M, 0, none⟩)) := by rw [World.cell?, hP]; rfl
  have x0 : w4.cell? ⟨w.heap.size + 1, 0, none⟩ = some (.int .u8 okind) := by rw [World.cell?, hX]; rfl
  have x1 : w4.cell? ⟨w.heap.size + 1, 1, none⟩ = some (.int .u32 oid) := by rw [World.cell?, hX]; rfl
  have x2 : w4.cell? ⟨w.heap.size + 1, 2, none⟩ = some (.int .u32 oref) := by rw [World.cell?, hX]; rfl
  have x3 : w4.cell? ⟨w.heap.size + 1, 3, none⟩ = some (.int .i64 omin) := by rw [World.cell?, hX]; rfl
  have x4 : w4.cell? ⟨w.heap.size + 1, 4, none⟩ = some (.int .i64 odel) := by rw [World.cell?, hX]; rfl
  have x5 : w4.cell? ⟨w.heap.size + 1, 5, none⟩ = some (.int .i64 ol0) := by rw [World.cell?, hX]; rfl
  have x6 : w4.cell? ⟨w.heap.size + 1, 6, none⟩ = some (.int .i64 ol1) := by rw [World.cell?, hX]; rfl
  have x7 : w4.cell? ⟨w.heap.size + 1, 7, none⟩ = some (.int .i64 ol2) := by rw [World.cell?, hX]; rfl
  have x8 : w4.cell? ⟨w.heap.size + 1, 8, none⟩ = some (.slice la ln lc) := by rw [World.cell?, hX]; rfl
  have x9 : w4.cell? ⟨w.heap.size + 1, 9, none⟩ = some (.slice va vn vc) := by rw [World.cell?, hX]; rfl
  have HM := hide h
  have HM4 := hide (h.ext hb4)
  have hMl := h.hlt M (Or.inl (by simp))
  have hM4 : M < w.heap.size + 4 := by omega
  have hM4' : M < w4.heap.size := by omega
  have HB4 := hide hb4
  have HR := hide hR
  have HA := hide hA
  have HX := hide hX
  have HP := hide hP
  have hbs := h.bs
  subst hk
  clear h hb4 hR hA hX hP
  go_enter Tryd.func10, Tryd.ntmps10
  go_upto_region 2 with fail
  rw [← HW4.out]
  clear HW4
  have HCALL := hide (definePanel_m w4 M base N a p s u v C T full oid olist la ln lc ok HM4.out hid (hl.below HB4.out) hxs hN)
  go_upto_region 75 with (go_at_call 35; refine HCALL.out.mono ?_; rintro e w5 ⟨rfl, C1, hcmd⟩; have hA5 : w5.heap[w.heap.size + 3]? = _ := (ans_after HM.out hs4 hcmd (w.heap.size + 3) (by omega) (by omega)).trans HA.out; have a0 : w5.cell? ⟨w.heap.size + 1 + 1 + 1, 0, none⟩ = some (.int .u8 0) := (by rw [World.cell?, show w.heap.size + 1 + 1 + 1 = w.heap.size + 3 from rfl, hA5]; rfl); have f0 : w5.frozen? ⟨w.heap.size + 1 + 1 + 1, 0, none⟩ = false := (by rw [World.frozen?, show w.heap.size + 1 + 1 + 1 = w.heap.size + 3 from rfl, hA5]; rfl); have HC := hide hcmd; clear hcmd)
  have hz5 := HC.out.below.size
  obtain ⟨W, hW⟩ : ∃ W, W = (w5.setCell ⟨w.heap.size + 1 + 1 + 1, 0, none⟩ (.int .u8 (mPan T full oid olist))) := ⟨_, rfl⟩
  have hS0 : (w5.setCell ⟨w.heap.size + 1 + 1 + 1, 0, none⟩ (.int .u8 (mPan T full oid olist))).heap[w.heap.size + 3]? = some (.cells #[.int .u8 (mPan T full oid olist), .int .i64 0, .slice none 0 0, .int .u32 0, .int .u8 0, .int .i64 0, .int .i64 0, .int .u32 0, .int .i64 0, .slice none 0 0, .int .u32 0, .int .i64 0, .int .i64 0, .int .i64 0, .int .u32 0, .int .u32 0, .int .i64 0] 47 (0, 0)) := heap_setCell_same _ (w.heap.size + 3) 0 _ _ (.int .u8 (mPan T full oid olist)) hA5
  have hAW : W.heap[w.heap.size + 3]? = some (.cells #[.int .u8 (mPan T full oid olist), .int .i64 0, .slice none 0 0, .int .u32 0, .int .u8 0, .int .i64 0, .int .i64 0, .int .u32 0, .int .i64 0, .slice none 0 0, .int .u32 0, .int .i64 0, .int .i64 0, .int .i64 0, .int .u32 0, .int .u32 0, .int .i64 0] 47 (0, 0)) := by rw [hW]; exact hS0
  have hWo : ∀ b, b ≠ w.heap.size + 3 → W.heap[b]? = w5.heap[b]? := fun b hb => by rw [hW]; exact (Below.heap_setCell _ _ _ _ hb)
  have hWs : w5.heap.size ≤ W.heap.size := by rw [hW]; simp [World.setCell]
  have hWb : Below base w5 W := by rw [hW]; exact ((Below.refl _ _).setCell (p := ⟨w.heap.size + 1 + 1 + 1, 0, none⟩) (by show base ≤ w.heap.size + 1 + 1 + 1; omega) _)
  rw [← hW]
  have hRW : W.heap[w.heap.size + 2]? = some (.cells #[.int .u8 0, .int .i64 0, .slice none 0 0, .int .u32 0, .int .u8 0, .int .i64 0, .int .i64 0, .int .u32 0, .int .i64 0, .slice none 0 0, .int .u32 0, .int .i64 0, .int .i64 0, .int .i64 0, .int .u32 0, .int .u32 0, .int .i64 0] 47 (0, 0)) := (hWo _ (by omega)).trans ((ans_after HM.out hs4 HC.out (w.heap.size + 2) (by omega) (by omega)).trans HR.out)
  have rz : rng W (w.heap.size + 1 + 1 + 1) 0 17 = some #[.int .u8 (mPan T full oid olist), .int .i64 0, .slice none 0 0, .int .u32 0, .int .u8 0, .int .i64 0, .int .i64 0, .int .u32 0, .int .i64 0, .slice none 0 0, .int .u32 0, .int .i64 0, .int .i64 0, .int .i64 0, .int .u32 0, .int .u32 0, .int .i64 0] := rng_whole hAW
  have hwh : whole W (w.heap.size + 1 + 1) 17 = true := whole_of_heap hRW
  have HWO := hide hWo
  have HWB := hide hWb
  have HRW := hide hRW
  clear hW hWo hWb hRW hAW
  go_wp2
  have hfin := heap_setRow_at (ds := #[.int .u8 (mPan T full oid olist), .int .i64 0, .slice none 0 0, .int .u32 0, .int .u8 0, .int .i64 0, .int .i64 0, .int .u32 0, .int .i64 0, .slice none 0 0, .int .u32 0, .int .i64 0, .int .i64 0, .int .i64 0, .int .u32 0, .int .u32 0, .int .i64 0]) HRW.out
  refine bodyPost_ret (results_cell1 Tryd.results10 _ _ (w.heap.size + 2) _ _ _ _ rfl hfin Tryd.underlying47 rfl (by kernel_rfl)) rfl ?_
  have hoth : ∀ b, b ≠ w.heap.size + 2 → b ≠ w.heap.size + 3 → (W.setRow (w.heap.size + 2) #[.int .u8 (mPan T full oid olist), .int .i64 0, .slice none 0 0, .int .u32 0, .int .u8 0, .int .i64 0, .int .i64 0, .int .u32 0, .int .i64 0, .slice none 0 0, .int .u32 0, .int .i64 0, .int .i64 0, .int .i64 0, .int .u32 0, .int .u32 0, .int .i64 0]).heap[b]? = w5.heap[b]? := fun b h1 h2 => (setRow_other _ _ _ _ h1).trans (HWO.out b h2)
  have hcm := MCmd.around HM.out HB4.out hs4 (HC.out) hoth (by simp; omega) (HWB.out.trans (below_setRow' _ _ (by omega)))
  exact ret_ms HAA ⟨_, _, { code := mPan T full oid olist }, rfl, hcm, ⟨u32s_none _, visits_any (visits_nil _ (fun _ => True)), by simp⟩⟩

set_option maxRecDepth 100000 in
set_option maxHeartbeats 8000000 in
theorem mstep_3 (w : World) (M base N a p s u : Nat) (v : Value) (C : Nat → Prop) (T : Tab) (full : Bool) (o : Op) (la va : Option Addr) (ln lc vn vc : Nat) (h : MAt w M base N a p s u v C T full) (hvis : VisitsAt w (· < base) (.slice va vn vc) o.visits) (hvok : ∀ x ∈ o.visits, x.Ok) (hvl : T.vers.length ≤ 1000000) (hk : o.kind = 3) :
    Calls Tryd.prog 10 #[.pointer (some ⟨M, 0, none⟩), .agg (opCs o (.slice la ln lc) (.slice va vn vc))] w fun e w' => MSPost w w' e M base (N + 1) a p s u v C { code := mAm T full o.minute o.visits, num := amNum (mAm T full o.minute o.visits) T.vers.length } (mAmT T full o.minute o.visits) full := by
  obtain ⟨w4, HW4, hb4, hs4, hP, hX, hR, hA⟩ := mstep_start w o la va ln lc vn vc M
  obtain ⟨okind, oid, oref, omin, odel, ol0, ol1, ol2, olist, ovis⟩ := o
  simp only at hk
  simp only [opCs, ansCs, sv] at hX HW4 hR hA ⊢
  obtain ⟨AA, hAA⟩ : ∃ AA : PA, AA = { code := mAm T full omin ovis, num := amNum (mAm T full omin ovis) T.vers.length } := ⟨_, rfl⟩
  obtain ⟨FF, hFF⟩ : ∃ FF : Bool, FF = full := ⟨_, rfl⟩
  obtain ⟨TT, hTT⟩ : ∃ TT : Tab, TT = (mAmT T full omin ovis) := ⟨_, rfl⟩
  rw [← hAA, ← hTT, ← hFF]
  have HAA := hide (And.intro hAA (And.intro hTT hFF))
  clear hAA hFF hTT
  have p0 : w4.cell? ⟨w.heap.size, 0, none⟩ = some (.pointer (some ⟨M, 0, none⟩)) := by rw [World.cell?, hP]; rfl
  have x0 : w4.cell? ⟨w.heap.size + 1, 0, none⟩ = some (.int .u8 okind) := by rw [World.cell?, hX]; rfl
  have x1 : w4.cell? ⟨w.heap.size + 1, 1, none⟩ = some (.int .u32 oid) := by rw [World.cell?, hX]; rfl
  have x2 : w4.cell? ⟨w.heap.size + 1, 2, none⟩ = some (.int .u32 oref) := by rw [World.cell?, hX]; rfl
  have x3 : w4.cell? ⟨w.heap.size + 1, 3, none⟩ = some (.int .i64 omin) := by rw [World.cell?, hX]; rfl
  have x4 : w4.cell? ⟨w.heap.size + 1, 4, none⟩ = some (.int .i64 odel) := by rw [World.cell?, hX]; rfl
  have x5 : w4.cell? ⟨w.heap.size + 1, 5, none⟩ = some (.int .i64 ol0) := by rw [World.cell?, hX]; rfl
  have x6 : w4.cell? ⟨w.heap.size + 1, 6, none⟩ = some (.int .i64 ol1) := by rw [World.cell?, hX]; rfl
  have x7 : w4.cell? ⟨w.heap.size + 1, 7, none⟩ = some (.int .i64 ol2) := by rw [World.cell?, hX]; rfl
  have x8 : w4.cell? ⟨w.heap.size + 1, 8, none⟩ = some (.slice la ln lc) := by rw [World.cell?, hX]; rfl
  have x9 : w4.cell? ⟨w.heap.size + 1, 9, none⟩ = some (.slice va vn vc) := by rw [World.cell?, hX]; rfl
  have HM := hide h
  have HM4 := hide (h.ext hb4)
  have hMl := h.hlt M (Or.inl (by simp))
  have hM4 : M < w.heap.size + 4 := by omega
  have hM4' : M < w4.heap.size := by omega
  have HB4 := hide hb4
  have HR := hide hR
  have HA := hide hA
  have HX := hide hX
  have HP := hide hP
  have hbs := h.bs
  subst hk
  clear h hb4 hR hA hX hP
  go_enter Tryd.func10, Tryd.ntmps10
  go_upto_region 2 with fail
  rw [← HW4.out]
  clear HW4
  have hnu : 0 ≤ amNum (mAm T full omin ovis) T.vers.length ∧ amNum (mAm T full omin ovis) T.vers.length ≤ 1000001 := by
    unfold amNum
    split <;> omega
  have HCALL := hide (amend_m w4 M base N a p s u v C T full omin ovis va vn vc HM4.out (hvis.below HB4.out) hvok hvl)
  obtain ⟨n1, n2⟩ := hnu
  go_upto_region 75 with (go_at_call 36; refine HCALL.out.mono ?_; rintro e w5 ⟨v1, C1, rfl, hcmd⟩; have hA5 : w5.heap[w.heap.size + 3]? = _ := (ans_after HM.out hs4 hcmd (w.heap.size + 3) (by omega) (by omega)).trans HA.out; have a0 : w5.cell? ⟨w.heap.size + 1 + 1 + 1, 0, none⟩ = some (.int .u8 0) := (by rw [World.cell?, show w.heap.size + 1 + 1 + 1 = w.heap.size + 3 from rfl, hA5]; rfl); have f0 : w5.frozen? ⟨w.heap.size + 1 + 1 + 1, 0, none⟩ = false := (by rw [World.frozen?, show w.heap.size + 1 + 1 + 1 = w.heap.size + 3 from rfl, hA5]; rfl); have a1 : w5.cell? ⟨w.heap.size + 1 + 1 + 1, 1, none⟩ = some (.int .i64 0) := (by rw [World.cell?, show w.heap.size + 1 + 1 + 1 = w.heap.size + 3 from rfl, hA5]; rfl); have f1 : w5.frozen? ⟨w.heap.size + 1 + 1 + 1, 1, none⟩ = false := (by rw [World.frozen?, show w.heap.size + 1 + 1 + 1 = w.heap.size + 3 from rfl, hA5]; rfl); have HC := hide hcmd; clear hcmd)
  have hz5 := HC.out.below.size
  obtain ⟨W, hW⟩ : ∃ W, W = ((w5.setCell ⟨w.heap.size + 1 + 1 + 1, 0, none⟩ (.int .u8 (mAm T full omin ovis))).setCell ⟨w.heap.size + 1 + 1 + 1, 1, none⟩ (.int .i64 (amNum (mAm T full omin ovis) T.vers.length))) := ⟨_, rfl⟩
  have hS0 : (w5.setCell ⟨w.heap.size + 1 + 1 + 1, 0, none⟩ (.int .u8 (mAm T full omin ovis))).heap[w.heap.size + 3]? = some (.cells #[.int .u8 (mAm T full omin ovis), .int .i64 0, .slice none 0 0, .int .u32 0, .int .u8 0, .int .i64 0, .int .i64 0, .int .u32 0, .int .i64 0, .slice none 0 0, .int .u32 0, .int .i64 0, .int .i64 0, .int .i64 0, .int .u32 0, .int .u32 0, .int .i64 0] 47 (0, 0)) := heap_setCell_same _ (w.heap.size + 3) 0 _ _ (.int .u8 (mAm T full omin ovis)) hA5
  have hS1 : ((w5.setCell ⟨w.heap.size + 1 + 1 + 1, 0, none⟩ (.int .u8 (mAm T full omin ovis))).setCell ⟨w.heap.size + 1 + 1 + 1, 1, none⟩ (.int .i64 (amNum (mAm T full omin ovis) T.vers.length))).heap[w.heap.size + 3]? = some (.cells #[.int .u8 (mAm T full omin ovis), .int .i64 (amNum (mAm T full omin ovis) T.vers.length), .slice none 0 0, .int .u32 0, .int .u8 0, .int .i64 0, .int .i64 0, .int .u32 0, .int .i64 0, .slice none 0 0, .int .u32 0, .int .i64 0, .int .i64 0, .int .i64 0, .int .u32 0, .int .u32 0, .int .i64 0] 47 (0, 0)) := heap_setCell_same _ (w.heap.size + 3) 1 _ _ (.int .i64 (amNum (mAm T full omin ovis) T.vers.length)) hS0
  have hAW : W.heap[w.heap.size + 3]? = some (.cells #[.int .u8 (mAm T full omin ovis), .int .i64 (amNum (mAm T full omin ovis) T.vers.length), .slice none 0 0, .int .u32 0, .int .u8 0, .int .i64 0, .int .i64 0, .int .u32 0, .int .i64 0, .slice none 0 0, .int .u32 0, .int .i64 0, .int .i64 0, .int .i64 0, .int .u32 0, .int .u32 0, .int .i64 0] 47 (0, 0)) := by rw [hW]; exact hS1
  have hWo : ∀ b, b ≠ w.heap.size + 3 → W.heap[b]? = w5.heap[b]? := fun b hb => by rw [hW]; exact ((Below.heap_setCell _ _ _ _ hb).trans (Below.heap_setCell _ _ _ _ hb))
  have hWs : w5.heap.size ≤ W.heap.size := by rw [hW]; simp [World.setCell]
  have hWb : Below base w5 W := by rw [hW]; exact (((Below.refl _ _).setCell (p := ⟨w.heap.size + 1 + 1 + 1, 0, none⟩) (by show base ≤ w.heap.size + 1 + 1 + 1; omega) _).setCell (p := ⟨w.heap.size + 1 + 1 + 1, 1, none⟩) (by show base ≤ w.heap.size + 1 + 1 + 1; omega) _)
  rw [← hW]
  have hRW : W.heap[w.heap.size + 2]? = some (.cells #[.int .u8 0, .int .i64 0, .slice none 0 0, .int .u32 0, .int .u8 0, .int .i64 0, .int .i64 0, .int .u32 0, .int .i64 0, .slice none 0 0, .int .u32 0, .int .i64 0, .int .i64 0, .int .i64 0, .int .u32 0, .int .u32 0, .int .i64 0] 47 (0, 0)) := (hWo _ (by omega)).trans ((ans_after HM.out hs4 HC.out (w.heap.size + 2) (by omega) (by omega)).trans HR.out)
  have rz : rng W (w.heap.size + 1 + 1 + 1) 0 17 = some #[.int .u8 (mAm T full omin ovis), .int .i64 (amNum (mAm T full omin ovis) T.vers.length), .slice none 0 0, .int .u32 0, .int .u8 0, .int .i64 0, .int .i64 0, .int .u32 0, .int .i64 0, .slice none 0 0, .int .u32 0, .int .i64 0, .int .i64 0, .int .i64 0, .int .u32 0, .int .u32 0, .int .i64 0] := rng_whole hAW
  have hwh : whole W (w.heap.size + 1 + 1) 17 = true := whole_of_heap hRW
  have HWO := hide hWo
  have HWB := hide hWb
  have HRW := hide hRW
  clear hW hWo hWb hRW hAW
  go_wp2
  have hfin := heap_setRow_at (ds := #[.int .u8 (mAm T full omin ovis), .int .i64 (amNum (mAm T full omin ovis) T.vers.length), .slice none 0 0, .int .u32 0, .int .u8 0, .int .i64 0, .int .i64 0, .int .u32 0, .int .i64 0, .slice none 0 0, .int .u32 0, .int .i64 0, .int .i64 0, .int .i64 0, .int .u32 0, .int .u32 0, .int .i64 0]) HRW.out
  refine bodyPost_ret (results_cell1 Tryd.results10 _ _ (w.heap.size + 2) _ _ _ _ rfl hfin Tryd.underlying47 rfl (by kernel_rfl)) rfl ?_
  have hoth : ∀ b, b ≠ w.heap.size + 2 → b ≠ w.heap.size + 3 → (W.setRow (w.heap.size + 2) #[.int .u8 (mAm T full omin ovis), .int .i64 (amNum (mAm T full omin ovis) T.vers.length), .slice none 0 0, .int .u32 0, .int .u8 0, .int .i64 0, .int .i64 0, .int .u32 0, .int .i64 0, .slice none 0 0, .int .u32 0, .int .i64 0, .int .i64 0, .int .i64 0, .int .u32 0, .int .u32 0, .int .i64 0]).heap[b]? = w5.heap[b]? := fun b h1 h2 => (setRow_other _ _ _ _ h1).trans (HWO.out b h2)
  have hcm := MCmd.around HM.out HB4.out hs4 (HC.out) hoth (by simp; omega) (HWB.out.trans (below_setRow' _ _ (by omega)))
  exact ret_ms HAA ⟨_, _, { code := mAm T full omin ovis, num := amNum (mAm T full omin ovis) T.vers.length }, rfl, hcm, ⟨u32s_none _, visits_any (visits_nil _ (fun _ => True)), by simp⟩⟩

end Go.Proofs.Qxb6500665aDoor
