/- The kinds of the model's step, walked. (Made by tools/mk_mstep.py.) -/
import Derived.Test.Qxb6500665aDoorMStep1
namespace Go.Proofs.Qxb6500665aDoor
open Go.RowKit Go.Proofs.Qxb6500665aDoor.Cal

attribute [local go_sem ↓] exec_stAnswer exec_ldAnswer 
attribute [local go_sem] run_stAnswer run_ldAnswer rng_drew ext_const Ext.cell Ext.frozen Ext.rng Ext.whole ones17 

set_option maxRecDepth 100000 in
set_option maxHeartbeats 8000000 in
theorem mstep_6 (w : World) (M base N a p s u : Nat) (v : Value) (C : Nat → Prop) (T : Tab) (full : Bool) (o : Op) (la va : Option Addr) (ln lc vn vc : Nat) (h : MAt w M base N a p s u v C T full) (hid : U32 o.id) (hasc : AscV T.vers) (hvl : T.vers.length ≤ 1000000) (hnd : ∀ x ∈ T.vers, (x.2.map (·.id)).Nodup) (htg : ∀ x ∈ T.vers, x.2.Pairwise (fun a b => a.target < b.target)) (hvb : ∀ x ∈ T.vers, ∀ y ∈ x.2, VB y) (hlen : ∀ x ∈ T.vers, x.2.length ≤ 12) (hsub : ∀ k s, T.sub k = some s → 0 ≤ s.2 ∧ s.2 ≤ 157785119) (hk : o.kind = 6) :
    Calls Tryd.prog 10 #[.pointer (some ⟨M, 0, none⟩), .agg (opCs o (.slice la ln lc) (.slice va vn vc))] w fun e w' => MSPost w w' e M base (N + 1) a p s u v C { code := (clsR T o.id o.ref o.minute).code, p0 := (clsR T o.id o.ref o.minute).num, p1 := (clsR T o.id o.ref o.minute).cls, p2 := (clsR T o.id o.ref o.minute).opens, p3 := (clsR T o.id o.ref o.minute).closes } T full := by
  obtain ⟨w4, HW4, hb4, hs4, hP, hX, hR, hA⟩ := mstep_start w o la va ln lc vn vc M
  obtain ⟨okind, oid, oref, omin, odel, ol0, ol1, ol2, olist, ovis⟩ := o
  simp only at hk
  simp only [opCs, ansCs, sv] at hX HW4 hR hA ⊢
  obtain ⟨AA, hAA⟩ : ∃ AA : PA, AA = { code := (clsR T oid oref omin).code, p0 := (clsR T oid oref omin).num, p1 := (clsR T oid oref omin).cls, p2 := (clsR T oid oref omin).opens, p3 := (clsR T oid oref omin).closes } := ⟨_, rfl⟩
  obtain ⟨FF, hFF⟩ : ∃ FF : Bool, FF = full := ⟨_, rfl⟩
  obtain ⟨TT, hTT⟩ : ∃ TT : Tab, TT = T := ⟨_, rfl⟩
  rw [← hAA, ← hTT, ← hFF]
  have HAA := hide (And.intro hAA (And.intro hTT hFF))
  clear hAA hFF hTT
  have p0 : w4.cell? ⟨w.heap.size, 0, none⟩ = some (.pointer (some ⟨M, 0, none⟩)) := by rw [World.cell?, hP]; rfl
  have x0 : w4.cell? ⟨w.heap.size + 1, 0, none⟩ = some (.int .u8 okind) := by rw [World.cell?, hX]; rfl
  have x1 : w4.cell? ⟨w.heap.size + 1, 1, none⟩ = some (.int .u32 oid) := by rw [World.cell?, hX]; rfl
  have x2 : w4.cell? ⟨w.heap.size + 1, 2, none⟩ = some (.int .u32 oref) := by rw [World.cell?, hX]; rfl
  have x3 : w4.cell? ⟨w.heap.size + 1, 3, none⟩ = some (.int .i64 omin) := by rw [World.cell?, hX]; rfl
  have x4 : w4.cell? ⟨w.heap.size + 1, 4, none⟩ = some (.int .i64 odel) := by rw [World.cell?, hX]; rfl
  have x5 : w4.cell? ⟨w.heap.size + 1, 5, none⟩ = some (.int .i64 ol0) := by rw [World.cell?, hX]; rfl
  have x6 : w4.cell? ⟨w.heap.size + 1, 6, none⟩ = some (.int .i64 ol1) := by rw [World.cell?, hX]; rfl
  have x7 : w4.cell? ⟨w.heap.size + 1, 7, none⟩ = some (.int .i64 ol2) := by rw [World.cell?, hX]; rfl
  have x8 : w4.cell? ⟨w.heap.size + 1, 8, none⟩ = some (.slice la ln lc) := by rw [World.cell?, hX]; rfl
  have x9 : w4.cell? ⟨w.heap.size + 1, 9, none⟩ = some (.slice va vn vc) := by rw [World.cell?, hX]; rfl
  have HM := hide h
  have HM4 := hide (h.ext hb4)
  have hMl := h.hlt M (Or.inl (by simp))
  have hM4 : M < w.heap.size + 4 := by omega
  have hM4' : M < w4.heap.size := by omega
  have HB4 := hide hb4
  have HR := hide hR
  have HA := hide hA
  have HX := hide hX
  have HP := hide hP
  have hbs := h.bs
  subst hk
  clear h hb4 hR hA hX hP
  go_enter Tryd.func10, Tryd.ntmps10
  go_upto_region 2 with fail
  rw [← HW4.out]
  clear HW4
  have HCALL := hide (classify_m w4 M base N a p s u v C T full oid oref omin HM4.out hid hasc hvl hnd htg hvb hlen hsub)
  go_upto_region 75 with (go_at_call 39; refine HCALL.out.mono ?_; rintro e w5 ⟨rfl, hb5⟩; simp only [plCs]; have hA5 : w5.heap[w.heap.size + 3]? = _ := (hb5.block (w.heap.size + 3) (by omega)).trans HA.out; have a0 : w5.cell? ⟨w.heap.size + 1 + 1 + 1, 0, none⟩ = some (.int .u8 0) := (by rw [World.cell?, show w.heap.size + 1 + 1 + 1 = w.heap.size + 3 from rfl, hA5]; rfl); have f0 : w5.frozen? ⟨w.heap.size + 1 + 1 + 1, 0, none⟩ = false := (by rw [World.frozen?, show w.heap.size + 1 + 1 + 1 = w.heap.size + 3 from rfl, hA5]; rfl); have a3 : w5.cell? ⟨w.heap.size + 1 + 1 + 1, 3, none⟩ = some (.int .u32 0) := (by rw [World.cell?, show w.heap.size + 1 + 1 + 1 = w.heap.size + 3 from rfl, hA5]; rfl); have f3 : w5.frozen? ⟨w.heap.size + 1 + 1 + 1, 3, none⟩ = false := (by rw [World.frozen?, show w.heap.size + 1 + 1 + 1 = w.heap.size + 3 from rfl, hA5]; rfl); have a4 : w5.cell? ⟨w.heap.size + 1 + 1 + 1, 4, none⟩ = some (.int .u8 0) := (by rw [World.cell?, show w.heap.size + 1 + 1 + 1 = w.heap.size + 3 from rfl, hA5]; rfl); have f4 : w5.frozen? ⟨w.heap.size + 1 + 1 + 1, 4, none⟩ = false := (by rw [World.frozen?, show w.heap.size + 1 + 1 + 1 = w.heap.size + 3 from rfl, hA5]; rfl); have a5 : w5.cell? ⟨w.heap.size + 1 + 1 + 1, 5, none⟩ = some (.int .i64 0) := (by rw [World.cell?, show w.heap.size + 1 + 1 + 1 = w.heap.size + 3 from rfl, hA5]; rfl); have f5 : w5.frozen? ⟨w.heap.size + 1 + 1 + 1, 5, none⟩ = false := (by rw [World.frozen?, show w.heap.size + 1 + 1 + 1 = w.heap.size + 3 from rfl, hA5]; rfl); have a6 : w5.cell? ⟨w.heap.size + 1 + 1 + 1, 6, none⟩ = some (.int .i64 0) := (by rw [World.cell?, show w.heap.size + 1 + 1 + 1 = w.heap.size + 3 from rfl, hA5]; rfl); have f6 : w5.frozen? ⟨w.heap.size + 1 + 1 + 1, 6, none⟩ = false := (by rw [World.frozen?, show w.heap.size + 1 + 1 + 1 = w.heap.size + 3 from rfl, hA5]; rfl); have HB5 := hide hb5; clear hb5)
  have hz5 := HB5.out.size
  obtain ⟨W, hW⟩ : ∃ W, W = (((((w5.setCell ⟨w.heap.size + 1 + 1 + 1, 3, none⟩ (.int .u32 (clsR T oid oref omin).num)).setCell ⟨w.heap.size + 1 + 1 + 1, 4, none⟩ (.int .u8 (clsR T oid oref omin).cls)).setCell ⟨w.heap.size + 1 + 1 + 1, 5, none⟩ (.int .i64 (clsR T oid oref omin).opens)).setCell ⟨w.heap.size + 1 + 1 + 1, 6, none⟩ (.int .i64 (clsR T oid oref omin).closes)).setCell ⟨w.heap.size + 1 + 1 + 1, 0, none⟩ (.int .u8 (clsR T oid oref omin).code)) := ⟨_, rfl⟩
  have hS0 : (w5.setCell ⟨w.heap.size + 1 + 1 + 1, 3, none⟩ (.int .u32 (clsR T oid oref omin).num)).heap[w.heap.size + 3]? = some (.cells #[.int .u8 0, .int .i64 0, .slice none 0 0, .int .u32 (clsR T oid oref omin).num, .int .u8 0, .int .i64 0, .int .i64 0, .int .u32 0, .int .i64 0, .slice none 0 0, .int .u32 0, .int .i64 0, .int .i64 0, .int .i64 0, .int .u32 0, .int .u32 0, .int .i64 0] 47 (0, 0)) := heap_setCell_same _ (w.heap.size + 3) 3 _ _ (.int .u32 (clsR T oid oref omin).num) hA5
  have hS1 : ((w5.setCell ⟨w.heap.size + 1 + 1 + 1, 3, none⟩ (.int .u32 (clsR T oid oref omin).num)).setCell ⟨w.heap.size + 1 + 1 + 1, 4, none⟩ (.int .u8 (clsR T oid oref omin).cls)).heap[w.heap.size + 3]? = some (.cells #[.int .u8 0, .int .i64 0, .slice none 0 0, .int .u32 (clsR T oid oref omin).num, .int .u8 (clsR T oid oref omin).cls, .int .i64 0, .int .i64 0, .int .u32 0, .int .i64 0, .slice none 0 0, .int .u32 0, .int .i64 0, .int .i64 0, .int .i64 0, .int .u32 0, .int .u32 0, .int .i64 0] 47 (0, 0)) := heap_setCell_same _ (w.heap.size + 3) 4 _ _ (.int .u8 (clsR T oid oref omin).cls) hS0
  have hS2 : (((w5.setCell ⟨w.heap.size + 1 + 1 + 1, 3, none⟩ (.int .u32 (clsR T oid oref omin).num)).setCell ⟨w.heap.size + 1 + 1 + 1, 4, none⟩ (.int .u8 (clsR T oid oref omin).cls)).setCell ⟨w.heap.size + 1 + 1 + 1, 5, none⟩ (.int .i64 (clsR T oid oref omin).opens)).heap[w.heap.size + 3]? = some (.cells #[.int .u8 0, .int .i64 0, .slice none 0 0, .int .u32 (clsR T oid oref omin).num, .int .u8 (clsR T oid oref omin).cls, .int .i64 (clsR T oid oref omin).opens, .int .i64 0, .int .u32 0, .int .i64 0, .slice none 0 0, .int .u32 0, .int .i64 0, .int .i64 0, .int .i64 0, .int .u32 0, .int .u32 0, .int .i64 0] 47 (0, 0)) := heap_setCell_same _ (w.heap.size + 3) 5 _ _ (.int .i64 (clsR T oid oref omin).opens) hS1
  have hS3 : ((((w5.setCell ⟨w.heap.size + 1 + 1 + 1, 3, none⟩ (.int .u32 (clsR T oid oref omin).num)).setCell ⟨w.heap.size + 1 + 1 + 1, 4, none⟩ (.int .u8 (clsR T oid oref omin).cls)).setCell ⟨w.heap.size + 1 + 1 + 1, 5, none⟩ (.int .i64 (clsR T oid oref omin).opens)).setCell ⟨w.heap.size + 1 + 1 + 1, 6, none⟩ (.int .i64 (clsR T oid oref omin).closes)).heap[w.heap.size + 3]? = some (.cells #[.int .u8 0, .int .i64 0, .slice none 0 0, .int .u32 (clsR T oid oref omin).num, .int .u8 (clsR T oid oref omin).cls, .int .i64 (clsR T oid oref omin).opens, .int .i64 (clsR T oid oref omin).closes, .int .u32 0, .int .i64 0, .slice none 0 0, .int .u32 0, .int .i64 0, .int .i64 0, .int .i64 0, .int .u32 0, .int .u32 0, .int .i64 0] 47 (0, 0)) := heap_setCell_same _ (w.heap.size + 3) 6 _ _ (.int .i64 (clsR T oid oref omin).closes) hS2
  have hS4 : (((((w5.setCell ⟨w.heap.size + 1 + 1 + 1, 3, none⟩ (.int .u32 (clsR T oid oref omin).num)).setCell ⟨w.heap.size + 1 + 1 + 1, 4, none⟩ (.int .u8 (clsR T oid oref omin).cls)).setCell ⟨w.heap.size + 1 + 1 + 1, 5, none⟩ (.int .i64 (clsR T oid oref omin).opens)).setCell ⟨w.heap.size + 1 + 1 + 1, 6, none⟩ (.int .i64 (clsR T oid oref omin).closes)).setCell ⟨w.heap.size + 1 + 1 + 1, 0, none⟩ (.int .u8 (clsR T oid oref omin).code)).heap[w.heap.size + 3]? = some (.cells #[.int .u8 (clsR T oid oref omin).code, .int .i64 0, .slice none 0 0, .int .u32 (clsR T oid oref omin).num, .int .u8 (clsR T oid oref omin).cls, .int .i64 (clsR T oid oref omin).opens, .int .i64 (clsR T oid oref omin).closes, .int .u32 0, .int .i64 0, .slice none 0 0, .int .u32 0, .int .i64 0, .int .i64 0, .int .i64 0, .int .u32 0, .int .u32 0, .int .i64 0] 47 (0, 0)) := heap_setCell_same _ (w.heap.size + 3) 0 _ _ (.int .u8 (clsR T oid oref omin).code) hS3
  have hAW : W.heap[w.heap.size + 3]? = some (.cells #[.int .u8 (clsR T oid oref omin).code, .int .i64 0, .slice none 0 0, .int .u32 (clsR T oid oref omin).num, .int .u8 (clsR T oid oref omin).cls, .int .i64 (clsR T oid oref omin).opens, .int .i64 (clsR T oid oref omin).closes, .int .u32 0, .int .i64 0, .slice none 0 0, .int .u32 0, .int .i64 0, .int .i64 0, .int .i64 0, .int .u32 0, .int .u32 0, .int .i64 0] 47 (0, 0)) := by rw [hW]; exact hS4
  have hWo : ∀ b, b ≠ w.heap.size + 3 → W.heap[b]? = w5.heap[b]? := fun b hb => by rw [hW]; exact (((((Below.heap_setCell _ _ _ _ hb).trans (Below.heap_setCell _ _ _ _ hb)).trans (Below.heap_setCell _ _ _ _ hb)).trans (Below.heap_setCell _ _ _ _ hb)).trans (Below.heap_setCell _ _ _ _ hb))
  have hWs : w5.heap.size ≤ W.heap.size := by rw [hW]; simp [World.setCell]
  have hWb : Below base w5 W := by rw [hW]; exact ((((((Below.refl _ _).setCell (p := ⟨w.heap.size + 1 + 1 + 1, 3, none⟩) (by show base ≤ w.heap.size + 1 + 1 + 1; omega) _).setCell (p := ⟨w.heap.size + 1 + 1 + 1, 4, none⟩) (by show base ≤ w.heap.size + 1 + 1 + 1; omega) _).setCell (p := ⟨w.heap.size + 1 + 1 + 1, 5, none⟩) (by show base ≤ w.heap.size + 1 + 1 + 1; omega) _).setCell (p := ⟨w.heap.size + 1 + 1 + 1, 6, none⟩) (by show base ≤ w.heap.size + 1 + 1 + 1; omega) _).setCell (p := ⟨w.heap.size + 1 + 1 + 1, 0, none⟩) (by show base ≤ w.heap.size + 1 + 1 + 1; omega) _)
  rw [← hW]
  have hRW : W.heap[w.heap.size + 2]? = some (.cells #[.int .u8 0, .int .i64 0, .slice none 0 0, .int .u32 0, .int .u8 0, .int .i64 0, .int .i64 0, .int .u32 0, .int .i64 0, .slice none 0 0, .int .u32 0, .int .i64 0, .int .i64 0, .int .i64 0, .int .u32 0, .int .u32 0, .int .i64 0] 47 (0, 0)) := (hWo _ (by omega)).trans ((HB5.out.block (w.heap.size + 2) (by omega)).trans HR.out)
  have rz : rng W (w.heap.size + 1 + 1 + 1) 0 17 = some #[.int .u8 (clsR T oid oref omin).code, .int .i64 0, .slice none 0 0, .int .u32 (clsR T oid oref omin).num, .int .u8 (clsR T oid oref omin).cls, .int .i64 (clsR T oid oref omin).opens, .int .i64 (clsR T oid oref omin).closes, .int .u32 0, .int .i64 0, .slice none 0 0, .int .u32 0, .int .i64 0, .int .i64 0, .int .i64 0, .int .u32 0, .int .u32 0, .int .i64 0] := rng_whole hAW
  have hwh : whole W (w.heap.size + 1 + 1) 17 = true := whole_of_heap hRW
  have HWO := hide hWo
  have HWB := hide hWb
  have HRW := hide hRW
  clear hW hWo hWb hRW hAW
  go_wp2
  have hfin := heap_setRow_at (ds := #[.int .u8 (clsR T oid oref omin).code, .int .i64 0, .slice none 0 0, .int .u32 (clsR T oid oref omin).num, .int .u8 (clsR T oid oref omin).cls, .int .i64 (clsR T oid oref omin).opens, .int .i64 (clsR T oid oref omin).closes, .int .u32 0, .int .i64 0, .slice none 0 0, .int .u32 0, .int .i64 0, .int .i64 0, .int .i64 0, .int .u32 0, .int .u32 0, .int .i64 0]) HRW.out
  refine bodyPost_ret (results_cell1 Tryd.results10 _ _ (w.heap.size + 2) _ _ _ _ rfl hfin Tryd.underlying47 rfl (by kernel_rfl)) rfl ?_
  have hoth : ∀ b, b ≠ w.heap.size + 2 → b ≠ w.heap.size + 3 → (W.setRow (w.heap.size + 2) #[.int .u8 (clsR T oid oref omin).code, .int .i64 0, .slice none 0 0, .int .u32 (clsR T oid oref omin).num, .int .u8 (clsR T oid oref omin).cls, .int .i64 (clsR T oid oref omin).opens, .int .i64 (clsR T oid oref omin).closes, .int .u32 0, .int .i64 0, .slice none 0 0, .int .u32 0, .int .i64 0, .int .i64 0, .int .i64 0, .int .u32 0, .int .u32 0, .int .i64 0]).heap[b]? = w5.heap[b]? := fun b h1 h2 => (setRow_other _ _ _ _ h1).trans (HWO.out b h2)
  have hcm := MCmd.around HM.out HB4.out hs4 (MCmd.after HM4.out HB5.out (MCmd.refl (HM4.out.ext HB5.out))) hoth (by simp; omega) (HWB.out.trans (below_setRow' _ _ (by omega)))
  exact ret_ms HAA ⟨_, _, { code := (clsR T oid oref omin).code, p0 := (clsR T oid oref omin).num, p1 := (clsR T oid oref omin).cls, p2 := (clsR T oid oref omin).opens, p3 := (clsR T oid oref omin).closes }, rfl, hcm, ⟨u32s_none _, visits_any (visits_nil _ (fun _ => True)), by simp⟩⟩

set_option maxRecDepth 100000 in
set_option maxHeartbeats 8000000 in
theorem mstep_7 (w : World) (M base N a p s u : Nat) (v : Value) (C : Nat → Prop) (T : Tab) (full : Bool) (o : Op) (la va : Option Addr) (ln lc vn vc : Nat) (h : MAt w M base N a p s u v C T full) (hasc : AscV T.vers) (hvl : T.vers.length ≤ 1000000) (hk : o.kind = 7) :
    Calls Tryd.prog 10 #[.pointer (some ⟨M, 0, none⟩), .agg (opCs o (.slice la ln lc) (.slice va vn vc))] w fun e w' => MSPost w w' e M base (N + 1) a p s u v C { code := (verAtR T o.minute).1, v0 := (verAtR T o.minute).2.1, v1 := (verAtR T o.minute).2.2.1, vis := (verAtR T o.minute).2.2.2 } T full := by
  obtain ⟨w4, HW4, hb4, hs4, hP, hX, hR, hA⟩ := mstep_start w o la va ln lc vn vc M
  obtain ⟨okind, oid, oref, omin, odel, ol0, ol1, ol2, olist, ovis⟩ := o
  simp only at hk
  simp only [opCs, ansCs, sv] at hX HW4 hR hA ⊢
  obtain ⟨AA, hAA⟩ : ∃ AA : PA, AA = { code := (verAtR T omin).1, v0 := (verAtR T omin).2.1, v1 := (verAtR T omin).2.2.1, vis := (verAtR T omin).2.2.2 } := ⟨_, rfl⟩
  obtain ⟨FF, hFF⟩ : ∃ FF : Bool, FF = full := ⟨_, rfl⟩
  obtain ⟨TT, hTT⟩ : ∃ TT : Tab, TT = T := ⟨_, rfl⟩
  rw [← hAA, ← hTT, ← hFF]
  have HAA := hide (And.intro hAA (And.intro hTT hFF))
  clear hAA hFF hTT
  have p0 : w4.cell? ⟨w.heap.size, 0, none⟩ = some (.pointer (some ⟨M, 0, none⟩)) := by rw [World.cell?, hP]; rfl
  have x0 : w4.cell? ⟨w.heap.size + 1, 0, none⟩ = some (.int .u8 okind) := by rw [World.cell?, hX]; rfl
  have x1 : w4.cell? ⟨w.heap.size + 1, 1, none⟩ = some (.int .u32 oid) := by rw [World.cell?, hX]; rfl
  have x2 : w4.cell? ⟨w.heap.size + 1, 2, none⟩ = some (.int .u32 oref) := by rw [World.cell?, hX]; rfl
  have x3 : w4.cell? ⟨w.heap.size + 1, 3, none⟩ = some (.int .i64 omin) := by rw [World.cell?, hX]; rfl
  have x4 : w4.cell? ⟨w.heap.size + 1, 4, none⟩ = some (.int .i64 odel) := by rw [World.cell?, hX]; rfl
  have x5 : w4.cell? ⟨w.heap.size + 1, 5, none⟩ = some (.int .i64 ol0) := by rw [World.cell?, hX]; rfl
  have x6 : w4.cell? ⟨w.heap.size + 1, 6, none⟩ = some (.int .i64 ol1) := by rw [World.cell?, hX]; rfl
  have x7 : w4.cell? ⟨w.heap.size + 1, 7, none⟩ = some (.int .i64 ol2) := by rw [World.cell?, hX]; rfl
  have x8 : w4.cell? ⟨w.heap.size + 1, 8, none⟩ = some (.slice la ln lc) := by rw [World.cell?, hX]; rfl
  have x9 : w4.cell? ⟨w.heap.size + 1, 9, none⟩ = some (.slice va vn vc) := by rw [World.cell?, hX]; rfl
  have HM := hide h
  have HM4 := hide (h.ext hb4)
  have hMl := h.hlt M (Or.inl (by simp))
  have hM4 : M < w.heap.size + 4 := by omega
  have hM4' : M < w4.heap.size := by omega
  have HB4 := hide hb4
  have HR := hide hR
  have HA := hide hA
  have HX := hide hX
  have HP := hide hP
  have hbs := h.bs
  subst hk
  clear h hb4 hR hA hX hP
  go_enter Tryd.func10, Tryd.ntmps10
  go_upto_region 2 with fail
  rw [← HW4.out]
  clear HW4
  have HCALL := hide (inForce_m w4 M base N a p s u v C T full omin HM4.out hasc hvl)
  go_upto_region 75 with (go_at_call 40; refine HCALL.out.mono ?_; rintro e w5 ⟨⟨sa, sn, sc⟩, rfl, hvv, hb5⟩; simp only [sv]; have hA5 : w5.heap[w.heap.size + 3]? = _ := (hb5.block (w.heap.size + 3) (by omega)).trans HA.out; have a0 : w5.cell? ⟨w.heap.size + 1 + 1 + 1, 0, none⟩ = some (.int .u8 0) := (by rw [World.cell?, show w.heap.size + 1 + 1 + 1 = w.heap.size + 3 from rfl, hA5]; rfl); have f0 : w5.frozen? ⟨w.heap.size + 1 + 1 + 1, 0, none⟩ = false := (by rw [World.frozen?, show w.heap.size + 1 + 1 + 1 = w.heap.size + 3 from rfl, hA5]; rfl); have a7 : w5.cell? ⟨w.heap.size + 1 + 1 + 1, 7, none⟩ = some (.int .u32 0) := (by rw [World.cell?, show w.heap.size + 1 + 1 + 1 = w.heap.size + 3 from rfl, hA5]; rfl); have f7 : w5.frozen? ⟨w.heap.size + 1 + 1 + 1, 7, none⟩ = false := (by rw [World.frozen?, show w.heap.size + 1 + 1 + 1 = w.heap.size + 3 from rfl, hA5]; rfl); have a8 : w5.cell? ⟨w.heap.size + 1 + 1 + 1, 8, none⟩ = some (.int .i64 0) := (by rw [World.cell?, show w.heap.size + 1 + 1 + 1 = w.heap.size + 3 from rfl, hA5]; rfl); have f8 : w5.frozen? ⟨w.heap.size + 1 + 1 + 1, 8, none⟩ = false := (by rw [World.frozen?, show w.heap.size + 1 + 1 + 1 = w.heap.size + 3 from rfl, hA5]; rfl); have a9 : w5.cell? ⟨w.heap.size + 1 + 1 + 1, 9, none⟩ = some (.slice none 0 0) := (by rw [World.cell?, show w.heap.size + 1 + 1 + 1 = w.heap.size + 3 from rfl, hA5]; rfl); have f9 : w5.frozen? ⟨w.heap.size + 1 + 1 + 1, 9, none⟩ = false := (by rw [World.frozen?, show w.heap.size + 1 + 1 + 1 = w.heap.size + 3 from rfl, hA5]; rfl); have HB5 := hide hb5; have HV := hide hvv; clear hvv; clear hb5)
  have hz5 := HB5.out.size
  obtain ⟨W, hW⟩ : ∃ W, W = ((((w5.setCell ⟨w.heap.size + 1 + 1 + 1, 7, none⟩ (.int .u32 (verAtR T omin).2.1)).setCell ⟨w.heap.size + 1 + 1 + 1, 8, none⟩ (.int .i64 (verAtR T omin).2.2.1)).setCell ⟨w.heap.size + 1 + 1 + 1, 9, none⟩ (.slice sa sn sc)).setCell ⟨w.heap.size + 1 + 1 + 1, 0, none⟩ (.int .u8 (verAtR T omin).1)) := ⟨_, rfl⟩
  have hS0 : (w5.setCell ⟨w.heap.size + 1 + 1 + 1, 7, none⟩ (.int .u32 (verAtR T omin).2.1)).heap[w.heap.size + 3]? = some (.cells #[.int .u8 0, .int .i64 0, .slice none 0 0, .int .u32 0, .int .u8 0, .int .i64 0, .int .i64 0, .int .u32 (verAtR T omin).2.1, .int .i64 0, .slice none 0 0, .int .u32 0, .int .i64 0, .int .i64 0, .int .i64 0, .int .u32 0, .int .u32 0, .int .i64 0] 47 (0, 0)) := heap_setCell_same _ (w.heap.size + 3) 7 _ _ (.int .u32 (verAtR T omin).2.1) hA5
  have hS1 : ((w5.setCell ⟨w.heap.size + 1 + 1 + 1, 7, none⟩ (.int .u32 (verAtR T omin).2.1)).setCell ⟨w.heap.size + 1 + 1 + 1, 8, none⟩ (.int .i64 (verAtR T omin).2.2.1)).heap[w.heap.size + 3]? = some (.cells #[.int .u8 0, .int .i64 0, .slice none 0 0, .int .u32 0, .int .u8 0, .int .i64 0, .int .i64 0, .int .u32 (verAtR T omin).2.1, .int .i64 (verAtR T omin).2.2.1, .slice none 0 0, .int .u32 0, .int .i64 0, .int .i64 0, .int .i64 0, .int .u32 0, .int .u32 0, .int .i64 0] 47 (0, 0)) := heap_setCell_same _ (w.heap.size + 3) 8 _ _ (.int .i64 (verAtR T omin).2.2.1) hS0
  have hS2 : (((w5.setCell ⟨w.heap.size + 1 + 1 + 1, 7, none⟩ (.int .u32 (verAtR T omin).2.1)).setCell ⟨w.heap.size + 1 + 1 + 1, 8, none⟩ (.int .i64 (verAtR T omin).2.2.1)).setCell ⟨w.heap.size + 1 + 1 + 1, 9, none⟩ (.slice sa sn sc)).heap[w.heap.size + 3]? = some (.cells #[.int .u8 0, .int .i64 0, .slice none 0 0, .int .u32 0, .int .u8 0, .int .i64 0, .int .i64 0, .int .u32 (verAtR T omin).2.1, .int .i64 (verAtR T omin).2.2.1, .slice sa sn sc, .int .u32 0, .int .i64 0, .int .i64 0, .int .i64 0, .int .u32 0, .int .u32 0, .int .i64 0] 47 (0, 0)) := heap_setCell_same _ (w.heap.size + 3) 9 _ _ (.slice sa sn sc) hS1
  have hS3 : ((((w5.setCell ⟨w.heap.size + 1 + 1 + 1, 7, none⟩ (.int .u32 (verAtR T omin).2.1)).setCell ⟨w.heap.size + 1 + 1 + 1, 8, none⟩ (.int .i64 (verAtR T omin).2.2.1)).setCell ⟨w.heap.size + 1 + 1 + 1, 9, none⟩ (.slice sa sn sc)).setCell ⟨w.heap.size + 1 + 1 + 1, 0, none⟩ (.int .u8 (verAtR T omin).1)).heap[w.heap.size + 3]? = some (.cells #[.int .u8 (verAtR T omin).1, .int .i64 0, .slice none 0 0, .int .u32 0, .int .u8 0, .int .i64 0, .int .i64 0, .int .u32 (verAtR T omin).2.1, .int .i64 (verAtR T omin).2.2.1, .slice sa sn sc, .int .u32 0, .int .i64 0, .int .i64 0, .int .i64 0, .int .u32 0, .int .u32 0, .int .i64 0] 47 (0, 0)) := heap_setCell_same _ (w.heap.size + 3) 0 _ _ (.int .u8 (verAtR T omin).1) hS2
  have hAW : W.heap[w.heap.size + 3]? = some (.cells #[.int .u8 (verAtR T omin).1, .int .i64 0, .slice none 0 0, .int .u32 0, .int .u8 0, .int .i64 0, .int .i64 0, .int .u32 (verAtR T omin).2.1, .int .i64 (verAtR T omin).2.2.1, .slice sa sn sc, .int .u32 0, .int .i64 0, .int .i64 0, .int .i64 0, .int .u32 0, .int .u32 0, .int .i64 0] 47 (0, 0)) := by rw [hW]; exact hS3
  have hWo : ∀ b, b ≠ w.heap.size + 3 → W.heap[b]? = w5.heap[b]? := fun b hb => by rw [hW]; exact ((((Below.heap_setCell _ _ _ _ hb).trans (Below.heap_setCell _ _ _ _ hb)).trans (Below.heap_setCell _ _ _ _ hb)).trans (Below.heap_setCell _ _ _ _ hb))
  have hWs : w5.heap.size ≤ W.heap.size := by rw [hW]; simp [World.setCell]
  have hWb : Below base w5 W := by rw [hW]; exact (((((Below.refl _ _).setCell (p := ⟨w.heap.size + 1 + 1 + 1, 7, none⟩) (by show base ≤ w.heap.size + 1 + 1 + 1; omega) _).setCell (p := ⟨w.heap.size + 1 + 1 + 1, 8, none⟩) (by show base ≤ w.heap.size + 1 + 1 + 1; omega) _).setCell (p := ⟨w.heap.size + 1 + 1 + 1, 9, none⟩) (by show base ≤ w.heap.size + 1 + 1 + 1; omega) _).setCell (p := ⟨w.heap.size + 1 + 1 + 1, 0, none⟩) (by show base ≤ w.heap.size + 1 + 1 + 1; omega) _)
  rw [← hW]
  have hRW : W.heap[w.heap.size + 2]? = some (.cells #[.int .u8 0, .int .i64 0, .slice none 0 0, .int .u32 0, .int .u8 0, .int .i64 0, .int .i64 0, .int .u32 0, .int .i64 0, .slice none 0 0, .int .u32 0, .int .i64 0, .int .i64 0, .int .i64 0, .int .u32 0, .int .u32 0, .int .i64 0] 47 (0, 0)) := (hWo _ (by omega)).trans ((HB5.out.block (w.heap.size + 2) (by omega)).trans HR.out)
  have rz : rng W (w.heap.size + 1 + 1 + 1) 0 17 = some #[.int .u8 (verAtR T omin).1, .int .i64 0, .slice none 0 0, .int .u32 0, .int .u8 0, .int .i64 0, .int .i64 0, .int .u32 (verAtR T omin).2.1, .int .i64 (verAtR T omin).2.2.1, .slice sa sn sc, .int .u32 0, .int .i64 0, .int .i64 0, .int .i64 0, .int .u32 0, .int .u32 0, .int .i64 0] := rng_whole hAW
  have hwh : whole W (w.heap.size + 1 + 1) 17 = true := whole_of_heap hRW
  have HWO := hide hWo
  have HWB := hide hWb
  have HRW := hide hRW
  clear hW hWo hWb hRW hAW
  go_wp2
  have hfin := heap_setRow_at (ds := #[.int .u8 (verAtR T omin).1, .int .i64 0, .slice none 0 0, .int .u32 0, .int .u8 0, .int .i64 0, .int .i64 0, .int .u32 (verAtR T omin).2.1, .int .i64 (verAtR T omin).2.2.1, .slice sa sn sc, .int .u32 0, .int .i64 0, .int .i64 0, .int .i64 0, .int .u32 0, .int .u32 0, .int .i64 0]) HRW.out
  refine bodyPost_ret (results_cell1 Tryd.results10 _ _ (w.heap.size + 2) _ _ _ _ rfl hfin Tryd.underlying47 rfl (by kernel_rfl)) rfl ?_
  have hoth : ∀ b, b ≠ w.heap.size + 2 → b ≠ w.heap.size + 3 → (W.setRow (w.heap.size + 2) #[.int .u8 (verAtR T omin).1, .int .i64 0, .slice none 0 0, .int .u32 0, .int .u8 0, .int .i64 0, .int .i64 0, .int .u32 (verAtR T omin).2.1, .int .i64 (verAtR T omin).2.2.1, .slice sa sn sc, .int .u32 0, .int .i64 0, .int .i64 0, .int .i64 0, .int .u32 0, .int .u32 0, .int .i64 0]).heap[b]? = w5.heap[b]? := fun b h1 h2 => (setRow_other _ _ _ _ h1).trans (HWO.out b h2)
  have hcm := MCmd.around HM.out HB4.out hs4 (MCmd.after HM4.out HB5.out (MCmd.refl (HM4.out.ext HB5.out))) hoth (by simp; omega) (HWB.out.trans (below_setRow' _ _ (by omega)))
  exact ret_ms HAA ⟨_, _, { code := (verAtR T omin).1, v0 := (verAtR T omin).2.1, v1 := (verAtR T omin).2.2.1, vis := (sa, sn, sc) }, rfl, hcm, ⟨u32s_none _, visits_any (HV.out.mono (fun b hb => hoth b (by have : b < w.heap.size := hb.elim (fun h => by omega) (fun h => HM.out.hlt b (Or.inr (Or.inr h))); omega) (by have : b < w.heap.size := hb.elim (fun h => by omega) (fun h => HM.out.hlt b (Or.inr (Or.inr h))); omega)) (fun _ h => h)), by simp⟩⟩

set_option maxRecDepth 100000 in
set_option maxHeartbeats 8000000 in
theorem mstep_13 (w : World) (M base N a p s u : Nat) (v : Value) (C : Nat → Prop) (T : Tab) (full : Bool) (o : Op) (la va : Option Addr) (ln lc vn vc : Nat) (h : MAt w M base N a p s u v C T full) (hasc : AscV T.vers) (hvl : T.vers.length ≤ 1000000) (hkn : ∀ x ∈ T.vers, ∀ y ∈ x.2, ∀ p ∈ y.panels, U32 p ∧ (T.pan p).isSome = true) (hpl : ∀ x ∈ T.vers, ∀ y ∈ x.2, y.panels.length ≤ 6) (hlen : ∀ x ∈ T.vers, x.2.length ≤ 12) (hpan : ∀ k ids, T.pan k = some ids → ids.length ≤ 8) (hbl : (mtsR T o.ref o.minute).2.length ≤ 1000000) (hk : o.kind = 13) :
    Calls Tryd.prog 10 #[.pointer (some ⟨M, 0, none⟩), .agg (opCs o (.slice la ln lc) (.slice va vn vc))] w fun e w' => MSPost w w' e M base (N + 1) a p s u v C { code := (mtsR T o.ref o.minute).1, list := (mtsR T o.ref o.minute).2 } T full := by
  obtain ⟨w4, HW4, hb4, hs4, hP, hX, hR, hA⟩ := mstep_start w o la va ln lc vn vc M
  obtain ⟨okind, oid, oref, omin, odel, ol0, ol1, ol2, olist, ovis⟩ := o
  simp only at hk
  simp only [opCs, ansCs, sv] at hX HW4 hR hA ⊢
  obtain ⟨AA, hAA⟩ : ∃ AA : PA, AA = { code := (mtsR T oref omin).1, list := (mtsR T oref omin).2 } := ⟨_, rfl⟩
  obtain ⟨FF, hFF⟩ : ∃ FF : Bool, FF = full := ⟨_, rfl⟩
  obtain ⟨TT, hTT⟩ : ∃ TT : Tab, TT = T := ⟨_, rfl⟩
  rw [← hAA, ← hTT, ← hFF]
  have HAA := hide (And.intro hAA (And.intro hTT hFF))
  clear hAA hFF hTT
  have p0 : w4.cell? ⟨w.heap.size, 0, none⟩ = some (.pointer (some ⟨M, 0, none⟩)) := by rw [World.cell?, hP]; rfl
  have x0 : w4.cell? ⟨w.heap.size + 1, 0, none⟩ = some (.int .u8 okind) := by rw [World.cell?, hX]; rfl
  have x1 : w4.cell? ⟨w.heap.size + 1, 1, none⟩ = some (.int .u32 oid) := by rw [World.cell?, hX]; rfl
  have x2 : w4.cell? ⟨w.heap.size + 1, 2, none⟩ = some (.int .u32 oref) := by rw [World.cell?, hX]; rfl
  have x3 : w4.cell? ⟨w.heap.size + 1, 3, none⟩ = some (.int .i64 omin) := by rw [World.cell?, hX]; rfl
  have x4 : w4.cell? ⟨w.heap.size + 1, 4, none⟩ = some (.int .i64 odel) := by rw [World.cell?, hX]; rfl
  have x5 : w4.cell? ⟨w.heap.size + 1, 5, none⟩ = some (.int .i64 ol0) := by rw [World.cell?, hX]; rfl
  have x6 : w4.cell? ⟨w.heap.size + 1, 6, none⟩ = some (.int .i64 ol1) := by rw [World.cell?, hX]; rfl
  have x7 : w4.cell? ⟨w.heap.size + 1, 7, none⟩ = some (.int .i64 ol2) := by rw [World.cell?, hX]; rfl
  have x8 : w4.cell? ⟨w.heap.size + 1, 8, none⟩ = some (.slice la ln lc) := by rw [World.cell?, hX]; rfl
  have x9 : w4.cell? ⟨w.heap.size + 1, 9, none⟩ = some (.slice va vn vc) := by rw [World.cell?, hX]; rfl
  have HM := hide h
  have HM4 := hide (h.ext hb4)
  have hMl := h.hlt M (Or.inl (by simp))
  have hM4 : M < w.heap.size + 4 := by omega
  have hM4' : M < w4.heap.size := by omega
  have HB4 := hide hb4
  have HR := hide hR
  have HA := hide hA
  have HX := hide hX
  have HP := hide hP
  have hbs := h.bs
  subst hk
  clear h hb4 hR hA hX hP
  go_enter Tryd.func10, Tryd.ntmps10
  go_upto_region 2 with fail
  rw [← HW4.out]
  clear HW4
  have HCALL := hide (tests_m w4 M base N a p s u v C T full oref omin HM4.out hasc hvl hkn hpl hlen hpan)
  go_upto_region 75 with (go_at_call 41; refine HCALL.out.mono ?_; rintro e w5 ⟨lv, rfl, hown, hb5⟩; obtain ⟨sa, sc, hlv⟩ := hown.form; have HV : Hid (U32sAt w5 (w4.heap.size ≤ ·) lv (mtsR T oref omin).2) := (hown.rows u32Cs_size (by decide) (Nat.le_trans hbl (by decide))); generalize hsn : (mtsR T oref omin).2.length = sn at hlv; subst hlv; clear hsn hown; have hA5 : w5.heap[w.heap.size + 3]? = _ := (hb5.block (w.heap.size + 3) (by omega)).trans HA.out; have a0 : w5.cell? ⟨w.heap.size + 1 + 1 + 1, 0, none⟩ = some (.int .u8 0) := (by rw [World.cell?, show w.heap.size + 1 + 1 + 1 = w.heap.size + 3 from rfl, hA5]; rfl); have f0 : w5.frozen? ⟨w.heap.size + 1 + 1 + 1, 0, none⟩ = false := (by rw [World.frozen?, show w.heap.size + 1 + 1 + 1 = w.heap.size + 3 from rfl, hA5]; rfl); have a2 : w5.cell? ⟨w.heap.size + 1 + 1 + 1, 2, none⟩ = some (.slice none 0 0) := (by rw [World.cell?, show w.heap.size + 1 + 1 + 1 = w.heap.size + 3 from rfl, hA5]; rfl); have f2 : w5.frozen? ⟨w.heap.size + 1 + 1 + 1, 2, none⟩ = false := (by rw [World.frozen?, show w.heap.size + 1 + 1 + 1 = w.heap.size + 3 from rfl, hA5]; rfl); have HB5 := hide hb5; clear hb5)
  have hz5 := HB5.out.size
  obtain ⟨W, hW⟩ : ∃ W, W = ((w5.setCell ⟨w.heap.size + 1 + 1 + 1, 2, none⟩ (.slice sa sn sc)).setCell ⟨w.heap.size + 1 + 1 + 1, 0, none⟩ (.int .u8 (mtsR T oref omin).1)) := ⟨_, rfl⟩
  have hS0 : (w5.setCell ⟨w.heap.size + 1 + 1 + 1, 2, none⟩ (.slice sa sn sc)).heap[w.heap.size + 3]? = some (.cells #[.int .u8 0, .int .i64 0, .slice sa sn sc, .int .u32 0, .int .u8 0, .int .i64 0, .int .i64 0, .int .u32 0, .int .i64 0, .slice none 0 0, .int .u32 0, .int .i64 0, .int .i64 0, .int .i64 0, .int .u32 0, .int .u32 0, .int .i64 0] 47 (0, 0)) := heap_setCell_same _ (w.heap.size + 3) 2 _ _ (.slice sa sn sc) hA5
  have hS1 : ((w5.setCell ⟨w.heap.size + 1 + 1 + 1, 2, none⟩ (.slice sa sn sc)).setCell ⟨w.heap.size + 1 + 1 + 1, 0, none⟩ (.int .u8 (mtsR T oref omin).1)).heap[w.heap.size + 3]? = some (.cells #[.int .u8 (mtsR T oref omin).1, .int .i64 0, .slice sa sn sc, .int .u32 0, .int .u8 0, .int .i64 0, .int .i64 0, .int .u32 0, .int .i64 0, .slice none 0 0, .int .u32 0, .int .i64 0, .int .i64 0, .int .i64 0, .int .u32 0, .int .u32 0, .int .i64 0] 47 (0, 0)) := heap_setCell_same _ (w.heap.size + 3) 0 _ _ (.int .u8 (mtsR T oref omin).1) hS0
  have hAW : W.heap[w.heap.size + 3]? = some (.cells #[.int .u8 (mtsR T oref omin).1, .int .i64 0, .slice sa sn sc, .int .u32 0, .int .u8 0, .int .i64 0, .int .i64 0, .int .u32 0, .int .i64 0, .slice none 0 0, .int .u32 0, .int .i64 0, .int .i64 0, .int .i64 0, .int .u32 0, .int .u32 0, .int .i64 0] 47 (0, 0)) := by rw [hW]; exact hS1
  have hWo : ∀ b, b ≠ w.heap.size + 3 → W.heap[b]? = w5.heap[b]? := fun b hb => by rw [hW]; exact ((Below.heap_setCell _ _ _ _ hb).trans (Below.heap_setCell _ _ _ _ hb))
  have hWs : w5.heap.size ≤ W.heap.size := by rw [hW]; simp [World.setCell]
  have hWb : Below base w5 W := by rw [hW]; exact (((Below.refl _ _).setCell (p := ⟨w.heap.size + 1 + 1 + 1, 2, none⟩) (by show base ≤ w.heap.size + 1 + 1 + 1; omega) _).setCell (p := ⟨w.heap.size + 1 + 1 + 1, 0, none⟩) (by show base ≤ w.heap.size + 1 + 1 + 1; omega) _)
  rw [← hW]
  have hRW : W.heap[w.heap.size + 2]? = some (.cells #[.int .u8 0, .int .i64 0, .slice none 0 0, .int .u32 0, .int .u8 0, .int .i64 0, .int .i64 0, .int .u32 0, .int .i64 0, .slice none 0 0, .int .u32 0, .int .i64 0, .int .i64 0, .int .i64 0, .int .u32 0, .int .u32 0, .int .i64 0] 47 (0, 0)) := (hWo _ (by omega)).trans ((HB5.out.block (w.heap.size + 2) (by omega)).trans HR.out)
  have rz : rng W (w.heap.size + 1 + 1 + 1) 0 17 = some #[.int .u8 (mtsR T oref omin).1, .int .i64 0, .slice sa sn sc, .int .u32 0, .int .u8 0, .int .i64 0, .int .i64 0, .int .u32 0, .int .i64 0, .slice none 0 0, .int .u32 0, .int .i64 0, .int .i64 0, .int .i64 0, .int .u32 0, .int .u32 0, .int .i64 0] := rng_whole hAW
  have hwh : whole W (w.heap.size + 1 + 1) 17 = true := whole_of_heap hRW
  have HWO := hide hWo
  have HWB := hide hWb
  have HRW := hide hRW
  clear hW hWo hWb hRW hAW
  go_wp2
  have hfin := heap_setRow_at (ds := #[.int .u8 (mtsR T oref omin).1, .int .i64 0, .slice sa sn sc, .int .u32 0, .int .u8 0, .int .i64 0, .int .i64 0, .int .u32 0, .int .i64 0, .slice none 0 0, .int .u32 0, .int .i64 0, .int .i64 0, .int .i64 0, .int .u32 0, .int .u32 0, .int .i64 0]) HRW.out
  refine bodyPost_ret (results_cell1 Tryd.results10 _ _ (w.heap.size + 2) _ _ _ _ rfl hfin Tryd.underlying47 rfl (by kernel_rfl)) rfl ?_
  have hoth : ∀ b, b ≠ w.heap.size + 2 → b ≠ w.heap.size + 3 → (W.setRow (w.heap.size + 2) #[.int .u8 (mtsR T oref omin).1, .int .i64 0, .slice sa sn sc, .int .u32 0, .int .u8 0, .int .i64 0, .int .i64 0, .int .u32 0, .int .i64 0, .slice none 0 0, .int .u32 0, .int .i64 0, .int .i64 0, .int .i64 0, .int .u32 0, .int .u32 0, .int .i64 0]).heap[b]? = w5.heap[b]? := fun b h1 h2 => (setRow_other _ _ _ _ h1).trans (HWO.out b h2)
  have hcm := MCmd.around HM.out HB4.out hs4 (MCmd.after HM4.out HB5.out (MCmd.refl (HM4.out.ext HB5.out))) hoth (by simp; omega) (HWB.out.trans (below_setRow' _ _ (by omega)))
  exact ret_ms HAA ⟨_, _, { code := (mtsR T oref omin).1, list := (sa, sn, sc) }, rfl, hcm, ⟨u32s_any (HV.out.mono (fun b hb => hoth b (by omega) (by omega)) (fun _ h => h)), visits_any (visits_nil _ (fun _ => True)), by simp⟩⟩

end Go.Proofs.Qxb6500665aDoor
