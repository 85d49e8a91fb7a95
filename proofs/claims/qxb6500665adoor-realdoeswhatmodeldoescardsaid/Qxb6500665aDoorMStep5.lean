/- The kinds of the model's step, walked. (Made by tools/mk_mstep.py.) -/
import Derived.Test.Qxb6500665aDoorMStep4
namespace Go.Proofs.Qxb6500665aDoor
open Go.RowKit Go.Proofs.Qxb6500665aDoor.Cal

attribute [local go_sem ↓] exec_stAnswer exec_ldAnswer exec_stAnalyte exec_stVersion
attribute [local go_sem] run_stAnswer run_ldAnswer rng_drew ext_const Ext.cell Ext.frozen Ext.rng Ext.whole ones17 run_stAnalyte whole_alloc_lt whole_alloc_at whole_drew setRow_alloc_at setRow_alloc_lt setRow_drew

theorem run_indexAt_u32' {P : Program} {t e : TypeId} {size : Nat} (ht : P.underlying t = some (.slice e)) (hs : ∀ w, (sizeOf e).run P w = .ok size w) {a : Option Addr} {b off n cap : Nat}
    (ha : 0 < n → a = some ⟨b, off, none⟩) (w : World) (k : Int) (h0 : 0 ≤ k) (h1 : k < n) :
    (Instr.indexAt t (.slice a n cap) (.int .u32 k)).run P w = .ok (.pointer (some ⟨b, off + k.toNat * size, none⟩)) w := by
  have hn : 0 < n := by omega
  rw [ha hn, run_indexAt_slice (P := P) w t ⟨b, off, none⟩ n cap .u32 k (by simp [Program.elem, ht])]
  simp [h0, h1, Program.elem, ht, hs, Addr.add_lit]

set_option maxRecDepth 100000 in
set_option maxHeartbeats 8000000 in
theorem mstep_8 (w : World) (M base N a p s u : Nat) (v : Value) (C : Nat → Prop) (T : Tab) (full : Bool) (o : Op) (la va : Option Addr) (ln lc vn vc : Nat) (h : MAt w M base N a p s u v C T full) (hid : U32 o.id) (hvl : T.vers.length ≤ 1000000) (hk : o.kind = 8) :
    Calls Tryd.prog 10 #[.pointer (some ⟨M, 0, none⟩), .agg (opCs o (.slice la ln lc) (.slice va vn vc))] w fun e w' => MSPost w w' e M base (N + 1) a p s u v C { code := (verR T o.id).1, v0 := (verR T o.id).2.1, v1 := (verR T o.id).2.2.1, vis := (verR T o.id).2.2.2 } T full := by
  obtain ⟨w4, HW4, hb4, hs4, hP, hX, hR, hA⟩ := mstep_start w o la va ln lc vn vc M
  obtain ⟨okind, oid, oref, omin, odel, ol0, ol1, ol2, olist, ovis⟩ := o
  simp only at hk
  simp only [opCs, ansCs, sv] at hX HW4 hR hA ⊢
  obtain ⟨AA, hAA⟩ : ∃ AA : PA, AA = { code := (verR T oid).1, v0 := (verR T oid).2.1, v1 := (verR T oid).2.2.1, vis := (verR T oid).2.2.2 } := ⟨_, rfl⟩
  obtain ⟨FF, hFF⟩ : ∃ FF : Bool, FF = full := ⟨_, rfl⟩
  obtain ⟨TT, hTT⟩ : ∃ TT : Tab, TT = T := ⟨_, rfl⟩
  rw [← hAA, ← hTT, ← hFF]
  have HAA := hide (And.intro hAA (And.intro hTT hFF))
  clear hAA hFF hTT
  have p0 : w4.cell? ⟨w.heap.size, 0, none⟩ = some (.pointer (some ⟨M, 0, none⟩)) := by rw [World.cell?, hP]; rfl
  have x0 : w4.cell? ⟨w.heap.size + 1, 0, none⟩ = some (.int .u8 okind) := by rw [World.cell?, hX]; rfl
  have x1 : w4.cell? ⟨w.heap.size + 1, 1, none⟩ = some (.int .u32 oid) := by rw [World.cell?, hX]; rfl
  have x2 : w4.cell? ⟨w.heap.size + 1, 2, none⟩ = some (.int .u32 oref) := by rw [World.cell?, hX]; rfl
  have x3 : w4.cell? ⟨w.heap.size + 1, 3, none⟩ = some (.int .i64 omin) := by rw [World.cell?, hX]; rfl
  have x4 : w4.cell? ⟨w.heap.size + 1, 4, none⟩ = some (.int .i64 odel) := by rw [World.cell?, hX]; rfl
  have x5 : w4.cell? ⟨w.heap.size + 1, 5, none⟩ = some (.int .i64 ol0) := by rw [World.cell?, hX]; rfl
  have x6 : w4.cell? ⟨w.heap.size + 1, 6, none⟩ = some (.int .i64 ol1) := by rw [World.cell?, hX]; rfl
  have x7 : w4.cell? ⟨w.heap.size + 1, 7, none⟩ = some (.int .i64 ol2) := by rw [World.cell?, hX]; rfl
  have x8 : w4.cell? ⟨w.heap.size + 1, 8, none⟩ = some (.slice la ln lc) := by rw [World.cell?, hX]; rfl
  have x9 : w4.cell? ⟨w.heap.size + 1, 9, none⟩ = some (.slice va vn vc) := by rw [World.cell?, hX]; rfl
  have HM := hide h
  have HM4 := hide (h.ext hb4)
  have hMl := h.hlt M (Or.inl (by simp))
  have hM4 : M < w.heap.size + 4 := by omega
  have hM4' : M < w4.heap.size := by omega
  have HB4 := hide hb4
  have HR := hide hR
  have HA := hide hA
  have HX := hide hX
  have HP := hide hP
  have hbs := h.bs
  subst hk
  clear h hb4 hR hA hX hP
  go_enter Tryd.func10, Tryd.ntmps10
  go_upto_region 2 with fail
  rw [← HW4.out]
  clear HW4
  simp only at hid
  obtain ⟨hid1, hid2⟩ := hid
  obtain ⟨mv, m1, m2, m3, m4⟩ := HM4.out.vers
  obtain ⟨nv, hnv⟩ : ∃ nv, nv = mv.length := ⟨_, rfl⟩
  have hmt : T.vers.length = nv := by rw [hnv, m2]; simp
  obtain ⟨sa, sc, sb, so, hsv, s1, s2, s3, sha, shc⟩ := (m1.rows mvCs_size (by decide) (by omega)).lt
  obtain ⟨d0, d1, d2, d3, d4, d5, -, -⟩ := cell_six HM4.out.top
  rw [hsv, ← hnv] at d2
  rw [← hnv] at sha
  have hnv1 : nv ≤ 1000000 := by omega
  have HSA := hide sha
  have HSC := hide shc
  have H2 := hide m2
  have H3 := hide m3
  have H4 := hide m4
  have HNV := hide hnv
  have HMT := hide hmt
  clear m1 m2 m3 m4 hnv hmt sha shc s1 s2 s3 hsv
  go_upto_region 21 with fail
  by_cases h0 : oid = 0
  · have HE : Hid (AA = ({ code := 18 } : PA) ∧ TT = T ∧ FF = full) := ⟨by rw [HAA.out.1]; simp [verR, verOf, h0], HAA.out.2⟩
    have t0 : (oid == 0) = true := by simp [h0]
    clear h0
    refine wp_region_mixT (w4.heap.size) [1, 5, 7, 10] (by kernel_rfl) ?_
    refine mixT_slots [0] (fuel := 13) rfl (by kernel_rfl) (by kernel_rfl) (fun d _ _ _ _ h => by cases d <;> exact h) ?_
    simp only [opersAt, List.getElem?_toArray, List.getElem?_cons_zero]
    repeat (go_big_quiet_step (fail))
    refine wpQuiet_nil ?_
    refine mixT_reads [1] (fuel := 12) rfl (by kernel_rfl) (by decide) (by kernel_rfl) (fun d _ _ _ _ h => by cases d <;> exact h) (ext_drew _ _) ?_
    simp only [opersAt, List.getElem?_toArray, List.getElem?_cons_zero, List.getElem?_cons_succ]
    repeat (go_big_quiet_step (fail))
    refine wpQuiet_nil ?_
    refine mixT_slots [2, 3, 4] (fuel := 9) rfl (by kernel_rfl) (by kernel_rfl) (fun d _ _ _ _ h => by cases d <;> exact h) ?_
    simp only [opersAt, List.getElem?_toArray, List.getElem?_cons_zero, List.getElem?_cons_succ]
    repeat (go_big_quiet_step (fail))
    refine wpQuiet_nil ?_
    refine mixT_reads [5] (fuel := 8) rfl (by kernel_rfl) (by decide) (by kernel_rfl) (fun d _ _ _ _ h => by cases d <;> exact h) (ext_drew _ _) ?_
    simp only [opersAt, List.getElem?_toArray, List.getElem?_cons_zero, List.getElem?_cons_succ]
    repeat (go_big_quiet_step (fail))
    refine wpQuiet_nil ?_
    refine mixT_slots [6] (fuel := 7) rfl (by kernel_rfl) (by kernel_rfl) (fun d _ _ _ _ h => by cases d <;> exact h) ?_
    simp only [opersAt, List.getElem?_toArray, List.getElem?_cons_zero, List.getElem?_cons_succ]
    repeat (go_big_quiet_step (fail))
    refine wpQuiet_nil ?_
    refine mixT_reads [7] (fuel := 6) rfl (by kernel_rfl) (by decide) (by kernel_rfl) (fun d _ _ _ _ h => by cases d <;> exact h) (ext_drew _ _) ?_
    simp only [opersAt, List.getElem?_toArray, List.getElem?_cons_zero, List.getElem?_cons_succ]
    repeat (go_big_quiet_step (fail))
    refine wpQuiet_nil ?_
    refine mixT_slots [8, 9] (fuel := 4) rfl (by kernel_rfl) (by kernel_rfl) (fun d _ _ _ _ h => by cases d <;> exact h) ?_
    simp only [opersAt, List.getElem?_toArray, List.getElem?_cons_zero, List.getElem?_cons_succ]
    repeat (go_big_quiet_step (fail))
    refine wpQuiet_nil ?_
    refine mixT_reads [10] (fuel := 3) rfl (by kernel_rfl) (by decide) (by kernel_rfl) (fun d _ _ _ _ h => by cases d <;> exact h) (ext_drew _ _) ?_
    simp only [opersAt, List.getElem?_toArray, List.getElem?_cons_zero, List.getElem?_cons_succ]
    repeat (go_big_quiet_step (fail))
    refine wpQuiet_nil ?_
    refine mixT_slots [11, 12, 13] (fuel := 0) rfl (by kernel_rfl) (by kernel_rfl) (fun d _ _ _ _ h => by cases d <;> exact h) ?_
    simp only [opersAt, List.getElem?_toArray, List.getElem?_cons_zero, List.getElem?_cons_succ]
    repeat (go_big_quiet_step (fail))
    refine wpQuiet_nil ?_
    refine mixT_nil (by kernel_rfl) ?_
    obtain ⟨w5, hw5⟩ : ∃ w5, w5 = w4.drew := ⟨_, rfl⟩
    have hb5 : Below w4.heap.size w4 w5 := by rw [hw5]; exact (Below.refl _ _).drew
    rw [← hw5]
    clear hw5
    have HB5 := hide hb5
    have hz5 := hb5.size
    have hA5 : w5.heap[w.heap.size + 3]? = _ := (hb5.block (w.heap.size + 3) (by omega)).trans HA.out
    have a0 : w5.cell? ⟨w.heap.size + 1 + 1 + 1, 0, none⟩ = some (.int .u8 0) := by rw [World.cell?, show w.heap.size + 1 + 1 + 1 = w.heap.size + 3 from rfl, hA5]; rfl
    have f0 : w5.frozen? ⟨w.heap.size + 1 + 1 + 1, 0, none⟩ = false := by rw [World.frozen?, show w.heap.size + 1 + 1 + 1 = w.heap.size + 3 from rfl, hA5]; rfl
    clear hb5
    go_upto_region 75 with fail
    obtain ⟨W, hW⟩ : ∃ W, W = (w5.setCell ⟨w.heap.size + 1 + 1 + 1, 0, none⟩ (.int .u8 18)) := ⟨_, rfl⟩
    have hS0 : (w5.setCell ⟨w.heap.size + 1 + 1 + 1, 0, none⟩ (.int .u8 18)).heap[w.heap.size + 3]? = some (.cells #[.int .u8 18, .int .i64 0, .slice none 0 0, .int .u32 0, .int .u8 0, .int .i64 0, .int .i64 0, .int .u32 0, .int .i64 0, .slice none 0 0, .int .u32 0, .int .i64 0, .int .i64 0, .int .i64 0, .int .u32 0, .int .u32 0, .int .i64 0] 47 (0, 0)) := heap_setCell_same _ (w.heap.size + 3) 0 _ _ (.int .u8 18) hA5
    have hAW : W.heap[w.heap.size + 3]? = some (.cells #[.int .u8 18, .int .i64 0, .slice none 0 0, .int .u32 0, .int .u8 0, .int .i64 0, .int .i64 0, .int .u32 0, .int .i64 0, .slice none 0 0, .int .u32 0, .int .i64 0, .int .i64 0, .int .i64 0, .int .u32 0, .int .u32 0, .int .i64 0] 47 (0, 0)) := by rw [hW]; exact hS0
    have hWo : ∀ b, b ≠ w.heap.size + 3 → W.heap[b]? = w5.heap[b]? := fun b hb => by rw [hW]; exact (Below.heap_setCell _ _ _ _ hb)
    have hWs : w5.heap.size ≤ W.heap.size := by rw [hW]; simp [World.setCell]
    have hWb : Below base w5 W := by rw [hW]; exact ((Below.refl _ _).setCell (p := ⟨w.heap.size + 1 + 1 + 1, 0, none⟩) (by show base ≤ w.heap.size + 1 + 1 + 1; omega) _)
    rw [← hW]
    have hRW : W.heap[w.heap.size + 2]? = some (.cells #[.int .u8 0, .int .i64 0, .slice none 0 0, .int .u32 0, .int .u8 0, .int .i64 0, .int .i64 0, .int .u32 0, .int .i64 0, .slice none 0 0, .int .u32 0, .int .i64 0, .int .i64 0, .int .i64 0, .int .u32 0, .int .u32 0, .int .i64 0] 47 (0, 0)) := (hWo _ (by omega)).trans ((HB5.out.block (w.heap.size + 2) (by omega)).trans HR.out)
    have rz : rng W (w.heap.size + 1 + 1 + 1) 0 17 = some #[.int .u8 18, .int .i64 0, .slice none 0 0, .int .u32 0, .int .u8 0, .int .i64 0, .int .i64 0, .int .u32 0, .int .i64 0, .slice none 0 0, .int .u32 0, .int .i64 0, .int .i64 0, .int .i64 0, .int .u32 0, .int .u32 0, .int .i64 0] := rng_whole hAW
    have hwh : whole W (w.heap.size + 1 + 1) 17 = true := whole_of_heap hRW
    have HWO := hide hWo
    have HWB := hide hWb
    have HRW := hide hRW
    clear hW hWo hWb hRW hAW
    go_wp2
    have hfin := heap_setRow_at (ds := #[.int .u8 18, .int .i64 0, .slice none 0 0, .int .u32 0, .int .u8 0, .int .i64 0, .int .i64 0, .int .u32 0, .int .i64 0, .slice none 0 0, .int .u32 0, .int .i64 0, .int .i64 0, .int .i64 0, .int .u32 0, .int .u32 0, .int .i64 0]) HRW.out
    refine bodyPost_ret (results_cell1 Tryd.results10 _ _ (w.heap.size + 2) _ _ _ _ rfl hfin Tryd.underlying47 rfl (by kernel_rfl)) rfl ?_
    have hoth : ∀ b, b ≠ w.heap.size + 2 → b ≠ w.heap.size + 3 → (W.setRow (w.heap.size + 2) #[.int .u8 18, .int .i64 0, .slice none 0 0, .int .u32 0, .int .u8 0, .int .i64 0, .int .i64 0, .int .u32 0, .int .i64 0, .slice none 0 0, .int .u32 0, .int .i64 0, .int .i64 0, .int .i64 0, .int .u32 0, .int .u32 0, .int .i64 0]).heap[b]? = w5.heap[b]? := fun b h1 h2 => (setRow_other _ _ _ _ h1).trans (HWO.out b h2)
    have hcm := MCmd.around HM.out HB4.out hs4 (MCmd.after HM4.out HB5.out (MCmd.refl (HM4.out.ext HB5.out))) hoth (by simp; omega) (HWB.out.trans (below_setRow' _ _ (by omega)))
    exact ret_ms HE ⟨_, _, { code := 18 }, rfl, hcm, ⟨u32s_none _, visits_any (visits_nil _ (fun _ => True)), by simp⟩⟩

  by_cases h1 : (nv : Int) < oid
  · have HE : Hid (AA = ({ code := 18 } : PA) ∧ TT = T ∧ FF = full) := ⟨by
      have e : verOf T.vers oid = none := by
        unfold verOf
        rw [if_pos (by omega)]
        exact List.getElem?_eq_none (by rw [HMT.out]; omega)
      rw [HAA.out.1]
      simp [verR, e], HAA.out.2⟩
    have t0 : (oid == 0) = false := by simp [h0]
    clear h0
    refine wp_region_mixT (w4.heap.size) [1, 5, 7, 10] (by kernel_rfl) ?_
    refine mixT_slots [0] (fuel := 13) rfl (by kernel_rfl) (by kernel_rfl) (fun d _ _ _ _ h => by cases d <;> exact h) ?_
    simp only [opersAt, List.getElem?_toArray, List.getElem?_cons_zero]
    repeat (go_big_quiet_step (fail))
    refine wpQuiet_nil ?_
    refine mixT_reads [1] (fuel := 12) rfl (by kernel_rfl) (by decide) (by kernel_rfl) (fun d _ _ _ _ h => by cases d <;> exact h) (ext_drew _ _) ?_
    simp only [opersAt, List.getElem?_toArray, List.getElem?_cons_zero, List.getElem?_cons_succ]
    repeat (go_big_quiet_step (fail))
    refine wpQuiet_nil ?_
    refine mixT_slots [2, 3, 4] (fuel := 9) rfl (by kernel_rfl) (by kernel_rfl) (fun d _ _ _ _ h => by cases d <;> exact h) ?_
    simp only [opersAt, List.getElem?_toArray, List.getElem?_cons_zero, List.getElem?_cons_succ]
    repeat (go_big_quiet_step (fail))
    refine wpQuiet_nil ?_
    refine mixT_reads [5] (fuel := 8) rfl (by kernel_rfl) (by decide) (by kernel_rfl) (fun d _ _ _ _ h => by cases d <;> exact h) (ext_drew _ _) ?_
    simp only [opersAt, List.getElem?_toArray, List.getElem?_cons_zero, List.getElem?_cons_succ]
    repeat (go_big_quiet_step (fail))
    refine wpQuiet_nil ?_
    refine mixT_slots [6] (fuel := 7) rfl (by kernel_rfl) (by kernel_rfl) (fun d _ _ _ _ h => by cases d <;> exact h) ?_
    simp only [opersAt, List.getElem?_toArray, List.getElem?_cons_zero, List.getElem?_cons_succ]
    repeat (go_big_quiet_step (fail))
    refine wpQuiet_nil ?_
    refine mixT_reads [7] (fuel := 6) rfl (by kernel_rfl) (by decide) (by kernel_rfl) (fun d _ _ _ _ h => by cases d <;> exact h) (ext_drew _ _) ?_
    simp only [opersAt, List.getElem?_toArray, List.getElem?_cons_zero, List.getElem?_cons_succ]
    repeat (go_big_quiet_step (fail))
    refine wpQuiet_nil ?_
    refine mixT_slots [8, 9] (fuel := 4) rfl (by kernel_rfl) (by kernel_rfl) (fun d _ _ _ _ h => by cases d <;> exact h) ?_
    simp only [opersAt, List.getElem?_toArray, List.getElem?_cons_zero, List.getElem?_cons_succ]
    repeat (go_big_quiet_step (fail))
    refine wpQuiet_nil ?_
    refine mixT_reads [10] (fuel := 3) rfl (by kernel_rfl) (by decide) (by kernel_rfl) (fun d _ _ _ _ h => by cases d <;> exact h) (ext_drew _ _) ?_
    simp only [opersAt, List.getElem?_toArray, List.getElem?_cons_zero, List.getElem?_cons_succ]
    repeat (go_big_quiet_step (fail))
    refine wpQuiet_nil ?_
    refine mixT_slots [11, 12, 13] (fuel := 0) rfl (by kernel_rfl) (by kernel_rfl) (fun d _ _ _ _ h => by cases d <;> exact h) ?_
    simp only [opersAt, List.getElem?_toArray, List.getElem?_cons_zero, List.getElem?_cons_succ]
    repeat (go_big_quiet_step (fail))
    refine wpQuiet_nil ?_
    refine mixT_nil (by kernel_rfl) ?_
    obtain ⟨w5, hw5⟩ : ∃ w5, w5 = w4.drew := ⟨_, rfl⟩
    have hb5 : Below w4.heap.size w4 w5 := by rw [hw5]; exact (Below.refl _ _).drew
    rw [← hw5]
    clear hw5
    have HB5 := hide hb5
    have hz5 := hb5.size
    have hA5 : w5.heap[w.heap.size + 3]? = _ := (hb5.block (w.heap.size + 3) (by omega)).trans HA.out
    have a0 : w5.cell? ⟨w.heap.size + 1 + 1 + 1, 0, none⟩ = some (.int .u8 0) := by rw [World.cell?, show w.heap.size + 1 + 1 + 1 = w.heap.size + 3 from rfl, hA5]; rfl
    have f0 : w5.frozen? ⟨w.heap.size + 1 + 1 + 1, 0, none⟩ = false := by rw [World.frozen?, show w.heap.size + 1 + 1 + 1 = w.heap.size + 3 from rfl, hA5]; rfl
    clear hb5
    go_upto_region 75 with fail
    obtain ⟨W, hW⟩ : ∃ W, W = (w5.setCell ⟨w.heap.size + 1 + 1 + 1, 0, none⟩ (.int .u8 18)) := ⟨_, rfl⟩
    have hS0 : (w5.setCell ⟨w.heap.size + 1 + 1 + 1, 0, none⟩ (.int .u8 18)).heap[w.heap.size + 3]? = some (.cells #[.int .u8 18, .int .i64 0, .slice none 0 0, .int .u32 0, .int .u8 0, .int .i64 0, .int .i64 0, .int .u32 0, .int .i64 0, .slice none 0 0, .int .u32 0, .int .i64 0, .int .i64 0, .int .i64 0, .int .u32 0, .int .u32 0, .int .i64 0] 47 (0, 0)) := heap_setCell_same _ (w.heap.size + 3) 0 _ _ (.int .u8 18) hA5
    have hAW : W.heap[w.heap.size + 3]? = some (.cells #[.int .u8 18, .int .i64 0, .slice none 0 0, .int .u32 0, .int .u8 0, .int .i64 0, .int .i64 0, .int .u32 0, .int .i64 0, .slice none 0 0, .int .u32 0, .int .i64 0, .int .i64 0, .int .i64 0, .int .u32 0, .int .u32 0, .int .i64 0] 47 (0, 0)) := by rw [hW]; exact hS0
    have hWo : ∀ b, b ≠ w.heap.size + 3 → W.heap[b]? = w5.heap[b]? := fun b hb => by rw [hW]; exact (Below.heap_setCell _ _ _ _ hb)
    have hWs : w5.heap.size ≤ W.heap.size := by rw [hW]; simp [World.setCell]
    have hWb : Below base w5 W := by rw [hW]; exact ((Below.refl _ _).setCell (p := ⟨w.heap.size + 1 + 1 + 1, 0, none⟩) (by show base ≤ w.heap.size + 1 + 1 + 1; omega) _)
    rw [← hW]
    have hRW : W.heap[w.heap.size + 2]? = some (.cells #[.int .u8 0, .int .i64 0, .slice none 0 0, .int .u32 0, .int .u8 0, .int .i64 0, .int .i64 0, .int .u32 0, .int .i64 0, .slice none 0 0, .int .u32 0, .int .i64 0, .int .i64 0, .int .i64 0, .int .u32 0, .int .u32 0, .int .i64 0] 47 (0, 0)) := (hWo _ (by omega)).trans ((HB5.out.block (w.heap.size + 2) (by omega)).trans HR.out)
    have rz : rng W (w.heap.size + 1 + 1 + 1) 0 17 = some #[.int .u8 18, .int .i64 0, .slice none 0 0, .int .u32 0, .int .u8 0, .int .i64 0, .int .i64 0, .int .u32 0, .int .i64 0, .slice none 0 0, .int .u32 0, .int .i64 0, .int .i64 0, .int .i64 0, .int .u32 0, .int .u32 0, .int .i64 0] := rng_whole hAW
    have hwh : whole W (w.heap.size + 1 + 1) 17 = true := whole_of_heap hRW
    have HWO := hide hWo
    have HWB := hide hWb
    have HRW := hide hRW
    clear hW hWo hWb hRW hAW
    go_wp2
    have hfin := heap_setRow_at (ds := #[.int .u8 18, .int .i64 0, .slice none 0 0, .int .u32 0, .int .u8 0, .int .i64 0, .int .i64 0, .int .u32 0, .int .i64 0, .slice none 0 0, .int .u32 0, .int .i64 0, .int .i64 0, .int .i64 0, .int .u32 0, .int .u32 0, .int .i64 0]) HRW.out
    refine bodyPost_ret (results_cell1 Tryd.results10 _ _ (w.heap.size + 2) _ _ _ _ rfl hfin Tryd.underlying47 rfl (by kernel_rfl)) rfl ?_
    have hoth : ∀ b, b ≠ w.heap.size + 2 → b ≠ w.heap.size + 3 → (W.setRow (w.heap.size + 2) #[.int .u8 18, .int .i64 0, .slice none 0 0, .int .u32 0, .int .u8 0, .int .i64 0, .int .i64 0, .int .u32 0, .int .i64 0, .slice none 0 0, .int .u32 0, .int .i64 0, .int .i64 0, .int .i64 0, .int .u32 0, .int .u32 0, .int .i64 0]).heap[b]? = w5.heap[b]? := fun b h1 h2 => (setRow_other _ _ _ _ h1).trans (HWO.out b h2)
    have hcm := MCmd.around HM.out HB4.out hs4 (MCmd.after HM4.out HB5.out (MCmd.refl (HM4.out.ext HB5.out))) hoth (by simp; omega) (HWB.out.trans (below_setRow' _ _ (by omega)))
    exact ret_ms HE ⟨_, _, { code := 18 }, rfl, hcm, ⟨u32s_none _, visits_any (visits_nil _ (fun _ => True)), by simp⟩⟩

  obtain ⟨k, hk⟩ : ∃ k : Nat, (oid - 1).toNat = k := ⟨_, rfl⟩
  have hkn : k < nv := by omega
  have hkm : k < mv.length := by rw [← HNV.out]; exact hkn
  have hkT : k < T.vers.length := by rw [HMT.out]; exact hkn
  have hTk : T.vers[k] = (mv[k].eff, mv[k].vs) := by simp [H2.out]
  have hnum := H3.out k hkm
  have hrg := HSC.out k hkm
  have hsb := (HSA.out (by omega)).2.2
  have HVI := hide (H4.out mv[k] (List.getElem_mem hkm))
  have HE0 : Hid (verR T oid = (0, mv[k].num, mv[k].eff, mv[k].vs)) := by
    have e : verOf T.vers oid = some T.vers[k] := by
      unfold verOf
      rw [if_pos (by omega), hk]
      exact List.getElem?_eq_getElem hkT
    show _ = _
    simp only [verR, e, hTk, hnum]
    congr 1
    congr 1
    omega
  generalize mv[k] = x at *
  obtain ⟨xn, xe, ⟨xa, xl, xc⟩, xv⟩ := x
  have HE : Hid (AA = ({ v0 := xn, v1 := xe, vis := xv } : PA) ∧ TT = T ∧ FF = full) := ⟨by rw [HAA.out.1, HE0.out], HAA.out.2⟩
  have HV : Hid (VisitsAt w4 (fun b => b < base ∨ C b) (.slice xa xl xc) xv) := HVI
  have e0 : w4.cell? ⟨sb, so + k * 3, none⟩ = some (.int .u32 xn) := (rng_cell hrg).2 0 (by decide)
  have e1 : w4.cell? ⟨sb, so + k * 3 + 1, none⟩ = some (.int .i64 xe) := (rng_cell hrg).2 1 (by decide)
  have e2 : w4.cell? ⟨sb, so + k * 3 + 2, none⟩ = some (.slice xa xl xc) := (rng_cell hrg).2 2 (by decide)
  have hix : ∀ W, (Instr.indexAt 68 (.slice sa nv sc) (.int .u32 (oid - 1))).run Tryd.prog W = .ok (.pointer (some ⟨sb, so + k * 3, none⟩)) W := fun W => by
    have h9 := run_indexAt_u32' (P := Tryd.prog) (n := nv) (cap := sc) Tryd.underlying68 Tryd.sz41 (fun h => (HSA.out h).1) W (oid - 1) (by omega) (by omega)
    rw [h9, hk]
  have t0 : (oid == 0) = false := by simp [h0]
  have hoi : ¬ (nv : Int) < oid := h1
  have ho1 : 1 ≤ oid := by omega
  clear h0 hTk hnum hrg hk HVI hkT
  refine wp_region_mixT (w4.heap.size) [1, 5, 7, 10] (by kernel_rfl) ?_
  refine mixT_slots [0] (fuel := 13) rfl (by kernel_rfl) (by kernel_rfl) (fun d _ _ _ _ h => by cases d <;> exact h) ?_
  simp only [opersAt, List.getElem?_toArray, List.getElem?_cons_zero]
  repeat (go_big_quiet_step (fail))
  refine wpQuiet_nil ?_
  refine mixT_reads [1] (fuel := 12) rfl (by kernel_rfl) (by decide) (by kernel_rfl) (fun d _ _ _ _ h => by cases d <;> exact h) (ext_drew _ _) ?_
  simp only [opersAt, List.getElem?_toArray, List.getElem?_cons_zero, List.getElem?_cons_succ]
  repeat (go_big_quiet_step (fail))
  refine wpQuiet_nil ?_
  refine mixT_slots [2, 3, 4] (fuel := 9) rfl (by kernel_rfl) (by kernel_rfl) (fun d _ _ _ _ h => by cases d <;> exact h) ?_
  simp only [opersAt, List.getElem?_toArray, List.getElem?_cons_zero, List.getElem?_cons_succ]
  repeat (go_big_quiet_step (fail))
  refine wpQuiet_nil ?_
  refine mixT_reads [5] (fuel := 8) rfl (by kernel_rfl) (by decide) (by kernel_rfl) (fun d _ _ _ _ h => by cases d <;> exact h) (ext_drew _ _) ?_
  simp only [opersAt, List.getElem?_toArray, List.getElem?_cons_zero, List.getElem?_cons_succ]
  repeat (go_big_quiet_step (fail))
  refine wpQuiet_nil ?_
  refine mixT_slots [6] (fuel := 7) rfl (by kernel_rfl) (by kernel_rfl) (fun d _ _ _ _ h => by cases d <;> exact h) ?_
  simp only [opersAt, List.getElem?_toArray, List.getElem?_cons_zero, List.getElem?_cons_succ]
  repeat (go_big_quiet_step (fail))
  refine wpQuiet_nil ?_
  refine mixT_reads [7] (fuel := 6) rfl (by kernel_rfl) (by decide) (by kernel_rfl) (fun d _ _ _ _ h => by cases d <;> exact h) (ext_drew _ _) ?_
  simp only [opersAt, List.getElem?_toArray, List.getElem?_cons_zero, List.getElem?_cons_succ]
  repeat (go_big_quiet_step (fail))
  refine wpQuiet_nil ?_
  refine mixT_slots [8, 9] (fuel := 4) rfl (by kernel_rfl) (by kernel_rfl) (fun d _ _ _ _ h => by cases d <;> exact h) ?_
  simp only [opersAt, List.getElem?_toArray, List.getElem?_cons_zero, List.getElem?_cons_succ]
  repeat (go_big_quiet_step (fail))
  refine wpQuiet_nil ?_
  refine mixT_reads [10] (fuel := 3) rfl (by kernel_rfl) (by decide) (by kernel_rfl) (fun d _ _ _ _ h => by cases d <;> exact h) (ext_drew _ _) ?_
  simp only [opersAt, List.getElem?_toArray, List.getElem?_cons_zero, List.getElem?_cons_succ]
  repeat (go_big_quiet_step (fail))
  refine wpQuiet_nil ?_
  refine mixT_slots [11, 12, 13] (fuel := 0) rfl (by kernel_rfl) (by kernel_rfl) (fun d _ _ _ _ h => by cases d <;> exact h) ?_
  simp only [opersAt, List.getElem?_toArray, List.getElem?_cons_zero, List.getElem?_cons_succ]
  repeat (go_big_quiet_step (fail))
  refine wpQuiet_nil ?_
  refine mixT_nil (by kernel_rfl) ?_
  obtain ⟨w5, hw5⟩ : ∃ w5, w5 = w4.drew := ⟨_, rfl⟩
  have hb5 : Below w4.heap.size w4 w5 := by rw [hw5]; exact (Below.refl _ _).drew
  rw [← hw5]
  clear hw5
  have HB5 := hide hb5
  have hz5 := hb5.size
  have hX5 : w5.heap[w.heap.size + 1]? = _ := (hb5.block (w.heap.size + 1) (by omega)).trans HX.out
  have y1 : w5.cell? ⟨w.heap.size + 1, 1, none⟩ = some (.int .u32 oid) := by rw [World.cell?, hX5]; rfl
  have hP5 : w5.heap[w.heap.size]? = _ := (hb5.block (w.heap.size) (by omega)).trans HP.out
  have q0 : w5.cell? ⟨w.heap.size, 0, none⟩ = some (.pointer (some ⟨M, 0, none⟩)) := by rw [World.cell?, hP5]; rfl
  have q2 : w5.cell? ⟨M, 2, none⟩ = some (.slice sa nv sc) := (hb5.cell (p := ⟨M, 2, none⟩) hM4').trans d2
  have g0 : w5.cell? ⟨sb, so + k * 3, none⟩ = some (.int .u32 xn) := (hb5.cell (p := ⟨sb, so + k * 3, none⟩) hsb).trans e0
  have g1 : w5.cell? ⟨sb, so + k * 3 + 1, none⟩ = some (.int .i64 xe) := (hb5.cell (p := ⟨sb, so + k * 3 + 1, none⟩) hsb).trans e1
  have g2 : w5.cell? ⟨sb, so + k * 3 + 2, none⟩ = some (.slice xa xl xc) := (hb5.cell (p := ⟨sb, so + k * 3 + 2, none⟩) hsb).trans e2
  have hsb5 : sb < w5.heap.size := by omega
  have hM5 : M < w5.heap.size := by omega
  have hl0 : w.heap.size < w5.heap.size := by omega
  have hl1 : w.heap.size + 1 < w5.heap.size := by omega
  have hA5 : w5.heap[w.heap.size + 3]? = _ := (hb5.block (w.heap.size + 3) (by omega)).trans HA.out
  have hst : (stS 41 (.pointer (some ⟨w.heap.size + 1 + 1 + 1, 7, none⟩)) (.agg #[.int .u32 xn, .int .i64 xe, .slice xa xl xc])).run Tryd.prog w5.drew = .ok () (w5.drew.setRow (w.heap.size + 3) #[.int .u8 0, .int .i64 0, .slice none 0 0, .int .u32 0, .int .u8 0, .int .i64 0, .int .i64 0, .int .u32 xn, .int .i64 xe, .slice xa xl xc, .int .u32 0, .int .i64 0, .int .i64 0, .int .i64 0, .int .u32 0, .int .u32 0, .int .i64 0]) := by
    rw [stVersion_eq _ _ _ _ rfl]
    have := cells_at (w := w5.drew) (off := 7) #[.int .u32 xn, .int .i64 xe, .slice xa xl xc] hA5 (by simp) (by simp [Value.oneCell'])
    exact this
  clear hb5 e0 e1 e2 d2 hX5 hP5
  go_upto_region 23 with fail
  refine wp_region_mixT (w5.heap.size) [0, 3, 5, 8] (by kernel_rfl) ?_
  refine mixT_reads [0] (fuel := 10) rfl (by kernel_rfl) (by decide) (by kernel_rfl) (fun d _ _ _ _ h => by cases d <;> exact h) (ext_drew _ _) ?_
  simp only [opersAt, List.getElem?_toArray, List.getElem?_cons_zero]
  repeat (go_big_quiet_step (fail))
  refine wpQuiet_nil ?_
  refine mixT_slots [1, 2] (fuel := 8) rfl (by kernel_rfl) (by kernel_rfl) (fun d _ _ _ _ h => by cases d <;> exact h) ?_
  simp only [opersAt, List.getElem?_toArray, List.getElem?_cons_zero, List.getElem?_cons_succ]
  repeat (go_big_quiet_step (fail))
  refine wpQuiet_nil ?_
  refine mixT_reads [3] (fuel := 7) rfl (by kernel_rfl) (by decide) (by kernel_rfl) (fun d _ _ _ _ h => by cases d <;> exact h) (ext_drew _ _) ?_
  simp only [opersAt, List.getElem?_toArray, List.getElem?_cons_zero, List.getElem?_cons_succ]
  repeat (go_big_quiet_step (fail))
  refine wpQuiet_nil ?_
  refine mixT_slots [4] (fuel := 6) rfl (by kernel_rfl) (by kernel_rfl) (fun d _ _ _ _ h => by cases d <;> exact h) ?_
  simp only [opersAt, List.getElem?_toArray, List.getElem?_cons_zero, List.getElem?_cons_succ]
  repeat (go_big_quiet_step (fail))
  refine wpQuiet_nil ?_
  refine mixT_reads [5] (fuel := 5) rfl (by kernel_rfl) (by decide) (by kernel_rfl) (fun d _ _ _ _ h => by cases d <;> exact h) (ext_drew _ _) ?_
  simp only [opersAt, List.getElem?_toArray, List.getElem?_cons_zero, List.getElem?_cons_succ]
  repeat (go_big_quiet_step (fail))
  refine wpQuiet_nil ?_
  refine mixT_slots [6, 7] (fuel := 3) rfl (by kernel_rfl) (by kernel_rfl) (fun d _ _ _ _ h => by cases d <;> exact h) ?_
  simp only [opersAt, List.getElem?_toArray, List.getElem?_cons_zero, List.getElem?_cons_succ]
  repeat (go_big_quiet_step (fail))
  refine wpQuiet_nil ?_
  refine mixT_reads [8] (fuel := 2) rfl (by kernel_rfl) (by decide) (by kernel_rfl) (fun d _ _ _ _ h => by cases d <;> exact h) (ext_drew _ _) ?_
  simp only [opersAt, List.getElem?_toArray, List.getElem?_cons_zero, List.getElem?_cons_succ]
  repeat (go_big_quiet_step (fail))
  refine wpQuiet_nil ?_
  refine mixT_slots [9] (fuel := 1) rfl (by kernel_rfl) (by kernel_rfl) (fun d _ _ _ _ h => by cases d <;> exact h) ?_
  simp only [opersAt, List.getElem?_toArray, List.getElem?_cons_zero, List.getElem?_cons_succ]
  repeat (go_big_quiet_step (fail))
  refine wpQuiet_nil ?_
  refine mixT_one (k := 10) (by kernel_rfl) rfl ?_
  go_wp2
  refine ⟨Or.inl (by kernel_rfl), ?_⟩
  refine mixT_nil (by kernel_rfl) ?_
  obtain ⟨w6, hw6⟩ : ∃ w6, w6 = (w5.setRow (w.heap.size + 3) #[.int .u8 0, .int .i64 0, .slice none 0 0, .int .u32 0, .int .u8 0, .int .i64 0, .int .i64 0, .int .u32 xn, .int .i64 xe, .slice xa xl xc, .int .u32 0, .int .i64 0, .int .i64 0, .int .i64 0, .int .u32 0, .int .u32 0, .int .i64 0]).drew := ⟨_, rfl⟩
  have hA6 : w6.heap[w.heap.size + 3]? = some (.cells #[.int .u8 0, .int .i64 0, .slice none 0 0, .int .u32 0, .int .u8 0, .int .i64 0, .int .i64 0, .int .u32 xn, .int .i64 xe, .slice xa xl xc, .int .u32 0, .int .i64 0, .int .i64 0, .int .i64 0, .int .u32 0, .int .u32 0, .int .i64 0] 47 (0, 0)) := by rw [hw6]; exact heap_setRow_at (w := w5) hA5
  have H6O : Hid (∀ b, b ≠ w.heap.size + 3 → w6.heap[b]? = w5.heap[b]?) := fun b hb => by rw [hw6]; exact setRow_other w5 _ _ _ hb
  have hz6 : w5.heap.size = w6.heap.size := by rw [hw6]; show _ = (w5.setRow _ _).heap.size; simp
  have H6B : Hid (Below base w5 w6) := by rw [hw6]; exact (below_setRow' _ _ (by omega)).drew
  rw [← hw6]
  clear hw6 hst
  go_upto_region 75 with fail
  obtain ⟨W, hW⟩ : ∃ W, W = w6 := ⟨_, rfl⟩
  have hAW : W.heap[w.heap.size + 3]? = some (.cells #[.int .u8 0, .int .i64 0, .slice none 0 0, .int .u32 0, .int .u8 0, .int .i64 0, .int .i64 0, .int .u32 xn, .int .i64 xe, .slice xa xl xc, .int .u32 0, .int .i64 0, .int .i64 0, .int .i64 0, .int .u32 0, .int .u32 0, .int .i64 0] 47 (0, 0)) := by rw [hW]; exact hA6
  have hWo : ∀ b, b ≠ w.heap.size + 3 → W.heap[b]? = w6.heap[b]? := fun b _ => congrArg (fun X : World => X.heap[b]?) hW
  have hWs : w6.heap.size ≤ W.heap.size := Nat.le_of_eq (congrArg (fun X : World => X.heap.size) hW.symm)
  have hWb : Below base w6 W := by subst hW; exact Below.refl _ _
  rw [← hW]
  have hRW : W.heap[w.heap.size + 2]? = some (.cells #[.int .u8 0, .int .i64 0, .slice none 0 0, .int .u32 0, .int .u8 0, .int .i64 0, .int .i64 0, .int .u32 0, .int .i64 0, .slice none 0 0, .int .u32 0, .int .i64 0, .int .i64 0, .int .i64 0, .int .u32 0, .int .u32 0, .int .i64 0] 47 (0, 0)) := (hWo _ (by omega)).trans ((H6O.out _ (by omega)).trans ((HB5.out.block (w.heap.size + 2) (by omega)).trans HR.out))
  have rz : rng W (w.heap.size + 1 + 1 + 1) 0 17 = some #[.int .u8 0, .int .i64 0, .slice none 0 0, .int .u32 0, .int .u8 0, .int .i64 0, .int .i64 0, .int .u32 xn, .int .i64 xe, .slice xa xl xc, .int .u32 0, .int .i64 0, .int .i64 0, .int .i64 0, .int .u32 0, .int .u32 0, .int .i64 0] := rng_whole hAW
  have hwh : whole W (w.heap.size + 1 + 1) 17 = true := whole_of_heap hRW
  have HWO := hide hWo
  have HWB := hide hWb
  have HRW := hide hRW
  clear hW hWo hWb hRW hAW
  go_wp2
  have hfin := heap_setRow_at (ds := #[.int .u8 0, .int .i64 0, .slice none 0 0, .int .u32 0, .int .u8 0, .int .i64 0, .int .i64 0, .int .u32 xn, .int .i64 xe, .slice xa xl xc, .int .u32 0, .int .i64 0, .int .i64 0, .int .i64 0, .int .u32 0, .int .u32 0, .int .i64 0]) HRW.out
  refine bodyPost_ret (results_cell1 Tryd.results10 _ _ (w.heap.size + 2) _ _ _ _ rfl hfin Tryd.underlying47 rfl (by kernel_rfl)) rfl ?_
  have hoth : ∀ b, b ≠ w.heap.size + 2 → b ≠ w.heap.size + 3 → (W.setRow (w.heap.size + 2) #[.int .u8 0, .int .i64 0, .slice none 0 0, .int .u32 0, .int .u8 0, .int .i64 0, .int .i64 0, .int .u32 xn, .int .i64 xe, .slice xa xl xc, .int .u32 0, .int .i64 0, .int .i64 0, .int .i64 0, .int .u32 0, .int .u32 0, .int .i64 0]).heap[b]? = w5.heap[b]? := fun b h1 h2 => (setRow_other _ _ _ _ h1).trans ((HWO.out b h2).trans (H6O.out b h2))
  have hcm := MCmd.around HM.out HB4.out hs4 (MCmd.after HM4.out HB5.out (MCmd.refl (HM4.out.ext HB5.out))) hoth (by simp; omega) (H6B.out.trans (HWB.out.trans (below_setRow' _ _ (by omega))))
  exact ret_ms HE ⟨_, _, { v0 := xn, v1 := xe, vis := (xa, xl, xc) }, rfl, hcm, ⟨u32s_none _, visits_any (HV.out.mono (fun b hb => (hoth b (by have : b < w.heap.size := hb.elim (fun h => by omega) (fun h => HM.out.hlt b (Or.inr (Or.inr h))); omega) (by have : b < w.heap.size := hb.elim (fun h => by omega) (fun h => HM.out.hlt b (Or.inr (Or.inr h))); omega)).trans (HB5.out.block b (by have : b < w.heap.size := hb.elim (fun h => by omega) (fun h => HM.out.hlt b (Or.inr (Or.inr h))); omega))) (fun _ h => h)), by simp⟩⟩

set_option maxRecDepth 100000 in
set_option maxHeartbeats 8000000 in
theorem mstep_12 (w : World) (M base N a p s u : Nat) (v : Value) (C : Nat → Prop) (T : Tab) (full : Bool) (o : Op) (la va : Option Addr) (ln lc vn vc : Nat) (h : MAt w M base N a p s u v C T full) (hid : U32 o.id) (hre : U32 o.ref) (hk : o.kind = 12) :
    Calls Tryd.prog 10 #[.pointer (some ⟨M, 0, none⟩), .agg (opCs o (.slice la ln lc) (.slice va vn vc))] w fun e w' => MSPost w w' e M base (N + 1) a p s u v C { code := (limR T o.id (if 255 < o.ref then 0 else o.ref)).1, num := (limR T o.id (if 255 < o.ref then 0 else o.ref)).2 } T full := by
  obtain ⟨w4, HW4, hb4, hs4, hP, hX, hR, hA⟩ := mstep_start w o la va ln lc vn vc M
  obtain ⟨okind, oid, oref, omin, odel, ol0, ol1, ol2, olist, ovis⟩ := o
  simp only at hk
  simp only [opCs, ansCs, sv] at hX HW4 hR hA ⊢
  obtain ⟨AA, hAA⟩ : ∃ AA : PA, AA = { code := (limR T oid (if 255 < oref then 0 else oref)).1, num := (limR T oid (if 255 < oref then 0 else oref)).2 } := ⟨_, rfl⟩
  obtain ⟨FF, hFF⟩ : ∃ FF : Bool, FF = full := ⟨_, rfl⟩
  obtain ⟨TT, hTT⟩ : ∃ TT : Tab, TT = T := ⟨_, rfl⟩
  rw [← hAA, ← hTT, ← hFF]
  have HAA := hide (And.intro hAA (And.intro hTT hFF))
  clear hAA hFF hTT
  have p0 : w4.cell? ⟨w.heap.size, 0, none⟩ = some (.pointer (some ⟨M, 0, none⟩)) := by rw [World.cell?, hP]; rfl
  have x0 : w4.cell? ⟨w.heap.size + 1, 0, none⟩ = some (.int .u8 okind) := by rw [World.cell?, hX]; rfl
  have x1 : w4.cell? ⟨w.heap.size + 1, 1, none⟩ = some (.int .u32 oid) := by rw [World.cell?, hX]; rfl
  have x2 : w4.cell? ⟨w.heap.size + 1, 2, none⟩ = some (.int .u32 oref) := by rw [World.cell?, hX]; rfl
  have x3 : w4.cell? ⟨w.heap.size + 1, 3, none⟩ = some (.int .i64 omin) := by rw [World.cell?, hX]; rfl
  have x4 : w4.cell? ⟨w.heap.size + 1, 4, none⟩ = some (.int .i64 odel) := by rw [World.cell?, hX]; rfl
  have x5 : w4.cell? ⟨w.heap.size + 1, 5, none⟩ = some (.int .i64 ol0) := by rw [World.cell?, hX]; rfl
  have x6 : w4.cell? ⟨w.heap.size + 1, 6, none⟩ = some (.int .i64 ol1) := by rw [World.cell?, hX]; rfl
  have x7 : w4.cell? ⟨w.heap.size + 1, 7, none⟩ = some (.int .i64 ol2) := by rw [World.cell?, hX]; rfl
  have x8 : w4.cell? ⟨w.heap.size + 1, 8, none⟩ = some (.slice la ln lc) := by rw [World.cell?, hX]; rfl
  have x9 : w4.cell? ⟨w.heap.size + 1, 9, none⟩ = some (.slice va vn vc) := by rw [World.cell?, hX]; rfl
  have HM := hide h
  have HM4 := hide (h.ext hb4)
  have hMl := h.hlt M (Or.inl (by simp))
  have hM4 : M < w.heap.size + 4 := by omega
  have hM4' : M < w4.heap.size := by omega
  have HB4 := hide hb4
  have HR := hide hR
  have HA := hide hA
  have HX := hide hX
  have HP := hide hP
  have hbs := h.bs
  subst hk
  clear h hb4 hR hA hX hP
  go_enter Tryd.func10, Tryd.ntmps10
  go_upto_region 2 with fail
  rw [← HW4.out]
  clear HW4
  simp only at hid hre
  obtain ⟨hre1, hre2⟩ := hre
  obtain ⟨d0, d1, d2, d3, d4, d5, -, -⟩ := cell_six HM4.out.top
  have hlk : ∀ x : Ext w4.heap.size w4, (Instr.lookup 64 (.map (some a)) (.int .u32 oid) true).run Tryd.prog x.world = .ok (.tuple #[((T.an oid).map (anV oid)).getD anZ, .bool ((T.an oid).map (anV oid)).isSome]) x.world := fun x => (HM4.out.ext x.below).an.look_ok Tryd.mapAn (Tryd.zeroAn x.world) hid
  go_upto_region 40 with fail
  cases hT : T.an oid with
  | some l =>
    rw [hT] at hlk
    simp only [Option.map_some, Option.getD_some, Option.isSome_some, anV] at hlk
    refine wp_region_mixT (w4.heap.size) [0, 3, 5, 6] (by kernel_rfl) ?_
    refine mixT_reads [0] (fuel := 12) rfl (by kernel_rfl) (by decide) (by kernel_rfl) (fun d _ _ _ _ h => by cases d <;> exact h) (ext_drew _ _) ?_
    simp only [opersAt, List.getElem?_toArray, List.getElem?_cons_zero]
    repeat (go_big_quiet_step (fail))
    refine wpQuiet_nil ?_
    refine mixT_slots [1, 2] (fuel := 10) rfl (by kernel_rfl) (by kernel_rfl) (fun d _ _ _ _ h => by cases d <;> exact h) ?_
    simp only [opersAt, List.getElem?_toArray, List.getElem?_cons_zero, List.getElem?_cons_succ]
    repeat (go_big_quiet_step (fail))
    refine wpQuiet_nil ?_
    refine mixT_reads [3] (fuel := 9) rfl (by kernel_rfl) (by decide) (by kernel_rfl) (fun d _ _ _ _ h => by cases d <;> exact h) (ext_drew _ _) ?_
    simp only [opersAt, List.getElem?_toArray, List.getElem?_cons_zero, List.getElem?_cons_succ]
    repeat (go_big_quiet_step (fail))
    refine wpQuiet_nil ?_
    refine mixT_slots [4] (fuel := 8) rfl (by kernel_rfl) (by kernel_rfl) (fun d _ _ _ _ h => by cases d <;> exact h) ?_
    simp only [opersAt, List.getElem?_toArray, List.getElem?_cons_zero, List.getElem?_cons_succ]
    repeat (go_big_quiet_step (fail))
    refine wpQuiet_nil ?_
    refine mixT_reads [5, 6] (fuel := 6) rfl (by kernel_rfl) (by decide) (by kernel_rfl) (fun d _ _ _ _ h => by cases d <;> exact h) (ext_drew _ _) ?_
    simp only [opersAt, List.getElem?_toArray, List.getElem?_cons_zero, List.getElem?_cons_succ]
    repeat (go_big_quiet_step (fail))
    refine wpQuiet_nil ?_
    refine mixT_slots [7, 8, 9] (fuel := 3) rfl (by kernel_rfl) (by kernel_rfl) (fun d _ _ _ _ h => by cases d <;> exact h) ?_
    simp only [opersAt, List.getElem?_toArray, List.getElem?_cons_zero, List.getElem?_cons_succ]
    repeat (go_big_quiet_step (fail))
    refine wpQuiet_nil ?_
    refine mixT_one (k := 10) (by kernel_rfl) rfl ?_
    go_wp2
    refine ⟨Or.inr (by intros; exact ⟨⟨_, ((Below.refl _ _).alloc (Nat.le_refl _) _).drew⟩, rfl⟩), ?_⟩
    refine mixT_one (k := 11) (by kernel_rfl) rfl ?_
    go_wp2
    refine ⟨Or.inl (by kernel_rfl), ?_⟩
    refine mixT_one (k := 12) (by kernel_rfl) rfl ?_
    go_wp2
    refine ⟨Or.inr (fun h => h), ?_⟩
    refine mixT_nil (by kernel_rfl) ?_

    obtain ⟨w5, hw5⟩ : ∃ w5, w5 = (w4.alloc (.cells #[.int .u32 oid, .int .i64 l.1, .int .i64 l.2.1, .int .i64 l.2.2] 43)).drew := ⟨_, rfl⟩
    have hb5 : Below w4.heap.size w4 w5 := by rw [hw5]; exact ((Below.refl _ _).alloc (Nat.le_refl _) _).drew
    have hz5 : w4.heap.size < w5.heap.size := by rw [hw5]; show _ < (w4.alloc _).heap.size; simp
    have hC5 : w5.heap[w.heap.size + 4]? = some (.cells #[.int .u32 oid, .int .i64 l.1, .int .i64 l.2.1, .int .i64 l.2.2] 43 (0, 0)) := by rw [hw5, ← hs4]; exact heap_alloc_at _ _
    rw [← hw5]
    clear hw5
    have HB5 := hide hb5
    have hX5 : w5.heap[w.heap.size + 1]? = _ := (hb5.block (w.heap.size + 1) (by omega)).trans HX.out
    have y2 : w5.cell? ⟨w.heap.size + 1, 2, none⟩ = some (.int .u32 oref) := by rw [World.cell?, hX5]; rfl
    have hA5 : w5.heap[w.heap.size + 3]? = _ := (hb5.block (w.heap.size + 3) (by omega)).trans HA.out
    have a0 : w5.cell? ⟨w.heap.size + 1 + 1 + 1, 0, none⟩ = some (.int .u8 0) := by rw [World.cell?, show w.heap.size + 1 + 1 + 1 = w.heap.size + 3 from rfl, hA5]; rfl
    have f0 : w5.frozen? ⟨w.heap.size + 1 + 1 + 1, 0, none⟩ = false := by rw [World.frozen?, show w.heap.size + 1 + 1 + 1 = w.heap.size + 3 from rfl, hA5]; rfl
    have a1 : w5.cell? ⟨w.heap.size + 1 + 1 + 1, 1, none⟩ = some (.int .i64 0) := by rw [World.cell?, show w.heap.size + 1 + 1 + 1 = w.heap.size + 3 from rfl, hA5]; rfl
    have f1 : w5.frozen? ⟨w.heap.size + 1 + 1 + 1, 1, none⟩ = false := by rw [World.frozen?, show w.heap.size + 1 + 1 + 1 = w.heap.size + 3 from rfl, hA5]; rfl
    have e0 : w5.cell? ⟨w.heap.size + 4, 0, none⟩ = some (.int .u32 oid) := by rw [World.cell?, hC5]; rfl
    have e1 : w5.cell? ⟨w.heap.size + 4, 1, none⟩ = some (.int .i64 l.1) := by rw [World.cell?, hC5]; rfl
    have e2 : w5.cell? ⟨w.heap.size + 4, 2, none⟩ = some (.int .i64 l.2.1) := by rw [World.cell?, hC5]; rfl
    have e3 : w5.cell? ⟨w.heap.size + 4, 3, none⟩ = some (.int .i64 l.2.2) := by rw [World.cell?, hC5]; rfl
    have hl5 : w.heap.size + 4 < w5.heap.size := by omega
    clear hb5 hC5 hX5
    by_cases hb1 : oref < 1 ∨ 3 < oref
    · have HE : Hid (AA = ({ code := 6 } : PA) ∧ TT = T ∧ FF = full) := ⟨by
        rw [HAA.out.1, limR, if_pos (by split <;> omega)], HAA.out.2⟩
      by_cases hlo : oref < 1
      · go_upto_region 75 with fail
        obtain ⟨W, hW⟩ : ∃ W, W = (w5.setCell ⟨w.heap.size + 1 + 1 + 1, 0, none⟩ (.int .u8 6)) := ⟨_, rfl⟩
        have hS0 : (w5.setCell ⟨w.heap.size + 1 + 1 + 1, 0, none⟩ (.int .u8 6)).heap[w.heap.size + 3]? = some (.cells #[.int .u8 6, .int .i64 0, .slice none 0 0, .int .u32 0, .int .u8 0, .int .i64 0, .int .i64 0, .int .u32 0, .int .i64 0, .slice none 0 0, .int .u32 0, .int .i64 0, .int .i64 0, .int .i64 0, .int .u32 0, .int .u32 0, .int .i64 0] 47 (0, 0)) := heap_setCell_same _ (w.heap.size + 3) 0 _ _ (.int .u8 6) hA5
        have hAW : W.heap[w.heap.size + 3]? = some (.cells #[.int .u8 6, .int .i64 0, .slice none 0 0, .int .u32 0, .int .u8 0, .int .i64 0, .int .i64 0, .int .u32 0, .int .i64 0, .slice none 0 0, .int .u32 0, .int .i64 0, .int .i64 0, .int .i64 0, .int .u32 0, .int .u32 0, .int .i64 0] 47 (0, 0)) := by rw [hW]; exact hS0
        have hWo : ∀ b, b ≠ w.heap.size + 3 → W.heap[b]? = w5.heap[b]? := fun b hb => by rw [hW]; exact (Below.heap_setCell _ _ _ _ hb)
        have hWs : w5.heap.size ≤ W.heap.size := by rw [hW]; simp [World.setCell]
        have hWb : Below base w5 W := by rw [hW]; exact ((Below.refl _ _).setCell (p := ⟨w.heap.size + 1 + 1 + 1, 0, none⟩) (by show base ≤ w.heap.size + 1 + 1 + 1; omega) _)
        rw [← hW]
        have hRW : W.heap[w.heap.size + 2]? = some (.cells #[.int .u8 0, .int .i64 0, .slice none 0 0, .int .u32 0, .int .u8 0, .int .i64 0, .int .i64 0, .int .u32 0, .int .i64 0, .slice none 0 0, .int .u32 0, .int .i64 0, .int .i64 0, .int .i64 0, .int .u32 0, .int .u32 0, .int .i64 0] 47 (0, 0)) := (hWo _ (by omega)).trans ((HB5.out.block (w.heap.size + 2) (by omega)).trans HR.out)
        have rz : rng W (w.heap.size + 1 + 1 + 1) 0 17 = some #[.int .u8 6, .int .i64 0, .slice none 0 0, .int .u32 0, .int .u8 0, .int .i64 0, .int .i64 0, .int .u32 0, .int .i64 0, .slice none 0 0, .int .u32 0, .int .i64 0, .int .i64 0, .int .i64 0, .int .u32 0, .int .u32 0, .int .i64 0] := rng_whole hAW
        have hwh : whole W (w.heap.size + 1 + 1) 17 = true := whole_of_heap hRW
        have HWO := hide hWo
        have HWB := hide hWb
        have HRW := hide hRW
        clear hW hWo hWb hRW hAW
        go_wp2
        have hfin := heap_setRow_at (ds := #[.int .u8 6, .int .i64 0, .slice none 0 0, .int .u32 0, .int .u8 0, .int .i64 0, .int .i64 0, .int .u32 0, .int .i64 0, .slice none 0 0, .int .u32 0, .int .i64 0, .int .i64 0, .int .i64 0, .int .u32 0, .int .u32 0, .int .i64 0]) HRW.out
        refine bodyPost_ret (results_cell1 Tryd.results10 _ _ (w.heap.size + 2) _ _ _ _ rfl hfin Tryd.underlying47 rfl (by kernel_rfl)) rfl ?_
        have hoth : ∀ b, b ≠ w.heap.size + 2 → b ≠ w.heap.size + 3 → (W.setRow (w.heap.size + 2) #[.int .u8 6, .int .i64 0, .slice none 0 0, .int .u32 0, .int .u8 0, .int .i64 0, .int .i64 0, .int .u32 0, .int .i64 0, .slice none 0 0, .int .u32 0, .int .i64 0, .int .i64 0, .int .i64 0, .int .u32 0, .int .u32 0, .int .i64 0]).heap[b]? = w5.heap[b]? := fun b h1 h2 => (setRow_other _ _ _ _ h1).trans (HWO.out b h2)
        have hcm := MCmd.around HM.out HB4.out hs4 (MCmd.after HM4.out HB5.out (MCmd.refl (HM4.out.ext HB5.out))) hoth (by simp; omega) (HWB.out.trans (below_setRow' _ _ (by omega)))
        exact ret_ms HE ⟨_, _, { code := 6 }, rfl, hcm, ⟨u32s_none _, visits_any (visits_nil _ (fun _ => True)), by simp⟩⟩
      · have hhi : 3 < oref := by omega
        go_upto_region 75 with fail
        obtain ⟨W, hW⟩ : ∃ W, W = (w5.setCell ⟨w.heap.size + 1 + 1 + 1, 0, none⟩ (.int .u8 6)) := ⟨_, rfl⟩
        have hS0 : (w5.setCell ⟨w.heap.size + 1 + 1 + 1, 0, none⟩ (.int .u8 6)).heap[w.heap.size + 3]? = some (.cells #[.int .u8 6, .int .i64 0, .slice none 0 0, .int .u32 0, .int .u8 0, .int .i64 0, .int .i64 0, .int .u32 0, .int .i64 0, .slice none 0 0, .int .u32 0, .int .i64 0, .int .i64 0, .int .i64 0, .int .u32 0, .int .u32 0, .int .i64 0] 47 (0, 0)) := heap_setCell_same _ (w.heap.size + 3) 0 _ _ (.int .u8 6) hA5
        have hAW : W.heap[w.heap.size + 3]? = some (.cells #[.int .u8 6, .int .i64 0, .slice none 0 0, .int .u32 0, .int .u8 0, .int .i64 0, .int .i64 0, .int .u32 0, .int .i64 0, .slice none 0 0, .int .u32 0, .int .i64 0, .int .i64 0, .int .i64 0, .int .u32 0, .int .u32 0, .int .i64 0] 47 (0, 0)) := by rw [hW]; exact hS0
        have hWo : ∀ b, b ≠ w.heap.size + 3 → W.heap[b]? = w5.heap[b]? := fun b hb => by rw [hW]; exact (Below.heap_setCell _ _ _ _ hb)
        have hWs : w5.heap.size ≤ W.heap.size := by rw [hW]; simp [World.setCell]
        have hWb : Below base w5 W := by rw [hW]; exact ((Below.refl _ _).setCell (p := ⟨w.heap.size + 1 + 1 + 1, 0, none⟩) (by show base ≤ w.heap.size + 1 + 1 + 1; omega) _)
        rw [← hW]
        have hRW : W.heap[w.heap.size + 2]? = some (.cells #[.int .u8 0, .int .i64 0, .slice none 0 0, .int .u32 0, .int .u8 0, .int .i64 0, .int .i64 0, .int .u32 0, .int .i64 0, .slice none 0 0, .int .u32 0, .int .i64 0, .int .i64 0, .int .i64 0, .int .u32 0, .int .u32 0, .int .i64 0] 47 (0, 0)) := (hWo _ (by omega)).trans ((HB5.out.block (w.heap.size + 2) (by omega)).trans HR.out)
        have rz : rng W (w.heap.size + 1 + 1 + 1) 0 17 = some #[.int .u8 6, .int .i64 0, .slice none 0 0, .int .u32 0, .int .u8 0, .int .i64 0, .int .i64 0, .int .u32 0, .int .i64 0, .slice none 0 0, .int .u32 0, .int .i64 0, .int .i64 0, .int .i64 0, .int .u32 0, .int .u32 0, .int .i64 0] := rng_whole hAW
        have hwh : whole W (w.heap.size + 1 + 1) 17 = true := whole_of_heap hRW
        have HWO := hide hWo
        have HWB := hide hWb
        have HRW := hide hRW
        clear hW hWo hWb hRW hAW
        go_wp2
        have hfin := heap_setRow_at (ds := #[.int .u8 6, .int .i64 0, .slice none 0 0, .int .u32 0, .int .u8 0, .int .i64 0, .int .i64 0, .int .u32 0, .int .i64 0, .slice none 0 0, .int .u32 0, .int .i64 0, .int .i64 0, .int .i64 0, .int .u32 0, .int .u32 0, .int .i64 0]) HRW.out
        refine bodyPost_ret (results_cell1 Tryd.results10 _ _ (w.heap.size + 2) _ _ _ _ rfl hfin Tryd.underlying47 rfl (by kernel_rfl)) rfl ?_
        have hoth : ∀ b, b ≠ w.heap.size + 2 → b ≠ w.heap.size + 3 → (W.setRow (w.heap.size + 2) #[.int .u8 6, .int .i64 0, .slice none 0 0, .int .u32 0, .int .u8 0, .int .i64 0, .int .i64 0, .int .u32 0, .int .i64 0, .slice none 0 0, .int .u32 0, .int .i64 0, .int .i64 0, .int .i64 0, .int .u32 0, .int .u32 0, .int .i64 0]).heap[b]? = w5.heap[b]? := fun b h1 h2 => (setRow_other _ _ _ _ h1).trans (HWO.out b h2)
        have hcm := MCmd.around HM.out HB4.out hs4 (MCmd.after HM4.out HB5.out (MCmd.refl (HM4.out.ext HB5.out))) hoth (by simp; omega) (HWB.out.trans (below_setRow' _ _ (by omega)))
        exact ret_ms HE ⟨_, _, { code := 6 }, rfl, hcm, ⟨u32s_none _, visits_any (visits_nil _ (fun _ => True)), by simp⟩⟩

    have h3 : oref = 1 ∨ oref = 2 ∨ oref = 3 := by omega
    have HL : Hid (AA = ({ num := if oref = 1 then l.1 else if oref = 2 then l.2.1 else l.2.2 } : PA) ∧ TT = T ∧ FF = full) := ⟨by
      rw [HAA.out.1, if_neg (by omega), limR, if_neg (by omega), hT], HAA.out.2⟩
    clear hb1
    rcases h3 with rfl | rfl | rfl
    · have HE : Hid (AA = ({ num := l.1 } : PA) ∧ TT = T ∧ FF = full) := HL
      go_upto_region 75 with fail
      obtain ⟨W, hW⟩ : ∃ W, W = (w5.setCell ⟨w.heap.size + 1 + 1 + 1, 1, none⟩ (.int .i64 l.1)) := ⟨_, rfl⟩
      have hS0 : (w5.setCell ⟨w.heap.size + 1 + 1 + 1, 1, none⟩ (.int .i64 l.1)).heap[w.heap.size + 3]? = some (.cells #[.int .u8 0, .int .i64 l.1, .slice none 0 0, .int .u32 0, .int .u8 0, .int .i64 0, .int .i64 0, .int .u32 0, .int .i64 0, .slice none 0 0, .int .u32 0, .int .i64 0, .int .i64 0, .int .i64 0, .int .u32 0, .int .u32 0, .int .i64 0] 47 (0, 0)) := heap_setCell_same _ (w.heap.size + 3) 1 _ _ (.int .i64 l.1) hA5
      have hAW : W.heap[w.heap.size + 3]? = some (.cells #[.int .u8 0, .int .i64 l.1, .slice none 0 0, .int .u32 0, .int .u8 0, .int .i64 0, .int .i64 0, .int .u32 0, .int .i64 0, .slice none 0 0, .int .u32 0, .int .i64 0, .int .i64 0, .int .i64 0, .int .u32 0, .int .u32 0, .int .i64 0] 47 (0, 0)) := by rw [hW]; exact hS0
      have hWo : ∀ b, b ≠ w.heap.size + 3 → W.heap[b]? = w5.heap[b]? := fun b hb => by rw [hW]; exact (Below.heap_setCell _ _ _ _ hb)
      have hWs : w5.heap.size ≤ W.heap.size := by rw [hW]; simp [World.setCell]
      have hWb : Below base w5 W := by rw [hW]; exact ((Below.refl _ _).setCell (p := ⟨w.heap.size + 1 + 1 + 1, 1, none⟩) (by show base ≤ w.heap.size + 1 + 1 + 1; omega) _)
      rw [← hW]
      have hRW : W.heap[w.heap.size + 2]? = some (.cells #[.int .u8 0, .int .i64 0, .slice none 0 0, .int .u32 0, .int .u8 0, .int .i64 0, .int .i64 0, .int .u32 0, .int .i64 0, .slice none 0 0, .int .u32 0, .int .i64 0, .int .i64 0, .int .i64 0, .int .u32 0, .int .u32 0, .int .i64 0] 47 (0, 0)) := (hWo _ (by omega)).trans ((HB5.out.block (w.heap.size + 2) (by omega)).trans HR.out)
      have rz : rng W (w.heap.size + 1 + 1 + 1) 0 17 = some #[.int .u8 0, .int .i64 l.1, .slice none 0 0, .int .u32 0, .int .u8 0, .int .i64 0, .int .i64 0, .int .u32 0, .int .i64 0, .slice none 0 0, .int .u32 0, .int .i64 0, .int .i64 0, .int .i64 0, .int .u32 0, .int .u32 0, .int .i64 0] := rng_whole hAW
      have hwh : whole W (w.heap.size + 1 + 1) 17 = true := whole_of_heap hRW
      have HWO := hide hWo
      have HWB := hide hWb
      have HRW := hide hRW
      clear hW hWo hWb hRW hAW
      go_wp2
      have hfin := heap_setRow_at (ds := #[.int .u8 0, .int .i64 l.1, .slice none 0 0, .int .u32 0, .int .u8 0, .int .i64 0, .int .i64 0, .int .u32 0, .int .i64 0, .slice none 0 0, .int .u32 0, .int .i64 0, .int .i64 0, .int .i64 0, .int .u32 0, .int .u32 0, .int .i64 0]) HRW.out
      refine bodyPost_ret (results_cell1 Tryd.results10 _ _ (w.heap.size + 2) _ _ _ _ rfl hfin Tryd.underlying47 rfl (by kernel_rfl)) rfl ?_
      have hoth : ∀ b, b ≠ w.heap.size + 2 → b ≠ w.heap.size + 3 → (W.setRow (w.heap.size + 2) #[.int .u8 0, .int .i64 l.1, .slice none 0 0, .int .u32 0, .int .u8 0, .int .i64 0, .int .i64 0, .int .u32 0, .int .i64 0, .slice none 0 0, .int .u32 0, .int .i64 0, .int .i64 0, .int .i64 0, .int .u32 0, .int .u32 0, .int .i64 0]).heap[b]? = w5.heap[b]? := fun b h1 h2 => (setRow_other _ _ _ _ h1).trans (HWO.out b h2)
      have hcm := MCmd.around HM.out HB4.out hs4 (MCmd.after HM4.out HB5.out (MCmd.refl (HM4.out.ext HB5.out))) hoth (by simp; omega) (HWB.out.trans (below_setRow' _ _ (by omega)))
      exact ret_ms HE ⟨_, _, { num := l.1 }, rfl, hcm, ⟨u32s_none _, visits_any (visits_nil _ (fun _ => True)), by simp⟩⟩
    · have HE : Hid (AA = ({ num := l.2.1 } : PA) ∧ TT = T ∧ FF = full) := HL
      go_upto_region 75 with fail
      obtain ⟨W, hW⟩ : ∃ W, W = (w5.setCell ⟨w.heap.size + 1 + 1 + 1, 1, none⟩ (.int .i64 l.2.1)) := ⟨_, rfl⟩
      have hS0 : (w5.setCell ⟨w.heap.size + 1 + 1 + 1, 1, none⟩ (.int .i64 l.2.1)).heap[w.heap.size + 3]? = some (.cells #[.int .u8 0, .int .i64 l.2.1, .slice none 0 0, .int .u32 0, .int .u8 0, .int .i64 0, .int .i64 0, .int .u32 0, .int .i64 0, .slice none 0 0, .int .u32 0, .int .i64 0, .int .i64 0, .int .i64 0, .int .u32 0, .int .u32 0, .int .i64 0] 47 (0, 0)) := heap_setCell_same _ (w.heap.size + 3) 1 _ _ (.int .i64 l.2.1) hA5
      have hAW : W.heap[w.heap.size + 3]? = some (.cells #[.int .u8 0, .int .i64 l.2.1, .slice none 0 0, .int .u32 0, .int .u8 0, .int .i64 0, .int .i64 0, .int .u32 0, .int .i64 0, .slice none 0 0, .int .u32 0, .int .i64 0, .int .i64 0, .int .i64 0, .int .u32 0, .int .u32 0, .int .i64 0] 47 (0, 0)) := by rw [hW]; exact hS0
      have hWo : ∀ b, b ≠ w.heap.size + 3 → W.heap[b]? = w5.heap[b]? := fun b hb => by rw [hW]; exact (Below.heap_setCell _ _ _ _ hb)
      have hWs : w5.heap.size ≤ W.heap.size := by rw [hW]; simp [World.setCell]
      have hWb : Below base w5 W := by rw [hW]; exact ((Below.refl _ _).setCell (p := ⟨w.heap.size + 1 + 1 + 1, 1, none⟩) (by show base ≤ w.heap.size + 1 + 1 + 1; omega) _)
      rw [← hW]
      have hRW : W.heap[w.heap.size + 2]? = some (.cells #[.int .u8 0, .int .i64 0, .slice none 0 0, .int .u32 0, .int .u8 0, .int .i64 0, .int .i64 0, .int .u32 0, .int .i64 0, .slice none 0 0, .int .u32 0, .int .i64 0, .int .i64 0, .int .i64 0, .int .u32 0, .int .u32 0, .int .i64 0] 47 (0, 0)) := (hWo _ (by omega)).trans ((HB5.out.block (w.heap.size + 2) (by omega)).trans HR.out)
      have rz : rng W (w.heap.size + 1 + 1 + 1) 0 17 = some #[.int .u8 0, .int .i64 l.2.1, .slice none 0 0, .int .u32 0, .int .u8 0, .int .i64 0, .int .i64 0, .int .u32 0, .int .i64 0, .slice none 0 0, .int .u32 0, .int .i64 0, .int .i64 0, .int .i64 0, .int .u32 0, .int .u32 0, .int .i64 0] := rng_whole hAW
      have hwh : whole W (w.heap.size + 1 + 1) 17 = true := whole_of_heap hRW
      have HWO := hide hWo
      have HWB := hide hWb
      have HRW := hide hRW
      clear hW hWo hWb hRW hAW
      go_wp2
      have hfin := heap_setRow_at (ds := #[.int .u8 0, .int .i64 l.2.1, .slice none 0 0, .int .u32 0, .int .u8 0, .int .i64 0, .int .i64 0, .int .u32 0, .int .i64 0, .slice none 0 0, .int .u32 0, .int .i64 0, .int .i64 0, .int .i64 0, .int .u32 0, .int .u32 0, .int .i64 0]) HRW.out
      refine bodyPost_ret (results_cell1 Tryd.results10 _ _ (w.heap.size + 2) _ _ _ _ rfl hfin Tryd.underlying47 rfl (by kernel_rfl)) rfl ?_
      have hoth : ∀ b, b ≠ w.heap.size + 2 → b ≠ w.heap.size + 3 → (W.setRow (w.heap.size + 2) #[.int .u8 0, .int .i64 l.2.1, .slice none 0 0, .int .u32 0, .int .u8 0, .int .i64 0, .int .i64 0, .int .u32 0, .int .i64 0, .slice none 0 0, .int .u32 0, .int .i64 0, .int .i64 0, .int .i64 0, .int .u32 0, .int .u32 0, .int .i64 0]).heap[b]? = w5.heap[b]? := fun b h1 h2 => (setRow_other _ _ _ _ h1).trans (HWO.out b h2)
      have hcm := MCmd.around HM.out HB4.out hs4 (MCmd.after HM4.out HB5.out (MCmd.refl (HM4.out.ext HB5.out))) hoth (by simp; omega) (HWB.out.trans (below_setRow' _ _ (by omega)))
      exact ret_ms HE ⟨_, _, { num := l.2.1 }, rfl, hcm, ⟨u32s_none _, visits_any (visits_nil _ (fun _ => True)), by simp⟩⟩
    · have HE : Hid (AA = ({ num := l.2.2 } : PA) ∧ TT = T ∧ FF = full) := HL
      go_upto_region 75 with fail
      obtain ⟨W, hW⟩ : ∃ W, W = (w5.setCell ⟨w.heap.size + 1 + 1 + 1, 1, none⟩ (.int .i64 l.2.2)) := ⟨_, rfl⟩
      have hS0 : (w5.setCell ⟨w.heap.size + 1 + 1 + 1, 1, none⟩ (.int .i64 l.2.2)).heap[w.heap.size + 3]? = some (.cells #[.int .u8 0, .int .i64 l.2.2, .slice none 0 0, .int .u32 0, .int .u8 0, .int .i64 0, .int .i64 0, .int .u32 0, .int .i64 0, .slice none 0 0, .int .u32 0, .int .i64 0, .int .i64 0, .int .i64 0, .int .u32 0, .int .u32 0, .int .i64 0] 47 (0, 0)) := heap_setCell_same _ (w.heap.size + 3) 1 _ _ (.int .i64 l.2.2) hA5
      have hAW : W.heap[w.heap.size + 3]? = some (.cells #[.int .u8 0, .int .i64 l.2.2, .slice none 0 0, .int .u32 0, .int .u8 0, .int .i64 0, .int .i64 0, .int .u32 0, .int .i64 0, .slice none 0 0, .int .u32 0, .int .i64 0, .int .i64 0, .int .i64 0, .int .u32 0, .int .u32 0, .int .i64 0] 47 (0, 0)) := by rw [hW]; exact hS0
      have hWo : ∀ b, b ≠ w.heap.size + 3 → W.heap[b]? = w5.heap[b]? := fun b hb => by rw [hW]; exact (Below.heap_setCell _ _ _ _ hb)
      have hWs : w5.heap.size ≤ W.heap.size := by rw [hW]; simp [World.setCell]
      have hWb : Below base w5 W := by rw [hW]; exact ((Below.refl _ _).setCell (p := ⟨w.heap.size + 1 + 1 + 1, 1, none⟩) (by show base ≤ w.heap.size + 1 + 1 + 1; omega) _)
      rw [← hW]
      have hRW : W.heap[w.heap.size + 2]? = some (.cells #[.int .u8 0, .int .i64 0, .slice none 0 0, .int .u32 0, .int .u8 0, .int .i64 0, .int .i64 0, .int .u32 0, .int .i64 0, .slice none 0 0, .int .u32 0, .int .i64 0, .int .i64 0, .int .i64 0, .int .u32 0, .int .u32 0, .int .i64 0] 47 (0, 0)) := (hWo _ (by omega)).trans ((HB5.out.block (w.heap.size + 2) (by omega)).trans HR.out)
      have rz : rng W (w.heap.size + 1 + 1 + 1) 0 17 = some #[.int .u8 0, .int .i64 l.2.2, .slice none 0 0, .int .u32 0, .int .u8 0, .int .i64 0, .int .i64 0, .int .u32 0, .int .i64 0, .slice none 0 0, .int .u32 0, .int .i64 0, .int .i64 0, .int .i64 0, .int .u32 0, .int .u32 0, .int .i64 0] := rng_whole hAW
      have hwh : whole W (w.heap.size + 1 + 1) 17 = true := whole_of_heap hRW
      have HWO := hide hWo
      have HWB := hide hWb
      have HRW := hide hRW
      clear hW hWo hWb hRW hAW
      go_wp2
      have hfin := heap_setRow_at (ds := #[.int .u8 0, .int .i64 l.2.2, .slice none 0 0, .int .u32 0, .int .u8 0, .int .i64 0, .int .i64 0, .int .u32 0, .int .i64 0, .slice none 0 0, .int .u32 0, .int .i64 0, .int .i64 0, .int .i64 0, .int .u32 0, .int .u32 0, .int .i64 0]) HRW.out
      refine bodyPost_ret (results_cell1 Tryd.results10 _ _ (w.heap.size + 2) _ _ _ _ rfl hfin Tryd.underlying47 rfl (by kernel_rfl)) rfl ?_
      have hoth : ∀ b, b ≠ w.heap.size + 2 → b ≠ w.heap.size + 3 → (W.setRow (w.heap.size + 2) #[.int .u8 0, .int .i64 l.2.2, .slice none 0 0, .int .u32 0, .int .u8 0, .int .i64 0, .int .i64 0, .int .u32 0, .int .i64 0, .slice none 0 0, .int .u32 0, .int .i64 0, .int .i64 0, .int .i64 0, .int .u32 0, .int .u32 0, .int .i64 0]).heap[b]? = w5.heap[b]? := fun b h1 h2 => (setRow_other _ _ _ _ h1).trans (HWO.out b h2)
      have hcm := MCmd.around HM.out HB4.out hs4 (MCmd.after HM4.out HB5.out (MCmd.refl (HM4.out.ext HB5.out))) hoth (by simp; omega) (HWB.out.trans (below_setRow' _ _ (by omega)))
      exact ret_ms HE ⟨_, _, { num := l.2.2 }, rfl, hcm, ⟨u32s_none _, visits_any (visits_nil _ (fun _ => True)), by simp⟩⟩
  | none =>
    rw [hT] at hlk
    simp only [Option.map_none, Option.getD_none, Option.isSome_none, anZ] at hlk
    refine wp_region_mixT (w4.heap.size) [0, 3, 5, 6] (by kernel_rfl) ?_
    refine mixT_reads [0] (fuel := 12) rfl (by kernel_rfl) (by decide) (by kernel_rfl) (fun d _ _ _ _ h => by cases d <;> exact h) (ext_drew _ _) ?_
    simp only [opersAt, List.getElem?_toArray, List.getElem?_cons_zero]
    repeat (go_big_quiet_step (fail))
    refine wpQuiet_nil ?_
    refine mixT_slots [1, 2] (fuel := 10) rfl (by kernel_rfl) (by kernel_rfl) (fun d _ _ _ _ h => by cases d <;> exact h) ?_
    simp only [opersAt, List.getElem?_toArray, List.getElem?_cons_zero, List.getElem?_cons_succ]
    repeat (go_big_quiet_step (fail))
    refine wpQuiet_nil ?_
    refine mixT_reads [3] (fuel := 9) rfl (by kernel_rfl) (by decide) (by kernel_rfl) (fun d _ _ _ _ h => by cases d <;> exact h) (ext_drew _ _) ?_
    simp only [opersAt, List.getElem?_toArray, List.getElem?_cons_zero, List.getElem?_cons_succ]
    repeat (go_big_quiet_step (fail))
    refine wpQuiet_nil ?_
    refine mixT_slots [4] (fuel := 8) rfl (by kernel_rfl) (by kernel_rfl) (fun d _ _ _ _ h => by cases d <;> exact h) ?_
    simp only [opersAt, List.getElem?_toArray, List.getElem?_cons_zero, List.getElem?_cons_succ]
    repeat (go_big_quiet_step (fail))
    refine wpQuiet_nil ?_
    refine mixT_reads [5, 6] (fuel := 6) rfl (by kernel_rfl) (by decide) (by kernel_rfl) (fun d _ _ _ _ h => by cases d <;> exact h) (ext_drew _ _) ?_
    simp only [opersAt, List.getElem?_toArray, List.getElem?_cons_zero, List.getElem?_cons_succ]
    repeat (go_big_quiet_step (fail))
    refine wpQuiet_nil ?_
    refine mixT_slots [7, 8, 9] (fuel := 3) rfl (by kernel_rfl) (by kernel_rfl) (fun d _ _ _ _ h => by cases d <;> exact h) ?_
    simp only [opersAt, List.getElem?_toArray, List.getElem?_cons_zero, List.getElem?_cons_succ]
    repeat (go_big_quiet_step (fail))
    refine wpQuiet_nil ?_
    refine mixT_one (k := 10) (by kernel_rfl) rfl ?_
    go_wp2
    refine ⟨Or.inr (by intros; exact ⟨⟨_, ((Below.refl _ _).alloc (Nat.le_refl _) _).drew⟩, rfl⟩), ?_⟩
    refine mixT_one (k := 11) (by kernel_rfl) rfl ?_
    go_wp2
    refine ⟨Or.inl (by kernel_rfl), ?_⟩
    refine mixT_one (k := 12) (by kernel_rfl) rfl ?_
    go_wp2
    refine ⟨Or.inr (fun h => h), ?_⟩
    refine mixT_nil (by kernel_rfl) ?_

    obtain ⟨w5, hw5⟩ : ∃ w5, w5 = (w4.alloc (.cells #[.int .u32 0, .int .i64 0, .int .i64 0, .int .i64 0] 43)).drew := ⟨_, rfl⟩
    have hb5 : Below w4.heap.size w4 w5 := by rw [hw5]; exact ((Below.refl _ _).alloc (Nat.le_refl _) _).drew
    have hz5 : w4.heap.size < w5.heap.size := by rw [hw5]; show _ < (w4.alloc _).heap.size; simp
    have hC5 : w5.heap[w.heap.size + 4]? = some (.cells #[.int .u32 0, .int .i64 0, .int .i64 0, .int .i64 0] 43 (0, 0)) := by rw [hw5, ← hs4]; exact heap_alloc_at _ _
    rw [← hw5]
    clear hw5
    have HB5 := hide hb5
    have hX5 : w5.heap[w.heap.size + 1]? = _ := (hb5.block (w.heap.size + 1) (by omega)).trans HX.out
    have y2 : w5.cell? ⟨w.heap.size + 1, 2, none⟩ = some (.int .u32 oref) := by rw [World.cell?, hX5]; rfl
    have hA5 : w5.heap[w.heap.size + 3]? = _ := (hb5.block (w.heap.size + 3) (by omega)).trans HA.out
    have a0 : w5.cell? ⟨w.heap.size + 1 + 1 + 1, 0, none⟩ = some (.int .u8 0) := by rw [World.cell?, show w.heap.size + 1 + 1 + 1 = w.heap.size + 3 from rfl, hA5]; rfl
    have f0 : w5.frozen? ⟨w.heap.size + 1 + 1 + 1, 0, none⟩ = false := by rw [World.frozen?, show w.heap.size + 1 + 1 + 1 = w.heap.size + 3 from rfl, hA5]; rfl
    have a1 : w5.cell? ⟨w.heap.size + 1 + 1 + 1, 1, none⟩ = some (.int .i64 0) := by rw [World.cell?, show w.heap.size + 1 + 1 + 1 = w.heap.size + 3 from rfl, hA5]; rfl
    have f1 : w5.frozen? ⟨w.heap.size + 1 + 1 + 1, 1, none⟩ = false := by rw [World.frozen?, show w.heap.size + 1 + 1 + 1 = w.heap.size + 3 from rfl, hA5]; rfl
    have e0 : w5.cell? ⟨w.heap.size + 4, 0, none⟩ = some (.int .u32 0) := by rw [World.cell?, hC5]; rfl
    have e1 : w5.cell? ⟨w.heap.size + 4, 1, none⟩ = some (.int .i64 0) := by rw [World.cell?, hC5]; rfl
    have e2 : w5.cell? ⟨w.heap.size + 4, 2, none⟩ = some (.int .i64 0) := by rw [World.cell?, hC5]; rfl
    have e3 : w5.cell? ⟨w.heap.size + 4, 3, none⟩ = some (.int .i64 0) := by rw [World.cell?, hC5]; rfl
    have hl5 : w.heap.size + 4 < w5.heap.size := by omega
    clear hb5 hC5 hX5
    by_cases hb1 : oref < 1 ∨ 3 < oref
    · have HE : Hid (AA = ({ code := 6 } : PA) ∧ TT = T ∧ FF = full) := ⟨by
        rw [HAA.out.1, limR, if_pos (by split <;> omega)], HAA.out.2⟩
      by_cases hlo : oref < 1
      · go_upto_region 75 with fail
        obtain ⟨W, hW⟩ : ∃ W, W = (w5.setCell ⟨w.heap.size + 1 + 1 + 1, 0, none⟩ (.int .u8 6)) := ⟨_, rfl⟩
        have hS0 : (w5.setCell ⟨w.heap.size + 1 + 1 + 1, 0, none⟩ (.int .u8 6)).heap[w.heap.size + 3]? = some (.cells #[.int .u8 6, .int .i64 0, .slice none 0 0, .int .u32 0, .int .u8 0, .int .i64 0, .int .i64 0, .int .u32 0, .int .i64 0, .slice none 0 0, .int .u32 0, .int .i64 0, .int .i64 0, .int .i64 0, .int .u32 0, .int .u32 0, .int .i64 0] 47 (0, 0)) := heap_setCell_same _ (w.heap.size + 3) 0 _ _ (.int .u8 6) hA5
        have hAW : W.heap[w.heap.size + 3]? = some (.cells #[.int .u8 6, .int .i64 0, .slice none 0 0, .int .u32 0, .int .u8 0, .int .i64 0, .int .i64 0, .int .u32 0, .int .i64 0, .slice none 0 0, .int .u32 0, .int .i64 0, .int .i64 0, .int .i64 0, .int .u32 0, .int .u32 0, .int .i64 0] 47 (0, 0)) := by rw [hW]; exact hS0
        have hWo : ∀ b, b ≠ w.heap.size + 3 → W.heap[b]? = w5.heap[b]? := fun b hb => by rw [hW]; exact (Below.heap_setCell _ _ _ _ hb)
        have hWs : w5.heap.size ≤ W.heap.size := by rw [hW]; simp [World.setCell]
        have hWb : Below base w5 W := by rw [hW]; exact ((Below.refl _ _).setCell (p := ⟨w.heap.size + 1 + 1 + 1, 0, none⟩) (by show base ≤ w.heap.size + 1 + 1 + 1; omega) _)
        rw [← hW]
        have hRW : W.heap[w.heap.size + 2]? = some (.cells #[.int .u8 0, .int .i64 0, .slice none 0 0, .int .u32 0, .int .u8 0, .int .i64 0, .int .i64 0, .int .u32 0, .int .i64 0, .slice none 0 0, .int .u32 0, .int .i64 0, .int .i64 0, .int .i64 0, .int .u32 0, .int .u32 0, .int .i64 0] 47 (0, 0)) := (hWo _ (by omega)).trans ((HB5.out.block (w.heap.size + 2) (by omega)).trans HR.out)
        have rz : rng W (w.heap.size + 1 + 1 + 1) 0 17 = some #[.int .u8 6, .int .i64 0, .slice none 0 0, .int .u32 0, .int .u8 0, .int .i64 0, .int .i64 0, .int .u32 0, .int .i64 0, .slice none 0 0, .int .u32 0, .int .i64 0, .int .i64 0, .int .i64 0, .int .u32 0, .int .u32 0, .int .i64 0] := rng_whole hAW
        have hwh : whole W (w.heap.size + 1 + 1) 17 = true := whole_of_heap hRW
        have HWO := hide hWo
        have HWB := hide hWb
        have HRW := hide hRW
        clear hW hWo hWb hRW hAW
        go_wp2
        have hfin := heap_setRow_at (ds := #[.int .u8 6, .int .i64 0, .slice none 0 0, .int .u32 0, .int .u8 0, .int .i64 0, .int .i64 0, .int .u32 0, .int .i64 0, .slice none 0 0, .int .u32 0, .int .i64 0, .int .i64 0, .int .i64 0, .int .u32 0, .int .u32 0, .int .i64 0]) HRW.out
        refine bodyPost_ret (results_cell1 Tryd.results10 _ _ (w.heap.size + 2) _ _ _ _ rfl hfin Tryd.underlying47 rfl (by kernel_rfl)) rfl ?_
        have hoth : ∀ b, b ≠ w.heap.size + 2 → b ≠ w.heap.size + 3 → (W.setRow (w.heap.size + 2) #[.int .u8 6, .int .i64 0, .slice none 0 0, .int .u32 0, .int .u8 0, .int .i64 0, .int .i64 0, .int .u32 0, .int .i64 0, .slice none 0 0, .int .u32 0, .int .i64 0, .int .i64 0, .int .i64 0, .int .u32 0, .int .u32 0, .int .i64 0]).heap[b]? = w5.heap[b]? := fun b h1 h2 => (setRow_other _ _ _ _ h1).trans (HWO.out b h2)
        have hcm := MCmd.around HM.out HB4.out hs4 (MCmd.after HM4.out HB5.out (MCmd.refl (HM4.out.ext HB5.out))) hoth (by simp; omega) (HWB.out.trans (below_setRow' _ _ (by omega)))
        exact ret_ms HE ⟨_, _, { code := 6 }, rfl, hcm, ⟨u32s_none _, visits_any (visits_nil _ (fun _ => True)), by simp⟩⟩
      · have hhi : 3 < oref := by omega
        go_upto_region 75 with fail
        obtain ⟨W, hW⟩ : ∃ W, W = (w5.setCell ⟨w.heap.size + 1 + 1 + 1, 0, none⟩ (.int .u8 6)) := ⟨_, rfl⟩
        have hS0 : (w5.setCell ⟨w.heap.size + 1 + 1 + 1, 0, none⟩ (.int .u8 6)).heap[w.heap.size + 3]? = some (.cells #[.int .u8 6, .int .i64 0, .slice none 0 0, .int .u32 0, .int .u8 0, .int .i64 0, .int .i64 0, .int .u32 0, .int .i64 0, .slice none 0 0, .int .u32 0, .int .i64 0, .int .i64 0, .int .i64 0, .int .u32 0, .int .u32 0, .int .i64 0] 47 (0, 0)) := heap_setCell_same _ (w.heap.size + 3) 0 _ _ (.int .u8 6) hA5
        have hAW : W.heap[w.heap.size + 3]? = some (.cells #[.int .u8 6, .int .i64 0, .slice none 0 0, .int .u32 0, .int .u8 0, .int .i64 0, .int .i64 0, .int .u32 0, .int .i64 0, .slice none 0 0, .int .u32 0, .int .i64 0, .int .i64 0, .int .i64 0, .int .u32 0, .int .u32 0, .int .i64 0] 47 (0, 0)) := by rw [hW]; exact hS0
        have hWo : ∀ b, b ≠ w.heap.size + 3 → W.heap[b]? = w5.heap[b]? := fun b hb => by rw [hW]; exact (Below.heap_setCell _ _ _ _ hb)
        have hWs : w5.heap.size ≤ W.heap.size := by rw [hW]; simp [World.setCell]
        have hWb : Below base w5 W := by rw [hW]; exact ((Below.refl _ _).setCell (p := ⟨w.heap.size + 1 + 1 + 1, 0, none⟩) (by show base ≤ w.heap.size + 1 + 1 + 1; omega) _)
        rw [← hW]
        have hRW : W.heap[w.heap.size + 2]? = some (.cells #[.int .u8 0, .int .i64 0, .slice none 0 0, .int .u32 0, .int .u8 0, .int .i64 0, .int .i64 0, .int .u32 0, .int .i64 0, .slice none 0 0, .int .u32 0, .int .i64 0, .int .i64 0, .int .i64 0, .int .u32 0, .int .u32 0, .int .i64 0] 47 (0, 0)) := (hWo _ (by omega)).trans ((HB5.out.block (w.heap.size + 2) (by omega)).trans HR.out)
        have rz : rng W (w.heap.size + 1 + 1 + 1) 0 17 = some #[.int .u8 6, .int .i64 0, .slice none 0 0, .int .u32 0, .int .u8 0, .int .i64 0, .int .i64 0, .int .u32 0, .int .i64 0, .slice none 0 0, .int .u32 0, .int .i64 0, .int .i64 0, .int .i64 0, .int .u32 0, .int .u32 0, .int .i64 0] := rng_whole hAW
        have hwh : whole W (w.heap.size + 1 + 1) 17 = true := whole_of_heap hRW
        have HWO := hide hWo
        have HWB := hide hWb
        have HRW := hide hRW
        clear hW hWo hWb hRW hAW
        go_wp2
        have hfin := heap_setRow_at (ds := #[.int .u8 6, .int .i64 0, .slice none 0 0, .int .u32 0, .int .u8 0, .int .i64 0, .int .i64 0, .int .u32 0, .int .i64 0, .slice none 0 0, .int .u32 0, .int .i64 0, .int .i64 0, .int .i64 0, .int .u32 0, .int .u32 0, .int .i64 0]) HRW.out
        refine bodyPost_ret (results_cell1 Tryd.results10 _ _ (w.heap.size + 2) _ _ _ _ rfl hfin Tryd.underlying47 rfl (by kernel_rfl)) rfl ?_
        have hoth : ∀ b, b ≠ w.heap.size + 2 → b ≠ w.heap.size + 3 → (W.setRow (w.heap.size + 2) #[.int .u8 6, .int .i64 0, .slice none 0 0, .int .u32 0, .int .u8 0, .int .i64 0, .int .i64 0, .int .u32 0, .int .i64 0, .slice none 0 0, .int .u32 0, .int .i64 0, .int .i64 0, .int .i64 0, .int .u32 0, .int .u32 0, .int .i64 0]).heap[b]? = w5.heap[b]? := fun b h1 h2 => (setRow_other _ _ _ _ h1).trans (HWO.out b h2)
        have hcm := MCmd.around HM.out HB4.out hs4 (MCmd.after HM4.out HB5.out (MCmd.refl (HM4.out.ext HB5.out))) hoth (by simp; omega) (HWB.out.trans (below_setRow' _ _ (by omega)))
        exact ret_ms HE ⟨_, _, { code := 6 }, rfl, hcm, ⟨u32s_none _, visits_any (visits_nil _ (fun _ => True)), by simp⟩⟩

    have hg1 : ¬ oref < 1 := by omega
    have hg3 : ¬ 3 < oref := by omega
    have HE : Hid (AA = ({ code := 14 } : PA) ∧ TT = T ∧ FF = full) := ⟨by
      rw [HAA.out.1, if_neg (by omega), limR, if_neg (by omega), hT], HAA.out.2⟩
    go_upto_region 75 with fail
    obtain ⟨W, hW⟩ : ∃ W, W = (w5.setCell ⟨w.heap.size + 1 + 1 + 1, 0, none⟩ (.int .u8 14)) := ⟨_, rfl⟩
    have hS0 : (w5.setCell ⟨w.heap.size + 1 + 1 + 1, 0, none⟩ (.int .u8 14)).heap[w.heap.size + 3]? = some (.cells #[.int .u8 14, .int .i64 0, .slice none 0 0, .int .u32 0, .int .u8 0, .int .i64 0, .int .i64 0, .int .u32 0, .int .i64 0, .slice none 0 0, .int .u32 0, .int .i64 0, .int .i64 0, .int .i64 0, .int .u32 0, .int .u32 0, .int .i64 0] 47 (0, 0)) := heap_setCell_same _ (w.heap.size + 3) 0 _ _ (.int .u8 14) hA5
    have hAW : W.heap[w.heap.size + 3]? = some (.cells #[.int .u8 14, .int .i64 0, .slice none 0 0, .int .u32 0, .int .u8 0, .int .i64 0, .int .i64 0, .int .u32 0, .int .i64 0, .slice none 0 0, .int .u32 0, .int .i64 0, .int .i64 0, .int .i64 0, .int .u32 0, .int .u32 0, .int .i64 0] 47 (0, 0)) := by rw [hW]; exact hS0
    have hWo : ∀ b, b ≠ w.heap.size + 3 → W.heap[b]? = w5.heap[b]? := fun b hb => by rw [hW]; exact (Below.heap_setCell _ _ _ _ hb)
    have hWs : w5.heap.size ≤ W.heap.size := by rw [hW]; simp [World.setCell]
    have hWb : Below base w5 W := by rw [hW]; exact ((Below.refl _ _).setCell (p := ⟨w.heap.size + 1 + 1 + 1, 0, none⟩) (by show base ≤ w.heap.size + 1 + 1 + 1; omega) _)
    rw [← hW]
    have hRW : W.heap[w.heap.size + 2]? = some (.cells #[.int .u8 0, .int .i64 0, .slice none 0 0, .int .u32 0, .int .u8 0, .int .i64 0, .int .i64 0, .int .u32 0, .int .i64 0, .slice none 0 0, .int .u32 0, .int .i64 0, .int .i64 0, .int .i64 0, .int .u32 0, .int .u32 0, .int .i64 0] 47 (0, 0)) := (hWo _ (by omega)).trans ((HB5.out.block (w.heap.size + 2) (by omega)).trans HR.out)
    have rz : rng W (w.heap.size + 1 + 1 + 1) 0 17 = some #[.int .u8 14, .int .i64 0, .slice none 0 0, .int .u32 0, .int .u8 0, .int .i64 0, .int .i64 0, .int .u32 0, .int .i64 0, .slice none 0 0, .int .u32 0, .int .i64 0, .int .i64 0, .int .i64 0, .int .u32 0, .int .u32 0, .int .i64 0] := rng_whole hAW
    have hwh : whole W (w.heap.size + 1 + 1) 17 = true := whole_of_heap hRW
    have HWO := hide hWo
    have HWB := hide hWb
    have HRW := hide hRW
    clear hW hWo hWb hRW hAW
    go_wp2
    have hfin := heap_setRow_at (ds := #[.int .u8 14, .int .i64 0, .slice none 0 0, .int .u32 0, .int .u8 0, .int .i64 0, .int .i64 0, .int .u32 0, .int .i64 0, .slice none 0 0, .int .u32 0, .int .i64 0, .int .i64 0, .int .i64 0, .int .u32 0, .int .u32 0, .int .i64 0]) HRW.out
    refine bodyPost_ret (results_cell1 Tryd.results10 _ _ (w.heap.size + 2) _ _ _ _ rfl hfin Tryd.underlying47 rfl (by kernel_rfl)) rfl ?_
    have hoth : ∀ b, b ≠ w.heap.size + 2 → b ≠ w.heap.size + 3 → (W.setRow (w.heap.size + 2) #[.int .u8 14, .int .i64 0, .slice none 0 0, .int .u32 0, .int .u8 0, .int .i64 0, .int .i64 0, .int .u32 0, .int .i64 0, .slice none 0 0, .int .u32 0, .int .i64 0, .int .i64 0, .int .i64 0, .int .u32 0, .int .u32 0, .int .i64 0]).heap[b]? = w5.heap[b]? := fun b h1 h2 => (setRow_other _ _ _ _ h1).trans (HWO.out b h2)
    have hcm := MCmd.around HM.out HB4.out hs4 (MCmd.after HM4.out HB5.out (MCmd.refl (HM4.out.ext HB5.out))) hoth (by simp; omega) (HWB.out.trans (below_setRow' _ _ (by omega)))
    exact ret_ms HE ⟨_, _, { code := 14 }, rfl, hcm, ⟨u32s_none _, visits_any (visits_nil _ (fun _ => True)), by simp⟩⟩

end Go.Proofs.Qxb6500665aDoor
