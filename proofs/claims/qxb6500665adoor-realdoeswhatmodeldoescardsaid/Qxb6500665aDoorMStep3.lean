/- The kinds of the model's step, walked. (Made by tools/mk_mstep.py.) -/
import Derived.Test.Qxb6500665aDoorMStep2
namespace Go.Proofs.Qxb6500665aDoor
open Go.RowKit Go.Proofs.Qxb6500665aDoor.Cal

attribute [local go_sem ↓] exec_stAnswer exec_ldAnswer exec_stAnalyte exec_stSubject
attribute [local go_sem] run_stAnswer run_ldAnswer rng_drew ext_const Ext.cell Ext.frozen Ext.rng Ext.whole ones17 run_stAnalyte run_stSubject ones_iii whole_alloc_lt whole_alloc_at whole_drew setRow_alloc_at setRow_alloc_lt setRow_drew

set_option maxRecDepth 100000 in
set_option maxHeartbeats 8000000 in
theorem mstep_9 (w : World) (M base N a p s u : Nat) (v : Value) (C : Nat → Prop) (T : Tab) (full : Bool) (o : Op) (la va : Option Addr) (ln lc vn vc : Nat) (h : MAt w M base N a p s u v C T full) (hid : U32 o.id) (hk : o.kind = 9) :
    Calls Tryd.prog 10 #[.pointer (some ⟨M, 0, none⟩), .agg (opCs o (.slice la ln lc) (.slice va vn vc))] w fun e w' => MSPost w w' e M base (N + 1) a p s u v C { code := (anR T o.id).1, a0 := (anR T o.id).2.1, a1 := (anR T o.id).2.2.1, a2 := (anR T o.id).2.2.2.1, a3 := (anR T o.id).2.2.2.2 } T full := by
  obtain ⟨w4, HW4, hb4, hs4, hP, hX, hR, hA⟩ := mstep_start w o la va ln lc vn vc M
  obtain ⟨okind, oid, oref, omin, odel, ol0, ol1, ol2, olist, ovis⟩ := o
  simp only at hk
  simp only [opCs, ansCs, sv] at hX HW4 hR hA ⊢
  obtain ⟨AA, hAA⟩ : ∃ AA : PA, AA = { code := (anR T oid).1, a0 := (anR T oid).2.1, a1 := (anR T oid).2.2.1, a2 := (anR T oid).2.2.2.1, a3 := (anR T oid).2.2.2.2 } := ⟨_, rfl⟩
  obtain ⟨FF, hFF⟩ : ∃ FF : Bool, FF = full := ⟨_, rfl⟩
  obtain ⟨TT, hTT⟩ : ∃ TT : Tab, TT = T := ⟨_, rfl⟩
  rw [← hAA, ← hTT, ← hFF]
  have HAA := hide (And.intro hAA (And.intro hTT hFF))
  clear hAA hFF hTT
  have p0 : w4.cell? ⟨w.heap.size, 0, none⟩ = some (.pointer (some ⟨M, 0, none⟩)) := by rw [World.cell?, hP]; rfl
  have x0 : w4.cell? ⟨w.heap.size + 1, 0, none⟩ = some (.int .u8 okind) := by rw [World.cell?, hX]; rfl
  have x1 : w4.cell? ⟨w.heap.size + 1, 1, none⟩ = some (.int .u32 oid) := by rw [World.cell?, hX]; rfl
  have x2 : w4.cell? ⟨w.heap.size + 1, 2, none⟩ = some (.int .u32 oref) := by rw [World.cell?, hX]; rfl
  have x3 : w4.cell? ⟨w.heap.size + 1, 3, none⟩ = some (.int .i64 omin) := by rw [World.cell?, hX]; rfl
  have x4 : w4.cell? ⟨w.heap.size + 1, 4, none⟩ = some (.int .i64 odel) := by rw [World.cell?, hX]; rfl
  have x5 : w4.cell? ⟨w.heap.size + 1, 5, none⟩ = some (.int .i64 ol0) := by rw [World.cell?, hX]; rfl
  have x6 : w4.cell? ⟨w.heap.size + 1, 6, none⟩ = some (.int .i64 ol1) := by rw [World.cell?, hX]; rfl
  have x7 : w4.cell? ⟨w.heap.size + 1, 7, none⟩ = some (.int .i64 ol2) := by rw [World.cell?, hX]; rfl
  have x8 : w4.cell? ⟨w.heap.size + 1, 8, none⟩ = some (.slice la ln lc) := by rw [World.cell?, hX]; rfl
  have x9 : w4.cell? ⟨w.heap.size + 1, 9, none⟩ = some (.slice va vn vc) := by rw [World.cell?, hX]; rfl
  have HM := hide h
  have HM4 := hide (h.ext hb4)
  have hMl := h.hlt M (Or.inl (by simp))
  have hM4 : M < w.heap.size + 4 := by omega
  have hM4' : M < w4.heap.size := by omega
  have HB4 := hide hb4
  have HR := hide hR
  have HA := hide hA
  have HX := hide hX
  have HP := hide hP
  have hbs := h.bs
  subst hk
  clear h hb4 hR hA hX hP
  go_enter Tryd.func10, Tryd.ntmps10
  go_upto_region 2 with fail
  rw [← HW4.out]
  clear HW4
  obtain ⟨d0, d1, d2, d3, d4, d5, -, -⟩ := cell_six HM4.out.top
  have hlk : ∀ x : Ext w4.heap.size w4, (Instr.lookup 64 (.map (some a)) (.int .u32 oid) true).run Tryd.prog x.world = .ok (.tuple #[((T.an oid).map (anV oid)).getD anZ, .bool ((T.an oid).map (anV oid)).isSome]) x.world := fun x => (HM4.out.ext x.below).an.look_ok Tryd.mapAn (Tryd.zeroAn x.world) hid
  go_upto_region 25 with fail
  cases hT : T.an oid with
  | some l =>
    rw [hT] at hlk
    simp only [Option.map_some, Option.getD_some, Option.isSome_some, anV] at hlk
    refine wp_region_mixT (w4.heap.size) [0, 3, 5, 6] (by kernel_rfl) ?_
    refine mixT_reads [0] (fuel := 12) rfl (by kernel_rfl) (by decide) (by kernel_rfl) (fun d _ _ _ _ h => by cases d <;> exact h) (ext_drew _ _) ?_
    simp only [opersAt, List.getElem?_toArray, List.getElem?_cons_zero]
    repeat (go_big_quiet_step (fail))
    refine wpQuiet_nil ?_
    refine mixT_slots [1, 2] (fuel := 10) rfl (by kernel_rfl) (by kernel_rfl) (fun d _ _ _ _ h => by cases d <;> exact h) ?_
    simp only [opersAt, List.getElem?_toArray, List.getElem?_cons_zero, List.getElem?_cons_succ]
    repeat (go_big_quiet_step (fail))
    refine wpQuiet_nil ?_
    refine mixT_reads [3] (fuel := 9) rfl (by kernel_rfl) (by decide) (by kernel_rfl) (fun d _ _ _ _ h => by cases d <;> exact h) (ext_drew _ _) ?_
    simp only [opersAt, List.getElem?_toArray, List.getElem?_cons_zero, List.getElem?_cons_succ]
    repeat (go_big_quiet_step (fail))
    refine wpQuiet_nil ?_
    refine mixT_slots [4] (fuel := 8) rfl (by kernel_rfl) (by kernel_rfl) (fun d _ _ _ _ h => by cases d <;> exact h) ?_
    simp only [opersAt, List.getElem?_toArray, List.getElem?_cons_zero, List.getElem?_cons_succ]
    repeat (go_big_quiet_step (fail))
    refine wpQuiet_nil ?_
    refine mixT_reads [5, 6] (fuel := 6) rfl (by kernel_rfl) (by decide) (by kernel_rfl) (fun d _ _ _ _ h => by cases d <;> exact h) (ext_drew _ _) ?_
    simp only [opersAt, List.getElem?_toArray, List.getElem?_cons_zero, List.getElem?_cons_succ]
    repeat (go_big_quiet_step (fail))
    refine wpQuiet_nil ?_
    refine mixT_slots [7, 8, 9] (fuel := 3) rfl (by kernel_rfl) (by kernel_rfl) (fun d _ _ _ _ h => by cases d <;> exact h) ?_
    simp only [opersAt, List.getElem?_toArray, List.getElem?_cons_zero, List.getElem?_cons_succ]
    repeat (go_big_quiet_step (fail))
    refine wpQuiet_nil ?_
    refine mixT_one (k := 10) (by kernel_rfl) rfl ?_
    go_wp2
    refine ⟨Or.inr (by intros; exact ⟨⟨_, ((Below.refl _ _).alloc (Nat.le_refl _) _).drew⟩, rfl⟩), ?_⟩
    refine mixT_one (k := 11) (by kernel_rfl) rfl ?_
    go_wp2
    refine ⟨Or.inl (by kernel_rfl), ?_⟩
    refine mixT_one (k := 12) (by kernel_rfl) rfl ?_
    go_wp2
    refine ⟨Or.inr (fun h => h), ?_⟩
    refine mixT_nil (by kernel_rfl) ?_

    obtain ⟨w5, hw5⟩ : ∃ w5, w5 = (w4.alloc (.cells #[.int .u32 oid, .int .i64 l.1, .int .i64 l.2.1, .int .i64 l.2.2] 43)).drew := ⟨_, rfl⟩
    have hb5 : Below w4.heap.size w4 w5 := by rw [hw5]; exact ((Below.refl _ _).alloc (Nat.le_refl _) _).drew
    have hz5 : w4.heap.size < w5.heap.size := by rw [hw5]; show _ < (w4.alloc _).heap.size; simp
    have hC5 : w5.heap[w.heap.size + 4]? = some (.cells #[.int .u32 oid, .int .i64 l.1, .int .i64 l.2.1, .int .i64 l.2.2] 43 (0, 0)) := by rw [hw5, ← hs4]; exact heap_alloc_at _ _
    rw [← hw5]
    clear hw5
    have HB5 := hide hb5
    have hA5 : w5.heap[w.heap.size + 3]? = _ := (hb5.block (w.heap.size + 3) (by omega)).trans HA.out
    have e0 : w5.cell? ⟨w.heap.size + 4, 0, none⟩ = some (.int .u32 oid) := by rw [World.cell?, hC5]; rfl
    have e1 : w5.cell? ⟨w.heap.size + 4, 1, none⟩ = some (.int .i64 l.1) := by rw [World.cell?, hC5]; rfl
    have e2 : w5.cell? ⟨w.heap.size + 4, 2, none⟩ = some (.int .i64 l.2.1) := by rw [World.cell?, hC5]; rfl
    have e3 : w5.cell? ⟨w.heap.size + 4, 3, none⟩ = some (.int .i64 l.2.2) := by rw [World.cell?, hC5]; rfl
    clear hb5 hC5
    have hst : (stS 43 (.pointer (some ⟨w.heap.size + 1 + 1 + 1, 10, none⟩)) (.agg #[.int .u32 oid, .int .i64 l.1, .int .i64 l.2.1, .int .i64 l.2.2])).run Tryd.prog w5 = .ok () (w5.setRow (w.heap.size + 3) #[.int .u8 0, .int .i64 0, .slice none 0 0, .int .u32 0, .int .u8 0, .int .i64 0, .int .i64 0, .int .u32 0, .int .i64 0, .slice none 0 0, .int .u32 oid, .int .i64 l.1, .int .i64 l.2.1, .int .i64 l.2.2, .int .u32 0, .int .u32 0, .int .i64 0]) := by
      rw [stAnalyte_eq _ _ _ _ rfl]
      have := cells_at (off := 10) #[.int .u32 oid, .int .i64 l.1, .int .i64 l.2.1, .int .i64 l.2.2] hA5 (by simp) (by simp [Value.oneCell'])
      exact this
    go_upto_region 27 with fail
    obtain ⟨w6, hw6⟩ : ∃ w6, w6 = w5.setRow (w.heap.size + 3) #[.int .u8 0, .int .i64 0, .slice none 0 0, .int .u32 0, .int .u8 0, .int .i64 0, .int .i64 0, .int .u32 0, .int .i64 0, .slice none 0 0, .int .u32 oid, .int .i64 l.1, .int .i64 l.2.1, .int .i64 l.2.2, .int .u32 0, .int .u32 0, .int .i64 0] := ⟨_, rfl⟩
    have hA6 : w6.heap[w.heap.size + 3]? = some (.cells #[.int .u8 0, .int .i64 0, .slice none 0 0, .int .u32 0, .int .u8 0, .int .i64 0, .int .i64 0, .int .u32 0, .int .i64 0, .slice none 0 0, .int .u32 oid, .int .i64 l.1, .int .i64 l.2.1, .int .i64 l.2.2, .int .u32 0, .int .u32 0, .int .i64 0] 47 (0, 0)) := by rw [hw6]; exact heap_setRow_at hA5
    have H6O : Hid (∀ b, b ≠ w.heap.size + 3 → w6.heap[b]? = w5.heap[b]?) := fun b hb => by rw [hw6]; exact setRow_other _ _ _ _ hb
    have hz6 : w5.heap.size = w6.heap.size := by rw [hw6]; simp
    have H6B : Hid (Below base w5 w6) := by rw [hw6]; exact below_setRow' _ _ (by omega)
    rw [← hw6]
    clear hw6 hst
    have a0 : w6.cell? ⟨w.heap.size + 1 + 1 + 1, 0, none⟩ = some (.int .u8 0) := by rw [World.cell?, show w.heap.size + 1 + 1 + 1 = w.heap.size + 3 from rfl, hA6]; rfl
    have f0 : w6.frozen? ⟨w.heap.size + 1 + 1 + 1, 0, none⟩ = false := by rw [World.frozen?, show w.heap.size + 1 + 1 + 1 = w.heap.size + 3 from rfl, hA6]; rfl
    go_upto_region 75 with fail
    obtain ⟨W, hW⟩ : ∃ W, W = w6 := ⟨_, rfl⟩
    have hAW : W.heap[w.heap.size + 3]? = some (.cells #[.int .u8 0, .int .i64 0, .slice none 0 0, .int .u32 0, .int .u8 0, .int .i64 0, .int .i64 0, .int .u32 0, .int .i64 0, .slice none 0 0, .int .u32 oid, .int .i64 l.1, .int .i64 l.2.1, .int .i64 l.2.2, .int .u32 0, .int .u32 0, .int .i64 0] 47 (0, 0)) := by rw [hW]; exact hA6
    have hWo : ∀ b, b ≠ w.heap.size + 3 → W.heap[b]? = w6.heap[b]? := fun b _ => congrArg (fun X : World => X.heap[b]?) hW
    have hWs : w6.heap.size ≤ W.heap.size := Nat.le_of_eq (congrArg (fun X : World => X.heap.size) hW.symm)
    have hWb : Below base w6 W := by subst hW; exact Below.refl _ _
    rw [← hW]
    have hRW : W.heap[w.heap.size + 2]? = some (.cells #[.int .u8 0, .int .i64 0, .slice none 0 0, .int .u32 0, .int .u8 0, .int .i64 0, .int .i64 0, .int .u32 0, .int .i64 0, .slice none 0 0, .int .u32 0, .int .i64 0, .int .i64 0, .int .i64 0, .int .u32 0, .int .u32 0, .int .i64 0] 47 (0, 0)) := (hWo _ (by omega)).trans ((H6O.out _ (by omega)).trans ((HB5.out.block (w.heap.size + 2) (by omega)).trans HR.out))
    have rz : rng W (w.heap.size + 1 + 1 + 1) 0 17 = some #[.int .u8 0, .int .i64 0, .slice none 0 0, .int .u32 0, .int .u8 0, .int .i64 0, .int .i64 0, .int .u32 0, .int .i64 0, .slice none 0 0, .int .u32 oid, .int .i64 l.1, .int .i64 l.2.1, .int .i64 l.2.2, .int .u32 0, .int .u32 0, .int .i64 0] := rng_whole hAW
    have hwh : whole W (w.heap.size + 1 + 1) 17 = true := whole_of_heap hRW
    have HWO := hide hWo
    have HWB := hide hWb
    have HRW := hide hRW
    clear hW hWo hWb hRW hAW
    go_wp2
    have hfin := heap_setRow_at (ds := #[.int .u8 0, .int .i64 0, .slice none 0 0, .int .u32 0, .int .u8 0, .int .i64 0, .int .i64 0, .int .u32 0, .int .i64 0, .slice none 0 0, .int .u32 oid, .int .i64 l.1, .int .i64 l.2.1, .int .i64 l.2.2, .int .u32 0, .int .u32 0, .int .i64 0]) HRW.out
    refine bodyPost_ret (results_cell1 Tryd.results10 _ _ (w.heap.size + 2) _ _ _ _ rfl hfin Tryd.underlying47 rfl (by kernel_rfl)) rfl ?_
    have hoth : ∀ b, b ≠ w.heap.size + 2 → b ≠ w.heap.size + 3 → (W.setRow (w.heap.size + 2) #[.int .u8 0, .int .i64 0, .slice none 0 0, .int .u32 0, .int .u8 0, .int .i64 0, .int .i64 0, .int .u32 0, .int .i64 0, .slice none 0 0, .int .u32 oid, .int .i64 l.1, .int .i64 l.2.1, .int .i64 l.2.2, .int .u32 0, .int .u32 0, .int .i64 0]).heap[b]? = w5.heap[b]? := fun b h1 h2 => (setRow_other _ _ _ _ h1).trans ((HWO.out b h2).trans (H6O.out b h2))
    have hcm := MCmd.around HM.out HB4.out hs4 (MCmd.after HM4.out HB5.out (MCmd.refl (HM4.out.ext HB5.out))) hoth (by simp; omega) (H6B.out.trans (HWB.out.trans (below_setRow' _ _ (by omega))))
    exact ret_ms (hide ⟨HAA.out.1.trans (by simp only [anR, hT]), HAA.out.2⟩ : Hid (AA = ({ a0 := oid, a1 := l.1, a2 := l.2.1, a3 := l.2.2 } : PA) ∧ TT = T ∧ FF = full)) ⟨_, _, { a0 := oid, a1 := l.1, a2 := l.2.1, a3 := l.2.2 }, rfl, hcm, ⟨u32s_none _, visits_any (visits_nil _ (fun _ => True)), by simp⟩⟩

  | none =>
    rw [hT] at hlk
    simp only [Option.map_none, Option.getD_none, Option.isSome_none, anZ] at hlk
    refine wp_region_mixT (w4.heap.size) [0, 3, 5, 6] (by kernel_rfl) ?_
    refine mixT_reads [0] (fuel := 12) rfl (by kernel_rfl) (by decide) (by kernel_rfl) (fun d _ _ _ _ h => by cases d <;> exact h) (ext_drew _ _) ?_
    simp only [opersAt, List.getElem?_toArray, List.getElem?_cons_zero]
    repeat (go_big_quiet_step (fail))
    refine wpQuiet_nil ?_
    refine mixT_slots [1, 2] (fuel := 10) rfl (by kernel_rfl) (by kernel_rfl) (fun d _ _ _ _ h => by cases d <;> exact h) ?_
    simp only [opersAt, List.getElem?_toArray, List.getElem?_cons_zero, List.getElem?_cons_succ]
    repeat (go_big_quiet_step (fail))
    refine wpQuiet_nil ?_
    refine mixT_reads [3] (fuel := 9) rfl (by kernel_rfl) (by decide) (by kernel_rfl) (fun d _ _ _ _ h => by cases d <;> exact h) (ext_drew _ _) ?_
    simp only [opersAt, List.getElem?_toArray, List.getElem?_cons_zero, List.getElem?_cons_succ]
    repeat (go_big_quiet_step (fail))
    refine wpQuiet_nil ?_
    refine mixT_slots [4] (fuel := 8) rfl (by kernel_rfl) (by kernel_rfl) (fun d _ _ _ _ h => by cases d <;> exact h) ?_
    simp only [opersAt, List.getElem?_toArray, List.getElem?_cons_zero, List.getElem?_cons_succ]
    repeat (go_big_quiet_step (fail))
    refine wpQuiet_nil ?_
    refine mixT_reads [5, 6] (fuel := 6) rfl (by kernel_rfl) (by decide) (by kernel_rfl) (fun d _ _ _ _ h => by cases d <;> exact h) (ext_drew _ _) ?_
    simp only [opersAt, List.getElem?_toArray, List.getElem?_cons_zero, List.getElem?_cons_succ]
    repeat (go_big_quiet_step (fail))
    refine wpQuiet_nil ?_
    refine mixT_slots [7, 8, 9] (fuel := 3) rfl (by kernel_rfl) (by kernel_rfl) (fun d _ _ _ _ h => by cases d <;> exact h) ?_
    simp only [opersAt, List.getElem?_toArray, List.getElem?_cons_zero, List.getElem?_cons_succ]
    repeat (go_big_quiet_step (fail))
    refine wpQuiet_nil ?_
    refine mixT_one (k := 10) (by kernel_rfl) rfl ?_
    go_wp2
    refine ⟨Or.inr (by intros; exact ⟨⟨_, ((Below.refl _ _).alloc (Nat.le_refl _) _).drew⟩, rfl⟩), ?_⟩
    refine mixT_one (k := 11) (by kernel_rfl) rfl ?_
    go_wp2
    refine ⟨Or.inl (by kernel_rfl), ?_⟩
    refine mixT_one (k := 12) (by kernel_rfl) rfl ?_
    go_wp2
    refine ⟨Or.inr (fun h => h), ?_⟩
    refine mixT_nil (by kernel_rfl) ?_

    obtain ⟨w5, hw5⟩ : ∃ w5, w5 = (w4.alloc (.cells #[.int .u32 0, .int .i64 0, .int .i64 0, .int .i64 0] 43)).drew := ⟨_, rfl⟩
    have hb5 : Below w4.heap.size w4 w5 := by rw [hw5]; exact ((Below.refl _ _).alloc (Nat.le_refl _) _).drew
    have hz5 : w4.heap.size < w5.heap.size := by rw [hw5]; show _ < (w4.alloc _).heap.size; simp
    have hC5 : w5.heap[w.heap.size + 4]? = some (.cells #[.int .u32 0, .int .i64 0, .int .i64 0, .int .i64 0] 43 (0, 0)) := by rw [hw5, ← hs4]; exact heap_alloc_at _ _
    rw [← hw5]
    clear hw5
    have HB5 := hide hb5
    have hA5 : w5.heap[w.heap.size + 3]? = _ := (hb5.block (w.heap.size + 3) (by omega)).trans HA.out
    have e0 : w5.cell? ⟨w.heap.size + 4, 0, none⟩ = some (.int .u32 0) := by rw [World.cell?, hC5]; rfl
    have e1 : w5.cell? ⟨w.heap.size + 4, 1, none⟩ = some (.int .i64 0) := by rw [World.cell?, hC5]; rfl
    have e2 : w5.cell? ⟨w.heap.size + 4, 2, none⟩ = some (.int .i64 0) := by rw [World.cell?, hC5]; rfl
    have e3 : w5.cell? ⟨w.heap.size + 4, 3, none⟩ = some (.int .i64 0) := by rw [World.cell?, hC5]; rfl
    clear hb5 hC5
    have hst : (stS 43 (.pointer (some ⟨w.heap.size + 1 + 1 + 1, 10, none⟩)) (.agg #[.int .u32 0, .int .i64 0, .int .i64 0, .int .i64 0])).run Tryd.prog w5 = .ok () (w5.setRow (w.heap.size + 3) #[.int .u8 0, .int .i64 0, .slice none 0 0, .int .u32 0, .int .u8 0, .int .i64 0, .int .i64 0, .int .u32 0, .int .i64 0, .slice none 0 0, .int .u32 0, .int .i64 0, .int .i64 0, .int .i64 0, .int .u32 0, .int .u32 0, .int .i64 0]) := by
      rw [stAnalyte_eq _ _ _ _ rfl]
      have := cells_at (off := 10) #[.int .u32 0, .int .i64 0, .int .i64 0, .int .i64 0] hA5 (by simp) (by simp [Value.oneCell'])
      exact this
    go_upto_region 27 with fail
    obtain ⟨w6, hw6⟩ : ∃ w6, w6 = w5.setRow (w.heap.size + 3) #[.int .u8 0, .int .i64 0, .slice none 0 0, .int .u32 0, .int .u8 0, .int .i64 0, .int .i64 0, .int .u32 0, .int .i64 0, .slice none 0 0, .int .u32 0, .int .i64 0, .int .i64 0, .int .i64 0, .int .u32 0, .int .u32 0, .int .i64 0] := ⟨_, rfl⟩
    have hA6 : w6.heap[w.heap.size + 3]? = some (.cells #[.int .u8 0, .int .i64 0, .slice none 0 0, .int .u32 0, .int .u8 0, .int .i64 0, .int .i64 0, .int .u32 0, .int .i64 0, .slice none 0 0, .int .u32 0, .int .i64 0, .int .i64 0, .int .i64 0, .int .u32 0, .int .u32 0, .int .i64 0] 47 (0, 0)) := by rw [hw6]; exact heap_setRow_at hA5
    have H6O : Hid (∀ b, b ≠ w.heap.size + 3 → w6.heap[b]? = w5.heap[b]?) := fun b hb => by rw [hw6]; exact setRow_other _ _ _ _ hb
    have hz6 : w5.heap.size = w6.heap.size := by rw [hw6]; simp
    have H6B : Hid (Below base w5 w6) := by rw [hw6]; exact below_setRow' _ _ (by omega)
    rw [← hw6]
    clear hw6 hst
    have a0 : w6.cell? ⟨w.heap.size + 1 + 1 + 1, 0, none⟩ = some (.int .u8 0) := by rw [World.cell?, show w.heap.size + 1 + 1 + 1 = w.heap.size + 3 from rfl, hA6]; rfl
    have f0 : w6.frozen? ⟨w.heap.size + 1 + 1 + 1, 0, none⟩ = false := by rw [World.frozen?, show w.heap.size + 1 + 1 + 1 = w.heap.size + 3 from rfl, hA6]; rfl
    go_upto_region 75 with fail
    obtain ⟨W, hW⟩ : ∃ W, W = (w6.setCell ⟨w.heap.size + 1 + 1 + 1, 0, none⟩ (.int .u8 14)) := ⟨_, rfl⟩
    have hS0 : (w6.setCell ⟨w.heap.size + 1 + 1 + 1, 0, none⟩ (.int .u8 14)).heap[w.heap.size + 3]? = some (.cells #[.int .u8 14, .int .i64 0, .slice none 0 0, .int .u32 0, .int .u8 0, .int .i64 0, .int .i64 0, .int .u32 0, .int .i64 0, .slice none 0 0, .int .u32 0, .int .i64 0, .int .i64 0, .int .i64 0, .int .u32 0, .int .u32 0, .int .i64 0] 47 (0, 0)) := heap_setCell_same _ (w.heap.size + 3) 0 _ _ (.int .u8 14) hA6
    have hAW : W.heap[w.heap.size + 3]? = some (.cells #[.int .u8 14, .int .i64 0, .slice none 0 0, .int .u32 0, .int .u8 0, .int .i64 0, .int .i64 0, .int .u32 0, .int .i64 0, .slice none 0 0, .int .u32 0, .int .i64 0, .int .i64 0, .int .i64 0, .int .u32 0, .int .u32 0, .int .i64 0] 47 (0, 0)) := by rw [hW]; exact hS0
    have hWo : ∀ b, b ≠ w.heap.size + 3 → W.heap[b]? = w6.heap[b]? := fun b hb => by rw [hW]; exact (Below.heap_setCell _ _ _ _ hb)
    have hWs : w6.heap.size ≤ W.heap.size := by rw [hW]; simp [World.setCell]
    have hWb : Below base w6 W := by rw [hW]; exact ((Below.refl _ _).setCell (p := ⟨w.heap.size + 1 + 1 + 1, 0, none⟩) (by show base ≤ w.heap.size + 1 + 1 + 1; omega) _)
    rw [← hW]
    have hRW : W.heap[w.heap.size + 2]? = some (.cells #[.int .u8 0, .int .i64 0, .slice none 0 0, .int .u32 0, .int .u8 0, .int .i64 0, .int .i64 0, .int .u32 0, .int .i64 0, .slice none 0 0, .int .u32 0, .int .i64 0, .int .i64 0, .int .i64 0, .int .u32 0, .int .u32 0, .int .i64 0] 47 (0, 0)) := (hWo _ (by omega)).trans ((H6O.out _ (by omega)).trans ((HB5.out.block (w.heap.size + 2) (by omega)).trans HR.out))
    have rz : rng W (w.heap.size + 1 + 1 + 1) 0 17 = some #[.int .u8 14, .int .i64 0, .slice none 0 0, .int .u32 0, .int .u8 0, .int .i64 0, .int .i64 0, .int .u32 0, .int .i64 0, .slice none 0 0, .int .u32 0, .int .i64 0, .int .i64 0, .int .i64 0, .int .u32 0, .int .u32 0, .int .i64 0] := rng_whole hAW
    have hwh : whole W (w.heap.size + 1 + 1) 17 = true := whole_of_heap hRW
    have HWO := hide hWo
    have HWB := hide hWb
    have HRW := hide hRW
    clear hW hWo hWb hRW hAW
    go_wp2
    have hfin := heap_setRow_at (ds := #[.int .u8 14, .int .i64 0, .slice none 0 0, .int .u32 0, .int .u8 0, .int .i64 0, .int .i64 0, .int .u32 0, .int .i64 0, .slice none 0 0, .int .u32 0, .int .i64 0, .int .i64 0, .int .i64 0, .int .u32 0, .int .u32 0, .int .i64 0]) HRW.out
    refine bodyPost_ret (results_cell1 Tryd.results10 _ _ (w.heap.size + 2) _ _ _ _ rfl hfin Tryd.underlying47 rfl (by kernel_rfl)) rfl ?_
    have hoth : ∀ b, b ≠ w.heap.size + 2 → b ≠ w.heap.size + 3 → (W.setRow (w.heap.size + 2) #[.int .u8 14, .int .i64 0, .slice none 0 0, .int .u32 0, .int .u8 0, .int .i64 0, .int .i64 0, .int .u32 0, .int .i64 0, .slice none 0 0, .int .u32 0, .int .i64 0, .int .i64 0, .int .i64 0, .int .u32 0, .int .u32 0, .int .i64 0]).heap[b]? = w5.heap[b]? := fun b h1 h2 => (setRow_other _ _ _ _ h1).trans ((HWO.out b h2).trans (H6O.out b h2))
    have hcm := MCmd.around HM.out HB4.out hs4 (MCmd.after HM4.out HB5.out (MCmd.refl (HM4.out.ext HB5.out))) hoth (by simp; omega) (H6B.out.trans (HWB.out.trans (below_setRow' _ _ (by omega))))
    exact ret_ms (hide ⟨HAA.out.1.trans (by simp only [anR, hT]), HAA.out.2⟩ : Hid (AA = ({ code := 14 } : PA) ∧ TT = T ∧ FF = full)) ⟨_, _, { code := 14 }, rfl, hcm, ⟨u32s_none _, visits_any (visits_nil _ (fun _ => True)), by simp⟩⟩

set_option maxRecDepth 100000 in
set_option maxHeartbeats 8000000 in
theorem mstep_11 (w : World) (M base N a p s u : Nat) (v : Value) (C : Nat → Prop) (T : Tab) (full : Bool) (o : Op) (la va : Option Addr) (ln lc vn vc : Nat) (h : MAt w M base N a p s u v C T full) (hid : U32 o.id) (hk : o.kind = 11) :
    Calls Tryd.prog 10 #[.pointer (some ⟨M, 0, none⟩), .agg (opCs o (.slice la ln lc) (.slice va vn vc))] w fun e w' => MSPost w w' e M base (N + 1) a p s u v C { code := (subR T o.id).1, s0 := (subR T o.id).2.1, s1 := (subR T o.id).2.2.1, s2 := (subR T o.id).2.2.2 } T full := by
  obtain ⟨w4, HW4, hb4, hs4, hP, hX, hR, hA⟩ := mstep_start w o la va ln lc vn vc M
  obtain ⟨okind, oid, oref, omin, odel, ol0, ol1, ol2, olist, ovis⟩ := o
  simp only at hk
  simp only [opCs, ansCs, sv] at hX HW4 hR hA ⊢
  obtain ⟨AA, hAA⟩ : ∃ AA : PA, AA = { code := (subR T oid).1, s0 := (subR T oid).2.1, s1 := (subR T oid).2.2.1, s2 := (subR T oid).2.2.2 } := ⟨_, rfl⟩
  obtain ⟨FF, hFF⟩ : ∃ FF : Bool, FF = full := ⟨_, rfl⟩
  obtain ⟨TT, hTT⟩ : ∃ TT : Tab, TT = T := ⟨_, rfl⟩
  rw [← hAA, ← hTT, ← hFF]
  have HAA := hide (And.intro hAA (And.intro hTT hFF))
  clear hAA hFF hTT
  have p0 : w4.cell? ⟨w.heap.size, 0, none⟩ = some (.pointer (some ⟨M, 0, none⟩)) := by rw [World.cell?, hP]; rfl
  have x0 : w4.cell? ⟨w.heap.size + 1, 0, none⟩ = some (.int .u8 okind) := by rw [World.cell?, hX]; rfl
  have x1 : w4.cell? ⟨w.heap.size + 1, 1, none⟩ = some (.int .u32 oid) := by rw [World.cell?, hX]; rfl
  have x2 : w4.cell? ⟨w.heap.size + 1, 2, none⟩ = some (.int .u32 oref) := by rw [World.cell?, hX]; rfl
  have x3 : w4.cell? ⟨w.heap.size + 1, 3, none⟩ = some (.int .i64 omin) := by rw [World.cell?, hX]; rfl
  have x4 : w4.cell? ⟨w.heap.size + 1, 4, none⟩ = some (.int .i64 odel) := by rw [World.cell?, hX]; rfl
  have x5 : w4.cell? ⟨w.heap.size + 1, 5, none⟩ = some (.int .i64 ol0) := by rw [World.cell?, hX]; rfl
  have x6 : w4.cell? ⟨w.heap.size + 1, 6, none⟩ = some (.int .i64 ol1) := by rw [World.cell?, hX]; rfl
  have x7 : w4.cell? ⟨w.heap.size + 1, 7, none⟩ = some (.int .i64 ol2) := by rw [World.cell?, hX]; rfl
  have x8 : w4.cell? ⟨w.heap.size + 1, 8, none⟩ = some (.slice la ln lc) := by rw [World.cell?, hX]; rfl
  have x9 : w4.cell? ⟨w.heap.size + 1, 9, none⟩ = some (.slice va vn vc) := by rw [World.cell?, hX]; rfl
  have HM := hide h
  have HM4 := hide (h.ext hb4)
  have hMl := h.hlt M (Or.inl (by simp))
  have hM4 : M < w.heap.size + 4 := by omega
  have hM4' : M < w4.heap.size := by omega
  have HB4 := hide hb4
  have HR := hide hR
  have HA := hide hA
  have HX := hide hX
  have HP := hide hP
  have hbs := h.bs
  subst hk
  clear h hb4 hR hA hX hP
  go_enter Tryd.func10, Tryd.ntmps10
  go_upto_region 2 with fail
  rw [← HW4.out]
  clear HW4
  obtain ⟨d0, d1, d2, d3, d4, d5, -, -⟩ := cell_six HM4.out.top
  have hlk : ∀ x : Ext w4.heap.size w4, (Instr.lookup 67 (.map (some u)) (.int .u32 oid) true).run Tryd.prog x.world = .ok (.tuple #[((T.sub oid).map (suV oid)).getD suZ, .bool ((T.sub oid).map (suV oid)).isSome]) x.world := fun x => (HM4.out.ext x.below).sub.look_ok Tryd.mapSub (Tryd.zeroSub x.world) hid
  go_upto_region 35 with fail
  cases hT : T.sub oid with
  | some l =>
    rw [hT] at hlk
    simp only [Option.map_some, Option.getD_some, Option.isSome_some, suV] at hlk
    refine wp_region_mixT (w4.heap.size) [0, 3, 5, 6] (by kernel_rfl) ?_
    refine mixT_reads [0] (fuel := 12) rfl (by kernel_rfl) (by decide) (by kernel_rfl) (fun d _ _ _ _ h => by cases d <;> exact h) (ext_drew _ _) ?_
    simp only [opersAt, List.getElem?_toArray, List.getElem?_cons_zero]
    repeat (go_big_quiet_step (fail))
    refine wpQuiet_nil ?_
    refine mixT_slots [1, 2] (fuel := 10) rfl (by kernel_rfl) (by kernel_rfl) (fun d _ _ _ _ h => by cases d <;> exact h) ?_
    simp only [opersAt, List.getElem?_toArray, List.getElem?_cons_zero, List.getElem?_cons_succ]
    repeat (go_big_quiet_step (fail))
    refine wpQuiet_nil ?_
    refine mixT_reads [3] (fuel := 9) rfl (by kernel_rfl) (by decide) (by kernel_rfl) (fun d _ _ _ _ h => by cases d <;> exact h) (ext_drew _ _) ?_
    simp only [opersAt, List.getElem?_toArray, List.getElem?_cons_zero, List.getElem?_cons_succ]
    repeat (go_big_quiet_step (fail))
    refine wpQuiet_nil ?_
    refine mixT_slots [4] (fuel := 8) rfl (by kernel_rfl) (by kernel_rfl) (fun d _ _ _ _ h => by cases d <;> exact h) ?_
    simp only [opersAt, List.getElem?_toArray, List.getElem?_cons_zero, List.getElem?_cons_succ]
    repeat (go_big_quiet_step (fail))
    refine wpQuiet_nil ?_
    refine mixT_reads [5, 6] (fuel := 6) rfl (by kernel_rfl) (by decide) (by kernel_rfl) (fun d _ _ _ _ h => by cases d <;> exact h) (ext_drew _ _) ?_
    simp only [opersAt, List.getElem?_toArray, List.getElem?_cons_zero, List.getElem?_cons_succ]
    repeat (go_big_quiet_step (fail))
    refine wpQuiet_nil ?_
    refine mixT_slots [7, 8, 9] (fuel := 3) rfl (by kernel_rfl) (by kernel_rfl) (fun d _ _ _ _ h => by cases d <;> exact h) ?_
    simp only [opersAt, List.getElem?_toArray, List.getElem?_cons_zero, List.getElem?_cons_succ]
    repeat (go_big_quiet_step (fail))
    refine wpQuiet_nil ?_
    refine mixT_one (k := 10) (by kernel_rfl) rfl ?_
    go_wp2
    refine ⟨Or.inr (by intros; exact ⟨⟨_, ((Below.refl _ _).alloc (Nat.le_refl _) _).drew⟩, rfl⟩), ?_⟩
    refine mixT_one (k := 11) (by kernel_rfl) rfl ?_
    go_wp2
    refine ⟨Or.inl (by kernel_rfl), ?_⟩
    refine mixT_one (k := 12) (by kernel_rfl) rfl ?_
    go_wp2
    refine ⟨Or.inr (fun h => h), ?_⟩
    refine mixT_nil (by kernel_rfl) ?_

    obtain ⟨w5, hw5⟩ : ∃ w5, w5 = (w4.alloc (.cells #[.int .u32 oid, .int .u32 l.1, .int .i64 l.2] 45)).drew := ⟨_, rfl⟩
    have hb5 : Below w4.heap.size w4 w5 := by rw [hw5]; exact ((Below.refl _ _).alloc (Nat.le_refl _) _).drew
    have hz5 : w4.heap.size < w5.heap.size := by rw [hw5]; show _ < (w4.alloc _).heap.size; simp
    have hC5 : w5.heap[w.heap.size + 4]? = some (.cells #[.int .u32 oid, .int .u32 l.1, .int .i64 l.2] 45 (0, 0)) := by rw [hw5, ← hs4]; exact heap_alloc_at _ _
    rw [← hw5]
    clear hw5
    have HB5 := hide hb5
    have hA5 : w5.heap[w.heap.size + 3]? = _ := (hb5.block (w.heap.size + 3) (by omega)).trans HA.out
    have e0 : w5.cell? ⟨w.heap.size + 4, 0, none⟩ = some (.int .u32 oid) := by rw [World.cell?, hC5]; rfl
    have e1 : w5.cell? ⟨w.heap.size + 4, 1, none⟩ = some (.int .u32 l.1) := by rw [World.cell?, hC5]; rfl
    have e2 : w5.cell? ⟨w.heap.size + 4, 2, none⟩ = some (.int .i64 l.2) := by rw [World.cell?, hC5]; rfl
    clear hb5 hC5
    have hst : (stS 45 (.pointer (some ⟨w.heap.size + 1 + 1 + 1, 14, none⟩)) (.agg #[.int .u32 oid, .int .u32 l.1, .int .i64 l.2])).run Tryd.prog w5 = .ok () (w5.setRow (w.heap.size + 3) #[.int .u8 0, .int .i64 0, .slice none 0 0, .int .u32 0, .int .u8 0, .int .i64 0, .int .i64 0, .int .u32 0, .int .i64 0, .slice none 0 0, .int .u32 0, .int .i64 0, .int .i64 0, .int .i64 0, .int .u32 oid, .int .u32 l.1, .int .i64 l.2]) := by
      rw [stSubject_eq _ _ _ _ rfl]
      have := cells_at (off := 14) #[.int .u32 oid, .int .u32 l.1, .int .i64 l.2] hA5 (by simp) (by simp [Value.oneCell'])
      exact this
    go_upto_region 37 with fail
    obtain ⟨w6, hw6⟩ : ∃ w6, w6 = w5.setRow (w.heap.size + 3) #[.int .u8 0, .int .i64 0, .slice none 0 0, .int .u32 0, .int .u8 0, .int .i64 0, .int .i64 0, .int .u32 0, .int .i64 0, .slice none 0 0, .int .u32 0, .int .i64 0, .int .i64 0, .int .i64 0, .int .u32 oid, .int .u32 l.1, .int .i64 l.2] := ⟨_, rfl⟩
    have hA6 : w6.heap[w.heap.size + 3]? = some (.cells #[.int .u8 0, .int .i64 0, .slice none 0 0, .int .u32 0, .int .u8 0, .int .i64 0, .int .i64 0, .int .u32 0, .int .i64 0, .slice none 0 0, .int .u32 0, .int .i64 0, .int .i64 0, .int .i64 0, .int .u32 oid, .int .u32 l.1, .int .i64 l.2] 47 (0, 0)) := by rw [hw6]; exact heap_setRow_at hA5
    have H6O : Hid (∀ b, b ≠ w.heap.size + 3 → w6.heap[b]? = w5.heap[b]?) := fun b hb => by rw [hw6]; exact setRow_other _ _ _ _ hb
    have hz6 : w5.heap.size = w6.heap.size := by rw [hw6]; simp
    have H6B : Hid (Below base w5 w6) := by rw [hw6]; exact below_setRow' _ _ (by omega)
    rw [← hw6]
    clear hw6 hst
    have a0 : w6.cell? ⟨w.heap.size + 1 + 1 + 1, 0, none⟩ = some (.int .u8 0) := by rw [World.cell?, show w.heap.size + 1 + 1 + 1 = w.heap.size + 3 from rfl, hA6]; rfl
    have f0 : w6.frozen? ⟨w.heap.size + 1 + 1 + 1, 0, none⟩ = false := by rw [World.frozen?, show w.heap.size + 1 + 1 + 1 = w.heap.size + 3 from rfl, hA6]; rfl
    go_upto_region 75 with fail
    obtain ⟨W, hW⟩ : ∃ W, W = w6 := ⟨_, rfl⟩
    have hAW : W.heap[w.heap.size + 3]? = some (.cells #[.int .u8 0, .int .i64 0, .slice none 0 0, .int .u32 0, .int .u8 0, .int .i64 0, .int .i64 0, .int .u32 0, .int .i64 0, .slice none 0 0, .int .u32 0, .int .i64 0, .int .i64 0, .int .i64 0, .int .u32 oid, .int .u32 l.1, .int .i64 l.2] 47 (0, 0)) := by rw [hW]; exact hA6
    have hWo : ∀ b, b ≠ w.heap.size + 3 → W.heap[b]? = w6.heap[b]? := fun b _ => congrArg (fun X : World => X.heap[b]?) hW
    have hWs : w6.heap.size ≤ W.heap.size := Nat.le_of_eq (congrArg (fun X : World => X.heap.size) hW.symm)
    have hWb : Below base w6 W := by subst hW; exact Below.refl _ _
    rw [← hW]
    have hRW : W.heap[w.heap.size + 2]? = some (.cells #[.int .u8 0, .int .i64 0, .slice none 0 0, .int .u32 0, .int .u8 0, .int .i64 0, .int .i64 0, .int .u32 0, .int .i64 0, .slice none 0 0, .int .u32 0, .int .i64 0, .int .i64 0, .int .i64 0, .int .u32 0, .int .u32 0, .int .i64 0] 47 (0, 0)) := (hWo _ (by omega)).trans ((H6O.out _ (by omega)).trans ((HB5.out.block (w.heap.size + 2) (by omega)).trans HR.out))
    have rz : rng W (w.heap.size + 1 + 1 + 1) 0 17 = some #[.int .u8 0, .int .i64 0, .slice none 0 0, .int .u32 0, .int .u8 0, .int .i64 0, .int .i64 0, .int .u32 0, .int .i64 0, .slice none 0 0, .int .u32 0, .int .i64 0, .int .i64 0, .int .i64 0, .int .u32 oid, .int .u32 l.1, .int .i64 l.2] := rng_whole hAW
    have hwh : whole W (w.heap.size + 1 + 1) 17 = true := whole_of_heap hRW
    have HWO := hide hWo
    have HWB := hide hWb
    have HRW := hide hRW
    clear hW hWo hWb hRW hAW
    go_wp2
    have hfin := heap_setRow_at (ds := #[.int .u8 0, .int .i64 0, .slice none 0 0, .int .u32 0, .int .u8 0, .int .i64 0, .int .i64 0, .int .u32 0, .int .i64 0, .slice none 0 0, .int .u32 0, .int .i64 0, .int .i64 0, .int .i64 0, .int .u32 oid, .int .u32 l.1, .int .i64 l.2]) HRW.out
    refine bodyPost_ret (results_cell1 Tryd.results10 _ _ (w.heap.size + 2) _ _ _ _ rfl hfin Tryd.underlying47 rfl (by kernel_rfl)) rfl ?_
    have hoth : ∀ b, b ≠ w.heap.size + 2 → b ≠ w.heap.size + 3 → (W.setRow (w.heap.size + 2) #[.int .u8 0, .int .i64 0, .slice none 0 0, .int .u32 0, .int .u8 0, .int .i64 0, .int .i64 0, .int .u32 0, .int .i64 0, .slice none 0 0, .int .u32 0, .int .i64 0, .int .i64 0, .int .i64 0, .int .u32 oid, .int .u32 l.1, .int .i64 l.2]).heap[b]? = w5.heap[b]? := fun b h1 h2 => (setRow_other _ _ _ _ h1).trans ((HWO.out b h2).trans (H6O.out b h2))
    have hcm := MCmd.around HM.out HB4.out hs4 (MCmd.after HM4.out HB5.out (MCmd.refl (HM4.out.ext HB5.out))) hoth (by simp; omega) (H6B.out.trans (HWB.out.trans (below_setRow' _ _ (by omega))))
    exact ret_ms (hide ⟨HAA.out.1.trans (by simp only [subR, hT]), HAA.out.2⟩ : Hid (AA = ({ s0 := oid, s1 := l.1, s2 := l.2 } : PA) ∧ TT = T ∧ FF = full)) ⟨_, _, { s0 := oid, s1 := l.1, s2 := l.2 }, rfl, hcm, ⟨u32s_none _, visits_any (visits_nil _ (fun _ => True)), by simp⟩⟩

  | none =>
    rw [hT] at hlk
    simp only [Option.map_none, Option.getD_none, Option.isSome_none, suZ] at hlk
    refine wp_region_mixT (w4.heap.size) [0, 3, 5, 6] (by kernel_rfl) ?_
    refine mixT_reads [0] (fuel := 12) rfl (by kernel_rfl) (by decide) (by kernel_rfl) (fun d _ _ _ _ h => by cases d <;> exact h) (ext_drew _ _) ?_
    simp only [opersAt, List.getElem?_toArray, List.getElem?_cons_zero]
    repeat (go_big_quiet_step (fail))
    refine wpQuiet_nil ?_
    refine mixT_slots [1, 2] (fuel := 10) rfl (by kernel_rfl) (by kernel_rfl) (fun d _ _ _ _ h => by cases d <;> exact h) ?_
    simp only [opersAt, List.getElem?_toArray, List.getElem?_cons_zero, List.getElem?_cons_succ]
    repeat (go_big_quiet_step (fail))
    refine wpQuiet_nil ?_
    refine mixT_reads [3] (fuel := 9) rfl (by kernel_rfl) (by decide) (by kernel_rfl) (fun d _ _ _ _ h => by cases d <;> exact h) (ext_drew _ _) ?_
    simp only [opersAt, List.getElem?_toArray, List.getElem?_cons_zero, List.getElem?_cons_succ]
    repeat (go_big_quiet_step (fail))
    refine wpQuiet_nil ?_
    refine mixT_slots [4] (fuel := 8) rfl (by kernel_rfl) (by kernel_rfl) (fun d _ _ _ _ h => by cases d <;> exact h) ?_
    simp only [opersAt, List.getElem?_toArray, List.getElem?_cons_zero, List.getElem?_cons_succ]
    repeat (go_big_quiet_step (fail))
    refine wpQuiet_nil ?_
    refine mixT_reads [5, 6] (fuel := 6) rfl (by kernel_rfl) (by decide) (by kernel_rfl) (fun d _ _ _ _ h => by cases d <;> exact h) (ext_drew _ _) ?_
    simp only [opersAt, List.getElem?_toArray, List.getElem?_cons_zero, List.getElem?_cons_succ]
    repeat (go_big_quiet_step (fail))
    refine wpQuiet_nil ?_
    refine mixT_slots [7, 8, 9] (fuel := 3) rfl (by kernel_rfl) (by kernel_rfl) (fun d _ _ _ _ h => by cases d <;> exact h) ?_
    simp only [opersAt, List.getElem?_toArray, List.getElem?_cons_zero, List.getElem?_cons_succ]
    repeat (go_big_quiet_step (fail))
    refine wpQuiet_nil ?_
    refine mixT_one (k := 10) (by kernel_rfl) rfl ?_
    go_wp2
    refine ⟨Or.inr (by intros; exact ⟨⟨_, ((Below.refl _ _).alloc (Nat.le_refl _) _).drew⟩, rfl⟩), ?_⟩
    refine mixT_one (k := 11) (by kernel_rfl) rfl ?_
    go_wp2
    refine ⟨Or.inl (by kernel_rfl), ?_⟩
    refine mixT_one (k := 12) (by kernel_rfl) rfl ?_
    go_wp2
    refine ⟨Or.inr (fun h => h), ?_⟩
    refine mixT_nil (by kernel_rfl) ?_

    obtain ⟨w5, hw5⟩ : ∃ w5, w5 = (w4.alloc (.cells #[.int .u32 0, .int .u32 0, .int .i64 0] 45)).drew := ⟨_, rfl⟩
    have hb5 : Below w4.heap.size w4 w5 := by rw [hw5]; exact ((Below.refl _ _).alloc (Nat.le_refl _) _).drew
    have hz5 : w4.heap.size < w5.heap.size := by rw [hw5]; show _ < (w4.alloc _).heap.size; simp
    have hC5 : w5.heap[w.heap.size + 4]? = some (.cells #[.int .u32 0, .int .u32 0, .int .i64 0] 45 (0, 0)) := by rw [hw5, ← hs4]; exact heap_alloc_at _ _
    rw [← hw5]
    clear hw5
    have HB5 := hide hb5
    have hA5 : w5.heap[w.heap.size + 3]? = _ := (hb5.block (w.heap.size + 3) (by omega)).trans HA.out
    have e0 : w5.cell? ⟨w.heap.size + 4, 0, none⟩ = some (.int .u32 0) := by rw [World.cell?, hC5]; rfl
    have e1 : w5.cell? ⟨w.heap.size + 4, 1, none⟩ = some (.int .u32 0) := by rw [World.cell?, hC5]; rfl
    have e2 : w5.cell? ⟨w.heap.size + 4, 2, none⟩ = some (.int .i64 0) := by rw [World.cell?, hC5]; rfl
    clear hb5 hC5
    have hst : (stS 45 (.pointer (some ⟨w.heap.size + 1 + 1 + 1, 14, none⟩)) (.agg #[.int .u32 0, .int .u32 0, .int .i64 0])).run Tryd.prog w5 = .ok () (w5.setRow (w.heap.size + 3) #[.int .u8 0, .int .i64 0, .slice none 0 0, .int .u32 0, .int .u8 0, .int .i64 0, .int .i64 0, .int .u32 0, .int .i64 0, .slice none 0 0, .int .u32 0, .int .i64 0, .int .i64 0, .int .i64 0, .int .u32 0, .int .u32 0, .int .i64 0]) := by
      rw [stSubject_eq _ _ _ _ rfl]
      have := cells_at (off := 14) #[.int .u32 0, .int .u32 0, .int .i64 0] hA5 (by simp) (by simp [Value.oneCell'])
      exact this
    go_upto_region 37 with fail
    obtain ⟨w6, hw6⟩ : ∃ w6, w6 = w5.setRow (w.heap.size + 3) #[.int .u8 0, .int .i64 0, .slice none 0 0, .int .u32 0, .int .u8 0, .int .i64 0, .int .i64 0, .int .u32 0, .int .i64 0, .slice none 0 0, .int .u32 0, .int .i64 0, .int .i64 0, .int .i64 0, .int .u32 0, .int .u32 0, .int .i64 0] := ⟨_, rfl⟩
    have hA6 : w6.heap[w.heap.size + 3]? = some (.cells #[.int .u8 0, .int .i64 0, .slice none 0 0, .int .u32 0, .int .u8 0, .int .i64 0, .int .i64 0, .int .u32 0, .int .i64 0, .slice none 0 0, .int .u32 0, .int .i64 0, .int .i64 0, .int .i64 0, .int .u32 0, .int .u32 0, .int .i64 0] 47 (0, 0)) := by rw [hw6]; exact heap_setRow_at hA5
    have H6O : Hid (∀ b, b ≠ w.heap.size + 3 → w6.heap[b]? = w5.heap[b]?) := fun b hb => by rw [hw6]; exact setRow_other _ _ _ _ hb
    have hz6 : w5.heap.size = w6.heap.size := by rw [hw6]; simp
    have H6B : Hid (Below base w5 w6) := by rw [hw6]; exact below_setRow' _ _ (by omega)
    rw [← hw6]
    clear hw6 hst
    have a0 : w6.cell? ⟨w.heap.size + 1 + 1 + 1, 0, none⟩ = some (.int .u8 0) := by rw [World.cell?, show w.heap.size + 1 + 1 + 1 = w.heap.size + 3 from rfl, hA6]; rfl
    have f0 : w6.frozen? ⟨w.heap.size + 1 + 1 + 1, 0, none⟩ = false := by rw [World.frozen?, show w.heap.size + 1 + 1 + 1 = w.heap.size + 3 from rfl, hA6]; rfl
    go_upto_region 75 with fail
    obtain ⟨W, hW⟩ : ∃ W, W = (w6.setCell ⟨w.heap.size + 1 + 1 + 1, 0, none⟩ (.int .u8 17)) := ⟨_, rfl⟩
    have hS0 : (w6.setCell ⟨w.heap.size + 1 + 1 + 1, 0, none⟩ (.int .u8 17)).heap[w.heap.size + 3]? = some (.cells #[.int .u8 17, .int .i64 0, .slice none 0 0, .int .u32 0, .int .u8 0, .int .i64 0, .int .i64 0, .int .u32 0, .int .i64 0, .slice none 0 0, .int .u32 0, .int .i64 0, .int .i64 0, .int .i64 0, .int .u32 0, .int .u32 0, .int .i64 0] 47 (0, 0)) := heap_setCell_same _ (w.heap.size + 3) 0 _ _ (.int .u8 17) hA6
    have hAW : W.heap[w.heap.size + 3]? = some (.cells #[.int .u8 17, .int .i64 0, .slice none 0 0, .int .u32 0, .int .u8 0, .int .i64 0, .int .i64 0, .int .u32 0, .int .i64 0, .slice none 0 0, .int .u32 0, .int .i64 0, .int .i64 0, .int .i64 0, .int .u32 0, .int .u32 0, .int .i64 0] 47 (0, 0)) := by rw [hW]; exact hS0
    have hWo : ∀ b, b ≠ w.heap.size + 3 → W.heap[b]? = w6.heap[b]? := fun b hb => by rw [hW]; exact (Below.heap_setCell _ _ _ _ hb)
    have hWs : w6.heap.size ≤ W.heap.size := by rw [hW]; simp [World.setCell]
    have hWb : Below base w6 W := by rw [hW]; exact ((Below.refl _ _).setCell (p := ⟨w.heap.size + 1 + 1 + 1, 0, none⟩) (by show base ≤ w.heap.size + 1 + 1 + 1; omega) _)
    rw [← hW]
    have hRW : W.heap[w.heap.size + 2]? = some (.cells #[.int .u8 0, .int .i64 0, .slice none 0 0, .int .u32 0, .int .u8 0, .int .i64 0, .int .i64 0, .int .u32 0, .int .i64 0, .slice none 0 0, .int .u32 0, .int .i64 0, .int .i64 0, .int .i64 0, .int .u32 0, .int .u32 0, .int .i64 0] 47 (0, 0)) := (hWo _ (by omega)).trans ((H6O.out _ (by omega)).trans ((HB5.out.block (w.heap.size + 2) (by omega)).trans HR.out))
    have rz : rng W (w.heap.size + 1 + 1 + 1) 0 17 = some #[.int .u8 17, .int .i64 0, .slice none 0 0, .int .u32 0, .int .u8 0, .int .i64 0, .int .i64 0, .int .u32 0, .int .i64 0, .slice none 0 0, .int .u32 0, .int .i64 0, .int .i64 0, .int .i64 0, .int .u32 0, .int .u32 0, .int .i64 0] := rng_whole hAW
    have hwh : whole W (w.heap.size + 1 + 1) 17 = true := whole_of_heap hRW
    have HWO := hide hWo
    have HWB := hide hWb
    have HRW := hide hRW
    clear hW hWo hWb hRW hAW
    go_wp2
    have hfin := heap_setRow_at (ds := #[.int .u8 17, .int .i64 0, .slice none 0 0, .int .u32 0, .int .u8 0, .int .i64 0, .int .i64 0, .int .u32 0, .int .i64 0, .slice none 0 0, .int .u32 0, .int .i64 0, .int .i64 0, .int .i64 0, .int .u32 0, .int .u32 0, .int .i64 0]) HRW.out
    refine bodyPost_ret (results_cell1 Tryd.results10 _ _ (w.heap.size + 2) _ _ _ _ rfl hfin Tryd.underlying47 rfl (by kernel_rfl)) rfl ?_
    have hoth : ∀ b, b ≠ w.heap.size + 2 → b ≠ w.heap.size + 3 → (W.setRow (w.heap.size + 2) #[.int .u8 17, .int .i64 0, .slice none 0 0, .int .u32 0, .int .u8 0, .int .i64 0, .int .i64 0, .int .u32 0, .int .i64 0, .slice none 0 0, .int .u32 0, .int .i64 0, .int .i64 0, .int .i64 0, .int .u32 0, .int .u32 0, .int .i64 0]).heap[b]? = w5.heap[b]? := fun b h1 h2 => (setRow_other _ _ _ _ h1).trans ((HWO.out b h2).trans (H6O.out b h2))
    have hcm := MCmd.around HM.out HB4.out hs4 (MCmd.after HM4.out HB5.out (MCmd.refl (HM4.out.ext HB5.out))) hoth (by simp; omega) (H6B.out.trans (HWB.out.trans (below_setRow' _ _ (by omega))))
    exact ret_ms (hide ⟨HAA.out.1.trans (by simp only [subR, hT]), HAA.out.2⟩ : Hid (AA = ({ code := 17 } : PA) ∧ TT = T ∧ FF = full)) ⟨_, _, { code := 17 }, rfl, hcm, ⟨u32s_none _, visits_any (visits_nil _ (fun _ => True)), by simp⟩⟩

end Go.Proofs.Qxb6500665aDoor
