/- The kinds of the model's step, walked. (Made by tools/mk_mstep.py.) -/
import Derived.Test.Qxb6500665aDoorMStep5
import Derived.Test.Qxb6500665aDoorAscLaw
namespace Go.Proofs.Qxb6500665aDoor
open Go.RowKit Go.Proofs.Qxb6500665aDoor.Cal Go.Maps

attribute [local go_sem ↓] exec_stAnswer exec_ldAnswer 
attribute [local go_sem] run_stAnswer run_ldAnswer rng_drew ext_const Ext.cell Ext.frozen Ext.rng Ext.whole ones17 

/-- A step that answers a list of which the members are known. -/
def MSL (w w' : World) (e : Ending) (M base N a p s u : Nat) (v : Value) (C : Nat → Prop) (T : Tab) (full : Bool) (P : Int → Prop) : Prop :=
  ∃ L : List Int, (∀ x, x ∈ L ↔ P x) ∧ L.Pairwise (fun a b => a < b) ∧ L.length ≤ N ∧ MSPost w w' e M base (N + 1) a p s u v C { list := L } T full

theorem invK_u32 (key : Value) (kl : Lit) (h : keyOf Tryd.prog 29 key = some kl) : ∃ x, key = Value.int .u32 x := by
  obtain ⟨x, rfl, _⟩ := Maps.keyOf_int_inv Tryd.underlying29 h
  exact ⟨x, rfl⟩
theorem keyOf_u32_inv {x : Int} {kl : Lit} (h : keyOf Tryd.prog 29 (.int .u32 x) = some kl) : kl = .int .u32 x ∧ U32 x := by
  obtain ⟨y, h1, h2, h3⟩ := Maps.keyOf_int_inv Tryd.underlying29 h
  cases h1
  exact ⟨h2, u32_wf h3⟩

theorem wpList_next_u32 (w : World) {ops : Array Oper} {rest : List Oper} {o : Oper} {a : Act} {Q : Exit → Act → World → Prop} (hg : o.guard = none) (it : Operand) (hop : o.op = Op.next it false) (b r n : Nat) (D : DataW Value) (left : Lit → Bool) (cnt : Nat)
    (hit : a.eval it = .pointer (some ⟨r, 0, none⟩)) (h : w.ranges Tryd.prog 29 heldElem b r n D left cnt)
    (hDone : cnt = 0 → (∀ kl, left kl = false) → wpList Tryd.prog ops Q rest (a.put o.dst (.tuple #[.bool false])) w)
    (hMore : ∀ (x : Int) (c : Value) (w' : World) (cnt' : Nat), U32 x → left (.int .u32 x) = true → w'.ranges Tryd.prog 29 heldElem b r n D (fun z => left z && !z.sameKey (.int .u32 x)) cnt' → cnt' < cnt →
      w.grownBy w' (some r) → w'.heap.size = w.heap.size → (Instr.entry (.pointer (some ⟨r, 0, none⟩))).run Tryd.prog w' = .ok (.tuple #[.int .u32 x, c]) w' → wpList Tryd.prog ops Q rest (a.put o.dst (.tuple #[.bool true, .int .u32 x, c])) w') :
    wpList Tryd.prog ops Q (o :: rest) a w :=
  wpList_next_ranges w hg it hop 29 Tryd.keyU heldElem (Value.int .u32) (fun c : Value => c) invK_u32 (fun v _ _ => ⟨v, rfl⟩) b r n D left cnt hit h hDone (fun x c kl y w' cnt' hkey hlk hv hat hrg hlt hgr hsz hen => by
    obtain ⟨rfl, hx⟩ := keyOf_u32_inv hkey
    exact hMore x c w' cnt' hx hlk hrg hlt hgr hsz hen)

set_option maxRecDepth 100000 in
theorem mstep1_calls (x : Int) (w : World) : Calls Tryd.prog 43 #[.int .u32 x] w fun e w' => e = .returned (.bool (allK x)) ∧ ∃ d, w' = w.drewN d := by
  go_enter Tryd.func43, Tryd.ntmps43
  go_wp2
  go_ret
  exact ⟨rfl, 0, rfl⟩

/-- Which subjects are kept. -/
def keepS (T : Tab) (ref x : Int) : Bool := decide (ref = 0) || decide (((T.sub x).map (·.1)).getD 0 = ref)

set_option maxRecDepth 100000 in
set_option maxHeartbeats 1000000 in
theorem mstep2_calls (W : World) (M base N a p s u : Nat) (v : Value) (C : Nat → Prop) (T : Tab) (full : Bool) (O P : Nat) (ref x : Int) (h : MAt W M base N a p s u v C T full) (hO : W.cell? ⟨O, 2, none⟩ = some (.int .u32 ref)) (hP : W.cell? ⟨P, 0, none⟩ = some (.pointer (some ⟨M, 0, none⟩))) (hx : U32 x) :
    Calls Tryd.prog 44 #[.int .u32 x, .pointer (some ⟨O, 0, none⟩), .pointer (some ⟨P, 0, none⟩)] W fun e w' => e = .returned (.bool (keepS T ref x)) ∧ ∃ d, w' = W.drewN d := by
  obtain ⟨R, hR⟩ : ∃ R, R = keepS T ref x := ⟨_, rfl⟩
  rw [← hR]
  have HR := hide hR
  clear hR
  obtain ⟨-, -, -, -, d4, -, -, -⟩ := cell_six h.top
  have hlk : ∀ X : Ext W.heap.size W, (Instr.lookup 67 (.map (some u)) (.int .u32 x) false).run Tryd.prog X.world = .ok (((T.sub x).map (suV x)).getD suZ) X.world := fun X => (h.sub.same (X.below.block u h.sub.lt)).look Tryd.mapSub (Tryd.zeroSub X.world) hx
  have hMl : M < W.heap.size := h.hlt M (Or.inl (by simp))
  have hOl : O < W.heap.size := World.block_lt_of_cell? W ⟨O, 2, none⟩ hO
  have hPl : P < W.heap.size := World.block_lt_of_cell? W ⟨P, 0, none⟩ hP
  clear h
  by_cases h0 : ref = 0
  · have HE : Hid (R = true) := by show _ = _; rw [HR.out]; simp [keepS, h0]
    have t0 : (ref == 0) = true := by simp [h0]
    clear h0 hlk
    go_enter Tryd.func44, Tryd.ntmps44
    go_upto_region 1 with fail
    refine wp_region_mixT (W.heap.size) [1, 4, 7, 9, 12] (by kernel_rfl) ?_
    refine mixT_slots [0] (fuel := 15) rfl (by kernel_rfl) (by kernel_rfl) (fun d _ _ _ _ h => by cases d <;> exact h) ?_
    simp only [opersAt, List.getElem?_toArray, List.getElem?_cons_zero]
    repeat (go_big_quiet_step (fail))
    refine wpQuiet_nil ?_
    refine mixT_reads [1] (fuel := 14) rfl (by kernel_rfl) (by decide) (by kernel_rfl) (fun d _ _ _ _ h => by cases d <;> exact h) (ext_drew _ _) ?_
    simp only [opersAt, List.getElem?_toArray, List.getElem?_cons_zero, List.getElem?_cons_succ]
    repeat (go_big_quiet_step (fail))
    refine wpQuiet_nil ?_
    refine mixT_slots [2, 3] (fuel := 12) rfl (by kernel_rfl) (by kernel_rfl) (fun d _ _ _ _ h => by cases d <;> exact h) ?_
    simp only [opersAt, List.getElem?_toArray, List.getElem?_cons_zero, List.getElem?_cons_succ]
    repeat (go_big_quiet_step (fail))
    refine wpQuiet_nil ?_
    refine mixT_reads [4] (fuel := 11) rfl (by kernel_rfl) (by decide) (by kernel_rfl) (fun d _ _ _ _ h => by cases d <;> exact h) (ext_drew _ _) ?_
    simp only [opersAt, List.getElem?_toArray, List.getElem?_cons_zero, List.getElem?_cons_succ]
    repeat (go_big_quiet_step (fail))
    refine wpQuiet_nil ?_
    refine mixT_slots [5, 6] (fuel := 9) rfl (by kernel_rfl) (by kernel_rfl) (fun d _ _ _ _ h => by cases d <;> exact h) ?_
    simp only [opersAt, List.getElem?_toArray, List.getElem?_cons_zero, List.getElem?_cons_succ]
    repeat (go_big_quiet_step (fail))
    refine wpQuiet_nil ?_
    refine mixT_reads [7] (fuel := 8) rfl (by kernel_rfl) (by decide) (by kernel_rfl) (fun d _ _ _ _ h => by cases d <;> exact h) (ext_drew _ _) ?_
    simp only [opersAt, List.getElem?_toArray, List.getElem?_cons_zero, List.getElem?_cons_succ]
    repeat (go_big_quiet_step (fail))
    refine wpQuiet_nil ?_
    refine mixT_slots [8] (fuel := 7) rfl (by kernel_rfl) (by kernel_rfl) (fun d _ _ _ _ h => by cases d <;> exact h) ?_
    simp only [opersAt, List.getElem?_toArray, List.getElem?_cons_zero, List.getElem?_cons_succ]
    repeat (go_big_quiet_step (fail))
    refine wpQuiet_nil ?_
    refine mixT_reads [9] (fuel := 6) rfl (by kernel_rfl) (by decide) (by kernel_rfl) (fun d _ _ _ _ h => by cases d <;> exact h) (ext_drew _ _) ?_
    simp only [opersAt, List.getElem?_toArray, List.getElem?_cons_zero, List.getElem?_cons_succ]
    repeat (go_big_quiet_step (fail))
    refine wpQuiet_nil ?_
    refine mixT_slots [10, 11] (fuel := 4) rfl (by kernel_rfl) (by kernel_rfl) (fun d _ _ _ _ h => by cases d <;> exact h) ?_
    simp only [opersAt, List.getElem?_toArray, List.getElem?_cons_zero, List.getElem?_cons_succ]
    repeat (go_big_quiet_step (fail))
    refine wpQuiet_nil ?_
    refine mixT_reads [12] (fuel := 3) rfl (by kernel_rfl) (by decide) (by kernel_rfl) (fun d _ _ _ _ h => by cases d <;> exact h) (ext_drew _ _) ?_
    simp only [opersAt, List.getElem?_toArray, List.getElem?_cons_zero, List.getElem?_cons_succ]
    repeat (go_big_quiet_step (fail))
    refine wpQuiet_nil ?_
    refine mixT_slots [13, 14] (fuel := 1) rfl (by kernel_rfl) (by kernel_rfl) (fun d _ _ _ _ h => by cases d <;> exact h) ?_
    simp only [opersAt, List.getElem?_toArray, List.getElem?_cons_zero, List.getElem?_cons_succ]
    repeat (go_big_quiet_step (fail))
    refine wpQuiet_nil ?_
    refine mixT_one (k := 15) (by kernel_rfl) rfl ?_
    go_wp2
    first | refine ⟨Or.inr (fun h => h), ?_⟩ | skip
    refine mixT_nil (by kernel_rfl) ?_
    go_wp2
    go_ret
    exact ⟨by rw [HE.out]; rfl, 1, rfl⟩
  · have t0 : (ref == 0) = false := by simp [h0]
    cases hT : T.sub x with
    | none =>
      rw [hT] at hlk
      simp only [Option.map_none, Option.getD_none, suZ] at hlk
      have hfd : ∀ W', (Instr.field 45 (.agg #[.int .u32 0, .int .u32 0, .int .i64 0]) 1).run Tryd.prog W' = .ok (.int .u32 0) W' := fun W' => by kernel_rfl
      have HE : Hid (R = (0 == ref)) := by
        show _ = _
        rw [HR.out]
        by_cases h9 : (0 : Int) = ref <;> simp [keepS, h0, hT, h9]
      clear h0 hT
      go_enter Tryd.func44, Tryd.ntmps44
      go_upto_region 1 with fail
      refine wp_region_mixT (W.heap.size) [1, 4, 7, 9, 12] (by kernel_rfl) ?_
      refine mixT_slots [0] (fuel := 15) rfl (by kernel_rfl) (by kernel_rfl) (fun d _ _ _ _ h => by cases d <;> exact h) ?_
      simp only [opersAt, List.getElem?_toArray, List.getElem?_cons_zero]
      repeat (go_big_quiet_step (fail))
      refine wpQuiet_nil ?_
      refine mixT_reads [1] (fuel := 14) rfl (by kernel_rfl) (by decide) (by kernel_rfl) (fun d _ _ _ _ h => by cases d <;> exact h) (ext_drew _ _) ?_
      simp only [opersAt, List.getElem?_toArray, List.getElem?_cons_zero, List.getElem?_cons_succ]
      repeat (go_big_quiet_step (fail))
      refine wpQuiet_nil ?_
      refine mixT_slots [2, 3] (fuel := 12) rfl (by kernel_rfl) (by kernel_rfl) (fun d _ _ _ _ h => by cases d <;> exact h) ?_
      simp only [opersAt, List.getElem?_toArray, List.getElem?_cons_zero, List.getElem?_cons_succ]
      repeat (go_big_quiet_step (fail))
      refine wpQuiet_nil ?_
      refine mixT_reads [4] (fuel := 11) rfl (by kernel_rfl) (by decide) (by kernel_rfl) (fun d _ _ _ _ h => by cases d <;> exact h) (ext_drew _ _) ?_
      simp only [opersAt, List.getElem?_toArray, List.getElem?_cons_zero, List.getElem?_cons_succ]
      repeat (go_big_quiet_step (fail))
      refine wpQuiet_nil ?_
      refine mixT_slots [5, 6] (fuel := 9) rfl (by kernel_rfl) (by kernel_rfl) (fun d _ _ _ _ h => by cases d <;> exact h) ?_
      simp only [opersAt, List.getElem?_toArray, List.getElem?_cons_zero, List.getElem?_cons_succ]
      repeat (go_big_quiet_step (fail))
      refine wpQuiet_nil ?_
      refine mixT_reads [7] (fuel := 8) rfl (by kernel_rfl) (by decide) (by kernel_rfl) (fun d _ _ _ _ h => by cases d <;> exact h) (ext_drew _ _) ?_
      simp only [opersAt, List.getElem?_toArray, List.getElem?_cons_zero, List.getElem?_cons_succ]
      repeat (go_big_quiet_step (fail))
      refine wpQuiet_nil ?_
      refine mixT_slots [8] (fuel := 7) rfl (by kernel_rfl) (by kernel_rfl) (fun d _ _ _ _ h => by cases d <;> exact h) ?_
      simp only [opersAt, List.getElem?_toArray, List.getElem?_cons_zero, List.getElem?_cons_succ]
      repeat (go_big_quiet_step (fail))
      refine wpQuiet_nil ?_
      refine mixT_reads [9] (fuel := 6) rfl (by kernel_rfl) (by decide) (by kernel_rfl) (fun d _ _ _ _ h => by cases d <;> exact h) (ext_drew _ _) ?_
      simp only [opersAt, List.getElem?_toArray, List.getElem?_cons_zero, List.getElem?_cons_succ]
      repeat (go_big_quiet_step (fail))
      refine wpQuiet_nil ?_
      refine mixT_slots [10, 11] (fuel := 4) rfl (by kernel_rfl) (by kernel_rfl) (fun d _ _ _ _ h => by cases d <;> exact h) ?_
      simp only [opersAt, List.getElem?_toArray, List.getElem?_cons_zero, List.getElem?_cons_succ]
      repeat (go_big_quiet_step (fail))
      refine wpQuiet_nil ?_
      refine mixT_reads [12] (fuel := 3) rfl (by kernel_rfl) (by decide) (by kernel_rfl) (fun d _ _ _ _ h => by cases d <;> exact h) (ext_drew _ _) ?_
      simp only [opersAt, List.getElem?_toArray, List.getElem?_cons_zero, List.getElem?_cons_succ]
      repeat (go_big_quiet_step (fail))
      refine wpQuiet_nil ?_
      refine mixT_slots [13, 14] (fuel := 1) rfl (by kernel_rfl) (by kernel_rfl) (fun d _ _ _ _ h => by cases d <;> exact h) ?_
      simp only [opersAt, List.getElem?_toArray, List.getElem?_cons_zero, List.getElem?_cons_succ]
      repeat (go_big_quiet_step (fail))
      refine wpQuiet_nil ?_
      refine mixT_one (k := 15) (by kernel_rfl) rfl ?_
      go_wp2
      first | refine ⟨Or.inr (fun h => h), ?_⟩ | skip
      refine mixT_nil (by kernel_rfl) ?_
      go_wp2
      go_ret
      exact ⟨by rw [HE.out]; rfl, 1, rfl⟩
    | some l =>
      rw [hT] at hlk
      simp only [Option.map_some, Option.getD_some, suV] at hlk
      have hfd : ∀ W', (Instr.field 45 (.agg #[.int .u32 x, .int .u32 l.1, .int .i64 l.2]) 1).run Tryd.prog W' = .ok (.int .u32 l.1) W' := fun W' => by kernel_rfl
      have HE : Hid (R = (l.1 == ref)) := by
        show _ = _
        rw [HR.out]
        by_cases h9 : l.1 = ref <;> simp [keepS, h0, hT, h9]
      clear h0 hT
      go_enter Tryd.func44, Tryd.ntmps44
      go_upto_region 1 with fail
      refine wp_region_mixT (W.heap.size) [1, 4, 7, 9, 12] (by kernel_rfl) ?_
      refine mixT_slots [0] (fuel := 15) rfl (by kernel_rfl) (by kernel_rfl) (fun d _ _ _ _ h => by cases d <;> exact h) ?_
      simp only [opersAt, List.getElem?_toArray, List.getElem?_cons_zero]
      repeat (go_big_quiet_step (fail))
      refine wpQuiet_nil ?_
      refine mixT_reads [1] (fuel := 14) rfl (by kernel_rfl) (by decide) (by kernel_rfl) (fun d _ _ _ _ h => by cases d <;> exact h) (ext_drew _ _) ?_
      simp only [opersAt, List.getElem?_toArray, List.getElem?_cons_zero, List.getElem?_cons_succ]
      repeat (go_big_quiet_step (fail))
      refine wpQuiet_nil ?_
      refine mixT_slots [2, 3] (fuel := 12) rfl (by kernel_rfl) (by kernel_rfl) (fun d _ _ _ _ h => by cases d <;> exact h) ?_
      simp only [opersAt, List.getElem?_toArray, List.getElem?_cons_zero, List.getElem?_cons_succ]
      repeat (go_big_quiet_step (fail))
      refine wpQuiet_nil ?_
      refine mixT_reads [4] (fuel := 11) rfl (by kernel_rfl) (by decide) (by kernel_rfl) (fun d _ _ _ _ h => by cases d <;> exact h) (ext_drew _ _) ?_
      simp only [opersAt, List.getElem?_toArray, List.getElem?_cons_zero, List.getElem?_cons_succ]
      repeat (go_big_quiet_step (fail))
      refine wpQuiet_nil ?_
      refine mixT_slots [5, 6] (fuel := 9) rfl (by kernel_rfl) (by kernel_rfl) (fun d _ _ _ _ h => by cases d <;> exact h) ?_
      simp only [opersAt, List.getElem?_toArray, List.getElem?_cons_zero, List.getElem?_cons_succ]
      repeat (go_big_quiet_step (fail))
      refine wpQuiet_nil ?_
      refine mixT_reads [7] (fuel := 8) rfl (by kernel_rfl) (by decide) (by kernel_rfl) (fun d _ _ _ _ h => by cases d <;> exact h) (ext_drew _ _) ?_
      simp only [opersAt, List.getElem?_toArray, List.getElem?_cons_zero, List.getElem?_cons_succ]
      repeat (go_big_quiet_step (fail))
      refine wpQuiet_nil ?_
      refine mixT_slots [8] (fuel := 7) rfl (by kernel_rfl) (by kernel_rfl) (fun d _ _ _ _ h => by cases d <;> exact h) ?_
      simp only [opersAt, List.getElem?_toArray, List.getElem?_cons_zero, List.getElem?_cons_succ]
      repeat (go_big_quiet_step (fail))
      refine wpQuiet_nil ?_
      refine mixT_reads [9] (fuel := 6) rfl (by kernel_rfl) (by decide) (by kernel_rfl) (fun d _ _ _ _ h => by cases d <;> exact h) (ext_drew _ _) ?_
      simp only [opersAt, List.getElem?_toArray, List.getElem?_cons_zero, List.getElem?_cons_succ]
      repeat (go_big_quiet_step (fail))
      refine wpQuiet_nil ?_
      refine mixT_slots [10, 11] (fuel := 4) rfl (by kernel_rfl) (by kernel_rfl) (fun d _ _ _ _ h => by cases d <;> exact h) ?_
      simp only [opersAt, List.getElem?_toArray, List.getElem?_cons_zero, List.getElem?_cons_succ]
      repeat (go_big_quiet_step (fail))
      refine wpQuiet_nil ?_
      refine mixT_reads [12] (fuel := 3) rfl (by kernel_rfl) (by decide) (by kernel_rfl) (fun d _ _ _ _ h => by cases d <;> exact h) (ext_drew _ _) ?_
      simp only [opersAt, List.getElem?_toArray, List.getElem?_cons_zero, List.getElem?_cons_succ]
      repeat (go_big_quiet_step (fail))
      refine wpQuiet_nil ?_
      refine mixT_slots [13, 14] (fuel := 1) rfl (by kernel_rfl) (by kernel_rfl) (fun d _ _ _ _ h => by cases d <;> exact h) ?_
      simp only [opersAt, List.getElem?_toArray, List.getElem?_cons_zero, List.getElem?_cons_succ]
      repeat (go_big_quiet_step (fail))
      refine wpQuiet_nil ?_
      refine mixT_one (k := 15) (by kernel_rfl) rfl ?_
      go_wp2
      first | refine ⟨Or.inr (fun h => h), ?_⟩ | skip
      refine mixT_nil (by kernel_rfl) ?_
      go_wp2
      go_ret
      exact ⟨by rw [HE.out]; rfl, 1, rfl⟩

set_option maxRecDepth 100000 in
set_option maxHeartbeats 8000000 in
theorem mstep_14 (w : World) (M base N a p s u : Nat) (v : Value) (C : Nat → Prop) (T : Tab) (full : Bool) (o : Op) (la va : Option Addr) (ln lc vn vc : Nat) (h : MAt w M base N a p s u v C T full) (hN : N ≤ 5000000) (hk : o.kind = 14) :
    Calls Tryd.prog 10 #[.pointer (some ⟨M, 0, none⟩), .agg (opCs o (.slice la ln lc) (.slice va vn vc))] w fun e w' => MSL w w' e M base N a p s u v C T full (fun x => U32 x ∧ T.site x = true) := by
  obtain ⟨w4, HW4, hb4, hs4, hP, hX, hR, hA⟩ := mstep_start w o la va ln lc vn vc M
  obtain ⟨okind, oid, oref, omin, odel, ol0, ol1, ol2, olist, ovis⟩ := o
  simp only at hk
  simp only [opCs, ansCs, sv] at hX HW4 hR hA ⊢
  obtain ⟨PP, hPP⟩ : ∃ PP : Int → Prop, PP = (fun x => U32 x ∧ T.site x = true) := ⟨_, rfl⟩
  rw [← hPP]
  have HPP := hide hPP
  clear hPP
  have p0 : w4.cell? ⟨w.heap.size, 0, none⟩ = some (.pointer (some ⟨M, 0, none⟩)) := by rw [World.cell?, hP]; rfl
  have x0 : w4.cell? ⟨w.heap.size + 1, 0, none⟩ = some (.int .u8 okind) := by rw [World.cell?, hX]; rfl
  have x1 : w4.cell? ⟨w.heap.size + 1, 1, none⟩ = some (.int .u32 oid) := by rw [World.cell?, hX]; rfl
  have x2 : w4.cell? ⟨w.heap.size + 1, 2, none⟩ = some (.int .u32 oref) := by rw [World.cell?, hX]; rfl
  have x3 : w4.cell? ⟨w.heap.size + 1, 3, none⟩ = some (.int .i64 omin) := by rw [World.cell?, hX]; rfl
  have x4 : w4.cell? ⟨w.heap.size + 1, 4, none⟩ = some (.int .i64 odel) := by rw [World.cell?, hX]; rfl
  have x5 : w4.cell? ⟨w.heap.size + 1, 5, none⟩ = some (.int .i64 ol0) := by rw [World.cell?, hX]; rfl
  have x6 : w4.cell? ⟨w.heap.size + 1, 6, none⟩ = some (.int .i64 ol1) := by rw [World.cell?, hX]; rfl
  have x7 : w4.cell? ⟨w.heap.size + 1, 7, none⟩ = some (.int .i64 ol2) := by rw [World.cell?, hX]; rfl
  have x8 : w4.cell? ⟨w.heap.size + 1, 8, none⟩ = some (.slice la ln lc) := by rw [World.cell?, hX]; rfl
  have x9 : w4.cell? ⟨w.heap.size + 1, 9, none⟩ = some (.slice va vn vc) := by rw [World.cell?, hX]; rfl
  have HM := hide h
  have HM4 := hide (h.ext hb4)
  have hMl := h.hlt M (Or.inl (by simp))
  have hM4 : M < w.heap.size + 4 := by omega
  have hM4' : M < w4.heap.size := by omega
  have HB4 := hide hb4
  have HR := hide hR
  have HA := hide hA
  have HX := hide hX
  have HP := hide hP
  have hbs := h.bs
  subst hk
  clear h hb4 hR hA hX hP
  go_enter Tryd.func10, Tryd.ntmps10
  go_upto_region 2 with fail
  rw [← HW4.out]
  clear HW4
  obtain ⟨D, hown, hD⟩ := HM4.out.site
  have HD := hide hD
  obtain ⟨d0, d1, d2, d3, d4, d5, -, -⟩ := cell_six HM4.out.top
  clear hD
  go_upto_region 51 with (at_range; refine wpList_range_own _ rfl _ 66 rfl 29 4 Tryd.keyU Tryd.mapSite heldElem s N D rfl hown ?_; intro w5 hrg0 hg0 hs5)
  first | go_frame | skip
  rw [hs4] at hrg0 hs5
  have HG0 := hide hg0
  have hb45 : Below w4.heap.size w4 w5 := (Below.refl _ _).grown hg0 (Nat.le_refl _) (fun k hk => by cases hk)
  have HB45 := hide hb45
  have hmb : s < w.heap.size := HM.out.hlt _ (Or.inl (by simp))
  have hcn := ranges_cnt hrg0
  have HRG0 := hide hrg0
  obtain ⟨cn, hcneq⟩ : ∃ cn, cn = Maps.size D := ⟨_, rfl⟩
  rw [← hcneq] at HRG0 hcn
  clear hrg0 hg0 hown hb45 hcneq
  go_loopg [15] cn (fun g x wr => ∃ (left : Lit → Bool) (acc : List Int), Hid (wr.ranges Tryd.prog 29 heldElem s (w.heap.size + 4) N D left g) ∧ Hid (OwnR wr (w.heap.size + 5) 29 1 u32Cs x acc) ∧ Hid (Coll D left acc) ∧ Hid (Below w4.heap.size w4 wr) ∧ w.heap.size + 5 ≤ wr.heap.size ∧ acc.length + g ≤ cn)
  case atStart => exact ⟨_, [], HRG0, OwnR.nil _ _ _ _ _, Coll.start D, HB45, by omega, by simp⟩
  case round =>
    obtain ⟨left, acc, HRG, HO, HCL, HBR, hsr, hac⟩ := hrel
    go_wp2_with (at_next; refine wpList_next_u32 _ rfl _ rfl s (w.heap.size + 4) N D left _ rfl HRG.out ?_ ?_)
    · intro hc0 hl0
      have HL0 := hide hl0
      obtain ⟨ca, cc, hcv⟩ := HO.out.form
      subst hcv
      have hkp : Keeps wr 43 #[] allK acc := fun W x _ _ => mstep1_calls x W
      have HASC := hide (ascending_m wr 43 #[] (allK) acc ca acc.length cc _ (fun args w => by kernel_rfl) hkp (HO.out.rows u32Cs_size (by decide) (by omega)) (by omega))
      clear hc0 hl0
      go_upto_region 75 with (go_at_call 42; refine HASC.out.mono ?_; rintro e w9 ⟨v9, rfl, hown9, hb9⟩; obtain ⟨sa, sc, hlv⟩ := hown9.form; have hll := ascL_len (allK) acc; have HV : Hid (U32sAt w9 (wr.heap.size ≤ ·) v9 (ascL (allK) acc)) := (hown9.rows u32Cs_size (by decide) (Nat.le_trans hll (by omega))); have HLL := hide hll; generalize hsn : (ascL (allK) acc).length = sn at hlv; subst hlv; have hb5 : Below w4.heap.size w4 w9 := (HBR.out.trans (hb9.mono HBR.out.size)); have hA5 : w9.heap[w.heap.size + 3]? = _ := (hb5.block (w.heap.size + 3) (by omega)).trans HA.out; have a2 : w9.cell? ⟨w.heap.size + 1 + 1 + 1, 2, none⟩ = some (.slice none 0 0) := (by rw [World.cell?, show w.heap.size + 1 + 1 + 1 = w.heap.size + 3 from rfl, hA5]; rfl); have f2 : w9.frozen? ⟨w.heap.size + 1 + 1 + 1, 2, none⟩ = false := (by rw [World.frozen?, show w.heap.size + 1 + 1 + 1 = w.heap.size + 3 from rfl, hA5]; rfl); have HB5 := hide hb5; have hz9 := hb9.size; clear hb5 hsn hown9 hb9 hll)
      have hz5 := HB5.out.size
      obtain ⟨W, hW⟩ : ∃ W, W = (w9.setCell ⟨w.heap.size + 1 + 1 + 1, 2, none⟩ (.slice sa sn sc)) := ⟨_, rfl⟩
      have hS0 : (w9.setCell ⟨w.heap.size + 1 + 1 + 1, 2, none⟩ (.slice sa sn sc)).heap[w.heap.size + 3]? = some (.cells #[.int .u8 0, .int .i64 0, .slice sa sn sc, .int .u32 0, .int .u8 0, .int .i64 0, .int .i64 0, .int .u32 0, .int .i64 0, .slice none 0 0, .int .u32 0, .int .i64 0, .int .i64 0, .int .i64 0, .int .u32 0, .int .u32 0, .int .i64 0] 47 (0, 0)) := heap_setCell_same _ (w.heap.size + 3) 2 _ _ (.slice sa sn sc) hA5
      have hAW : W.heap[w.heap.size + 3]? = some (.cells #[.int .u8 0, .int .i64 0, .slice sa sn sc, .int .u32 0, .int .u8 0, .int .i64 0, .int .i64 0, .int .u32 0, .int .i64 0, .slice none 0 0, .int .u32 0, .int .i64 0, .int .i64 0, .int .i64 0, .int .u32 0, .int .u32 0, .int .i64 0] 47 (0, 0)) := by rw [hW]; exact hS0
      have hWo : ∀ b, b ≠ w.heap.size + 3 → W.heap[b]? = w9.heap[b]? := fun b hb => by rw [hW]; exact (Below.heap_setCell _ _ _ _ hb)
      have hWs : w9.heap.size ≤ W.heap.size := by rw [hW]; simp [World.setCell]
      have hWb : Below base w9 W := by rw [hW]; exact ((Below.refl _ _).setCell (p := ⟨w.heap.size + 1 + 1 + 1, 2, none⟩) (by show base ≤ w.heap.size + 1 + 1 + 1; omega) _)
      rw [← hW]
      have hRW : W.heap[w.heap.size + 2]? = some (.cells #[.int .u8 0, .int .i64 0, .slice none 0 0, .int .u32 0, .int .u8 0, .int .i64 0, .int .i64 0, .int .u32 0, .int .i64 0, .slice none 0 0, .int .u32 0, .int .i64 0, .int .i64 0, .int .i64 0, .int .u32 0, .int .u32 0, .int .i64 0] 47 (0, 0)) := (hWo _ (by omega)).trans ((HB5.out.block (w.heap.size + 2) (by omega)).trans HR.out)
      have rz : rng W (w.heap.size + 1 + 1 + 1) 0 17 = some #[.int .u8 0, .int .i64 0, .slice sa sn sc, .int .u32 0, .int .u8 0, .int .i64 0, .int .i64 0, .int .u32 0, .int .i64 0, .slice none 0 0, .int .u32 0, .int .i64 0, .int .i64 0, .int .i64 0, .int .u32 0, .int .u32 0, .int .i64 0] := rng_whole hAW
      have hwh : whole W (w.heap.size + 1 + 1) 17 = true := whole_of_heap hRW
      have HWO := hide hWo
      have HWB := hide hWb
      have HRW := hide hRW
      clear hW hWo hWb hRW hAW
      go_wp2
      have hfin := heap_setRow_at (ds := #[.int .u8 0, .int .i64 0, .slice sa sn sc, .int .u32 0, .int .u8 0, .int .i64 0, .int .i64 0, .int .u32 0, .int .i64 0, .slice none 0 0, .int .u32 0, .int .i64 0, .int .i64 0, .int .i64 0, .int .u32 0, .int .u32 0, .int .i64 0]) HRW.out
      refine bodyPost_ret (results_cell1 Tryd.results10 _ _ (w.heap.size + 2) _ _ _ _ rfl hfin Tryd.underlying47 rfl (by kernel_rfl)) rfl ?_
      have hoth : ∀ b, b ≠ w.heap.size + 2 → b ≠ w.heap.size + 3 → (W.setRow (w.heap.size + 2) #[.int .u8 0, .int .i64 0, .slice sa sn sc, .int .u32 0, .int .u8 0, .int .i64 0, .int .i64 0, .int .u32 0, .int .i64 0, .slice none 0 0, .int .u32 0, .int .i64 0, .int .i64 0, .int .i64 0, .int .u32 0, .int .u32 0, .int .i64 0]).heap[b]? = w9.heap[b]? := fun b h1 h2 => (setRow_other _ _ _ _ h1).trans (HWO.out b h2)
      have hcm := MCmd.around HM.out HB4.out hs4 (MCmd.after HM4.out HB5.out (MCmd.refl (HM4.out.ext HB5.out))) hoth (by simp; omega) (HWB.out.trans (below_setRow' _ _ (by omega)))
      refine ⟨ascL (allK) acc, fun x => ?_, ascL_strict _ _, by have := HLL.out; omega, _, _, { list := (sa, sn, sc) }, rfl, hcm, ⟨u32s_any (HV.out.mono (fun b hb => hoth b (by have h9 : wr.heap.size ≤ b := hb; omega) (by have h9 : wr.heap.size ≤ b := hb; omega)) (fun _ h => h)), visits_any (visits_nil _ (fun _ => True)), by simp⟩⟩
      rw [ascL_mem, HCL.out.mem, HPP.out]
      constructor
      · rintro ⟨⟨h1, h2, -⟩, -⟩
        refine ⟨h1, ?_⟩
        rw [(HD.out x h1).1] at h2
        cases hs : T.site x with
        | true => rfl
        | false => rw [hs] at h2; cases h2
      · rintro ⟨h1, h2⟩
        exact ⟨⟨h1, by rw [(HD.out x h1).1, h2]; rfl, HL0.out _⟩, rfl⟩
    · intro x c w1 cnt1 hxU hlk hrg1 hlt hg1 hs1 hen
      have hhas : Maps.has D (.int .u32 x) = true := ranges_has HRG.out (by simp [Lit.sameKey]) hlk
      have HC1 := hide (HCL.out.step hxU hlk hhas)
      have HO1 : Hid (OwnR w1 (w.heap.size + 5) 29 1 u32Cs u15 acc) := HO.out.mono (fun b hb => hg1.block b (HO.out.block b hb).2 (fun e => by injection e with e; have := (HO.out.block b hb).1; omega))
      have HB1 : Hid (Below w4.heap.size w4 w1) := HBR.out.grown hg1 HBR.out.size (fun k hk => by cases hk; omega)
      have HRG1 := hide hrg1
      have hz1 : w.heap.size + 5 ≤ w1.heap.size := by omega
      clear hlk hrg1 hg1 hhas hs1
      go_wp2_with (at_builtin; refine wpList_app1 (α := Int) rfl _ _ 31 rfl (w.heap.size + 5) 29 u32Cs Tryd.underlying31 Tryd.info29 rfl (by decide) u32Cs_size u32Cs_one _ acc rfl (OwnR.below HO1.out ((Below.refl _ _).alloc (Nat.le_refl _) _) (Nat.le_refl _)) _ rfl x (by rw [rng_alloc_at _ _ _ _ _ _ _ (by first | rfl | simp)]; rfl) (by omega) (by unfold maxLen; omega) (by simp; omega) ?_; intro v8 w8 hown8 hsame8 hbel8 hat8)
      have hz8 : w1.heap.size + 1 ≤ w8.heap.size := by have := hbel8.size; simpa using this
      have hbl : ∀ b, b < w.heap.size + 5 → w8.heap[b]? = w1.heap[b]? := fun b hb => (hbel8.block b hb).trans (Below.heap_alloc _ _ _ (by omega))
      go_roundg cnt1
      case measure => exact hlt
      case rel => exact ⟨_, acc ++ [x], ranges_blocks HRG1.out (hbl _ (by omega)) (hbl _ (by omega)), hown8, HC1, (HB1.out.alloc (by omega) _).trans (hbel8.mono (by omega)), by omega, by simp; omega⟩

set_option maxRecDepth 100000 in
set_option maxHeartbeats 8000000 in
theorem mstep_15 (w : World) (M base N a p s u : Nat) (v : Value) (C : Nat → Prop) (T : Tab) (full : Bool) (o : Op) (la va : Option Addr) (ln lc vn vc : Nat) (h : MAt w M base N a p s u v C T full) (hN : N ≤ 5000000) (hk : o.kind = 15) :
    Calls Tryd.prog 10 #[.pointer (some ⟨M, 0, none⟩), .agg (opCs o (.slice la ln lc) (.slice va vn vc))] w fun e w' => MSL w w' e M base N a p s u v C T full (fun x => U32 x ∧ ∃ l, T.sub x = some l ∧ (o.ref = 0 ∨ l.1 = o.ref)) := by
  obtain ⟨w4, HW4, hb4, hs4, hP, hX, hR, hA⟩ := mstep_start w o la va ln lc vn vc M
  obtain ⟨okind, oid, oref, omin, odel, ol0, ol1, ol2, olist, ovis⟩ := o
  simp only at hk
  simp only [opCs, ansCs, sv] at hX HW4 hR hA ⊢
  obtain ⟨PP, hPP⟩ : ∃ PP : Int → Prop, PP = (fun x => U32 x ∧ ∃ l, T.sub x = some l ∧ (oref = 0 ∨ l.1 = oref)) := ⟨_, rfl⟩
  rw [← hPP]
  have HPP := hide hPP
  clear hPP
  have p0 : w4.cell? ⟨w.heap.size, 0, none⟩ = some (.pointer (some ⟨M, 0, none⟩)) := by rw [World.cell?, hP]; rfl
  have x0 : w4.cell? ⟨w.heap.size + 1, 0, none⟩ = some (.int .u8 okind) := by rw [World.cell?, hX]; rfl
  have x1 : w4.cell? ⟨w.heap.size + 1, 1, none⟩ = some (.int .u32 oid) := by rw [World.cell?, hX]; rfl
  have x2 : w4.cell? ⟨w.heap.size + 1, 2, none⟩ = some (.int .u32 oref) := by rw [World.cell?, hX]; rfl
  have x3 : w4.cell? ⟨w.heap.size + 1, 3, none⟩ = some (.int .i64 omin) := by rw [World.cell?, hX]; rfl
  have x4 : w4.cell? ⟨w.heap.size + 1, 4, none⟩ = some (.int .i64 odel) := by rw [World.cell?, hX]; rfl
  have x5 : w4.cell? ⟨w.heap.size + 1, 5, none⟩ = some (.int .i64 ol0) := by rw [World.cell?, hX]; rfl
  have x6 : w4.cell? ⟨w.heap.size + 1, 6, none⟩ = some (.int .i64 ol1) := by rw [World.cell?, hX]; rfl
  have x7 : w4.cell? ⟨w.heap.size + 1, 7, none⟩ = some (.int .i64 ol2) := by rw [World.cell?, hX]; rfl
  have x8 : w4.cell? ⟨w.heap.size + 1, 8, none⟩ = some (.slice la ln lc) := by rw [World.cell?, hX]; rfl
  have x9 : w4.cell? ⟨w.heap.size + 1, 9, none⟩ = some (.slice va vn vc) := by rw [World.cell?, hX]; rfl
  have HM := hide h
  have HM4 := hide (h.ext hb4)
  have hMl := h.hlt M (Or.inl (by simp))
  have hM4 : M < w.heap.size + 4 := by omega
  have hM4' : M < w4.heap.size := by omega
  have HB4 := hide hb4
  have HR := hide hR
  have HA := hide hA
  have HX := hide hX
  have HP := hide hP
  have hbs := h.bs
  subst hk
  clear h hb4 hR hA hX hP
  go_enter Tryd.func10, Tryd.ntmps10
  go_upto_region 2 with fail
  rw [← HW4.out]
  clear HW4
  obtain ⟨D, hown, hD⟩ := HM4.out.sub
  have HD := hide hD
  obtain ⟨d0, d1, d2, d3, d4, d5, -, -⟩ := cell_six HM4.out.top
  clear hD
  go_upto_region 58 with (at_range; refine wpList_range_own _ rfl _ 67 rfl 29 45 Tryd.keyU Tryd.mapSub heldElem u N D rfl hown ?_; intro w5 hrg0 hg0 hs5)
  first | go_frame | skip
  rw [hs4] at hrg0 hs5
  have HG0 := hide hg0
  have hb45 : Below w4.heap.size w4 w5 := (Below.refl _ _).grown hg0 (Nat.le_refl _) (fun k hk => by cases hk)
  have HB45 := hide hb45
  have hmb : u < w.heap.size := HM.out.hlt _ (Or.inl (by simp))
  have hcn := ranges_cnt hrg0
  have HRG0 := hide hrg0
  obtain ⟨cn, hcneq⟩ : ∃ cn, cn = Maps.size D := ⟨_, rfl⟩
  rw [← hcneq] at HRG0 hcn
  clear hrg0 hg0 hown hb45 hcneq
  go_loopg [17] cn (fun g x wr => ∃ (left : Lit → Bool) (acc : List Int), Hid (wr.ranges Tryd.prog 29 heldElem u (w.heap.size + 4) N D left g) ∧ Hid (OwnR wr (w.heap.size + 5) 29 1 u32Cs x acc) ∧ Hid (Coll D left acc) ∧ Hid (Below w4.heap.size w4 wr) ∧ w.heap.size + 5 ≤ wr.heap.size ∧ acc.length + g ≤ cn)
  case atStart => exact ⟨_, [], HRG0, OwnR.nil _ _ _ _ _, Coll.start D, HB45, by omega, by simp⟩
  case round =>
    obtain ⟨left, acc, HRG, HO, HCL, HBR, hsr, hac⟩ := hrel
    go_wp2_with (at_next; refine wpList_next_u32 _ rfl _ rfl u (w.heap.size + 4) N D left _ rfl HRG.out ?_ ?_)
    · intro hc0 hl0
      have HL0 := hide hl0
      obtain ⟨ca, cc, hcv⟩ := HO.out.form
      subst hcv
      have hkp : Keeps wr 44 #[.pointer (some ⟨w.heap.size + 1, 0, none⟩), .pointer (some ⟨w.heap.size, 0, none⟩)] (keepS T oref) acc := fun W x hW hx => by
        have hb4 : Below w4.heap.size w4 W := HBR.out.trans (hW.mono HBR.out.size)
        exact mstep2_calls W M base N a p s u v C T full (w.heap.size + 1) w.heap.size oref x (HM4.out.ext hb4) ((hb4.cell (p := ⟨w.heap.size + 1, 2, none⟩) (by show w.heap.size + 1 < w4.heap.size; omega)).trans x2) ((hb4.cell (p := ⟨w.heap.size, 0, none⟩) (by show w.heap.size < w4.heap.size; omega)).trans p0) ((HCL.out.mem x).1 hx).1
      have HASC := hide (ascending_m wr 44 #[.pointer (some ⟨w.heap.size + 1, 0, none⟩), .pointer (some ⟨w.heap.size, 0, none⟩)] (keepS T oref) acc ca acc.length cc _ (fun args w => by kernel_rfl) hkp (HO.out.rows u32Cs_size (by decide) (by omega)) (by omega))
      clear hc0 hl0
      go_upto_region 75 with (go_at_call 42; refine HASC.out.mono ?_; rintro e w9 ⟨v9, rfl, hown9, hb9⟩; obtain ⟨sa, sc, hlv⟩ := hown9.form; have hll := ascL_len (keepS T oref) acc; have HV : Hid (U32sAt w9 (wr.heap.size ≤ ·) v9 (ascL (keepS T oref) acc)) := (hown9.rows u32Cs_size (by decide) (Nat.le_trans hll (by omega))); have HLL := hide hll; generalize hsn : (ascL (keepS T oref) acc).length = sn at hlv; subst hlv; have hb5 : Below w4.heap.size w4 w9 := (HBR.out.trans (hb9.mono HBR.out.size)); have hA5 : w9.heap[w.heap.size + 3]? = _ := (hb5.block (w.heap.size + 3) (by omega)).trans HA.out; have a2 : w9.cell? ⟨w.heap.size + 1 + 1 + 1, 2, none⟩ = some (.slice none 0 0) := (by rw [World.cell?, show w.heap.size + 1 + 1 + 1 = w.heap.size + 3 from rfl, hA5]; rfl); have f2 : w9.frozen? ⟨w.heap.size + 1 + 1 + 1, 2, none⟩ = false := (by rw [World.frozen?, show w.heap.size + 1 + 1 + 1 = w.heap.size + 3 from rfl, hA5]; rfl); have HB5 := hide hb5; have hz9 := hb9.size; clear hb5 hsn hown9 hb9 hll)
      have hz5 := HB5.out.size
      obtain ⟨W, hW⟩ : ∃ W, W = (w9.setCell ⟨w.heap.size + 1 + 1 + 1, 2, none⟩ (.slice sa sn sc)) := ⟨_, rfl⟩
      have hS0 : (w9.setCell ⟨w.heap.size + 1 + 1 + 1, 2, none⟩ (.slice sa sn sc)).heap[w.heap.size + 3]? = some (.cells #[.int .u8 0, .int .i64 0, .slice sa sn sc, .int .u32 0, .int .u8 0, .int .i64 0, .int .i64 0, .int .u32 0, .int .i64 0, .slice none 0 0, .int .u32 0, .int .i64 0, .int .i64 0, .int .i64 0, .int .u32 0, .int .u32 0, .int .i64 0] 47 (0, 0)) := heap_setCell_same _ (w.heap.size + 3) 2 _ _ (.slice sa sn sc) hA5
      have hAW : W.heap[w.heap.size + 3]? = some (.cells #[.int .u8 0, .int .i64 0, .slice sa sn sc, .int .u32 0, .int .u8 0, .int .i64 0, .int .i64 0, .int .u32 0, .int .i64 0, .slice none 0 0, .int .u32 0, .int .i64 0, .int .i64 0, .int .i64 0, .int .u32 0, .int .u32 0, .int .i64 0] 47 (0, 0)) := by rw [hW]; exact hS0
      have hWo : ∀ b, b ≠ w.heap.size + 3 → W.heap[b]? = w9.heap[b]? := fun b hb => by rw [hW]; exact (Below.heap_setCell _ _ _ _ hb)
      have hWs : w9.heap.size ≤ W.heap.size := by rw [hW]; simp [World.setCell]
      have hWb : Below base w9 W := by rw [hW]; exact ((Below.refl _ _).setCell (p := ⟨w.heap.size + 1 + 1 + 1, 2, none⟩) (by show base ≤ w.heap.size + 1 + 1 + 1; omega) _)
      rw [← hW]
      have hRW : W.heap[w.heap.size + 2]? = some (.cells #[.int .u8 0, .int .i64 0, .slice none 0 0, .int .u32 0, .int .u8 0, .int .i64 0, .int .i64 0, .int .u32 0, .int .i64 0, .slice none 0 0, .int .u32 0, .int .i64 0, .int .i64 0, .int .i64 0, .int .u32 0, .int .u32 0, .int .i64 0] 47 (0, 0)) := (hWo _ (by omega)).trans ((HB5.out.block (w.heap.size + 2) (by omega)).trans HR.out)
      have rz : rng W (w.heap.size + 1 + 1 + 1) 0 17 = some #[.int .u8 0, .int .i64 0, .slice sa sn sc, .int .u32 0, .int .u8 0, .int .i64 0, .int .i64 0, .int .u32 0, .int .i64 0, .slice none 0 0, .int .u32 0, .int .i64 0, .int .i64 0, .int .i64 0, .int .u32 0, .int .u32 0, .int .i64 0] := rng_whole hAW
      have hwh : whole W (w.heap.size + 1 + 1) 17 = true := whole_of_heap hRW
      have HWO := hide hWo
      have HWB := hide hWb
      have HRW := hide hRW
      clear hW hWo hWb hRW hAW
      go_wp2
      have hfin := heap_setRow_at (ds := #[.int .u8 0, .int .i64 0, .slice sa sn sc, .int .u32 0, .int .u8 0, .int .i64 0, .int .i64 0, .int .u32 0, .int .i64 0, .slice none 0 0, .int .u32 0, .int .i64 0, .int .i64 0, .int .i64 0, .int .u32 0, .int .u32 0, .int .i64 0]) HRW.out
      refine bodyPost_ret (results_cell1 Tryd.results10 _ _ (w.heap.size + 2) _ _ _ _ rfl hfin Tryd.underlying47 rfl (by kernel_rfl)) rfl ?_
      have hoth : ∀ b, b ≠ w.heap.size + 2 → b ≠ w.heap.size + 3 → (W.setRow (w.heap.size + 2) #[.int .u8 0, .int .i64 0, .slice sa sn sc, .int .u32 0, .int .u8 0, .int .i64 0, .int .i64 0, .int .u32 0, .int .i64 0, .slice none 0 0, .int .u32 0, .int .i64 0, .int .i64 0, .int .i64 0, .int .u32 0, .int .u32 0, .int .i64 0]).heap[b]? = w9.heap[b]? := fun b h1 h2 => (setRow_other _ _ _ _ h1).trans (HWO.out b h2)
      have hcm := MCmd.around HM.out HB4.out hs4 (MCmd.after HM4.out HB5.out (MCmd.refl (HM4.out.ext HB5.out))) hoth (by simp; omega) (HWB.out.trans (below_setRow' _ _ (by omega)))
      refine ⟨ascL (keepS T oref) acc, fun x => ?_, ascL_strict _ _, by have := HLL.out; omega, _, _, { list := (sa, sn, sc) }, rfl, hcm, ⟨u32s_any (HV.out.mono (fun b hb => hoth b (by have h9 : wr.heap.size ≤ b := hb; omega) (by have h9 : wr.heap.size ≤ b := hb; omega)) (fun _ h => h)), visits_any (visits_nil _ (fun _ => True)), by simp⟩⟩
      rw [ascL_mem, HCL.out.mem, HPP.out]
      constructor
      · rintro ⟨⟨h1, h2, -⟩, h3⟩
        refine ⟨h1, ?_⟩
        rw [(HD.out x h1).1] at h2
        cases hs : T.sub x with
        | none => rw [hs] at h2; cases h2
        | some l =>
          refine ⟨l, rfl, ?_⟩
          simpa [keepS, hs] using h3
      · rintro ⟨h1, l, h2, h3⟩
        exact ⟨⟨h1, by rw [(HD.out x h1).1, h2]; rfl, HL0.out _⟩, by simpa [keepS, h2] using h3⟩
    · intro x c w1 cnt1 hxU hlk hrg1 hlt hg1 hs1 hen
      have hhas : Maps.has D (.int .u32 x) = true := ranges_has HRG.out (by simp [Lit.sameKey]) hlk
      have HC1 := hide (HCL.out.step hxU hlk hhas)
      have HO1 : Hid (OwnR w1 (w.heap.size + 5) 29 1 u32Cs u17 acc) := HO.out.mono (fun b hb => hg1.block b (HO.out.block b hb).2 (fun e => by injection e with e; have := (HO.out.block b hb).1; omega))
      have HB1 : Hid (Below w4.heap.size w4 w1) := HBR.out.grown hg1 HBR.out.size (fun k hk => by cases hk; omega)
      have HRG1 := hide hrg1
      have hz1 : w.heap.size + 5 ≤ w1.heap.size := by omega
      clear hlk hrg1 hg1 hhas hs1
      go_wp2_with (at_builtin; refine wpList_app1 (α := Int) rfl _ _ 31 rfl (w.heap.size + 5) 29 u32Cs Tryd.underlying31 Tryd.info29 rfl (by decide) u32Cs_size u32Cs_one _ acc rfl (OwnR.below HO1.out ((Below.refl _ _).alloc (Nat.le_refl _) _) (Nat.le_refl _)) _ rfl x (by rw [rng_alloc_at _ _ _ _ _ _ _ (by first | rfl | simp)]; rfl) (by omega) (by unfold maxLen; omega) (by simp; omega) ?_; intro v8 w8 hown8 hsame8 hbel8 hat8)
      have hz8 : w1.heap.size + 1 ≤ w8.heap.size := by have := hbel8.size; simpa using this
      have hbl : ∀ b, b < w.heap.size + 5 → w8.heap[b]? = w1.heap[b]? := fun b hb => (hbel8.block b hb).trans (Below.heap_alloc _ _ _ (by omega))
      go_roundg cnt1
      case measure => exact hlt
      case rel => exact ⟨_, acc ++ [x], ranges_blocks HRG1.out (hbl _ (by omega)) (hbl _ (by omega)), hown8, HC1, (HB1.out.alloc (by omega) _).trans (hbel8.mono (by omega)), by omega, by simp; omega⟩

end Go.Proofs.Qxb6500665aDoor
