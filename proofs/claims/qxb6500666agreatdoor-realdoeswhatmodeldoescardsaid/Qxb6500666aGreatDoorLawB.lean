/- BatchesFitTheStore, walked. -/
import Derived.Test.Qxb6500666aGreatDoorStepA
import Derived.Test.Qxb6500666aGreatDoorStepB
import Derived.Test.Qxb6500666aGreatDoorStepC
import Derived.Test.Qxb6500666aGreatDoorInvP
import Derived.Test.Qxb6500666aGreatDoorSmall
namespace Go.Proofs.Qxb6500666aGreatDoor
open Go.RowKit

theorem step_any (w : World) (Bn Y S LB base : Nat) (pv : Value) (A ok oko okg : Nat → Prop) (zs : List ZP) (full : Bool) (off lar : Int) (x : LV) (L : Low) (o : Op) (lv dv : Value) (ca : Option Addr) (cn cc : Nat) (rn kn ft : Nat → ByteArray) (h : BN w Bn Y S LB base pv A ok zs full off lar x L) (hp : PO (zs.map (·.2)) L) (ho : OpIn w oko o lv dv ca cn cc) (hgl : Gl w base rn kn ft okg) (hoff : 0 ≤ off ∧ off ≤ 1000000000000000) :
    Calls Tryz.prog 21 #[.pointer (some ⟨Bn, 0, none⟩), .agg (opA o lv dv ca cn cc)] w fun e w' => StPost w w' Bn S LB base e (stepR ⟨zs.map (·.2), full, off, lar, L⟩ o) := by
  by_cases h1 : o.kind = 1
  · exact step1 w Bn Y S LB base pv A ok oko okg zs full off lar x L o lv dv ca cn cc rn kn ft h hp ho hgl hoff h1
  by_cases h2 : o.kind = 2
  · exact step2 w Bn Y S LB base pv A ok oko okg zs full off lar x L o lv dv ca cn cc rn kn ft h hp ho hgl h2
  by_cases h3 : o.kind = 3
  · exact step3 w Bn Y S LB base pv A ok oko okg zs full off lar x L o lv dv ca cn cc rn kn ft h hp ho hgl h3
  by_cases h4 : o.kind = 4
  · exact step4 w Bn Y S LB base pv A ok oko okg zs full off lar x L o lv dv ca cn cc rn kn ft h hp ho hgl h4
  by_cases h5 : o.kind = 5
  · exact step5 w Bn Y S LB base pv A ok oko okg zs full off lar x L o lv dv ca cn cc rn kn ft h hp ho hgl h5
  by_cases h6 : o.kind = 6
  · exact step6 w Bn Y S LB base pv A ok oko okg zs full off lar x L o lv dv ca cn cc rn kn ft h hp ho hgl h6
  by_cases h7 : o.kind = 7
  · exact step7 w Bn Y S LB base pv A ok oko okg zs full off lar x L o lv dv ca cn cc rn kn ft h hp ho hgl h7
  exact stepD w Bn Y S LB base pv A ok oko okg zs full off lar x L o lv dv ca cn cc rn kn ft h hp ho hgl ⟨h1, h2, h3, h4, h5, h6, h7⟩

theorem arr_all {α : Type} {w : World} {ok : Nat → Prop} {size : Nat} {E : List Value → α → Prop} {v : Value} {xs : List α} {P : α → Prop} (h : Arr w ok size E v xs) (hE : ∀ cs x, E cs x → P x) : ∀ x ∈ xs, P x := by
  intro c hc
  obtain ⟨i, hi, rfl⟩ := List.getElem_of_mem hc
  obtain ⟨_, _, _, _, _, _, _, _, _, hcs⟩ := h
  obtain ⟨_, _, h1, _⟩ := hcs i hi
  exact hE _ _ h1
theorem opIn_of {w : World} {ok : Nat → Prop} {p : Op} {cs : List Value} (hE : EOp w ok cs p) (h1 : p.data.length ≤ 65536) (h2 : p.file.changes.length ≤ 65536) : ∃ lv dv ca cn cc, cs.toArray = opA p lv dv ca cn cc ∧ OpIn w ok p lv dv ca cn cc ∧ ones (opA p lv dv ca cn cc) 27 = true := by
  obtain ⟨rs, fs, dv, rfl, q1, q2, q3, q4, ⟨lv, rfl, hro, hlist⟩, hdata, ⟨cv, rfl, hfo, hch⟩⟩ := hE
  have hok := changesOk hch
  have hca := changesAt_of hch
  have hli : RArr w ok 1 u32Cs lv p.req.list := RArr.of_arr hlist (by decide) (fun _ _ _ h => h.1)
  have hda : BytesAt w ok dv p.data := RArr.of_arr hdata (by decide) (fun _ _ _ h => h.1)
  have hid : ∀ y ∈ p.req.list, U32 y := arr_all hlist (fun _ _ h => h.2)
  obtain ⟨a1, cap1, _, _, rfl, _⟩ := hlist
  obtain ⟨a2, cap2, _, _, rfl, _⟩ := hdata
  obtain ⟨a, cap, _, _, rfl, _⟩ := hch
  exact ⟨_, _, a, _, cap, rfl, ⟨q1, hro, q2, q3, q4, hli, hid, hda, hca, hfo, hok, h1, h2⟩, rfl⟩

section
variable (ρ : Operand → Value) (dst : Option Tmp) (x y : Operand) (ty : TypeId) (pos : String) (after : Array Edge) (guard : Option (Nat × Bool))
theorem exec_ldOpz : execOp ρ { dst, op := .load 61 x, type := ty, pos, after, guard } = (do pure (.value (← ldS 61 (ρ x)))) := rfl
theorem exec_stOpz : execOp ρ { dst, op := .store 61 x y, type := ty, pos, after, guard } = (do stS 61 (ρ x) (ρ y); pure .skip) := rfl
end
theorem run_ldOpz (w : World) (b off : Nat) : (ldS 61 (.pointer (some ⟨b, off, none⟩))).run Tryz.prog w = match rng w b off 27 with | some cs => .ok (.agg cs) w | none => (Instr.loadAt 61 (.pointer (some ⟨b, off, none⟩))).run Tryz.prog w :=
  run_ldS Tryz.underlying61 Tryz.size61 w b off
theorem run_stOpz (w : World) (b : Nat) (cs : Array Value) : (stS 61 (.pointer (some ⟨b, 0, none⟩)) (.agg cs)).run Tryz.prog w = if whole w b 27 = true ∧ ones cs 27 = true then .ok () (w.setRow b cs) else (Instr.storeAt 61 (.pointer (some ⟨b, 0, none⟩)) (.agg cs)).run Tryz.prog w := run_stS Tryz.size61 w b cs

attribute [local go_sem] ext_const Ext.cell Ext.frozen Ext.rng Ext.whole
attribute [local go_sem ↓] exec_ldOpz exec_stOpz
attribute [local go_sem] run_ldOpz run_stOpz opA_size whole_alloc_lt whole_alloc_at whole_drew setRow_alloc_at setRow_alloc_lt rng_alloc_lt rng_alloc_at rng_drew rng_drewN

def lv0 : LV := ⟨.slice none 0 0, .slice none 0 0, .slice none 0 0, .slice none 0 0, .slice none 0 0, .slice none 0 0, .slice none 0 0, .slice none 0 0⟩
theorem low0_at (w : World) : LowAt w (fun _ => False) lv0 low0 := by
  have z : ∀ {α : Type} (size : Nat) (f : α → Array Value), RArr w (fun _ => False) size f (.slice none 0 0) ([] : List α) := fun size f => ⟨none, 0, 0, 0, rfl, Nat.le_refl _, ⟨by unfold maxLen; omega, fun _ => rfl⟩, by simp, fun h => by (simp at h), fun i h => by (simp at h)⟩
  exact ⟨⟨z _ _, ⟨[], z _ _, rfl, fun _ h => by (cases h)⟩, z _ _, z _ _⟩, z _ _, ⟨z _ _, z _ _, z _ _⟩⟩

set_option maxRecDepth 100000 in
set_option maxHeartbeats 2000000 in
theorem newBench_calls (w : World) :
    Calls Tryz.prog 19 #[] w fun e w' => e = .returned (.pointer (some ⟨w.heap.size + 2, 0, none⟩)) ∧ BN w' (w.heap.size + 2) (w.heap.size + 3) w.heap.size (w.heap.size + 1) w.heap.size (.slice none 0 0) (fun _ => False) (fun _ => False) [] false 0 0 lv0 low0 ∧ Below w.heap.size w w' := by
  go_enter Tryz.func19, Tryz.ntmps19
  go_upto_region 2 with fail
  have e0 : (((w.alloc (.cells #[.slice none 0 0, .bool false, .int .i64 0, .int .i64 0] 131)).alloc (.cells (lvCs lv0) 83)).alloc (.cells #[.pointer (some ⟨w.heap.size, 0, none⟩), .pointer (some ⟨w.heap.size + 1, 0, none⟩), .pointer none] 88)).heap[w.heap.size]? = some (.cells #[.slice none 0 0, .bool false, .int .i64 0, .int .i64 0] 131 (0, 0)) := (Below.heap_alloc _ _ _ (by simp <;> omega)).trans ((Below.heap_alloc _ _ _ (by simp)).trans (heap_alloc_at _ _))
  have e1 : (((w.alloc (.cells #[.slice none 0 0, .bool false, .int .i64 0, .int .i64 0] 131)).alloc (.cells (lvCs lv0) 83)).alloc (.cells #[.pointer (some ⟨w.heap.size, 0, none⟩), .pointer (some ⟨w.heap.size + 1, 0, none⟩), .pointer none] 88)).heap[w.heap.size + 1]? = some (.cells (lvCs lv0) 83 (0, 0)) := (Below.heap_alloc _ _ _ (by simp)).trans (box2 w _ _ _ _)
  have e2 : (((w.alloc (.cells #[.slice none 0 0, .bool false, .int .i64 0, .int .i64 0] 131)).alloc (.cells (lvCs lv0) 83)).alloc (.cells #[.pointer (some ⟨w.heap.size, 0, none⟩), .pointer (some ⟨w.heap.size + 1, 0, none⟩), .pointer none] 88)).heap[w.heap.size + 2]? = some (.cells #[.pointer (some ⟨w.heap.size, 0, none⟩), .pointer (some ⟨w.heap.size + 1, 0, none⟩), .pointer none] 88 (0, 0)) := by have := heap_alloc_at ((w.alloc (.cells #[.slice none 0 0, .bool false, .int .i64 0, .int .i64 0] 131)).alloc (.cells (lvCs lv0) 83)) (.cells #[.pointer (some ⟨w.heap.size, 0, none⟩), .pointer (some ⟨w.heap.size + 1, 0, none⟩), .pointer none] 88); simpa using this
  have hb0 : Below w.heap.size w (((w.alloc (.cells #[.slice none 0 0, .bool false, .int .i64 0, .int .i64 0] 131)).alloc (.cells (lvCs lv0) 83)).alloc (.cells #[.pointer (some ⟨w.heap.size, 0, none⟩), .pointer (some ⟨w.heap.size + 1, 0, none⟩), .pointer none] 88)) := (((Below.refl _ _).alloc (Nat.le_refl _) _).alloc (by simp) _).alloc (by simp <;> omega) _
  have hz : (((w.alloc (.cells #[.slice none 0 0, .bool false, .int .i64 0, .int .i64 0] 131)).alloc (.cells (lvCs lv0) 83)).alloc (.cells #[.pointer (some ⟨w.heap.size, 0, none⟩), .pointer (some ⟨w.heap.size + 1, 0, none⟩), .pointer none] 88)).heap.size = w.heap.size + 3 := by simp
  change Code.wp _ _ _ _ (((w.alloc (.cells #[.slice none 0 0, .bool false, .int .i64 0, .int .i64 0] 131)).alloc (.cells (lvCs lv0) 83)).alloc (.cells #[.pointer (some ⟨w.heap.size, 0, none⟩), .pointer (some ⟨w.heap.size + 1, 0, none⟩), .pointer none] 88))
  generalize (((w.alloc (.cells #[.slice none 0 0, .bool false, .int .i64 0, .int .i64 0] 131)).alloc (.cells (lvCs lv0) 83)).alloc (.cells #[.pointer (some ⟨w.heap.size, 0, none⟩), .pointer (some ⟨w.heap.size + 1, 0, none⟩), .pointer none] 88)) = W0 at *
  have c0 : W0.cell? ⟨w.heap.size + 2, 0, none⟩ = some (.pointer (some ⟨w.heap.size, 0, none⟩)) := cells_all e2 0
  have c1 : W0.cell? ⟨w.heap.size + 2, 1, none⟩ = some (.pointer (some ⟨w.heap.size + 1, 0, none⟩)) := cells_all e2 1
  have hN2 : w.heap.size + 2 < W0.heap.size := by omega
  have E0 := hide e0
  have E1 := hide e1
  have E2 := hide e2
  have HB0 := hide hb0
  have HZ := hide hz
  clear e0 e1 e2 hb0 hz
  refine wp_region_mixT (W0.heap.size) [4, 8] (by kernel_rfl) ?_
  refine mixT_slots [0, 1, 2, 3, 5, 6, 7] (fuel := 6) rfl (by kernel_rfl) (by kernel_rfl) (fun d _ _ _ _ h => by cases d <;> exact h) ?_
  simp only [opersAt, List.getElem?_toArray, List.getElem?_cons_zero, List.getElem?_cons_succ]
  repeat (go_big_quiet_step (fail))
  refine wpQuiet_nil ?_
  refine mixT_reads [4, 8] (fuel := 4) rfl (by kernel_rfl) (by decide) (by kernel_rfl) (fun d _ _ _ _ h => by cases d <;> exact h) (ext_drew _ _) ?_
  simp only [opersAt, List.getElem?_toArray, List.getElem?_cons_zero, List.getElem?_cons_succ]
  repeat (go_big_quiet_step (fail))
  refine wpQuiet_nil ?_
  refine mixT_one (k := 9) (by kernel_rfl) rfl ?_
  go_wp2_with (go_at_call 75; refine (sysOpen_calls _ w.heap.size (w.heap.size + 1)).mono ?_; rintro e W1 ⟨rfl, hw1⟩; have hb1 : Below W0.heap.size W0 W1 := (by rw [hw1]; exact ((Below.refl _ W0).drew).alloc (Nat.le_refl _) _); have HSY : Hid (W1.heap[W0.heap.size]? = some (.cells #[.pointer (some ⟨w.heap.size, 0, none⟩), .pointer (some ⟨w.heap.size + 1, 0, none⟩)] 264 (0, 0))) := (by rw [hw1]; exact heap_alloc_at W0.drew _); have HB1 := hide hb1; have b2 : W1.cell? ⟨w.heap.size + 2, 2, none⟩ = some (.pointer none) := ((hb1.cell (p := ⟨w.heap.size + 2, 2, none⟩) hN2).trans (cells_all E2.out 2)); have b3 : W1.frozen? ⟨w.heap.size + 2, 2, none⟩ = false := (by simp [World.frozen?, (hb1.block _ hN2).trans E2.out]); clear hw1 hb1)
  refine ⟨Or.inl (by kernel_rfl), ?_⟩
  refine mixT_slots [10, 11] (fuel := 1) rfl (by kernel_rfl) (by kernel_rfl) (fun d _ _ _ _ h => by cases d <;> exact h) ?_
  simp only [opersAt, List.getElem?_toArray, List.getElem?_cons_zero, List.getElem?_cons_succ]
  repeat (go_big_quiet_step (fail))
  refine wpQuiet_nil ?_
  refine mixT_one (k := 12) (by kernel_rfl) rfl ?_
  go_wp2
  refine ⟨Or.inl (by kernel_rfl), ?_⟩
  refine mixT_nil (by kernel_rfl) ?_
  go_wp2
  go_ret
  have hz := HZ.out
  have hs1 := HB1.out.size
  rw [hz] at HSY
  have ho : ∀ b, b ≠ w.heap.size + 2 → (W1.setCell ⟨w.heap.size + 2, 2, none⟩ (.pointer (some ⟨W0.heap.size, 0, none⟩))).heap[b]? = W1.heap[b]? := fun b hb => Below.heap_setCell _ _ _ _ hb
  have hn : ∀ b, (Value.slice none 0 0).ownBlock ≠ some b := fun b e => nomatch (show (none : Option Nat) = some b from e)
  refine ⟨rfl, ⟨⟨(ho _ (by omega)).trans HSY.out, ⟨(ho _ (by omega)).trans ((HB1.out.block _ (by omega)).trans E0.out), OwnR.nil _ _ _ _ _, fun z hz => by (cases hz), fun b e => absurd e (hn b), fun e => e, fun _ e => e.elim, Nat.le_refl _⟩, (ho _ (by omega)).trans ((HB1.out.block _ (by omega)).trans E1.out), low0_at _, fun _ e => e.elim, ⟨by omega, by omega, by omega⟩, fun b e => absurd e (hn b), fun _ e => e.elim, by omega⟩, ?_, ⟨by omega, by omega, by omega⟩, hn _, fun e => e, fun e => e, by omega⟩, ?_⟩
  · have := heap_set3 (j := 2) (v := .pointer (some ⟨W0.heap.size, 0, none⟩)) ((HB1.out.block _ hN2).trans E2.out)
    rw [hz] at this ⊢
    exact this
  · exact (HB0.out.trans (HB1.out.mono (by omega))).setCell (p := ⟨w.heap.size + 2, 2, none⟩) (by simp) _

end Go.Proofs.Qxb6500666aGreatDoor
