/- with[T], walked. -/
import Derived.Test.Qxb6500666aGreatDoorLowFind
import Derived.Test.Qxb6500666aGreatDoorApplyWalk
namespace Go.Proofs.Qxb6500666aGreatDoor
open Go.RowKit

section
variable (ρ : Operand → Value) (dst : Option Tmp) (x : Operand) (ty : TypeId) (pos : String) (after : Array Edge) (guard : Option (Nat × Bool))
theorem exec_bsAna : execOp ρ { dst, op := .buildSlice 27 1 #[(0, x)], type := ty, pos, after, guard } = (do pure (.value (← bsS 27 (ρ x)))) := by simp [execOp, bsS]
theorem exec_bsVZ : execOp ρ { dst, op := .buildSlice 28 1 #[(0, x)], type := ty, pos, after, guard } = (do pure (.value (← bsS 28 (ρ x)))) := by simp [execOp, bsS]
theorem exec_bsSbj : execOp ρ { dst, op := .buildSlice 30 1 #[(0, x)], type := ty, pos, after, guard } = (do pure (.value (← bsS 30 (ρ x)))) := by simp [execOp, bsS]
end
theorem run_bsAna (w : World) (x : Ana) : (bsS 27 (.agg (anaCs x))).run Tryz.prog w = .ok (.slice (some ⟨w.heap.size, 0, none⟩) 1 1) (w.alloc (.cells (anaCs x) 197)) := by kernel_rfl
theorem Tryz.info197 : (Tryz.prog.info? 197).map (fun i => (i.zero, i.size, i.bytes)) = some (some (.agg (anaCs ⟨0, 0, 0, 0⟩)), 4, 32) := by kernel_rfl
theorem run_bsVZ (w : World) (x : VZ) : (bsS 28 (.agg (vzCs x))).run Tryz.prog w = .ok (.slice (some ⟨w.heap.size, 0, none⟩) 1 1) (w.alloc (.cells (vzCs x) 193)) := by kernel_rfl
theorem Tryz.info193 : (Tryz.prog.info? 193).map (fun i => (i.zero, i.size, i.bytes)) = some (some (.agg (vzCs ⟨0, [], (none, 0, 0)⟩)), 2, 32) := by kernel_rfl
theorem Tryz.info48 : (Tryz.prog.info? 48).map (fun i => (i.zero, i.size, i.bytes)) = some (some (.int .u32 0), 1, 4) := by kernel_rfl
theorem run_bsSbj (w : World) (x : Sbj) : (bsS 30 (.agg (sbjCs x))).run Tryz.prog w = .ok (.slice (some ⟨w.heap.size, 0, none⟩) 1 1) (w.alloc (.cells (sbjCs x) 200)) := by kernel_rfl
theorem Tryz.info200 : (Tryz.prog.info? 200).map (fun i => (i.zero, i.size, i.bytes)) = some (some (.agg (sbjCs ⟨0, 0⟩)), 2, 8) := by kernel_rfl

attribute [local go_sem] ext_const Ext.cell Ext.frozen Ext.rng Ext.whole
attribute [local go_sem ↓] exec_ldAna exec_ldSbj exec_ldVsn exec_bsAna exec_bsVZ exec_bsSbj
attribute [local go_sem] run_ldAna run_ldSbj run_ldVsn run_bsAna run_bsVZ run_bsSbj rng_alloc_lt rng_alloc_at rng_drew rng_drewN

set_option maxRecDepth 100000 in
set_option maxHeartbeats 1000000 in
theorem withAna_calls (w : World) (ok : Nat → Prop) (v : Value) (l : List Ana) (x : Ana) (h : RArr w ok 4 anaCs v l) (hlen : l.length ≤ 1000000) :
    Calls Tryz.prog 236 #[v, .agg (anaCs x)] w fun e w' => ∃ v', e = .returned v' ∧ OwnR w' w.heap.size 197 4 anaCs v' (l ++ [x]) ∧ Below w.heap.size w w' := by
  obtain ⟨a, cap, b, off, rfl, hl, hm, hr, ha, hc⟩ := h.lt
  obtain ⟨n, hn⟩ : ∃ n, n = l.length := ⟨_, rfl⟩
  have Hn : Hid (n = l.length) := hn
  rw [← hn] at hl hr ha hlen ⊢
  have HNil : Hid (a = none → cap = 0) := hm.2
  have HSRC : Hid (0 < n → ∃ b' off', a = some ⟨b', off', none⟩ ∧ b' < w.heap.size ∧ ∀ i (h : i < l.length), rng w b' (off' + i * 4) 4 = some (anaCs l[i])) := fun hp => ⟨b, off, (ha hp).1, (ha hp).2.2, hc⟩
  clear ha hc hn hm hl h
  go_enter Tryz.func236, Tryz.ntmps236
  obtain ⟨i0, hi0, hz0, hz1, hz2⟩ := info_parts Tryz.info197
  go_upto_region 2 with (at_make; refine wpList_make_own _ rfl _ _ 27 rfl w.heap.size 197 i0 _ 4 Tryz.underlying27 hi0 hz0 hz1 _ _ _ (n + 1) rfl rfl (by omega) (by rw [hz2]; omega) (by unfold maxLen; omega) (by simp) ?_; intro W0 hown0 hgr0)
  have hbel0 : Below w.heap.size w W0 := ((Below.refl _ _).alloc (Nat.le_refl _) _).grown hgr0 (by simp) (fun k hk => by simp at hk)
  have hown0' : OwnR W0 w.heap.size 197 4 anaCs (.slice (some ⟨w.heap.size + 1, 0, none⟩) 0 (n + 1)) [] := by have := hown0; simp only [World.size_alloc] at this; exact this
  have hbx : rng W0 w.heap.size 0 4 = some (anaCs x) := by
    rw [rng_of_block (hgr0.block w.heap.size (by simp) (by simp))]; exact rng_whole (heap_alloc_at _ _)
  have hs0 : w.heap.size < W0.heap.size := by have := hgr0.size; simp only [World.size_alloc] at this; omega
  have HSRC2 : Hid (0 < n → ∃ b' off', a = some ⟨b', off', none⟩ ∧ ∀ i (h : i < l.length), rng W0 b' (off' + i * 4) 4 = some (anaCs l[i])) := fun hp => by
    obtain ⟨b', off', e1, e2, e3⟩ := HSRC.out hp
    exact ⟨b', off', e1, fun i hi => by rw [rng_of_block (hbel0.block b' e2)]; exact e3 i hi⟩
  have hs00 := hbel0.size
  have HBEL := hide hbel0
  clear hgr0 hi0 hz0 hz1 hz2 hown0 hbel0 HSRC
  go_upto_region 3 with (at_builtin; refine wpList_appN (α := Ana) rfl _ _ 27 rfl w.heap.size 197 anaCs Tryz.underlying27 Tryz.info197 rfl (by decide) anaCs_size anaCs_one _ [] rfl hown0' a n cap rfl l Hn.out HNil.out HSRC2.out (by simp only [List.length_nil]; omega) (by simp only [List.length_nil]; unfold maxLen; omega) hs00 ?_; intro v1 w1 hown1 hsame1 hbel1 hat1)
  have hbx1 : rng w1 w.heap.size 0 4 = some (anaCs x) := by
    rw [rng_of_block (hsame1 w.heap.size ⟨hs0, fun e => by have e' : some (w.heap.size + 1) = some w.heap.size := e; injection e' with e'; omega⟩)]; exact hbx
  have hs1 : w.heap.size < w1.heap.size := by have := hbel1.size; omega
  have hown1' : OwnR w1 w.heap.size 197 4 anaCs v1 l := hown1
  have hs2 : w.heap.size ≤ w1.heap.size := by have := hbel1.size; omega
  have HB2 := hide (HBEL.out.trans hbel1)
  have HLN : Hid (l.length ≤ 1000000) := by show l.length ≤ 1000000; rw [← Hn.out]; exact hlen
  clear hsame1 hbel1 hat1 hown1 hown0' HSRC2 HBEL hbx hs0
  go_wp2_with (at_builtin; refine wpList_app1 (α := Ana) rfl _ _ 27 rfl w.heap.size 197 anaCs Tryz.underlying27 Tryz.info197 rfl (by decide) anaCs_size anaCs_one _ l rfl (OwnR.below hown1' ((Below.refl _ _).alloc (Nat.le_refl _) _) (Nat.le_refl _)) _ rfl x (rng_whole (heap_alloc_at _ _)) (by have := HLN.out; omega) (by have := HLN.out; unfold maxLen; omega) (by simp only [World.size_alloc]; omega) ?_; intro v2 w2 hown2 hsame2 hbel2 hat2)
  go_ret
  exact ⟨_, rfl, hown2, (HB2.out.alloc hs2 _).trans hbel2⟩

set_option maxRecDepth 100000 in
set_option maxHeartbeats 1000000 in
theorem withVZ_calls (w : World) (ok : Nat → Prop) (v : Value) (l : List VZ) (x : VZ) (h : RArr w ok 2 vzCs v l) (hlen : l.length ≤ 1000000) :
    Calls Tryz.prog 237 #[v, .agg (vzCs x)] w fun e w' => ∃ v', e = .returned v' ∧ OwnR w' w.heap.size 193 2 vzCs v' (l ++ [x]) ∧ Below w.heap.size w w' := by
  obtain ⟨a, cap, b, off, rfl, hl, hm, hr, ha, hc⟩ := h.lt
  obtain ⟨n, hn⟩ : ∃ n, n = l.length := ⟨_, rfl⟩
  have Hn : Hid (n = l.length) := hn
  rw [← hn] at hl hr ha hlen ⊢
  have HNil : Hid (a = none → cap = 0) := hm.2
  have HSRC : Hid (0 < n → ∃ b' off', a = some ⟨b', off', none⟩ ∧ b' < w.heap.size ∧ ∀ i (h : i < l.length), rng w b' (off' + i * 2) 2 = some (vzCs l[i])) := fun hp => ⟨b, off, (ha hp).1, (ha hp).2.2, hc⟩
  clear ha hc hn hm hl h
  go_enter Tryz.func237, Tryz.ntmps237
  obtain ⟨i0, hi0, hz0, hz1, hz2⟩ := info_parts Tryz.info193
  go_upto_region 2 with (at_make; refine wpList_make_own _ rfl _ _ 28 rfl w.heap.size 193 i0 _ 2 Tryz.underlying28 hi0 hz0 hz1 _ _ _ (n + 1) rfl rfl (by omega) (by rw [hz2]; omega) (by unfold maxLen; omega) (by simp) ?_; intro W0 hown0 hgr0)
  have hbel0 : Below w.heap.size w W0 := ((Below.refl _ _).alloc (Nat.le_refl _) _).grown hgr0 (by simp) (fun k hk => by simp at hk)
  have hown0' : OwnR W0 w.heap.size 193 2 vzCs (.slice (some ⟨w.heap.size + 1, 0, none⟩) 0 (n + 1)) [] := by have := hown0; simp only [World.size_alloc] at this; exact this
  have hbx : rng W0 w.heap.size 0 2 = some (vzCs x) := by
    rw [rng_of_block (hgr0.block w.heap.size (by simp) (by simp))]; exact rng_whole (heap_alloc_at _ _)
  have hs0 : w.heap.size < W0.heap.size := by have := hgr0.size; simp only [World.size_alloc] at this; omega
  have HSRC2 : Hid (0 < n → ∃ b' off', a = some ⟨b', off', none⟩ ∧ ∀ i (h : i < l.length), rng W0 b' (off' + i * 2) 2 = some (vzCs l[i])) := fun hp => by
    obtain ⟨b', off', e1, e2, e3⟩ := HSRC.out hp
    exact ⟨b', off', e1, fun i hi => by rw [rng_of_block (hbel0.block b' e2)]; exact e3 i hi⟩
  have hs00 := hbel0.size
  have HBEL := hide hbel0
  clear hgr0 hi0 hz0 hz1 hz2 hown0 hbel0 HSRC
  go_upto_region 3 with (at_builtin; refine wpList_appN (α := VZ) rfl _ _ 28 rfl w.heap.size 193 vzCs Tryz.underlying28 Tryz.info193 rfl (by decide) vzCs_size vzCs_one _ [] rfl hown0' a n cap rfl l Hn.out HNil.out HSRC2.out (by simp only [List.length_nil]; omega) (by simp only [List.length_nil]; unfold maxLen; omega) hs00 ?_; intro v1 w1 hown1 hsame1 hbel1 hat1)
  have hbx1 : rng w1 w.heap.size 0 2 = some (vzCs x) := by
    rw [rng_of_block (hsame1 w.heap.size ⟨hs0, fun e => by have e' : some (w.heap.size + 1) = some w.heap.size := e; injection e' with e'; omega⟩)]; exact hbx
  have hs1 : w.heap.size < w1.heap.size := by have := hbel1.size; omega
  have hown1' : OwnR w1 w.heap.size 193 2 vzCs v1 l := hown1
  have hs2 : w.heap.size ≤ w1.heap.size := by have := hbel1.size; omega
  have HB2 := hide (HBEL.out.trans hbel1)
  have HLN : Hid (l.length ≤ 1000000) := by show l.length ≤ 1000000; rw [← Hn.out]; exact hlen
  clear hsame1 hbel1 hat1 hown1 hown0' HSRC2 HBEL hbx hs0
  go_wp2_with (at_builtin; refine wpList_app1 (α := VZ) rfl _ _ 28 rfl w.heap.size 193 vzCs Tryz.underlying28 Tryz.info193 rfl (by decide) vzCs_size vzCs_one _ l rfl (OwnR.below hown1' ((Below.refl _ _).alloc (Nat.le_refl _) _) (Nat.le_refl _)) _ rfl x (rng_whole (heap_alloc_at _ _)) (by have := HLN.out; omega) (by have := HLN.out; unfold maxLen; omega) (by simp only [World.size_alloc]; omega) ?_; intro v2 w2 hown2 hsame2 hbel2 hat2)
  go_ret
  exact ⟨_, rfl, hown2, (HB2.out.alloc hs2 _).trans hbel2⟩

set_option maxRecDepth 100000 in
set_option maxHeartbeats 1000000 in
theorem withInt_calls (w : World) (ok : Nat → Prop) (v : Value) (l : List Int) (x : Int) (h : RArr w ok 1 u32Cs v l) (hlen : l.length ≤ 1000000) :
    Calls Tryz.prog 238 #[v, .int .u32 x] w fun e w' => ∃ v', e = .returned v' ∧ OwnR w' w.heap.size 48 1 u32Cs v' (l ++ [x]) ∧ Below w.heap.size w w' := by
  obtain ⟨a, cap, b, off, rfl, hl, hm, hr, ha, hc⟩ := h.lt
  obtain ⟨n, hn⟩ : ∃ n, n = l.length := ⟨_, rfl⟩
  have Hn : Hid (n = l.length) := hn
  rw [← hn] at hl hr ha hlen ⊢
  have HNil : Hid (a = none → cap = 0) := hm.2
  have HSRC : Hid (0 < n → ∃ b' off', a = some ⟨b', off', none⟩ ∧ b' < w.heap.size ∧ ∀ i (h : i < l.length), rng w b' (off' + i * 1) 1 = some (u32Cs l[i])) := fun hp => ⟨b, off, (ha hp).1, (ha hp).2.2, hc⟩
  clear ha hc hn hm hl h
  go_enter Tryz.func238, Tryz.ntmps238
  obtain ⟨i0, hi0, hz0, hz1, hz2⟩ := info_parts Tryz.info48
  go_upto_region 2 with (at_make; refine wpList_make_own _ rfl _ _ 29 rfl w.heap.size 48 i0 _ 1 Tryz.underlying29 hi0 hz0 hz1 _ _ _ (n + 1) rfl rfl (by omega) (by rw [hz2]; omega) (by unfold maxLen; omega) (by simp) ?_; intro W0 hown0 hgr0)
  have hbel0 : Below w.heap.size w W0 := (Below.refl _ _).grown hgr0 (by simp) (fun k hk => by simp at hk)
  have hown0' : OwnR W0 w.heap.size 48 1 u32Cs (.slice (some ⟨w.heap.size, 0, none⟩) 0 (n + 1)) [] := hown0
  have HSRC2 : Hid (0 < n → ∃ b' off', a = some ⟨b', off', none⟩ ∧ ∀ i (h : i < l.length), rng W0 b' (off' + i * 1) 1 = some (u32Cs l[i])) := fun hp => by
    obtain ⟨b', off', e1, e2, e3⟩ := HSRC.out hp
    exact ⟨b', off', e1, fun i hi => by rw [rng_of_block (hbel0.block b' e2)]; exact e3 i hi⟩
  have hs00 := hbel0.size
  have HBEL := hide hbel0
  clear hgr0 hi0 hz0 hz1 hz2 hown0 hbel0 HSRC
  go_upto_region 3 with (at_builtin; refine wpList_appN (α := Int) rfl _ _ 29 rfl w.heap.size 48 u32Cs Tryz.underlying29 Tryz.info48 rfl (by decide) u32Cs_size u32Cs_one _ [] rfl hown0' a n cap rfl l Hn.out HNil.out HSRC2.out (by simp only [List.length_nil]; omega) (by simp only [List.length_nil]; unfold maxLen; omega) hs00 ?_; intro v1 w1 hown1 hsame1 hbel1 hat1)
  have hown1' : OwnR w1 w.heap.size 48 1 u32Cs v1 l := hown1
  have hs2 : w.heap.size ≤ w1.heap.size := by have := hbel1.size; omega
  have HB2 := hide (HBEL.out.trans hbel1)
  have HLN : Hid (l.length ≤ 1000000) := by show l.length ≤ 1000000; rw [← Hn.out]; exact hlen
  clear hsame1 hbel1 hat1 hown1 hown0' HSRC2 HBEL
  go_wp2_with (at_builtin; refine wpList_app1 (α := Int) rfl _ _ 29 rfl w.heap.size 48 u32Cs Tryz.underlying29 Tryz.info48 rfl (by decide) u32Cs_size u32Cs_one _ l rfl (OwnR.below hown1' ((Below.refl _ _).alloc (Nat.le_refl _) _) (Nat.le_refl _)) _ rfl x (rng_whole (heap_alloc_at _ _)) (by have := HLN.out; omega) (by have := HLN.out; unfold maxLen; omega) (by simp only [World.size_alloc]; omega) ?_; intro v2 w2 hown2 hsame2 hbel2 hat2)
  go_ret
  exact ⟨_, rfl, hown2, (HB2.out.alloc hs2 _).trans hbel2⟩

set_option maxRecDepth 100000 in
set_option maxHeartbeats 1000000 in
theorem withSbj_calls (w : World) (ok : Nat → Prop) (v : Value) (l : List Sbj) (x : Sbj) (h : RArr w ok 2 sbjCs v l) (hlen : l.length ≤ 1000000) :
    Calls Tryz.prog 239 #[v, .agg (sbjCs x)] w fun e w' => ∃ v', e = .returned v' ∧ OwnR w' w.heap.size 200 2 sbjCs v' (l ++ [x]) ∧ Below w.heap.size w w' := by
  obtain ⟨a, cap, b, off, rfl, hl, hm, hr, ha, hc⟩ := h.lt
  obtain ⟨n, hn⟩ : ∃ n, n = l.length := ⟨_, rfl⟩
  have Hn : Hid (n = l.length) := hn
  rw [← hn] at hl hr ha hlen ⊢
  have HNil : Hid (a = none → cap = 0) := hm.2
  have HSRC : Hid (0 < n → ∃ b' off', a = some ⟨b', off', none⟩ ∧ b' < w.heap.size ∧ ∀ i (h : i < l.length), rng w b' (off' + i * 2) 2 = some (sbjCs l[i])) := fun hp => ⟨b, off, (ha hp).1, (ha hp).2.2, hc⟩
  clear ha hc hn hm hl h
  go_enter Tryz.func239, Tryz.ntmps239
  obtain ⟨i0, hi0, hz0, hz1, hz2⟩ := info_parts Tryz.info200
  go_upto_region 2 with (at_make; refine wpList_make_own _ rfl _ _ 30 rfl w.heap.size 200 i0 _ 2 Tryz.underlying30 hi0 hz0 hz1 _ _ _ (n + 1) rfl rfl (by omega) (by rw [hz2]; omega) (by unfold maxLen; omega) (by simp) ?_; intro W0 hown0 hgr0)
  have hbel0 : Below w.heap.size w W0 := ((Below.refl _ _).alloc (Nat.le_refl _) _).grown hgr0 (by simp) (fun k hk => by simp at hk)
  have hown0' : OwnR W0 w.heap.size 200 2 sbjCs (.slice (some ⟨w.heap.size + 1, 0, none⟩) 0 (n + 1)) [] := by have := hown0; simp only [World.size_alloc] at this; exact this
  have hbx : rng W0 w.heap.size 0 2 = some (sbjCs x) := by
    rw [rng_of_block (hgr0.block w.heap.size (by simp) (by simp))]; exact rng_whole (heap_alloc_at _ _)
  have hs0 : w.heap.size < W0.heap.size := by have := hgr0.size; simp only [World.size_alloc] at this; omega
  have HSRC2 : Hid (0 < n → ∃ b' off', a = some ⟨b', off', none⟩ ∧ ∀ i (h : i < l.length), rng W0 b' (off' + i * 2) 2 = some (sbjCs l[i])) := fun hp => by
    obtain ⟨b', off', e1, e2, e3⟩ := HSRC.out hp
    exact ⟨b', off', e1, fun i hi => by rw [rng_of_block (hbel0.block b' e2)]; exact e3 i hi⟩
  have hs00 := hbel0.size
  have HBEL := hide hbel0
  clear hgr0 hi0 hz0 hz1 hz2 hown0 hbel0 HSRC
  go_upto_region 3 with (at_builtin; refine wpList_appN (α := Sbj) rfl _ _ 30 rfl w.heap.size 200 sbjCs Tryz.underlying30 Tryz.info200 rfl (by decide) sbjCs_size sbjCs_one _ [] rfl hown0' a n cap rfl l Hn.out HNil.out HSRC2.out (by simp only [List.length_nil]; omega) (by simp only [List.length_nil]; unfold maxLen; omega) hs00 ?_; intro v1 w1 hown1 hsame1 hbel1 hat1)
  have hbx1 : rng w1 w.heap.size 0 2 = some (sbjCs x) := by
    rw [rng_of_block (hsame1 w.heap.size ⟨hs0, fun e => by have e' : some (w.heap.size + 1) = some w.heap.size := e; injection e' with e'; omega⟩)]; exact hbx
  have hs1 : w.heap.size < w1.heap.size := by have := hbel1.size; omega
  have hown1' : OwnR w1 w.heap.size 200 2 sbjCs v1 l := hown1
  have hs2 : w.heap.size ≤ w1.heap.size := by have := hbel1.size; omega
  have HB2 := hide (HBEL.out.trans hbel1)
  have HLN : Hid (l.length ≤ 1000000) := by show l.length ≤ 1000000; rw [← Hn.out]; exact hlen
  clear hsame1 hbel1 hat1 hown1 hown0' HSRC2 HBEL hbx hs0
  go_wp2_with (at_builtin; refine wpList_app1 (α := Sbj) rfl _ _ 30 rfl w.heap.size 200 sbjCs Tryz.underlying30 Tryz.info200 rfl (by decide) sbjCs_size sbjCs_one _ l rfl (OwnR.below hown1' ((Below.refl _ _).alloc (Nat.le_refl _) _) (Nat.le_refl _)) _ rfl x (rng_whole (heap_alloc_at _ _)) (by have := HLN.out; omega) (by have := HLN.out; unfold maxLen; omega) (by simp only [World.size_alloc]; omega) ?_; intro v2 w2 hown2 hsame2 hbel2 hat2)
  go_ret
  exact ⟨_, rfl, hown2, (HB2.out.alloc hs2 _).trans hbel2⟩

end Go.Proofs.Qxb6500666aGreatDoor
