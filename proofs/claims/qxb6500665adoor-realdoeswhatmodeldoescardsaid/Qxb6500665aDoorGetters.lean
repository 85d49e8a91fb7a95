/- Analyte, Panel, Subject, Version, walked. (Made by tools/mk_getters.py.) -/
import Derived.Test.Qxb6500665aDoorProto
namespace Go.Proofs.Qxb6500665aDoor
open Go.RowKit

attribute [local go_sem ↓] exec_stVersion exec_stAnalyte exec_stSubject exec_stPanel
attribute [local go_sem] run_stVersion run_stAnalyte run_stSubject run_stPanel ones_iis ones_iii ones_iiii ones_is whole_alloc_lt whole_alloc_at whole_drew whole_setCell_other whole_setRow_other setRow_alloc_at setRow_alloc_lt
attribute [local go_sem] ext_const Ext.cell Ext.frozen Ext.rng Ext.whole

/-- An error of the layer. -/
abbrev errV (k : Int) : Value := .iface 36 (.int .u8 k)

set_option maxRecDepth 100000 in
set_option maxHeartbeats 2000000 in
theorem analyte_none (w : World) (P S : Nat) (A : Nat → Prop) (ps : List KV) (full : Bool) (id : Int) (h : PAt w P S A ps full) (h2 : U32 id) (hO : getB ps (keyB 97 id) = none) :
    Calls Tryd.prog 24 #[.pointer (some ⟨P, 0, none⟩), .int .u32 id] w fun e w' => e = .returned (.tuple #[.agg #[.int .u32 0, .int .i64 0, .int .i64 0, .int .i64 0], errV 14]) ∧ Below w.heap.size w w' := by
  obtain ⟨p0, pf, hPl⟩ := cell_one h.proto
  have HO := hide hO
  clear hO
  have hbw0 : Below w.heap.size w (w.alloc (.cells #[.int .u32 0, .int .i64 0, .int .i64 0, .int .i64 0] 43)) := (Below.refl _ _).alloc (Nat.le_refl _) _
  have hG0 : (w.alloc (.cells #[.int .u32 0, .int .i64 0, .int .i64 0, .int .i64 0] 43)).heap[w.heap.size]? = some (.cells #[.int .u32 0, .int .i64 0, .int .i64 0, .int .i64 0] 43 (0, 0)) := heap_alloc_at _ _
  go_enter Tryd.func24, Tryd.ntmps24
  go_upto_region 1 with fail
  refine wp_region_mix2 (w.heap.size + 1) [0, 1, 2, 3, 4, 7, 8, 9, 10, 11] [0, 1, 2, 3, 4] 7 (by kernel_rfl) rfl (by decide) (by kernel_rfl) (fun d _ _ _ _ h => by cases d <;> exact h) ?_
  simp only [opersAt, List.getElem?_toArray, List.getElem?_cons_zero, List.getElem?_cons_succ]
  repeat (go_big_quiet_step (fail))
  refine wpQuiet_nil ?_
  refine mixR_one (k := 5) (by kernel_rfl) rfl ?_
  go_wp2_with (go_at_call 49; refine (key_calls _ 97 id (by decide) h2).mono ?_; rintro e w1 ⟨kv, rfl, hown, hb1⟩)
  have hbx1 : Below (w.heap.size + 1) (w.alloc (.cells #[.int .u32 0, .int .i64 0, .int .i64 0, .int .i64 0] 43)) w1 := ((Below.refl _ _).drew).trans (hb1.mono (by simp))
  refine ⟨Or.inr ⟨⟨_, hbx1⟩, rfl⟩, ?_⟩
  refine mixR_one (k := 6) (by kernel_rfl) rfl ?_
  have hbw1 : Below w.heap.size w w1 := hbw0.trans (hbx1.mono (by omega))
  have HK := hide (hown.bytes (by rw [keyB_len]; omega))
  have HS := hide ((h.below hbw1).store)
  clear hown

  go_wp2_with (go_at_call 62; refine (get_calls w1 S A _ ps full kv _ HS.out HK.out).mono ?_; rintro e w2 ⟨hgot, hb2⟩; rw [HO.out] at hgot; have hgot' : e = .returned (.tuple #[.slice none 0 0, .bool false]) := hgot; clear hgot; subst hgot')
  have hbx2 : Below (w.heap.size + 1) (w.alloc (.cells #[.int .u32 0, .int .i64 0, .int .i64 0, .int .i64 0] 43)) w2 := hbx1.trans (hb2.mono (by have := hbx1.size; simpa using this))
  refine ⟨Or.inr ⟨⟨_, hbx2⟩, rfl⟩, ?_⟩
  refine mixR_reads [7, 8, 9, 10, 11] (fuel := 0) rfl (by decide) (by kernel_rfl) (fun d _ _ _ _ h => by cases d <;> exact h) ⟨⟨_, hbx2⟩, rfl⟩ ?_
  simp only [opersAt, List.getElem?_toArray, List.getElem?_cons_zero, List.getElem?_cons_succ]
  repeat (go_big_quiet_step (fail))
  refine wpQuiet_nil ?_
  refine mixR_nil (by kernel_rfl) ?_
  have hG2 : w2.heap[w.heap.size]? = some (.cells #[.int .u32 0, .int .i64 0, .int .i64 0, .int .i64 0] 43 (0, 0)) := (hbx2.block _ (by omega)).trans hG0
  have hsz2 : w.heap.size + 1 ≤ w2.heap.size := by have := hbx2.size; simpa using this
  have hbw2 : Below w.heap.size w w2 := hbw0.trans (hbx2.mono (by omega))
  have hwh := whole_of_heap hG2
  simp only [List.size_toArray, List.length_cons, List.length_nil] at hwh
  go_wp2
  have hfin := heap_setRow_at (ds := #[.int .u32 0, .int .i64 0, .int .i64 0, .int .i64 0]) hG2
  refine bodyPost_ret (results_cell_tmp Tryd.results24 _ _ w.heap.size _ _ _ _ rfl hfin Tryd.underlying43 rfl (by kernel_rfl)) rfl ?_
  exact ⟨rfl, hbw2.trans (below_setRow' _ _ (Nat.le_refl _))⟩

set_option maxRecDepth 100000 in
set_option maxHeartbeats 2000000 in
theorem analyte_some (w : World) (P S : Nat) (A : Nat → Prop) (ps : List KV) (full : Bool) (id : Int) (l0 l1 l2 : Int) (h : PAt w P S A ps full) (h2 : U32 id) (hO : getB ps (keyB 97 id) = some (anaB l0 l1 l2)) (k0 : I64 l0) (k1 : I64 l1) (k2 : I64 l2) :
    Calls Tryd.prog 24 #[.pointer (some ⟨P, 0, none⟩), .int .u32 id] w fun e w' => e = .returned (.tuple #[.agg #[.int .u32 id, .int .i64 l0, .int .i64 l1, .int .i64 l2], .nilIface]) ∧ Below w.heap.size w w' := by
  obtain ⟨p0, pf, hPl⟩ := cell_one h.proto
  have HO := hide hO
  clear hO
  have hbw0 : Below w.heap.size w (w.alloc (.cells #[.int .u32 0, .int .i64 0, .int .i64 0, .int .i64 0] 43)) := (Below.refl _ _).alloc (Nat.le_refl _) _
  have hG0 : (w.alloc (.cells #[.int .u32 0, .int .i64 0, .int .i64 0, .int .i64 0] 43)).heap[w.heap.size]? = some (.cells #[.int .u32 0, .int .i64 0, .int .i64 0, .int .i64 0] 43 (0, 0)) := heap_alloc_at _ _
  go_enter Tryd.func24, Tryd.ntmps24
  go_upto_region 1 with fail
  refine wp_region_mix2 (w.heap.size + 1) [0, 1, 2, 3, 4, 7, 8, 9, 10, 11] [0, 1, 2, 3, 4] 7 (by kernel_rfl) rfl (by decide) (by kernel_rfl) (fun d _ _ _ _ h => by cases d <;> exact h) ?_
  simp only [opersAt, List.getElem?_toArray, List.getElem?_cons_zero, List.getElem?_cons_succ]
  repeat (go_big_quiet_step (fail))
  refine wpQuiet_nil ?_
  refine mixR_one (k := 5) (by kernel_rfl) rfl ?_
  go_wp2_with (go_at_call 49; refine (key_calls _ 97 id (by decide) h2).mono ?_; rintro e w1 ⟨kv, rfl, hown, hb1⟩)
  have hbx1 : Below (w.heap.size + 1) (w.alloc (.cells #[.int .u32 0, .int .i64 0, .int .i64 0, .int .i64 0] 43)) w1 := ((Below.refl _ _).drew).trans (hb1.mono (by simp))
  refine ⟨Or.inr ⟨⟨_, hbx1⟩, rfl⟩, ?_⟩
  refine mixR_one (k := 6) (by kernel_rfl) rfl ?_
  have hbw1 : Below w.heap.size w w1 := hbw0.trans (hbx1.mono (by omega))
  have HK := hide (hown.bytes (by rw [keyB_len]; omega))
  have HS := hide ((h.below hbw1).store)
  clear hown

  go_wp2_with (go_at_call 62; refine (get_calls w1 S A _ ps full kv _ HS.out HK.out).mono ?_; rintro e w2 ⟨hgot, hb2⟩; rw [HO.out] at hgot; obtain ⟨rv, rfl, hrv⟩ := hgot)
  have HV := hide hrv
  clear hrv
  have hbx2 : Below (w.heap.size + 1) (w.alloc (.cells #[.int .u32 0, .int .i64 0, .int .i64 0, .int .i64 0] 43)) w2 := hbx1.trans (hb2.mono (by have := hbx1.size; simpa using this))
  refine ⟨Or.inr ⟨⟨_, hbx2⟩, rfl⟩, ?_⟩
  refine mixR_reads [7, 8, 9, 10, 11] (fuel := 0) rfl (by decide) (by kernel_rfl) (fun d _ _ _ _ h => by cases d <;> exact h) ⟨⟨_, hbx2⟩, rfl⟩ ?_
  simp only [opersAt, List.getElem?_toArray, List.getElem?_cons_zero, List.getElem?_cons_succ]
  repeat (go_big_quiet_step (fail))
  refine wpQuiet_nil ?_
  refine mixR_nil (by kernel_rfl) ?_
  have hG2 : w2.heap[w.heap.size]? = some (.cells #[.int .u32 0, .int .i64 0, .int .i64 0, .int .i64 0] 43 (0, 0)) := (hbx2.block _ (by omega)).trans hG0
  have hsz2 : w.heap.size + 1 ≤ w2.heap.size := by have := hbx2.size; simpa using this
  have hbw2 : Below w.heap.size w w2 := hbw0.trans (hbx2.mono (by omega))
  go_wp2_with (go_at_call 64; refine (decodeAnalyte_calls _ id l0 l1 l2 _ _ HV.out k0 k1 k2).mono ?_; rintro e w3 ⟨rfl, hb3⟩; have hG3 : w3.heap[w.heap.size]? = some (.cells #[.int .u32 0, .int .i64 0, .int .i64 0, .int .i64 0] 43 (0, 0)) := (hb3.block _ (by omega)).trans hG2; have hwh := whole_of_heap hG3; simp only [List.size_toArray, List.length_cons, List.length_nil] at hwh)
  have hfin := heap_setRow_at (ds := #[.int .u32 id, .int .i64 l0, .int .i64 l1, .int .i64 l2]) hG3
  refine bodyPost_ret (results_cell_tmp Tryd.results24 _ _ w.heap.size _ _ _ _ rfl hfin Tryd.underlying43 rfl (by kernel_rfl)) rfl ?_
  exact ⟨rfl, (hbw2.trans (hb3.mono (by omega))).trans (below_setRow' _ _ (Nat.le_refl _))⟩

set_option maxRecDepth 100000 in
set_option maxHeartbeats 2000000 in
theorem subject_none (w : World) (P S : Nat) (A : Nat → Prop) (ps : List KV) (full : Bool) (id : Int) (h : PAt w P S A ps full) (h2 : U32 id) (hO : getB ps (keyB 117 id) = none) :
    Calls Tryd.prog 26 #[.pointer (some ⟨P, 0, none⟩), .int .u32 id] w fun e w' => e = .returned (.tuple #[.agg #[.int .u32 0, .int .u32 0, .int .i64 0], errV 17]) ∧ Below w.heap.size w w' := by
  obtain ⟨p0, pf, hPl⟩ := cell_one h.proto
  have HO := hide hO
  clear hO
  have hbw0 : Below w.heap.size w (w.alloc (.cells #[.int .u32 0, .int .u32 0, .int .i64 0] 45)) := (Below.refl _ _).alloc (Nat.le_refl _) _
  have hG0 : (w.alloc (.cells #[.int .u32 0, .int .u32 0, .int .i64 0] 45)).heap[w.heap.size]? = some (.cells #[.int .u32 0, .int .u32 0, .int .i64 0] 45 (0, 0)) := heap_alloc_at _ _
  go_enter Tryd.func26, Tryd.ntmps26
  go_upto_region 1 with fail
  refine wp_region_mix2 (w.heap.size + 1) [0, 1, 2, 3, 4, 7, 8, 9, 10, 11] [0, 1, 2, 3, 4] 7 (by kernel_rfl) rfl (by decide) (by kernel_rfl) (fun d _ _ _ _ h => by cases d <;> exact h) ?_
  simp only [opersAt, List.getElem?_toArray, List.getElem?_cons_zero, List.getElem?_cons_succ]
  repeat (go_big_quiet_step (fail))
  refine wpQuiet_nil ?_
  refine mixR_one (k := 5) (by kernel_rfl) rfl ?_
  go_wp2_with (go_at_call 49; refine (key_calls _ 117 id (by decide) h2).mono ?_; rintro e w1 ⟨kv, rfl, hown, hb1⟩)
  have hbx1 : Below (w.heap.size + 1) (w.alloc (.cells #[.int .u32 0, .int .u32 0, .int .i64 0] 45)) w1 := ((Below.refl _ _).drew).trans (hb1.mono (by simp))
  refine ⟨Or.inr ⟨⟨_, hbx1⟩, rfl⟩, ?_⟩
  refine mixR_one (k := 6) (by kernel_rfl) rfl ?_
  have hbw1 : Below w.heap.size w w1 := hbw0.trans (hbx1.mono (by omega))
  have HK := hide (hown.bytes (by rw [keyB_len]; omega))
  have HS := hide ((h.below hbw1).store)
  clear hown

  go_wp2_with (go_at_call 62; refine (get_calls w1 S A _ ps full kv _ HS.out HK.out).mono ?_; rintro e w2 ⟨hgot, hb2⟩; rw [HO.out] at hgot; have hgot' : e = .returned (.tuple #[.slice none 0 0, .bool false]) := hgot; clear hgot; subst hgot')
  have hbx2 : Below (w.heap.size + 1) (w.alloc (.cells #[.int .u32 0, .int .u32 0, .int .i64 0] 45)) w2 := hbx1.trans (hb2.mono (by have := hbx1.size; simpa using this))
  refine ⟨Or.inr ⟨⟨_, hbx2⟩, rfl⟩, ?_⟩
  refine mixR_reads [7, 8, 9, 10, 11] (fuel := 0) rfl (by decide) (by kernel_rfl) (fun d _ _ _ _ h => by cases d <;> exact h) ⟨⟨_, hbx2⟩, rfl⟩ ?_
  simp only [opersAt, List.getElem?_toArray, List.getElem?_cons_zero, List.getElem?_cons_succ]
  repeat (go_big_quiet_step (fail))
  refine wpQuiet_nil ?_
  refine mixR_nil (by kernel_rfl) ?_
  have hG2 : w2.heap[w.heap.size]? = some (.cells #[.int .u32 0, .int .u32 0, .int .i64 0] 45 (0, 0)) := (hbx2.block _ (by omega)).trans hG0
  have hsz2 : w.heap.size + 1 ≤ w2.heap.size := by have := hbx2.size; simpa using this
  have hbw2 : Below w.heap.size w w2 := hbw0.trans (hbx2.mono (by omega))
  have hwh := whole_of_heap hG2
  simp only [List.size_toArray, List.length_cons, List.length_nil] at hwh
  go_wp2
  have hfin := heap_setRow_at (ds := #[.int .u32 0, .int .u32 0, .int .i64 0]) hG2
  refine bodyPost_ret (results_cell_tmp Tryd.results26 _ _ w.heap.size _ _ _ _ rfl hfin Tryd.underlying45 rfl (by kernel_rfl)) rfl ?_
  exact ⟨rfl, hbw2.trans (below_setRow' _ _ (Nat.le_refl _))⟩

set_option maxRecDepth 100000 in
set_option maxHeartbeats 2000000 in
theorem subject_some (w : World) (P S : Nat) (A : Nat → Prop) (ps : List KV) (full : Bool) (id : Int) (site anchor : Int) (h : PAt w P S A ps full) (h2 : U32 id) (hO : getB ps (keyB 117 id) = some (subB site anchor)) (k0 : U32 site) (k1 : I64 anchor) :
    Calls Tryd.prog 26 #[.pointer (some ⟨P, 0, none⟩), .int .u32 id] w fun e w' => e = .returned (.tuple #[.agg #[.int .u32 id, .int .u32 site, .int .i64 anchor], .nilIface]) ∧ Below w.heap.size w w' := by
  obtain ⟨p0, pf, hPl⟩ := cell_one h.proto
  have HO := hide hO
  clear hO
  have hbw0 : Below w.heap.size w (w.alloc (.cells #[.int .u32 0, .int .u32 0, .int .i64 0] 45)) := (Below.refl _ _).alloc (Nat.le_refl _) _
  have hG0 : (w.alloc (.cells #[.int .u32 0, .int .u32 0, .int .i64 0] 45)).heap[w.heap.size]? = some (.cells #[.int .u32 0, .int .u32 0, .int .i64 0] 45 (0, 0)) := heap_alloc_at _ _
  go_enter Tryd.func26, Tryd.ntmps26
  go_upto_region 1 with fail
  refine wp_region_mix2 (w.heap.size + 1) [0, 1, 2, 3, 4, 7, 8, 9, 10, 11] [0, 1, 2, 3, 4] 7 (by kernel_rfl) rfl (by decide) (by kernel_rfl) (fun d _ _ _ _ h => by cases d <;> exact h) ?_
  simp only [opersAt, List.getElem?_toArray, List.getElem?_cons_zero, List.getElem?_cons_succ]
  repeat (go_big_quiet_step (fail))
  refine wpQuiet_nil ?_
  refine mixR_one (k := 5) (by kernel_rfl) rfl ?_
  go_wp2_with (go_at_call 49; refine (key_calls _ 117 id (by decide) h2).mono ?_; rintro e w1 ⟨kv, rfl, hown, hb1⟩)
  have hbx1 : Below (w.heap.size + 1) (w.alloc (.cells #[.int .u32 0, .int .u32 0, .int .i64 0] 45)) w1 := ((Below.refl _ _).drew).trans (hb1.mono (by simp))
  refine ⟨Or.inr ⟨⟨_, hbx1⟩, rfl⟩, ?_⟩
  refine mixR_one (k := 6) (by kernel_rfl) rfl ?_
  have hbw1 : Below w.heap.size w w1 := hbw0.trans (hbx1.mono (by omega))
  have HK := hide (hown.bytes (by rw [keyB_len]; omega))
  have HS := hide ((h.below hbw1).store)
  clear hown

  go_wp2_with (go_at_call 62; refine (get_calls w1 S A _ ps full kv _ HS.out HK.out).mono ?_; rintro e w2 ⟨hgot, hb2⟩; rw [HO.out] at hgot; obtain ⟨rv, rfl, hrv⟩ := hgot)
  have HV := hide hrv
  clear hrv
  have hbx2 : Below (w.heap.size + 1) (w.alloc (.cells #[.int .u32 0, .int .u32 0, .int .i64 0] 45)) w2 := hbx1.trans (hb2.mono (by have := hbx1.size; simpa using this))
  refine ⟨Or.inr ⟨⟨_, hbx2⟩, rfl⟩, ?_⟩
  refine mixR_reads [7, 8, 9, 10, 11] (fuel := 0) rfl (by decide) (by kernel_rfl) (fun d _ _ _ _ h => by cases d <;> exact h) ⟨⟨_, hbx2⟩, rfl⟩ ?_
  simp only [opersAt, List.getElem?_toArray, List.getElem?_cons_zero, List.getElem?_cons_succ]
  repeat (go_big_quiet_step (fail))
  refine wpQuiet_nil ?_
  refine mixR_nil (by kernel_rfl) ?_
  have hG2 : w2.heap[w.heap.size]? = some (.cells #[.int .u32 0, .int .u32 0, .int .i64 0] 45 (0, 0)) := (hbx2.block _ (by omega)).trans hG0
  have hsz2 : w.heap.size + 1 ≤ w2.heap.size := by have := hbx2.size; simpa using this
  have hbw2 : Below w.heap.size w w2 := hbw0.trans (hbx2.mono (by omega))
  go_wp2_with (go_at_call 66; refine (decodeSubject_calls _ id site anchor _ _ HV.out k0 k1).mono ?_; rintro e w3 ⟨rfl, hb3⟩; have hG3 : w3.heap[w.heap.size]? = some (.cells #[.int .u32 0, .int .u32 0, .int .i64 0] 45 (0, 0)) := (hb3.block _ (by omega)).trans hG2; have hwh := whole_of_heap hG3; simp only [List.size_toArray, List.length_cons, List.length_nil] at hwh)
  have hfin := heap_setRow_at (ds := #[.int .u32 id, .int .u32 site, .int .i64 anchor]) hG3
  refine bodyPost_ret (results_cell_tmp Tryd.results26 _ _ w.heap.size _ _ _ _ rfl hfin Tryd.underlying45 rfl (by kernel_rfl)) rfl ?_
  exact ⟨rfl, (hbw2.trans (hb3.mono (by omega))).trans (below_setRow' _ _ (Nat.le_refl _))⟩

set_option maxRecDepth 100000 in
set_option maxHeartbeats 2000000 in
theorem panel_none (w : World) (P S : Nat) (A : Nat → Prop) (ps : List KV) (full : Bool) (id : Int) (h : PAt w P S A ps full) (h2 : U32 id) (hO : getB ps (keyB 112 id) = none) :
    Calls Tryd.prog 25 #[.pointer (some ⟨P, 0, none⟩), .int .u32 id] w fun e w' => e = .returned (.tuple #[.agg #[.int .u32 0, .slice none 0 0], errV 15]) ∧ Below w.heap.size w w' := by
  obtain ⟨p0, pf, hPl⟩ := cell_one h.proto
  have HO := hide hO
  clear hO
  have hbw0 : Below w.heap.size w (w.alloc (.cells #[.int .u32 0, .slice none 0 0] 78)) := (Below.refl _ _).alloc (Nat.le_refl _) _
  have hG0 : (w.alloc (.cells #[.int .u32 0, .slice none 0 0] 78)).heap[w.heap.size]? = some (.cells #[.int .u32 0, .slice none 0 0] 78 (0, 0)) := heap_alloc_at _ _
  go_enter Tryd.func25, Tryd.ntmps25
  go_upto_region 1 with fail
  refine wp_region_mix2 (w.heap.size + 1) [0, 1, 2, 3, 4, 7, 8, 9, 10, 11] [0, 1, 2, 3, 4] 7 (by kernel_rfl) rfl (by decide) (by kernel_rfl) (fun d _ _ _ _ h => by cases d <;> exact h) ?_
  simp only [opersAt, List.getElem?_toArray, List.getElem?_cons_zero, List.getElem?_cons_succ]
  repeat (go_big_quiet_step (fail))
  refine wpQuiet_nil ?_
  refine mixR_one (k := 5) (by kernel_rfl) rfl ?_
  go_wp2_with (go_at_call 49; refine (key_calls _ 112 id (by decide) h2).mono ?_; rintro e w1 ⟨kv, rfl, hown, hb1⟩)
  have hbx1 : Below (w.heap.size + 1) (w.alloc (.cells #[.int .u32 0, .slice none 0 0] 78)) w1 := ((Below.refl _ _).drew).trans (hb1.mono (by simp))
  refine ⟨Or.inr ⟨⟨_, hbx1⟩, rfl⟩, ?_⟩
  refine mixR_one (k := 6) (by kernel_rfl) rfl ?_
  have hbw1 : Below w.heap.size w w1 := hbw0.trans (hbx1.mono (by omega))
  have HK := hide (hown.bytes (by rw [keyB_len]; omega))
  have HS := hide ((h.below hbw1).store)
  clear hown

  go_wp2_with (go_at_call 62; refine (get_calls w1 S A _ ps full kv _ HS.out HK.out).mono ?_; rintro e w2 ⟨hgot, hb2⟩; rw [HO.out] at hgot; have hgot' : e = .returned (.tuple #[.slice none 0 0, .bool false]) := hgot; clear hgot; subst hgot')
  have hbx2 : Below (w.heap.size + 1) (w.alloc (.cells #[.int .u32 0, .slice none 0 0] 78)) w2 := hbx1.trans (hb2.mono (by have := hbx1.size; simpa using this))
  refine ⟨Or.inr ⟨⟨_, hbx2⟩, rfl⟩, ?_⟩
  refine mixR_reads [7, 8, 9, 10, 11] (fuel := 0) rfl (by decide) (by kernel_rfl) (fun d _ _ _ _ h => by cases d <;> exact h) ⟨⟨_, hbx2⟩, rfl⟩ ?_
  simp only [opersAt, List.getElem?_toArray, List.getElem?_cons_zero, List.getElem?_cons_succ]
  repeat (go_big_quiet_step (fail))
  refine wpQuiet_nil ?_
  refine mixR_nil (by kernel_rfl) ?_
  have hG2 : w2.heap[w.heap.size]? = some (.cells #[.int .u32 0, .slice none 0 0] 78 (0, 0)) := (hbx2.block _ (by omega)).trans hG0
  have hsz2 : w.heap.size + 1 ≤ w2.heap.size := by have := hbx2.size; simpa using this
  have hbw2 : Below w.heap.size w w2 := hbw0.trans (hbx2.mono (by omega))
  have hwh := whole_of_heap hG2
  simp only [List.size_toArray, List.length_cons, List.length_nil] at hwh
  go_wp2
  have hfin := heap_setRow_at (ds := #[.int .u32 0, .slice none 0 0]) hG2
  refine bodyPost_ret (results_cell_tmp Tryd.results25 _ _ w.heap.size _ _ _ _ rfl hfin Tryd.underlying78 rfl (by kernel_rfl)) rfl ?_
  exact ⟨rfl, hbw2.trans (below_setRow' _ _ (Nat.le_refl _))⟩

set_option maxRecDepth 100000 in
set_option maxHeartbeats 2000000 in
theorem panel_some (w : World) (P S : Nat) (A : Nat → Prop) (ps : List KV) (full : Bool) (id : Int) (ids : List Int) (h : PAt w P S A ps full) (h2 : U32 id) (hO : getB ps (keyB 112 id) = some (idsB ids)) (k0 : ∀ x ∈ ids, U32 x) (k1 : ids.length ≤ 8) :
    Calls Tryd.prog 25 #[.pointer (some ⟨P, 0, none⟩), .int .u32 id] w fun e w' => ∃ iv, e = .returned (.tuple #[.agg #[.int .u32 id, iv], .nilIface]) ∧ U32sAt w' (w.heap.size ≤ ·) iv ids ∧ Below w.heap.size w w' := by
  obtain ⟨p0, pf, hPl⟩ := cell_one h.proto
  have HO := hide hO
  clear hO
  have hbw0 : Below w.heap.size w (w.alloc (.cells #[.int .u32 0, .slice none 0 0] 78)) := (Below.refl _ _).alloc (Nat.le_refl _) _
  have hG0 : (w.alloc (.cells #[.int .u32 0, .slice none 0 0] 78)).heap[w.heap.size]? = some (.cells #[.int .u32 0, .slice none 0 0] 78 (0, 0)) := heap_alloc_at _ _
  go_enter Tryd.func25, Tryd.ntmps25
  go_upto_region 1 with fail
  refine wp_region_mix2 (w.heap.size + 1) [0, 1, 2, 3, 4, 7, 8, 9, 10, 11] [0, 1, 2, 3, 4] 7 (by kernel_rfl) rfl (by decide) (by kernel_rfl) (fun d _ _ _ _ h => by cases d <;> exact h) ?_
  simp only [opersAt, List.getElem?_toArray, List.getElem?_cons_zero, List.getElem?_cons_succ]
  repeat (go_big_quiet_step (fail))
  refine wpQuiet_nil ?_
  refine mixR_one (k := 5) (by kernel_rfl) rfl ?_
  go_wp2_with (go_at_call 49; refine (key_calls _ 112 id (by decide) h2).mono ?_; rintro e w1 ⟨kv, rfl, hown, hb1⟩)
  have hbx1 : Below (w.heap.size + 1) (w.alloc (.cells #[.int .u32 0, .slice none 0 0] 78)) w1 := ((Below.refl _ _).drew).trans (hb1.mono (by simp))
  refine ⟨Or.inr ⟨⟨_, hbx1⟩, rfl⟩, ?_⟩
  refine mixR_one (k := 6) (by kernel_rfl) rfl ?_
  have hbw1 : Below w.heap.size w w1 := hbw0.trans (hbx1.mono (by omega))
  have HK := hide (hown.bytes (by rw [keyB_len]; omega))
  have HS := hide ((h.below hbw1).store)
  clear hown

  go_wp2_with (go_at_call 62; refine (get_calls w1 S A _ ps full kv _ HS.out HK.out).mono ?_; rintro e w2 ⟨hgot, hb2⟩; rw [HO.out] at hgot; obtain ⟨rv, rfl, hrv⟩ := hgot)
  have HV := hide hrv
  clear hrv
  have hbx2 : Below (w.heap.size + 1) (w.alloc (.cells #[.int .u32 0, .slice none 0 0] 78)) w2 := hbx1.trans (hb2.mono (by have := hbx1.size; simpa using this))
  refine ⟨Or.inr ⟨⟨_, hbx2⟩, rfl⟩, ?_⟩
  refine mixR_reads [7, 8, 9, 10, 11] (fuel := 0) rfl (by decide) (by kernel_rfl) (fun d _ _ _ _ h => by cases d <;> exact h) ⟨⟨_, hbx2⟩, rfl⟩ ?_
  simp only [opersAt, List.getElem?_toArray, List.getElem?_cons_zero, List.getElem?_cons_succ]
  repeat (go_big_quiet_step (fail))
  refine wpQuiet_nil ?_
  refine mixR_nil (by kernel_rfl) ?_
  have hG2 : w2.heap[w.heap.size]? = some (.cells #[.int .u32 0, .slice none 0 0] 78 (0, 0)) := (hbx2.block _ (by omega)).trans hG0
  have hsz2 : w.heap.size + 1 ≤ w2.heap.size := by have := hbx2.size; simpa using this
  have hbw2 : Below w.heap.size w w2 := hbw0.trans (hbx2.mono (by omega))
  go_wp2_with (go_at_call 65; refine (decodePanel_calls _ id _ _ ids HV.out k0 k1).mono ?_; rintro e w3 ⟨iv, rfl, hown3, hb3⟩; have hG3 : w3.heap[w.heap.size]? = some (.cells #[.int .u32 0, .slice none 0 0] 78 (0, 0)) := (hb3.block _ (by omega)).trans hG2; have hwh := whole_of_heap hG3; simp only [List.size_toArray, List.length_cons, List.length_nil] at hwh; obtain ⟨ia, icap, hiv⟩ := hown3.form; generalize hIL : ids.length = IL at hiv; subst hiv)
  have hfin := heap_setRow_at (ds := #[.int .u32 id, .slice ia IL icap]) hG3
  refine bodyPost_ret (results_cell_tmp Tryd.results25 _ _ w.heap.size _ _ _ _ rfl hfin Tryd.underlying78 rfl (by kernel_rfl)) rfl ?_
  exact ⟨_, rfl, (RArr.mono (hown3.rows u32Cs_size (by decide) (by omega)) (fun b hb => setRow_other _ _ _ _ (by have h9 : w2.heap.size ≤ b := hb; omega)) (fun b hb => by have h9 : w2.heap.size ≤ b := hb; show w.heap.size ≤ b; omega)), (hbw2.trans (hb3.mono (by omega))).trans (below_setRow' _ _ (Nat.le_refl _))⟩

set_option maxRecDepth 100000 in
set_option maxHeartbeats 2000000 in
theorem version_none (w : World) (P S : Nat) (A : Nat → Prop) (ps : List KV) (full : Bool) (id : Int) (h : PAt w P S A ps full) (h2 : U32 id) (hO : getB ps (keyB 118 id) = none) :
    Calls Tryd.prog 23 #[.pointer (some ⟨P, 0, none⟩), .int .u32 id] w fun e w' => e = .returned (.tuple #[.agg #[.int .u32 0, .int .i64 0, .slice none 0 0], errV 18]) ∧ Below w.heap.size w w' := by
  obtain ⟨p0, pf, hPl⟩ := cell_one h.proto
  have HO := hide hO
  clear hO
  have hbw0 : Below w.heap.size w (w.alloc (.cells #[.int .u32 0, .int .i64 0, .slice none 0 0] 41)) := (Below.refl _ _).alloc (Nat.le_refl _) _
  have hG0 : (w.alloc (.cells #[.int .u32 0, .int .i64 0, .slice none 0 0] 41)).heap[w.heap.size]? = some (.cells #[.int .u32 0, .int .i64 0, .slice none 0 0] 41 (0, 0)) := heap_alloc_at _ _
  go_enter Tryd.func23, Tryd.ntmps23
  go_upto_region 1 with fail
  refine wp_region_mix2 (w.heap.size + 1) [0, 1, 2, 3, 4, 7, 8, 9, 10, 11] [0, 1, 2, 3, 4] 7 (by kernel_rfl) rfl (by decide) (by kernel_rfl) (fun d _ _ _ _ h => by cases d <;> exact h) ?_
  simp only [opersAt, List.getElem?_toArray, List.getElem?_cons_zero, List.getElem?_cons_succ]
  repeat (go_big_quiet_step (fail))
  refine wpQuiet_nil ?_
  refine mixR_one (k := 5) (by kernel_rfl) rfl ?_
  go_wp2_with (go_at_call 49; refine (key_calls _ 118 id (by decide) h2).mono ?_; rintro e w1 ⟨kv, rfl, hown, hb1⟩)
  have hbx1 : Below (w.heap.size + 1) (w.alloc (.cells #[.int .u32 0, .int .i64 0, .slice none 0 0] 41)) w1 := ((Below.refl _ _).drew).trans (hb1.mono (by simp))
  refine ⟨Or.inr ⟨⟨_, hbx1⟩, rfl⟩, ?_⟩
  refine mixR_one (k := 6) (by kernel_rfl) rfl ?_
  have hbw1 : Below w.heap.size w w1 := hbw0.trans (hbx1.mono (by omega))
  have HK := hide (hown.bytes (by rw [keyB_len]; omega))
  have HS := hide ((h.below hbw1).store)
  clear hown

  go_wp2_with (go_at_call 62; refine (get_calls w1 S A _ ps full kv _ HS.out HK.out).mono ?_; rintro e w2 ⟨hgot, hb2⟩; rw [HO.out] at hgot; have hgot' : e = .returned (.tuple #[.slice none 0 0, .bool false]) := hgot; clear hgot; subst hgot')
  have hbx2 : Below (w.heap.size + 1) (w.alloc (.cells #[.int .u32 0, .int .i64 0, .slice none 0 0] 41)) w2 := hbx1.trans (hb2.mono (by have := hbx1.size; simpa using this))
  refine ⟨Or.inr ⟨⟨_, hbx2⟩, rfl⟩, ?_⟩
  refine mixR_reads [7, 8, 9, 10, 11] (fuel := 0) rfl (by decide) (by kernel_rfl) (fun d _ _ _ _ h => by cases d <;> exact h) ⟨⟨_, hbx2⟩, rfl⟩ ?_
  simp only [opersAt, List.getElem?_toArray, List.getElem?_cons_zero, List.getElem?_cons_succ]
  repeat (go_big_quiet_step (fail))
  refine wpQuiet_nil ?_
  refine mixR_nil (by kernel_rfl) ?_
  have hG2 : w2.heap[w.heap.size]? = some (.cells #[.int .u32 0, .int .i64 0, .slice none 0 0] 41 (0, 0)) := (hbx2.block _ (by omega)).trans hG0
  have hsz2 : w.heap.size + 1 ≤ w2.heap.size := by have := hbx2.size; simpa using this
  have hbw2 : Below w.heap.size w w2 := hbw0.trans (hbx2.mono (by omega))
  have hwh := whole_of_heap hG2
  simp only [List.size_toArray, List.length_cons, List.length_nil] at hwh
  go_wp2
  have hfin := heap_setRow_at (ds := #[.int .u32 0, .int .i64 0, .slice none 0 0]) hG2
  refine bodyPost_ret (results_cell_tmp Tryd.results23 _ _ w.heap.size _ _ _ _ rfl hfin Tryd.underlying41 rfl (by kernel_rfl)) rfl ?_
  exact ⟨rfl, hbw2.trans (below_setRow' _ _ (Nat.le_refl _))⟩

set_option maxRecDepth 100000 in
set_option maxHeartbeats 2000000 in
theorem version_some (w : World) (P S : Nat) (A : Nat → Prop) (ps : List KV) (full : Bool) (id : Int) (eff : Int) (vs : List Visit) (h : PAt w P S A ps full) (h2 : U32 id) (hO : getB ps (keyB 118 id) = some (verB eff vs)) (k0 : I64 eff) (k1 : ∀ v ∈ vs, v.Ok) (k2 : ∀ v ∈ vs, v.panels.length ≤ 6) (k3 : vs.length ≤ 12) :
    Calls Tryd.prog 23 #[.pointer (some ⟨P, 0, none⟩), .int .u32 id] w fun e w' => ∃ iv, e = .returned (.tuple #[.agg #[.int .u32 id, .int .i64 eff, iv], .nilIface]) ∧ VisitsAt w' (w.heap.size ≤ ·) iv vs ∧ Below w.heap.size w w' := by
  obtain ⟨p0, pf, hPl⟩ := cell_one h.proto
  have HO := hide hO
  clear hO
  have hbw0 : Below w.heap.size w (w.alloc (.cells #[.int .u32 0, .int .i64 0, .slice none 0 0] 41)) := (Below.refl _ _).alloc (Nat.le_refl _) _
  have hG0 : (w.alloc (.cells #[.int .u32 0, .int .i64 0, .slice none 0 0] 41)).heap[w.heap.size]? = some (.cells #[.int .u32 0, .int .i64 0, .slice none 0 0] 41 (0, 0)) := heap_alloc_at _ _
  go_enter Tryd.func23, Tryd.ntmps23
  go_upto_region 1 with fail
  refine wp_region_mix2 (w.heap.size + 1) [0, 1, 2, 3, 4, 7, 8, 9, 10, 11] [0, 1, 2, 3, 4] 7 (by kernel_rfl) rfl (by decide) (by kernel_rfl) (fun d _ _ _ _ h => by cases d <;> exact h) ?_
  simp only [opersAt, List.getElem?_toArray, List.getElem?_cons_zero, List.getElem?_cons_succ]
  repeat (go_big_quiet_step (fail))
  refine wpQuiet_nil ?_
  refine mixR_one (k := 5) (by kernel_rfl) rfl ?_
  go_wp2_with (go_at_call 49; refine (key_calls _ 118 id (by decide) h2).mono ?_; rintro e w1 ⟨kv, rfl, hown, hb1⟩)
  have hbx1 : Below (w.heap.size + 1) (w.alloc (.cells #[.int .u32 0, .int .i64 0, .slice none 0 0] 41)) w1 := ((Below.refl _ _).drew).trans (hb1.mono (by simp))
  refine ⟨Or.inr ⟨⟨_, hbx1⟩, rfl⟩, ?_⟩
  refine mixR_one (k := 6) (by kernel_rfl) rfl ?_
  have hbw1 : Below w.heap.size w w1 := hbw0.trans (hbx1.mono (by omega))
  have HK := hide (hown.bytes (by rw [keyB_len]; omega))
  have HS := hide ((h.below hbw1).store)
  clear hown

  go_wp2_with (go_at_call 62; refine (get_calls w1 S A _ ps full kv _ HS.out HK.out).mono ?_; rintro e w2 ⟨hgot, hb2⟩; rw [HO.out] at hgot; obtain ⟨rv, rfl, hrv⟩ := hgot)
  have HV := hide hrv
  clear hrv
  have hbx2 : Below (w.heap.size + 1) (w.alloc (.cells #[.int .u32 0, .int .i64 0, .slice none 0 0] 41)) w2 := hbx1.trans (hb2.mono (by have := hbx1.size; simpa using this))
  refine ⟨Or.inr ⟨⟨_, hbx2⟩, rfl⟩, ?_⟩
  refine mixR_reads [7, 8, 9, 10, 11] (fuel := 0) rfl (by decide) (by kernel_rfl) (fun d _ _ _ _ h => by cases d <;> exact h) ⟨⟨_, hbx2⟩, rfl⟩ ?_
  simp only [opersAt, List.getElem?_toArray, List.getElem?_cons_zero, List.getElem?_cons_succ]
  repeat (go_big_quiet_step (fail))
  refine wpQuiet_nil ?_
  refine mixR_nil (by kernel_rfl) ?_
  have hG2 : w2.heap[w.heap.size]? = some (.cells #[.int .u32 0, .int .i64 0, .slice none 0 0] 41 (0, 0)) := (hbx2.block _ (by omega)).trans hG0
  have hsz2 : w.heap.size + 1 ≤ w2.heap.size := by have := hbx2.size; simpa using this
  have hbw2 : Below w.heap.size w w2 := hbw0.trans (hbx2.mono (by omega))
  go_wp2_with (go_at_call 63; refine (decodeVersion_calls _ id eff _ _ vs HV.out k0 k1 k2 k3).mono ?_; rintro e w3 ⟨iv, rfl, hown3, hb3⟩; have hG3 : w3.heap[w.heap.size]? = some (.cells #[.int .u32 0, .int .i64 0, .slice none 0 0] 41 (0, 0)) := (hb3.block _ (by omega)).trans hG2; have hwh := whole_of_heap hG3; simp only [List.size_toArray, List.length_cons, List.length_nil] at hwh; obtain ⟨ia, icap, hiv⟩ := hown3.form; generalize hIL : vs.length = IL at hiv; subst hiv)
  have hfin := heap_setRow_at (ds := #[.int .u32 id, .int .i64 eff, .slice ia IL icap]) hG3
  refine bodyPost_ret (results_cell_tmp Tryd.results23 _ _ w.heap.size _ _ _ _ rfl hfin Tryd.underlying41 rfl (by kernel_rfl)) rfl ?_
  exact ⟨_, rfl, (hown3.mono (fun b hb => setRow_other _ _ _ _ (by have h9 : w2.heap.size ≤ b := hb; omega)) (fun b hb => by have h9 : w2.heap.size ≤ b := hb; show w.heap.size ≤ b; omega)), (hbw2.trans (hb3.mono (by omega))).trans (below_setRow' _ _ (Nat.le_refl _))⟩

end Go.Proofs.Qxb6500665aDoor
