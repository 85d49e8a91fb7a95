/- What the system looks up in the store, walked. (Made by tools/mk_get.py.) -/
import Derived.Test.Qxb6500666aGreatDoorDec3
import Derived.Test.Qxb6500666aGreatDoorScanWalk
namespace Go.Proofs.Qxb6500666aGreatDoor
open Go.RowKit

def SysAt (w : World) (Y S LB : Nat) : Prop := w.heap[Y]? = some (.cells #[.pointer (some ⟨S, 0, none⟩), .pointer (some ⟨LB, 0, none⟩)] 264 (0, 0))
/-- All that the store holds are bytes. -/
def PsOk (ps : List KV) : Prop := ∀ p ∈ ps, ByteL p.1 ∧ ByteL p.2
theorem getB_ok {ps : List KV} {k v : List Int} (h : PsOk ps) (hg : getB ps k = some v) : ByteL v := by
  induction ps with
  | nil => cases hg
  | cons p r ih =>
    simp only [getB] at hg
    split at hg
    · injection hg with hg; rw [← hg]; exact (h p (by simp)).2
    · exact ih (fun q hq => h q (by simp [hq])) hg
def ofOpt {α : Type} : Option α → Except Int α
  | none => .error 28
  | some x => .ok x
def GetPost {α : Type} (w w' : World) (e : Ending) (f : α → Array Value) (z : α) (R : Except Int α) : Prop :=
  (match R with | .ok x => e = .returned (.tuple #[.agg (f x), .nilIface]) | .error c => e = .returned (.tuple #[.agg (f z), .iface 63 (.int .u8 c)])) ∧ Below w.heap.size w w'
theorem get_err {α : Type} {w w' : World} {f : α → Array Value} {z : α} {R : Except Int α} {c : Int} (HE : Hid (R = .error c)) (hb : Below w.heap.size w w') : GetPost w w' (.returned (.tuple #[.agg (f z), .iface 63 (.int .u8 c)])) f z R := by
  rw [HE.out]; exact ⟨rfl, hb⟩
theorem get_ok {α : Type} {w w' : World} {f : α → Array Value} {z : α} {R : Except Int α} {x : α} (HE : Hid (R = .ok x)) (hb : Below w.heap.size w w') : GetPost w w' (.returned (.tuple #[.agg (f x), .nilIface])) f z R := by
  rw [HE.out]; exact ⟨rfl, hb⟩
theorem u8c (n : Int) (h : 0 ≤ n ∧ n ≤ 255) : U8 n := h

attribute [local go_sem] ext_const Ext.cell Ext.frozen Ext.rng Ext.whole
attribute [local go_sem ↓] exec_ldStat exec_stStat exec_ldAcc exec_stAcc exec_ldPlc exec_stPlc exec_ldHd exec_stHd exec_ldChange exec_stChange
attribute [local go_sem] run_ldStat run_stStat run_ldAcc run_stAcc run_ldPlc run_stPlc run_ldHd run_stHd run_ldChange run_stChange whole_alloc_lt whole_alloc_at whole_drew setRow_alloc_at setRow_alloc_lt rng_alloc_lt rng_alloc_at rng_drew rng_drewN rng_setCell_other whole_setCell_other

def statR (ps : List KV)  : Except Int (Stat) := match getB ps (key0B 115) with | none => .ok ⟨0, 0, 0, 0⟩ | some v => ofOpt (decStat v)
set_option maxRecDepth 100000 in
set_option maxHeartbeats 2000000 in
theorem statR_calls (w : World) (Y S LB : Nat) (A : Nat → Prop) (ps : List KV) (full : Bool)  (hY : SysAt w Y S LB) (hS : StoreAt w S A ps full) (hps : PsOk ps)  :
    Calls Tryz.prog 116 #[.pointer (some ⟨Y, 0, none⟩)] w fun e w' => GetPost w w' e statCs ⟨0, 0, 0, 0⟩ (statR ps) := by
  obtain ⟨R, hR⟩ : ∃ R, R = statR ps := ⟨_, rfl⟩
  rw [← hR]
  have HR := hide hR
  obtain ⟨y0, -, -, hYl⟩ := cell_two hY
  have HS := hide hS
  clear hR hY hS
  have hov : ∀ x, ones (statCs x) 4 = true := fun _ => rfl
  simp only [statCs] at hov
  go_enter Tryz.func116, Tryz.ntmps116
  go_upto_region 1 with fail
  have hb0 : Below w.heap.size w (w.alloc (.cells (statCs ⟨0, 0, 0, 0⟩) 65)) := (Below.refl _ _).alloc (Nat.le_refl _) _
  have hx0 : (w.alloc (.cells (statCs ⟨0, 0, 0, 0⟩) 65)).heap[w.heap.size]? = some (.cells (statCs ⟨0, 0, 0, 0⟩) 65 (0, 0)) := heap_alloc_at _ _
  simp only [statCs] at hb0 hx0
  generalize (World.alloc w _) = W at *
  rw [← hb0.cell (p := ⟨Y, 0, none⟩) hYl] at y0
  have HB0 := hide hb0
  have HX0 := hide hx0
  have hlx := blk_lt hx0
  have hYl2 : Y < W.heap.size := by have := hb0.size; omega
  clear hb0 hx0 hYl
  cases hg : getB ps (key0B 115) with
  | none =>
    have HE : Hid (R = .ok ⟨0, 0, 0, 0⟩) := HR.out.trans (by simp [statR, hg])
    refine wp_region_mixT (W.heap.size) [3] (by kernel_rfl) ?_
    refine mixT_slots [0, 1, 2] (fuel := 8) rfl (by kernel_rfl) (by kernel_rfl) (fun d _ _ _ _ h => by cases d <;> exact h) ?_
    simp only [opersAt, List.getElem?_toArray, List.getElem?_cons_zero, List.getElem?_cons_succ]
    repeat (go_big_quiet_step (fail))
    refine wpQuiet_nil ?_
    refine mixT_reads [3] (fuel := 7) rfl (by kernel_rfl) (by decide) (by kernel_rfl) (fun d _ _ _ _ h => by cases d <;> exact h) (ext_drew _ _) ?_
    simp only [opersAt, List.getElem?_toArray, List.getElem?_cons_zero, List.getElem?_cons_succ]
    repeat (go_big_quiet_step (fail))
    refine wpQuiet_nil ?_
    refine mixT_one (k := 4) (by kernel_rfl) rfl ?_
    go_wp2_with (go_at_call 161; refine (key0_calls _ 115).mono ?_; rintro e w1 ⟨kv, rfl, hown, hb1⟩)
    have hbw : Below W.heap.size W w1 := (Below.refl _ _).drew.trans hb1
    refine ⟨Or.inr (by intros; exact ⟨⟨_, hbw⟩, rfl⟩), ?_⟩
    have HBW := hide hbw
    have HOWN := hide hown
    obtain ⟨ka, km, kc, ek⟩ := hown.form3
    subst ek
    have hz1 := hbw.size
    clear hown hb1 hbw
    refine mixT_one (k := 5) (by kernel_rfl) rfl ?_
    have HST : Hid (StoreAt w1 S A ps full) := HS.out.below (HB0.out.trans (HBW.out.mono HB0.out.size))
    go_wp2_with (go_at_call 160; refine (get_calls _ S A _ ps full _ (key0B 115) HST.out (HOWN.out.rows byteCs_size (by decide) (by simp [key0B]))).mono ?_; rintro e w2 ⟨hgot, hb2⟩; rw [hg] at hgot; have hgot' : e = .returned (.tuple #[.slice none 0 0, .bool false]) := hgot; subst hgot')
    have hbx2 : Below W.heap.size W w2 := HBW.out.trans (hb2.mono hz1)
    refine ⟨Or.inr (by intros; exact ⟨⟨_, hbx2⟩, rfl⟩), ?_⟩
    have HXX := hide ((hbx2.block _ hlx).trans HX0.out)
    have hwx : whole w2 (w.heap.size) 4 = true := whole_blk HXX.out
    have hlx2 := blk_lt HXX.out
    have HBZ := hide (HB0.out.trans (hbx2.mono HB0.out.size))
    clear hb2 hbx2 hgot
    refine mixT_slots [6, 7, 8] (fuel := 2) rfl (by kernel_rfl) (by kernel_rfl) (fun d _ _ _ _ h => by cases d <;> exact h) ?_
    simp only [opersAt, List.getElem?_toArray, List.getElem?_cons_zero, List.getElem?_cons_succ]
    repeat (go_big_quiet_step (fail))
    refine wpQuiet_nil ?_
    refine mixT_one (k := 9) (by kernel_rfl) rfl ?_
    go_wp2
    refine ⟨Or.inr (fun h => h), ?_⟩
    refine mixT_one (k := 10) (by kernel_rfl) rfl ?_
    go_wp2
    refine ⟨Or.inr (fun h => h), ?_⟩
    refine mixT_nil (by kernel_rfl) ?_
    go_wp2
    refine bodyPost_ret (results_cell_tmp Tryz.results116 _ _ (w.heap.size) _ _ _ _ rfl (heap_setRow_at HXX.out) Tryz.underlying65 rfl (by kernel_rfl)) rfl ?_
    exact get_ok (f := statCs) (z := ⟨0, 0, 0, 0⟩) HE (HBZ.out.trans (below_setRow' _ _ (by omega)))
  | some val =>
    have hby := getB_ok hps hg
    cases hd : decStat val with
    | none =>
      have HE : Hid (R = .error 28) := HR.out.trans (by simp [statR, hg, hd, ofOpt])
      refine wp_region_mixT (W.heap.size) [3] (by kernel_rfl) ?_
      refine mixT_slots [0, 1, 2] (fuel := 8) rfl (by kernel_rfl) (by kernel_rfl) (fun d _ _ _ _ h => by cases d <;> exact h) ?_
      simp only [opersAt, List.getElem?_toArray, List.getElem?_cons_zero, List.getElem?_cons_succ]
      repeat (go_big_quiet_step (fail))
      refine wpQuiet_nil ?_
      refine mixT_reads [3] (fuel := 7) rfl (by kernel_rfl) (by decide) (by kernel_rfl) (fun d _ _ _ _ h => by cases d <;> exact h) (ext_drew _ _) ?_
      simp only [opersAt, List.getElem?_toArray, List.getElem?_cons_zero, List.getElem?_cons_succ]
      repeat (go_big_quiet_step (fail))
      refine wpQuiet_nil ?_
      refine mixT_one (k := 4) (by kernel_rfl) rfl ?_
      go_wp2_with (go_at_call 161; refine (key0_calls _ 115).mono ?_; rintro e w1 ⟨kv, rfl, hown, hb1⟩)
      have hbw : Below W.heap.size W w1 := (Below.refl _ _).drew.trans hb1
      refine ⟨Or.inr (by intros; exact ⟨⟨_, hbw⟩, rfl⟩), ?_⟩
      have HBW := hide hbw
      have HOWN := hide hown
      obtain ⟨ka, km, kc, ek⟩ := hown.form3
      subst ek
      have hz1 := hbw.size
      clear hown hb1 hbw
      refine mixT_one (k := 5) (by kernel_rfl) rfl ?_
      have HST : Hid (StoreAt w1 S A ps full) := HS.out.below (HB0.out.trans (HBW.out.mono HB0.out.size))
      go_wp2_with (go_at_call 160; refine (get_calls _ S A _ ps full _ (key0B 115) HST.out (HOWN.out.rows byteCs_size (by decide) (by simp [key0B]))).mono ?_; rintro e w2 ⟨hgot, hb2⟩; rw [hg] at hgot; obtain ⟨vv, hgot', hval⟩ : ∃ v, e = .returned (.tuple #[v, .bool true]) ∧ BytesAt w2 (w1.heap.size ≤ ·) v val := hgot; subst hgot'; obtain ⟨va, vm, vc, ev⟩ := hval.form; subst ev)
      have hbx2 : Below W.heap.size W w2 := HBW.out.trans (hb2.mono hz1)
      refine ⟨Or.inr (by intros; exact ⟨⟨_, hbx2⟩, rfl⟩), ?_⟩
      have HVAL := hide hval
      have HBX2 := hide hbx2
      have hz2 := hbx2.size
      clear hb2 hbx2 hval
      refine mixT_slots [6, 7, 8] (fuel := 2) rfl (by kernel_rfl) (by kernel_rfl) (fun d _ _ _ _ h => by cases d <;> exact h) ?_
      simp only [opersAt, List.getElem?_toArray, List.getElem?_cons_zero, List.getElem?_cons_succ]
      repeat (go_big_quiet_step (fail))
      refine wpQuiet_nil ?_
      refine mixT_one (k := 9) (by kernel_rfl) rfl ?_
      go_wp2
      refine ⟨Or.inr (fun h => h), ?_⟩
      refine mixT_one (k := 10) (by kernel_rfl) rfl ?_
      go_wp2
      refine ⟨Or.inr (fun h => h), ?_⟩
      refine mixT_nil (by kernel_rfl) ?_
      go_wp2_with (go_at_call 162; refine (decStat_calls _ _ _ val HVAL.out hby).mono ?_; rintro e w3 ⟨hd3, hb3⟩; rw [hd] at hd3; have hd4 : e = .returned (.tuple #[.agg (statCs ⟨0, 0, 0, 0⟩), .iface 63 (.int .u8 28)]) := hd3; subst hd4; have HXX := hide ((hb3.block _ (by omega)).trans ((HBX2.out.block _ hlx).trans HX0.out)); have hwx : whole w3 (w.heap.size) 4 = true := whole_blk HXX.out; have hlx3 := blk_lt HXX.out; have HBZ := hide ((HB0.out.trans (HBX2.out.mono HB0.out.size)).trans (hb3.mono (by have := HB0.out.size; omega))); have hovx := hov ⟨0, 0, 0, 0⟩)
      refine bodyPost_ret (results_cell_tmp Tryz.results116 _ _ (w.heap.size) _ _ _ _ rfl (heap_setRow_at HXX.out) Tryz.underlying65 rfl (by kernel_rfl)) rfl ?_
      exact get_err (f := statCs) (z := ⟨0, 0, 0, 0⟩) HE (HBZ.out.trans (below_setRow' _ _ (by omega)))
    | some x =>
      have HE : Hid (R = .ok x) := HR.out.trans (by simp [statR, hg, hd, ofOpt])
      refine wp_region_mixT (W.heap.size) [3] (by kernel_rfl) ?_
      refine mixT_slots [0, 1, 2] (fuel := 8) rfl (by kernel_rfl) (by kernel_rfl) (fun d _ _ _ _ h => by cases d <;> exact h) ?_
      simp only [opersAt, List.getElem?_toArray, List.getElem?_cons_zero, List.getElem?_cons_succ]
      repeat (go_big_quiet_step (fail))
      refine wpQuiet_nil ?_
      refine mixT_reads [3] (fuel := 7) rfl (by kernel_rfl) (by decide) (by kernel_rfl) (fun d _ _ _ _ h => by cases d <;> exact h) (ext_drew _ _) ?_
      simp only [opersAt, List.getElem?_toArray, List.getElem?_cons_zero, List.getElem?_cons_succ]
      repeat (go_big_quiet_step (fail))
      refine wpQuiet_nil ?_
      refine mixT_one (k := 4) (by kernel_rfl) rfl ?_
      go_wp2_with (go_at_call 161; refine (key0_calls _ 115).mono ?_; rintro e w1 ⟨kv, rfl, hown, hb1⟩)
      have hbw : Below W.heap.size W w1 := (Below.refl _ _).drew.trans hb1
      refine ⟨Or.inr (by intros; exact ⟨⟨_, hbw⟩, rfl⟩), ?_⟩
      have HBW := hide hbw
      have HOWN := hide hown
      obtain ⟨ka, km, kc, ek⟩ := hown.form3
      subst ek
      have hz1 := hbw.size
      clear hown hb1 hbw
      refine mixT_one (k := 5) (by kernel_rfl) rfl ?_
      have HST : Hid (StoreAt w1 S A ps full) := HS.out.below (HB0.out.trans (HBW.out.mono HB0.out.size))
      go_wp2_with (go_at_call 160; refine (get_calls _ S A _ ps full _ (key0B 115) HST.out (HOWN.out.rows byteCs_size (by decide) (by simp [key0B]))).mono ?_; rintro e w2 ⟨hgot, hb2⟩; rw [hg] at hgot; obtain ⟨vv, hgot', hval⟩ : ∃ v, e = .returned (.tuple #[v, .bool true]) ∧ BytesAt w2 (w1.heap.size ≤ ·) v val := hgot; subst hgot'; obtain ⟨va, vm, vc, ev⟩ := hval.form; subst ev)
      have hbx2 : Below W.heap.size W w2 := HBW.out.trans (hb2.mono hz1)
      refine ⟨Or.inr (by intros; exact ⟨⟨_, hbx2⟩, rfl⟩), ?_⟩
      have HVAL := hide hval
      have HBX2 := hide hbx2
      have hz2 := hbx2.size
      clear hb2 hbx2 hval
      refine mixT_slots [6, 7, 8] (fuel := 2) rfl (by kernel_rfl) (by kernel_rfl) (fun d _ _ _ _ h => by cases d <;> exact h) ?_
      simp only [opersAt, List.getElem?_toArray, List.getElem?_cons_zero, List.getElem?_cons_succ]
      repeat (go_big_quiet_step (fail))
      refine wpQuiet_nil ?_
      refine mixT_one (k := 9) (by kernel_rfl) rfl ?_
      go_wp2
      refine ⟨Or.inr (fun h => h), ?_⟩
      refine mixT_one (k := 10) (by kernel_rfl) rfl ?_
      go_wp2
      refine ⟨Or.inr (fun h => h), ?_⟩
      refine mixT_nil (by kernel_rfl) ?_
      go_wp2_with (go_at_call 162; refine (decStat_calls _ _ _ val HVAL.out hby).mono ?_; rintro e w3 ⟨hd3, hb3⟩; rw [hd] at hd3; have hd4 : e = .returned (.tuple #[.agg (statCs x), .nilIface]) := hd3; subst hd4; have HXX := hide ((hb3.block _ (by omega)).trans ((HBX2.out.block _ hlx).trans HX0.out)); have hwx : whole w3 (w.heap.size) 4 = true := whole_blk HXX.out; have hlx3 := blk_lt HXX.out; have HBZ := hide ((HB0.out.trans (HBX2.out.mono HB0.out.size)).trans (hb3.mono (by have := HB0.out.size; omega))); have hovx := hov x)
      refine bodyPost_ret (results_cell_tmp Tryz.results116 _ _ (w.heap.size) _ _ _ _ rfl (heap_setRow_at HXX.out) Tryz.underlying65 rfl (by kernel_rfl)) rfl ?_
      exact get_ok (f := statCs) (z := ⟨0, 0, 0, 0⟩) HE (HBZ.out.trans (below_setRow' _ _ (by omega)))

def hdrR (ps : List KV) (seq : Int) : Except Int (Hdr) := match getB ps (key1B 104 seq) with | none => .error 23 | some v => ofOpt (decHdr seq v)
set_option maxRecDepth 100000 in
set_option maxHeartbeats 2000000 in
theorem hdrR_calls (w : World) (Y S LB : Nat) (A : Nat → Prop) (ps : List KV) (full : Bool) (seq : Int) (hY : SysAt w Y S LB) (hS : StoreAt w S A ps full) (hps : PsOk ps) (hs : U32 seq) :
    Calls Tryz.prog 174 #[.pointer (some ⟨Y, 0, none⟩), .int .u32 seq] w fun e w' => GetPost w w' e hdrCs ⟨0, 0, 0, 0, 0, 0, 0⟩ (hdrR ps seq) := by
  obtain ⟨R, hR⟩ : ∃ R, R = hdrR ps seq := ⟨_, rfl⟩
  rw [← hR]
  have HR := hide hR
  obtain ⟨y0, -, -, hYl⟩ := cell_two hY
  have HS := hide hS
  clear hR hY hS
  have hov : ∀ x, ones (hdrCs x) 7 = true := fun _ => rfl
  simp only [hdrCs] at hov
  go_enter Tryz.func174, Tryz.ntmps174
  go_upto_region 1 with fail
  have hb0 : Below w.heap.size w (w.alloc (.cells (hdrCs ⟨0, 0, 0, 0, 0, 0, 0⟩) 71)) := (Below.refl _ _).alloc (Nat.le_refl _) _
  have hx0 : (w.alloc (.cells (hdrCs ⟨0, 0, 0, 0, 0, 0, 0⟩) 71)).heap[w.heap.size]? = some (.cells (hdrCs ⟨0, 0, 0, 0, 0, 0, 0⟩) 71 (0, 0)) := heap_alloc_at _ _
  simp only [hdrCs] at hb0 hx0
  generalize (World.alloc w _) = W at *
  rw [← hb0.cell (p := ⟨Y, 0, none⟩) hYl] at y0
  have HB0 := hide hb0
  have HX0 := hide hx0
  have hlx := blk_lt hx0
  have hYl2 : Y < W.heap.size := by have := hb0.size; omega
  clear hb0 hx0 hYl
  cases hg : getB ps (key1B 104 seq) with
  | none =>
    have HE : Hid (R = .error 23) := HR.out.trans (by simp [hdrR, hg])
    refine wp_region_mixT (W.heap.size) [3] (by kernel_rfl) ?_
    refine mixT_slots [0, 1, 2, 4] (fuel := 8) rfl (by kernel_rfl) (by kernel_rfl) (fun d _ _ _ _ h => by cases d <;> exact h) ?_
    simp only [opersAt, List.getElem?_toArray, List.getElem?_cons_zero, List.getElem?_cons_succ]
    repeat (go_big_quiet_step (fail))
    refine wpQuiet_nil ?_
    refine mixT_reads [3] (fuel := 7) rfl (by kernel_rfl) (by decide) (by kernel_rfl) (fun d _ _ _ _ h => by cases d <;> exact h) (ext_drew _ _) ?_
    simp only [opersAt, List.getElem?_toArray, List.getElem?_cons_zero, List.getElem?_cons_succ]
    repeat (go_big_quiet_step (fail))
    refine wpQuiet_nil ?_
    refine mixT_one (k := 5) (by kernel_rfl) rfl ?_
    go_wp2_with (go_at_call 163; refine (key1_calls _ 104 seq (u8c 104 (by decide)) hs).mono ?_; rintro e w1 ⟨kv, rfl, hown, hb1⟩)
    have hbw : Below W.heap.size W w1 := (Below.refl _ _).drew.trans hb1
    refine ⟨Or.inr (by intros; exact ⟨⟨_, hbw⟩, rfl⟩), ?_⟩
    have HBW := hide hbw
    have HOWN := hide hown
    obtain ⟨ka, km, kc, ek⟩ := hown.form3
    subst ek
    have hz1 := hbw.size
    clear hown hb1 hbw
    refine mixT_one (k := 6) (by kernel_rfl) rfl ?_
    have HST : Hid (StoreAt w1 S A ps full) := HS.out.below (HB0.out.trans (HBW.out.mono HB0.out.size))
    go_wp2_with (go_at_call 160; refine (get_calls _ S A _ ps full _ (key1B 104 seq) HST.out (HOWN.out.rows byteCs_size (by decide) (by simp [key1B, d256_len]))).mono ?_; rintro e w2 ⟨hgot, hb2⟩; rw [hg] at hgot; have hgot' : e = .returned (.tuple #[.slice none 0 0, .bool false]) := hgot; subst hgot')
    have hbx2 : Below W.heap.size W w2 := HBW.out.trans (hb2.mono hz1)
    refine ⟨Or.inr (by intros; exact ⟨⟨_, hbx2⟩, rfl⟩), ?_⟩
    have HXX := hide ((hbx2.block _ hlx).trans HX0.out)
    have hwx : whole w2 (w.heap.size) 7 = true := whole_blk HXX.out
    have hlx2 := blk_lt HXX.out
    have HBZ := hide (HB0.out.trans (hbx2.mono HB0.out.size))
    clear hb2 hbx2 hgot
    refine mixT_slots [7, 8, 9] (fuel := 2) rfl (by kernel_rfl) (by kernel_rfl) (fun d _ _ _ _ h => by cases d <;> exact h) ?_
    simp only [opersAt, List.getElem?_toArray, List.getElem?_cons_zero, List.getElem?_cons_succ]
    repeat (go_big_quiet_step (fail))
    refine wpQuiet_nil ?_
    refine mixT_one (k := 10) (by kernel_rfl) rfl ?_
    go_wp2
    refine ⟨Or.inr (fun h => h), ?_⟩
    refine mixT_one (k := 11) (by kernel_rfl) rfl ?_
    go_wp2
    refine ⟨Or.inr (fun h => h), ?_⟩
    refine mixT_nil (by kernel_rfl) ?_
    go_wp2
    refine bodyPost_ret (results_cell_tmp Tryz.results174 _ _ (w.heap.size) _ _ _ _ rfl (heap_setRow_at HXX.out) Tryz.underlying71 rfl (by kernel_rfl)) rfl ?_
    exact get_err (f := hdrCs) (z := ⟨0, 0, 0, 0, 0, 0, 0⟩) HE (HBZ.out.trans (below_setRow' _ _ (by omega)))
  | some val =>
    have hby := getB_ok hps hg
    cases hd : decHdr seq val with
    | none =>
      have HE : Hid (R = .error 28) := HR.out.trans (by simp [hdrR, hg, hd, ofOpt])
      refine wp_region_mixT (W.heap.size) [3] (by kernel_rfl) ?_
      refine mixT_slots [0, 1, 2, 4] (fuel := 8) rfl (by kernel_rfl) (by kernel_rfl) (fun d _ _ _ _ h => by cases d <;> exact h) ?_
      simp only [opersAt, List.getElem?_toArray, List.getElem?_cons_zero, List.getElem?_cons_succ]
      repeat (go_big_quiet_step (fail))
      refine wpQuiet_nil ?_
      refine mixT_reads [3] (fuel := 7) rfl (by kernel_rfl) (by decide) (by kernel_rfl) (fun d _ _ _ _ h => by cases d <;> exact h) (ext_drew _ _) ?_
      simp only [opersAt, List.getElem?_toArray, List.getElem?_cons_zero, List.getElem?_cons_succ]
      repeat (go_big_quiet_step (fail))
      refine wpQuiet_nil ?_
      refine mixT_one (k := 5) (by kernel_rfl) rfl ?_
      go_wp2_with (go_at_call 163; refine (key1_calls _ 104 seq (u8c 104 (by decide)) hs).mono ?_; rintro e w1 ⟨kv, rfl, hown, hb1⟩)
      have hbw : Below W.heap.size W w1 := (Below.refl _ _).drew.trans hb1
      refine ⟨Or.inr (by intros; exact ⟨⟨_, hbw⟩, rfl⟩), ?_⟩
      have HBW := hide hbw
      have HOWN := hide hown
      obtain ⟨ka, km, kc, ek⟩ := hown.form3
      subst ek
      have hz1 := hbw.size
      clear hown hb1 hbw
      refine mixT_one (k := 6) (by kernel_rfl) rfl ?_
      have HST : Hid (StoreAt w1 S A ps full) := HS.out.below (HB0.out.trans (HBW.out.mono HB0.out.size))
      go_wp2_with (go_at_call 160; refine (get_calls _ S A _ ps full _ (key1B 104 seq) HST.out (HOWN.out.rows byteCs_size (by decide) (by simp [key1B, d256_len]))).mono ?_; rintro e w2 ⟨hgot, hb2⟩; rw [hg] at hgot; obtain ⟨vv, hgot', hval⟩ : ∃ v, e = .returned (.tuple #[v, .bool true]) ∧ BytesAt w2 (w1.heap.size ≤ ·) v val := hgot; subst hgot'; obtain ⟨va, vm, vc, ev⟩ := hval.form; subst ev)
      have hbx2 : Below W.heap.size W w2 := HBW.out.trans (hb2.mono hz1)
      refine ⟨Or.inr (by intros; exact ⟨⟨_, hbx2⟩, rfl⟩), ?_⟩
      have HVAL := hide hval
      have HBX2 := hide hbx2
      have hz2 := hbx2.size
      clear hb2 hbx2 hval
      refine mixT_slots [7, 8, 9] (fuel := 2) rfl (by kernel_rfl) (by kernel_rfl) (fun d _ _ _ _ h => by cases d <;> exact h) ?_
      simp only [opersAt, List.getElem?_toArray, List.getElem?_cons_zero, List.getElem?_cons_succ]
      repeat (go_big_quiet_step (fail))
      refine wpQuiet_nil ?_
      refine mixT_one (k := 10) (by kernel_rfl) rfl ?_
      go_wp2
      refine ⟨Or.inr (fun h => h), ?_⟩
      refine mixT_one (k := 11) (by kernel_rfl) rfl ?_
      go_wp2
      refine ⟨Or.inr (fun h => h), ?_⟩
      refine mixT_nil (by kernel_rfl) ?_
      go_wp2_with (go_at_call 225; refine (decHdr_calls _ seq _ _ val HVAL.out hby).mono ?_; rintro e w3 ⟨hd3, hb3⟩; rw [hd] at hd3; have hd4 : e = .returned (.tuple #[.agg (hdrCs ⟨0, 0, 0, 0, 0, 0, 0⟩), .iface 63 (.int .u8 28)]) := hd3; subst hd4; have HXX := hide ((hb3.block _ (by omega)).trans ((HBX2.out.block _ hlx).trans HX0.out)); have hwx : whole w3 (w.heap.size) 7 = true := whole_blk HXX.out; have hlx3 := blk_lt HXX.out; have HBZ := hide ((HB0.out.trans (HBX2.out.mono HB0.out.size)).trans (hb3.mono (by have := HB0.out.size; omega))); have hovx := hov ⟨0, 0, 0, 0, 0, 0, 0⟩)
      refine bodyPost_ret (results_cell_tmp Tryz.results174 _ _ (w.heap.size) _ _ _ _ rfl (heap_setRow_at HXX.out) Tryz.underlying71 rfl (by kernel_rfl)) rfl ?_
      exact get_err (f := hdrCs) (z := ⟨0, 0, 0, 0, 0, 0, 0⟩) HE (HBZ.out.trans (below_setRow' _ _ (by omega)))
    | some x =>
      have HE : Hid (R = .ok x) := HR.out.trans (by simp [hdrR, hg, hd, ofOpt])
      refine wp_region_mixT (W.heap.size) [3] (by kernel_rfl) ?_
      refine mixT_slots [0, 1, 2, 4] (fuel := 8) rfl (by kernel_rfl) (by kernel_rfl) (fun d _ _ _ _ h => by cases d <;> exact h) ?_
      simp only [opersAt, List.getElem?_toArray, List.getElem?_cons_zero, List.getElem?_cons_succ]
      repeat (go_big_quiet_step (fail))
      refine wpQuiet_nil ?_
      refine mixT_reads [3] (fuel := 7) rfl (by kernel_rfl) (by decide) (by kernel_rfl) (fun d _ _ _ _ h => by cases d <;> exact h) (ext_drew _ _) ?_
      simp only [opersAt, List.getElem?_toArray, List.getElem?_cons_zero, List.getElem?_cons_succ]
      repeat (go_big_quiet_step (fail))
      refine wpQuiet_nil ?_
      refine mixT_one (k := 5) (by kernel_rfl) rfl ?_
      go_wp2_with (go_at_call 163; refine (key1_calls _ 104 seq (u8c 104 (by decide)) hs).mono ?_; rintro e w1 ⟨kv, rfl, hown, hb1⟩)
      have hbw : Below W.heap.size W w1 := (Below.refl _ _).drew.trans hb1
      refine ⟨Or.inr (by intros; exact ⟨⟨_, hbw⟩, rfl⟩), ?_⟩
      have HBW := hide hbw
      have HOWN := hide hown
      obtain ⟨ka, km, kc, ek⟩ := hown.form3
      subst ek
      have hz1 := hbw.size
      clear hown hb1 hbw
      refine mixT_one (k := 6) (by kernel_rfl) rfl ?_
      have HST : Hid (StoreAt w1 S A ps full) := HS.out.below (HB0.out.trans (HBW.out.mono HB0.out.size))
      go_wp2_with (go_at_call 160; refine (get_calls _ S A _ ps full _ (key1B 104 seq) HST.out (HOWN.out.rows byteCs_size (by decide) (by simp [key1B, d256_len]))).mono ?_; rintro e w2 ⟨hgot, hb2⟩; rw [hg] at hgot; obtain ⟨vv, hgot', hval⟩ : ∃ v, e = .returned (.tuple #[v, .bool true]) ∧ BytesAt w2 (w1.heap.size ≤ ·) v val := hgot; subst hgot'; obtain ⟨va, vm, vc, ev⟩ := hval.form; subst ev)
      have hbx2 : Below W.heap.size W w2 := HBW.out.trans (hb2.mono hz1)
      refine ⟨Or.inr (by intros; exact ⟨⟨_, hbx2⟩, rfl⟩), ?_⟩
      have HVAL := hide hval
      have HBX2 := hide hbx2
      have hz2 := hbx2.size
      clear hb2 hbx2 hval
      refine mixT_slots [7, 8, 9] (fuel := 2) rfl (by kernel_rfl) (by kernel_rfl) (fun d _ _ _ _ h => by cases d <;> exact h) ?_
      simp only [opersAt, List.getElem?_toArray, List.getElem?_cons_zero, List.getElem?_cons_succ]
      repeat (go_big_quiet_step (fail))
      refine wpQuiet_nil ?_
      refine mixT_one (k := 10) (by kernel_rfl) rfl ?_
      go_wp2
      refine ⟨Or.inr (fun h => h), ?_⟩
      refine mixT_one (k := 11) (by kernel_rfl) rfl ?_
      go_wp2
      refine ⟨Or.inr (fun h => h), ?_⟩
      refine mixT_nil (by kernel_rfl) ?_
      go_wp2_with (go_at_call 225; refine (decHdr_calls _ seq _ _ val HVAL.out hby).mono ?_; rintro e w3 ⟨hd3, hb3⟩; rw [hd] at hd3; have hd4 : e = .returned (.tuple #[.agg (hdrCs x), .nilIface]) := hd3; subst hd4; have HXX := hide ((hb3.block _ (by omega)).trans ((HBX2.out.block _ hlx).trans HX0.out)); have hwx : whole w3 (w.heap.size) 7 = true := whole_blk HXX.out; have hlx3 := blk_lt HXX.out; have HBZ := hide ((HB0.out.trans (HBX2.out.mono HB0.out.size)).trans (hb3.mono (by have := HB0.out.size; omega))); have hovx := hov x)
      refine bodyPost_ret (results_cell_tmp Tryz.results174 _ _ (w.heap.size) _ _ _ _ rfl (heap_setRow_at HXX.out) Tryz.underlying71 rfl (by kernel_rfl)) rfl ?_
      exact get_ok (f := hdrCs) (z := ⟨0, 0, 0, 0, 0, 0, 0⟩) HE (HBZ.out.trans (below_setRow' _ _ (by omega)))

def accR (ps : List KV) (u : Int) : Except Int (Int × Bool) := if (u == 1) then .ok (1, true) else match getB ps (key1B 117 u) with | none => .error 17 | some v => ofOpt (decAcc v)
set_option maxRecDepth 100000 in
set_option maxHeartbeats 2000000 in
theorem accR_calls (w : World) (Y S LB : Nat) (A : Nat → Prop) (ps : List KV) (full : Bool) (u : Int) (hY : SysAt w Y S LB) (hS : StoreAt w S A ps full) (hps : PsOk ps) (hs : U32 u) :
    Calls Tryz.prog 171 #[.pointer (some ⟨Y, 0, none⟩), .int .u32 u] w fun e w' => GetPost w w' e accCs (0, false) (accR ps u) := by
  obtain ⟨R, hR⟩ : ∃ R, R = accR ps u := ⟨_, rfl⟩
  rw [← hR]
  have HR := hide hR
  obtain ⟨y0, -, -, hYl⟩ := cell_two hY
  have HS := hide hS
  clear hR hY hS
  have hov : ∀ x, ones (accCs x) 2 = true := fun _ => rfl
  simp only [accCs] at hov
  go_enter Tryz.func171, Tryz.ntmps171
  go_upto_region 1 with fail
  have hb0 : Below w.heap.size w (w.alloc (.cells (accCs (0, false)) 314)) := (Below.refl _ _).alloc (Nat.le_refl _) _
  have hx0 : (w.alloc (.cells (accCs (0, false)) 314)).heap[w.heap.size]? = some (.cells (accCs (0, false)) 314 (0, 0)) := heap_alloc_at _ _
  simp only [accCs] at hb0 hx0
  generalize (World.alloc w _) = W at *
  rw [← hb0.cell (p := ⟨Y, 0, none⟩) hYl] at y0
  have HB0 := hide hb0
  have HX0 := hide hx0
  have hlx := blk_lt hx0
  have hYl2 : Y < W.heap.size := by have := hb0.size; omega
  clear hb0 hx0 hYl
  have hwx : whole W (w.heap.size) 2 = true := whole_blk HX0.out
  cases tp : (u == 1) with
  | true =>
    have HE : Hid (R = .ok (1, true)) := HR.out.trans (by simp [accR, tp])
    go_wp2
    refine bodyPost_ret (results_cell_tmp Tryz.results171 _ _ (w.heap.size) _ _ _ _ rfl (heap_setRow_at HX0.out) Tryz.underlying314 rfl (by kernel_rfl)) rfl ?_
    exact get_ok (f := accCs) (z := (0, false)) HE (HB0.out.trans (below_setRow' _ _ (by omega)))
  | false =>
    clear hwx
    go_upto_region 3 with fail
    cases hg : getB ps (key1B 117 u) with
    | none =>
      have HE : Hid (R = .error 17) := HR.out.trans (by simp [accR, hg, tp])
      refine wp_region_mixT (W.heap.size) [3] (by kernel_rfl) ?_
      refine mixT_slots [0, 1, 2, 4] (fuel := 8) rfl (by kernel_rfl) (by kernel_rfl) (fun d _ _ _ _ h => by cases d <;> exact h) ?_
      simp only [opersAt, List.getElem?_toArray, List.getElem?_cons_zero, List.getElem?_cons_succ]
      repeat (go_big_quiet_step (fail))
      refine wpQuiet_nil ?_
      refine mixT_reads [3] (fuel := 7) rfl (by kernel_rfl) (by decide) (by kernel_rfl) (fun d _ _ _ _ h => by cases d <;> exact h) (ext_drew _ _) ?_
      simp only [opersAt, List.getElem?_toArray, List.getElem?_cons_zero, List.getElem?_cons_succ]
      repeat (go_big_quiet_step (fail))
      refine wpQuiet_nil ?_
      refine mixT_one (k := 5) (by kernel_rfl) rfl ?_
      go_wp2_with (go_at_call 163; refine (key1_calls _ 117 u (u8c 117 (by decide)) hs).mono ?_; rintro e w1 ⟨kv, rfl, hown, hb1⟩)
      have hbw : Below W.heap.size W w1 := (Below.refl _ _).drew.trans hb1
      refine ⟨Or.inr (by intros; exact ⟨⟨_, hbw⟩, rfl⟩), ?_⟩
      have HBW := hide hbw
      have HOWN := hide hown
      obtain ⟨ka, km, kc, ek⟩ := hown.form3
      subst ek
      have hz1 := hbw.size
      clear hown hb1 hbw
      refine mixT_one (k := 6) (by kernel_rfl) rfl ?_
      have HST : Hid (StoreAt w1 S A ps full) := HS.out.below (HB0.out.trans (HBW.out.mono HB0.out.size))
      go_wp2_with (go_at_call 160; refine (get_calls _ S A _ ps full _ (key1B 117 u) HST.out (HOWN.out.rows byteCs_size (by decide) (by simp [key1B, d256_len]))).mono ?_; rintro e w2 ⟨hgot, hb2⟩; rw [hg] at hgot; have hgot' : e = .returned (.tuple #[.slice none 0 0, .bool false]) := hgot; subst hgot')
      have hbx2 : Below W.heap.size W w2 := HBW.out.trans (hb2.mono hz1)
      refine ⟨Or.inr (by intros; exact ⟨⟨_, hbx2⟩, rfl⟩), ?_⟩
      have HXX := hide ((hbx2.block _ hlx).trans HX0.out)
      have hwx : whole w2 (w.heap.size) 2 = true := whole_blk HXX.out
      have hlx2 := blk_lt HXX.out
      have HBZ := hide (HB0.out.trans (hbx2.mono HB0.out.size))
      clear hb2 hbx2 hgot
      refine mixT_slots [7, 8, 9] (fuel := 2) rfl (by kernel_rfl) (by kernel_rfl) (fun d _ _ _ _ h => by cases d <;> exact h) ?_
      simp only [opersAt, List.getElem?_toArray, List.getElem?_cons_zero, List.getElem?_cons_succ]
      repeat (go_big_quiet_step (fail))
      refine wpQuiet_nil ?_
      refine mixT_one (k := 10) (by kernel_rfl) rfl ?_
      go_wp2
      refine ⟨Or.inr (fun h => h), ?_⟩
      refine mixT_one (k := 11) (by kernel_rfl) rfl ?_
      go_wp2
      refine ⟨Or.inr (fun h => h), ?_⟩
      refine mixT_nil (by kernel_rfl) ?_
      go_wp2
      refine bodyPost_ret (results_cell_tmp Tryz.results171 _ _ (w.heap.size) _ _ _ _ rfl (heap_setRow_at HXX.out) Tryz.underlying314 rfl (by kernel_rfl)) rfl ?_
      exact get_err (f := accCs) (z := (0, false)) HE (HBZ.out.trans (below_setRow' _ _ (by omega)))
    | some val =>
      have hby := getB_ok hps hg
      cases hd : decAcc val with
      | none =>
        have HE : Hid (R = .error 28) := HR.out.trans (by simp [accR, hg, tp, hd, ofOpt])
        refine wp_region_mixT (W.heap.size) [3] (by kernel_rfl) ?_
        refine mixT_slots [0, 1, 2, 4] (fuel := 8) rfl (by kernel_rfl) (by kernel_rfl) (fun d _ _ _ _ h => by cases d <;> exact h) ?_
        simp only [opersAt, List.getElem?_toArray, List.getElem?_cons_zero, List.getElem?_cons_succ]
        repeat (go_big_quiet_step (fail))
        refine wpQuiet_nil ?_
        refine mixT_reads [3] (fuel := 7) rfl (by kernel_rfl) (by decide) (by kernel_rfl) (fun d _ _ _ _ h => by cases d <;> exact h) (ext_drew _ _) ?_
        simp only [opersAt, List.getElem?_toArray, List.getElem?_cons_zero, List.getElem?_cons_succ]
        repeat (go_big_quiet_step (fail))
        refine wpQuiet_nil ?_
        refine mixT_one (k := 5) (by kernel_rfl) rfl ?_
        go_wp2_with (go_at_call 163; refine (key1_calls _ 117 u (u8c 117 (by decide)) hs).mono ?_; rintro e w1 ⟨kv, rfl, hown, hb1⟩)
        have hbw : Below W.heap.size W w1 := (Below.refl _ _).drew.trans hb1
        refine ⟨Or.inr (by intros; exact ⟨⟨_, hbw⟩, rfl⟩), ?_⟩
        have HBW := hide hbw
        have HOWN := hide hown
        obtain ⟨ka, km, kc, ek⟩ := hown.form3
        subst ek
        have hz1 := hbw.size
        clear hown hb1 hbw
        refine mixT_one (k := 6) (by kernel_rfl) rfl ?_
        have HST : Hid (StoreAt w1 S A ps full) := HS.out.below (HB0.out.trans (HBW.out.mono HB0.out.size))
        go_wp2_with (go_at_call 160; refine (get_calls _ S A _ ps full _ (key1B 117 u) HST.out (HOWN.out.rows byteCs_size (by decide) (by simp [key1B, d256_len]))).mono ?_; rintro e w2 ⟨hgot, hb2⟩; rw [hg] at hgot; obtain ⟨vv, hgot', hval⟩ : ∃ v, e = .returned (.tuple #[v, .bool true]) ∧ BytesAt w2 (w1.heap.size ≤ ·) v val := hgot; subst hgot'; obtain ⟨va, vm, vc, ev⟩ := hval.form; subst ev)
        have hbx2 : Below W.heap.size W w2 := HBW.out.trans (hb2.mono hz1)
        refine ⟨Or.inr (by intros; exact ⟨⟨_, hbx2⟩, rfl⟩), ?_⟩
        have HVAL := hide hval
        have HBX2 := hide hbx2
        have hz2 := hbx2.size
        clear hb2 hbx2 hval
        refine mixT_slots [7, 8, 9] (fuel := 2) rfl (by kernel_rfl) (by kernel_rfl) (fun d _ _ _ _ h => by cases d <;> exact h) ?_
        simp only [opersAt, List.getElem?_toArray, List.getElem?_cons_zero, List.getElem?_cons_succ]
        repeat (go_big_quiet_step (fail))
        refine wpQuiet_nil ?_
        refine mixT_one (k := 10) (by kernel_rfl) rfl ?_
        go_wp2
        refine ⟨Or.inr (fun h => h), ?_⟩
        refine mixT_one (k := 11) (by kernel_rfl) rfl ?_
        go_wp2
        refine ⟨Or.inr (fun h => h), ?_⟩
        refine mixT_nil (by kernel_rfl) ?_
        go_wp2_with (go_at_call 220; refine (decAcc_calls _ _ _ val HVAL.out hby).mono ?_; rintro e w3 ⟨hd3, hb3⟩; rw [hd] at hd3; have hd4 : e = .returned (.tuple #[.agg (accCs (0, false)), .iface 63 (.int .u8 28)]) := hd3; subst hd4; have HXX := hide ((hb3.block _ (by omega)).trans ((HBX2.out.block _ hlx).trans HX0.out)); have hwx : whole w3 (w.heap.size) 2 = true := whole_blk HXX.out; have hlx3 := blk_lt HXX.out; have HBZ := hide ((HB0.out.trans (HBX2.out.mono HB0.out.size)).trans (hb3.mono (by have := HB0.out.size; omega))); have hovx := hov (0, false))
        refine bodyPost_ret (results_cell_tmp Tryz.results171 _ _ (w.heap.size) _ _ _ _ rfl (heap_setRow_at HXX.out) Tryz.underlying314 rfl (by kernel_rfl)) rfl ?_
        exact get_err (f := accCs) (z := (0, false)) HE (HBZ.out.trans (below_setRow' _ _ (by omega)))
      | some x =>
        have HE : Hid (R = .ok x) := HR.out.trans (by simp [accR, hg, tp, hd, ofOpt])
        refine wp_region_mixT (W.heap.size) [3] (by kernel_rfl) ?_
        refine mixT_slots [0, 1, 2, 4] (fuel := 8) rfl (by kernel_rfl) (by kernel_rfl) (fun d _ _ _ _ h => by cases d <;> exact h) ?_
        simp only [opersAt, List.getElem?_toArray, List.getElem?_cons_zero, List.getElem?_cons_succ]
        repeat (go_big_quiet_step (fail))
        refine wpQuiet_nil ?_
        refine mixT_reads [3] (fuel := 7) rfl (by kernel_rfl) (by decide) (by kernel_rfl) (fun d _ _ _ _ h => by cases d <;> exact h) (ext_drew _ _) ?_
        simp only [opersAt, List.getElem?_toArray, List.getElem?_cons_zero, List.getElem?_cons_succ]
        repeat (go_big_quiet_step (fail))
        refine wpQuiet_nil ?_
        refine mixT_one (k := 5) (by kernel_rfl) rfl ?_
        go_wp2_with (go_at_call 163; refine (key1_calls _ 117 u (u8c 117 (by decide)) hs).mono ?_; rintro e w1 ⟨kv, rfl, hown, hb1⟩)
        have hbw : Below W.heap.size W w1 := (Below.refl _ _).drew.trans hb1
        refine ⟨Or.inr (by intros; exact ⟨⟨_, hbw⟩, rfl⟩), ?_⟩
        have HBW := hide hbw
        have HOWN := hide hown
        obtain ⟨ka, km, kc, ek⟩ := hown.form3
        subst ek
        have hz1 := hbw.size
        clear hown hb1 hbw
        refine mixT_one (k := 6) (by kernel_rfl) rfl ?_
        have HST : Hid (StoreAt w1 S A ps full) := HS.out.below (HB0.out.trans (HBW.out.mono HB0.out.size))
        go_wp2_with (go_at_call 160; refine (get_calls _ S A _ ps full _ (key1B 117 u) HST.out (HOWN.out.rows byteCs_size (by decide) (by simp [key1B, d256_len]))).mono ?_; rintro e w2 ⟨hgot, hb2⟩; rw [hg] at hgot; obtain ⟨vv, hgot', hval⟩ : ∃ v, e = .returned (.tuple #[v, .bool true]) ∧ BytesAt w2 (w1.heap.size ≤ ·) v val := hgot; subst hgot'; obtain ⟨va, vm, vc, ev⟩ := hval.form; subst ev)
        have hbx2 : Below W.heap.size W w2 := HBW.out.trans (hb2.mono hz1)
        refine ⟨Or.inr (by intros; exact ⟨⟨_, hbx2⟩, rfl⟩), ?_⟩
        have HVAL := hide hval
        have HBX2 := hide hbx2
        have hz2 := hbx2.size
        clear hb2 hbx2 hval
        refine mixT_slots [7, 8, 9] (fuel := 2) rfl (by kernel_rfl) (by kernel_rfl) (fun d _ _ _ _ h => by cases d <;> exact h) ?_
        simp only [opersAt, List.getElem?_toArray, List.getElem?_cons_zero, List.getElem?_cons_succ]
        repeat (go_big_quiet_step (fail))
        refine wpQuiet_nil ?_
        refine mixT_one (k := 10) (by kernel_rfl) rfl ?_
        go_wp2
        refine ⟨Or.inr (fun h => h), ?_⟩
        refine mixT_one (k := 11) (by kernel_rfl) rfl ?_
        go_wp2
        refine ⟨Or.inr (fun h => h), ?_⟩
        refine mixT_nil (by kernel_rfl) ?_
        go_wp2_with (go_at_call 220; refine (decAcc_calls _ _ _ val HVAL.out hby).mono ?_; rintro e w3 ⟨hd3, hb3⟩; rw [hd] at hd3; have hd4 : e = .returned (.tuple #[.agg (accCs x), .nilIface]) := hd3; subst hd4; have HXX := hide ((hb3.block _ (by omega)).trans ((HBX2.out.block _ hlx).trans HX0.out)); have hwx : whole w3 (w.heap.size) 2 = true := whole_blk HXX.out; have hlx3 := blk_lt HXX.out; have HBZ := hide ((HB0.out.trans (HBX2.out.mono HB0.out.size)).trans (hb3.mono (by have := HB0.out.size; omega))); have hovx := hov x)
        refine bodyPost_ret (results_cell_tmp Tryz.results171 _ _ (w.heap.size) _ _ _ _ rfl (heap_setRow_at HXX.out) Tryz.underlying314 rfl (by kernel_rfl)) rfl ?_
        exact get_ok (f := accCs) (z := (0, false)) HE (HBZ.out.trans (below_setRow' _ _ (by omega)))

noncomputable def chgR (ps : List KV) (f : Int) (l : Int) : Except Int (Change) := match getB ps (key2B 99 f l) with | none => .error 28 | some v => ofOpt (decChg v)
set_option maxRecDepth 100000 in
set_option maxHeartbeats 2000000 in
theorem chgR_calls (w : World) (Y S LB : Nat) (A : Nat → Prop) (ps : List KV) (full : Bool) (f : Int) (l : Int) (hY : SysAt w Y S LB) (hS : StoreAt w S A ps full) (hps : PsOk ps) (hf : U32 f) (hl : U32 l) :
    Calls Tryz.prog 245 #[.pointer (some ⟨Y, 0, none⟩), .agg #[.int .u32 f, .int .u32 l]] w fun e w' => GetPost w w' e changeCs zeroChg (chgR ps f l) := by
  obtain ⟨R, hR⟩ : ∃ R, R = chgR ps f l := ⟨_, rfl⟩
  rw [← hR]
  have HR := hide hR
  obtain ⟨y0, -, -, hYl⟩ := cell_two hY
  have HS := hide hS
  clear hR hY hS
  have hov : ∀ x, ones (changeCs x) 14 = true := fun _ => rfl
  simp only [changeCs] at hov
  go_enter Tryz.func245, Tryz.ntmps245
  go_upto_region 1 with fail
  have hb0 : Below w.heap.size w ((w.alloc (.cells #[.int .u32 f, .int .u32 l] 405)).alloc (.cells (changeCs zeroChg) 111)) := ((Below.refl _ _).alloc (Nat.le_refl _) _).alloc (by simp) _
  have hx0 : ((w.alloc (.cells #[.int .u32 f, .int .u32 l] 405)).alloc (.cells (changeCs zeroChg) 111)).heap[w.heap.size + 1]? = some (.cells (changeCs zeroChg) 111 (0, 0)) := box2 w _ _ _ _
  have hbx : ((w.alloc (.cells #[.int .u32 f, .int .u32 l] 405)).alloc (.cells (changeCs zeroChg) 111)).heap[w.heap.size]? = some (.cells #[.int .u32 f, .int .u32 l] 405 (0, 0)) := (Below.heap_alloc _ _ _ (by simp)).trans (heap_alloc_at _ _)
  simp only [changeCs, zeroChg] at hb0 hx0 hbx
  generalize (World.alloc (World.alloc w _) _) = W at *
  obtain ⟨k0, k1, -, hkl⟩ := cell_two hbx
  clear hbx
  rw [← hb0.cell (p := ⟨Y, 0, none⟩) hYl] at y0
  have HB0 := hide hb0
  have HX0 := hide hx0
  have hlx := blk_lt hx0
  have hYl2 : Y < W.heap.size := by have := hb0.size; omega
  clear hb0 hx0 hYl
  cases hg : getB ps (key2B 99 f l) with
  | none =>
    have HE : Hid (R = .error 28) := HR.out.trans (by simp [chgR, hg])
    refine wp_region_mixT (W.heap.size) [3, 5, 7] (by kernel_rfl) ?_
    refine mixT_slots [0, 1, 2, 4, 6] (fuel := 10) rfl (by kernel_rfl) (by kernel_rfl) (fun d _ _ _ _ h => by cases d <;> exact h) ?_
    simp only [opersAt, List.getElem?_toArray, List.getElem?_cons_zero, List.getElem?_cons_succ]
    repeat (go_big_quiet_step (fail))
    refine wpQuiet_nil ?_
    refine mixT_reads [3, 5, 7] (fuel := 7) rfl (by kernel_rfl) (by decide) (by kernel_rfl) (fun d _ _ _ _ h => by cases d <;> exact h) (ext_drew _ _) ?_
    simp only [opersAt, List.getElem?_toArray, List.getElem?_cons_zero, List.getElem?_cons_succ]
    repeat (go_big_quiet_step (fail))
    refine wpQuiet_nil ?_
    refine mixT_one (k := 8) (by kernel_rfl) rfl ?_
    go_wp2_with (go_at_call 258; refine (key2_calls _ 99 f l (u8c 99 (by decide)) hf hl).mono ?_; rintro e w1 ⟨kv, rfl, hown, hb1⟩)
    have hbw : Below W.heap.size W w1 := (Below.refl _ _).drew.trans hb1
    refine ⟨Or.inr (by intros; exact ⟨⟨_, hbw⟩, rfl⟩), ?_⟩
    have HBW := hide hbw
    have HOWN := hide hown
    obtain ⟨ka, km, kc, ek⟩ := hown.form3
    subst ek
    have hz1 := hbw.size
    clear hown hb1 hbw
    refine mixT_one (k := 9) (by kernel_rfl) rfl ?_
    have HST : Hid (StoreAt w1 S A ps full) := HS.out.below (HB0.out.trans (HBW.out.mono HB0.out.size))
    go_wp2_with (go_at_call 160; refine (get_calls _ S A _ ps full _ (key2B 99 f l) HST.out (HOWN.out.rows byteCs_size (by decide) (by simp [key2B, d256_len]))).mono ?_; rintro e w2 ⟨hgot, hb2⟩; rw [hg] at hgot; have hgot' : e = .returned (.tuple #[.slice none 0 0, .bool false]) := hgot; subst hgot')
    have hbx2 : Below W.heap.size W w2 := HBW.out.trans (hb2.mono hz1)
    refine ⟨Or.inr (by intros; exact ⟨⟨_, hbx2⟩, rfl⟩), ?_⟩
    have HXX := hide ((hbx2.block _ hlx).trans HX0.out)
    have hwx : whole w2 (w.heap.size + 1) 14 = true := whole_blk HXX.out
    have hlx2 := blk_lt HXX.out
    have HBZ := hide (HB0.out.trans (hbx2.mono HB0.out.size))
    clear hb2 hbx2 hgot
    refine mixT_slots [10, 11, 12] (fuel := 2) rfl (by kernel_rfl) (by kernel_rfl) (fun d _ _ _ _ h => by cases d <;> exact h) ?_
    simp only [opersAt, List.getElem?_toArray, List.getElem?_cons_zero, List.getElem?_cons_succ]
    repeat (go_big_quiet_step (fail))
    refine wpQuiet_nil ?_
    refine mixT_one (k := 13) (by kernel_rfl) rfl ?_
    go_wp2
    refine ⟨Or.inr (fun h => h), ?_⟩
    refine mixT_one (k := 14) (by kernel_rfl) rfl ?_
    go_wp2
    refine ⟨Or.inr (fun h => h), ?_⟩
    refine mixT_nil (by kernel_rfl) ?_
    go_wp2
    refine bodyPost_ret (results_cell_tmp Tryz.results245 _ _ (w.heap.size + 1) _ _ _ _ rfl (heap_setRow_at HXX.out) Tryz.underlying111 rfl (by kernel_rfl)) rfl ?_
    exact get_err (f := changeCs) (z := zeroChg) HE (HBZ.out.trans (below_setRow' _ _ (by omega)))
  | some val =>
    have hby := getB_ok hps hg
    cases hd : decChg val with
    | none =>
      have HE : Hid (R = .error 28) := HR.out.trans (by simp [chgR, hg, hd, ofOpt])
      refine wp_region_mixT (W.heap.size) [3, 5, 7] (by kernel_rfl) ?_
      refine mixT_slots [0, 1, 2, 4, 6] (fuel := 10) rfl (by kernel_rfl) (by kernel_rfl) (fun d _ _ _ _ h => by cases d <;> exact h) ?_
      simp only [opersAt, List.getElem?_toArray, List.getElem?_cons_zero, List.getElem?_cons_succ]
      repeat (go_big_quiet_step (fail))
      refine wpQuiet_nil ?_
      refine mixT_reads [3, 5, 7] (fuel := 7) rfl (by kernel_rfl) (by decide) (by kernel_rfl) (fun d _ _ _ _ h => by cases d <;> exact h) (ext_drew _ _) ?_
      simp only [opersAt, List.getElem?_toArray, List.getElem?_cons_zero, List.getElem?_cons_succ]
      repeat (go_big_quiet_step (fail))
      refine wpQuiet_nil ?_
      refine mixT_one (k := 8) (by kernel_rfl) rfl ?_
      go_wp2_with (go_at_call 258; refine (key2_calls _ 99 f l (u8c 99 (by decide)) hf hl).mono ?_; rintro e w1 ⟨kv, rfl, hown, hb1⟩)
      have hbw : Below W.heap.size W w1 := (Below.refl _ _).drew.trans hb1
      refine ⟨Or.inr (by intros; exact ⟨⟨_, hbw⟩, rfl⟩), ?_⟩
      have HBW := hide hbw
      have HOWN := hide hown
      obtain ⟨ka, km, kc, ek⟩ := hown.form3
      subst ek
      have hz1 := hbw.size
      clear hown hb1 hbw
      refine mixT_one (k := 9) (by kernel_rfl) rfl ?_
      have HST : Hid (StoreAt w1 S A ps full) := HS.out.below (HB0.out.trans (HBW.out.mono HB0.out.size))
      go_wp2_with (go_at_call 160; refine (get_calls _ S A _ ps full _ (key2B 99 f l) HST.out (HOWN.out.rows byteCs_size (by decide) (by simp [key2B, d256_len]))).mono ?_; rintro e w2 ⟨hgot, hb2⟩; rw [hg] at hgot; obtain ⟨vv, hgot', hval⟩ : ∃ v, e = .returned (.tuple #[v, .bool true]) ∧ BytesAt w2 (w1.heap.size ≤ ·) v val := hgot; subst hgot'; obtain ⟨va, vm, vc, ev⟩ := hval.form; subst ev)
      have hbx2 : Below W.heap.size W w2 := HBW.out.trans (hb2.mono hz1)
      refine ⟨Or.inr (by intros; exact ⟨⟨_, hbx2⟩, rfl⟩), ?_⟩
      have HVAL := hide hval
      have HBX2 := hide hbx2
      have hz2 := hbx2.size
      clear hb2 hbx2 hval
      refine mixT_slots [10, 11, 12] (fuel := 2) rfl (by kernel_rfl) (by kernel_rfl) (fun d _ _ _ _ h => by cases d <;> exact h) ?_
      simp only [opersAt, List.getElem?_toArray, List.getElem?_cons_zero, List.getElem?_cons_succ]
      repeat (go_big_quiet_step (fail))
      refine wpQuiet_nil ?_
      refine mixT_one (k := 13) (by kernel_rfl) rfl ?_
      go_wp2
      refine ⟨Or.inr (fun h => h), ?_⟩
      refine mixT_one (k := 14) (by kernel_rfl) rfl ?_
      go_wp2
      refine ⟨Or.inr (fun h => h), ?_⟩
      refine mixT_nil (by kernel_rfl) ?_
      go_wp2_with (go_at_call 259; refine (decChg_calls _ _ _ val HVAL.out hby).mono ?_; rintro e w3 ⟨hd3, hb3⟩; rw [hd] at hd3; have hd4 : e = .returned (.tuple #[.agg (changeCs zeroChg), .iface 63 (.int .u8 28)]) := hd3; subst hd4; have HXX := hide ((hb3.block _ (by omega)).trans ((HBX2.out.block _ hlx).trans HX0.out)); have hwx : whole w3 (w.heap.size + 1) 14 = true := whole_blk HXX.out; have hlx3 := blk_lt HXX.out; have HBZ := hide ((HB0.out.trans (HBX2.out.mono HB0.out.size)).trans (hb3.mono (by have := HB0.out.size; omega))); have hovx := hov zeroChg)
      refine bodyPost_ret (results_cell_tmp Tryz.results245 _ _ (w.heap.size + 1) _ _ _ _ rfl (heap_setRow_at HXX.out) Tryz.underlying111 rfl (by kernel_rfl)) rfl ?_
      exact get_err (f := changeCs) (z := zeroChg) HE (HBZ.out.trans (below_setRow' _ _ (by omega)))
    | some x =>
      have HE : Hid (R = .ok x) := HR.out.trans (by simp [chgR, hg, hd, ofOpt])
      refine wp_region_mixT (W.heap.size) [3, 5, 7] (by kernel_rfl) ?_
      refine mixT_slots [0, 1, 2, 4, 6] (fuel := 10) rfl (by kernel_rfl) (by kernel_rfl) (fun d _ _ _ _ h => by cases d <;> exact h) ?_
      simp only [opersAt, List.getElem?_toArray, List.getElem?_cons_zero, List.getElem?_cons_succ]
      repeat (go_big_quiet_step (fail))
      refine wpQuiet_nil ?_
      refine mixT_reads [3, 5, 7] (fuel := 7) rfl (by kernel_rfl) (by decide) (by kernel_rfl) (fun d _ _ _ _ h => by cases d <;> exact h) (ext_drew _ _) ?_
      simp only [opersAt, List.getElem?_toArray, List.getElem?_cons_zero, List.getElem?_cons_succ]
      repeat (go_big_quiet_step (fail))
      refine wpQuiet_nil ?_
      refine mixT_one (k := 8) (by kernel_rfl) rfl ?_
      go_wp2_with (go_at_call 258; refine (key2_calls _ 99 f l (u8c 99 (by decide)) hf hl).mono ?_; rintro e w1 ⟨kv, rfl, hown, hb1⟩)
      have hbw : Below W.heap.size W w1 := (Below.refl _ _).drew.trans hb1
      refine ⟨Or.inr (by intros; exact ⟨⟨_, hbw⟩, rfl⟩), ?_⟩
      have HBW := hide hbw
      have HOWN := hide hown
      obtain ⟨ka, km, kc, ek⟩ := hown.form3
      subst ek
      have hz1 := hbw.size
      clear hown hb1 hbw
      refine mixT_one (k := 9) (by kernel_rfl) rfl ?_
      have HST : Hid (StoreAt w1 S A ps full) := HS.out.below (HB0.out.trans (HBW.out.mono HB0.out.size))
      go_wp2_with (go_at_call 160; refine (get_calls _ S A _ ps full _ (key2B 99 f l) HST.out (HOWN.out.rows byteCs_size (by decide) (by simp [key2B, d256_len]))).mono ?_; rintro e w2 ⟨hgot, hb2⟩; rw [hg] at hgot; obtain ⟨vv, hgot', hval⟩ : ∃ v, e = .returned (.tuple #[v, .bool true]) ∧ BytesAt w2 (w1.heap.size ≤ ·) v val := hgot; subst hgot'; obtain ⟨va, vm, vc, ev⟩ := hval.form; subst ev)
      have hbx2 : Below W.heap.size W w2 := HBW.out.trans (hb2.mono hz1)
      refine ⟨Or.inr (by intros; exact ⟨⟨_, hbx2⟩, rfl⟩), ?_⟩
      have HVAL := hide hval
      have HBX2 := hide hbx2
      have hz2 := hbx2.size
      clear hb2 hbx2 hval
      refine mixT_slots [10, 11, 12] (fuel := 2) rfl (by kernel_rfl) (by kernel_rfl) (fun d _ _ _ _ h => by cases d <;> exact h) ?_
      simp only [opersAt, List.getElem?_toArray, List.getElem?_cons_zero, List.getElem?_cons_succ]
      repeat (go_big_quiet_step (fail))
      refine wpQuiet_nil ?_
      refine mixT_one (k := 13) (by kernel_rfl) rfl ?_
      go_wp2
      refine ⟨Or.inr (fun h => h), ?_⟩
      refine mixT_one (k := 14) (by kernel_rfl) rfl ?_
      go_wp2
      refine ⟨Or.inr (fun h => h), ?_⟩
      refine mixT_nil (by kernel_rfl) ?_
      go_wp2_with (go_at_call 259; refine (decChg_calls _ _ _ val HVAL.out hby).mono ?_; rintro e w3 ⟨hd3, hb3⟩; rw [hd] at hd3; have hd4 : e = .returned (.tuple #[.agg (changeCs x), .nilIface]) := hd3; subst hd4; have HXX := hide ((hb3.block _ (by omega)).trans ((HBX2.out.block _ hlx).trans HX0.out)); have hwx : whole w3 (w.heap.size + 1) 14 = true := whole_blk HXX.out; have hlx3 := blk_lt HXX.out; have HBZ := hide ((HB0.out.trans (HBX2.out.mono HB0.out.size)).trans (hb3.mono (by have := HB0.out.size; omega))); have hovx := hov x)
      refine bodyPost_ret (results_cell_tmp Tryz.results245 _ _ (w.heap.size + 1) _ _ _ _ rfl (heap_setRow_at HXX.out) Tryz.underlying111 rfl (by kernel_rfl)) rfl ?_
      exact get_ok (f := changeCs) (z := zeroChg) HE (HBZ.out.trans (below_setRow' _ _ (by omega)))

end Go.Proofs.Qxb6500666aGreatDoor
