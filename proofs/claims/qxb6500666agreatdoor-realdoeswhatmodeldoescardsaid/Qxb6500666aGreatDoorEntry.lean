/- entry, walked. (Made by tools/mk_entry.py out of z/Gets.) -/
import Derived.Test.Qxb6500666aGreatDoorDecEnt
namespace Go.Proofs.Qxb6500666aGreatDoor
open Go.RowKit

def EntryPost (w w' : World) (e : Ending) : Except Int Ent → Prop
  | .error c => e = .returned (.tuple #[.agg (entA zeroEnt (.slice none 0 0)), .iface 63 (.int .u8 c)]) ∧ Below w.heap.size w w'
  | .ok x => ∃ a n c, e = .returned (.tuple #[.agg (entA x (.slice a n c)), .nilIface]) ∧ U32sAt w' (w.heap.size + 1 ≤ ·) (.slice a n c) x.req.list ∧ Below w.heap.size w w'
theorem entry_err {w w' : World} {R : Except Int Ent} {c : Int} (HE : Hid (R = .error c)) (hb : Below w.heap.size w w') : EntryPost w w' (.returned (.tuple #[.agg (entA zeroEnt (.slice none 0 0)), .iface 63 (.int .u8 c)])) R := by
  rw [HE.out]; exact ⟨rfl, hb⟩

attribute [local go_sem] ext_const Ext.cell Ext.frozen Ext.rng Ext.whole
attribute [local go_sem ↓] exec_ldEnt exec_stEnt exec_bdEnt exec_bdEnt0
attribute [local go_sem] run_ldEnt run_stEnt run_bdEnt run_bdEnt0 entA_size entA_ones whole_alloc_lt whole_alloc_at whole_drew setRow_alloc_at setRow_alloc_lt rng_alloc_lt rng_alloc_at rng_drew rng_drewN rng_setRow_other whole_setRow_other

def entR (ps : List KV) (seq : Int) : Except Int Ent := match getB ps (key1B 97 seq) with | none => .error 24 | some v => ofOpt (decEnt seq v)
set_option maxRecDepth 100000 in
set_option maxHeartbeats 2000000 in
theorem entR_calls (w : World) (Y S LB : Nat) (A : Nat → Prop) (ps : List KV) (full : Bool) (seq : Int) (hY : SysAt w Y S LB) (hS : StoreAt w S A ps full) (hps : PsOk ps) (hs : U32 seq) :
    Calls Tryz.prog 117 #[.pointer (some ⟨Y, 0, none⟩), .int .u32 seq] w fun e w' => EntryPost w w' e (entR ps seq) := by
  obtain ⟨R, hR⟩ : ∃ R, R = entR ps seq := ⟨_, rfl⟩
  rw [← hR]
  have HR := hide hR
  obtain ⟨y0, -, -, hYl⟩ := cell_two hY
  have HS := hide hS
  clear hR hY hS
  go_enter Tryz.func117, Tryz.ntmps117
  go_upto_region 1 with fail
  have hb0 : Below w.heap.size w (w.alloc (.cells (entA zeroEnt (.slice none 0 0)) 67)) := (Below.refl _ _).alloc (Nat.le_refl _) _
  have hx0 : (w.alloc (.cells (entA zeroEnt (.slice none 0 0)) 67)).heap[w.heap.size]? = some (.cells (entA zeroEnt (.slice none 0 0)) 67 (0, 0)) := heap_alloc_at _ _
  simp only [entA, zeroEnt, zeroReq] at hb0 hx0
  generalize (World.alloc w _) = W at *
  rw [← hb0.cell (p := ⟨Y, 0, none⟩) hYl] at y0
  have HB0 := hide hb0
  have HX0 := hide hx0
  have hlx := blk_lt hx0
  have hYl2 : Y < W.heap.size := by have := hb0.size; omega
  clear hb0 hx0 hYl
  cases hg : getB ps (key1B 97 seq) with
  | none =>
    have HE : Hid (R = .error 24) := HR.out.trans (by simp [entR, hg])
    refine wp_region_mixT (W.heap.size) [3] (by kernel_rfl) ?_
    refine mixT_slots [0, 1, 2, 4] (fuel := 8) rfl (by kernel_rfl) (by kernel_rfl) (fun d _ _ _ _ h => by cases d <;> exact h) ?_
    simp only [opersAt, List.getElem?_toArray, List.getElem?_cons_zero, List.getElem?_cons_succ]
    repeat (go_big_quiet_step (fail))
    refine wpQuiet_nil ?_
    refine mixT_reads [3] (fuel := 7) rfl (by kernel_rfl) (by decide) (by kernel_rfl) (fun d _ _ _ _ h => by cases d <;> exact h) (ext_drew _ _) ?_
    simp only [opersAt, List.getElem?_toArray, List.getElem?_cons_zero, List.getElem?_cons_succ]
    repeat (go_big_quiet_step (fail))
    refine wpQuiet_nil ?_
    refine mixT_one (k := 5) (by kernel_rfl) rfl ?_
    go_wp2_with (go_at_call 163; refine (key1_calls _ 97 seq (u8c 97 (by decide)) hs).mono ?_; rintro e w1 ⟨kv, rfl, hown, hb1⟩)
    have hbw : Below W.heap.size W w1 := (Below.refl _ _).drew.trans hb1
    refine ⟨Or.inr (by intros; exact ⟨⟨_, hbw⟩, rfl⟩), ?_⟩
    have HBW := hide hbw
    have HOWN := hide hown
    obtain ⟨ka, km, kc, ek⟩ := hown.form3
    subst ek
    have hz1 := hbw.size
    clear hown hb1 hbw
    refine mixT_one (k := 6) (by kernel_rfl) rfl ?_
    have HST : Hid (StoreAt w1 S A ps full) := HS.out.below (HB0.out.trans (HBW.out.mono HB0.out.size))
    go_wp2_with (go_at_call 160; refine (get_calls _ S A _ ps full _ (key1B 97 seq) HST.out (HOWN.out.rows byteCs_size (by decide) (by simp [key1B, d256_len]))).mono ?_; rintro e w2 ⟨hgot, hb2⟩; rw [hg] at hgot; have hgot' : e = .returned (.tuple #[.slice none 0 0, .bool false]) := hgot; subst hgot')
    have hbx2 : Below W.heap.size W w2 := HBW.out.trans (hb2.mono hz1)
    refine ⟨Or.inr (by intros; exact ⟨⟨_, hbx2⟩, rfl⟩), ?_⟩
    have HXX := hide ((hbx2.block _ hlx).trans HX0.out)
    have hwx : whole w2 (w.heap.size) 20 = true := whole_blk HXX.out
    have hlx2 := blk_lt HXX.out
    have HBZ := hide (HB0.out.trans (hbx2.mono HB0.out.size))
    clear hb2 hbx2 hgot
    refine mixT_slots [7, 8, 9] (fuel := 2) rfl (by kernel_rfl) (by kernel_rfl) (fun d _ _ _ _ h => by cases d <;> exact h) ?_
    simp only [opersAt, List.getElem?_toArray, List.getElem?_cons_zero, List.getElem?_cons_succ]
    repeat (go_big_quiet_step (fail))
    refine wpQuiet_nil ?_
    refine mixT_one (k := 10) (by kernel_rfl) rfl ?_
    go_wp2
    refine ⟨Or.inr (fun h => h), ?_⟩
    refine mixT_one (k := 11) (by kernel_rfl) rfl ?_
    go_wp2
    refine ⟨Or.inr (fun h => h), ?_⟩
    refine mixT_nil (by kernel_rfl) ?_
    go_wp2
    refine bodyPost_ret (results_cell_tmp Tryz.results117 _ _ (w.heap.size) _ _ _ _ rfl (heap_setRow_at HXX.out) Tryz.underlying67 rfl (by kernel_rfl)) rfl ?_
    exact entry_err HE (HBZ.out.trans (below_setRow' _ _ (by omega)))
  | some val =>
    have hby := getB_ok hps hg
    cases hd : decEnt seq val with
    | none =>
      have HE : Hid (R = .error 28) := HR.out.trans (by simp [entR, hg, hd, ofOpt])
      refine wp_region_mixT (W.heap.size) [3] (by kernel_rfl) ?_
      refine mixT_slots [0, 1, 2, 4] (fuel := 8) rfl (by kernel_rfl) (by kernel_rfl) (fun d _ _ _ _ h => by cases d <;> exact h) ?_
      simp only [opersAt, List.getElem?_toArray, List.getElem?_cons_zero, List.getElem?_cons_succ]
      repeat (go_big_quiet_step (fail))
      refine wpQuiet_nil ?_
      refine mixT_reads [3] (fuel := 7) rfl (by kernel_rfl) (by decide) (by kernel_rfl) (fun d _ _ _ _ h => by cases d <;> exact h) (ext_drew _ _) ?_
      simp only [opersAt, List.getElem?_toArray, List.getElem?_cons_zero, List.getElem?_cons_succ]
      repeat (go_big_quiet_step (fail))
      refine wpQuiet_nil ?_
      refine mixT_one (k := 5) (by kernel_rfl) rfl ?_
      go_wp2_with (go_at_call 163; refine (key1_calls _ 97 seq (u8c 97 (by decide)) hs).mono ?_; rintro e w1 ⟨kv, rfl, hown, hb1⟩)
      have hbw : Below W.heap.size W w1 := (Below.refl _ _).drew.trans hb1
      refine ⟨Or.inr (by intros; exact ⟨⟨_, hbw⟩, rfl⟩), ?_⟩
      have HBW := hide hbw
      have HOWN := hide hown
      obtain ⟨ka, km, kc, ek⟩ := hown.form3
      subst ek
      have hz1 := hbw.size
      clear hown hb1 hbw
      refine mixT_one (k := 6) (by kernel_rfl) rfl ?_
      have HST : Hid (StoreAt w1 S A ps full) := HS.out.below (HB0.out.trans (HBW.out.mono HB0.out.size))
      go_wp2_with (go_at_call 160; refine (get_calls _ S A _ ps full _ (key1B 97 seq) HST.out (HOWN.out.rows byteCs_size (by decide) (by simp [key1B, d256_len]))).mono ?_; rintro e w2 ⟨hgot, hb2⟩; rw [hg] at hgot; obtain ⟨vv, hgot', hval⟩ : ∃ v, e = .returned (.tuple #[v, .bool true]) ∧ BytesAt w2 (w1.heap.size ≤ ·) v val := hgot; subst hgot'; obtain ⟨va, vm, vc, ev⟩ := hval.form; subst ev)
      have hbx2 : Below W.heap.size W w2 := HBW.out.trans (hb2.mono hz1)
      refine ⟨Or.inr (by intros; exact ⟨⟨_, hbx2⟩, rfl⟩), ?_⟩
      have HVAL := hide hval
      have HBX2 := hide hbx2
      have hz2 := hbx2.size
      clear hb2 hbx2 hval
      refine mixT_slots [7, 8, 9] (fuel := 2) rfl (by kernel_rfl) (by kernel_rfl) (fun d _ _ _ _ h => by cases d <;> exact h) ?_
      simp only [opersAt, List.getElem?_toArray, List.getElem?_cons_zero, List.getElem?_cons_succ]
      repeat (go_big_quiet_step (fail))
      refine wpQuiet_nil ?_
      refine mixT_one (k := 10) (by kernel_rfl) rfl ?_
      go_wp2
      refine ⟨Or.inr (fun h => h), ?_⟩
      refine mixT_one (k := 11) (by kernel_rfl) rfl ?_
      go_wp2
      refine ⟨Or.inr (fun h => h), ?_⟩
      refine mixT_nil (by kernel_rfl) ?_
      go_wp2_with (go_at_call 164; refine (decEnt_calls _ seq _ _ val HVAL.out hby).mono ?_; rintro e w3 hd3; rw [hd] at hd3; obtain ⟨rfl, hb3⟩ := hd3; have HXX := hide ((hb3.block _ (by omega)).trans ((HBX2.out.block _ hlx).trans HX0.out)); have hwx : whole w3 (w.heap.size) 20 = true := whole_blk HXX.out; have hlx3 := blk_lt HXX.out; have HBZ := hide ((HB0.out.trans (HBX2.out.mono HB0.out.size)).trans (hb3.mono (by have := HB0.out.size; omega))))
      refine bodyPost_ret (results_cell_tmp Tryz.results117 _ _ (w.heap.size) _ _ _ _ rfl (heap_setRow_at HXX.out) Tryz.underlying67 rfl (by kernel_rfl)) rfl ?_
      exact entry_err HE (HBZ.out.trans (below_setRow' _ _ (by omega)))
    | some x =>
      have HE : Hid (R = .ok x) := HR.out.trans (by simp [entR, hg, hd, ofOpt])
      refine wp_region_mixT (W.heap.size) [3] (by kernel_rfl) ?_
      refine mixT_slots [0, 1, 2, 4] (fuel := 8) rfl (by kernel_rfl) (by kernel_rfl) (fun d _ _ _ _ h => by cases d <;> exact h) ?_
      simp only [opersAt, List.getElem?_toArray, List.getElem?_cons_zero, List.getElem?_cons_succ]
      repeat (go_big_quiet_step (fail))
      refine wpQuiet_nil ?_
      refine mixT_reads [3] (fuel := 7) rfl (by kernel_rfl) (by decide) (by kernel_rfl) (fun d _ _ _ _ h => by cases d <;> exact h) (ext_drew _ _) ?_
      simp only [opersAt, List.getElem?_toArray, List.getElem?_cons_zero, List.getElem?_cons_succ]
      repeat (go_big_quiet_step (fail))
      refine wpQuiet_nil ?_
      refine mixT_one (k := 5) (by kernel_rfl) rfl ?_
      go_wp2_with (go_at_call 163; refine (key1_calls _ 97 seq (u8c 97 (by decide)) hs).mono ?_; rintro e w1 ⟨kv, rfl, hown, hb1⟩)
      have hbw : Below W.heap.size W w1 := (Below.refl _ _).drew.trans hb1
      refine ⟨Or.inr (by intros; exact ⟨⟨_, hbw⟩, rfl⟩), ?_⟩
      have HBW := hide hbw
      have HOWN := hide hown
      obtain ⟨ka, km, kc, ek⟩ := hown.form3
      subst ek
      have hz1 := hbw.size
      clear hown hb1 hbw
      refine mixT_one (k := 6) (by kernel_rfl) rfl ?_
      have HST : Hid (StoreAt w1 S A ps full) := HS.out.below (HB0.out.trans (HBW.out.mono HB0.out.size))
      go_wp2_with (go_at_call 160; refine (get_calls _ S A _ ps full _ (key1B 97 seq) HST.out (HOWN.out.rows byteCs_size (by decide) (by simp [key1B, d256_len]))).mono ?_; rintro e w2 ⟨hgot, hb2⟩; rw [hg] at hgot; obtain ⟨vv, hgot', hval⟩ : ∃ v, e = .returned (.tuple #[v, .bool true]) ∧ BytesAt w2 (w1.heap.size ≤ ·) v val := hgot; subst hgot'; obtain ⟨va, vm, vc, ev⟩ := hval.form; subst ev)
      have hbx2 : Below W.heap.size W w2 := HBW.out.trans (hb2.mono hz1)
      refine ⟨Or.inr (by intros; exact ⟨⟨_, hbx2⟩, rfl⟩), ?_⟩
      have HVAL := hide hval
      have HBX2 := hide hbx2
      have hz2 := hbx2.size
      clear hb2 hbx2 hval
      refine mixT_slots [7, 8, 9] (fuel := 2) rfl (by kernel_rfl) (by kernel_rfl) (fun d _ _ _ _ h => by cases d <;> exact h) ?_
      simp only [opersAt, List.getElem?_toArray, List.getElem?_cons_zero, List.getElem?_cons_succ]
      repeat (go_big_quiet_step (fail))
      refine wpQuiet_nil ?_
      refine mixT_one (k := 10) (by kernel_rfl) rfl ?_
      go_wp2
      refine ⟨Or.inr (fun h => h), ?_⟩
      refine mixT_one (k := 11) (by kernel_rfl) rfl ?_
      go_wp2
      refine ⟨Or.inr (fun h => h), ?_⟩
      refine mixT_nil (by kernel_rfl) ?_
      go_wp2_with (go_at_call 164; refine (decEnt_calls _ seq _ _ val HVAL.out hby).mono ?_; rintro e w3 hd3; rw [hd] at hd3; obtain ⟨la, ln, lc, rfl, hlv, hb3⟩ := hd3; have HLV := hide hlv; have HXX := hide ((hb3.block _ (by omega)).trans ((HBX2.out.block _ hlx).trans HX0.out)); have hwx : whole w3 (w.heap.size) 20 = true := whole_blk HXX.out; have hlx3 := blk_lt HXX.out; have HBZ := hide ((HB0.out.trans (HBX2.out.mono HB0.out.size)).trans (hb3.mono (by have := HB0.out.size; omega))))
      refine bodyPost_ret (results_cell_tmp Tryz.results117 _ _ (w.heap.size) _ _ _ _ rfl (heap_setRow_at HXX.out) Tryz.underlying67 rfl (by kernel_rfl)) rfl ?_
      rw [HE.out]
      exact ⟨la, ln, lc, rfl, RArr.mono HLV.out (fun b hb => setRow_other _ _ _ _ (by have := HB0.out.size; omega)) (fun b hb => by have := HB0.out.size; omega), HBZ.out.trans (below_setRow' _ _ (by omega))⟩

end Go.Proofs.Qxb6500666aGreatDoor
