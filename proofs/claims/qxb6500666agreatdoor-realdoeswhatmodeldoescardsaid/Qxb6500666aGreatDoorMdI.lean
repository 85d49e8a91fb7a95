/- The model's issue. -/
import Derived.Test.Qxb6500666aGreatDoorMdC
namespace Go.Proofs.Qxb6500666aGreatDoor
open Go.RowKit
theorem run_fldSt2 (w : World) (s0 s1 lc s3 : Int) : (fldS 65 2 (.agg #[.int .u32 s0, .int .u32 s1, .int .u32 lc, .int .i64 s3])).run Tryz.prog w = .ok (.int .u32 lc) w := by kernel_rfl
attribute [local go_sem] ext_const Ext.cell Ext.frozen Ext.rng Ext.whole
attribute [local go_sem ↓] exec_ldFile exec_stFile exec_bdFile exec_bsFile exec_fldSt
attribute [local go_sem] run_ldFile run_stFile run_bdFile run_bsFile run_fldSt2 fileCs_size fileCs_ones fileCs_all file_ones zfCs_size whole_alloc_lt whole_alloc_at whole_drew setRow_alloc_at setRow_alloc_lt setRow_drew rng_alloc_lt rng_alloc_at rng_drew rng_drewN

set_option maxRecDepth 100000 in
set_option maxHeartbeats 8000000 in
theorem mIssue_calls (w : World) (M : Nat) (ok : Nat → Prop) (v : MV) (m : Mod) (kd now : Int) (a : Option Addr) (n c : Nat) (cs : List Change) (h : MAt w M ok v m) (hnk : ∀ b, ok b → b ≠ M) (hok : ∀ b, w.heap.size ≤ b → ok b) (hcs : ChangesAt w ok (.slice a n c) cs) (hl : m.fs.length ≤ 100000) (hla : m.au.length ≤ 100000) :
    Calls Tryz.prog 204 #[.pointer (some ⟨M, 0, none⟩), .int .u8 kd, .int .i64 now, .slice a n c] w fun e w' => e = .returned (.int .u32 (m.fs.length + 1 : Nat)) ∧ (∃ v', MAt w' M ok v' { m with fs := m.fs ++ [⟨kd, (m.fs.length + 1 : Nat), now, cumOf m.fs, cs⟩] }) ∧ But M w w' := by
  obtain ⟨zf, hf1, hf2, hf3⟩ := h.inn.fs
  obtain ⟨af, capf, bf, offf, hvf, hlf, hmf, hrf, haf, hcf⟩ := RArr.lt hf1
  obtain ⟨k, hk⟩ : ∃ k, k = zf.length := ⟨_, rfl⟩
  have hfn : m.fs.length = k := by rw [← hf2, List.length_map, hk]
  rw [hfn] at hl ⊢
  rw [← hk] at hvf hlf haf
  have HVF := hide hvf
  have HK := hide hk
  have HF1 := hide hf1
  have HF2 := hide hf2
  have HF3 := hide hf3
  have HH := hide h
  have HCS := hide hcs
  have HSRC : Hid (∀ V, Below w.heap.size w V → (af = none → capf = 0) ∧ (0 < k → ∃ b off, af = some ⟨b, off, none⟩ ∧ ∀ i (h : i < zf.length), rng V b (off + i * 5) 5 = some (zfCs zf[i]))) := fun V hb => ⟨hmf.2, fun hp => ⟨bf, offf, (haf hp).1, fun i hi => (rng_of_block (hb.block _ (haf hp).2.2) _ _).trans (hcf i hi)⟩⟩
  have cf : w.cell? ⟨M, 10, none⟩ = some (.slice af k capf) := by rw [← hvf]; exact cells_all h.top 10
  have zM := blk_lt h.top
  obtain ⟨lc, hlc⟩ : ∃ lc, lc = cumOf m.fs := ⟨_, rfl⟩
  obtain ⟨s0, s1, s3, hst⟩ : ∃ s0 s1 s3, mStat m = ⟨s0, s1, lc, s3⟩ := ⟨_, _, _, by rw [hlc]; rfl⟩
  have HST : Hid (∀ V, Below w.heap.size w V → Calls Tryz.prog 23 #[.pointer (some ⟨M, 0, none⟩)] V fun e w' => e = .returned (.agg #[.int .u32 s0, .int .u32 s1, .int .u32 lc, .int .i64 s3]) ∧ Below V.heap.size V w') := fun V hb => by
    have := mStat_calls V M ok v m (h.below hb) (by omega) (by omega)
    rw [hst] at this
    exact this
  rw [← hlc]
  clear hf1 hf2 hf3 hvf hlf hmf hrf haf hcf hk hfn h hcs hlc hst hla
  have hk1 : ((k : Int) + 1) % 4294967296 = (k : Int) + 1 := by omega
  go_enter Tryz.func204, Tryz.ntmps204
  go_upto_region 1 with fail
  go_cut [9] (fun pv W => ∃ F, pv = .pointer (some ⟨F, 0, none⟩) ∧ Hid (w.heap.size ≤ F) ∧ Hid (W.heap[F]? = some (.cells (fileCs kd ((k : Int) + 1) now lc a n c) 59 (0, 0))) ∧ Hid (Below w.heap.size w W))
  case first =>
    as_aux_lemma =>
    refine wp_region_mixT (w.heap.size) [4] (by kernel_rfl) ?_
    refine mixT_slots [0, 1, 2, 3, 8, 9, 12] (fuel := 9) rfl (by kernel_rfl) (by kernel_rfl) (fun d _ _ _ _ h => by cases d <;> exact h) ?_
    simp only [opersAt, List.getElem?_toArray, List.getElem?_cons_zero, List.getElem?_cons_succ]
    repeat (go_big_quiet_step (fail))
    refine wpQuiet_nil ?_
    refine mixT_reads [4] (fuel := 8) rfl (by kernel_rfl) (by decide) (by kernel_rfl) (fun d _ _ _ _ h => by cases d <;> exact h) (ext_drew _ _) ?_
    simp only [opersAt, List.getElem?_toArray, List.getElem?_cons_zero, List.getElem?_cons_succ]
    repeat (go_big_quiet_step (fail))
    refine wpQuiet_nil ?_
    refine mixT_slots [5, 6, 7] (fuel := 5) rfl (by kernel_rfl) (by kernel_rfl) (fun d _ _ _ _ h => by cases d <;> exact h) ?_
    simp only [opersAt, List.getElem?_toArray, List.getElem?_cons_zero, List.getElem?_cons_succ]
    repeat (go_big_quiet_step (fail))
    refine wpQuiet_nil ?_
    refine mixT_two (k := 10) (k' := 14) (by kernel_rfl) rfl rfl ?_ ?_
    · go_wp2_with (go_at_call 23; refine (HST.out _ (Below.refl _ _).drew).mono ?_; rintro e w2 ⟨rfl, hb1⟩)
      have hbw : Below w.heap.size w w2 := (Below.refl _ _).drew.trans hb1
      refine ⟨Or.inr (by intros; exact ⟨⟨_, hbw⟩, rfl⟩), ?_⟩
      have hzz := hbw.size
      refine mixT_slots [11, 13] (fuel := 2) rfl (by kernel_rfl) (by kernel_rfl) (fun d _ _ _ _ h => by cases d <;> exact h) ?_
      simp only [opersAt, List.getElem?_toArray, List.getElem?_cons_zero, List.getElem?_cons_succ]
      repeat (go_big_quiet_step (fail))
      refine wpQuiet_nil ?_
      refine mixT_one (k := 14) (by kernel_rfl) rfl ?_
      go_wp2
      refine ⟨Or.inr (by intros; exact ⟨⟨_, hbw.alloc hzz _⟩, rfl⟩), ?_⟩
      refine mixT_one (k := 15) (by kernel_rfl) rfl ?_
      go_wp2
      refine ⟨Or.inl (by kernel_rfl), ?_⟩
      refine mixT_nil (by kernel_rfl) ?_
      go_wp2
      go_meet
      case rel => exact ⟨_, rfl, hzz, heap_alloc_at _ _, hbw.alloc hzz _⟩
    · go_wp2
      have hb0 : Below w.heap.size w (w.drew.alloc (.cells (fileCs 0 0 0 0 none 0 0) 59)) := (Below.refl _ _).drew.alloc (Nat.le_refl _) _
      refine ⟨Or.inr (by intros; exact ⟨⟨_, hb0⟩, rfl⟩), ?_⟩
      refine mixT_one (k := 10) (by kernel_rfl) rfl ?_
      go_wp2_with (go_at_call 23; refine (HST.out _ hb0).mono ?_; rintro e w2 ⟨rfl, hb1⟩)
      have hbw : Below w.heap.size w w2 := hb0.trans (hb1.mono hb0.size)
      refine ⟨Or.inr (by intros; exact ⟨⟨_, hbw⟩, rfl⟩), ?_⟩
      have hgb : w2.heap[w.heap.size]? = some (.cells (fileCs 0 0 0 0 none 0 0) 59 (0, 0)) := (hb1.block _ (by simp)).trans (heap_alloc_at _ _)
      have hwg : whole w2 w.heap.size 5 = true := whole_blk hgb
      have hgl := blk_lt hgb
      refine mixT_slots [11, 13] (fuel := 1) rfl (by kernel_rfl) (by kernel_rfl) (fun d _ _ _ _ h => by cases d <;> exact h) ?_
      simp only [opersAt, List.getElem?_toArray, List.getElem?_cons_zero, List.getElem?_cons_succ]
      repeat (go_big_quiet_step (fail))
      refine wpQuiet_nil ?_
      refine mixT_one (k := 15) (by kernel_rfl) rfl ?_
      go_wp2
      refine ⟨Or.inl (by kernel_rfl), ?_⟩
      refine mixT_nil (by kernel_rfl) ?_
      go_wp2
      go_meet
      case rel => exact ⟨_, rfl, Nat.le_refl _, heap_setRow_at hgb, hbw.trans (below_setRow' _ _ (Nat.le_refl _))⟩
  case rest =>
    as_aux_lemma =>
    obtain ⟨F, rfl, HFL, HFB, HB1⟩ := hcut
    generalize wc = W at *
    have HM1 := hide (HH.out.below HB1.out)
    have cf1 : W.cell? ⟨M, 10, none⟩ = some (.slice af k capf) := (HB1.out.cell (p := ⟨M, 10, none⟩) zM).trans cf
    have zM1 := blk_lt HM1.out.top
    have rF : rng W F 0 5 = some (fileCs kd ((k : Int) + 1) now lc a n c) := rng_whole HFB.out
    have zF := blk_lt HFB.out
    have hzW := HB1.out.size
    clear cf
    have HB1D : Hid (Below w.heap.size w W.drew) := HB1.out.drew
    have hdz : W.drew.heap.size = W.heap.size := rfl
    go_upto_region 2 with fail
    refine wp_region_mixT (W.heap.size) [4, 6] (by kernel_rfl) ?_
    refine mixT_slots [0, 1, 2, 3] (fuel := 8) rfl (by kernel_rfl) (by kernel_rfl) (fun d _ _ _ _ h => by cases d <;> exact h) ?_
    simp only [opersAt, List.getElem?_toArray, List.getElem?_cons_zero, List.getElem?_cons_succ]
    repeat (go_big_quiet_step (fail))
    refine wpQuiet_nil ?_
    refine mixT_reads [4, 6] (fuel := 6) rfl (by kernel_rfl) (by decide) (by kernel_rfl) (fun d _ _ _ _ h => by cases d <;> exact h) (ext_drew _ _) ?_
    simp only [opersAt, List.getElem?_toArray, List.getElem?_cons_zero, List.getElem?_cons_succ]
    repeat (go_big_quiet_step (fail))
    refine wpQuiet_nil ?_
    refine mixT_two (k := 5) (k' := 7) (by kernel_rfl) rfl rfl ?_ ?_
    · go_wp2_with (at_builtin; refine wpList_appN (α := ZF) rfl _ _ 43 rfl W.heap.size 59 zfCs Tryz.underlying43 Tryz.info59_c rfl (by decide) zfCs_size zfCs_one (.slice none 0 0) [] rfl (OwnR.nil _ _ _ _ _) af k capf rfl zf HK.out (HSRC.out _ HB1D.out).1 (HSRC.out _ HB1D.out).2 (by simp; omega) (by simp; unfold maxLen; omega) (Nat.le_refl _) ?_; intro v7 w7 hown7 hsame7 hbel7 hat7; rw [List.nil_append] at hown7; obtain ⟨a7, c7, hv7⟩ := hown7.form; rw [← HK.out] at hv7; subst hv7)
      have hbw : Below W.heap.size W w7 := (Below.refl _ _).drew.trans hbel7
      refine ⟨Or.inr (by intros; exact ⟨⟨_, hbw⟩, rfl⟩), ?_⟩
      have HO7 := hide hown7
      have HB7 := hide hbw
      have hz7 := hbw.size
      clear hown7 hsame7 hbel7 hat7 hbw
      refine mixT_one (k := 7) (by kernel_rfl) rfl ?_
      go_wp2
      have HBA : Hid (Below W.heap.size W (w7.alloc (.cells (fileCs kd ((k : Int) + 1) now lc a n c) 59))) := HB7.out.alloc hz7 _
      refine ⟨Or.inr (by intros; exact ⟨⟨_, HBA.out⟩, rfl⟩), ?_⟩
      refine mixT_one (k := 8) (by kernel_rfl) rfl ?_
      go_wp2_with (at_builtin; refine wpList_app1 (α := ZF) rfl _ _ 43 rfl W.heap.size 59 zfCs Tryz.underlying43 Tryz.info59_c rfl (by decide) zfCs_size zfCs_one (.slice a7 k c7) zf rfl (OwnR.below HO7.out ((Below.refl _ _).alloc (Nat.le_refl _) _) (Nat.le_refl _)) _ rfl (⟨kd, ((k + 1 : Nat) : Int), now, lc, cs⟩, (a, n, c)) (rng_whole (heap_alloc_at _ _)) (by rw [← HK.out]; omega) (by rw [← HK.out]; unfold maxLen; omega) (by simp only [World.size_alloc]; omega) ?_; intro v8 w8 hown8 hsame8 hbel8 hat8; obtain ⟨a8, c8, hv8⟩ := hown8.form; rw [List.length_append, ← HK.out, List.length_singleton] at hv8; subst hv8)
      have hbw8 : Below W.heap.size W w8 := HBA.out.trans hbel8
      refine ⟨Or.inl (by kernel_rfl), ?_⟩
      have HW8 : Hid (Below w.heap.size w w8) := HB1.out.trans (hbw8.mono hzW)
      have HM8 := hide (HM1.out.below hbw8)
      have d10 : w8.cell? ⟨M, 10, none⟩ = some (.slice af k capf) := by have := cells_all HM8.out.top 10; rw [← HVF.out]; exact this
      have f10 := HM8.out.fz 10
      have zM8 := blk_lt HM8.out.top
      have HO8 := hide hown8
      have HBW8 := hide hbw8
      clear hown8 hsame8 hbel8 hat8 hbw8 cf1 rF zF
      refine mixT_one (k := 9) (by kernel_rfl) rfl ?_
      go_wp2
      refine ⟨Or.inl (by kernel_rfl), ?_⟩
      refine mixT_one (k := 10) (by kernel_rfl) rfl ?_
      go_wp2
      refine ⟨Or.inl (by kernel_rfl), ?_⟩
      refine mixT_one (k := 11) (by kernel_rfl) rfl ?_
      go_wp2
      refine ⟨Or.inl (by kernel_rfl), ?_⟩
      refine mixT_nil (by kernel_rfl) ?_
      have hput := HM8.out.putFs hnk (y := (a8, k + 1, c8)) (zf := zf ++ [(⟨kd, ((k + 1 : Nat) : Int), now, lc, cs⟩, (a, n, c))]) (by
        have := (HO8.out.rows zfCs_size (by decide) (by rw [List.length_append, ← HK.out]; simp; omega))
        refine RArr.mono this (Same.refl _ _) (fun b hb => hok b (by omega))) (fun z hz => by
        rcases List.mem_append.1 hz with hz | hz
        · exact RArr.below (HF3.out z hz) HW8.out
        · simp only [List.mem_singleton] at hz; subst hz; exact RArr.below HCS.out HW8.out)
      have e1 : (w8.setCell ⟨M, 10, none⟩ (.slice a8 (k + 1) c8)).cell? ⟨F, 1, none⟩ = some (.int .u32 ((k : Int) + 1)) := by
        have hfm : F ≠ M := by have := HFL.out; omega
        have hb8 : w8.heap[F]? = some (.cells (fileCs kd ((k : Int) + 1) now lc a n c) 59 (0, 0)) := (HBW8.out.block _ (blk_lt HFB.out)).trans HFB.out
        have hb9 : (w8.setCell ⟨M, 10, none⟩ (.slice a8 (k + 1) c8)).heap[F]? = some (.cells (fileCs kd ((k : Int) + 1) now lc a n c) 59 (0, 0)) := (Below.heap_setCell _ _ _ _ hfm).trans hb8
        exact cells_all hb9 1
      have HPUT := hide hput
      have zF9 : F < (w8.setCell ⟨M, 10, none⟩ (.slice a8 (k + 1) c8)).heap.size := by
        have := blk_lt HFB.out; have := HBW8.out.size; rw [World.size_setCell]; omega
      have HBM : Hid (But M w (w8.setCell ⟨M, 10, none⟩ (.slice a8 (k + 1) c8))) := (But.of HW8.out (by omega)).trans hput.2
      clear hput d10 f10
      simp only [sv] at HPUT
      generalize w8.setCell ⟨M, 10, none⟩ (.slice a8 (k + 1) c8) = V9 at *
      go_wp2
      go_ret
      exact ⟨by simp, ⟨_, by
        have := HPUT.out.1
        rw [List.map_append, HF2.out] at this
        exact this⟩, HBM.out⟩
    · go_wp2
      have HBA : Hid (Below W.heap.size W (W.alloc (.cells (fileCs kd ((k : Int) + 1) now lc a n c) 59)).drew) := ((Below.refl _ _).alloc (Nat.le_refl _) _).drew
      have HKA : Hid (rng (W.alloc (.cells (fileCs kd ((k : Int) + 1) now lc a n c) 59)).drew W.heap.size 0 5 = some (fileCs kd ((k : Int) + 1) now lc a n c)) := rng_whole (heap_alloc_at W _)
      refine ⟨Or.inr (by intros; exact ⟨⟨_, HBA.out⟩, rfl⟩), ?_⟩
      have HWA : Hid (Below w.heap.size w (W.alloc (.cells (fileCs kd ((k : Int) + 1) now lc a n c) 59)).drew) := HB1.out.trans (HBA.out.mono hzW)
      have hza : (W.alloc (.cells (fileCs kd ((k : Int) + 1) now lc a n c) 59)).drew.heap.size = W.heap.size + 1 := World.size_alloc _ _
      generalize (W.alloc (.cells (fileCs kd ((k : Int) + 1) now lc a n c) 59)).drew = WA at *
      refine mixT_one (k := 5) (by kernel_rfl) rfl ?_
      go_wp2_with (at_builtin; refine wpList_appN (α := ZF) rfl _ _ 43 rfl WA.heap.size 59 zfCs Tryz.underlying43 Tryz.info59_c rfl (by decide) zfCs_size zfCs_one (.slice none 0 0) [] rfl (OwnR.nil _ _ _ _ _) af k capf rfl zf HK.out (HSRC.out _ HWA.out).1 (HSRC.out _ HWA.out).2 (by simp; omega) (by simp; unfold maxLen; omega) (Nat.le_refl _) ?_; intro v7 w7 hown7 hsame7 hbel7 hat7; rw [List.nil_append] at hown7; obtain ⟨a7, c7, hv7⟩ := hown7.form; rw [← HK.out] at hv7; subst hv7)
      have hbw : Below W.heap.size W w7 := HBA.out.trans (hbel7.mono (by omega))
      refine ⟨Or.inr (by intros; exact ⟨⟨_, hbw⟩, rfl⟩), ?_⟩
      have HO7 := hide (hown7.baseLe (show W.heap.size ≤ WA.heap.size by omega))
      have HB7 := hide hbw
      have HK7 : Hid (rng w7 W.heap.size 0 5 = some (fileCs kd ((k : Int) + 1) now lc a n c)) := (rng_of_block (hbel7.block _ (by omega)) _ _).trans HKA.out
      have hz7 := hbw.size
      clear hown7 hsame7 hbel7 hat7 hbw
      refine mixT_one (k := 8) (by kernel_rfl) rfl ?_
      go_wp2_with (at_builtin; refine wpList_app1 (α := ZF) rfl _ _ 43 rfl W.heap.size 59 zfCs Tryz.underlying43 Tryz.info59_c rfl (by decide) zfCs_size zfCs_one (.slice a7 k c7) zf rfl HO7.out _ rfl (⟨kd, ((k + 1 : Nat) : Int), now, lc, cs⟩, (a, n, c)) HK7.out (by rw [← HK.out]; omega) (by rw [← HK.out]; unfold maxLen; omega) hz7 ?_; intro v8 w8 hown8 hsame8 hbel8 hat8; obtain ⟨a8, c8, hv8⟩ := hown8.form; rw [List.length_append, ← HK.out, List.length_singleton] at hv8; subst hv8)
      have hbw8 : Below W.heap.size W w8 := HB7.out.trans hbel8
      refine ⟨Or.inl (by kernel_rfl), ?_⟩
      have HW8 : Hid (Below w.heap.size w w8) := HB1.out.trans (hbw8.mono hzW)
      have HM8 := hide (HM1.out.below hbw8)
      have d10 : w8.cell? ⟨M, 10, none⟩ = some (.slice af k capf) := by have := cells_all HM8.out.top 10; rw [← HVF.out]; exact this
      have f10 := HM8.out.fz 10
      have zM8 := blk_lt HM8.out.top
      have HO8 := hide hown8
      have HBW8 := hide hbw8
      clear hown8 hsame8 hbel8 hat8 hbw8 cf1 rF zF
      refine mixT_one (k := 9) (by kernel_rfl) rfl ?_
      go_wp2
      refine ⟨Or.inl (by kernel_rfl), ?_⟩
      refine mixT_one (k := 10) (by kernel_rfl) rfl ?_
      go_wp2
      refine ⟨Or.inl (by kernel_rfl), ?_⟩
      refine mixT_one (k := 11) (by kernel_rfl) rfl ?_
      go_wp2
      refine ⟨Or.inl (by kernel_rfl), ?_⟩
      refine mixT_nil (by kernel_rfl) ?_
      have hput := HM8.out.putFs hnk (y := (a8, k + 1, c8)) (zf := zf ++ [(⟨kd, ((k + 1 : Nat) : Int), now, lc, cs⟩, (a, n, c))]) (by
        have := (HO8.out.rows zfCs_size (by decide) (by rw [List.length_append, ← HK.out]; simp; omega))
        refine RArr.mono this (Same.refl _ _) (fun b hb => hok b (by omega))) (fun z hz => by
        rcases List.mem_append.1 hz with hz | hz
        · exact RArr.below (HF3.out z hz) HW8.out
        · simp only [List.mem_singleton] at hz; subst hz; exact RArr.below HCS.out HW8.out)
      have e1 : (w8.setCell ⟨M, 10, none⟩ (.slice a8 (k + 1) c8)).cell? ⟨F, 1, none⟩ = some (.int .u32 ((k : Int) + 1)) := by
        have hfm : F ≠ M := by have := HFL.out; omega
        have hb8 : w8.heap[F]? = some (.cells (fileCs kd ((k : Int) + 1) now lc a n c) 59 (0, 0)) := (HBW8.out.block _ (blk_lt HFB.out)).trans HFB.out
        have hb9 : (w8.setCell ⟨M, 10, none⟩ (.slice a8 (k + 1) c8)).heap[F]? = some (.cells (fileCs kd ((k : Int) + 1) now lc a n c) 59 (0, 0)) := (Below.heap_setCell _ _ _ _ hfm).trans hb8
        exact cells_all hb9 1
      have HPUT := hide hput
      have zF9 : F < (w8.setCell ⟨M, 10, none⟩ (.slice a8 (k + 1) c8)).heap.size := by
        have := blk_lt HFB.out; have := HBW8.out.size; rw [World.size_setCell]; omega
      have HBM : Hid (But M w (w8.setCell ⟨M, 10, none⟩ (.slice a8 (k + 1) c8))) := (But.of HW8.out (by omega)).trans hput.2
      clear hput d10 f10
      simp only [sv] at HPUT
      generalize w8.setCell ⟨M, 10, none⟩ (.slice a8 (k + 1) c8) = V9 at *
      go_wp2
      go_ret
      exact ⟨by simp, ⟨_, by
        have := HPUT.out.1
        rw [List.map_append, HF2.out] at this
        exact this⟩, HBM.out⟩
end Go.Proofs.Qxb6500666aGreatDoor
