/- The model's RenderReport, walked on reports. (Made by tools/mk_mrrp.py.) -/
import Derived.Test.Qxb6500666aGreatDoorMRepP
import Derived.BigQuiet
namespace Go.Proofs.Qxb6500666aGreatDoor
open Go.RowKit
attribute [local go_sem] ext_const Ext.cell Ext.frozen Ext.rng Ext.whole run_string_add_sum
attribute [local go_sem ↓] exec_ldDiff exec_stDiff
attribute [local go_sem] run_ldDiff run_stDiff diffCs_size whole_alloc_lt whole_alloc_at whole_drew setRow_alloc_at setRow_alloc_lt rng_alloc_lt rng_alloc_at rng_drew rng_drewN

set_option maxRecDepth 100000 in
set_option maxHeartbeats 8000000 in
theorem mrenderReport_calls (w : World) (ok : Nat → Prop) (ea la : Int) (a : Option Addr) (n cap : Nat) (ds : List Diff) (h : RArr w ok 5 diffCs (.slice a n cap) ds) (hF : rpC ea la ds = 0) (hea : U32 ea) (hla : U32 la) (hok : ∀ d ∈ ds, d.Ok) (hlen : n ≤ 1000000000) :
    Calls Tryz.prog 166 #[.int .u32 ea, .int .u32 la, .slice a n cap] w fun e w' => ∃ v, e = .returned v ∧ ByS w w' v (repText ea la ds) := by
  have HF := hide hF
  have HEA := hide hea
  have HLA := hide hla
  have HOK := hide hok
  obtain ⟨a', cap', b, off, he, hl1, hl2, hl3, ha, hc⟩ := h.lt
  injection he with he1 he2 he3
  subst he1
  subst he3
  have hn : n = ds.length := he2
  rw [← hn] at ha
  have hix := run_indexAt_arr (P := Tryz.prog) (n := n) (cap := cap) Tryz.underlying72 Tryz.size166_z (fun h => (ha h).1)
  have HB : Hid (0 < n → b < w.heap.size) := fun h => (ha h).2.2
  have HC := hide hc
  have HN := hide hn
  have hov : ∀ x : Diff, ones (diffCs x) 5 = true := fun _ => rfl
  clear h hF hea hla hok hn he2 hl1 hl2 hl3 ha hc
  go_enter Tryz.func166, Tryz.ntmps166
  go_upto_region 1 with fail
  go_cut [7] (fun v W => ∃ B : ByteArray, v = .string B ∧ B.size ≤ 200 ∧ Hid (B = strOfNums (repHead ea la n)) ∧ Hid (Below w.heap.size w W))
  case first =>
    as_aux_lemma =>
      go_wp2_with (first
        | (go_at_call 151; refine (mnum_calls _ (n : Int) ⟨by omega, by omega⟩).mono ?_; rintro e V3 ⟨T3, rfl, HT3, hz3, hb3⟩)
        | (go_at_call 150; refine (mid_calls w ea HEA.out).mono ?_; rintro e V1 ⟨T1, rfl, HT1, hz1, hb1⟩)
        | (go_at_call 150; refine (mid_calls _ la HLA.out).mono ?_; rintro e V2 ⟨T2, rfl, HT2, hz2, hb2⟩))
      go_meet
      case rel =>
        refine ⟨_, rfl, ?_, ?_, hb1.trans ((hb2.trans (hb3.mono hb2.size)).mono hb1.size)⟩
        · simp only [ByteArray.size_append]
          have l1 : ({ data := #[72, 124, 88, 124] } : ByteArray).size = 4 := rfl
          have l2 : ({ data := #[124] } : ByteArray).size = 1 := rfl
          have l3 : ({ data := #[10] } : ByteArray).size = 1 := rfl
          omega
        · show _ = _
          rw [HT1.out, HT2.out, HT3.out, show ({ data := #[72, 124, 88, 124] } : ByteArray) = strOfNums [72, 124, 88, 124] from rfl, show ({ data := #[124] } : ByteArray) = strOfNums [124] from rfl, show ({ data := #[10] } : ByteArray) = strOfNums [10] from rfl]
          simp only [strOfNums_append]
          congr 1
          simp [repHead, fld]
  case rest =>
  obtain ⟨B0, rfl, hB0, HB0, HW0⟩ := hcut
  go_upto_region 3 with fail
  have hB00 : B0.size ≤ 200 + 200 * 0 := by omega
  have HB00 : Hid (B0 = strOfNums (repHead ea la n ++ flatL repLine (ds.take 0))) := by show _ = _; rw [HB0.out]; simp [flatL]
  go_loopg [7, 27] n (fun gk v j W => ∃ (q : Nat) (B : ByteArray), q ≤ n ∧ gk = n - q ∧ v = .string B ∧ j = .int .i64 q ∧ B.size ≤ 200 + 200 * q ∧ Hid (B = strOfNums (repHead ea la n ++ flatL repLine (ds.take q))) ∧ Hid (Below w.heap.size w W))
  case atStart => exact ⟨0, B0, by omega, by omega, rfl, rfl, hB00, HB00, HW0⟩
  clear hB00 HB00 hB0 HB0 HW0
  case round =>
    obtain ⟨q, B, hq, rfl, rfl, rfl, hBz, HBB, HWr⟩ := hrel
    by_cases hlt : q < n
    · as_aux_lemma =>
      have hqs : q < ds.length := by rw [← HN.out]; exact hlt
      have hbb := HB.out (by omega)
      have hbw : b < wr.heap.size := by have h2 := HWr.out.size; omega
      have hrc : rng wr b (off + q * 5) 5 = some (diffCs ds[q]) := (rng_of_block (HWr.out.block _ hbb) _ _).trans (HC.out q hqs)
      have HTK : Hid (ds.take (q + 1) = ds.take q ++ [ds[q]]) := List.take_succ_eq_append_getElem hqs
      have HR := hide (HOK.out _ (List.getElem_mem hqs))
      have hact := vdB_act ((rep_vd HF.out).2.2 _ (List.getElem_mem hqs))
      generalize ds[q] = d at *
      have ha128 : 0 ≤ d.action ∧ d.action < 128 := by
        rcases hact with e | e | e <;> omega
      obtain ⟨ha0, ha1⟩ := ha128
      have HEN := hide (enc_ascii ha0 ha1)
      obtain ⟨EA, hEA⟩ : ∃ EA, Utf8.encode d.action = EA := ⟨_, rfl⟩
      have hEAz : EA.size ≤ 1 := by rw [← hEA, HEN.out, strOfNums_size]; simp
      clear hact hbb
      go_upto_region 5 with fail
      have HBX : Hid (Below wr.heap.size wr (wr.alloc (.cells (diffCs d) 166))) := (Below.refl _ _).alloc (Nat.le_refl _) _
      have hkc : (wr.alloc (.cells (diffCs d) 166)).heap[wr.heap.size]? = some (.cells (diffCs d) 166 (0, 0)) := heap_alloc_at _ _
      generalize wr.alloc (.cells (diffCs d) 166) = X2 at *
      have HX2 : Hid (Below w.heap.size w X2) := HWr.out.trans (HBX.out.mono HWr.out.size)
      have zD := blk_lt hkc
      generalize wr.heap.size = D at *
      have d0 : X2.cell? ⟨D, 0, none⟩ = some (.int .u8 d.action) := cells_all hkc 0
      have d1 : X2.cell? ⟨D, 1, none⟩ = some (.int .u32 d.sample) := cells_all hkc 1
      have d2 : X2.cell? ⟨D, 2, none⟩ = some (.int .u32 d.analyte) := cells_all hkc 2
      have d3 : X2.cell? ⟨D, 3, none⟩ = some (.int .u32 d.before) := cells_all hkc 3
      have d4 : X2.cell? ⟨D, 4, none⟩ = some (.int .u32 d.after) := cells_all hkc 4
      clear hkc hrc hbw HBX HWr hix
      refine wp_region_mixT (X2.heap.size) [2, 7, 12, 17, 22] (by kernel_rfl) ?_
      refine mixT_slots [0, 1, 6, 11, 16, 21] (fuel := 22) rfl (by kernel_rfl) (by kernel_rfl) (fun d _ _ _ _ h => by cases d <;> exact h) ?_
      simp only [opersAt, List.getElem?_toArray, List.getElem?_cons_zero, List.getElem?_cons_succ]
      repeat (go_big_quiet_step (fail))
      refine wpQuiet_nil ?_
      refine mixT_reads [2, 7, 12, 17, 22] (fuel := 17) rfl (by kernel_rfl) (by decide) (by kernel_rfl) (fun d _ _ _ _ h => by cases d <;> exact h) (ext_drew _ _) ?_
      simp only [opersAt, List.getElem?_toArray, List.getElem?_cons_zero, List.getElem?_cons_succ]
      repeat (go_big_quiet_step (fail))
      refine wpQuiet_nil ?_
      refine mixT_slots [3, 4, 5] (fuel := 14) rfl (by kernel_rfl) (by kernel_rfl) (fun d _ _ _ _ h => by cases d <;> exact h) ?_
      simp only [opersAt, List.getElem?_toArray, List.getElem?_cons_zero, List.getElem?_cons_succ]
      repeat (go_big_quiet_step (fail))
      refine wpQuiet_nil ?_
      refine mixT_one (k := 8) (by kernel_rfl) rfl ?_
      go_wp2_with (go_at_call 150; refine (mid_calls _ d.sample HR.out.sample).mono ?_; rintro e V1 ⟨T1, rfl, HT1, hz1, hb1⟩)
      have HC1 : Hid (Below X2.heap.size X2 V1) := ((Below.refl X2.heap.size X2).drew).trans (hb1.mono ((Below.refl X2.heap.size X2).drew).size)
      refine ⟨Or.inr (by intros; exact ⟨⟨_, HC1.out⟩, rfl⟩), ?_⟩
      clear hb1
      refine mixT_slots [9, 10] (fuel := 11) rfl (by kernel_rfl) (by kernel_rfl) (fun d _ _ _ _ h => by cases d <;> exact h) ?_
      simp only [opersAt, List.getElem?_toArray, List.getElem?_cons_zero, List.getElem?_cons_succ]
      repeat (go_big_quiet_step (fail))
      refine wpQuiet_nil ?_
      refine mixT_one (k := 13) (by kernel_rfl) rfl ?_
      go_wp2_with (go_at_call 150; refine (mid_calls _ d.analyte HR.out.analyte).mono ?_; rintro e V2 ⟨T2, rfl, HT2, hz2, hb2⟩)
      have HC2 : Hid (Below X2.heap.size X2 V2) := (HC1.out).trans (hb2.mono (HC1.out).size)
      refine ⟨Or.inr (by intros; exact ⟨⟨_, HC2.out⟩, rfl⟩), ?_⟩
      clear hb2
      refine mixT_slots [14, 15] (fuel := 8) rfl (by kernel_rfl) (by kernel_rfl) (fun d _ _ _ _ h => by cases d <;> exact h) ?_
      simp only [opersAt, List.getElem?_toArray, List.getElem?_cons_zero, List.getElem?_cons_succ]
      repeat (go_big_quiet_step (fail))
      refine wpQuiet_nil ?_
      refine mixT_one (k := 18) (by kernel_rfl) rfl ?_
      go_wp2_with (go_at_call 150; refine (mid_calls _ d.before HR.out.before).mono ?_; rintro e V3 ⟨T3, rfl, HT3, hz3, hb3⟩)
      have HC3 : Hid (Below X2.heap.size X2 V3) := (HC2.out).trans (hb3.mono (HC2.out).size)
      refine ⟨Or.inr (by intros; exact ⟨⟨_, HC3.out⟩, rfl⟩), ?_⟩
      clear hb3
      refine mixT_slots [19, 20] (fuel := 5) rfl (by kernel_rfl) (by kernel_rfl) (fun d _ _ _ _ h => by cases d <;> exact h) ?_
      simp only [opersAt, List.getElem?_toArray, List.getElem?_cons_zero, List.getElem?_cons_succ]
      repeat (go_big_quiet_step (fail))
      refine wpQuiet_nil ?_
      refine mixT_one (k := 23) (by kernel_rfl) rfl ?_
      go_wp2_with (go_at_call 150; refine (mid_calls _ d.after HR.out.after).mono ?_; rintro e V4 ⟨T4, rfl, HT4, hz4, hb4⟩)
      have HC4 : Hid (Below X2.heap.size X2 V4) := (HC3.out).trans (hb4.mono (HC3.out).size)
      refine ⟨Or.inr (by intros; exact ⟨⟨_, HC4.out⟩, rfl⟩), ?_⟩
      clear hb4
      refine mixT_slots [24, 25, 26, 27] (fuel := 0) rfl (by kernel_rfl) (by kernel_rfl) (fun d _ _ _ _ h => by cases d <;> exact h) ?_
      simp only [opersAt, List.getElem?_toArray, List.getElem?_cons_zero, List.getElem?_cons_succ]
      repeat (go_big_quiet_step (fail))
      refine wpQuiet_nil ?_
      refine mixT_nil (by kernel_rfl) ?_
      go_wp2
      go_roundg (n - (q + 1))
      case measure => omega
      case rel =>
        refine ⟨q + 1, _, by omega, rfl, rfl, by go_num, ?_, ?_, HX2.out.trans (HC4.out.mono HX2.out.size)⟩
        · simp only [ByteArray.size_append]
          have l2 : ({ data := #[124] } : ByteArray).size = 1 := rfl
          have l3 : ({ data := #[10] } : ByteArray).size = 1 := rfl
          omega
        · show _ = _
          rw [← hEA, HEN.out, HBB.out, HT1.out, HT2.out, HT3.out, HT4.out, show ({ data := #[124] } : ByteArray) = strOfNums [124] from rfl, show ({ data := #[10] } : ByteArray) = strOfNums [10] from rfl]
          simp only [strOfNums_append]
          congr 1
          rw [HTK.out, flatL_snoc]
          simp [repLine, fld]
    · obtain rfl : q = n := by omega
      have hBT : B = strOfNums (repBody ea la ds) := by
        rw [HBB.out, repBody, ← HN.out, List.take_of_length_le (by rw [← HN.out]; omega)]
      have hbl : (repBody ea la ds).length ≤ 100000000000000 := by
        have h1 := strOfNums_size (repBody ea la ds)
        rw [← hBT] at h1
        omega
      have HBY := hide (rep_bytes HF.out)
      have HLE : Hid (repText ea la ds = trailText (repBody ea la ds) q) := by show _ = _; rw [repText, ← HN.out, repBody, ← HN.out]
      clear HBB hBz
      subst hBT
      go_wp2_with (go_at_call 152; refine (mclosed_calls wr (repBody ea la ds) q ⟨by omega, by omega⟩ HBY.out hbl).mono ?_; rintro e w2 ⟨v, rfl, hv⟩; have HV := hide hv; clear hv)
      go_ret
      refine ⟨v, rfl, ?_⟩
      rw [HLE.out]
      exact ⟨RArr.mono HV.out.at' (Same.refl _ _) (fun b hb => by have h1 : wr.heap.size ≤ b := hb; have h2 := HWr.out.size; show w.heap.size ≤ b; omega), HWr.out.trans (HV.out.bel.mono HWr.out.size)⟩
end Go.Proofs.Qxb6500666aGreatDoor
