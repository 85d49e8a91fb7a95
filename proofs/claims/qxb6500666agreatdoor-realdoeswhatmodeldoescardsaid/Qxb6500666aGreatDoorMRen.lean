/- The model's render, walked on files. (Made by tools/mk_mren.py.) -/
import Derived.Test.Qxb6500666aGreatDoorMTxt
import Derived.Test.Qxb6500666aGreatDoorTextLen
import Derived.Test.Qxb6500666aGreatDoorLedW
import Derived.Laws.Runes
import Derived.BigQuiet
namespace Go.Proofs.Qxb6500666aGreatDoor
open Go.RowKit
theorem enc_ascii {x : Int} (h0 : 0 ≤ x) (h1 : x < 128) : Utf8.encode x = strOfNums [x] := by
  obtain ⟨n, rfl⟩ : ∃ n : Nat, x = n := ⟨x.toNat, by omega⟩
  have hv : Utf8.valid (n : Int) = true := by
    unfold Utf8.valid
    simp
    omega
  have hn : n < 128 := by omega
  unfold Utf8.encode strOfNums
  simp [hv, hn]
theorem fld_bytes (x : Int) : ByteL (fld x) := fun d hd => by
  rcases List.mem_cons.1 hd with h | h
  · omega
  · have := dec_range x d h; omega
theorem ByteL.app {a b : List Int} (ha : ByteL a) (hb : ByteL b) : ByteL (a ++ b) := fun d hd => (List.mem_append.1 hd).elim (ha d) (hb d)
theorem body_bytes {k s i bb : Int} {cs : List Change} (h : FileOk k s i bb cs) : ByteL (bodyText k s i bb cs) := by
  have h10 : ByteL [10] := fun d hd => by rw [List.mem_singleton.1 hd]; omega
  have h72 : ByteL [72] := fun d hd => by rw [List.mem_singleton.1 hd]; omega
  have hk : ByteL [124, k] := fun d hd => by
    simp only [List.mem_cons, List.not_mem_nil, or_false] at hd
    have := h.1
    unfold KindOk at this
    omega
  have key : ∀ ds : List Change, (∀ c ∈ ds, 0 ≤ c.action ∧ c.action ≤ 255) → ByteL (linesText ds) := by
    intro ds
    induction ds with
    | nil => intro _ d hd; cases hd
    | cons c r ih =>
      intro hc
      have ha := hc c (List.mem_cons_self ..)
      have h1 : ByteL [c.action] := fun d hd => by rw [List.mem_singleton.1 hd]; exact ha
      show ByteL (rowText c ++ linesText r)
      refine ByteL.app ?_ (ih (fun x hx => hc x (List.mem_cons_of_mem _ hx)))
      unfold rowText
      exact ((((((((((((((h1.app (fld_bytes _)).app (fld_bytes _)).app (fld_bytes _)).app (fld_bytes _)).app (fld_bytes _)).app (fld_bytes _)).app (fld_bytes _)).app (fld_bytes _)).app (fld_bytes _)).app (fld_bytes _)).app (fld_bytes _)).app (fld_bytes _)).app (fld_bytes _)).app h10)
  unfold bodyText headText
  refine ByteL.app ((((((h72.app hk).app (fld_bytes _)).app (fld_bytes _)).app (fld_bytes _)).app (fld_bytes _)).app h10) (key cs (fun c hc => ?_))
  obtain ⟨q, hq, rfl⟩ := List.getElem_of_mem hc
  have := (h.2.2.2 q hq).1
  rcases this with ⟨-, e⟩ | ⟨-, e | e | e⟩ <;> omega
attribute [local go_sem] ext_const Ext.cell Ext.frozen Ext.rng Ext.whole run_string_add_sum
attribute [local go_sem ↓] exec_ldRow exec_ldChange exec_ldFile exec_stRow exec_stChange exec_stFile
attribute [local go_sem] run_ldRow run_ldChange run_ldFile run_stRow run_stChange run_stFile rowCs_size rowCs_ones rowCs_all changeCs_size changeCs_ones changeCs_0 changeCs_row changeCs_all fileCs_size fileCs_ones fileCs_all whole_alloc_lt whole_alloc_at whole_drew setRow_alloc_at setRow_alloc_lt rng_alloc_lt rng_alloc_at rng_drew rng_drewN

set_option maxRecDepth 100000 in
set_option maxHeartbeats 8000000 in
theorem mrender_calls (w : World) (ok : Nat → Prop) (k s i bb : Int) (a : Option Addr) (n cap : Nat) (cs : List Change) (hn : n = cs.length) (h : ChangesAt w ok (.slice a n cap) cs) (hF : FileOk k s i bb cs) (hs : U32 s) (hi : I64 i) (hb : U32 bb) (hok : ∀ c ∈ cs, c.Ok) (hlen : n ≤ 1000000000) :
    Calls Tryz.prog 84 #[.agg (fileCs k s i bb a n cap)] w fun e w' => ∃ v, e = .returned (.tuple #[v, .int .u32 (crc (bodyText k s i bb cs))]) ∧ ByS w w' v (fileText k s i bb cs) := by
  have HF := hide hF
  have Hs := hide hs
  have Hi := hide hi
  have Hbb := hide hb
  have HOK := hide hok
  have HN := hide hn
  have hk128 : 0 ≤ k ∧ k < 128 := by rcases hF.1 with e | e <;> omega
  have HEK := hide (enc_ascii hk128.1 hk128.2)
  obtain ⟨EK, hEK⟩ : ∃ EK, Utf8.encode k = EK := ⟨_, rfl⟩
  have hEKz : EK.size ≤ 1 := by rw [← hEK, HEK.out, strOfNums_size]; simp
  have HEK2 := hide hEK
  obtain ⟨a', cap', b, off, he, hl1, hl2, hl3, ha, hc⟩ := h.lt
  injection he with he1 he2 he3
  subst he1
  subst he3
  rw [← hn] at ha
  have hix := run_indexAt_arr (P := Tryz.prog) (n := n) (cap := cap) Tryz.underlying57 Tryz.size111 (fun h => (ha h).1)
  have HB : Hid (0 < n → b < w.heap.size) := fun h => (ha h).2.2
  have HC := hide hc
  clear h hF hs hi hb hok hn he2 hl1 hl2 hl3 ha hc
  obtain ⟨hk0, hk1x⟩ := hk128
  go_enter Tryz.func84, Tryz.ntmps84
  go_upto_region 1 with fail
  have HB1 : Hid (Below w.heap.size w (w.alloc (.cells (fileCs k s i bb a n cap) 59))) := (Below.refl _ _).alloc (Nat.le_refl _) _
  have hk1 : (w.alloc (.cells (fileCs k s i bb a n cap) 59)).heap[w.heap.size]? = some (.cells (fileCs k s i bb a n cap) 59 (0, 0)) := heap_alloc_at _ _
  generalize w.alloc (.cells (fileCs k s i bb a n cap) 59) = W1 at *
  have f0 : W1.cell? ⟨w.heap.size, 0, none⟩ = some (.int .u8 k) := cells_all hk1 0
  have f1 : W1.cell? ⟨w.heap.size, 1, none⟩ = some (.int .u32 s) := cells_all hk1 1
  have f2 : W1.cell? ⟨w.heap.size, 2, none⟩ = some (.int .i64 i) := cells_all hk1 2
  have f3 : W1.cell? ⟨w.heap.size, 3, none⟩ = some (.int .u32 bb) := cells_all hk1 3
  have f4 : W1.cell? ⟨w.heap.size, 4, none⟩ = some (.slice a n cap) := cells_all hk1 4
  have z1 := blk_lt hk1
  have HK1 := hide hk1
  have hs1 := Hs.out.1
  have hs2 := Hs.out.2
  clear hk1
  go_cut [4] (fun v W => ∃ B : ByteArray, v = .string B ∧ B.size ≤ 200 ∧ Hid (B = strOfNums (headText k s i bb n)) ∧ Hid (Below W1.heap.size W1 W))
  case first =>
    as_aux_lemma =>
      refine wp_region_mixT (W1.heap.size) [1, 7, 12, 17, 22] (by kernel_rfl) ?_
      refine mixT_slots [0, 6, 11, 16, 21] (fuel := 23) rfl (by kernel_rfl) (by kernel_rfl) (fun d _ _ _ _ h => by cases d <;> exact h) ?_
      simp only [opersAt, List.getElem?_toArray, List.getElem?_cons_zero, List.getElem?_cons_succ]
      repeat (go_big_quiet_step (fail))
      refine wpQuiet_nil ?_
      refine mixT_reads [1, 7, 12, 17, 22] (fuel := 18) rfl (by kernel_rfl) (by decide) (by kernel_rfl) (fun d _ _ _ _ h => by cases d <;> exact h) (ext_drew _ _) ?_
      simp only [opersAt, List.getElem?_toArray, List.getElem?_cons_zero, List.getElem?_cons_succ]
      repeat (go_big_quiet_step (fail))
      refine wpQuiet_nil ?_
      refine mixT_slots [2, 3, 4, 5, 23] (fuel := 13) rfl (by kernel_rfl) (by kernel_rfl) (fun d _ _ _ _ h => by cases d <;> exact h) ?_
      simp only [opersAt, List.getElem?_toArray, List.getElem?_cons_zero, List.getElem?_cons_succ]
      repeat (go_big_quiet_step (fail))
      refine wpQuiet_nil ?_
      refine mixT_one (k := 8) (by kernel_rfl) rfl ?_
      go_wp2_with (go_at_call 150; refine (mid_calls _ s Hs.out).mono ?_; rintro e V1 ⟨T1, rfl, HT1, hz1, hb1⟩)
      have HC1 : Hid (Below W1.heap.size W1 V1) := ((Below.refl W1.heap.size W1).drew).trans (hb1.mono ((Below.refl W1.heap.size W1).drew).size)
      refine ⟨Or.inr (by intros; exact ⟨⟨_, HC1.out⟩, rfl⟩), ?_⟩
      clear hb1
      refine mixT_slots [9, 10] (fuel := 10) rfl (by kernel_rfl) (by kernel_rfl) (fun d _ _ _ _ h => by cases d <;> exact h) ?_
      simp only [opersAt, List.getElem?_toArray, List.getElem?_cons_zero, List.getElem?_cons_succ]
      repeat (go_big_quiet_step (fail))
      refine wpQuiet_nil ?_
      refine mixT_one (k := 13) (by kernel_rfl) rfl ?_
      go_wp2_with (go_at_call 151; refine (mnum_calls _ i Hi.out).mono ?_; rintro e V2 ⟨T2, rfl, HT2, hz2, hb2⟩)
      have HC2 : Hid (Below W1.heap.size W1 V2) := (HC1.out).trans (hb2.mono (HC1.out).size)
      refine ⟨Or.inr (by intros; exact ⟨⟨_, HC2.out⟩, rfl⟩), ?_⟩
      clear hb2
      refine mixT_slots [14, 15] (fuel := 7) rfl (by kernel_rfl) (by kernel_rfl) (fun d _ _ _ _ h => by cases d <;> exact h) ?_
      simp only [opersAt, List.getElem?_toArray, List.getElem?_cons_zero, List.getElem?_cons_succ]
      repeat (go_big_quiet_step (fail))
      refine wpQuiet_nil ?_
      refine mixT_one (k := 18) (by kernel_rfl) rfl ?_
      go_wp2_with (go_at_call 150; refine (mid_calls _ bb Hbb.out).mono ?_; rintro e V3 ⟨T3, rfl, HT3, hz3, hb3⟩)
      have HC3 : Hid (Below W1.heap.size W1 V3) := (HC2.out).trans (hb3.mono (HC2.out).size)
      refine ⟨Or.inr (by intros; exact ⟨⟨_, HC3.out⟩, rfl⟩), ?_⟩
      clear hb3
      refine mixT_slots [19, 20] (fuel := 4) rfl (by kernel_rfl) (by kernel_rfl) (fun d _ _ _ _ h => by cases d <;> exact h) ?_
      simp only [opersAt, List.getElem?_toArray, List.getElem?_cons_zero, List.getElem?_cons_succ]
      repeat (go_big_quiet_step (fail))
      refine wpQuiet_nil ?_
      refine mixT_one (k := 24) (by kernel_rfl) rfl ?_
      go_wp2_with (go_at_call 151; refine (mnum_calls _ (n : Int) ⟨by omega, by omega⟩).mono ?_; rintro e V4 ⟨T4, rfl, HT4, hz4, hb4⟩)
      have HC4 : Hid (Below W1.heap.size W1 V4) := (HC3.out).trans (hb4.mono (HC3.out).size)
      refine ⟨Or.inr (by intros; exact ⟨⟨_, HC4.out⟩, rfl⟩), ?_⟩
      clear hb4
      refine mixT_slots [25, 26, 27] (fuel := 0) rfl (by kernel_rfl) (by kernel_rfl) (fun d _ _ _ _ h => by cases d <;> exact h) ?_
      simp only [opersAt, List.getElem?_toArray, List.getElem?_cons_zero, List.getElem?_cons_succ]
      repeat (go_big_quiet_step (fail))
      refine wpQuiet_nil ?_
      refine mixT_nil (by kernel_rfl) ?_
      go_wp2
      go_meet
      case rel =>
        refine ⟨_, rfl, ?_, ?_, HC4⟩
        · simp only [ByteArray.size_append]
          have l1 : ({ data := #[72, 124] } : ByteArray).size = 2 := rfl
          have l2 : ({ data := #[124] } : ByteArray).size = 1 := rfl
          have l3 : ({ data := #[10] } : ByteArray).size = 1 := rfl
          omega
        · show _ = _
          rw [← hEK, HEK.out, HT1.out, HT2.out, HT3.out, HT4.out, show ({ data := #[72, 124] } : ByteArray) = strOfNums [72, 124] from rfl, show ({ data := #[124] } : ByteArray) = strOfNums [124] from rfl, show ({ data := #[10] } : ByteArray) = strOfNums [10] from rfl]
          simp only [strOfNums_append]
          congr 1
          simp [headText, fld]
  case rest =>
  obtain ⟨B0, rfl, hB0, HB0, HW0⟩ := hcut
  have hzW := HW0.out.size
  have g4 : wc.cell? ⟨w.heap.size, 4, none⟩ = some (.slice a n cap) := (HW0.out.cell (p := ⟨w.heap.size, 4, none⟩) z1).trans f4
  have zc : w.heap.size < wc.heap.size := by omega
  clear f0 f1 f2 f3 f4 hEK hEKz HEK2 hk0 hk1x
  go_upto_region 3 with fail
  clear g4 zc
  have hB00 : B0.size ≤ 200 + 400 * 0 := by omega
  have HB00 : Hid (B0 = strOfNums (headText k s i bb n ++ linesText (cs.take 0))) := by show _ = _; rw [HB0.out]; simp [linesText, flatL]
  go_loopg [4, 38] n (fun gk v j W => ∃ (q : Nat) (B : ByteArray), q ≤ n ∧ gk = n - q ∧ v = .string B ∧ j = .int .i64 q ∧ B.size ≤ 200 + 400 * q ∧ Hid (B = strOfNums (headText k s i bb n ++ linesText (cs.take q))) ∧ Hid (Below W1.heap.size W1 W))
  case atStart => exact ⟨0, B0, by omega, by omega, rfl, rfl, hB00, HB00, HW0⟩
  clear hB00 HB00 hB0 HB0 HW0 hzW
  case round =>
    obtain ⟨q, B, hq, rfl, rfl, rfl, hBz, HBB, HWr⟩ := hrel
    by_cases hlt : q < n
    · as_aux_lemma =>
      have hqs : q < cs.length := by rw [← HN.out]; exact hlt
      have hbb := HB.out (by omega)
      have hbw : b < wr.heap.size := by have h1 := HB1.out.size; have h2 := HWr.out.size; omega
      have hrc : rng wr b (off + q * 14) 14 = some (changeCs cs[q]) := (rng_of_block ((HWr.out.block _ (by have := HB1.out.size; omega)).trans (HB1.out.block _ hbb)) _ _).trans (HC.out q hqs)
      have HTK : Hid (cs.take (q + 1) = cs.take q ++ [cs[q]]) := List.take_succ_eq_append_getElem hqs
      have HR := hide (HOK.out _ (List.getElem_mem hqs)).row
      have hact := (HF.out.2.2.2 q hqs).1
      generalize cs[q] = c at *
      have ha128 : 0 ≤ c.action ∧ c.action < 128 := by
        rcases hact with ⟨-, e⟩ | ⟨-, e | e | e⟩ <;> omega
      obtain ⟨ha0, ha1⟩ := ha128
      have HEA := hide (enc_ascii ha0 ha1)
      obtain ⟨EA, hEA⟩ : ∃ EA, Utf8.encode c.action = EA := ⟨_, rfl⟩
      have hEAz : EA.size ≤ 1 := by rw [← hEA, HEA.out, strOfNums_size]; simp
      clear hact hbb
      go_upto_region 6 with fail
      have HBX : Hid (Below wr.heap.size wr ((wr.alloc (.cells (changeCs c) 111)).alloc (.cells (rowCs c.row) 109))) := ((Below.refl _ _).alloc (Nat.le_refl _) _).alloc (by simp) _
      have hkc : ((wr.alloc (.cells (changeCs c) 111)).alloc (.cells (rowCs c.row) 109)).heap[wr.heap.size]? = some (.cells (changeCs c) 111 (0, 0)) := (Below.heap_alloc _ _ _ (by simp)).trans (heap_alloc_at _ _)
      have hkr : ((wr.alloc (.cells (changeCs c) 111)).alloc (.cells (rowCs c.row) 109)).heap[wr.heap.size + 1]? = some (.cells (rowCs c.row) 109 (0, 0)) := box2 wr _ _ _ _
      generalize (wr.alloc (.cells (changeCs c) 111)).alloc (.cells (rowCs c.row) 109) = X2 at *
      have HX2 : Hid (Below W1.heap.size W1 X2) := HWr.out.trans (HBX.out.mono HWr.out.size)
      have zD := blk_lt hkc
      have zR := blk_lt hkr
      generalize wr.heap.size = D at *
      have d0 : X2.cell? ⟨D, 0, none⟩ = some (.int .u8 c.action) := cells_all hkc 0
      have r0 : X2.cell? ⟨D + 1, 0, none⟩ = some (.int .u32 c.row.sample) := cells_all hkr 0
      have r1 : X2.cell? ⟨D + 1, 1, none⟩ = some (.int .u32 c.row.analyte) := cells_all hkr 1
      have r2 : X2.cell? ⟨D + 1, 2, none⟩ = some (.int .u32 c.row.version) := cells_all hkr 2
      have r3 : X2.cell? ⟨D + 1, 3, none⟩ = some (.int .i64 c.row.value) := cells_all hkr 3
      have r4 : X2.cell? ⟨D + 1, 4, none⟩ = some (.int .u32 c.row.subject) := cells_all hkr 4
      have r5 : X2.cell? ⟨D + 1, 5, none⟩ = some (.int .u32 c.row.site) := cells_all hkr 5
      have r6 : X2.cell? ⟨D + 1, 6, none⟩ = some (.int .u32 c.row.visit) := cells_all hkr 6
      have r7 : X2.cell? ⟨D + 1, 7, none⟩ = some (.int .u32 c.row.proto) := cells_all hkr 7
      have r8 : X2.cell? ⟨D + 1, 8, none⟩ = some (.int .u32 c.row.kit) := cells_all hkr 8
      have r9 : X2.cell? ⟨D + 1, 9, none⟩ = some (.int .u8 c.row.cls) := cells_all hkr 9
      have r10 : X2.cell? ⟨D + 1, 10, none⟩ = some (.int .i64 c.row.collected) := cells_all hkr 10
      have r11 : X2.cell? ⟨D + 1, 11, none⟩ = some (.int .i64 c.row.received) := cells_all hkr 11
      have r12 : X2.cell? ⟨D + 1, 12, none⟩ = some (.int .i64 c.row.tested) := cells_all hkr 12
      have hcl1 := HR.out.cls.1
      have hcl2 := HR.out.cls.2
      clear hkc hkr hrc hbw HBX HWr hix
      simp only [List.append_eq, List.cons_append, List.nil_append]
      refine wp_region_mixT (X2.heap.size) [2, 7, 12, 17, 22, 27, 32, 37, 42, 47, 52, 58, 63, 68] (by kernel_rfl) ?_
      refine mixT_slots [0, 1, 6, 11, 16, 21, 26, 31, 36, 41, 46, 51, 57, 62, 67] (fuel := 59) rfl (by kernel_rfl) (by kernel_rfl) (fun d _ _ _ _ h => by cases d <;> exact h) ?_
      simp only [opersAt, List.getElem?_toArray, List.getElem?_cons_zero, List.getElem?_cons_succ]
      repeat (go_big_quiet_step (fail))
      refine wpQuiet_nil ?_
      refine mixT_reads [2, 7, 12, 17, 22, 27, 32, 37, 42, 47, 52, 58, 63, 68] (fuel := 45) rfl (by kernel_rfl) (by decide) (by kernel_rfl) (fun d _ _ _ _ h => by cases d <;> exact h) (ext_drew _ _) ?_
      simp only [opersAt, List.getElem?_toArray, List.getElem?_cons_zero, List.getElem?_cons_succ]
      repeat (go_big_quiet_step (fail))
      refine wpQuiet_nil ?_
      refine mixT_slots [3, 4, 5, 53] (fuel := 41) rfl (by kernel_rfl) (by kernel_rfl) (fun d _ _ _ _ h => by cases d <;> exact h) ?_
      simp only [opersAt, List.getElem?_toArray, List.getElem?_cons_zero, List.getElem?_cons_succ]
      repeat (go_big_quiet_step (fail))
      refine wpQuiet_nil ?_
      refine mixT_one (k := 8) (by kernel_rfl) rfl ?_
      go_wp2_with (go_at_call 150; refine (mid_calls _ c.row.sample HR.out.sample).mono ?_; rintro e V1 ⟨T1, rfl, HT1, hz1, hb1⟩)
      have HC1 : Hid (Below X2.heap.size X2 V1) := ((Below.refl X2.heap.size X2).drew).trans (hb1.mono ((Below.refl X2.heap.size X2).drew).size)
      refine ⟨Or.inr (by intros; exact ⟨⟨_, HC1.out⟩, rfl⟩), ?_⟩
      clear hb1
      refine mixT_slots [9, 10] (fuel := 38) rfl (by kernel_rfl) (by kernel_rfl) (fun d _ _ _ _ h => by cases d <;> exact h) ?_
      simp only [opersAt, List.getElem?_toArray, List.getElem?_cons_zero, List.getElem?_cons_succ]
      repeat (go_big_quiet_step (fail))
      refine wpQuiet_nil ?_
      refine mixT_one (k := 13) (by kernel_rfl) rfl ?_
      go_wp2_with (go_at_call 150; refine (mid_calls _ c.row.analyte HR.out.analyte).mono ?_; rintro e V2 ⟨T2, rfl, HT2, hz2, hb2⟩)
      have HC2 : Hid (Below X2.heap.size X2 V2) := (HC1.out).trans (hb2.mono (HC1.out).size)
      refine ⟨Or.inr (by intros; exact ⟨⟨_, HC2.out⟩, rfl⟩), ?_⟩
      clear hb2
      refine mixT_slots [14, 15] (fuel := 35) rfl (by kernel_rfl) (by kernel_rfl) (fun d _ _ _ _ h => by cases d <;> exact h) ?_
      simp only [opersAt, List.getElem?_toArray, List.getElem?_cons_zero, List.getElem?_cons_succ]
      repeat (go_big_quiet_step (fail))
      refine wpQuiet_nil ?_
      refine mixT_one (k := 18) (by kernel_rfl) rfl ?_
      go_wp2_with (go_at_call 150; refine (mid_calls _ c.row.version HR.out.version).mono ?_; rintro e V3 ⟨T3, rfl, HT3, hz3, hb3⟩)
      have HC3 : Hid (Below X2.heap.size X2 V3) := (HC2.out).trans (hb3.mono (HC2.out).size)
      refine ⟨Or.inr (by intros; exact ⟨⟨_, HC3.out⟩, rfl⟩), ?_⟩
      clear hb3
      refine mixT_slots [19, 20] (fuel := 32) rfl (by kernel_rfl) (by kernel_rfl) (fun d _ _ _ _ h => by cases d <;> exact h) ?_
      simp only [opersAt, List.getElem?_toArray, List.getElem?_cons_zero, List.getElem?_cons_succ]
      repeat (go_big_quiet_step (fail))
      refine wpQuiet_nil ?_
      refine mixT_one (k := 23) (by kernel_rfl) rfl ?_
      go_wp2_with (go_at_call 151; refine (mnum_calls _ c.row.value HR.out.value).mono ?_; rintro e V4 ⟨T4, rfl, HT4, hz4, hb4⟩)
      have HC4 : Hid (Below X2.heap.size X2 V4) := (HC3.out).trans (hb4.mono (HC3.out).size)
      refine ⟨Or.inr (by intros; exact ⟨⟨_, HC4.out⟩, rfl⟩), ?_⟩
      clear hb4
      refine mixT_slots [24, 25] (fuel := 29) rfl (by kernel_rfl) (by kernel_rfl) (fun d _ _ _ _ h => by cases d <;> exact h) ?_
      simp only [opersAt, List.getElem?_toArray, List.getElem?_cons_zero, List.getElem?_cons_succ]
      repeat (go_big_quiet_step (fail))
      refine wpQuiet_nil ?_
      refine mixT_one (k := 28) (by kernel_rfl) rfl ?_
      go_wp2_with (go_at_call 150; refine (mid_calls _ c.row.subject HR.out.subject).mono ?_; rintro e V5 ⟨T5, rfl, HT5, hz5, hb5⟩)
      have HC5 : Hid (Below X2.heap.size X2 V5) := (HC4.out).trans (hb5.mono (HC4.out).size)
      refine ⟨Or.inr (by intros; exact ⟨⟨_, HC5.out⟩, rfl⟩), ?_⟩
      clear hb5
      refine mixT_slots [29, 30] (fuel := 26) rfl (by kernel_rfl) (by kernel_rfl) (fun d _ _ _ _ h => by cases d <;> exact h) ?_
      simp only [opersAt, List.getElem?_toArray, List.getElem?_cons_zero, List.getElem?_cons_succ]
      repeat (go_big_quiet_step (fail))
      refine wpQuiet_nil ?_
      refine mixT_one (k := 33) (by kernel_rfl) rfl ?_
      go_wp2_with (go_at_call 150; refine (mid_calls _ c.row.site HR.out.site).mono ?_; rintro e V6 ⟨T6, rfl, HT6, hz6, hb6⟩)
      have HC6 : Hid (Below X2.heap.size X2 V6) := (HC5.out).trans (hb6.mono (HC5.out).size)
      refine ⟨Or.inr (by intros; exact ⟨⟨_, HC6.out⟩, rfl⟩), ?_⟩
      clear hb6
      refine mixT_slots [34, 35] (fuel := 23) rfl (by kernel_rfl) (by kernel_rfl) (fun d _ _ _ _ h => by cases d <;> exact h) ?_
      simp only [opersAt, List.getElem?_toArray, List.getElem?_cons_zero, List.getElem?_cons_succ]
      repeat (go_big_quiet_step (fail))
      refine wpQuiet_nil ?_
      refine mixT_one (k := 38) (by kernel_rfl) rfl ?_
      go_wp2_with (go_at_call 150; refine (mid_calls _ c.row.visit HR.out.visit).mono ?_; rintro e V7 ⟨T7, rfl, HT7, hz7, hb7⟩)
      have HC7 : Hid (Below X2.heap.size X2 V7) := (HC6.out).trans (hb7.mono (HC6.out).size)
      refine ⟨Or.inr (by intros; exact ⟨⟨_, HC7.out⟩, rfl⟩), ?_⟩
      clear hb7
      refine mixT_slots [39, 40] (fuel := 20) rfl (by kernel_rfl) (by kernel_rfl) (fun d _ _ _ _ h => by cases d <;> exact h) ?_
      simp only [opersAt, List.getElem?_toArray, List.getElem?_cons_zero, List.getElem?_cons_succ]
      repeat (go_big_quiet_step (fail))
      refine wpQuiet_nil ?_
      refine mixT_one (k := 43) (by kernel_rfl) rfl ?_
      go_wp2_with (go_at_call 150; refine (mid_calls _ c.row.proto HR.out.proto).mono ?_; rintro e V8 ⟨T8, rfl, HT8, hz8, hb8⟩)
      have HC8 : Hid (Below X2.heap.size X2 V8) := (HC7.out).trans (hb8.mono (HC7.out).size)
      refine ⟨Or.inr (by intros; exact ⟨⟨_, HC8.out⟩, rfl⟩), ?_⟩
      clear hb8
      refine mixT_slots [44, 45] (fuel := 17) rfl (by kernel_rfl) (by kernel_rfl) (fun d _ _ _ _ h => by cases d <;> exact h) ?_
      simp only [opersAt, List.getElem?_toArray, List.getElem?_cons_zero, List.getElem?_cons_succ]
      repeat (go_big_quiet_step (fail))
      refine wpQuiet_nil ?_
      refine mixT_one (k := 48) (by kernel_rfl) rfl ?_
      go_wp2_with (go_at_call 150; refine (mid_calls _ c.row.kit HR.out.kit).mono ?_; rintro e V9 ⟨T9, rfl, HT9, hz9, hb9⟩)
      have HC9 : Hid (Below X2.heap.size X2 V9) := (HC8.out).trans (hb9.mono (HC8.out).size)
      refine ⟨Or.inr (by intros; exact ⟨⟨_, HC9.out⟩, rfl⟩), ?_⟩
      clear hb9
      refine mixT_slots [49, 50] (fuel := 14) rfl (by kernel_rfl) (by kernel_rfl) (fun d _ _ _ _ h => by cases d <;> exact h) ?_
      simp only [opersAt, List.getElem?_toArray, List.getElem?_cons_zero, List.getElem?_cons_succ]
      repeat (go_big_quiet_step (fail))
      refine wpQuiet_nil ?_
      refine mixT_one (k := 54) (by kernel_rfl) rfl ?_
      go_wp2_with (go_at_call 151; refine (mnum_calls _ c.row.cls ⟨by omega, by omega⟩).mono ?_; rintro e V10 ⟨T10, rfl, HT10, hz10, hb10⟩)
      have HC10 : Hid (Below X2.heap.size X2 V10) := (HC9.out).trans (hb10.mono (HC9.out).size)
      refine ⟨Or.inr (by intros; exact ⟨⟨_, HC10.out⟩, rfl⟩), ?_⟩
      clear hb10
      refine mixT_slots [55, 56] (fuel := 11) rfl (by kernel_rfl) (by kernel_rfl) (fun d _ _ _ _ h => by cases d <;> exact h) ?_
      simp only [opersAt, List.getElem?_toArray, List.getElem?_cons_zero, List.getElem?_cons_succ]
      repeat (go_big_quiet_step (fail))
      refine wpQuiet_nil ?_
      refine mixT_one (k := 59) (by kernel_rfl) rfl ?_
      go_wp2_with (go_at_call 151; refine (mnum_calls _ c.row.collected HR.out.collected).mono ?_; rintro e V11 ⟨T11, rfl, HT11, hz11, hb11⟩)
      have HC11 : Hid (Below X2.heap.size X2 V11) := (HC10.out).trans (hb11.mono (HC10.out).size)
      refine ⟨Or.inr (by intros; exact ⟨⟨_, HC11.out⟩, rfl⟩), ?_⟩
      clear hb11
      refine mixT_slots [60, 61] (fuel := 8) rfl (by kernel_rfl) (by kernel_rfl) (fun d _ _ _ _ h => by cases d <;> exact h) ?_
      simp only [opersAt, List.getElem?_toArray, List.getElem?_cons_zero, List.getElem?_cons_succ]
      repeat (go_big_quiet_step (fail))
      refine wpQuiet_nil ?_
      refine mixT_one (k := 64) (by kernel_rfl) rfl ?_
      go_wp2_with (go_at_call 151; refine (mnum_calls _ c.row.received HR.out.received).mono ?_; rintro e V12 ⟨T12, rfl, HT12, hz12, hb12⟩)
      have HC12 : Hid (Below X2.heap.size X2 V12) := (HC11.out).trans (hb12.mono (HC11.out).size)
      refine ⟨Or.inr (by intros; exact ⟨⟨_, HC12.out⟩, rfl⟩), ?_⟩
      clear hb12
      refine mixT_slots [65, 66] (fuel := 5) rfl (by kernel_rfl) (by kernel_rfl) (fun d _ _ _ _ h => by cases d <;> exact h) ?_
      simp only [opersAt, List.getElem?_toArray, List.getElem?_cons_zero, List.getElem?_cons_succ]
      repeat (go_big_quiet_step (fail))
      refine wpQuiet_nil ?_
      refine mixT_one (k := 69) (by kernel_rfl) rfl ?_
      go_wp2_with (go_at_call 151; refine (mnum_calls _ c.row.tested HR.out.tested).mono ?_; rintro e V13 ⟨T13, rfl, HT13, hz13, hb13⟩)
      have HC13 : Hid (Below X2.heap.size X2 V13) := (HC12.out).trans (hb13.mono (HC12.out).size)
      refine ⟨Or.inr (by intros; exact ⟨⟨_, HC13.out⟩, rfl⟩), ?_⟩
      clear hb13
      refine mixT_slots [70, 71, 72, 73] (fuel := 0) rfl (by kernel_rfl) (by kernel_rfl) (fun d _ _ _ _ h => by cases d <;> exact h) ?_
      simp only [opersAt, List.getElem?_toArray, List.getElem?_cons_zero, List.getElem?_cons_succ]
      repeat (go_big_quiet_step (fail))
      refine wpQuiet_nil ?_
      refine mixT_nil (by kernel_rfl) ?_
      go_wp2
      go_roundg (n - (q + 1))
      case measure => omega
      case rel =>
        refine ⟨q + 1, _, by omega, rfl, rfl, by go_num, ?_, ?_, HX2.out.trans (HC13.out.mono HX2.out.size)⟩
        · simp only [ByteArray.size_append]
          have l2 : ({ data := #[124] } : ByteArray).size = 1 := rfl
          have l3 : ({ data := #[10] } : ByteArray).size = 1 := rfl
          omega
        · show _ = _
          rw [← hEA, HEA.out, HBB.out, HT1.out, HT2.out, HT3.out, HT4.out, HT5.out, HT6.out, HT7.out, HT8.out, HT9.out, HT10.out, HT11.out, HT12.out, HT13.out, show ({ data := #[124] } : ByteArray) = strOfNums [124] from rfl, show ({ data := #[10] } : ByteArray) = strOfNums [10] from rfl]
          simp only [strOfNums_append]
          congr 1
          rw [HTK.out, linesText, linesText, flatL_snoc]
          simp [rowText, fld]
    · obtain rfl : q = n := by omega
      have hBT : B = strOfNums (bodyText k s i bb cs) := by
        rw [HBB.out, bodyText, ← HN.out, List.take_of_length_le (by rw [← HN.out]; omega)]
      have hbl : (bodyText k s i bb cs).length ≤ 100000000000000 := by
        have h1 := strOfNums_size (bodyText k s i bb cs)
        rw [← hBT] at h1
        omega
      have HBY := hide (body_bytes HF.out)
      have g4 : wr.cell? ⟨w.heap.size, 4, none⟩ = some (.slice a q cap) := cells_all ((HWr.out.block _ z1).trans HK1.out) 4
      have zr : w.heap.size < wr.heap.size := by have := HWr.out.size; omega
      have HWF : Hid (Below w.heap.size w wr) := HB1.out.trans (HWr.out.mono HB1.out.size)
      have HLE : Hid (fileText k s i bb cs = trailText (bodyText k s i bb cs) q) := by show _ = _; rw [fileText, ← HN.out]
      clear HBB hBz
      subst hBT
      go_wp2_with (go_at_call 152; refine (mclosed_calls wr (bodyText k s i bb cs) q ⟨by omega, by omega⟩ HBY.out hbl).mono ?_; rintro e w2 ⟨v, rfl, hv⟩; have HV := hide hv; clear hv)
      refine bodyPost_ret (v := .tuple #[v, .int .u32 (crc (bodyText k s i bb cs))]) (by simp [results, Tryz.results84]) rfl ?_
      refine ⟨v, rfl, ?_⟩
      rw [HLE.out]
      exact ⟨RArr.mono HV.out.at' (Same.refl _ _) (fun b hb => by have h1 : wr.heap.size ≤ b := hb; have h2 := HWF.out.size; show w.heap.size ≤ b; omega), HWF.out.trans (HV.out.bel.mono HWF.out.size)⟩
end Go.Proofs.Qxb6500666aGreatDoor
