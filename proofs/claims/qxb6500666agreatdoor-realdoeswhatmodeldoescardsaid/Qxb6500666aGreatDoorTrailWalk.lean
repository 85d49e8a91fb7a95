/- The reader's trailer, walked where it parses. -/
import Derived.Test.Qxb6500666aGreatDoorFieldsWalk
namespace Go.Proofs.Qxb6500666aGreatDoor
open Go.RowKit
attribute [local go_sem ↓] exec_ldRow exec_ldChange exec_ldFile exec_stRow exec_stChange exec_stFile exec_bsRow exec_bsChange exec_slRows exec_bdChange exec_eqlRow exec_neqRow
attribute [local go_sem] run_ldRow run_ldChange run_ldFile run_stRow run_stChange run_stFile run_bsRow run_bsChange run_bdChange run_neqRow run_eqlRow rng_alloc_lt rng_alloc_at rng_drew rng_drewN rng_setCell_other rng_setRow_other whole_alloc_lt whole_alloc_at whole_drew whole_setCell_other whole_setRow_other setRow_alloc_at setRow_alloc_lt setRow_drew rowCs_size rowCs_ones rowCs_0 rowCs_1 rowCs_2 rowCs_3 rowCs_4 rowCs_5 rowCs_6 rowCs_7 rowCs_8 rowCs_9 rowCs_10 rowCs_11 rowCs_12 rowCs_all changeCs_size changeCs_ones changeCs_0 changeCs_row changeCs_all fileCs_size fileCs_ones fileCs_0 fileCs_1 fileCs_2 fileCs_3 fileCs_4 fileCs_all ext_const Ext.cell Ext.frozen Ext.rng Ext.whole

/-- The text that Parse reads, where it lies. -/
structure DataAt (w : World) (b off n cap : Nat) (data : List Int) : Prop where
  lt : b < w.heap.size
  cap : n ≤ cap ∧ cap ≤ maxLen
  len : data.length = n
  le : n ≤ 140737488355328
  cell : ∀ t (h : t < data.length), w.cell? ⟨b, off + t, none⟩ = some (.int .u8 data[t])

theorem DataAt.next {w w' : World} {b off n cap : Nat} {data : List Int} (h : DataAt w b off n cap data) (hs : w'.heap[b]? = w.heap[b]?) (hz : w.heap.size ≤ w'.heap.size) : DataAt w' b off n cap data :=
  ⟨Nat.lt_of_lt_of_le h.lt hz, h.cap, h.len, h.le, fun t ht => by rw [World.cell?_of_block (w := w) hs]; exact h.cell t ht⟩

theorem run_slUpto (w : World) (b off n cap hi : Nat) (h2 : hi ≤ cap) (h3 : 0 < cap) :
    (Instr.sliceAt 55 (.slice (some ⟨b, off, none⟩) n cap) none (some (.int .i64 (hi : Int))) none).run Tryz.prog w = .ok (.slice (some ⟨b, off, none⟩) hi cap) w := by
  simp [Instr.sliceAt, Instr.slice, run_underlying Tryz.underlying55, Instr.sliceBounds, Instr.sliceBound, asIntOf, h2, Nat.ne_of_gt h3]
  simp [Addr.add_lit]

/-- A line of the text: next, said for it. -/
theorem next_line (w : World) (R b off n cap : Nat) (data pre rest : List Int) (ln : Int) (p0 : List Int) (ps : List (List Int)) (want : Nat) (hR : ReaderAt w R (.slice (some ⟨b, off, none⟩) n cap) pre.length ln) (hbR : b ≠ R) (hD : DataAt w b off n cap data)
    (hdata : data = pre ++ ((p0 ++ tailT ps) ++ 10 :: rest)) (hps : ∀ p ∈ p0 :: ps, PartOk p) (hw : ps.length + 1 = want) (hw2 : want ≤ 100) (hln : 0 ≤ ln ∧ ln ≤ 1000000) :
    Calls Tryz.prog 103 #[.pointer (some ⟨R, 0, none⟩), .int .i64 want] w fun e w' => ∃ g, e = .returned (.tuple #[.pointer (some ⟨g, 0, none⟩), .nilIface]) ∧ w.heap.size ≤ g ∧ FieldsAt w' g b (p0 :: ps) 0 0 ∧ ReaderAt w' R (.slice (some ⟨b, off, none⟩) n cap) (pre ++ ((p0 ++ tailT ps) ++ [10])).length (ln + 1) ∧ Below R w w' ∧ Same (fun k => k < w.heap.size ∧ k ≠ R) w w' := by
  refine (next_calls w R n cap b off data pre (p0 ++ tailT ps) rest ln p0 ps want hR hbR hD.cap hD.lt hD.cell hD.len hD.le hdata rfl hps hw hw2 hln).mono fun e w' ⟨g, h1, h2, h3, h4, h5, h6⟩ => ⟨g, h1, h2, h3, ?_, h5, h6⟩
  have e1 : (((pre ++ ((p0 ++ tailT ps) ++ [10])).length : Nat) : Int) = pre.length + ((p0 ++ tailT ps).length : Int) + 1 := by simp; omega
  rw [e1]
  exact h4

set_option maxRecDepth 100000 in
set_option maxHeartbeats 2000000 in
theorem rtrailer_calls (w : World) (R b off n cap : Nat) (data pre : List Int) (ln cnt : Int) (hR : ReaderAt w R (.slice (some ⟨b, off, none⟩) n cap) pre.length ln) (hbR : b ≠ R) (hD : DataAt w b off n cap data)
    (hdata : data = trailText pre cnt) (hcnt : U32 cnt) (hln : 0 ≤ ln ∧ ln ≤ 1000000) :
    Calls Tryz.prog 113 #[.pointer (some ⟨R, 0, none⟩), .int .u32 cnt] w fun e w' => e = .returned .nilIface ∧ Below R w w' ∧ Same (fun k => k < w.heap.size ∧ k ≠ R) w w' := by
  have hdd : data = pre ++ (([84] ++ tailT [dec cnt, dec (crc pre)]) ++ 10 :: []) := by rw [hdata]; simp [trailText, fld, tailT]
  have hPs : ∀ p ∈ [84] :: [dec cnt, dec (crc pre)], PartOk p := fun p hp => by
    have hdec : ∀ x, PartOk (dec x) := fun x => ⟨fun h => by have := dec_pos x; rw [h] at this; simp at this, fun c hc => by have := dec_range x c hc; omega⟩
    simp only [List.mem_cons, List.not_mem_nil, or_false] at hp
    rcases hp with rfl | rfl | rfl
    · exact ⟨by simp, by simp⟩
    · exact hdec _
    · exact hdec _
  have hcr : U32 (crc pre) := ⟨crc_lo pre, crc_hi pre⟩
  have hPl : pre.length ≤ n := by rw [← hD.len, hdd]; simp
  have hnn : 0 < n := by rw [← hD.len, hdd]; simp; omega
  have hfull : ((pre ++ (([84] ++ tailT [dec cnt, dec (crc pre)]) ++ [10])).length : Nat) = n := by rw [← hD.len, hdd]
  have hbody : BytesAt w (fun k => k = b) (.slice (some ⟨b, off, none⟩) pre.length cap) pre := by
    refine ⟨_, cap, b, off, rfl, by have := hD.cap.1; omega, ⟨hD.cap.2, fun h => by cases h⟩, by have := hD.le; omega, fun _ => ⟨rfl, rfl⟩, fun i hi => ?_⟩
    have h1 := hD.cell i (by rw [hD.len]; omega)
    have h2 : data[i]'(by rw [hD.len]; omega) = pre[i] := by subst hdata; simp [trailText, hi, List.getElem_append_left]
    rw [h2] at h1
    have := rng_one h1
    simpa [byteCs] using this
  obtain ⟨r0, r1, r2, rf, hRl⟩ := cell3 hR
  have hsl := fun W => run_slUpto W b off n cap pre.length (by have := hD.cap.1; omega) (by have := hD.cap.1; omega)
  have HD := hide hD
  have HR := hide hR
  have Hdd := hide hdd
  have HPs := hide hPs
  have HBy := hide hbody
  have Hfull := hide hfull
  have HC := hide hcr
  have Hcnt := hide hcnt
  obtain ⟨P, hP⟩ : ∃ P, pre.length = P := ⟨_, rfl⟩
  rw [hP] at r1 hsl
  have HP := hide hP
  clear hD hR hdata hdd hPs hbody hfull hcr hcnt hP hPl hnn
  go_enter Tryz.func113, Tryz.ntmps113
  go_upto_region 1 with fail
  go_region
  clear r0 r1 r2 rf hsl
  go_upto_region 3 with (go_at_call 103; refine (next_line w.drew R b off n cap data pre [] ln [84] [dec cnt, dec (crc pre)] 3 HR.out hbR (HD.out.next rfl (Nat.le_refl _)) Hdd.out HPs.out rfl (by omega) hln).mono ?_; rintro e w1 ⟨g, rfl, hgl, hF, hR1, hb1, hs1⟩)
  rw [Hfull.out] at hR1
  have hgR : R ≠ g := by
    have : w.drew.heap.size = w.heap.size := rfl
    omega
  have hgb : b ≠ g := by
    have := HD.out.lt
    have : w.drew.heap.size = w.heap.size := rfl
    omega
  go_upto_region 6 with (go_at_call 104; refine (expect_calls _ g b _ 0 84 hF (by simp) (by simp) rfl).mono ?_; rintro e w2 ⟨rfl, hF2, hU2⟩)
  go_upto_region 7 with (first
    | (go_at_call 106; refine (id1_calls _ g b _ 1 cnt hF2 (by simp) (by simp) rfl Hcnt.out).mono ?_; rintro e w3 ⟨rfl, hF3, hU3⟩)
    | (go_at_call 106; refine (id1_calls _ g b _ 2 (crc pre) hF3 (by simp) (by simp) rfl HC.out).mono ?_; rintro e w4 ⟨rfl, hF4, hU4⟩))
  have hU := (hU2.trans hU3).trans hU4
  have hR4 : ReaderAt w4 R (.slice (some ⟨b, off, none⟩) n cap) n (ln + 1) := (hU.same R hgR).trans hR1
  obtain ⟨pv, vals, hg4, -, -, -, -, -⟩ := hF4
  obtain ⟨g0, g1, g2, gf, hgl4⟩ := cell3 hg4
  obtain ⟨r0, r1, r2, rf, hRl4⟩ := cell3 hR4
  go_upto_region 9 with fail
  go_region
  have hz : w.drew.heap.size = w.heap.size := rfl
  have hby4 : BytesAt w4.drew (fun _ => True) (.slice (some ⟨b, off, none⟩) pre.length cap) pre := by
    have hk : w4.heap[b]? = w.heap[b]? := (hU.same b hgb).trans (hs1 b ⟨HD.out.lt, hbR⟩)
    exact RArr.mono HBy.out (fun k hk' => by rw [hk']; exact hk) (fun _ _ => trivial)
  rw [HP.out] at hby4
  go_wp2_with (go_at_call 46; refine (checksum_calls _ _ _ pre hby4).mono ?_; rintro e w5 ⟨rfl, rfl⟩)
  go_ret
  exact ⟨rfl, ((Below.refl R w).drew.trans (hb1.trans (hU.below.mono (by omega)))).drew, fun k hk => (hU.same k (by omega)).trans (hs1 k hk)⟩

end Go.Proofs.Qxb6500666aGreatDoor
