/- ParseReport on rendered reports, with wide bounds. (Made by tools/mk_wide.py.) -/
import Derived.Test.Qxb6500666aGreatDoorRepP
import Derived.Test.Qxb6500666aGreatDoorNextY
namespace Go.Proofs.Qxb6500666aGreatDoor
open Go.RowKit
attribute [local go_sem] ext_const Ext.cell Ext.frozen Ext.rng Ext.whole
attribute [local go_sem ↓] exec_ldDiff exec_stDiff exec_bsDiff
attribute [local go_sem] run_ldDiff run_stDiff run_bsDiff diff_ones diffCs_ex diffCs_eq diffCs_size whole_alloc_lt whole_alloc_at whole_drew setRow_alloc_at setRow_alloc_lt rng_alloc_lt rng_alloc_at rng_drew rng_drewN

set_option maxRecDepth 100000 in
set_option maxHeartbeats 8000000 in
theorem parseReport_y (w : World) (b off n cap : Nat) (ea la : Int) (ds : List Diff) (hD : DataAt w b off n cap (repText ea la ds)) (hF : rpC ea la ds = 0) (hea : U32 ea) (hla : U32 la) (hok : ∀ d ∈ ds, d.Ok) (hlen : ds.length ≤ 1000000000) :
    Calls Tryz.prog 73 #[.slice (some ⟨b, off, none⟩) n cap] w fun e w' => ∃ v, e = .returned (.tuple #[.int .u32 ea, .int .u32 la, v, .nilIface]) ∧ OwnR w' w.heap.size 166 5 diffCs v ds ∧ Below w.heap.size w w' := by
  have HD := hide hD
  have HF := hide hF
  have Hea := hide hea
  have Hla := hide hla
  have Hok := hide hok
  have hvd : ∀ d ∈ ds, vdB d = true := by
    unfold rpC at hF
    split at hF
    · cases hF
    · split at hF
      · rename_i h; exact rpB_vd h
      · cases hF
  have HVD := hide hvd
  have hbw := hD.lt
  obtain ⟨m, hm⟩ : ∃ m, ds.length = m := ⟨_, rfl⟩
  have Hm := hide hm
  rw [hm] at hlen
  clear hD hF hea hla hok hm hvd
  go_enter Tryz.func73, Tryz.ntmps73
  go_upto_region 2 with fail
  have hb1 : Below w.heap.size w (w.alloc (.cells #[.slice (some ⟨b, off, none⟩) n cap, .int .i64 0, .int .i64 0] 224)) := (Below.refl _ _).alloc (Nat.le_refl _) _
  have hk1 : ReaderAt (w.alloc (.cells #[.slice (some ⟨b, off, none⟩) n cap, .int .i64 0, .int .i64 0] 224)) w.heap.size (.slice (some ⟨b, off, none⟩) n cap) (([] : List Int).length : Nat) 0 := by
    have := heap_alloc_at w (.cells #[.slice (some ⟨b, off, none⟩) n cap, .int .i64 0, .int .i64 0] 224)
    simpa [ReaderAt] using this
  have hz1 : (w.alloc (.cells #[.slice (some ⟨b, off, none⟩) n cap, .int .i64 0, .int .i64 0] 224)).heap.size = w.heap.size + 1 := by simp
  generalize w.alloc (.cells #[.slice (some ⟨b, off, none⟩) n cap, .int .i64 0, .int .i64 0] 224) = W1 at *
  have hD1 := HD.out.next (hb1.block _ hbw) hb1.size
  have hT0 : repText ea la ds = [] ++ (([72] ++ tailT (rhParts ea la m)) ++ 10 :: (flatL repLine ds ++ ([84] ++ fld m ++ fld (crc (repBody ea la ds)) ++ [10]))) := by
    simp only [repText, trailText, repBody, repHead_parts, Hm.out, List.append_assoc, List.nil_append, List.cons_append]
  go_upto_region 3 with (go_at_call 103; refine (next_liney W1 w.heap.size b off n cap _ [] _ 0 [72] (rhParts ea la m) 5 hk1 (by omega) hD1 hT0 (rhParts_ok _ _ _) rfl (by omega) (by omega)).mono ?_; rintro e w1 ⟨g, rfl, hgl, hFl, hR1, hB1, hS1⟩)
  have hT1 : [] ++ (([72] ++ tailT (rhParts ea la m)) ++ [10]) = repHead ea la m := by rw [repHead_parts]; simp
  rw [hT1] at hR1
  clear hT0 hT1 hk1
  go_upto_region 6 with (go_at_call 104; refine (expect_calls _ g b _ 0 72 hFl (by simp [rhParts]) (by simp [rhParts]) rfl).mono ?_; rintro e w2 ⟨rfl, hF2, hU2⟩)
  go_upto_region 7 with (go_at_call 104; refine (expect_calls _ g b _ 1 88 hF2 (by simp [rhParts]) (by simp [rhParts]) rfl).mono ?_; rintro e w3 ⟨rfl, hF3, hU3⟩)
  go_upto_region 8 with (first
    | (go_at_call 106; refine (id1_calls _ g b _ 2 ea hF3 (by simp [rhParts]) (by simp [rhParts]) rfl Hea.out).mono ?_; rintro e w4 ⟨rfl, hF4, hU4⟩)
    | (go_at_call 106; refine (id1_calls _ g b _ 3 la hF4 (by simp [rhParts]) (by simp [rhParts]) rfl Hla.out).mono ?_; rintro e w5 ⟨rfl, hF5, hU5⟩))
  go_upto_region 9 with (go_at_call 106; refine (id1_calls _ g b _ 4 m hF5 (by simp [rhParts]) (by simp [rhParts]) rfl ⟨by omega, by omega⟩).mono ?_; rintro e w8 ⟨rfl, hF8, hU8⟩)
  have hUU := (((hU2.trans hU3).trans hU4).trans hU5).trans hU8
  have hgl' : w.heap.size + 1 ≤ g := by omega
  have hP0 : RSt w w8 b off n cap ea la ds 0 none 0 := by
    refine ⟨?_, OwnR.nil _ _ _ _ _, hb1.trans (hB1.trans (hUU.below.mono (by omega))), by have := hUU.size; have := hB1.size; omega⟩
    have : ReaderAt w8 w.heap.size (.slice (some ⟨b, off, none⟩) n cap) (repHead ea la m).length (0 + 1) := (hUU.same _ (by omega)).trans hR1
    rw [Hm.out]
    simpa [flatL] using this
  obtain ⟨pv, vals, hg8, -, -, -, -, -⟩ := hF8
  obtain ⟨-, -, gc2, -, -⟩ := cell3 hg8
  clear hU2 hU3 hU4 hU5 hU8 hF2 hF3 hF4 hF5 hFl hUU hR1 hB1 hS1 hb1 hz1 hD1 hg8
  go_wp2
  go_loopg [2, 3, 4, 5, 9] m (fun gk x2 x3 dv x5 j W => ∃ (q : Nat) (a : Option Addr) (capq : Nat), q ≤ m ∧ gk = m - q ∧ x2 = .int .u32 ea ∧ x3 = .int .u32 la ∧ dv = .slice a q capq ∧ x5 = .nilIface ∧ j = .int .u32 q ∧ Hid (RSt w W b off n cap ea la ds q a capq))
  case atStart => exact ⟨0, none, 0, by omega, by omega, rfl, rfl, rfl, rfl, rfl, hP0⟩
  clear hP0
  case round =>
    obtain ⟨q, a, capq, hq, rfl, rfl, rfl, rfl, rfl, rfl, HP⟩ := hrel
    by_cases hlt : q < m
    · have hqs : q < ds.length := by rw [Hm.out]; exact hlt
      have hDq := HD.out.next (HP.out.blw.block b hbw) HP.out.blw.size
      have HT := hide (rep_at ea la ds q hqs)
      have HTn := hide (rep_next ea la ds q hqs)
      have HTk : Hid (ds.take (q + 1) = ds.take q ++ [ds[q]]) := List.take_succ_eq_append_getElem hqs
      have hO := hide (Hok.out _ (List.getElem_mem hqs))
      have hV := hide (HVD.out _ (List.getElem_mem hqs))
      generalize ds[q] = c at *
      have HDq := hide hDq
      clear hDq
      have hup := HP.out.up
      go_upto_region 15 with (go_at_call 103; refine (next_liney wr w.heap.size b off n cap _ _ _ (1 + (q : Int)) [c.action] (difParts c) 5 HP.out.rd (by omega) HDq.out HT.out (difParts_ok hV.out) rfl (by omega) (by omega)).mono ?_; rintro e v1 ⟨g, rfl, hgl, hF0, hR1, hB1, hS1⟩)
      rw [HTn.out] at hR1
      clear HDq HT HTn
      go_upto_region 17 with fail
      go_upto_region 18 with (first
        | (go_at_call 105; refine (letter1_calls _ g b _ 0 c.action hF0 (by simp [difParts]) (by simp [difParts]) rfl).mono ?_; rintro e v2 ⟨rfl, hF1, hU1⟩)
        | (go_at_call 106; refine (id1_calls _ g b _ 1 c.sample hF1 (by simp [difParts]) (by simp [difParts]) rfl hO.out.sample).mono ?_; rintro e v3 ⟨rfl, hF2, hU2⟩)
        | (go_at_call 106; refine (id1_calls _ g b _ 2 c.analyte hF2 (by simp [difParts]) (by simp [difParts]) rfl hO.out.analyte).mono ?_; rintro e v4 ⟨rfl, hF3, hU3⟩)
        | (go_at_call 106; refine (id1_calls _ g b _ 3 c.before hF3 (by simp [difParts]) (by simp [difParts]) rfl hO.out.before).mono ?_; rintro e v5 ⟨rfl, hF4, hU4⟩)
        | (go_at_call 106; refine (id1_calls _ g b _ 4 c.after hF4 (by simp [difParts]) (by simp [difParts]) rfl hO.out.after).mono ?_; rintro e v6 ⟨rfl, hF5, hU5⟩))
      have hUU := (((hU1.trans hU2).trans hU3).trans hU4).trans hU5
      obtain ⟨pv, vals, hg5, -, -, -, -, -⟩ := hF5
      obtain ⟨-, -, gc2, -, hgl5⟩ := cell3 hg5
      have hz5 := hUU.size
      have hzB := hB1.size
      have HR6 : Hid (ReaderAt v6 w.heap.size (.slice (some ⟨b, off, none⟩) n cap) (repHead ea la ds.length ++ flatL repLine (ds.take (q + 1))).length (1 + (q : Int) + 1)) := (hUU.same _ (by omega)).trans hR1
      have HO6 : Hid (OwnR v6 (w.heap.size + 1) 166 5 diffCs (.slice a q capq) (ds.take q)) := HP.out.own.mono fun x hx => by
        have := HP.out.own.block x hx
        rw [hUU.same _ (by omega)]
        exact hS1 x ⟨this.2, by omega⟩
      have HB6 : Hid (Below w.heap.size w v6) := HP.out.blw.trans (hB1.trans (hUU.below.mono (by omega)))
      have hup6 : w.heap.size + 1 ≤ v6.heap.size := by omega
      have HTL : Hid ((ds.take q).length = q) := by show (ds.take q).length = q; simp; rw [Hm.out]; omega
      clear hU1 hU2 hU3 hU4 hU5 hUU hF0 hF1 hF2 hF3 hF4 hR1 hB1 hS1 hg5 hz5 hzB HP hV hO hup
      have HO7 := hide (HO6.out.below (((Below.refl v6.heap.size v6).alloc (Nat.le_refl _) (.cells (diffCs c) 166)).alloc (by simp) (.cells (diffCs c) 166)) (Nat.le_refl _))
      have HB7 := hide (HB6.out.trans ((((Below.refl v6.heap.size v6).alloc (Nat.le_refl _) (.cells (diffCs c) 166)).alloc (by simp) (.cells (diffCs c) 166)).mono (by omega)))
      have HR7 : Hid (ReaderAt ((v6.alloc (.cells (diffCs c) 166)).alloc (.cells (diffCs c) 166)) w.heap.size (.slice (some ⟨b, off, none⟩) n cap) (repHead ea la ds.length ++ flatL repLine (ds.take (q + 1))).length (1 + (q : Int) + 1)) := by
        show ReaderAt _ _ _ _ _
        unfold ReaderAt
        rw [Below.heap_alloc _ _ _ (by simp; omega), Below.heap_alloc _ _ _ (by omega)]
        exact HR6.out
      have hrg : rng ((v6.alloc (.cells (diffCs c) 166)).alloc (.cells (diffCs c) 166)) (v6.heap.size + 1) 0 5 = some (diffCs c) := by
        have h1 := heap_alloc_at (v6.alloc (.cells (diffCs c) 166)) (.cells (diffCs c) 166)
        have h2 : (v6.alloc (.cells (diffCs c) 166)).heap.size = v6.heap.size + 1 := by simp
        rw [h2] at h1
        exact rng_whole h1
      have HRG := hide hrg
      clear hrg
      have hk1 : (q + 1) * 20 ≤ 140737488355328 := by omega
      go_wp2_with (at_builtin; (refine wpList_app1 (α := Diff) rfl _ _ 72 rfl (w.heap.size + 1) 166 diffCs Tryz.underlying72 Tryz.info166 rfl (by decide) diffCs_size diffCs_one (.slice a q capq) (ds.take q) rfl HO7.out _ rfl c HRG.out (by rw [HTL.out] <;> omega) (by rw [HTL.out] <;> (unfold maxLen; omega)) (by simp <;> omega) ?_); intro y1 w1 hown1 hsame1 hbel1 hat1; obtain ⟨a1, cap1, hv1⟩ := hown1.form; rw [List.length_append, HTL.out] at hv1; subst hv1)
      go_roundg (m - (q + 1))
      case measure => omega
      case rel =>
        refine ⟨q + 1, a1, cap1, by omega, rfl, rfl, rfl, rfl, rfl, by go_num, ?_, ?_, ?_, ?_⟩
        · unfold ReaderAt
          rw [hbel1.block _ (by omega)]
          have e2 : (1 + ((q + 1 : Nat) : Int)) = 1 + (q : Int) + 1 := by omega
          rw [e2]
          exact HR7.out
        · rw [HTk.out]
          exact hown1
        · exact HB7.out.trans (hbel1.mono (by omega))
        · have := hbel1.size
          simp at this
          omega
    · obtain rfl : q = m := by omega
      have hmt : ds.take q = ds := List.take_of_length_le (by rw [Hm.out]; omega)
      have hDq := HD.out.next (HP.out.blw.block b hbw) HP.out.blw.size
      have hrd := HP.out.rd
      have hown := HP.out.own
      rw [hmt] at hrd hown
      have hTx : repText ea la ds = trailText (repBody ea la ds) q := by rw [repText, repBody, Hm.out]
      have hup := HP.out.up
      go_upto_region 22 with (go_at_call 113; refine (rtrailer_y _ w.heap.size b off n cap _ (repBody ea la ds) (1 + (q : Int)) q hrd (by omega) hDq hTx ⟨by omega, by omega⟩ ⟨by omega, by omega⟩).mono ?_; rintro e w2 ⟨rfl, hb2, hs2⟩)
      have HO2 : Hid (OwnR w2 (w.heap.size + 1) 166 5 diffCs (.slice a q capq) ds) := hown.mono fun x hx => by
        have := hown.block x hx
        exact hs2 x ⟨this.2, by omega⟩
      have HB2 : Hid (Below w.heap.size w w2) := HP.out.blw.trans hb2
      have hcf := checkReport_calls w2 _ ea la a q capq ds (HO2.out.rows diffCs_size (by decide) (by rw [Hm.out]; omega))
      rw [HF.out] at hcf
      have Hcf := hide hcf
      clear hcf hrd hown hDq hTx hb2 hs2 HP
      go_upto_region 26 with (go_at_call 124; refine Hcf.out.mono ?_; rintro e w3 ⟨rfl, hb3⟩; simp only [errV, if_true])
      have HB3 : Hid (Below w.heap.size w w3) := HB2.out.trans (hb3.mono HB2.out.size)
      have HO3 : Hid (OwnR w3 w.heap.size 166 5 diffCs (.slice a q capq) ds) := (HO2.out.below hb3 (Nat.le_refl _)).base_mono (by omega)
      clear Hcf hb3 HO2 HB2
      go_wp2
      refine bodyPost_ret (v := .tuple #[.int .u32 ea, .int .u32 la, .slice a q capq, .nilIface]) (by simp [results, Tryz.results73]) rfl ?_
      exact ⟨_, rfl, HO3.out, HB3.out⟩

end Go.Proofs.Qxb6500666aGreatDoor
