/- Parse on rendered texts: the lines lie in new memory. (Made by tools/mk_prsw.py out of t/ParseWalk.) -/
import Derived.Test.Qxb6500666aGreatDoorParseWalk
import Derived.Test.Qxb6500666aGreatDoorParseParts
namespace Go.Proofs.Qxb6500666aGreatDoor
open Go.RowKit
attribute [local go_sem ↓] exec_ldRow exec_ldChange exec_ldFile exec_stRow exec_stChange exec_stFile exec_bsRow exec_bsChange exec_slRows exec_bdChange exec_eqlRow exec_neqRow
attribute [local go_sem] run_ldRow run_ldChange run_ldFile run_stRow run_stChange run_stFile run_bsRow run_bsChange run_bdChange run_neqRow run_eqlRow rng_alloc_lt rng_alloc_at rng_drew rng_drewN rng_setCell_other rng_setRow_other whole_alloc_lt whole_alloc_at whole_drew whole_setCell_other whole_setRow_other setRow_alloc_at setRow_alloc_lt setRow_drew rowCs_size rowCs_ones rowCs_0 rowCs_1 rowCs_2 rowCs_3 rowCs_4 rowCs_5 rowCs_6 rowCs_7 rowCs_8 rowCs_9 rowCs_10 rowCs_11 rowCs_12 rowCs_all changeCs_size changeCs_ones changeCs_0 changeCs_row changeCs_all fileCs_size fileCs_ones fileCs_0 fileCs_1 fileCs_2 fileCs_3 fileCs_4 fileCs_all ext_const Ext.cell Ext.frozen Ext.rng Ext.whole
attribute [local go_sem] file_ones change_ones

set_option maxRecDepth 100000 in
set_option maxHeartbeats 8000000 in
theorem parse_new (w : World) (b off n cap : Nat) (k s i bb : Int) (cs : List Change) (hD : DataAt w b off n cap (fileText k s i bb cs)) (hF : FileOk k s i bb cs) (hk : U8 k) (hs : U32 s) (hi : I64 i) (hb : U32 bb) (hok : ∀ c ∈ cs, c.Ok) (hlen : cs.length ≤ 65536) :
    Calls Tryz.prog 33 #[.slice (some ⟨b, off, none⟩) n cap] w fun e w' => ∃ a cap', e = .returned (.tuple #[.agg (fileCs k s i bb a cs.length cap'), .nilIface]) ∧ ChangesAt w' (w.heap.size ≤ ·) (.slice a cs.length cap') cs ∧ Below w.heap.size w w' := by
  have HD := hide hD
  have HF := hide hF
  have Hs := hide hs
  have Hi := hide hi
  have Hbb := hide hb
  have Hok := hide hok
  have hbw := hD.lt
  obtain ⟨m, hm⟩ : ∃ m, cs.length = m := ⟨_, rfl⟩
  have Hm := hide hm
  rw [hm] at hlen ⊢
  clear hD hF hs hi hb hok hm
  go_enter Tryz.func33, Tryz.ntmps33
  go_upto_region 2 with fail
  obtain ⟨G, hG⟩ : ∃ G, w.heap.size = G := ⟨_, rfl⟩
  have hb1 := below2 w (.cells #[.int .u8 0, .int .u32 0, .int .i64 0, .int .u32 0, .slice none 0 0] 59) (.cells #[.slice (some ⟨b, off, none⟩) n cap, .int .i64 0, .int .i64 0] 224)
  have hk0 : ((w.alloc (.cells #[.int .u8 0, .int .u32 0, .int .i64 0, .int .u32 0, .slice none 0 0] 59)).alloc (.cells #[.slice (some ⟨b, off, none⟩) n cap, .int .i64 0, .int .i64 0] 224)).heap[w.heap.size]? = some (.cells #[.int .u8 0, .int .u32 0, .int .i64 0, .int .u32 0, .slice none 0 0] 59 (0, 0)) := by rw [Below.heap_alloc _ _ _ (by simp), heap_alloc_at]
  have hk1 : ReaderAt ((w.alloc (.cells #[.int .u8 0, .int .u32 0, .int .i64 0, .int .u32 0, .slice none 0 0] 59)).alloc (.cells #[.slice (some ⟨b, off, none⟩) n cap, .int .i64 0, .int .i64 0] 224)) (w.heap.size + 1) (.slice (some ⟨b, off, none⟩) n cap) (([] : List Int).length : Nat) 0 := by
    have := heap_alloc_at (w.alloc (.cells #[.int .u8 0, .int .u32 0, .int .i64 0, .int .u32 0, .slice none 0 0] 59)) (.cells #[.slice (some ⟨b, off, none⟩) n cap, .int .i64 0, .int .i64 0] 224)
    simpa [ReaderAt] using this
  have hz1 : ((w.alloc (.cells #[.int .u8 0, .int .u32 0, .int .i64 0, .int .u32 0, .slice none 0 0] 59)).alloc (.cells #[.slice (some ⟨b, off, none⟩) n cap, .int .i64 0, .int .i64 0] 224)).heap.size = w.heap.size + 2 := by simp
  generalize (w.alloc (.cells #[.int .u8 0, .int .u32 0, .int .i64 0, .int .u32 0, .slice none 0 0] 59)).alloc (.cells #[.slice (some ⟨b, off, none⟩) n cap, .int .i64 0, .int .i64 0] 224) = W1 at *
  have hD1 := HD.out.next (hb1.block _ hbw) hb1.size
  rw [hG] at hb1 hk0 hk1 hz1 hbw ⊢
  have HG := hide hG
  clear hG
  have hT0 : fileText k s i bb cs = [] ++ (([72] ++ tailT (headParts k s i bb m)) ++ 10 :: (linesText cs ++ ([84] ++ fld m ++ fld (crc (bodyText k s i bb cs)) ++ [10]))) := by
    simp only [fileText, trailText, bodyText, headText_parts, Hm.out, List.append_assoc, List.nil_append, List.cons_append]
  go_upto_region 3 with (go_at_call 103; refine (next_line W1 (G + 1) b off n cap _ [] _ 0 [72] (headParts k s i bb m) 6 hk1 (by omega) hD1 hT0 (headParts_ok HF.out.1) rfl (by omega) (by omega)).mono ?_; rintro e w1 ⟨g, rfl, hgl, hFl, hR1, hB1, hS1⟩)
  have hT1 : [] ++ (([72] ++ tailT (headParts k s i bb m)) ++ [10]) = headText k s i bb m := by rw [headText_parts]; simp
  rw [hT1] at hR1
  clear hT0 hT1 hk1
  go_upto_region 6 with (go_at_call 104; refine (expect_calls _ g b _ 0 72 hFl (by simp [headParts]) (by simp [headParts]) rfl).mono ?_; rintro e w2 ⟨rfl, hF2, hU2⟩)
  go_upto_region 7 with (first
    | (go_at_call 105; refine (letter1_calls _ g b _ 1 k hF2 (by simp [headParts]) (by simp [headParts]) rfl).mono ?_; rintro e w3 ⟨rfl, hF3, hU3⟩)
    | (go_at_call 106; refine (id1_calls _ g b _ 2 s hF3 (by simp [headParts]) (by simp [headParts]) rfl Hs.out).mono ?_; rintro e w4 ⟨rfl, hF4, hU4⟩)
    | (go_at_call 107; refine (any1_calls _ g b _ 3 i hF4 (by simp [headParts]) (by simp [headParts]) rfl Hi.out).mono ?_; rintro e w5 ⟨rfl, hF5, hU5⟩)
    | (go_at_call 106; refine (id1_calls _ g b _ 4 bb hF5 (by simp [headParts]) (by simp [headParts]) rfl Hbb.out).mono ?_; rintro e w6 ⟨rfl, hF6, hU6⟩))
  have hU6 := (((hU2.trans hU3).trans hU4).trans hU5).trans hU6
  clear hU2 hU3 hU4 hU5 hF2 hF3 hF4 hF5 hFl
  have hgl' : G + 2 ≤ g := by omega
  have hF7 : FieldsAt (w6.alloc (.cells (fileCs k s i bb none 0 0) 59)) g b ([72] :: headParts k s i bb m) ((5 : Nat) : Int) 0 := hF6.grow (fun k hk => Below.heap_alloc _ _ _ hk) (by simp)
  have hz6 : w1.heap.size = w6.heap.size := hU6.size.symm
  have hg6 : g < w6.heap.size := by
    obtain ⟨pv, vals, hg, _⟩ := hF6
    exact (Array.getElem?_eq_some_iff.1 hg).1
  have hk7 : (w6.alloc (.cells (fileCs k s i bb none 0 0) 59)).heap[w6.heap.size]? = some (.cells (fileCs k s i bb none 0 0) 59 (0, 0)) := heap_alloc_at _ _
  have hb7 : Below G w (w6.alloc (.cells (fileCs k s i bb none 0 0) 59)) := (hb1.trans ((hB1.mono (by omega)).trans (hU6.below.mono (by omega)))).alloc (by omega) _
  have hr7 : ReaderAt (w6.alloc (.cells (fileCs k s i bb none 0 0) 59)) (G + 1) (.slice (some ⟨b, off, none⟩) n cap) (headText k s i bb m).length (0 + 1) := by
    unfold ReaderAt
    rw [Below.heap_alloc _ _ _ (by omega), hU6.same _ (by omega)]
    exact hR1
  have hg7 : (w6.alloc (.cells (fileCs k s i bb none 0 0) 59)).heap[G]? = some (.cells #[.int .u8 0, .int .u32 0, .int .i64 0, .int .u32 0, .slice none 0 0] 59 (0, 0)) := by
    rw [Below.heap_alloc _ _ _ (by omega), hU6.same _ (by omega), hS1 _ ⟨by omega, by omega⟩]
    exact hk0
  change Code.wp _ _ _ _ (w6.alloc (.cells (fileCs k s i bb none 0 0) 59))
  generalize w6.alloc (.cells (fileCs k s i bb none 0 0) 59) = W7 at *
  generalize w6.heap.size = F at *
  have hGF0 : G + 2 ≤ F := by omega
  clear hF6 hU6 hR1 hB1 hS1 hk0 hb1 hz1 hD1 hz6
  go_upto_region 8 with (go_at_call 106; refine (id1_calls _ g b _ 5 m hF7 (by simp [headParts]) (by simp [headParts]) rfl ⟨by omega, by omega⟩).mono ?_; rintro e w8 ⟨rfl, hF8, hU8⟩)
  have hP0 : PSt w w8 G F b off n cap k s i bb cs m 0 none 0 := by
    refine ⟨?_, (hU8.same _ (by omega)).trans hk7, OwnR.nil _ _ _ _ _, (hU8.same _ (by omega)).trans hg7, hb7.trans (hU8.below.mono (by omega))⟩
    have : ReaderAt w8 (G + 1) (.slice (some ⟨b, off, none⟩) n cap) (headText k s i bb m).length (0 + 1) := (hU8.same _ (by omega)).trans hr7
    simpa [linesText, flatL] using this
  obtain ⟨pv, vals, hg8, -, -, -, -, -⟩ := hF8
  obtain ⟨-, -, gc2, -, -⟩ := cell3 hg8
  have f0 : w8.cell? ⟨F, 0, none⟩ = some (.int .u8 k) := cells_all hP0.fl 0
  clear hF7 hU8 hk7 hb7 hr7 hg7 hg8
  go_upto_region 10 with fail
  go_cut [54] (fun t W => t = .bool false ∧ w8 = W)
  case first =>
    have hbig := HF.out.2.2.1
    rw [Hm.out] at hbig
    by_cases t1 : k = 73
    · have t2 : decide ((20 : Int) < m) = false := by simp; omega
      subst t1
      go_wp2
      go_meet
      case rel => exact ⟨by first | rfl | rw [t2], rfl⟩
    · have t1' : (k == 73) = false := by simpa using t1
      clear t1
      go_wp2
      go_meet
      case rel => exact ⟨rfl, rfl⟩
  case rest =>
  obtain ⟨rfl, rfl⟩ := hcut
  clear f0 gc2
  go_wp2
  go_loopg [9] m (fun gk j W => ∃ (q : Nat) (a : Option Addr) (capq : Nat), q ≤ m ∧ gk = m - q ∧ j = .int .u32 q ∧ PSt w W G F b off n cap k s i bb cs m q a capq)
  case atStart => exact ⟨0, none, 0, by omega, by omega, rfl, hP0⟩
  case round =>
    obtain ⟨q, a, capq, hq, rfl, rfl, hP⟩ := hrel
    by_cases hlt : q < m
    · have hqs : q < cs.length := by rw [Hm.out]; exact hlt
      have hDq := HD.out.next (hP.blw.block b hbw) hP.blw.size
      have HT := hide (text_at k s i bb cs m q Hm.out hqs)
      have HTn := hide (text_next k s i bb cs m q hqs)
      obtain ⟨hAct, hRow, hPrev⟩ := HF.out.2.2.2 q hqs
      have hcO := Hok.out _ (List.getElem_mem hqs)
      have HTk : Hid (cs.take (q + 1) = cs.take q ++ [cs[q]]) := List.take_succ_eq_append_getElem hqs
      generalize cs[q] = c at *
      have hrO := hide hcO.row
      have HAct := hide hAct
      have HRow := hide hRow
      have HPrev := hide hPrev
      have HP := hide hP
      have HDq := hide hDq
      clear hAct hRow hPrev hcO hP hDq
      have hGF : G + 1 < wr.heap.size := (cell3 HP.out.rd).2.2.2.2
      have hFl : F < wr.heap.size := (Array.getElem?_eq_some_iff.1 HP.out.fl).1
      go_upto_region 16 with (go_at_call 103; refine (next_line wr (G + 1) b off n cap _ _ _ (1 + (q : Int)) [c.action] (rowParts c.row) 14 HP.out.rd (by omega) HDq.out HT.out (rowParts_ok HAct.out) rfl (by omega) (by omega)).mono ?_; rintro e v1 ⟨g, rfl, hgl, hF0, hR1, hB1, hS1⟩)
      rw [HTn.out] at hR1
      clear HDq HT HTn
      go_upto_region 18 with fail
      go_upto_region 19 with (go_at_call 105; refine (letter1_calls _ g b _ 0 c.action hF0 (by simp [rowParts]) (by simp [rowParts]) rfl).mono ?_; rintro e v2 ⟨rfl, hF1', hU1⟩)
      have hF1 : FieldsAt (v2.alloc (.cells (changeCs ⟨c.action, zeroRow⟩) 111)) g b ([c.action] :: rowParts c.row) ((1 : Nat) : Int) 0 := hF1'.grow (fun k hk => Below.heap_alloc _ _ _ hk) (by simp)
      have hkC : (v2.alloc (.cells (changeCs ⟨c.action, zeroRow⟩) 111)).heap[v2.heap.size]? = some (.cells (changeCs ⟨c.action, zeroRow⟩) 111 (0, 0)) := heap_alloc_at _ _
      have hgv : g < v2.heap.size := by
        obtain ⟨pv, vals, hg, _⟩ := hF1'
        exact (Array.getElem?_eq_some_iff.1 hg).1
      have hB3 : Below (G + 1) wr (v2.alloc (.cells (changeCs ⟨c.action, zeroRow⟩) 111)) := (hB1.trans (hU1.below.mono (by omega))).alloc (by omega) _
      have hS3 : Same (fun k => k < wr.heap.size ∧ k ≠ G + 1) wr (v2.alloc (.cells (changeCs ⟨c.action, zeroRow⟩) 111)) := fun k hk => by
        have hz := hU1.size
        have hz1 := hB1.size
        rw [Below.heap_alloc _ _ _ (by have := hk.1; omega), hU1.same _ (by have := hk.1; omega)]
        exact hS1 k hk
      have hR3 : ReaderAt (v2.alloc (.cells (changeCs ⟨c.action, zeroRow⟩) 111)) (G + 1) (.slice (some ⟨b, off, none⟩) n cap) (headText k s i bb m ++ linesText (cs.take (q + 1))).length (1 + (q : Int) + 1) := by
        unfold ReaderAt
        rw [Below.heap_alloc _ _ _ (by omega), hU1.same _ (by omega)]
        exact hR1
      have hCw : wr.heap.size ≤ v2.heap.size := by have := hU1.size; have := hB1.size; omega
      change Code.wp _ _ _ _ (v2.alloc (.cells (changeCs ⟨c.action, zeroRow⟩) 111))
      generalize v2.alloc (.cells (changeCs ⟨c.action, zeroRow⟩) 111) = v3 at *
      generalize v2.heap.size = C at *
      clear hF0 hF1' hU1 hB1 hS1 hR1
      have hCg : C ≠ g := by omega
      obtain ⟨r, hr⟩ : ∃ r, c.row = r := ⟨_, rfl⟩
      have Hr := hide hr
      rw [hr] at hF1 hrO HRow HPrev
      clear hr
      have hcl1 : 0 ≤ r.cls := hrO.out.cls.1
      have hcl2 : r.cls ≤ 255 := hrO.out.cls.2
      go_upto_region 20 with (first
        | (go_at_call 106; refine (id1_calls _ g b _ 1 r.sample hF1 (by simp [rowParts]) (by simp [rowParts]) rfl hrO.out.sample).mono ?_; rintro e v3 ⟨rfl, hF2, hU2⟩)
        | (go_at_call 106; refine (id1_calls _ g b _ 2 r.analyte hF2 (by simp [rowParts]) (by simp [rowParts]) rfl hrO.out.analyte).mono ?_; rintro e v4 ⟨rfl, hF3, hU3⟩)
        | (go_at_call 106; refine (id1_calls _ g b _ 3 r.version hF3 (by simp [rowParts]) (by simp [rowParts]) rfl hrO.out.version).mono ?_; rintro e v5 ⟨rfl, hF4, hU4⟩)
        | (go_at_call 107; refine (any1_calls _ g b _ 4 r.value hF4 (by simp [rowParts]) (by simp [rowParts]) rfl hrO.out.value).mono ?_; rintro e v6 ⟨rfl, hF5, hU5⟩)
        | (go_at_call 106; refine (id1_calls _ g b _ 5 r.subject hF5 (by simp [rowParts]) (by simp [rowParts]) rfl hrO.out.subject).mono ?_; rintro e v7 ⟨rfl, hF6, hU6⟩)
        | (go_at_call 106; refine (id1_calls _ g b _ 6 r.site hF6 (by simp [rowParts]) (by simp [rowParts]) rfl hrO.out.site).mono ?_; rintro e v8 ⟨rfl, hF7, hU7⟩)
        | (go_at_call 106; refine (id1_calls _ g b _ 7 r.visit hF7 (by simp [rowParts]) (by simp [rowParts]) rfl hrO.out.visit).mono ?_; rintro e v9 ⟨rfl, hF8, hU8⟩)
        | (go_at_call 106; refine (id1_calls _ g b _ 8 r.proto hF8 (by simp [rowParts]) (by simp [rowParts]) rfl hrO.out.proto).mono ?_; rintro e v10 ⟨rfl, hF9, hU9⟩)
        | (go_at_call 106; refine (id1_calls _ g b _ 9 r.kit hF9 (by simp [rowParts]) (by simp [rowParts]) rfl hrO.out.kit).mono ?_; rintro e v11 ⟨rfl, hF10, hU10⟩)
        | (go_at_call 109; refine (number1_calls _ g b _ 10 r.cls 0 255 hF10 (by simp [rowParts]) (by simp [rowParts]) rfl hrO.out.cls.i64 hcl1 hcl2).mono ?_; rintro e v12 ⟨rfl, hF11, hU11⟩)
        | (go_at_call 107; refine (any1_calls _ g b _ 11 r.collected hF11 (by simp [rowParts]) (by simp [rowParts]) rfl hrO.out.collected).mono ?_; rintro e v13 ⟨rfl, hF12, hU12⟩)
        | (go_at_call 107; refine (any1_calls _ g b _ 12 r.received hF12 (by simp [rowParts]) (by simp [rowParts]) rfl hrO.out.received).mono ?_; rintro e v14 ⟨rfl, hF13, hU13⟩)
        | (go_at_call 107; refine (any1_calls _ g b _ 13 r.tested hF13 (by simp [rowParts]) (by simp [rowParts]) rfl hrO.out.tested).mono ?_; rintro e v15 ⟨rfl, hF14, hU14⟩; have hUU := ((((((((((((hU2.trans hU3).trans hU4).trans hU5).trans hU6).trans hU7).trans hU8).trans hU9).trans hU10).trans hU11).trans hU12).trans hU13).trans hU14); have hkV := (hUU.same C hCg).trans hkC; have hst := run_stRow1 _ C c.action zeroRow r hkV; simp only [rowCs] at hst))
      have hcr : (⟨c.action, r⟩ : Change) = c := by rw [← Hr.out]
      rw [hcr]
      have hF15 : FieldsAt v15 g b ([c.action] :: rowParts r) ((14 : Nat) : Int) 0 := hF14
      obtain ⟨pv, vals, hg15, -, -, -, -, -⟩ := hF15
      have hzV := hUU.size
      have hz3 := hB3.size
      have hkV' : (v15.setRow C (changeCs c)).heap[C]? = some (.cells (changeCs c) 111 (0, 0)) := heap_setRow_at hkV
      have hgV : (v15.setRow C (changeCs c)).cell? ⟨g, 2, none⟩ = some (.int .u8 0) := by
        have h1 := (cell3 hg15).2.2.1
        rw [World.cell?_of_block (w := v15) (setRow_other _ _ _ _ (fun e => hCg e.symm))]; exact h1
      have hBV : Below (G + 1) wr (v15.setRow C (changeCs c)) := (hB3.trans (hUU.below.mono (by omega))).trans ⟨rfl, rfl, rfl, by simp, fun k hk => setRow_other _ _ _ _ (by omega)⟩
      have hSV : Same (fun k => k < wr.heap.size ∧ k ≠ G + 1) wr (v15.setRow C (changeCs c)) := fun k hk => by
        rw [setRow_other _ _ _ _ (by have := hk.1; omega), hUU.same _ (by have := hk.1; omega)]
        exact hS3 k hk
      have hRV : ReaderAt (v15.setRow C (changeCs c)) (G + 1) (.slice (some ⟨b, off, none⟩) n cap) (headText k s i bb m ++ linesText (cs.take (q + 1))).length (1 + (q : Int) + 1) := by
        unfold ReaderAt
        rw [setRow_other _ _ _ _ (by omega), hUU.same _ (by omega)]
        exact hR3
      have hCV : C < (v15.setRow C (changeCs c)).heap.size := (Array.getElem?_eq_some_iff.1 hkV').1
      generalize v15.setRow C (changeCs c) = V at *
      clear hst hkV hUU hF1 hF2 hF3 hF4 hF5 hF6 hF7 hF8 hF9 hF10 hF11 hF12 hF13 hF14 hU2 hU3 hU4 hU5 hU6 hU7 hU8 hU9 hU10 hU11 hU12 hU13 hU14 hg15 hkC hB3 hS3 hR3 hzV hz3
      have hflV : V.heap[F]? = some (.cells (fileCs k s i bb a q capq) 59 (0, 0)) := (hSV F ⟨hFl, by omega⟩).trans HP.out.fl
      have f0 := cells_all hflV
      have d0 : V.cell? ⟨C, 0, none⟩ = some (.int .u8 c.action) := by rw [cells_all hkV' 0]; rfl
      have hrx : rng V C 1 13 = some (rowCs r) := by
        have h1 : rng V C 0 14 = some (changeCs c) := by unfold rng; rw [hkV']; rfl
        have := rng_sub (o := 1) (m := 13) h1 (by decide)
        rw [changeCs_row, Hr.out] at this
        simpa using this
      go_upto_region 22 with fail
      go_cut [124] (fun t W => t = .bool false ∧ Below V.heap.size V W)
      case first =>
        go_wp2_with (first
          | (go_at_call 110; refine (validAction_calls _ _ _ true ⟨fun _ => HAct.out, fun _ => rfl⟩).mono ?_; rintro e w1 ⟨rfl, rfl⟩)
          | (go_at_call 111; refine (validRow_calls _ _ true ⟨fun _ => HRow.out, fun _ => rfl⟩).mono ?_; rintro e w1 ⟨rfl, hb1⟩))
        go_meet
        case rel => exact ⟨rfl, hb1⟩
      case rest =>
      obtain ⟨rfl, hb22⟩ := hcut
      clear f0 d0 hgV hrx
      have hsz22 := hb22.size
      have hflW : wc.heap[F]? = some (.cells (fileCs k s i bb a q capq) 59 (0, 0)) := by rw [hb22.block _ (by have := hBV.size; omega)]; exact hflV
      have f4 : wc.cell? ⟨F, 4, none⟩ = some (.slice a q capq) := cells_all hflW 4
      have hrx : rng wc C 1 13 = some (rowCs r) := by
        have h1 : rng wc C 0 14 = some (changeCs c) := by unfold rng; rw [hb22.block _ hCV, hkV']; rfl
        have := rng_sub (o := 1) (m := 13) h1 (by decide)
        rw [changeCs_row, Hr.out] at this
        simpa using this
      have hcx : rng wc C 0 14 = some (changeCs c) := by unfold rng; rw [hb22.block _ hCV, hkV']; rfl
      have hszV := hBV.size
      have hownW : OwnR wc (F + 1) 111 14 changeCs (.slice a q capq) (cs.take q) := HP.out.own.mono fun x hx => by
        have h1 := HP.out.own.block x hx
        rw [hb22.block _ (by omega)]
        exact hSV x ⟨h1.2, by omega⟩
      go_upto_region 24 with fail
      have hFw : F < wc.heap.size := by omega
      have hCw2 : C < wc.heap.size := by omega
      go_cut [141] (fun t W => t = .bool false ∧ Below wc.heap.size wc W)
      case first =>
        by_cases hq0 : 0 < q
        · obtain ⟨aa, ca, ba, oa, hva, -, -, -, haa, hca⟩ := RArr.lt (hownW.rows changeCs_size (by decide) (by simp; omega))
          have htl : (cs.take q).length = q := by simp; rw [Hm.out]; omega
          rw [htl] at hva haa
          injection hva with hv1 hv2 hv3
          obtain ⟨ha1, ha2, ha3⟩ := haa hq0
          rw [← hv1] at ha1
          have hix := run_indexAt_u32 (P := Tryz.prog) (n := q) (cap := capq) Tryz.underlying57 Tryz.size111 (fun _ => ha1)
          have c1 := hca (q - 1) (by omega)
          have HPP : Hid (prevAt cs q = some (cs[q - 1]'(by rw [Hm.out]; omega)).row) := prevAt_pos cs q hq0 (by rw [Hm.out]; omega)
          have hct : (cs.take q)[q - 1]'(by omega) = cs[q - 1]'(by rw [Hm.out]; omega) := by simp
          rw [hct] at c1
          generalize cs[q - 1]'(by rw [Hm.out]; omega) = cp at *
          have c2 := rng_sub (o := 1) (m := 13) c1 (by decide)
          rw [changeCs_row] at c2
          have e1 : ((q : Int) - 1).toNat = q - 1 := by omega
          have hi1 := fun w => hix w ((q : Int) - 1) (by omega) (by omega)
          simp only [e1] at hi1
          have hneg : decide (0 ≤ cmpK cp.row r) = false := by
            have := HPrev.out
            rw [HPP.out] at this
            exact this
          clear e1 c1 hca haa hct hv1 hv2 hv3 htl ha1 hix
          refine wp_region_ext wc.heap.size (by kernel_rfl) (by kernel_rfl) ?_
          repeat (go_big_quiet_step ((go_at_call 112; refine ext_call (Nat.le_refl _) (compareKeys_calls _ _ _))))
          refine wpQuiet_nil ?_
          intro _ hw'
          obtain ⟨x, hw2⟩ := hw'
          subst hw2
          obtain ⟨w2, hb2⟩ := x
          simp only []
          go_wp2_with fail
          go_meet
          case rel => exact ⟨by first | rfl | rw [hneg], hb2⟩
        · have hq0' : q = 0 := by omega
          subst hq0'
          refine wp_region_ext wc.heap.size (by kernel_rfl) (by kernel_rfl) ?_
          repeat (go_big_quiet_step (fail))
          refine wpQuiet_nil ?_
          intro _ hw'
          obtain ⟨x, hw2⟩ := hw'
          subst hw2
          obtain ⟨w2, hb2⟩ := x
          simp only []
          go_wp2_with fail
          go_meet
          case rel => exact ⟨rfl, hb2⟩
      case rest =>
      obtain ⟨rfl, hb24⟩ := hcut
      have hsz24 := hb24.size
      have hflX : wc.heap[F]? = some (.cells (fileCs k s i bb a q capq) 59 (0, 0)) := (hb24.block _ hFw).trans hflW
      have f4X : wc.cell? ⟨F, 4, none⟩ = some (.slice a q capq) := cells_all hflX 4
      have hcX : rng wc C 0 14 = some (changeCs c) := by rw [rng_of_block (hb24.block _ hCw2)]; exact hcx
      have hownX := hownW.below hb24 (Nat.le_refl _)
      have hbX : Below (G + 1) wr wc := (hBV.trans (hb22.mono (by omega))).trans (hb24.mono (by omega))
      have hRX : ReaderAt wc (G + 1) (.slice (some ⟨b, off, none⟩) n cap) (headText k s i bb m ++ linesText (cs.take (q + 1))).length (1 + (q : Int) + 1) := by
        unfold ReaderAt
        rw [hb24.block _ (by omega), hb22.block _ (by omega)]
        exact hRV
      have hGX : wc.heap[G]? = some (.cells #[.int .u8 0, .int .u32 0, .int .i64 0, .int .u32 0, .slice none 0 0] 59 (0, 0)) := (hbX.block _ (by omega)).trans HP.out.res
      have hFx : F < wc.heap.size := by omega
      have hCx : C < wc.heap.size := by omega
      have htl : (cs.take q).length = q := by simp; rw [Hm.out]; omega
      have Htl := hide htl
      clear hflW f4 hrx hcx hownW hb24 hb22 hBV hSV hRV hkV' hflV htl
      go_wp2_with (at_builtin; (refine wpList_app1 (α := Change) rfl _ _ 57 rfl (F + 1) 111 changeCs Tryz.underlying57 Tryz.info111 rfl (by decide) changeCs_size changeCs_one (.slice a q capq) (cs.take q) rfl (OwnR.below hownX ((Below.refl _ _).alloc (Nat.le_refl _) _) (Nat.le_refl _)) _ rfl c (by rw [rng_alloc_at _ _ _ _ _ _ _ rfl, changeCs_size] <;> rfl) (by rw [Htl.out] <;> omega) (by rw [Htl.out] <;> (unfold maxLen; omega)) (by simp <;> omega) ?_); intro v1 w1 hown1 hsame1 hbel1 hat1; have hfl1 : w1.heap[F]? = some (.cells (fileCs k s i bb a q capq) 59 (0, 0)) := (by rw [hbel1.block _ (by omega), Below.heap_alloc _ _ _ hFx]; exact hflX); have f41 : w1.cell? ⟨F, 4, none⟩ = some (.slice a q capq) := cells_all hfl1 4; have fz1 : w1.frozen? ⟨F, 4, none⟩ = false := (by simp [World.frozen?, hfl1]); obtain ⟨a1, cap1, hv1⟩ := hown1.form; rw [List.length_append, Htl.out] at hv1; subst hv1)
      go_roundg (m - (q + 1))
      case measure => omega
      case rel =>
        refine ⟨q + 1, a1, cap1, by omega, rfl, by go_num, ?_⟩
        have hB26 : Below (F + 1) wc w1 := ((Below.refl _ _).alloc (by omega) _).trans hbel1
        refine ⟨?_, ?_, ?_, ?_, ?_⟩
        · unfold ReaderAt
          rw [Below.heap_setCell _ _ _ _ (by simp; omega), hB26.block _ (by omega)]
          have e2 : (1 + ((q + 1 : Nat) : Int)) = 1 + (q : Int) + 1 := by omega
          rw [e2]
          exact hRX
        · have := heap_set3 (j := 4) (v := .slice a1 (q + 1) cap1) hfl1
          exact this
        · rw [HTk.out]
          exact hown1.mono fun x hx => Below.heap_setCell _ _ _ _ (by have := (hown1.block x hx).1; simp; omega)
        · rw [Below.heap_setCell _ _ _ _ (by simp; omega), hB26.block _ (by omega)]
          exact hGX
        · exact (HP.out.blw.trans ((hbX.mono (by omega)).trans (hB26.mono (by omega)))).setCell (p := ⟨F, 4, none⟩) (by simp; omega) _
    · obtain rfl : q = m := by omega
      have hmt : cs.take q = cs := List.take_of_length_le (by rw [Hm.out]; omega)
      have hDq := HD.out.next (hP.blw.block b hbw) hP.blw.size
      have hrd := hP.rd
      have hown := hP.own
      rw [hmt] at hrd hown
      have hbt : headText k s i bb q ++ linesText cs = bodyText k s i bb cs := by rw [bodyText, Hm.out]
      rw [hbt] at hrd
      have hTx : fileText k s i bb cs = trailText (bodyText k s i bb cs) q := by rw [fileText, Hm.out]
      have HP := hide hP
      have hFl : F < wr.heap.size := (Array.getElem?_eq_some_iff.1 hP.fl).1
      have hGl : G < wr.heap.size := (Array.getElem?_eq_some_iff.1 hP.res).1
      clear hP hbt hmt
      go_upto_region 28 with (go_at_call 113; refine (rtrailer_calls _ (G + 1) b off n cap _ (bodyText k s i bb cs) (1 + (q : Int)) q hrd (by omega) hDq hTx ⟨by omega, by omega⟩ ⟨by omega, by omega⟩).mono ?_; rintro e w2 ⟨rfl, hb2, hs2⟩)
      have hz2 := hb2.size
      have hfl2 : w2.heap[F]? = some (.cells (fileCs k s i bb a q capq) 59 (0, 0)) := (hs2 F ⟨hFl, by omega⟩).trans HP.out.fl
      have hrs2 : w2.heap[G]? = some (.cells #[.int .u8 0, .int .u32 0, .int .i64 0, .int .u32 0, .slice none 0 0] 59 (0, 0)) := (hb2.block _ (by omega)).trans HP.out.res
      have hown2 : OwnR w2 (F + 1) 111 14 changeCs (.slice a q capq) cs := hown.mono fun x hx => by
        have := hown.block x hx
        exact hs2 x ⟨this.2, by omega⟩
      have hch2 : ChangesAt w2 (F + 1 ≤ ·) (.slice a cs.length capq) cs := by
        rw [Hm.out]
        exact hown2.rows changeCs_size (by decide) (by rw [Hm.out]; omega)
      have hrf2 : rng w2 F 0 5 = some (fileCs k s i bb a q capq) := by unfold rng; rw [hfl2]; rfl
      have hcf := checkFile_calls w2 (F + 1 ≤ ·) k s i bb a capq cs hch2 .nilIface (fun _ => rfl) (fun h => absurd HF.out h)
      rw [Hm.out] at hcf
      have Hcf := hide hcf
      have Hch2 := hide hch2
      clear hcf hrd hown hDq hTx hch2
      go_upto_region 32 with (go_at_call 114; refine Hcf.out.mono ?_; rintro e w3 ⟨rfl, hb3⟩)
      have hz3 := hb3.size
      have hrf3 : rng w3 F 0 5 = some (fileCs k s i bb a q capq) := by rw [rng_of_block (hb3.block _ (by omega))]; exact hrf2
      have hwh : whole w3 G 5 = true := by rw [whole_of_block (hb3.block _ (by omega))]; unfold whole; rw [hrs2]; rfl
      have hrs3 : w3.heap[G]? = some (.cells #[.int .u8 0, .int .u32 0, .int .i64 0, .int .u32 0, .slice none 0 0] 59 (0, 0)) := (hb3.block _ (by omega)).trans hrs2
      clear Hcf
      go_wp2
      have hfin := heap_setRow_at (ds := fileCs k s i bb a q capq) hrs3
      refine bodyPost_ret (results_cell_tmp Tryz.results33 _ _ G _ _ _ _ rfl hfin Tryz.underlying59 rfl (by kernel_rfl)) rfl ?_
      refine ⟨a, capq, rfl, ?_, ?_⟩
      · have h1 := RArr.below Hch2.out hb3
        rw [Hm.out] at h1
        exact RArr.mono h1 (fun k hk => setRow_other _ _ _ _ (by omega)) (fun x hx => (by have h1 := HG.out; have h2 : F + 1 ≤ x := hx; omega))
      · rw [HG.out]
        exact ((HP.out.blw.trans (hb2.mono (by omega))).trans (hb3.mono (by omega))).trans ⟨rfl, rfl, rfl, by simp, fun k hk => setRow_other _ _ _ _ (by omega)⟩

end Go.Proofs.Qxb6500666aGreatDoor
