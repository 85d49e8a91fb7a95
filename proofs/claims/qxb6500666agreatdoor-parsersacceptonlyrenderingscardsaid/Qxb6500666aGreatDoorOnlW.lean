/- onlyRenderings, walked: it answers true. -/
import Derived.Test.Qxb6500666aGreatDoorXAll
import Derived.Test.Qxb6500666aGreatDoorSameWalk
namespace Go.Proofs.Qxb6500666aGreatDoor
open Go.RowKit
theorem perr_below {w w' : World} {E : Nat} (h : PErr w E) (hb : Below w.heap.size w w') : PErr w' E := by
  obtain ⟨l, f, h1, h2⟩ := h
  exact ⟨l, f, (hb.block _ (blk_lt h1)).trans h1, h2⟩
section
variable {W w' w'' : World} {t : Bool} {k s i bb ea la : Int} {cs : List Change} {xs : List Ent} {ds : List Diff} {fc : Array Value} {v1 v2 dv ev : Value}
theorem PFr.below (h : PFr W w' t k s i bb cs fc ev) (hb : Below w'.heap.size w' w'') : PFr W w'' t k s i bb cs fc ev := by
  rcases h with ⟨h1, h2, E, h3, h4⟩ | ⟨h1, h2, a, cap, h3, h4⟩
  · exact Or.inl ⟨h1, h2, E, h3, perr_below h4 hb⟩
  · exact Or.inr ⟨h1, h2, a, cap, h3, RArr.below h4 hb⟩
theorem PFm.below (h : PFm W w' t k s i bb cs fc ev) (hb : Below w'.heap.size w' w'') : PFm W w'' t k s i bb cs fc ev := by
  rcases h with h1 | ⟨h1, h2, a, cap, h3, h4⟩
  · exact Or.inl h1
  · exact Or.inr ⟨h1, h2, a, cap, h3, RArr.below h4 hb⟩
theorem PFr.ones (h : PFr W w' t k s i bb cs fc ev) : Qxb6500666aGreatDoor.ones fc 5 = true ∧ fc.size = 5 := by
  rcases h with ⟨-, rfl, -⟩ | ⟨-, -, a, cap, rfl, -⟩
  · exact ⟨rfl, rfl⟩
  · exact ⟨rfl, rfl⟩
theorem PFm.ones (h : PFm W w' t k s i bb cs fc ev) : Qxb6500666aGreatDoor.ones fc 5 = true ∧ fc.size = 5 := by
  rcases h with ⟨-, rfl, -⟩ | ⟨-, -, a, cap, rfl, -⟩
  · exact ⟨rfl, rfl⟩
  · exact ⟨rfl, rfl⟩
theorem PTr.below (h : PTr W w' t xs dv ev) (hb : Below w'.heap.size w' w'') : PTr W w'' t xs dv ev := by
  rcases h with ⟨h1, h2, E, h3, h4⟩ | ⟨h1, h2, a, cap, zs, h3, h4, h5, h6⟩
  · exact Or.inl ⟨h1, h2, E, h3, perr_below h4 hb⟩
  · exact Or.inr ⟨h1, h2, a, cap, zs, h3, RArr.below h4 hb, fun z hz => RArr.below (h5 z hz) hb, h6⟩
theorem PTm.below (h : PTm W w' t xs dv ev) (hb : Below w'.heap.size w' w'') : PTm W w'' t xs dv ev := by
  rcases h with h1 | ⟨h1, h2, a, cap, zs, h3, h4, h5, h6⟩
  · exact Or.inl h1
  · exact Or.inr ⟨h1, h2, a, cap, zs, h3, RArr.below h4 hb, fun z hz => RArr.below (h5 z hz) hb, h6⟩
theorem PRr.below (h : PRr W w' t ea la ds v1 v2 dv ev) (hb : Below w'.heap.size w' w'') : PRr W w'' t ea la ds v1 v2 dv ev := by
  rcases h with ⟨h1, h2, h3, h4, E, h5, h6⟩ | ⟨h1, h2, h3, h4, a, cap, h5, h6⟩
  · exact Or.inl ⟨h1, h2, h3, h4, E, h5, perr_below h6 hb⟩
  · exact Or.inr ⟨h1, h2, h3, h4, a, cap, h5, RArr.below h6 hb⟩
theorem PRm.below (h : PRm W w' t ea la ds v1 v2 dv ev) (hb : Below w'.heap.size w' w'') : PRm W w'' t ea la ds v1 v2 dv ev := by
  rcases h with h1 | ⟨h1, h2, h3, h4, a, cap, h5, h6⟩
  · exact Or.inl h1
  · exact Or.inr ⟨h1, h2, h3, h4, a, cap, h5, RArr.below h6 hb⟩
end
theorem drewN_bel (w : World) (n : Nat) : Below w.heap.size w (w.drewN n) := ⟨rfl, rfl, rfl, Nat.le_refl _, fun _ _ => rfl⟩
attribute [local go_sem] ext_const Ext.cell Ext.frozen Ext.rng Ext.whole
attribute [local go_sem ↓] exec_ldFile exec_stFile
attribute [local go_sem] run_ldFile run_stFile fileCs_size fileCs_ones fileCs_all file_ones whole_alloc_lt whole_alloc_at whole_drew setRow_alloc_at setRow_alloc_lt setRow_drew rng_alloc_lt rng_alloc_at rng_drew rng_drewN

set_option maxRecDepth 100000 in
set_option maxHeartbeats 8000000 in
theorem only_calls (w : World) (ok : Nat → Prop) (rn kn ft : Nat → ByteArray) (v : Value) (bs : List Int) (h : BytesAt w ok v bs) (hB : ByteL bs) (hl : bs.length ≤ 100000000) (hnm : NmAt w rn kn ft) (hg : NmG rn kn) :
    Calls Tryz.prog 50 #[v] w fun e w' => e = .returned (.bool true) ∧ Below w.heap.size w w' := by
  have HBT := hide (fun W (hb : Below w.heap.size w W) => RArr.mono h.lt (fun b q => hb.block b q.2) (fun b q => q.1))
  have HNM : Hid (∀ W, Below w.heap.size w W → NmAt W rn kn ft) := fun W hW => hnm.below hW
  obtain ⟨t1, k, s, i, bb, cs, hT1⟩ := ft_pick bs
  obtain ⟨t2, xs, hT2⟩ := tt_pick rn kn bs
  obtain ⟨t3, ea, la, ds, hT3⟩ := rt_pick bs
  have HT1 := hide hT1
  have HT2 := hide hT2
  have HT3 := hide hT3
  have HLN := hide hl
  have HNG := hide hg
  have HC1 := hide (fun W (hW : Below w.heap.size w W) => parse_both W _ v bs (HBT.out W hW) hB hl hT1)
  have HC2 := hide (fun W (hW : Below w.heap.size w W) => mparse_both W _ v bs (HBT.out W hW) hB hl hT1)
  have HC3 := hide (fun W (hW : Below w.heap.size w W) => parseTrail_both W _ rn kn ft v bs (HBT.out W hW) hB hl (HNM.out W hW) hg hT2)
  have HC4 := hide (fun W (hW : Below w.heap.size w W) => mparseTrail_both W _ rn kn ft v bs (HBT.out W hW) hB hl (HNM.out W hW) hg hT2)
  have HC5 := hide (fun W (hW : Below w.heap.size w W) => parseReport_both W _ v bs (HBT.out W hW) hB hl hT3)
  have HC6 := hide (fun W (hW : Below w.heap.size w W) => mparseReport_both W _ v bs (HBT.out W hW) hB hl hT3)
  clear h hB hl hnm hg hT1 hT2 hT3
  go_enter Tryz.func50, Tryz.ntmps50
  go_upto_region 1 with fail
  go_cut [3, 4] (fun p ev W => ∃ F fc, p = .pointer (some ⟨F, 0, none⟩) ∧ Hid (PFr w W t1 k s i bb cs fc ev) ∧ Hid (W.heap[F]? = some (.cells fc 59 (0, 0))) ∧ Hid (Below w.heap.size w W))
  case first =>
    as_aux_lemma =>
      go_wp2_with (go_at_call 33; refine (HC1.out w (Below.refl _ _)).mono ?_; rintro e W1 ⟨fc, ev, rfl, HF, HB⟩; have hon := HF.out.ones.1; have hsz := HF.out.ones.2)
      go_meet
      case rel => exact ⟨W1.heap.size, fc, rfl, HF.out.below ((Below.refl _ _).alloc (Nat.le_refl _) _), heap_alloc_at _ _, HB.out.alloc HB.out.size _⟩
  case rest =>
  obtain ⟨F, fc, rfl, HF1, HK1, HB1⟩ := hcut
  generalize wc = W1 at *
  go_upto_region 2 with fail
  go_cut [5, 6] (fun p cv W => ∃ G gc, p = .pointer (some ⟨G, 0, none⟩) ∧ Hid (PFm W1 W t1 k s i bb cs gc cv) ∧ Hid (W.heap[G]? = some (.cells gc 59 (0, 0))) ∧ Hid (Below W1.heap.size W1 W))
  case first =>
    as_aux_lemma =>
      go_wp2_with (go_at_call 82; refine (HC2.out W1 HB1.out).mono ?_; rintro e W2 ⟨gc, ev, rfl, HF, HB⟩; have hon := HF.out.ones.1; have hsz := HF.out.ones.2)
      go_meet
      case rel => exact ⟨W2.heap.size, gc, rfl, HF.out.below ((Below.refl _ _).alloc (Nat.le_refl _) _), heap_alloc_at _ _, HB.out.alloc HB.out.size _⟩
  case rest =>
  obtain ⟨G, gc, rfl, HF2, HK2, HB2⟩ := hcut
  have HF1' := hide (HF1.out.below HB2.out)
  have HK1' := hide ((HB2.out.block _ (blk_lt HK1.out)).trans HK1.out)
  have HW2 : Hid (Below w.heap.size w wc) := HB1.out.trans (HB2.out.mono HB1.out.size)
  clear HF1 HK1 HB1 HB2
  generalize wc = W2 at *
  clear HC1 HC2
  go_upto_region 3 with fail
  go_cut [42] (fun v W => v = .bool false ∧ Hid (Below W2.heap.size W2 W))
  case first =>
    as_aux_lemma =>
      have zF := blk_lt HK1'.out
      have zG := blk_lt HK2.out
      rcases HF1'.out with ⟨rfl, rfl, E, rfl, hp⟩ | ⟨rfl, rfl, a, cap, rfl, hch⟩
      · rcases HF2.out with ⟨-, rfl, rfl⟩ | ⟨hx, -⟩
        · have HEV := hide (ErrV.ofPErr hp)
          clear hp
          go_wp2_with (first
            | (go_at_call 49; refine (benchCode_calls W2 rn kn ft _ 29 (HNM.out W2 HW2.out) HEV.out).mono ?_; rintro e V1 ⟨rfl, hb1⟩; have r1 : rng V1 F 0 5 = some zFile := (rng_of_block (hb1.block _ zF) _ _).trans (rng_whole HK1'.out); have r2 : rng V1 G 0 5 = some zFile := (rng_of_block (hb1.block _ zG) _ _).trans (rng_whole HK2.out); have zF1 : F < V1.heap.size := Nat.lt_of_lt_of_le zF hb1.size; have zG1 : G < V1.heap.size := Nat.lt_of_lt_of_le zG hb1.size)
            | (go_at_call 45; refine (sameFile_calls V1 (fun _ => True) (fun _ => True) 0 0 0 0 none none 0 0 0 [] (RArr.nil _ _ _ _) (RArr.nil _ _ _ _)).mono ?_; rintro e V2 ⟨rfl, hb2⟩))
          go_meet
          case rel => exact ⟨rfl, hb1.trans (hb2.mono hb1.size)⟩
        · cases hx
      · rcases HF2.out with ⟨hx, -⟩ | ⟨-, rfl, a', cap', rfl, hch'⟩
        · cases hx
        · have HH1 := hide hch
          have HH2 := hide hch'
          clear hch hch'
          go_wp2_with (first
            | (go_at_call 49; refine (benchCode_calls W2 rn kn ft _ 0 (HNM.out W2 HW2.out) .nil).mono ?_; rintro e V1 ⟨rfl, hb1⟩; have r1 : rng V1 F 0 5 = some (fileCs k s i bb a cs.length cap) := (rng_of_block (hb1.block _ zF) _ _).trans (rng_whole HK1'.out); have r2 : rng V1 G 0 5 = some (fileCs k s i bb a' cs.length cap') := (rng_of_block (hb1.block _ zG) _ _).trans (rng_whole HK2.out); have zF1 : F < V1.heap.size := Nat.lt_of_lt_of_le zF hb1.size; have zG1 : G < V1.heap.size := Nat.lt_of_lt_of_le zG hb1.size)
            | (go_at_call 45; refine (sameFile_calls V1 _ _ k s i bb a a' cs.length cap cap' cs (RArr.below HH1.out hb1) (RArr.below HH2.out hb1)).mono ?_; rintro e V2 ⟨rfl, hb2⟩))
          go_meet
          case rel => exact ⟨rfl, hb1.trans (hb2.mono hb1.size)⟩
  case rest =>
  obtain ⟨rfl, HB3⟩ := hcut
  have HF3 := hide (HF1'.out.below HB3.out)
  have HK3 := hide ((HB3.out.block _ (blk_lt HK1'.out)).trans HK1'.out)
  have HW3 : Hid (Below w.heap.size w wc) := HW2.out.trans (HB3.out.mono HW2.out.size)
  clear HF1' HF2 HK1' HK2 HB3 HW2
  generalize wc = W3 at *
  go_upto_region 5 with fail
  go_cut [44] (fun v W => v = .bool t1 ∧ W3 = W)
  case first =>
    as_aux_lemma =>
      rcases HF3.out with ⟨rfl, rfl, E, rfl, hp⟩ | ⟨rfl, rfl, a, cap, rfl, hch⟩
      · clear hp
        go_wp2
        go_meet
        case rel => exact ⟨rfl, rfl⟩
      · clear hch
        go_wp2
        go_meet
        case rel => exact ⟨rfl, rfl⟩
  case rest =>
  obtain ⟨rfl, rfl⟩ := hcut
  go_upto_if 44 with fail
  go_cut [] (fun W => Hid (Below W3.heap.size W3 W))
  case first =>
    as_aux_lemma =>
      have zF := blk_lt HK3.out
      rcases HF3.out with ⟨rfl, rfl, E, rfl, hp⟩ | ⟨rfl, rfl, a, cap, rfl, hch⟩
      · clear hp
        go_wp2
        go_meet
        case rel => exact Below.refl _ _
      · obtain ⟨hF, hs, hi, hb, hc, ht⟩ := HT1.out.yes rfl
        have hlen := file_len k s i bb cs
        rw [← ht] at hlen
        have HRE := hide (render_ok W3 _ k s i bb a cap cs hch (by have := HLN.out; omega) hs hi hb hc hF)
        have HTX := hide ht
        have HF0 := hide hF
        have r1 : rng W3 F 0 5 = some (fileCs k s i bb a cs.length cap) := rng_whole HK3.out
        have HLB : Hid ((fileText k s i bb cs).length ≤ 140737488355328) := by show _ ≤ _; rw [← ht]; have := HLN.out; omega
        clear hch hF hs hi hb hc ht hlen
        go_wp2_with (first
          | (go_at_call 71; refine HRE.out.mono ?_; rintro e V1 ⟨ov, rfl, hown, hb1⟩; have HO := hide (hown.rows byteCs_size (by decide) HLB.out); clear hown)
          | (go_at_call 48; refine (sameBytes_calls V1 _ _ _ _ _ _ HO.out (HBT.out V1 (HW3.out.trans (hb1.mono HW3.out.size)))).mono ?_; rintro e V2 ⟨rfl, n2, rfl⟩; rw [decide_eq_true HTX.out.symm]))
        go_meet
        case rel => exact hb1.trans ((drewN_bel _ _).mono hb1.size)
  case rest =>
  have HW4 : Hid (Below w.heap.size w wc) := HW3.out.trans (hcut.out.mono HW3.out.size)
  clear hcut HF3 HK3 HW3
  generalize wc = W4 at *
  go_upto_region 9 with fail
  go_cut [9, 4] (fun tv ev W => Hid (PTr W4 W t2 xs tv ev) ∧ Hid (Below W4.heap.size W4 W))
  case first =>
    as_aux_lemma =>
      go_wp2_with (go_at_call 80; refine (HC3.out W4 HW4.out).mono ?_; rintro e W1 ⟨tv, ev, rfl, HF, HB⟩)
      go_meet
      case rel => exact ⟨HF, HB⟩
  case rest =>
  obtain ⟨HF5, HB5⟩ := hcut
  have HW5 : Hid (Below w.heap.size w wc) := HW4.out.trans (HB5.out.mono HW4.out.size)
  generalize wc = W5 at *
  clear HC3
  go_upto_region 10 with fail
  go_cut [10, 11] (fun tv ev W => Hid (PTm W5 W t2 xs tv ev) ∧ Hid (Below W5.heap.size W5 W))
  case first =>
    as_aux_lemma =>
      go_wp2_with (go_at_call 87; refine (HC4.out W5 HW5.out).mono ?_; rintro e W1 ⟨tv, ev, rfl, HF, HB⟩)
      go_meet
      case rel => exact ⟨HF, HB⟩
  case rest =>
  obtain ⟨HM5, HB6⟩ := hcut
  have HF6 := hide (HF5.out.below HB6.out)
  have HW6 : Hid (Below w.heap.size w wc) := HW5.out.trans (HB6.out.mono HW5.out.size)
  generalize wc = W6 at *
  clear HC4 HF5 HB5 HB6 HW5
  go_upto_region 11 with fail
  go_cut [77] (fun v W => v = .bool false ∧ Hid (Below W6.heap.size W6 W))
  case first =>
    as_aux_lemma =>
      rcases HF6.out with ⟨rfl, rfl, E, rfl, hp⟩ | ⟨rfl, rfl, a, cap, zs, rfl, hr, hz, hm⟩
      · rcases HM5.out with ⟨-, rfl, rfl⟩ | ⟨hx, -⟩
        · have HEV := hide (ErrV.ofPErr hp)
          clear hp
          go_wp2_with (first
            | (go_at_call 49; refine (benchCode_calls W6 rn kn ft _ 29 (HNM.out W6 HW6.out) HEV.out).mono ?_; rintro e V1 ⟨rfl, hb1⟩)
            | (go_at_call 38; refine (sameTrail_calls V1 (fun _ => True) (fun _ => True) (fun _ => True) (fun _ => True) _ _ [] [] (RArr.nil _ _ _ _) (RArr.nil _ _ _ _) (fun z hz => by cases hz) (fun z hz => by cases hz) rfl).mono ?_; rintro e V2 ⟨rfl, hb2⟩))
          go_meet
          case rel => exact ⟨rfl, hb1.trans (hb2.mono hb1.size)⟩
        · cases hx
      · rcases HM5.out with ⟨hx, -⟩ | ⟨-, rfl, a', cap', zs', rfl, hr', hz', hm'⟩
        · cases hx
        · have HSA : Hid (∀ V, Below W6.heap.size W6 V → Calls Tryz.prog 38 #[.slice a zs.length cap, .slice a' zs'.length cap'] V fun e w' => e = .returned (.bool true) ∧ Below V.heap.size V w') := fun V hV => sameTrail_calls V _ _ _ _ _ _ zs zs' (RArr.below hr hV) (RArr.below hr' hV) (fun z hz2 => RArr.below (hz z hz2) hV) (fun z hz2 => RArr.below (hz' z hz2) hV) (hm.trans hm'.symm)
          clear hr hz hm hr' hz' hm'
          go_wp2_with (first
            | (go_at_call 49; refine (benchCode_calls W6 rn kn ft _ 0 (HNM.out W6 HW6.out) .nil).mono ?_; rintro e V1 ⟨rfl, hb1⟩)
            | (go_at_call 38; refine (HSA.out V1 hb1).mono ?_; rintro e V2 ⟨rfl, hb2⟩))
          go_meet
          case rel => exact ⟨rfl, hb1.trans (hb2.mono hb1.size)⟩
  case rest =>
  obtain ⟨rfl, HB7⟩ := hcut
  have HF7 := hide (HF6.out.below HB7.out)
  have HW7 : Hid (Below w.heap.size w wc) := HW6.out.trans (HB7.out.mono HW6.out.size)
  clear HF6 HM5 HB7 HW6
  generalize wc = W7 at *
  go_upto_region 13 with fail
  go_cut [79] (fun v W => v = .bool t2 ∧ W7 = W)
  case first =>
    as_aux_lemma =>
      rcases HF7.out with ⟨rfl, rfl, E, rfl, hp⟩ | ⟨rfl, rfl, a, cap, zs, rfl, hr, hz, hm⟩
      · clear hp
        go_wp2
        go_meet
        case rel => exact ⟨rfl, rfl⟩
      · clear hr hz hm
        go_wp2
        go_meet
        case rel => exact ⟨rfl, rfl⟩
  case rest =>
  obtain ⟨rfl, rfl⟩ := hcut
  go_upto_if 79 with fail
  go_cut [] (fun W => Hid (Below W7.heap.size W7 W))
  case first =>
    as_aux_lemma =>
      rcases HF7.out with ⟨rfl, rfl, E, rfl, hp⟩ | ⟨rfl, rfl, a, cap, zs, rfl, hr, hz, hm⟩
      · clear hp
        go_wp2
        go_meet
        case rel => exact Below.refl _ _
      · have hV := HT2.out.yes rfl
        have hlen := tv_len HNG.out hV
        have hzl : zs.length = xs.length := by rw [← hm, List.length_map]
        have HRE := hide (renderTrail_calls W7 _ rn kn ft a zs.length cap zs hr hz (by have := HLN.out; omega) (HNM.out W7 HW7.out) (fun z hz2 => hV.ok _ (by rw [← hm]; exact List.mem_map_of_mem hz2)))
        have HRR : Hid (rtR rn kn (zs.map (·.1)) = .ok bs) := by show _ = _; rw [hm, rtR, if_pos hV.rt, ← hV.tx]
        rw [HRR.out] at HRE
        clear hr hz hm hV hlen hzl HRR
        go_wp2_with (first
          | (go_at_call 79; refine HRE.out.mono ?_; rintro e V1 ⟨ov, rfl, hown, hb1⟩; have HO := hide (hown.rows byteCs_size (by decide) (by have := HLN.out; omega)); clear hown)
          | (go_at_call 48; refine (sameBytes_calls V1 _ _ _ _ _ _ HO.out (HBT.out V1 (HW7.out.trans (hb1.mono HW7.out.size)))).mono ?_; rintro e V2 ⟨rfl, n2, rfl⟩; rw [decide_eq_true rfl]))
        go_meet
        case rel => exact hb1.trans ((drewN_bel _ _).mono hb1.size)
  case rest =>
  have HW8 : Hid (Below w.heap.size w wc) := HW7.out.trans (hcut.out.mono HW7.out.size)
  clear hcut HF7 HW7
  generalize wc = W8 at *
  go_upto_region 17 with fail
  go_cut [14, 15, 16, 4] (fun v1 v2 dv ev W => Hid (PRr W8 W t3 ea la ds v1 v2 dv ev) ∧ Hid (Below W8.heap.size W8 W))
  case first =>
    as_aux_lemma =>
      go_wp2_with (go_at_call 73; refine (HC5.out W8 HW8.out).mono ?_; rintro e W1 ⟨v1, v2, dv, ev, rfl, HF, HB⟩)
      go_meet
      case rel => exact ⟨HF, HB⟩
  case rest =>
  obtain ⟨HF9, HB9⟩ := hcut
  have HW9 : Hid (Below w.heap.size w wc) := HW8.out.trans (HB9.out.mono HW8.out.size)
  generalize wc = W9 at *
  clear HC5
  go_upto_region 18 with fail
  go_cut [17, 18, 19, 20] (fun v1 v2 dv ev W => Hid (PRm W9 W t3 ea la ds v1 v2 dv ev) ∧ Hid (Below W9.heap.size W9 W))
  case first =>
    as_aux_lemma =>
      go_wp2_with (go_at_call 120; refine (HC6.out W9 HW9.out).mono ?_; rintro e W1 ⟨v1, v2, dv, ev, rfl, HF, HB⟩)
      go_meet
      case rel => exact ⟨HF, HB⟩
  case rest =>
  obtain ⟨HM9, HB10⟩ := hcut
  have HF10 := hide (HF9.out.below HB10.out)
  have HW10 : Hid (Below w.heap.size w wc) := HW9.out.trans (HB10.out.mono HW9.out.size)
  generalize wc = W10 at *
  clear HC6 HF9 HB9 HB10 HW9
  go_upto_region 19 with fail
  go_cut [126] (fun v W => v = .bool false ∧ Hid (Below W10.heap.size W10 W))
  case first =>
    as_aux_lemma =>
      rcases HF10.out with ⟨rfl, rfl, rfl, rfl, E, rfl, hp⟩ | ⟨rfl, rfl, rfl, rfl, a, cap, rfl, hr⟩
      · rcases HM9.out with ⟨-, rfl, rfl, rfl, rfl⟩ | ⟨hx, -⟩
        · have HEV := hide (ErrV.ofPErr hp)
          clear hp
          go_wp2_with (first
            | (go_at_call 49; refine (benchCode_calls W10 rn kn ft _ 29 (HNM.out W10 HW10.out) HEV.out).mono ?_; rintro e V1 ⟨rfl, hb1⟩)
            | (go_at_call 74; refine (sameDif_calls V1 (fun _ => True) (fun _ => True) _ _ [] (RArr.nil _ _ _ _) (RArr.nil _ _ _ _)).mono ?_; rintro e V2 ⟨rfl, n2, rfl⟩))
          go_meet
          case rel => exact ⟨rfl, hb1.trans ((drewN_bel _ _).mono hb1.size)⟩
        · cases hx
      · rcases HM9.out with ⟨hx, -⟩ | ⟨-, rfl, rfl, rfl, a', cap', rfl, hr'⟩
        · cases hx
        · have HH1 := hide hr
          have HH2 := hide hr'
          clear hr hr'
          go_wp2_with (first
            | (go_at_call 49; refine (benchCode_calls W10 rn kn ft _ 0 (HNM.out W10 HW10.out) .nil).mono ?_; rintro e V1 ⟨rfl, hb1⟩)
            | (go_at_call 74; refine (sameDif_calls V1 _ _ _ _ ds (RArr.below HH1.out hb1) (RArr.below HH2.out hb1)).mono ?_; rintro e V2 ⟨rfl, n2, rfl⟩))
          go_meet
          case rel => exact ⟨rfl, hb1.trans ((drewN_bel _ _).mono hb1.size)⟩
  case rest =>
  obtain ⟨rfl, HB11⟩ := hcut
  have HF11 := hide (HF10.out.below HB11.out)
  have HW11 : Hid (Below w.heap.size w wc) := HW10.out.trans (HB11.out.mono HW10.out.size)
  clear HF10 HM9 HB11 HW10
  generalize wc = W11 at *
  rcases HF11.out with ⟨rfl, rfl, rfl, rfl, E, rfl, hp⟩ | ⟨rfl, rfl, rfl, rfl, a, cap, rfl, hr⟩
  · clear hp
    go_wp2
    go_ret
    exact ⟨rfl, HW11.out⟩
  · obtain ⟨hF, h1, h2, hc, ht⟩ := HT3.out.yes rfl
    have hlen := rep_len ea la ds
    rw [← ht] at hlen
    have HRE := hide (renderReport_calls W11 _ ea la a ds.length cap ds hr (by have := HLN.out; omega) h1 h2 hc)
    have HRR : Hid (repR ea la ds = .ok bs) := by show _ = _; rw [repR, if_pos hF, ← ht]
    rw [HRR.out] at HRE
    clear hr hF h1 h2 hc ht hlen HRR
    go_wp2_with (first
      | (go_at_call 121; refine HRE.out.mono ?_; rintro e V1 ⟨ov, rfl, hown, hb1⟩; have HO := hide (hown.rows byteCs_size (by decide) (by have := HLN.out; omega)); clear hown)
      | (go_at_call 48; refine (sameBytes_calls V1 _ _ _ _ _ _ HO.out (HBT.out V1 (HW11.out.trans (hb1.mono HW11.out.size)))).mono ?_; rintro e V2 ⟨rfl, n2, rfl⟩; rw [decide_eq_true rfl]))
    go_ret
    exact ⟨rfl, HW11.out.trans ((hb1.trans ((drewN_bel _ _).mono hb1.size)).mono HW11.out.size)⟩
end Go.Proofs.Qxb6500666aGreatDoor
