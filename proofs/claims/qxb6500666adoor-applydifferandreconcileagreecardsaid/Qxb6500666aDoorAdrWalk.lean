/- ApplyDifferAndReconcileAgree, walked. -/
import Derived.Test.Qxb6500666aDoorAdrParts
import Derived.Deep.DeepCutAuto
import Derived.Deep.CutBlock
import Derived.Deep.LoopGhost
namespace Go.Proofs.Qxb6500666aDoor
open Go.RowKit Go.Maps
attribute [local go_sem ↓] exec_ldRow exec_ldChange exec_ldFile exec_stRow exec_stChange exec_stFile exec_bsRow exec_bsChange exec_slRows exec_bdChange exec_eqlRow exec_neqRow
attribute [local go_sem] run_ldRow run_ldChange run_ldFile run_stRow run_stChange run_stFile run_bsRow run_bsChange run_bdChange run_neqRow run_eqlRow rng_alloc_lt rng_alloc_at rng_drew rng_drewN rng_setCell_other rng_setRow_other whole_alloc_lt whole_alloc_at whole_drew whole_setCell_other whole_setRow_other setRow_alloc_at setRow_alloc_lt setRow_drew rowCs_size rowCs_ones rowCs_0 rowCs_1 rowCs_2 rowCs_3 rowCs_4 rowCs_5 rowCs_6 rowCs_7 rowCs_8 rowCs_9 rowCs_10 rowCs_11 rowCs_12 rowCs_all changeCs_size changeCs_ones changeCs_0 changeCs_row changeCs_all fileCs_size fileCs_ones fileCs_0 fileCs_1 fileCs_2 fileCs_3 fileCs_4 fileCs_all ext_const Ext.cell Ext.frozen Ext.rng Ext.whole
attribute [local go_sem] changeCs_1 changeCs_2

set_option maxRecDepth 100000 in
set_option maxHeartbeats 8000000 in
theorem adr_walk (w : World) (v : Value) (s : List Op) (h : Script w (· < w.heap.size) v s) :
    Calls Tryd.prog 4 #[v] w fun e w' => e = .returned (.bool true) ∧ Below w.heap.size w w' := by
  have HSm := hide (small_calls w _ v s h)
  obtain ⟨a, cap, b, off, rfl, hl, hm, hr, ha, hc⟩ := h
  obtain ⟨n, hn⟩ : ∃ n, n = s.length := ⟨_, rfl⟩
  have Hn : Hid (n = s.length) := hn
  rw [← hn] at hl hr ha HSm ⊢
  have hi := run_indexAt_arr (P := Tryd.prog) (cap := cap) Tryd.underlying22 Tryd.size40 (fun h => (ha h).1)
  have HB : Hid (0 < n → b < w.heap.size) := fun h => (ha h).2
  have HC : Hid (∀ k (h : k < s.length), StepAt w (· < w.heap.size) b (off + k * 27) s[k]) := fun k h => by
    obtain ⟨cs, _, hE, hcell⟩ := hc k h
    exact stepAt_of hE hcell
  clear ha hc hn
  by_cases hsm : total s ≤ 65536
  · have HT := hide hsm
    have hd : decide (total s ≤ 65536) = true := by simpa using hsm
    rw [hd] at HSm
    clear hd hsm
    go_enter Tryd.func4, Tryd.ntmps4
    go_wp2_with (go_at_call 6; refine HSm.out.mono ?_; rintro e w1 ⟨rfl, rfl⟩)
    clear HSm
    go_loopg [32] n (fun g j wr => ∃ q : Nat, q ≤ n ∧ g = n - q ∧ j = .int .i64 q ∧ Below w.heap.size w wr)
    case atStart => exact ⟨0, by omega, by omega, rfl, Below.refl _ _⟩
    case round =>
      as_aux_lemma =>
      obtain ⟨q, hq, rfl, rfl, hbel⟩ := hrel
      by_cases hlt : q < n
      · have hqs : q < s.length := by rw [← Hn.out]; exact hlt
        obtain ⟨q2, hq2⟩ : ∃ q2, q2 = (q + 1) % n := ⟨_, rfl⟩
        have hq2n : q2 < n := by rw [hq2]; exact Nat.mod_lt _ (by omega)
        have hq2s : q2 < s.length := by rw [← Hn.out]; exact hq2n
        have hrem : Int.tmod ((q : Int) + 1) n = q2 := by
          rw [hq2, Int.tmod_eq_emod_of_nonneg (by omega)]
          simp
        clear hq2
        have hbb := HB.out (by omega)
        obtain ⟨-, -, -, ⟨fa, fcap, -, hf1, hch1⟩, hok1⟩ := (HC.out q hqs).below hbel hbb
        obtain ⟨-, -, -, ⟨ga, gcap, -, hf2, hch2⟩, hok2⟩ := (HC.out q2 hq2s).below hbel hbb
        have hl1 := (total_le hqs HT.out).2.2
        have hl2 := (total_le hq2s HT.out).2.2
        generalize s[q].file = f1 at *
        generalize s[q2].file = f2 at *
        obtain ⟨k1, s1, i1, bs1, cs1⟩ := f1
        obtain ⟨k2, s2, i2, bs2, cs2⟩ := f2
        simp only at hf1 hch1 hok1 hf2 hch2 hok2 hl1 hl2
        have hbw : b < wr.heap.size := by have := hbel.size; omega
        go_upto_region 6 with fail
        go_cut [4, 5] (fun va vf W => ∃ g, vf = .pointer (some ⟨g, 0, none⟩) ∧ rng W g 0 5 = some (fileCs k2 s2 i2 bs2 ga cs2.length gcap) ∧ Below wr.heap.size wr W ∧ RowsAt W (fun _ => True) va (cs1.map (·.row)))
        case first =>
          as_aux_lemma =>
          --B
          refine wp_region_mix wr.heap.size [0, 1, 2, 3, 4, 6, 7, 8, 9, 10, 11, 12, 13, 14] 4 (by kernel_rfl) rfl (by kernel_rfl) (fun d _ _ _ _ h => by cases d <;> exact h) ?_
          simp only [opersAt, List.getElem?_toArray, List.getElem?_cons_zero, List.getElem?_cons_succ]
          repeat (go_big_quiet_step (fail))
          refine wpQuiet_nil ?_
          refine mixR_two (k := 5) (k' := 15) (by kernel_rfl) rfl rfl ?_ ?_
          · go_wp2_with fail
            refine (rowsOf_calls wr.drew _ k1 s1 i1 bs1 fa fcap cs1 (RArr.below hch1 (Below.refl _ _).drew) hl1).mono ?_
            rintro e w1 ⟨v1, rfl, hown1, hbel1⟩
            have hb1 : Below wr.heap.size wr w1 := (Below.refl _ _).drew.trans hbel1
            have hr1 : RowsAt w1 (fun _ => True) v1 (cs1.map (·.row)) := RArr.mono (hown1.rows rowCs_size (by decide) (by simp; omega)) (Same.refl _ _) (fun _ _ => trivial)
            clear hown1 hbel1
            go_wp2_with fail
            refine ⟨Or.inr ⟨⟨w1, hb1⟩, rfl⟩, ?_⟩
            refine mixR_one (k := 15) (by kernel_rfl) rfl ?_
            go_wp2_with fail
            refine ⟨Or.inr ⟨⟨_, hb1.alloc hb1.size _⟩, rfl⟩, ?_⟩
            refine mixR_one (k := 16) (by kernel_rfl) rfl ?_
            go_wp2_with fail
            refine ⟨Or.inr ⟨⟨_, hb1.alloc hb1.size _⟩, rfl⟩, ?_⟩
            refine mixR_one (k := 17) (by kernel_rfl) rfl ?_
            go_wp2_with fail
            refine ⟨Or.inl (by kernel_rfl), ?_⟩
            refine mixR_nil (by kernel_rfl) ?_
            go_wp2_with fail
            go_meet
            case rel => exact ⟨_, rfl, by rw [rng_alloc_at _ _ _ _ _ _ _ rfl, fileCs_size]; rfl, hb1.alloc hb1.size _, RArr.below hr1 ((Below.refl _ _).alloc (Nat.le_refl _) _)⟩
          · go_wp2_with fail
            refine ⟨Or.inr ⟨⟨_, (Below.refl _ _).drew.alloc (Nat.le_refl _) _⟩, rfl⟩, ?_⟩
            refine mixR_one (k := 5) (by kernel_rfl) rfl ?_
            go_wp2_with fail
            refine (rowsOf_calls _ _ k1 s1 i1 bs1 fa fcap cs1 (RArr.below hch1 ((Below.refl _ _).drew.alloc (Nat.le_refl _) _)) hl1).mono ?_
            rintro e w1 ⟨v1, rfl, hown1, hbel1⟩
            have hb1 : Below wr.heap.size wr w1 := ((Below.refl _ _).drew.alloc (Nat.le_refl _) _).trans (hbel1.mono (by simp))
            have hwh : whole w1 wr.heap.size 5 = true := (whole_of_block (hbel1.block _ (by simp)) 5).trans (whole_alloc_at _ _ _ _ _ rfl)
            have HR1 := hide (hown1.rows rowCs_size (by decide) (by simp; omega))
            clear hown1 hbel1
            go_wp2_with fail
            refine ⟨Or.inr ⟨⟨w1, hb1⟩, rfl⟩, ?_⟩
            refine mixR_one (k := 16) (by kernel_rfl) rfl ?_
            go_wp2_with fail
            refine ⟨Or.inr ⟨⟨w1, hb1⟩, rfl⟩, ?_⟩
            refine mixR_one (k := 17) (by kernel_rfl) rfl ?_
            go_wp2_with fail
            refine ⟨Or.inl (by kernel_rfl), ?_⟩
            refine mixR_nil (by kernel_rfl) ?_
            go_wp2_with fail
            go_meet
            case rel => exact ⟨_, rfl, rng_setRow_at hwh (fileCs_size ..), below_setRow hb1 (Nat.le_refl _) _, RArr.mono HR1.out (fun k hk => setRow_other _ _ _ _ (by simp at hk; omega)) (fun _ _ => trivial)⟩
          --E
        case rest =>
          as_aux_lemma =>
          obtain ⟨g, rfl, hfile, hb1, hA1⟩ := hcut
          have HCH2 : Hid (ChangesAt wc (· < w.heap.size) (.slice ga cs2.length gcap) cs2) := RArr.below hch2 hb1
          have hbelc : Below w.heap.size w wc := hbel.trans (hb1.mono hbel.size)
          have HOK1 : Hid (∀ r ∈ cs1.map (·.row), r.Ok) := fun r hr => by obtain ⟨c, hc, rfl⟩ := List.mem_map.1 hr; exact (hok1 c hc).row
          have HOK2 : Hid (∀ c ∈ cs2, c.row.Ok) := fun c hc => (hok2 c hc).row
          have HLA : Hid ((cs1.map (·.row)).length ≤ 65536) := by show _ ≤ _; simpa using hl1
          have HLB : Hid ((cs2.map (·.row)).length ≤ 65536) := by show _ ≤ _; simpa using hl2
          have HL2 := hide hl2
          have HA1 := hide hA1
          obtain ⟨rs, hrs⟩ : ∃ rs, rs = cs1.map (·.row) := ⟨_, rfl⟩
          obtain ⟨ts, hts⟩ : ∃ ts, ts = cs2.map (·.row) := ⟨_, rfl⟩
          rw [← hrs] at HOK1 HLA HA1
          rw [← hts] at HLB
          clear hrs hf1 hf2 hch1 hch2 hok1 hok2 hl1 hl2 hA1 hrem
          have hgl := rng_lt hfile
          have hfile4 : wc.cell? ⟨g, 4, none⟩ = some (.slice ga cs2.length gcap) := (rng_cell hfile).2 4 (by decide)
          go_upto_region 7 with fail
          go_cut [6] (fun vb W => Kept w W u4 vb rs ts ∧ Lines W g ga gcap cs2)
          case first =>
            as_aux_lemma =>
            --B
            go_wp2_with (go_at_call 12; refine (rowsOf_calls wc _ k2 s2 i2 bs2 ga gcap cs2 HCH2.out HL2.out).mono ?_; rintro e w2 ⟨v2, rfl, hown2, hbel2⟩)
            go_meet
            case rel =>
              refine ⟨⟨hbelc.trans (hbel2.mono hbelc.size), RArr.below HA1.out hbel2, ?_⟩, ⟨Nat.lt_of_lt_of_le hgl hbel2.size, ?_, RArr.mono (RArr.below HCH2.out hbel2) (Same.refl _ _) (fun _ _ => trivial)⟩⟩
              · rw [hts]; exact RArr.mono (hown2.rows rowCs_size (by decide) (by simp; have := HL2.out; omega)) (Same.refl _ _) (fun _ _ => trivial)
              · rw [hbel2.cell (p := ⟨g, 4, none⟩) hgl]; exact hfile4
            --E
          case rest =>
            as_aux_lemma =>
            obtain ⟨hk, hlns⟩ := hcut
            go_upto_region 8 with fail
            cases hoA : ordB rs with
            | false =>
              as_aux_lemma =>
              --B
              go_wp2_with (go_at_call 13; refine (inKeyOrder_is _ _ _ _ hk.left hoA).mono ?_; rintro e w3 ⟨rfl, hbel3⟩)
              go_roundg (n - (q + 1))
              case measure => omega
              case rel => exact ⟨q + 1, by omega, rfl, by go_num, hk.below.trans (hbel3.mono hk.below.size)⟩
              --E
            | true =>
              as_aux_lemma =>
              have HRA := hide (rise_of_ordB hoA)
              go_upto_region 9 with (go_at_call 13; refine (inKeyOrder_is _ _ _ _ hk.left hoA).mono ?_; rintro e w3 ⟨rfl, hbel3⟩)
              have hk3 := hk.next hbel3
              have hln3 := hlns.next hbel3
              clear hk hlns
              have HLA' : Hid (rs.length ≤ 131072) := by show _ ≤ _; have := HLA.out; omega
              have HL2' : Hid (cs2.length ≤ 131072) := by show _ ≤ _; have := HL2.out; omega
              go_cut [7] (fun vk W => Kept w W u4 u6 rs ts ∧ Lines W g ga gcap cs2 ∧ RowsAt W (fun _ => True) vk rs)
              case first =>
                as_aux_lemma =>
                --B
                go_wp2_with (at_builtin; refine wpList_clone rfl _ rfl rs hk3.left HLA.out ?_; intro vk w4 hvk hbel4)
                go_meet
                case rel => exact ⟨hk3.next hbel4, hln3.next hbel4, hvk⟩
                --E
              case rest =>
              as_aux_lemma =>
              obtain ⟨hk4, hln4, hvk4⟩ := hcut
              clear hk3 hln3
              go_upto_region 10 with fail
              go_cut [8, 9] (fun got err W => Kept w W u4 u6 rs ts ∧ Lines W g ga gcap cs2 ∧ RowsAt W (fun _ => True) u7 rs ∧ Half W rs cs2 got err)
              case first =>
                as_aux_lemma =>
                --B
                have c4 := hln4.cell
                have hl4 := hln4.lt
                cases hF : applyF rs cs2 with
                | none =>
                  go_wp2_with (go_at_call 14; refine (apply_none _ _ _ _ _ rs cs2 hk4.left hln4.lines HLA'.out HL2'.out hF).mono ?_; rintro e w5 ⟨rfl, hbel5⟩)
                  go_meet
                  case rel => exact ⟨hk4.next hbel5, hln4.next hbel5, RArr.below hvk4 hbel5, Or.inl ⟨hF, rfl, rfl⟩⟩
                | some o =>
                  have HoL : o.length ≤ 140737488355328 := by have := agree_len hF; have := HLA'.out; have := HL2'.out; omega
                  have HF := hide hF
                  go_wp2_with (go_at_call 14; refine (apply_some _ _ _ _ _ rs cs2 o hk4.left hln4.lines HLA'.out HL2'.out HF.out HoL).mono ?_; rintro e w5 ⟨got, rfl, hgot, hbel5⟩)
                  go_meet
                  case rel => exact ⟨hk4.next hbel5, hln4.next hbel5, RArr.below hvk4 hbel5, Or.inr ⟨o, HF.out, rfl, hgot⟩⟩
                --E
              case rest =>
              as_aux_lemma =>
              obtain ⟨hk5, hln5, hvk5, hhalf⟩ := hcut
              clear hk4 hln4 hvk4
              go_upto_region 11 with fail
              go_cut [10, 11] (fun want okv W => Kept w W u4 u6 rs ts ∧ RowsAt W (fun _ => True) u7 rs ∧ Applied W u8 u9 want okv)
              case first =>
                as_aux_lemma =>
                --B
                have c5 := hln5.cell
                have hl5 := hln5.lt
                rcases apply_plain cs2 HRA.out with ⟨hF, hP⟩ | ⟨o, m, hF, hG, hoC, hAg⟩
                · rcases hhalf with ⟨_, rfl, rfl⟩ | ⟨o, hF2, _, _⟩
                  · have HP := hide hP
                    clear hF hP
                    go_wp2_with (go_at_call 15; refine (plain_false _ _ _ _ _ rs cs2 hk5.left hln5.lines HLA'.out HL2'.out HOK1.out HOK2.out HP.out).mono ?_; rintro e w6 ⟨mv, rfl, hbel6⟩)
                    go_meet
                    case rel => exact ⟨hk5.next hbel6, RArr.below hvk5 hbel6, Or.inl ⟨rfl, rfl, rfl⟩⟩
                  · rw [hF] at hF2; cases hF2
                · rcases hhalf with ⟨hF2, _, _⟩ | ⟨o', hF2, rfl, hgot⟩
                  · rw [hF] at hF2; cases hF2
                  · have Hoo : Hid (∀ r ∈ o, r.Ok) := applyGo_ok cs2 none rs [] o HOK1.out (by simp) HOK2.out hF
                    rw [hF] at hF2
                    have hoo : o' = o := by cases hF2; rfl
                    subst hoo
                    have HG := hide hG
                    have HOC := hide hoC
                    clear hF hF2 hG hoC
                    go_wp2_with (go_at_call 15; refine (plain_some _ _ _ _ _ rs cs2 m true hk5.left hln5.lines HLA'.out HL2'.out HOK1.out HOK2.out HG.out HOC.out).mono ?_; rintro e w6 ⟨B, nB, rfl, hmap6, hbel6⟩)
                    go_meet
                    case rel => exact ⟨hk5.next hbel6, RArr.below hvk5 hbel6, Or.inr ⟨o', m, B, nB, rfl, rfl, rfl, hmap6, hAg, Hoo.out, RArr.below hgot hbel6⟩⟩
                --E
              case rest =>
              as_aux_lemma =>
              obtain ⟨hk6, hvk6, happ⟩ := hcut
              clear hk5 hln5 hvk5 hhalf
              go_upto_region 12 with fail
              go_cut [80] (fun t W => t = .bool false ∧ Kept w W u4 u6 rs ts ∧ Applied W u8 u9 u10 u11)
              case first =>
                as_aux_lemma =>
                --B
                rcases happ with ⟨rfl, rfl, rfl⟩ | ⟨o, m, B, nB, rfl, rfl, rfl, hmap, hAg, hoo, hgot⟩
                · go_wp2_with (go_at_call 16; refine (sameList_is _ _ _ _ _ rs hk6.left hvk6).mono ?_; rintro e w7 ⟨rfl, hbel7⟩)
                  go_meet
                  case rel => exact ⟨rfl, hk6.next hbel7, Or.inl ⟨rfl, rfl, rfl⟩⟩
                · have HOO := hide hoo
                  clear hoo
                  go_wp2_with (go_at_call 16; refine (sameList_is _ _ _ _ _ rs hk6.left hvk6).mono ?_; rintro e w7 ⟨rfl, hbel7⟩)
                  go_meet
                  case rel => exact ⟨rfl, hk6.next hbel7, Applied.below (Or.inr ⟨o, m, B, nB, rfl, rfl, rfl, hmap, hAg, HOO.out, hgot⟩) hbel7⟩
                --E
              case rest =>
              as_aux_lemma =>
              obtain ⟨rfl, hk7, happ⟩ := hcut
              clear hk6 hvk6
              go_upto_if 81 with fail
              go_cut [] (fun W => Kept w W u4 u6 rs ts)
              case first =>
                as_aux_lemma =>
                rcases happ with ⟨rfl, rfl, rfl⟩ | ⟨o, m, B, nB, rfl, rfl, rfl, hmap, hAg, hoo, hgot⟩
                · --B
                  go_wp2_with (go_at_call 9; refine (codeOf_err 30 _ rfl).mono ?_; rintro e w8 ⟨rfl, rfl⟩)
                  go_meet
                  case rel => exact hk7
                  --E
                · --B
                  have HGR := hide hgot
                  have HOO := hide hoo
                  have HOB := hide (ordB_of_rise hAg.rise)
                  have HAG := hide hAg
                  obtain ⟨a8, cap8, b8, off8, hv8, _, _, hr8, ha8, hc8⟩ := RArr.lt hgot
                  have hml : (m.length : Int) = o.length := by rw [hAg.len]
                  obtain ⟨no, hno⟩ : ∃ no, no = o.length := ⟨_, rfl⟩
                  have Hno : Hid (no = o.length) := hno
                  rw [← hno] at hr8 ha8 hml hv8
                  subst hv8
                  have hi8 := run_indexAt_arr (P := Tryd.prog) (cap := cap8) Tryd.underlying51 Tryd.size61 (fun h => (ha8 h).1)
                  have HB8 : Hid (0 < no → b8 < wc.heap.size) := fun h => (ha8 h).2.2
                  have HC8 := hide hc8
                  have HK7 := hide hk7
                  clear hgot hoo ha8 hc8 hno hAg hk7
                  go_wp2_with (first
                    | (at_len; refine wpList_lenM rfl _ rfl B nB m rfl hmap ?_)
                    | (go_at_call 13; refine (inKeyOrder_is _ _ _ _ HGR.out HOB.out).mono ?_; rintro e w8 ⟨rfl, hbel8⟩))
                  have HMAP := hide hmap
                  clear hmap
                  go_loopg [94] no (fun gk j W => ∃ k : Nat, k ≤ no ∧ gk = no - k ∧ j = .int .i64 k ∧ Below wc.heap.size wc W)
                  case atStart => exact ⟨0, by omega, by omega, rfl, hbel8⟩
                  case round =>
                    as_aux_lemma =>
                    obtain ⟨k, hk, rfl, rfl, hbelk⟩ := hrel
                    by_cases hkn : k < no
                    · have hks : k < o.length := by rw [← Hno.out]; exact hkn
                      have hb8 := HB8.out (by omega)
                      have c0 : rng wr b8 (off8 + k * 13) 13 = some (rowCs o[k]) := by rw [rng_of_block (hbelk.block _ hb8)]; exact HC8.out k hks
                      have hro := HOO.out o[k] (List.getElem_mem hks)
                      have hlk : mlook m o[k].sample o[k].analyte = some o[k] := by rw [HAG.out.look]; exact mlook_self HAG.out.rise (List.getElem_mem hks)
                      generalize o[k] = r at *
                      have hbw : b8 < wr.heap.size := by have := hbelk.size; omega
                      have hBl : B < wr.heap.size := by have := hbelk.size; have := HMAP.out.lt; omega
                      have hlook : ∀ x : Ext (wr.heap.size + 1) (wr.alloc (.cells (rowCs r) 61)), (Instr.lookup 56 (.map (some B)) (.agg #[.int .u32 r.sample, .int .u32 r.analyte]) false).run Tryd.prog x.world = .ok (.agg (rowCs r)) x.world := fun x => by
                        have hmx : MapAt x.world B nB m := ((HMAP.out.below hbelk HMAP.out.lt).below ((Below.refl _ _).alloc (Nat.le_refl _) _) hBl).below x.below (by omega)
                        have := hmx.look hro.sample hro.analyte
                        rw [hlk] at this
                        exact this
                      have hself := eqB_refl r
                      clear hlk
                      go_upto_region 20 with fail
                      refine wp_region_ext (wr.heap.size + 1) (by kernel_rfl) (by kernel_rfl) ?_
                      repeat (go_big_quiet_step (fail))
                      refine wpQuiet_nil ?_
                      intro _ hw'
                      obtain ⟨x, hw2⟩ := hw'
                      subst hw2
                      obtain ⟨w9, hb9⟩ := x
                      simp only []
                      go_wp2
                      go_roundg (no - (k + 1))
                      case measure => omega
                      case rel => exact ⟨k + 1, by omega, rfl, by go_num, (hbelk.alloc hbelk.size _).trans (hb9.mono (by have := hbelk.size; omega))⟩
                    · go_wp2
                      go_meet
                      case rel => exact HK7.out.next hbelk
                  --E
              case rest =>
              as_aux_lemma =>
              have hk8 := hcut
              clear hk7 happ hts
              cases hoB : ordB ts with
              | false =>
                as_aux_lemma =>
                --B
                go_upto_region 27 with (first | (go_at_call 17; refine (differ_is _ _ _ _ _ rs rs hk8.left hk8.left HLA.out HLA.out [] 0 (differ_self rs) rfl).mono ?_; rintro e w9 ⟨a9, cap9, rfl, h9, hbel9⟩; have hk9 := hk8.next hbel9) | (go_at_call 18; refine (reconcile_is _ _ _ _ _ rs rs hk9.left hk9.left HLA.out HLA.out [] 0 (reconcile_self rs) rfl).mono ?_; rintro e w10 ⟨a10, cap10, rfl, h10, hbel10⟩; have hk10 := hk9.next hbel10))
                go_wp2_with (go_at_call 13; refine (inKeyOrder_is _ _ _ _ hk10.right hoB).mono ?_; rintro e w11 ⟨rfl, hbel11⟩; have hk11 := hk10.next hbel11)
                go_roundg (n - (q + 1))
                case measure => omega
                case rel => exact ⟨q + 1, by omega, rfl, by go_num, hk11.below⟩
                --E
              | true =>
                as_aux_lemma =>
                have HRB := hide (rise_of_ordB hoB)
                obtain ⟨xs, hX⟩ : ∃ xs, differ rs ts = xs := ⟨_, rfl⟩
                obtain ⟨ys, hY⟩ : ∃ ys, reconcile rs ts = ys := ⟨_, rfl⟩
                obtain ⟨hmlen, hmat⟩ := match_at HRA.out HRB.out hX hY
                have HAD0 := apply_differ HRA.out HRB.out
                have hdl := differ_len rs ts
                have hHLA := HLA.out
                have hHLB := HLB.out
                rw [hX] at HAD0 hdl
                obtain ⟨nd, hnd⟩ : ∃ nd, xs.length = nd := ⟨_, rfl⟩
                have HX := hide hX
                have HY := hide hY
                have HXn := hide hnd
                have HYn : Hid (ys.length = nd) := by show _ = _; rw [hmlen, hnd]
                have HXl : Hid (xs.length ≤ 131072) := by show _ ≤ _; omega
                have HTl : Hid (ts.length ≤ 140737488355328) := by show _ ≤ _; omega
                have HAD := hide HAD0
                have HMT := hide hmat
                have hnd1 : nd ≤ 131072 := by omega
                clear HAD0 hX hY hnd hdl hHLA hHLB hmlen hmat
                go_upto_region 27 with (first | (go_at_call 17; refine (differ_is _ _ _ _ _ rs rs hk8.left hk8.left HLA.out HLA.out [] 0 (differ_self rs) rfl).mono ?_; rintro e w9 ⟨a9, cap9, rfl, h9, hbel9⟩; have hk9 := hk8.next hbel9) | (go_at_call 18; refine (reconcile_is _ _ _ _ _ rs rs hk9.left hk9.left HLA.out HLA.out [] 0 (reconcile_self rs) rfl).mono ?_; rintro e w10 ⟨a10, cap10, rfl, h10, hbel10⟩; have hk10 := hk9.next hbel10))
                go_upto_region 28 with (go_at_call 13; refine (inKeyOrder_is _ _ _ _ hk10.right hoB).mono ?_; rintro e w11 ⟨rfl, hbel11⟩; have hk11 := hk10.next hbel11)
                go_upto_region 29 with (go_at_call 17; refine (differ_is _ _ _ _ _ rs ts hk11.left hk11.right HLA.out HLB.out xs nd HX.out HXn.out).mono ?_; rintro e w12 ⟨a12, cap12, rfl, hch12, hbel12⟩; have hk12 := hk11.next hbel12)
                go_upto_region 30 with (go_at_call 14; refine (apply_some _ _ _ _ _ rs xs ts hk12.left hch12 HLA'.out HXl.out HAD.out HTl.out).mono ?_; rintro e w13 ⟨back, rfl, hback, hbel13⟩; have hk13 := hk12.next hbel13)
                go_upto_region 32 with (go_at_call 16; refine (sameList_is _ _ _ _ _ ts hback hk13.right).mono ?_; rintro e w14 ⟨rfl, hbel14⟩; have hk14 := hk13.next hbel14)
                go_upto_region 35 with (go_at_call 18; refine (reconcile_is _ _ _ _ _ rs ts hk14.left hk14.right HLA.out HLB.out ys nd HY.out HYn.out).mono ?_; rintro e w15 ⟨a15, cap15, rfl, hdf15, hbel15⟩; have hk15 := hk14.next hbel15)
                go_wp2
                obtain ⟨bd, offd, hrd, had, hcd⟩ := RArr.parts' hdf15 HYn.out
                obtain ⟨bl, offl, hrl, hal, hcl⟩ := RArr.parts' (RArr.below (RArr.below (RArr.below hch12 hbel13) hbel14) hbel15) HXn.out
                obtain ⟨na, hna⟩ : ∃ na, rs.length = na := ⟨_, rfl⟩
                obtain ⟨nb, hnb⟩ : ∃ nb, ts.length = nb := ⟨_, rfl⟩
                obtain ⟨aA, capA, bA, offA, hvA, hrA, haA, hcA⟩ := RArr.parts hk15.left na hna
                obtain ⟨aB, capB, bB, offB, hvB, hrB, haB, hcB⟩ := RArr.parts hk15.right nb hnb
                have HNA := hide hna
                have HNB := hide hnb
                have HK15 := hide hk15.below
                have hiD := run_indexAt_arr (P := Tryd.prog) (cap := cap15) Tryd.underlying65 Tryd.size69 (fun h => (had h).1)
                have hiL := run_indexAt_arr (P := Tryd.prog) (cap := cap12) Tryd.underlying36 Tryd.size71 (fun h => (hal h).1)
                have hiA := run_indexAt_arr (P := Tryd.prog) (cap := capA) Tryd.underlying51 Tryd.size61 (fun h => (haA h).1)
                have hiB := run_indexAt_arr (P := Tryd.prog) (cap := capB) Tryd.underlying51 Tryd.size61 (fun h => (haB h).1)
                have HBD : Hid (0 < nd → bd < w15.heap.size) := fun h => (had h).2
                have HBL : Hid (0 < nd → bl < w15.heap.size) := fun h => (hal h).2
                have HBA : Hid (0 < na → bA < w15.heap.size) := fun h => (haA h).2
                have HBB : Hid (0 < nb → bB < w15.heap.size) := fun h => (haB h).2
                have HCD := hide hcd
                have HCL := hide hcl
                have HCA := hide hcA
                have HCB := hide hcB
                clear had hal haA haB hcd hcl hcA hcB hna hnb h9 h10 hbel9 hbel10 hbel11 hbel12 hbel13 hbel14 hbel15 hk8 hk9 hk10 hk11 hk12 hk13 hk14 hk15 hch12 hback hdf15 hcut
                subst hvA hvB
                go_loopg [157] nd (fun gk j W => ∃ k : Nat, k ≤ nd ∧ gk = nd - k ∧ j = .int .i64 k ∧ Below w15.heap.size w15 W)
                case atStart => exact ⟨0, by omega, by omega, rfl, Below.refl _ _⟩
                case round =>
                  as_aux_lemma =>
                  obtain ⟨k, hk, rfl, rfl, hbelk⟩ := hrel
                  by_cases hkn : k < nd
                  · have hkx : k < xs.length := by rw [HXn.out]; exact hkn
                    have hky : k < ys.length := by rw [HYn.out]; exact hkn
                    have hb1 := HBD.out (by omega)
                    have hb2 := HBL.out (by omega)
                    have hmt := HMT.out k hky hkx
                    have cd : rng wr bd (offd + k * 5) 5 = some (diffCs ys[k]) := by rw [rng_of_block (hbelk.block _ hb1)]; exact HCD.out k hky
                    have cl : rng wr bl (offl + k * 14) 14 = some (changeCs xs[k]) := by rw [rng_of_block (hbelk.block _ hb2)]; exact HCL.out k hkx
                    generalize ys[k] = d at *
                    generalize xs[k] = c at *
                    obtain ⟨x1, x2, x3, x4, x5⟩ := d
                    obtain ⟨h1, h2, h3, h4, h5⟩ := hmt
                    simp only at h1 h2 h3 h4 h5
                    have d0 : wr.cell? ⟨bd, offd + k * 5, none⟩ = some (.int .u8 x1) := (rng_cell cd).2 0 (by decide)
                    have d1 : wr.cell? ⟨bd, offd + k * 5 + 1, none⟩ = some (.int .u32 x2) := (rng_cell cd).2 1 (by decide)
                    have d2 : wr.cell? ⟨bd, offd + k * 5 + 2, none⟩ = some (.int .u32 x3) := (rng_cell cd).2 2 (by decide)
                    have d3 : wr.cell? ⟨bd, offd + k * 5 + 3, none⟩ = some (.int .u32 x4) := (rng_cell cd).2 3 (by decide)
                    have d4 : wr.cell? ⟨bd, offd + k * 5 + 4, none⟩ = some (.int .u32 x5) := (rng_cell cd).2 4 (by decide)
                    subst h1 h2 h3
                    have H4 := hide h4
                    have H5 := hide h5
                    clear h4 h5 cd
                    have hbw1 : bd < wr.heap.size := by have := hbelk.size; omega
                    have hbw2 : bl < wr.heap.size := by have := hbelk.size; omega
                    go_upto_region 42 with fail
                    obtain ⟨W4, hW4⟩ : ∃ W4, W4 = (wr.alloc (.cells #[.int .u8 c.action, .int .u32 c.row.sample, .int .u32 c.row.analyte, .int .u32 x4, .int .u32 x5] 69)).alloc (.cells (changeCs c) 71) := ⟨_, rfl⟩
                    rw [← hW4]
                    have hb4 : Below w15.heap.size w15 W4 := by rw [hW4]; exact (hbelk.alloc hbelk.size _).alloc (by have := hbelk.size; simp; omega) _
                    obtain ⟨gD, hgD⟩ : ∃ gD, wr.heap.size = gD := ⟨_, rfl⟩
                    have hg4 : gD < W4.heap.size := by rw [hW4, ← hgD]; simp; omega
                    have F1 : Hid (W4.cell? ⟨gD, 1, none⟩ = some (.int .u32 c.row.sample)) := by show _ = _; rw [hW4, ← hgD]; exact cell_alloc2 _ _ _ _ _ _
                    have F2 : Hid (W4.cell? ⟨gD, 2, none⟩ = some (.int .u32 c.row.analyte)) := by show _ = _; rw [hW4, ← hgD]; exact cell_alloc2 _ _ _ _ _ _
                    have F3 : Hid (W4.cell? ⟨gD, 3, none⟩ = some (.int .u32 x4)) := by show _ = _; rw [hW4, ← hgD]; exact cell_alloc2 _ _ _ _ _ _
                    have F4 : Hid (W4.cell? ⟨gD, 4, none⟩ = some (.int .u32 x5)) := by show _ = _; rw [hW4, ← hgD]; exact cell_alloc2 _ _ _ _ _ _
                    rw [hgD]
                    clear hW4 hgD d0 d1 d2 d3 d4 cl
                    generalize c.row.sample = sa at *
                    generalize c.row.analyte = an at *
                    go_wp2
                    go_loopg [21, 189] na (fun gk x j W => ∃ i : Nat, i ≤ na ∧ gk = na - i ∧ j = .int .i64 i ∧ x = .int .u32 (verGo sa an 0 (rs.take i)) ∧ Below W4.heap.size W4 W)
                    case atStart => exact ⟨0, by omega, by omega, rfl, rfl, Below.refl _ _⟩
                    case round =>
                      as_aux_lemma =>
                      obtain ⟨i, hi', rfl, rfl, rfl, hbi⟩ := hrel
                      by_cases hin : i < na
                      ·
                        have hir : i < rs.length := by rw [HNA.out]; exact hin
                        have hbA := HBA.out (by omega)
                        have ca : rng wr bA (offA + i * 13) 13 = some (rowCs rs[i]) := by rw [rng_of_block (hbi.block _ (by have := hb4.size; omega)), rng_of_block (hb4.block _ hbA)]; exact HCA.out i hir
                        have f1 : wr.cell? ⟨gD, 1, none⟩ = some (.int .u32 sa) := by rw [hbi.cell (p := ⟨gD, 1, none⟩) hg4]; exact F1.out
                        have f2 : wr.cell? ⟨gD, 2, none⟩ = some (.int .u32 an) := by rw [hbi.cell (p := ⟨gD, 2, none⟩) hg4]; exact F2.out
                        have HV := hide (verGo_take sa an hir)
                        generalize rs[i] = r at *
                        have hbw3 : bA < wr.heap.size := by have := hbi.size; have := hb4.size; omega
                        have hbw4 : gD < wr.heap.size := by have := hbi.size; omega
                        by_cases hs1 : r.sample = sa
                        · have t1 : (r.sample == sa) = true := by simpa using hs1
                          by_cases ha1 : r.analyte = an
                          · have t2 : (r.analyte == an) = true := by simpa using ha1
                            have HK1 : Hid (atK sa an r = true) := atK_true.2 ⟨hs1, ha1⟩
                            clear hs1 ha1
                            go_wp2
                            go_roundg (na - (i + 1))
                            case measure => omega
                            case rel => exact ⟨i + 1, by omega, rfl, by go_num, by rw [HV.out, HK1.out, if_pos rfl], hbi.alloc hbi.size _⟩
                          · have t2 : (r.analyte == an) = false := by simpa using ha1
                            have HK1 : Hid (atK sa an r = false) := atK_false.2 fun h => ha1 h.2
                            clear hs1 ha1
                            go_wp2
                            go_roundg (na - (i + 1))
                            case measure => omega
                            case rel => exact ⟨i + 1, by omega, rfl, by go_num, by rw [HV.out, HK1.out, if_neg (by simp)], hbi.alloc hbi.size _⟩
                        · have t1 : (r.sample == sa) = false := by simpa using hs1
                          have HK1 : Hid (atK sa an r = false) := atK_false.2 fun h => hs1 h.1
                          clear hs1
                          go_wp2
                          go_roundg (na - (i + 1))
                          case measure => omega
                          case rel => exact ⟨i + 1, by omega, rfl, by go_num, by rw [HV.out, HK1.out, if_neg (by simp)], hbi.alloc hbi.size _⟩
                      · have hv4 : verGo sa an 0 (rs.take i) = x4 := by rw [H4.out]; exact verGo_all HRA.out sa an (by rw [HNA.out]; omega)
                        rw [hv4]
                        go_wp2
                        go_loopg [22, 210] nb (fun gk x j W => ∃ i : Nat, i ≤ nb ∧ gk = nb - i ∧ j = .int .i64 i ∧ x = .int .u32 (verGo sa an 0 (ts.take i)) ∧ Below W4.heap.size W4 W)
                        case atStart => exact ⟨0, by omega, by omega, rfl, rfl, hbi⟩
                        case round =>
                          as_aux_lemma =>
                          obtain ⟨i2, hi2, rfl, rfl, rfl, hbi2⟩ := hrel
                          by_cases hin : i2 < nb
                          ·
                            have hir : i2 < ts.length := by rw [HNB.out]; exact hin
                            have hbA := HBB.out (by omega)
                            have ca : rng wr bB (offB + i2 * 13) 13 = some (rowCs ts[i2]) := by rw [rng_of_block (hbi2.block _ (by have := hb4.size; omega)), rng_of_block (hb4.block _ hbA)]; exact HCB.out i2 hir
                            have f1 : wr.cell? ⟨gD, 1, none⟩ = some (.int .u32 sa) := by rw [hbi2.cell (p := ⟨gD, 1, none⟩) hg4]; exact F1.out
                            have f2 : wr.cell? ⟨gD, 2, none⟩ = some (.int .u32 an) := by rw [hbi2.cell (p := ⟨gD, 2, none⟩) hg4]; exact F2.out
                            have HV := hide (verGo_take sa an hir)
                            generalize ts[i2] = r at *
                            have hbw3 : bB < wr.heap.size := by have := hbi2.size; have := hb4.size; omega
                            have hbw4 : gD < wr.heap.size := by have := hbi2.size; omega
                            by_cases hs1 : r.sample = sa
                            · have t1 : (r.sample == sa) = true := by simpa using hs1
                              by_cases ha1 : r.analyte = an
                              · have t2 : (r.analyte == an) = true := by simpa using ha1
                                have HK1 : Hid (atK sa an r = true) := atK_true.2 ⟨hs1, ha1⟩
                                clear hs1 ha1
                                go_wp2
                                go_roundg (nb - (i2 + 1))
                                case measure => omega
                                case rel => exact ⟨i2 + 1, by omega, rfl, by go_num, by rw [HV.out, HK1.out, if_pos rfl], hbi2.alloc hbi2.size _⟩
                              · have t2 : (r.analyte == an) = false := by simpa using ha1
                                have HK1 : Hid (atK sa an r = false) := atK_false.2 fun h => ha1 h.2
                                clear hs1 ha1
                                go_wp2
                                go_roundg (nb - (i2 + 1))
                                case measure => omega
                                case rel => exact ⟨i2 + 1, by omega, rfl, by go_num, by rw [HV.out, HK1.out, if_neg (by simp)], hbi2.alloc hbi2.size _⟩
                            · have t1 : (r.sample == sa) = false := by simpa using hs1
                              have HK1 : Hid (atK sa an r = false) := atK_false.2 fun h => hs1 h.1
                              clear hs1
                              go_wp2
                              go_roundg (nb - (i2 + 1))
                              case measure => omega
                              case rel => exact ⟨i2 + 1, by omega, rfl, by go_num, by rw [HV.out, HK1.out, if_neg (by simp)], hbi2.alloc hbi2.size _⟩
                          · have hv5 : verGo sa an 0 (ts.take i2) = x5 := by rw [H5.out]; exact verGo_all HRB.out sa an (by rw [HNB.out]; omega)
                            rw [hv5]
                            have f3 : wr.cell? ⟨gD, 3, none⟩ = some (.int .u32 x4) := by rw [hbi2.cell (p := ⟨gD, 3, none⟩) hg4]; exact F3.out
                            have f4 : wr.cell? ⟨gD, 4, none⟩ = some (.int .u32 x5) := by rw [hbi2.cell (p := ⟨gD, 4, none⟩) hg4]; exact F4.out
                            go_wp2
                            go_roundg (nd - (k + 1))
                            case measure => omega
                            case rel => exact ⟨k + 1, by omega, rfl, by go_num, hb4.trans (hbi2.mono hb4.size)⟩
                  · go_wp2
                    go_roundg (n - (q + 1))
                    case measure => omega
                    case rel => exact ⟨q + 1, by omega, rfl, by go_num, HK15.out.trans (hbelk.mono HK15.out.size)⟩
      · go_wp2
        go_ret
        exact ⟨rfl, hbel⟩
  · have hd : decide (total s ≤ 65536) = false := by simpa using hsm
    rw [hd] at HSm
    go_enter Tryd.func4, Tryd.ntmps4
    go_wp2_with (go_at_call 6; refine HSm.out.mono ?_; rintro e w1 ⟨rfl, rfl⟩)
    go_ret
    exact ⟨rfl, Below.refl _ _⟩

end Go.Proofs.Qxb6500666aDoor
