/- The model's Valid, walked. (Made by tools/mk_modelvalid.py.) -/
import Derived.Test.Qxb6500666aGreatDoorCheckWalk
namespace Go.Proofs.Qxb6500666aGreatDoor
open Go.RowKit
attribute [local go_sem ↓] exec_ldRow exec_ldChange exec_ldFile exec_stRow exec_stChange exec_stFile exec_bsRow exec_bsChange exec_slRows exec_bdChange exec_eqlRow exec_neqRow
attribute [local go_sem] run_ldRow run_ldChange run_ldFile run_stRow run_stChange run_stFile run_bsRow run_bsChange run_bdChange run_neqRow run_eqlRow rng_alloc_lt rng_alloc_at rng_drew rng_drewN rng_setCell_other rng_setRow_other whole_alloc_lt whole_alloc_at whole_drew whole_setCell_other whole_setRow_other setRow_alloc_at setRow_alloc_lt setRow_drew rowCs_size rowCs_ones rowCs_0 rowCs_1 rowCs_2 rowCs_3 rowCs_4 rowCs_5 rowCs_6 rowCs_7 rowCs_8 rowCs_9 rowCs_10 rowCs_11 rowCs_12 rowCs_all changeCs_size changeCs_ones changeCs_0 changeCs_row changeCs_all fileCs_size fileCs_ones fileCs_0 fileCs_1 fileCs_2 fileCs_3 fileCs_4 fileCs_all ext_const Ext.cell Ext.frozen Ext.rng Ext.whole

set_option maxRecDepth 100000 in
theorem before_calls (a b : Row) (w : World) (t : Bool) (ht : t = true ↔ keyLt a b) : Calls Tryz.prog 153 #[.agg (rowCs a), .agg (rowCs b)] w fun e w' => e = .returned (.bool t) ∧ Below w.heap.size w w' := by
  have hb := below2 w (.cells (rowCs a) 109) (.cells (rowCs b) 109)
  by_cases h1 : a.sample < b.sample
  · obtain rfl : t = true := ht.2 (Or.inl h1)
    clear ht
    go_enter Tryz.func153, Tryz.ntmps153
    go_wp2
    go_ret
    exact ⟨rfl, hb⟩
  · by_cases h2 : a.sample = b.sample
    · have h2b : (a.sample == b.sample) = true := by simpa using h2
      by_cases h3 : a.analyte < b.analyte
      · obtain rfl : t = true := ht.2 (Or.inr ⟨h2, h3⟩)
        clear ht h2
        go_enter Tryz.func153, Tryz.ntmps153
        go_wp2
        go_ret
        exact ⟨rfl, hb⟩
      · obtain rfl : t = false := bool_of_not ht fun h => by unfold keyLt at h; omega
        have h3b : decide (a.analyte < b.analyte) = false := by simpa using h3
        clear ht h2 h3
        go_enter Tryz.func153, Tryz.ntmps153
        go_wp2
        go_ret
        exact ⟨rfl, hb⟩
    · have h2b : (a.sample == b.sample) = false := by simpa using h2
      obtain rfl : t = false := bool_of_not ht fun h => by unfold keyLt at h; omega
      clear ht h2
      go_enter Tryz.func153, Tryz.ntmps153
      go_wp2
      go_ret
      exact ⟨rfl, hb⟩

theorem cmpK_lt {a b : Row} : cmpK a b < 0 ↔ keyLt a b := by
  unfold cmpK keyLt
  split
  · simp_all
  · split
    · simp; omega
    · split
      · simp; omega
      · split <;> simp <;> omega

set_option maxRecDepth 100000 in
set_option maxHeartbeats 4000000 in
theorem valid_calls (w : World) (ok : Nat → Prop) (k s i bb : Int) (a : Option Addr) (cap : Nat) (cs : List Change) (h : ChangesAt w ok (.slice a cs.length cap) cs) (hS : U32 s) (hOk : ∀ c ∈ cs, c.Ok) (res : Value)
    (h1 : FileOk k s i bb cs → res = .bool true) (h2 : ¬ FileOk k s i bb cs → res = .bool false) :
    Calls Tryz.prog 85 #[.agg (fileCs k s i bb a cs.length cap)] w fun e w' => e = .returned res ∧ Below w.heap.size w w' := by
  obtain ⟨a', cap', b, off, hv, hl, hm, hr, ha, hc⟩ := RArr.lt h
  simp only [Value.slice.injEq, true_and] at hv
  obtain ⟨rfl, rfl⟩ := hv
  obtain ⟨n, hn⟩ : ∃ n, cs.length = n := ⟨_, rfl⟩
  have Hn := hide hn
  have hs0 : 0 ≤ s := hS.1
  have HOk := hide hOk
  have HR1 := hide h1
  have HR2 := hide h2
  rw [hn] at hl hr ha ⊢
  have hi := run_indexAt_arr (P := Tryz.prog) (cap := cap) Tryz.underlying57 Tryz.size111 (fun h => (ha h).1)
  have HB : Hid (0 < n → b < w.heap.size) := fun h => (ha h).2.2
  have HC := hide hc
  clear ha hc hn hm hl h h1 h2 hOk hS
  go_enter Tryz.func85, Tryz.ntmps85
  go_upto_region 1 with fail
  obtain ⟨G, hG⟩ : ∃ G, w.heap.size = G := ⟨_, rfl⟩
  have hb0 : Below w.heap.size w (w.alloc (.cells (fileCs k s i bb a n cap) 59)) := (Below.refl _ _).alloc (Nat.le_refl _) _
  have hf0 : (w.alloc (.cells (fileCs k s i bb a n cap) 59)).heap[w.heap.size]? = some (.cells (fileCs k s i bb a n cap) 59 (0, 0)) := heap_alloc_at _ _
  have hz0 : w.heap.size < (w.alloc (.cells (fileCs k s i bb a n cap) 59)).heap.size := by simp
  generalize w.alloc (.cells (fileCs k s i bb a n cap) 59) = W0 at *
  rw [hG] at hf0 hz0 ⊢
  have HG := hide hG
  clear hG
  have f0 := cells_all hf0
  obtain ⟨kOk, hk⟩ : ∃ t : Bool, t = (k == 67 || k == 73) := ⟨_, rfl⟩
  have HK : Hid (kOk = true ↔ KindOk k) := by show _ ↔ _; rw [hk]; simp [KindOk]
  go_cut [13] (fun t W => t = .bool (!kOk) ∧ W0 = W)
  case first =>
    as_aux_lemma =>
    by_cases t1 : k = 67
    · obtain rfl : kOk = true := by rw [hk, t1]; rfl
      clear hk
      subst t1
      go_wp2
      go_meet
      case rel => exact ⟨rfl, rfl⟩
    · have u1 : (k != 67) = true := by simpa using t1
      by_cases t2 : k = 73
      · obtain rfl : kOk = true := by rw [hk, t2]; rfl
        clear hk
        subst t2
        go_wp2
        go_meet
        case rel => exact ⟨rfl, rfl⟩
      · have u2 : (k != 73) = true := by simpa using t2
        obtain rfl : kOk = false := by rw [hk]; simp [t1, t2]
        clear hk t1 t2
        go_wp2
        go_meet
        case rel => exact ⟨rfl, rfl⟩
  case rest =>
  as_aux_lemma =>
  obtain ⟨rfl, rfl⟩ := hcut
  clear hk
  cases kOk with
  | false =>
    as_aux_lemma =>
    go_wp2
    go_ret
    exact ⟨by rw [HR2.out fun h => by have := HK.out.2 h.1; simp at this]; rfl, hb0⟩
  | true =>
  as_aux_lemma =>
  have hKind := HK.out.1 rfl
  go_upto_region 3 with fail
  obtain ⟨nb, hnb⟩ := bool_for (¬ NumsOk s i bb)
  have HNB := hide hnb
  clear hnb
  go_cut [33] (fun t W => t = .bool nb ∧ W0 = W)
  case first =>
    as_aux_lemma =>
    by_cases g1 : s < 1
    · obtain rfl : nb = true := HNB.out.2 fun h => by have := h.1; omega
      go_wp2
      go_meet
      case rel => exact ⟨rfl, rfl⟩
    · by_cases g2 : s ≤ bb
      · obtain rfl : nb = true := HNB.out.2 fun h => by have := h.2.1; omega
        go_wp2
        go_meet
        case rel => exact ⟨rfl, rfl⟩
      · by_cases g3 : i < 0
        · obtain rfl : nb = true := HNB.out.2 fun h => by have := h.2.2.1; omega
          go_wp2
          go_meet
          case rel => exact ⟨rfl, rfl⟩
        · by_cases g4 : 157785119 < i
          · obtain rfl : nb = true := HNB.out.2 fun h => by have := h.2.2.2; omega
            have g4' : decide (157785119 < i) = true := by simpa using g4
            clear g4
            go_wp2
            go_meet
            case rel => exact ⟨rfl, rfl⟩
          · obtain rfl : nb = false := bool_of_not HNB.out fun h => h ⟨by omega, by omega, by omega, by omega⟩
            have g4' : decide (157785119 < i) = false := by simpa using g4
            clear g4
            go_wp2
            go_meet
            case rel => exact ⟨rfl, rfl⟩
  case rest =>
  as_aux_lemma =>
  obtain ⟨rfl, rfl⟩ := hcut
  cases nb with
  | true =>
    as_aux_lemma =>
    have HE := hide (HR2.out fun h => HNB.out.1 rfl h.2.1)
    clear HNB
    go_wp2
    go_ret
    exact ⟨by rw [HE.out]; rfl, hb0⟩
  | false =>
  as_aux_lemma =>
  have hNums : NumsOk s i bb := Classical.byContradiction fun h => by have := HNB.out.2 h; simp at this
  go_upto_region 5 with fail
  obtain ⟨big, hbig⟩ : ∃ t : Bool, t = decide (k = 73 ∧ 20 < n) := ⟨_, rfl⟩
  have HBg : Hid (big = true ↔ k = 73 ∧ 20 < n) := by show _ ↔ _; rw [hbig]; simp
  clear hbig
  go_cut [42] (fun t W => t = .bool big ∧ W0 = W)
  case first =>
    as_aux_lemma =>
    cases t1 : (k == 73) with
    | false =>
      as_aux_lemma =>
      obtain rfl : big = false := bool_of_not HBg.out fun h => by have := h.1; simp [this] at t1
      go_wp2
      go_meet
      case rel => exact ⟨rfl, rfl⟩
    | true =>
      as_aux_lemma =>
      have t2 : decide ((20 : Int) < n) = big := by
        rw [Bool.eq_iff_iff, HBg.out]
        have : k = 73 := by simpa using t1
        simp [this]
        omega
      go_wp2
      go_meet
      case rel => exact ⟨by first | rfl | rw [t2], rfl⟩
  case rest =>
  as_aux_lemma =>
  obtain ⟨rfl, rfl⟩ := hcut
  cases big with
  | true =>
    as_aux_lemma =>
    have HE := hide (HR2.out fun h => h.2.2.1 (by rw [Hn.out]; exact HBg.out.1 rfl))
    clear HBg
    go_wp2
    go_ret
    exact ⟨by rw [HE.out]; rfl, hb0⟩
  | false =>
  as_aux_lemma =>
  have hBig : ¬ (k = 73 ∧ 20 < cs.length) := fun h => by
    rw [Hn.out] at h
    have := HBg.out.2 h
    simp at this
  have HF := hide f0
  have hKF := hide hKind
  have hNF := hide hNums
  have hBF := hide hBig
  clear hKind hNums hBig f0 HK HNB HBg
  have f0 : W0.cell? ⟨G, 0, none⟩ = some (.int .u8 k) := HF.out 0
  have f4 : W0.cell? ⟨G, 4, none⟩ = some (.slice a n cap) := HF.out 4
  go_wp2
  clear f0 f4
  go_loopg [46] n (fun g j W => ∃ q : Nat, q ≤ n ∧ g = n - q ∧ j = .int .i64 q ∧ Below W0.heap.size W0 W ∧ ∀ p (h : p < cs.length), p < q → LineOk k cs p h)
  case atStart => exact ⟨0, by omega, by omega, rfl, Below.refl _ _, fun p _ h => absurd h (by omega)⟩
  case round =>
    as_aux_lemma =>
    obtain ⟨q, hq, rfl, rfl, hbq, hlines⟩ := hrel
    have HL := hide hlines
    clear hlines
    by_cases hlt : q < n
    · have hqs : q < cs.length := by rw [Hn.out]; exact hlt
      have hbb := HB.out (by omega)
      have c0 : rng wr b (off + q * 14) 14 = some (changeCs cs[q]) := by rw [rng_of_block (hbq.block _ (by have := hb0.size; omega)), rng_of_block (hb0.block _ hbb)]; exact HC.out q hqs
      have HLine : Hid (LineOk k cs q hqs ↔ ActOk k cs[q].action ∧ RowOk cs[q].row ∧ prevBad (prevAt cs q) cs[q].row = false) := Iff.rfl
      have hcm : cs[q] ∈ cs := List.getElem_mem hqs
      generalize cs[q] = c at *
      have hbw : b < wr.heap.size := by have := hb0.size; have := hbq.size; omega
      have hgw : G < wr.heap.size := by have := hbq.size; omega
      have HrOk := hide (HOk.out c hcm).row
      clear hcm
      go_upto_region 11 with fail
      obtain ⟨D, hD⟩ : ∃ D, wr.heap.size = D := ⟨_, rfl⟩
      have hbr : Below W0.heap.size W0 ((wr.alloc (.cells (changeCs c) 111)).alloc (.cells (rowCs c.row) 109)) := (hbq.alloc hbq.size _).alloc (by have := hbq.size; simp; omega) _
      have hk0 : ((wr.alloc (.cells (changeCs c) 111)).alloc (.cells (rowCs c.row) 109)).heap[wr.heap.size]? = some (.cells (changeCs c) 111 (0, 0)) := by rw [Below.heap_alloc _ _ _ (by simp), heap_alloc_at]
      have hk1 : ((wr.alloc (.cells (changeCs c) 111)).alloc (.cells (rowCs c.row) 109)).heap[wr.heap.size + 1]? = some (.cells (rowCs c.row) 109 (0, 0)) := by
        have := heap_alloc_at (wr.alloc (.cells (changeCs c) 111)) (.cells (rowCs c.row) 109)
        simpa using this
      have f0 : ((wr.alloc (.cells (changeCs c) 111)).alloc (.cells (rowCs c.row) 109)).cell? ⟨G, 0, none⟩ = some (.int .u8 k) := by rw [hbr.cell (p := ⟨G, 0, none⟩) hz0]; exact HF.out 0
      have f4 : ((wr.alloc (.cells (changeCs c) 111)).alloc (.cells (rowCs c.row) 109)).cell? ⟨G, 4, none⟩ = some (.slice a n cap) := by rw [hbr.cell (p := ⟨G, 4, none⟩) hz0]; exact HF.out 4
      have hsz : G < ((wr.alloc (.cells (changeCs c) 111)).alloc (.cells (rowCs c.row) 109)).heap.size := by have := hbr.size; omega
      generalize (wr.alloc (.cells (changeCs c) 111)).alloc (.cells (rowCs c.row) 109) = W1 at *
      rw [hD] at hk0 hk1 ⊢
      clear hD
      have d0 := cells_all hk0
      have d1 := cells_all hk1
      have hrx : rng W1 (D + 1) 0 13 = some (rowCs c.row) := by unfold rng; rw [hk1]; rfl
      have hDl : D + 1 < W1.heap.size := (Array.getElem?_eq_some_iff.1 hk1).1
      generalize c.row = r at *
      generalize hac : c.action = ac at *
      have d00 : W1.cell? ⟨D, 0, none⟩ = some (.int .u8 ac) := by rw [d0, changeCs_0, hac]
      clear d0 hac
      obtain ⟨b1, hb1⟩ := bool_for (k = 67 ∧ ac ≠ 82)
      have H1 := hide hb1
      clear hb1
      go_cut [60] (fun t W => t = .bool b1 ∧ W1 = W)
      case first =>
        as_aux_lemma =>
        rcases hKF.out with rfl | rfl
        · by_cases g : ac = 82
          · obtain rfl : b1 = false := bool_of_not H1.out fun h => h.2 g
            have g' : (ac != 82) = false := by simpa using g
            clear g
            go_wp2
            go_meet
            case rel => exact ⟨rfl, rfl⟩
          · obtain rfl : b1 = true := H1.out.2 ⟨rfl, g⟩
            have g' : (ac != 82) = true := by simpa using g
            clear g
            go_wp2
            go_meet
            case rel => exact ⟨rfl, rfl⟩
        · obtain rfl : b1 = false := bool_of_not H1.out fun h => absurd h.1 (by decide)
          go_wp2
          go_meet
          case rel => exact ⟨rfl, rfl⟩
      case rest =>
      as_aux_lemma =>
      obtain ⟨rfl, rfl⟩ := hcut
      cases b1 with
      | true =>
        as_aux_lemma =>
        have HE := hide (HR2.out fun h => by
          have g := H1.out.1 rfl
          rcases (HLine.out.1 (h.2.2.2 q hqs)).1 with ⟨_, h2⟩ | ⟨h1, _⟩
          · exact g.2 h2
          · exact h1 g.1)
        clear H1
        go_wp2
        go_ret
        exact ⟨by rw [HE.out]; rfl, hb0.trans (hbr.mono hb0.size)⟩
      | false =>
      as_aux_lemma =>
      have hA1 : ¬ (k = 67 ∧ ac ≠ 82) := fun h => by have := H1.out.2 h; simp at this
      have HA1 := hide hA1
      clear H1 hA1
      go_upto_region 13 with fail
      obtain ⟨b2, hb2⟩ := bool_for (k = 73 ∧ ac ≠ 78 ∧ ac ≠ 67 ∧ ac ≠ 87)
      have H2 := hide hb2
      clear hb2
      go_cut [78] (fun t W => t = .bool b2 ∧ W1 = W)
      case first =>
        as_aux_lemma =>
        rcases hKF.out with rfl | rfl
        · obtain rfl : b2 = false := bool_of_not H2.out fun h => absurd h.1 (by decide)
          go_wp2
          go_meet
          case rel => exact ⟨rfl, rfl⟩
        · by_cases g1 : ac = 78
          · obtain rfl : b2 = false := bool_of_not H2.out fun h => h.2.1 g1
            have g' : (ac != 78) = false := by simpa using g1
            clear g1
            go_wp2
            go_meet
            case rel => exact ⟨rfl, rfl⟩
          · have g1' : (ac != 78) = true := by simpa using g1
            by_cases g2 : ac = 67
            · obtain rfl : b2 = false := bool_of_not H2.out fun h => h.2.2.1 g2
              have g' : (ac != 67) = false := by simpa using g2
              clear g1 g2
              go_wp2
              go_meet
              case rel => exact ⟨rfl, rfl⟩
            · have g2' : (ac != 67) = true := by simpa using g2
              by_cases g3 : ac = 87
              · obtain rfl : b2 = false := bool_of_not H2.out fun h => h.2.2.2 g3
                have g' : (ac != 87) = false := by simpa using g3
                clear g1 g2 g3
                go_wp2
                go_meet
                case rel => exact ⟨rfl, rfl⟩
              · obtain rfl : b2 = true := H2.out.2 ⟨rfl, g1, g2, g3⟩
                have g' : (ac != 87) = true := by simpa using g3
                clear g1 g2 g3
                go_wp2
                go_meet
                case rel => exact ⟨rfl, rfl⟩
      case rest =>
      as_aux_lemma =>
      obtain ⟨rfl, rfl⟩ := hcut
      cases b2 with
      | true =>
        as_aux_lemma =>
        have HE := hide (HR2.out fun h => by
          have g := H2.out.1 rfl
          rcases (HLine.out.1 (h.2.2.2 q hqs)).1 with ⟨h1, _⟩ | ⟨_, h2⟩
          · rw [g.1] at h1; exact absurd h1 (by decide)
          · rcases h2 with h2 | h2 | h2
            · exact g.2.1 h2
            · exact g.2.2.1 h2
            · exact g.2.2.2 h2)
        clear H2
        go_wp2
        go_ret
        exact ⟨by rw [HE.out]; rfl, hb0.trans (hbr.mono hb0.size)⟩
      | false =>
      as_aux_lemma =>
      have hA2 : ¬ (k = 73 ∧ ac ≠ 78 ∧ ac ≠ 67 ∧ ac ≠ 87) := fun h => by have := H2.out.2 h; simp at this
      have HA2 : Hid (ActOk k ac) := by
        show ActOk k ac
        have h1 := HA1.out
        unfold ActOk
        rcases hKF.out with rfl | rfl <;> omega
      clear H2 hA2
      go_upto_region 15 with fail
      obtain ⟨b3, hb3⟩ := bool_for (¬ IdsOk r)
      have H3 := hide hb3
      clear hb3
      have r1 := HrOk.out.sample.1
      have r2 := HrOk.out.analyte.1
      have r3 := HrOk.out.version.1
      have r4 := HrOk.out.subject.1
      have r5 := HrOk.out.site.1
      have r6 := HrOk.out.visit.1
      have r7 := HrOk.out.proto.1
      have r8 := HrOk.out.kit.1
      go_cut [116] (fun t W => t = .bool b3 ∧ W1 = W)
      case first =>
        as_aux_lemma =>
        by_cases g0 : r.sample < 1
        · obtain rfl : b3 = true := H3.out.2 fun h => by have := h.1; omega
          go_wp2
          go_meet
          case rel => exact ⟨rfl, rfl⟩
        · by_cases g1 : r.analyte < 1
          · obtain rfl : b3 = true := H3.out.2 fun h => by have := h.2.1; omega
            go_wp2
            go_meet
            case rel => exact ⟨rfl, rfl⟩
          · by_cases g2 : r.version < 1
            · obtain rfl : b3 = true := H3.out.2 fun h => by have := h.2.2.1; omega
              go_wp2
              go_meet
              case rel => exact ⟨rfl, rfl⟩
            · by_cases g3 : r.subject < 1
              · obtain rfl : b3 = true := H3.out.2 fun h => by have := h.2.2.2.1; omega
                go_wp2
                go_meet
                case rel => exact ⟨rfl, rfl⟩
              · by_cases g4 : r.site < 1
                · obtain rfl : b3 = true := H3.out.2 fun h => by have := h.2.2.2.2.1; omega
                  go_wp2
                  go_meet
                  case rel => exact ⟨rfl, rfl⟩
                · by_cases g5 : r.visit < 1
                  · obtain rfl : b3 = true := H3.out.2 fun h => by have := h.2.2.2.2.2.1; omega
                    go_wp2
                    go_meet
                    case rel => exact ⟨rfl, rfl⟩
                  · by_cases g6 : r.proto < 1
                    · obtain rfl : b3 = true := H3.out.2 fun h => by have := h.2.2.2.2.2.2.1; omega
                      go_wp2
                      go_meet
                      case rel => exact ⟨rfl, rfl⟩
                    · by_cases g7 : r.kit < 1
                      · obtain rfl : b3 = true := H3.out.2 fun h => by have := h.2.2.2.2.2.2.2; omega
                        have g7' : decide (r.kit < 1) = true := by simpa using g7
                        clear g7
                        go_wp2
                        go_meet
                        case rel => exact ⟨rfl, rfl⟩
                      · obtain rfl : b3 = false := bool_of_not H3.out fun h => h ⟨by omega, by omega, by omega, by omega, by omega, by omega, by omega, by omega⟩
                        have g7' : decide (r.kit < 1) = false := by simpa using g7
                        clear g7
                        go_wp2
                        go_meet
                        case rel => exact ⟨rfl, rfl⟩
      case rest =>
      as_aux_lemma =>
      obtain ⟨rfl, rfl⟩ := hcut
      cases b3 with
      | true =>
        as_aux_lemma =>
        have HE := hide (HR2.out fun h => H3.out.1 rfl (HLine.out.1 (h.2.2.2 q hqs)).2.1.1)
        clear H3
        go_wp2
        go_ret
        exact ⟨by rw [HE.out]; rfl, hb0.trans (hbr.mono hb0.size)⟩
      | false =>
      as_aux_lemma =>
      have HIds : Hid (IdsOk r) := by
        show IdsOk r
        exact Classical.byContradiction fun h => by have := H3.out.2 h; simp at this
      clear H3
      clear r1 r2 r3 r4 r5 r6 r7 r8
      go_upto_region 17 with fail
      obtain ⟨b4, hb4⟩ := bool_for (¬ (1 ≤ r.cls ∧ r.cls ≤ 3))
      have H4 := hide hb4
      clear hb4
      go_cut [124] (fun t W => t = .bool b4 ∧ W1 = W)
      case first =>
        as_aux_lemma =>
        by_cases g1 : r.cls < 1
        · obtain rfl : b4 = true := H4.out.2 fun h => by omega
          go_wp2
          go_meet
          case rel => exact ⟨rfl, rfl⟩
        · by_cases g2 : 3 < r.cls
          · obtain rfl : b4 = true := H4.out.2 fun h => by omega
            have g2' : decide (3 < r.cls) = true := by simpa using g2
            clear g2
            go_wp2
            go_meet
            case rel => exact ⟨rfl, rfl⟩
          · obtain rfl : b4 = false := bool_of_not H4.out fun h => h ⟨by omega, by omega⟩
            have g2' : decide (3 < r.cls) = false := by simpa using g2
            clear g2
            go_wp2
            go_meet
            case rel => exact ⟨rfl, rfl⟩
      case rest =>
      as_aux_lemma =>
      obtain ⟨rfl, rfl⟩ := hcut
      cases b4 with
      | true =>
        as_aux_lemma =>
        have HE := hide (HR2.out fun h => H4.out.1 rfl (HLine.out.1 (h.2.2.2 q hqs)).2.1.2.1)
        clear H4
        go_wp2
        go_ret
        exact ⟨by rw [HE.out]; rfl, hb0.trans (hbr.mono hb0.size)⟩
      | false =>
      as_aux_lemma =>
      have HCls : Hid (1 ≤ r.cls ∧ r.cls ≤ 3) := by
        show 1 ≤ r.cls ∧ r.cls ≤ 3
        exact Classical.byContradiction fun h => by have := H4.out.2 h; simp at this
      clear H4
      go_upto_region 19 with fail
      obtain ⟨b5, hb5⟩ := bool_for (¬ TimesOk r)
      have H5 := hide hb5
      clear hb5
      go_cut [146] (fun t W => t = .bool b5 ∧ W1 = W)
      case first =>
        as_aux_lemma =>
        by_cases g1 : r.collected < 0
        · obtain rfl : b5 = true := H5.out.2 fun h => by have := h.1; omega
          go_wp2
          go_meet
          case rel => exact ⟨rfl, rfl⟩
        · by_cases g2 : r.received < r.collected
          · obtain rfl : b5 = true := H5.out.2 fun h => by have := h.2.1; omega
            go_wp2
            go_meet
            case rel => exact ⟨rfl, rfl⟩
          · by_cases g3 : r.tested < r.received
            · obtain rfl : b5 = true := H5.out.2 fun h => by have := h.2.2.1; omega
              go_wp2
              go_meet
              case rel => exact ⟨rfl, rfl⟩
            · by_cases g4 : 157785119 < r.tested
              · obtain rfl : b5 = true := H5.out.2 fun h => by have := h.2.2.2; omega
                have g4' : decide (157785119 < r.tested) = true := by simpa using g4
                clear g4
                go_wp2
                go_meet
                case rel => exact ⟨rfl, rfl⟩
              · obtain rfl : b5 = false := bool_of_not H5.out fun h => h ⟨by omega, by omega, by omega, by omega⟩
                have g4' : decide (157785119 < r.tested) = false := by simpa using g4
                clear g4
                go_wp2
                go_meet
                case rel => exact ⟨rfl, rfl⟩
      case rest =>
      as_aux_lemma =>
      obtain ⟨rfl, rfl⟩ := hcut
      cases b5 with
      | true =>
        as_aux_lemma =>
        have HE := hide (HR2.out fun h => H5.out.1 rfl (HLine.out.1 (h.2.2.2 q hqs)).2.1.2.2)
        clear H5
        go_wp2
        go_ret
        exact ⟨by rw [HE.out]; rfl, hb0.trans (hbr.mono hb0.size)⟩
      | false =>
      as_aux_lemma =>
      have HTimes : Hid (TimesOk r) := by
        show TimesOk r
        exact Classical.byContradiction fun h => by have := H5.out.2 h; simp at this
      clear H5
      have hbX : b < W1.heap.size := by have := hb0.size; have := hbr.size; omega
      go_upto_region 21 with fail
      obtain ⟨tp, htp⟩ : ∃ t, prevBad (prevAt cs q) r = t := ⟨_, rfl⟩
      have HTP := hide htp
      clear htp
      go_cut [160] (fun t W => t = .bool tp ∧ Below W1.heap.size W1 W)
      case first =>
        as_aux_lemma =>
        by_cases hq0 : 0 < q
        · have c1 := HC.out (q - 1) (by rw [Hn.out]; omega)
          have HPP : Hid (prevAt cs q = some (cs[q - 1]'(by rw [Hn.out]; omega)).row) := prevAt_pos cs q hq0 (by rw [Hn.out]; omega)
          generalize cs[q - 1]'(by rw [Hn.out]; omega) = cp at *
          have c2 := rng_sub (o := 1) (m := 13) c1 (by decide)
          rw [changeCs_row, ← rng_of_block (hb0.block _ hbb), ← rng_of_block (hbr.block _ (by have := hb0.size; omega))] at c2
          have e1 : ((q : Int) - 1).toNat = q - 1 := by omega
          have hi1 := fun w => hi w ((q : Int) - 1) (by omega) (by omega)
          simp only [e1] at hi1
          have HT2 : Hid (tp = decide (0 ≤ cmpK cp.row r)) := by show _ = _; rw [← HTP.out, HPP.out]; rfl
          have HT3 : Hid ((!tp) = true ↔ keyLt cp.row r) := by show _ ↔ _; rw [HT2.out, ← cmpK_lt]; simp
          clear e1 c1
          refine wp_region_ext W1.heap.size (by kernel_rfl) (by kernel_rfl) ?_
          repeat (go_big_quiet_step ((go_at_call 153; refine ext_call (Nat.le_refl _) (before_calls _ _ _ (!tp) HT3.out))))
          refine wpQuiet_nil ?_
          intro _ hw'
          obtain ⟨x, hw2⟩ := hw'
          subst hw2
          obtain ⟨w2, hb2⟩ := x
          simp only []
          go_wp2_with fail
          go_meet
          case rel => exact ⟨by first | rfl | rw [Bool.not_not] | rw [HT2.out], hb2⟩
        · have hq0' : q = 0 := by omega
          subst hq0'
          have HT2 : Hid (tp = false) := by show _ = _; rw [← HTP.out, prevAt_zero]; rfl
          refine wp_region_ext W1.heap.size (by kernel_rfl) (by kernel_rfl) ?_
          repeat (go_big_quiet_step (fail))
          refine wpQuiet_nil ?_
          intro _ hw'
          obtain ⟨x, hw2⟩ := hw'
          subst hw2
          obtain ⟨w2, hb2⟩ := x
          simp only []
          go_wp2_with fail
          go_meet
          case rel => exact ⟨by first | rfl | rw [Bool.not_not] | rw [HT2.out], hb2⟩
      case rest =>
      as_aux_lemma =>
      obtain ⟨rfl, hbd⟩ := hcut
      have hby := hbr.trans (hbd.mono hbr.size)
      cases tp with
      | true =>
        as_aux_lemma =>
        have HE := hide (HR2.out fun h => by
          have := (HLine.out.1 (h.2.2.2 q hqs)).2.2
          rw [HTP.out] at this
          cases this)
        clear HTP
        go_wp2
        go_ret
        exact ⟨by rw [HE.out]; rfl, hb0.trans (hby.mono hb0.size)⟩
      | false =>
        as_aux_lemma =>
        have HLq := hide (HLine.out.2 ⟨HA2.out, ⟨HIds.out, HCls.out, HTimes.out⟩, HTP.out⟩)
        clear HTP
        go_wp2
        go_roundg (n - (q + 1))
        case measure => omega
        case rel =>
          refine ⟨q + 1, by omega, rfl, by go_num, hby, fun p h h' => ?_⟩
          rcases Nat.lt_or_ge p q with h3 | h3
          · exact HL.out p h h3
          · obtain rfl : p = q := by omega
            exact HLq.out
    · have HE := hide (HR1.out ⟨hKF.out, hNF.out, hBF.out, fun p h => HL.out p h (by rw [Hn.out] at h; omega)⟩)
      go_wp2
      go_ret
      exact ⟨by rw [HE.out]; rfl, hb0.trans (hbq.mono hb0.size)⟩

end Go.Proofs.Qxb6500666aGreatDoor
