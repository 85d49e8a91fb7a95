/- checkFile and the model's Valid, walked. -/
import Derived.Test.Qxb6500666aGreatDoorValidWalk
import Derived.Test.Qxb6500666aGreatDoorPlainApply
import Derived.Test.Qxb6500666aGreatDoorExt
namespace Go.Proofs.Qxb6500666aGreatDoor
open Go.RowKit
attribute [local go_sem ↓] exec_ldRow exec_ldChange exec_ldFile exec_stRow exec_stChange exec_stFile exec_bsRow exec_bsChange exec_slRows exec_bdChange exec_eqlRow exec_neqRow
attribute [local go_sem] run_ldRow run_ldChange run_ldFile run_stRow run_stChange run_stFile run_bsRow run_bsChange run_bdChange run_neqRow run_eqlRow rng_alloc_lt rng_alloc_at rng_drew rng_drewN rng_setCell_other rng_setRow_other whole_alloc_lt whole_alloc_at whole_drew whole_setCell_other whole_setRow_other setRow_alloc_at setRow_alloc_lt setRow_drew rowCs_size rowCs_ones rowCs_0 rowCs_1 rowCs_2 rowCs_3 rowCs_4 rowCs_5 rowCs_6 rowCs_7 rowCs_8 rowCs_9 rowCs_10 rowCs_11 rowCs_12 rowCs_all changeCs_size changeCs_ones changeCs_0 changeCs_row changeCs_all fileCs_size fileCs_ones fileCs_0 fileCs_1 fileCs_2 fileCs_3 fileCs_4 fileCs_all ext_const Ext.cell Ext.frozen Ext.rng Ext.whole

theorem bool_for (p : Prop) : ∃ t : Bool, t = true ↔ p := by
  by_cases h : p
  · exact ⟨true, by simp [h]⟩
  · exact ⟨false, by simp [h]⟩

def LineOk (k : Int) (cs : List Change) (q : Nat) (h : q < cs.length) : Prop := ActOk k cs[q].action ∧ RowOk cs[q].row ∧ prevBad (prevAt cs q) cs[q].row = false
def FileOk (k s i b : Int) (cs : List Change) : Prop := KindOk k ∧ NumsOk s i b ∧ ¬ (k = 73 ∧ 20 < cs.length) ∧ ∀ q (h : q < cs.length), LineOk k cs q h

set_option maxRecDepth 100000 in
set_option maxHeartbeats 4000000 in
theorem checkFile_calls (w : World) (ok : Nat → Prop) (k s i bb : Int) (a : Option Addr) (cap : Nat) (cs : List Change) (h : ChangesAt w ok (.slice a cs.length cap) cs) (res : Value)
    (h1 : FileOk k s i bb cs → res = .nilIface) (h2 : ¬ FileOk k s i bb cs → res = .iface 63 (.int .u8 29)) :
    Calls Tryz.prog 114 #[.agg (fileCs k s i bb a cs.length cap)] w fun e w' => e = .returned res ∧ Below w.heap.size w w' := by
  obtain ⟨a', cap', b, off, hv, hl, hm, hr, ha, hc⟩ := RArr.lt h
  simp only [Value.slice.injEq, true_and] at hv
  obtain ⟨rfl, rfl⟩ := hv
  obtain ⟨n, hn⟩ : ∃ n, cs.length = n := ⟨_, rfl⟩
  have Hn := hide hn
  have HR1 := hide h1
  have HR2 := hide h2
  rw [hn] at hl hr ha ⊢
  have hi := run_indexAt_arr (P := Tryz.prog) (cap := cap) Tryz.underlying57 Tryz.size111 (fun h => (ha h).1)
  have HB : Hid (0 < n → b < w.heap.size) := fun h => (ha h).2.2
  have HC := hide hc
  clear ha hc hn hm hl h h1 h2
  go_enter Tryz.func114, Tryz.ntmps114
  go_upto_region 1 with fail
  obtain ⟨G, hG⟩ : ∃ G, w.heap.size = G := ⟨_, rfl⟩
  have hb0 : Below w.heap.size w (w.alloc (.cells (fileCs k s i bb a n cap) 59)) := (Below.refl _ _).alloc (Nat.le_refl _) _
  have hf0 : (w.alloc (.cells (fileCs k s i bb a n cap) 59)).heap[w.heap.size]? = some (.cells (fileCs k s i bb a n cap) 59 (0, 0)) := heap_alloc_at _ _
  have hz0 : w.heap.size < (w.alloc (.cells (fileCs k s i bb a n cap) 59)).heap.size := by simp
  generalize w.alloc (.cells (fileCs k s i bb a n cap) 59) = W0 at *
  rw [hG] at hf0 hz0 ⊢
  have HG := hide hG
  clear hG
  have f0 := cells_all hf0
  obtain ⟨kOk, hk⟩ : ∃ t : Bool, t = (k == 67 || k == 73) := ⟨_, rfl⟩
  have HK : Hid (kOk = true ↔ KindOk k) := by show _ ↔ _; rw [hk]; simp [KindOk]
  go_cut [5] (fun t W => t = .bool (!kOk) ∧ W0 = W)
  case first =>
    by_cases t1 : k = 67
    · obtain rfl : kOk = true := by rw [hk, t1]; rfl
      clear hk
      subst t1
      go_wp2
      go_meet
      case rel => exact ⟨rfl, rfl⟩
    · have u1 : (k != 67) = true := by simpa using t1
      by_cases t2 : k = 73
      · obtain rfl : kOk = true := by rw [hk, t2]; rfl
        clear hk
        subst t2
        go_wp2
        go_meet
        case rel => exact ⟨rfl, rfl⟩
      · have u2 : (k != 73) = true := by simpa using t2
        obtain rfl : kOk = false := by rw [hk]; simp [t1, t2]
        clear hk t1 t2
        go_wp2
        go_meet
        case rel => exact ⟨rfl, rfl⟩
  case rest =>
  obtain ⟨rfl, rfl⟩ := hcut
  clear hk
  cases kOk with
  | false =>
    go_wp2
    go_ret
    exact ⟨by rw [HR2.out fun h => by have := HK.out.2 h.1; simp at this]; rfl, hb0⟩
  | true =>
  have hKind := HK.out.1 rfl
  go_upto_region 3 with fail
  obtain ⟨nOk, hn3⟩ : ∃ t : Bool, t = decide (s ≠ 0 ∧ bb < s ∧ 0 ≤ i ∧ i ≤ 157785119) := ⟨_, rfl⟩
  have HN : Hid (nOk = true ↔ NumsOk s i bb) := by show _ ↔ _; rw [hn3]; simp [NumsOk]
  clear hn3
  go_cut [15] (fun t W => t = .bool (!nOk) ∧ W0 = W)
  case first =>
    cases t1 : (s == 0) with
    | true =>
      obtain rfl : nOk = false := bool_of_not HN.out fun h => h.1 (by simpa using t1)
      go_wp2
      go_meet
      case rel => exact ⟨rfl, rfl⟩
    | false =>
      by_cases t2 : s ≤ bb
      · obtain rfl : nOk = false := bool_of_not HN.out fun h => by have := h.2.1; omega
        go_wp2
        go_meet
        case rel => exact ⟨rfl, rfl⟩
      · obtain ⟨mi, hmi⟩ : ∃ t : Bool, t = decide (0 ≤ i ∧ i ≤ 157785119) := ⟨_, rfl⟩
        have HM : Hid (mi = true ↔ 0 ≤ i ∧ i ≤ 157785119) := by show _ ↔ _; rw [hmi]; simp
        clear hmi
        obtain rfl : nOk = mi := by
          rw [Bool.eq_iff_iff, HN.out, HM.out]
          have t3 : s ≠ 0 := by simpa using t1
          constructor
          · exact fun h => h.2.2
          · exact fun h => ⟨t3, by omega, h⟩
        go_wp2_with (go_at_call 159; refine (validMinute_calls _ _ nOk HM.out).mono ?_; rintro e w1 ⟨rfl, rfl⟩)
        go_meet
        case rel => exact ⟨rfl, rfl⟩
  case rest =>
  obtain ⟨rfl, rfl⟩ := hcut
  cases nOk with
  | false =>
    go_wp2
    go_ret
    exact ⟨by rw [HR2.out fun h => by have := HN.out.2 h.2.1; simp at this]; rfl, hb0⟩
  | true =>
  have hNums := HN.out.1 rfl
  go_upto_region 5 with fail
  obtain ⟨big, hbig⟩ : ∃ t : Bool, t = decide (k = 73 ∧ 20 < n) := ⟨_, rfl⟩
  have HBg : Hid (big = true ↔ k = 73 ∧ 20 < n) := by show _ ↔ _; rw [hbig]; simp
  clear hbig
  go_cut [33] (fun t W => t = .bool big ∧ W0 = W)
  case first =>
    cases t1 : (k == 73) with
    | false =>
      obtain rfl : big = false := bool_of_not HBg.out fun h => by have := h.1; simp [this] at t1
      go_wp2
      go_meet
      case rel => exact ⟨rfl, rfl⟩
    | true =>
      have t2 : decide ((20 : Int) < n) = big := by
        rw [Bool.eq_iff_iff, HBg.out]
        have : k = 73 := by simpa using t1
        simp [this]
        omega
      go_wp2
      go_meet
      case rel => exact ⟨by first | rfl | rw [t2], rfl⟩
  case rest =>
  obtain ⟨rfl, rfl⟩ := hcut
  cases big with
  | true =>
    have HE := hide (HR2.out fun h => h.2.2.1 (by rw [Hn.out]; exact HBg.out.1 rfl))
    clear HBg
    go_wp2
    go_ret
    exact ⟨by rw [HE.out]; rfl, hb0⟩
  | false =>
  have hBig : ¬ (k = 73 ∧ 20 < cs.length) := fun h => by
    rw [Hn.out] at h
    have := HBg.out.2 h
    simp at this
  have HF := hide f0
  have hKF := hide hKind
  have hNF := hide hNums
  have hBF := hide hBig
  clear hKind hNums hBig f0 HK HN HBg
  have f0 : W0.cell? ⟨G, 0, none⟩ = some (.int .u8 k) := HF.out 0
  have f4 : W0.cell? ⟨G, 4, none⟩ = some (.slice a n cap) := HF.out 4
  go_wp2
  clear f0 f4
  go_loopg [47] n (fun g j W => ∃ q : Nat, q ≤ n ∧ g = n - q ∧ j = .int .i64 q ∧ Below W0.heap.size W0 W ∧ ∀ p (h : p < cs.length), p < q → LineOk k cs p h)
  case atStart => exact ⟨0, by omega, by omega, rfl, Below.refl _ _, fun p _ h => absurd h (by omega)⟩
  case round =>
    obtain ⟨q, hq, rfl, rfl, hbq, hlines⟩ := hrel
    have HL := hide hlines
    clear hlines
    by_cases hlt : q < n
    · have hqs : q < cs.length := by rw [Hn.out]; exact hlt
      have hbb := HB.out (by omega)
      have c0 : rng wr b (off + q * 14) 14 = some (changeCs cs[q]) := by rw [rng_of_block (hbq.block _ (by have := hb0.size; omega)), rng_of_block (hb0.block _ hbb)]; exact HC.out q hqs
      have f0 : wr.cell? ⟨G, 0, none⟩ = some (.int .u8 k) := by rw [hbq.cell (p := ⟨G, 0, none⟩) hz0]; exact HF.out 0
      have f4 : wr.cell? ⟨G, 4, none⟩ = some (.slice a n cap) := by rw [hbq.cell (p := ⟨G, 4, none⟩) hz0]; exact HF.out 4
      have HLine : Hid (LineOk k cs q hqs ↔ ActOk k cs[q].action ∧ RowOk cs[q].row ∧ prevBad (prevAt cs q) cs[q].row = false) := Iff.rfl
      generalize cs[q] = c at *
      have hbw : b < wr.heap.size := by have := hb0.size; have := hbq.size; omega
      have hgw : G < wr.heap.size := by have := hbq.size; omega
      obtain ⟨ta, hta⟩ : ∃ t : Bool, t = true ↔ ActOk k c.action := bool_for _
      obtain ⟨tr, htr⟩ : ∃ t : Bool, t = true ↔ RowOk c.row := bool_for _
      have HTA := hide hta
      have HTR := hide htr
      clear hta htr
      go_upto_region 10 with fail
      have hbr : Below W0.heap.size W0 (wr.alloc (.cells (changeCs c) 111)) := hbq.alloc hbq.size _
      go_cut [63] (fun t W => t = .bool (!(ta && tr)) ∧ Below (wr.heap.size + 1) (wr.alloc (.cells (changeCs c) 111)) W)
      case first =>
        cases ta with
        | false =>
          go_wp2_with (go_at_call 110; refine (validAction_calls _ _ _ false HTA.out).mono ?_; rintro e w1 ⟨rfl, rfl⟩)
          go_meet
          case rel => exact ⟨rfl, Below.refl _ _⟩
        | true =>
          go_wp2_with (first
            | (go_at_call 110; refine (validAction_calls _ _ _ true HTA.out).mono ?_; rintro e w1 ⟨rfl, rfl⟩)
            | (go_at_call 111; refine (validRow_calls _ _ tr HTR.out).mono ?_; rintro e w1 ⟨rfl, hb1⟩))
          go_meet
          case rel => exact ⟨rfl, by simpa using hb1⟩
      case rest =>
      obtain ⟨rfl, hbc⟩ := hcut
      have hbx : Below W0.heap.size W0 wc := hbr.trans (hbc.mono (by have := hbq.size; omega))
      have hAll : (!(ta && tr)) = true ∨ (ta = true ∧ tr = true) := by cases ta <;> cases tr <;> simp
      rcases hAll with hAll | ⟨rfl, rfl⟩
      · rw [hAll]
        have HE := hide (HR2.out fun h => by
          obtain ⟨g1, g2, _⟩ := HLine.out.1 (h.2.2.2 q hqs)
          rw [HTA.out.2 g1, HTR.out.2 g2] at hAll
          simp at hAll)
        clear hAll
        go_wp2
        go_ret
        exact ⟨by rw [HE.out]; rfl, hb0.trans (hbx.mono hb0.size)⟩
      have hAct := HTA.out.1 rfl
      have hRow := HTR.out.1 rfl
      have HA2 := hide hAct
      have HR3 := hide hRow
      clear HTA HTR hAct hRow
      have hcx : rng wc wr.heap.size 0 14 = some (changeCs c) := by
        rw [rng_of_block (hbc.block _ (by omega)), rng_alloc_at _ _ _ _ _ _ _ rfl, changeCs_size]
        rfl
      have hrx := rng_sub (o := 1) (m := 13) hcx (by decide)
      rw [changeCs_row] at hrx
      have hcl : wr.heap.size < wc.heap.size := rng_lt hcx
      generalize wr.heap.size = D at *
      have f0 : wc.cell? ⟨G, 0, none⟩ = some (.int .u8 k) := by rw [hbx.cell (p := ⟨G, 0, none⟩) hz0]; exact HF.out 0
      have f4 : wc.cell? ⟨G, 4, none⟩ = some (.slice a n cap) := by rw [hbx.cell (p := ⟨G, 4, none⟩) hz0]; exact HF.out 4
      have hgx : G < wc.heap.size := by omega
      have hbX : b < wc.heap.size := by have := hb0.size; have := hbx.size; omega
      go_upto_region 12 with fail
      obtain ⟨tp, htp⟩ : ∃ t, prevBad (prevAt cs q) c.row = t := ⟨_, rfl⟩
      have HTP := hide htp
      clear htp
      go_cut [79] (fun t W => t = .bool tp ∧ Below wc.heap.size wc W)
      case first =>
        by_cases hq0 : 0 < q
        · have c1 := HC.out (q - 1) (by rw [Hn.out]; omega)
          have HPP : Hid (prevAt cs q = some (cs[q - 1]'(by rw [Hn.out]; omega)).row) := prevAt_pos cs q hq0 (by rw [Hn.out]; omega)
          generalize cs[q - 1]'(by rw [Hn.out]; omega) = cp at *
          have c2 := rng_sub (o := 1) (m := 13) c1 (by decide)
          rw [changeCs_row, ← rng_of_block (hb0.block _ hbb), ← rng_of_block (hbx.block _ (by have := hb0.size; omega))] at c2
          have e1 : ((q : Int) - 1).toNat = q - 1 := by omega
          have hi1 := fun w => hi w ((q : Int) - 1) (by omega) (by omega)
          simp only [e1] at hi1
          have HT2 : Hid (tp = decide (0 ≤ cmpK cp.row c.row)) := by show _ = _; rw [← HTP.out, HPP.out]; rfl
          clear e1 c1
          refine wp_region_ext wc.heap.size (by kernel_rfl) (by kernel_rfl) ?_
          repeat (go_big_quiet_step ((go_at_call 112; refine ext_call (Nat.le_refl _) (compareKeys_calls _ _ _))))
          refine wpQuiet_nil ?_
          intro _ hw'
          obtain ⟨x, hw2⟩ := hw'
          subst hw2
          obtain ⟨w2, hb2⟩ := x
          simp only []
          go_wp2_with fail
          go_meet
          case rel => exact ⟨by rw [HT2.out], hb2⟩
        · have hq0' : q = 0 := by omega
          subst hq0'
          have HT2 : Hid (tp = false) := by show _ = _; rw [← HTP.out, prevAt_zero]; rfl
          refine wp_region_ext wc.heap.size (by kernel_rfl) (by kernel_rfl) ?_
          repeat (go_big_quiet_step ((go_at_call 112; refine ext_call (Nat.le_refl _) (compareKeys_calls _ _ _))))
          refine wpQuiet_nil ?_
          intro _ hw'
          obtain ⟨x, hw2⟩ := hw'
          subst hw2
          obtain ⟨w2, hb2⟩ := x
          simp only []
          go_wp2_with fail
          go_meet
          case rel => exact ⟨by rw [HT2.out], hb2⟩
      case rest =>
      obtain ⟨rfl, hbd⟩ := hcut
      have hby := hbx.trans (hbd.mono hbx.size)
      cases tp with
      | true =>
        have HE := hide (HR2.out fun h => by
          have := (HLine.out.1 (h.2.2.2 q hqs)).2.2
          rw [HTP.out] at this
          cases this)
        clear HTP
        go_wp2
        go_ret
        exact ⟨by rw [HE.out]; rfl, hb0.trans (hby.mono hb0.size)⟩
      | false =>
        have HLq := hide (HLine.out.2 ⟨HA2.out, HR3.out, HTP.out⟩)
        clear HTP
        go_wp2
        go_roundg (n - (q + 1))
        case measure => omega
        case rel =>
          refine ⟨q + 1, by omega, rfl, by go_num, hby, fun p h h' => ?_⟩
          rcases Nat.lt_or_ge p q with h3 | h3
          · exact HL.out p h h3
          · obtain rfl : p = q := by omega
            exact HLq.out
    · have HE := hide (HR1.out ⟨hKF.out, hNF.out, hBF.out, fun p h => HL.out p h (by rw [Hn.out] at h; omega)⟩)
      go_wp2
      go_ret
      exact ⟨by rw [HE.out]; rfl, hb0.trans (hbq.mono hb0.size)⟩

end Go.Proofs.Qxb6500666aGreatDoor
