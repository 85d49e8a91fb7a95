/- The ledger's Find, walked; sameList of rows. -/
import Derived.Test.Qxb6500666aGreatDoorLedM
import Derived.BigQuiet
namespace Go.Proofs.Qxb6500666aGreatDoor
open Go.RowKit
attribute [local go_sem ↓] exec_ldRow exec_ldChange exec_ldFile exec_stRow exec_stChange exec_stFile exec_bsRow exec_bsChange exec_slRows exec_bdChange exec_eqlRow exec_neqRow
attribute [local go_sem] run_ldRow run_ldChange run_ldFile run_stRow run_stChange run_stFile run_bsRow run_bsChange run_bdChange run_neqRow run_eqlRow rng_alloc_lt rng_alloc_at rng_drew rng_drewN rng_setCell_other rng_setRow_other whole_alloc_lt whole_alloc_at whole_drew whole_setCell_other whole_setRow_other setRow_alloc_at setRow_alloc_lt setRow_drew rowCs_size rowCs_ones rowCs_0 rowCs_1 rowCs_2 rowCs_3 rowCs_4 rowCs_5 rowCs_6 rowCs_7 rowCs_8 rowCs_9 rowCs_10 rowCs_11 rowCs_12 rowCs_all changeCs_size changeCs_ones changeCs_0 changeCs_row changeCs_all fileCs_size fileCs_ones fileCs_0 fileCs_1 fileCs_2 fileCs_3 fileCs_4 fileCs_all ext_const Ext.cell Ext.frozen Ext.rng Ext.whole

/-- Where the search stands. -/
structure FS (rows : List Row) (key : Row) (lo hi : Nat) : Prop where
  le : lo ≤ hi ∧ hi ≤ rows.length
  l : ∀ i (h : i < rows.length), i < lo → cmpK rows[i] key < 0
  r : ∀ i (h : i < rows.length), hi ≤ i → ¬ cmpK rows[i] key < 0
theorem FS.start (rows : List Row) (key : Row) : FS rows key 0 rows.length := ⟨⟨Nat.zero_le _, Nat.le_refl _⟩, fun _ _ h => absurd h (by omega), fun _ h h' => absurd h (by omega)⟩
section
variable {rows : List Row} {key : Row} {lo hi mid : Nat}
theorem FS.up (h : FS rows key lo hi) (hr : Rise rows) (hm : mid < hi) (hl : mid < rows.length) (hc : cmpK rows[mid] key < 0) : FS rows key (mid + 1) hi := by
  refine ⟨⟨by omega, h.le.2⟩, fun i hi' hlt => ?_, h.r⟩
  by_cases he : i = mid
  · subst he
    exact hc
  · exact cmpK_neg.2 (keyLt_trans (List.pairwise_iff_getElem.1 hr i mid hi' hl (by omega)) (cmpK_neg.1 hc))
theorem FS.down (h : FS rows key lo hi) (hr : Rise rows) (hm : lo ≤ mid) (hm2 : mid < hi) (hl : mid < rows.length) (hc : ¬ cmpK rows[mid] key < 0) : FS rows key lo mid := by
  refine ⟨⟨hm, by omega⟩, h.l, fun i hi' hge => ?_⟩
  by_cases he : i = mid
  · subst he
    exact hc
  · intro hn
    exact hc (cmpK_neg.2 (keyLt_trans (List.pairwise_iff_getElem.1 hr mid i hl hi' (by omega)) (cmpK_neg.1 hn)))
theorem FS.none (h : FS rows key lo lo) (hn : lo < rows.length → ∃ hl : lo < rows.length, cmpK rows[lo] key ≠ 0) (hr : Rise rows) : mlook rows key.sample key.analyte = none := by
  refine mlook_none fun r hm hk => ?_
  obtain ⟨i, hi, rfl⟩ := List.getElem_of_mem hm
  have hz : cmpK rows[i] key = 0 := cmpK_zero.2 hk
  by_cases h1 : i < lo
  · have := h.l i hi h1
    omega
  · obtain ⟨hl, hne⟩ := hn (by omega)
    by_cases he : i = lo
    · subst he
      exact hne hz
    · have h2 := List.pairwise_iff_getElem.1 hr lo i hl hi (by omega)
      have h3 := h.r lo hl (Nat.le_refl _)
      have h4 : keyLt rows[lo] key := by
        unfold keyLt at h2 ⊢
        omega
      exact h3 (cmpK_neg.2 h4)
end
def keyRow (s a : Int) : Row := { zeroRow with sample := s, analyte := a }

def bdKeyS (a b : Value) : Sem Value := Instr.build 109 #[(0, a), (1, b)]
def bdRow0S : Sem Value := Instr.build 109 #[]
section
variable (ρ : Operand → Value) (dst : Option Tmp) (a b : Operand) (ty : TypeId) (pos : String) (after : Array Edge) (guard : Option (Nat × Bool))
theorem exec_bdKey : execOp ρ { dst, op := .build 109 #[(0, a), (1, b)], type := ty, pos, after, guard } = (do pure (.value (← bdKeyS (ρ a) (ρ b)))) := by simp [execOp, bdKeyS]
theorem exec_bdRow0 : execOp ρ { dst, op := .build 109 #[], type := ty, pos, after, guard } = (do pure (.value (← bdRow0S))) := by simp [execOp, bdRow0S]
end
theorem run_bdKey (w : World) (s a : Int) : (bdKeyS (.int .u32 s) (.int .u32 a)).run Tryz.prog w = .ok (.agg (rowCs (keyRow s a))) w := by kernel_rfl
theorem run_bdRow0 (w : World) : bdRow0S.run Tryz.prog w = .ok (.agg (rowCs zeroRow)) w := by kernel_rfl
attribute [local go_sem ↓] exec_bdKey exec_bdRow0
attribute [local go_sem] run_bdKey run_bdRow0

/-- In the midst of Find. -/
structure FN (W U : World) (G : Nat) (L : Led) (v : SV) (key : Row) : Prop where
  led : LedAt U G L v
  kr : U.heap[W.heap.size]? = some (.cells (rowCs zeroRow) 109 (0, 0))
  kk : U.heap[W.heap.size + 1]? = some (.cells (rowCs key) 109 (0, 0))
  bel : Below W.heap.size W U
theorem FN.below {W U U' : World} {G : Nat} {L : Led} {v : SV} {key : Row} (h : FN W U G L v key) (hb : Below U.heap.size U U') : FN W U' G L v key :=
  ⟨h.led.below hb, (hb.block _ (blk_lt h.kr)).trans h.kr, (hb.block _ (blk_lt h.kk)).trans h.kk, h.bel.trans (hb.mono h.bel.size)⟩

set_option maxRecDepth 100000 in
set_option maxHeartbeats 4000000 in
theorem find_calls (W : World) (G : Nat) (L : Led) (v : SV) (s a : Int) (hL : LedAt W G L v) (hr : Rise L.rows) (hrl : L.rows.length ≤ 100000000) :
    Calls Tryz.prog 56 #[.pointer (some ⟨G, 0, none⟩), .int .u32 s, .int .u32 a] W fun e w' => e = .returned (.tuple #[.agg (rowCs ((mlook L.rows s a).getD zeroRow)), .bool (mlook L.rows s a).isSome]) ∧ Below W.heap.size W w' := by
  have HL := hide hL
  have HR := hide hr
  obtain ⟨va, vn, vc⟩ := v
  obtain ⟨ra, rc, rb, ro, re, rl1, rl2, rl3, rha, rhc⟩ := RArr.lt hL.rows
  injection re with re1 re2 re3
  subst re1
  subst re3
  have HVN : Hid (vn = L.rows.length) := re2
  rw [← re2] at rl1 rl3 rha hrl
  have hix := run_indexAt_arr (P := Tryz.prog) (n := vn) (cap := vc) Tryz.underlying150 Tryz.size109 (fun h => (rha h).1)
  have HRB : Hid (0 < vn → rb ≠ G ∧ rb < W.heap.size) := fun h => (rha h).2
  have HRC := hide rhc
  clear hL hr re2 rl1 rl2 rl3 rha rhc
  go_enter Tryz.func56, Tryz.ntmps56
  go_upto_region 2 with fail
  have HF2 : Hid (FN W ((W.alloc (.cells (rowCs zeroRow) 109)).alloc (.cells (rowCs (keyRow s a)) 109)) G L (va, vn, vc) (keyRow s a)) := by
    have hb := below2 W (.cells (rowCs zeroRow) 109) (.cells (rowCs (keyRow s a)) 109)
    refine ⟨HL.out.below hb, ?_, ?_, hb⟩
    · rw [Below.heap_alloc _ _ _ (by simp), heap_alloc_at]
    · have := heap_alloc_at (W.alloc (.cells (rowCs zeroRow) 109)) (.cells (rowCs (keyRow s a)) 109)
      simpa using this
  change Code.wp _ _ _ _ ((W.alloc (.cells (rowCs zeroRow) 109)).alloc (.cells (rowCs (keyRow s a)) 109))
  generalize (W.alloc (.cells (rowCs zeroRow) 109)).alloc (.cells (rowCs (keyRow s a)) 109) = W2 at *
  obtain ⟨-, -, -, g3, gf, hGl⟩ := HF2.out.led.four
  replace g3 : W2.cell? ⟨G, 3, none⟩ = some (.slice va vn vc) := g3
  clear HL
  go_quiet (fail)
  have HF3 := hide (HF2.out.below (below_drewN (Below.refl _ _) nq))
  generalize W2.drewN nq = W3 at *
  clear HF2 g3 gf hGl
  go_upto_region 3 with fail
  go_loopg [9, 10] vn (fun gk x9 x10 wr => ∃ lo hi : Nat, gk = hi - lo ∧ x9 = .int .i64 lo ∧ x10 = .int .i64 hi ∧ lo ≤ hi ∧ hi ≤ vn ∧ Hid (FS L.rows (keyRow s a) lo hi) ∧ Hid (FN W wr G L (va, vn, vc) (keyRow s a)))
  case atStart => exact ⟨0, vn, by omega, rfl, rfl, by omega, by omega, by rw [HVN.out]; exact FS.start _ _, HF3⟩
  case round =>
    clear HF3
    obtain ⟨lo, hi, rfl, rfl, rfl, hlh, hhn, HFS, HFN⟩ := hrel
    obtain ⟨-, -, -, g3, gf, hGl⟩ := HFN.out.led.four
    replace g3 : wr.cell? ⟨G, 3, none⟩ = some (.slice va vn vc) := g3
    have hkk : rng wr (W.heap.size + 1) 0 13 = some (rowCs (keyRow s a)) := rng_whole HFN.out.kk
    have hkl : W.heap.size + 1 < wr.heap.size := blk_lt HFN.out.kk
    by_cases hlt : lo < hi
    · as_aux_lemma =>
      obtain ⟨d, hd⟩ : ∃ d : Nat, d = (hi - lo) / 2 := ⟨_, rfl⟩
      have hquo : Int.tdiv ((hi : Int) - (lo : Int)) 2 = (d : Int) := by rw [Int.tdiv_eq_ediv_of_nonneg (by omega)]; omega
      have hd2 : lo + d < hi := by omega
      have hmr : lo + d < L.rows.length := by rw [← HVN.out]; omega
      clear hd
      obtain ⟨hrg, hrb⟩ := HRB.out (by omega)
      have hrw : rb < wr.heap.size := by have := HFN.out.bel.size; omega
      have hrr : rng wr rb (ro + (lo + d) * 13) 13 = some (rowCs L.rows[lo + d]) := by rw [rng_of_block (HFN.out.bel.block _ hrb)]; exact HRC.out _ hmr
      have hi1 := fun w => hix w ((lo : Int) + (d : Int)) (by omega) (by omega)
      simp only [show ((lo : Int) + (d : Int)).toNat = lo + d by omega] at hi1
      have HUP := hide (fun h => HFS.out.up HR.out hd2 hmr h)
      have HDN := hide (fun h => HFS.out.down HR.out (Nat.le_add_right lo d) hd2 hmr h)
      generalize L.rows[lo + d] = r at *
      clear hix
      go_upto_region 5 with fail
      refine wp_region_ext wr.heap.size (by kernel_rfl) (by kernel_rfl) ?_
      repeat (go_big_quiet_step ((go_at_call 112; refine ext_call (Nat.le_refl _) (compareKeys_calls _ _ _))))
      refine wpQuiet_nil ?_
      intro _ hw'
      obtain ⟨x, hw2⟩ := hw'
      subst hw2
      obtain ⟨w2, hb2⟩ := x
      simp only []
      have HN2 := hide (HFN.out.below hb2)
      by_cases hc : cmpK r (keyRow s a) < 0
      · have HS2 := hide (HUP.out hc)
        clear HUP HDN
        go_wp2
        go_roundg (hi - (lo + d + 1))
        case measure => omega
        case rel => exact ⟨lo + d + 1, hi, rfl, by go_num, rfl, by omega, by omega, HS2, HN2⟩
      · have HS2 := hide (HDN.out hc)
        clear HUP HDN
        go_wp2
        go_roundg (lo + d - lo)
        case measure => omega
        case rel => exact ⟨lo, lo + d, rfl, rfl, by go_num, by omega, by omega, HS2, HN2⟩
    · obtain rfl : lo = hi := by omega
      by_cases hlv : lo < vn
      · have hmr : lo < L.rows.length := by rw [← HVN.out]; omega
        obtain ⟨hrg, hrb⟩ := HRB.out (by omega)
        have hrw : rb < wr.heap.size := by have := HFN.out.bel.size; omega
        have hrr : rng wr rb (ro + lo * 13) 13 = some (rowCs L.rows[lo]) := by rw [rng_of_block (HFN.out.bel.block _ hrb)]; exact HRC.out _ hmr
        have HHIT := hide (fun h => find_hit HR.out (s := s) (a := a) hmr h)
        have HMIS : Hid (cmpK L.rows[lo] (keyRow s a) ≠ 0 → mlook L.rows s a = none) := fun h => HFS.out.none (fun _ => ⟨hmr, h⟩) HR.out
        generalize L.rows[lo] = r at *
        go_upto_region 8 with fail
        by_cases hz : cmpK r (keyRow s a) = 0
        · as_aux_lemma =>
          have dz : (cmpK r (keyRow s a) == 0) = true := by simpa using hz
          have HML : Hid (mlook L.rows s a = some r) := HHIT.out (cmpK_zero.1 hz)
          clear hz HHIT HMIS
          refine wp_region_ext wr.heap.size (by kernel_rfl) (by kernel_rfl) ?_
          repeat (go_big_quiet_step ((go_at_call 112; refine ext_call (Nat.le_refl _) (compareKeys_calls _ _ _))))
          refine wpQuiet_nil ?_
          intro _ hw'
          obtain ⟨x, hw2⟩ := hw'
          subst hw2
          obtain ⟨w2, hb2⟩ := x
          simp only []
          have HN2 := hide (HFN.out.below hb2)
          obtain ⟨-, -, -, g3, gf, hGl⟩ := HN2.out.led.four
          replace g3 : w2.cell? ⟨G, 3, none⟩ = some (.slice va vn vc) := g3
          have hrr2 : rng w2 rb (ro + lo * 13) 13 = some (rowCs r) := by rw [rng_of_block (hb2.block _ hrw)]; exact hrr
          have hwh : whole w2 W.heap.size 13 = true := by unfold whole; rw [HN2.out.kr]; rfl
          have hfin := heap_setRow_at (ds := rowCs r) HN2.out.kr
          go_wp2
          refine bodyPost_ret (results_cell_tmp Tryz.results56 _ _ W.heap.size _ _ _ _ rfl hfin Tryz.underlying109 rfl (by kernel_rfl)) rfl ?_
          refine ⟨?_, HN2.out.bel.trans ⟨rfl, rfl, rfl, by simp, fun k hk => setRow_other _ _ _ _ (by omega)⟩⟩
          rw [HML.out]
          rfl
        · as_aux_lemma =>
          have dz : (cmpK r (keyRow s a) == 0) = false := by simpa using hz
          have HML : Hid (mlook L.rows s a = none) := HMIS.out hz
          clear hz HHIT HMIS
          refine wp_region_ext wr.heap.size (by kernel_rfl) (by kernel_rfl) ?_
          repeat (go_big_quiet_step ((go_at_call 112; refine ext_call (Nat.le_refl _) (compareKeys_calls _ _ _))))
          refine wpQuiet_nil ?_
          intro _ hw'
          obtain ⟨x, hw2⟩ := hw'
          subst hw2
          obtain ⟨w2, hb2⟩ := x
          simp only []
          have HN2 := hide (HFN.out.below hb2)
          have hwh : whole w2 W.heap.size 13 = true := by unfold whole; rw [HN2.out.kr]; rfl
          have hfin := heap_setRow_at (ds := rowCs zeroRow) HN2.out.kr
          go_wp2
          refine bodyPost_ret (results_cell_tmp Tryz.results56 _ _ W.heap.size _ _ _ _ rfl hfin Tryz.underlying109 rfl (by kernel_rfl)) rfl ?_
          refine ⟨?_, HN2.out.bel.trans ⟨rfl, rfl, rfl, by simp, fun k hk => setRow_other _ _ _ _ (by omega)⟩⟩
          rw [HML.out]
          rfl
      · as_aux_lemma =>
        have HML : Hid (mlook L.rows s a = none) := HFS.out.none (fun h => absurd h (by rw [← HVN.out]; exact hlv)) HR.out
        go_upto_region 8 with fail
        refine wp_region_ext wr.heap.size (by kernel_rfl) (by kernel_rfl) ?_
        repeat (go_big_quiet_step (fail))
        refine wpQuiet_nil ?_
        intro _ hw'
        obtain ⟨x, hw2⟩ := hw'
        subst hw2
        obtain ⟨w2, hb2⟩ := x
        simp only []
        have HN2 := hide (HFN.out.below hb2)
        have hwh : whole w2 W.heap.size 13 = true := by unfold whole; rw [HN2.out.kr]; rfl
        have hfin := heap_setRow_at (ds := rowCs zeroRow) HN2.out.kr
        go_wp2
        refine bodyPost_ret (results_cell_tmp Tryz.results56 _ _ W.heap.size _ _ _ _ rfl hfin Tryz.underlying109 rfl (by kernel_rfl)) rfl ?_
        refine ⟨?_, HN2.out.bel.trans ⟨rfl, rfl, rfl, by simp, fun k hk => setRow_other _ _ _ _ (by omega)⟩⟩
        rw [HML.out]
        rfl

attribute [local go_sem] rng_drewN
set_option maxRecDepth 100000 in
set_option maxHeartbeats 2000000 in
theorem sameRows_calls (w : World) (ok ok' : Nat → Prop) (v v' : Value) (cs : List Row) (h : RArr w ok 13 rowCs v cs) (h' : RArr w ok' 13 rowCs v' cs) :
    Calls Tryz.prog 57 #[v, v'] w fun e w' => e = .returned (.bool true) ∧ ∃ n, w' = w.drewN n := by
  obtain ⟨a, cap, b, off, rfl, hl, hm, hr, ha, hc⟩ := h
  obtain ⟨a', cap', b', off', rfl, hl', hm', hr', ha', hc'⟩ := h'
  obtain ⟨n, hn⟩ : ∃ n, n = cs.length := ⟨_, rfl⟩
  have Hn : Hid (n = cs.length) := hn
  rw [← hn] at hl hr ha hl' hr' ha' ⊢
  have hi := run_indexAt_arr (P := Tryz.prog) (cap := cap) Tryz.underlying150 Tryz.size109 (fun h => (ha h).1)
  have hi' := run_indexAt_arr (P := Tryz.prog) (cap := cap') Tryz.underlying150 Tryz.size109 (fun h => (ha' h).1)
  have HC := hide hc
  have HC' := hide hc'
  clear ha hc hn hm hl ha' hc' hm' hl'
  have hb : ((n : Int) != (n : Int)) = false := by simp
  go_enter Tryz.func57, Tryz.ntmps57
  go_wp2
  go_loopw [13] (fun i wr => ∃ k : Nat, k ≤ n ∧ i = .int .i64 k ∧ Hid (∃ m, wr = w.drewN m)) (fun i _ => n - (intOf i).toNat)
  case atStart => exact ⟨0, by omega, rfl, ⟨0, rfl⟩⟩
  case round =>
    obtain ⟨k, hk, rfl, HW⟩ := hrel
    obtain ⟨m, rfl⟩ := HW.out
    by_cases hlt : k < n
    · have hks : k < cs.length := by rw [← Hn.out]; exact hlt
      have c0 := HC.out k hks
      have d0 := HC'.out k hks
      have he := eqB_refl cs[k]
      generalize cs[k] = c at *
      go_wp2
      go_quiet (fail)
      go_wp2
      go_roundw
      case measure => simp [intOf]; omega
      case rel => exact ⟨k + 1, by omega, by go_num, ⟨m + nq, by simp⟩⟩
    · go_wp2
      go_ret
      exact ⟨rfl, m, rfl⟩
end Go.Proofs.Qxb6500666aGreatDoor
