/- The model's change: kind 2. (Made by tools/mk_mch2.py.) -/
import Derived.Test.Qxb6500666aGreatDoorMdK5
namespace Go.Proofs.Qxb6500666aGreatDoor
open Go.RowKit
/-- A user revoked. -/
def offU (id : Int) (u : Usr) : Usr := if u.id == id then { u with act := false } else u
def offL (id : Int) (us : List Usr) (q : Nat) : List Usr := (us.take q).map (offU id) ++ us.drop q
theorem offL_len (id : Int) (us : List Usr) (q : Nat) (h : q ≤ us.length) : (offL id us q).length = us.length := by
  unfold offL
  rw [List.length_append, List.length_map, List.length_take, List.length_drop]
  omega
theorem offL_at {id : Int} {us : List Usr} {q : Nat} (h : q < us.length) (h' : q < (offL id us q).length) : (offL id us q)[q] = us[q] := by
  have e : (offL id us q)[q]? = some us[q] := by
    unfold offL
    rw [List.getElem?_append_right (by rw [List.length_map, List.length_take]; omega)]
    simp only [List.length_map, List.length_take, List.getElem?_drop]
    rw [show q + (q - min q us.length) = q by omega]
    exact List.getElem?_eq_getElem h
  rw [List.getElem?_eq_getElem h'] at e
  exact Option.some.inj e
theorem offL_set {id : Int} {us : List Usr} {q : Nat} (h : q < us.length) : (offL id us q).set q (offU id us[q]) = offL id us (q + 1) := by
  unfold offL
  rw [List.set_append_right _ _ (by rw [List.length_map, List.length_take]; omega), List.drop_eq_getElem_cons h, List.take_succ_eq_append_getElem h, List.map_append]
  have e : q - ((us.take q).map (offU id)).length = 0 := by rw [List.length_map, List.length_take]; omega
  rw [e, List.set_cons_zero, List.append_assoc]
  rfl
theorem offL_end (id : Int) (us : List Usr) : offL id us us.length = us.map (offU id) := by
  unfold offL
  rw [List.take_length, List.drop_length, List.append_nil]
def revU (m : Mod) (r : Req) : CR3 := if (r.id == 1) then ⟨m, 0, 9⟩ else if (!(mUser m r.id).2.1) then ⟨m, 0, 17⟩ else if (!(mUser m r.id).2.2) then ⟨m, 0, 11⟩ else ⟨{ m with us := m.us.map (offU r.id) }, 0, 0⟩

attribute [local go_sem] ext_const Ext.cell Ext.frozen Ext.rng Ext.whole
attribute [local go_sem ↓] exec_ldPrS exec_bdUsr exec_bsUsr exec_ldUsr exec_stUsr exec_ldRow exec_stRow exec_ldChange exec_stChange exec_bsChange exec_bdChange
attribute [local go_sem] run_ldPrS run_bdUsr run_bsUsr run_ldUsr run_stUsr usrCs_size usrCs_ones run_ldRow run_stRow rowCs_size rowCs_ones rowCs_all run_ldChange run_stChange run_bsChange run_bdChange changeCs_size changeCs_ones changeCs_row changeCs_all whole_alloc_lt whole_alloc_at whole_drew setRow_alloc_at setRow_alloc_lt setRow_drew rng_alloc_lt rng_alloc_at rng_drew rng_drewN
set_option maxRecDepth 100000 in
set_option maxHeartbeats 8000000 in
theorem mch2_calls (w : World) (M : Nat) (ok okv : Nat → Prop) (v : MV) (m : Mod) (r : Req) (lv : Value) (h : ChX w M ok okv v m r lv) (hk : r.kind = 2) :
    Calls Tryz.prog 146 #[.pointer (some ⟨M, 0, none⟩), .agg (reqA r lv)] w fun e w' => ChP w w' M ok e (revU m r) := by
  obtain ⟨R, hR⟩ : ∃ R, R = revU m r := ⟨_, rfl⟩
  rw [← hR]
  have HR := hide hR
  have HH := hide h
  have zM := blk_lt h.at'.top
  clear hR h
  go_enter Tryz.func146, Tryz.ntmps146
  go_upto_region 1 with fail
  have hb1 : Below w.heap.size w (w.alloc (.cells (reqA r lv) 53)) := (Below.refl _ _).alloc (Nat.le_refl _) _
  have hq : (w.alloc (.cells (reqA r lv) 53)).heap[w.heap.size]? = some (.cells (reqA r lv) 53 (0, 0)) := heap_alloc_at _ _
  have hsz : (w.alloc (.cells (reqA r lv) 53)).heap.size = w.heap.size + 1 := World.size_alloc _ _
  have HB1 := hide hb1
  have HM := hide (HH.out.at'.below hb1)
  generalize w.alloc (.cells (reqA r lv) 53) = W at *
  have q0 := cells_all hq 0
  have q3 := cells_all hq 3
  simp only [reqA, List.getElem?_toArray, List.getElem?_cons_succ, List.getElem?_cons_zero] at q0 q3
  rw [hk] at q0
  have zq := blk_lt hq
  have HKQ := hide hq
  have HBK : Hid (∀ V, Below W.heap.size W V → But M w V) := fun V hb => But.of (HB1.out.trans (hb.mono (by omega))) (by omega)
  have HMB : Hid (∀ V, Below W.heap.size W V → ∃ v', MAt V M ok v' m) := fun V hb => ⟨_, HM.out.below hb⟩
  have hok : ∀ b, W.heap.size ≤ b → ok b := fun b hb => HH.out.new b (by omega)
  have hMW : M < W.heap.size := by omega
  clear hq hb1
  generalize hQ : w.heap.size = Q at *
  have HQS := hide hQ
  clear hQ
  have HUS := hide (fun V (hb : Below W.heap.size W V) => mUser_calls V M ok v m r.id (HM.out.below hb))
  obtain ⟨au, cu, bu, ou, hvu, hlu, hmu, hru, hau, hcu⟩ := RArr.lt HM.out.inn.us
  obtain ⟨k, hk9⟩ : ∃ k, k = m.us.length := ⟨_, rfl⟩
  rw [← hk9] at hvu hau
  have hkb : k ≤ 100000 := by rw [hk9]; exact HH.out.ul
  have HK := hide hk9
  have HVU := hide hvu
  have HSRC : Hid (∀ V, Below W.heap.size W V → (au = none → cu = 0) ∧ (0 < k → ∃ b off, au = some ⟨b, off, none⟩ ∧ ∀ i (h : i < m.us.length), rng V b (off + i * 3) 3 = some (usrCs m.us[i]))) := fun V hb => ⟨hmu.2, fun hp => ⟨bu, ou, (hau hp).1, fun i hi => (rng_of_block (hb.block _ (hau hp).2.2) _ _).trans (hcu i hi)⟩⟩
  clear hvu hlu hmu hru hau hcu hk9
  unfold revU at HR
  cases t0 : (r.id == 1) with
  | true =>
    have HE : Hid (R = ⟨m, 0, 9⟩) := HR.out.trans (by rw [t0]; rfl)
    go_wp2
    refine bodyPost_ret (v := .tuple #[.int .u32 0, .int .u8 9]) (by simp [results, Tryz.results146]) rfl ?_
    rw [HE.out]
    exact ⟨rfl, HMB.out _ (Below.refl _ _), HBK.out _ (Below.refl _ _)⟩
  | false =>
  rw [t0] at HR
  have HU := hide (HUS.out W (Below.refl _ _))
  cases hu : mUser m r.id with
  | mk ro kac =>
  obtain ⟨kn, ac⟩ := kac
  rw [hu] at HU HR
  cases kn with
  | false =>
    have HE : Hid (R = ⟨m, 0, 17⟩) := HR.out
    go_wp2_with (go_at_call 144; refine HU.out.mono ?_; rintro e X ⟨rfl, hbX⟩; unfold usrAns)
    refine bodyPost_ret (v := .tuple #[.int .u32 0, .int .u8 17]) (by simp [results, Tryz.results146]) rfl ?_
    rw [HE.out]
    exact ⟨rfl, HMB.out _ hbX, HBK.out _ hbX⟩
  | true =>
  cases ac with
  | false =>
    have HE : Hid (R = ⟨m, 0, 11⟩) := HR.out
    go_wp2_with (go_at_call 144; refine HU.out.mono ?_; rintro e X ⟨rfl, hbX⟩; unfold usrAns)
    refine bodyPost_ret (v := .tuple #[.int .u32 0, .int .u8 11]) (by simp [results, Tryz.results146]) rfl ?_
    rw [HE.out]
    exact ⟨rfl, HMB.out _ hbX, HBK.out _ hbX⟩
  | true =>
    have HE : Hid (R = ⟨{ m with us := m.us.map (offU r.id) }, 0, 0⟩) := HR.out
    go_upto_region 19 with (go_at_call 144; refine HU.out.mono ?_; rintro e X ⟨rfl, hbX⟩; unfold usrAns)
    have HBX := hide hbX
    have hXz := hbX.size
    have HM1 := hide (HM.out.below hbX)
    have cu1 : X.cell? ⟨M, 8, none⟩ = some (.slice au k cu) := by have := cells_all HM1.out.top 8; rw [← HVU.out]; exact this
    have zM1 := blk_lt HM1.out.top
    clear hbX q3 q0 HU
    have HDON : Hid (∀ w7, Below X.heap.size X w7 → w7.cell? ⟨M, 8, none⟩ = some (.slice au k cu) ∧ w7.frozen? ⟨M, 8, none⟩ = false ∧ M < w7.heap.size) := fun w7 hb => by
      have h9 := HM1.out.below hb
      refine ⟨?_, h9.fz 8, blk_lt h9.top⟩
      have := cells_all h9.top 8
      rw [← HVU.out]
      exact this
    go_upto_region 20 with (at_builtin; refine wpList_appN (α := Usr) rfl _ _ 41 rfl X.heap.size 342 usrCs Tryz.underlying41 Tryz.info342_m rfl (by decide) usrCs_size usrCs_one (.slice none 0 0) [] rfl (OwnR.nil _ _ _ _ _) au k cu rfl m.us HK.out (HSRC.out _ HBX.out).1 (HSRC.out _ HBX.out).2 (by simp; omega) (by simp; unfold maxLen; omega) (Nat.le_refl _) ?_; intro v7 w7 hown7 hsame7 hbel7 hat7; rw [List.nil_append] at hown7; obtain ⟨a7, c7, hv7⟩ := hown7.form; rw [← HK.out] at hv7; subst hv7; obtain ⟨d8, f8, zM7⟩ := HDON.out w7 hbel7)
    have hM7 := HM1.out.below hbel7
    have HTOP : Hid ((w7.setCell ⟨M, 8, none⟩ (.slice a7 k c7)).heap[M]? = some (.cells (mvCs { v with u := (a7, k, c7) } m.full) 45 (0, 0))) := heap_setM hM7.top rfl
    have HO7 : Hid (OwnR (w7.setCell ⟨M, 8, none⟩ (.slice a7 k c7)) X.heap.size 342 3 usrCs (.slice a7 k c7) (offL r.id m.us 0)) := hown7.mono (fun b hb => Below.heap_setCell _ _ _ _ (by have := (hown7.block b hb).1; intro e; simp only at e; omega))
    have HBM : Hid (But M w (w7.setCell ⟨M, 8, none⟩ (.slice a7 k c7))) := (HBK.out _ (HBX.out.trans (hbel7.mono hXz))).trans (But.set _ _)
    have HVW : Hid (∀ b, b < X.heap.size → b ≠ M → (w7.setCell ⟨M, 8, none⟩ (.slice a7 k c7)).heap[b]? = X.heap[b]?) := fun b hb hn => (Below.heap_setCell _ _ _ _ hn).trans (hbel7.block b hb)
    have hz7 : X.heap.size ≤ (w7.setCell ⟨M, 8, none⟩ (.slice a7 k c7)).heap.size := by rw [World.size_setCell]; exact hbel7.size
    clear hown7 hsame7 hbel7 hat7 hM7 d8 f8 zM7 cu1
    generalize w7.setCell ⟨M, 8, none⟩ (.slice a7 k c7) = V at *
    have hkq : V.heap[Q]? = some (.cells (reqA r lv) 53 (0, 0)) := (HVW.out Q (by omega) (by omega)).trans ((HBX.out.block _ zq).trans HKQ.out)
    have HKV := hide hkq
    have c8 : V.cell? ⟨M, 8, none⟩ = some (.slice a7 k c7) := cells_all HTOP.out 8
    have zMV := blk_lt HTOP.out
    have HB0 := hide (Below.refl X.heap.size V)
    clear hkq
    go_upto_region 21 with fail
    clear c8
    go_loopg [86] k (fun gk j Z => ∃ q : Nat, q ≤ k ∧ gk = k - q ∧ j = .int .i64 q ∧ Hid (OwnR Z X.heap.size 342 3 usrCs (.slice a7 k c7) (offL r.id m.us q)) ∧ Hid (Below X.heap.size V Z))
    case atStart => exact ⟨0, by omega, by omega, rfl, HO7, HB0⟩
    clear HO7 HB0
    case round =>
      obtain ⟨q, hq, rfl, rfl, HOW, HBR⟩ := hrel
      have hsr := HBR.out.size
      have HTZ : Hid (wr.heap[M]? = some (.cells (mvCs { v with u := (a7, k, c7) } m.full) 45 (0, 0))) := (HBR.out.block _ zM1).trans HTOP.out
      have zMZ := blk_lt HTZ.out
      by_cases hlt : q < k
      · as_aux_lemma =>
        have hqs : q < m.us.length := by rw [← HK.out]; exact hlt
        have hql : q < (offL r.id m.us q).length := by rw [offL_len _ _ _ (by omega)]; exact hqs
        have hol : (offL r.id m.us q).length ≤ 100000 := by rw [offL_len _ _ _ (by omega), ← HK.out]; exact hkb
        obtain ⟨g, cap, hv, hg1, hg2, hrg⟩ := HOW.out.elem usrCs_size (by decide) (by omega) (by omega)
        simp only [Value.slice.injEq] at hv
        obtain ⟨rfl, -, rfl⟩ := hv
        have c8 : wr.cell? ⟨M, 8, none⟩ = some (.slice (some ⟨g, 0, none⟩) k c7) := cells_all HTZ.out 8
        have hi7 := run_indexAt_arr (P := Tryz.prog) (n := k) (cap := c7) (a := some ⟨g, 0, none⟩) (b := g) (off := 0) Tryz.underlying41 Tryz.size342_m (fun _ => rfl)
        have hr0 := hrg q hql
        rw [offL_at hqs] at hr0
        have i0 : wr.cell? ⟨g, q * 3, none⟩ = some (.int .u32 m.us[q].id) := (rng_cell hr0).2 0 (by decide)
        have i2 : wr.cell? ⟨g, q * 3 + 2, none⟩ = some (.bool m.us[q].act) := (rng_cell hr0).2 2 (by decide)
        have hqk : Q < X.heap.size := by omega
        have hkz := (HBR.out.block _ hqk).trans HKV.out
        have x3 := cells_all hkz 3
        simp only [reqA, List.getElem?_toArray, List.getElem?_cons_succ, List.getElem?_cons_zero] at x3
        have zqz := blk_lt hkz
        have HSET := hide (offL_set (id := r.id) hqs)
        obtain ⟨g', c', hg', -, hge, -, -, hfz, -, hown9⟩ := HOW.out.cell1 usrCs_size q hql 2 (by decide) (⟨m.us[q].id, m.us[q].role, false⟩ : Usr) (.bool false) (by rw [offL_at hqs]; rfl)
        obtain rfl : g = g' := by injection hg' with e; injection e
        have HO9 := hide hown9
        have hgM : g ≠ M := by omega
        clear hrg hr0 hkz hown9 hg'
        have HOF : Hid (offU r.id m.us[q] = if m.us[q].id == r.id then ⟨m.us[q].id, m.us[q].role, false⟩ else m.us[q]) := rfl
        have HSL : Hid ((offL r.id m.us q).set q m.us[q] = offL r.id m.us q) := by
          have := List.set_getElem_self hql
          rw [offL_at hqs] at this
          exact this
        generalize m.us[q] = u at *
        go_upto_region 23 with fail
        cases te : (u.id == r.id) with
        | false =>
          rw [HOF.out, te] at HSET
          simp only [Bool.false_eq_true, if_false] at HSET
          rw [HSL.out] at HSET
          refine wp_region_mixT (wr.heap.size) [3, 7, 9] (by kernel_rfl) ?_
          refine mixT_slots [0, 1, 2, 4, 8] (fuel := 6) rfl (by kernel_rfl) (by kernel_rfl) (fun d _ _ _ _ h => by cases d <;> exact h) ?_
          simp only [opersAt, List.getElem?_toArray, List.getElem?_cons_zero, List.getElem?_cons_succ]
          repeat (go_big_quiet_step (fail))
          refine wpQuiet_nil ?_
          refine mixT_reads [3, 9] (fuel := 4) rfl (by kernel_rfl) (by decide) (by kernel_rfl) (fun d _ _ _ _ h => by cases d <;> exact h) (ext_drew _ _) ?_
          simp only [opersAt, List.getElem?_toArray, List.getElem?_cons_zero, List.getElem?_cons_succ]
          repeat (go_big_quiet_step (fail))
          refine wpQuiet_nil ?_
          refine mixT_slots [5, 6] (fuel := 2) rfl (by kernel_rfl) (by kernel_rfl) (fun d _ _ _ _ h => by cases d <;> exact h) ?_
          simp only [opersAt, List.getElem?_toArray, List.getElem?_cons_zero, List.getElem?_cons_succ]
          repeat (go_big_quiet_step (fail))
          refine wpQuiet_nil ?_
          refine mixT_reads [7] (fuel := 1) rfl (by kernel_rfl) (by decide) (by kernel_rfl) (fun d _ _ _ _ h => by cases d <;> exact h) (ext_drew _ _) ?_
          simp only [opersAt, List.getElem?_toArray, List.getElem?_cons_zero, List.getElem?_cons_succ]
          repeat (go_big_quiet_step (fail))
          refine wpQuiet_nil ?_
          refine mixT_slots [10] (fuel := 0) rfl (by kernel_rfl) (by kernel_rfl) (fun d _ _ _ _ h => by cases d <;> exact h) ?_
          simp only [opersAt, List.getElem?_toArray, List.getElem?_cons_zero, List.getElem?_cons_succ]
          repeat (go_big_quiet_step (fail))
          refine wpQuiet_nil ?_
          refine mixT_nil (by kernel_rfl) ?_
          go_wp2
          go_roundg (k - (q + 1))
          case measure => omega
          case rel => exact ⟨q + 1, by omega, rfl, by go_num, by rw [← HSET.out]; exact HOW.out.below (Below.refl _ _).drew (Nat.le_refl _), HBR.out.drew⟩
        | true =>
          rw [HOF.out, te] at HSET
          simp only [if_true] at HSET
          rw [HSET.out] at HO9
          refine wp_region_mixT (wr.heap.size) [3, 7, 9] (by kernel_rfl) ?_
          refine mixT_slots [0, 1, 2, 4, 8] (fuel := 6) rfl (by kernel_rfl) (by kernel_rfl) (fun d _ _ _ _ h => by cases d <;> exact h) ?_
          simp only [opersAt, List.getElem?_toArray, List.getElem?_cons_zero, List.getElem?_cons_succ]
          repeat (go_big_quiet_step (fail))
          refine wpQuiet_nil ?_
          refine mixT_reads [3, 9] (fuel := 4) rfl (by kernel_rfl) (by decide) (by kernel_rfl) (fun d _ _ _ _ h => by cases d <;> exact h) (ext_drew _ _) ?_
          simp only [opersAt, List.getElem?_toArray, List.getElem?_cons_zero, List.getElem?_cons_succ]
          repeat (go_big_quiet_step (fail))
          refine wpQuiet_nil ?_
          refine mixT_slots [5, 6] (fuel := 2) rfl (by kernel_rfl) (by kernel_rfl) (fun d _ _ _ _ h => by cases d <;> exact h) ?_
          simp only [opersAt, List.getElem?_toArray, List.getElem?_cons_zero, List.getElem?_cons_succ]
          repeat (go_big_quiet_step (fail))
          refine wpQuiet_nil ?_
          refine mixT_reads [7] (fuel := 1) rfl (by kernel_rfl) (by decide) (by kernel_rfl) (fun d _ _ _ _ h => by cases d <;> exact h) (ext_drew _ _) ?_
          simp only [opersAt, List.getElem?_toArray, List.getElem?_cons_zero, List.getElem?_cons_succ]
          repeat (go_big_quiet_step (fail))
          refine wpQuiet_nil ?_
          refine mixT_slots [10] (fuel := 0) rfl (by kernel_rfl) (by kernel_rfl) (fun d _ _ _ _ h => by cases d <;> exact h) ?_
          simp only [opersAt, List.getElem?_toArray, List.getElem?_cons_zero, List.getElem?_cons_succ]
          repeat (go_big_quiet_step (fail))
          refine wpQuiet_nil ?_
          refine mixT_nil (by kernel_rfl) ?_
          go_wp2
          go_roundg (k - (q + 1))
          case measure => omega
          case rel => exact ⟨q + 1, by omega, rfl, by go_num, HO9.out.below (Below.refl _ _).drew (Nat.le_refl _), HBR.out.trans ((Below.refl _ _).setCell (p := ⟨g, q * 3 + 2, none⟩) hge _).drew⟩
      · obtain rfl : q = k := by omega
        as_aux_lemma =>
        rw [HK.out, offL_end, ← HK.out] at HOW
        go_wp2
        refine bodyPost_ret (v := .tuple #[.int .u32 0, .int .u8 0]) (by simp [results, Tryz.results146]) rfl ?_
        rw [HE.out]
        have hin : MIn wr ok v m := HM.out.inn.lt.mono (fun b hb => (HBR.out.block b (by have := hb.2; omega)).trans ((HVW.out b (by have := hb.2; omega) (HH.out.nok b hb.1)).trans (HBX.out.block b hb.2))) (fun _ hb => hb.1)
        refine ⟨rfl, ⟨{ v with u := (a7, q, c7) }, HTZ.out, hin.low, ?_, hin.au, hin.fs⟩, ⟨HBM.out.bel.trans (HBR.out.mono (by omega)), fun b hb hn => (HBR.out.block b (by have := HQS.out; omega)).trans (HBM.out.fr b hb hn)⟩⟩
        exact RArr.mono (HOW.out.rows usrCs_size (by decide) (by rw [List.length_map, ← HK.out]; omega)) (Same.refl _ _) (fun b hb => hok b (by omega))
end Go.Proofs.Qxb6500666aGreatDoor
