/- pairUp, walked, whatever visitor it is handed. -/
import Derived.Test.Qxb6500666aGreatDoorDifferVisit
import Derived.Deep.DeepCutAuto
import Derived.Deep.CutBlock
import Derived.Deep.LoopGhost
namespace Go.Proofs.Qxb6500666aGreatDoor
open Go.RowKit
attribute [local go_sem ↓] exec_ldRow exec_ldChange exec_ldFile exec_stRow exec_stChange exec_stFile exec_bsRow exec_bsChange exec_slRows exec_bdChange exec_eqlRow exec_neqRow
attribute [local go_sem] run_ldRow run_ldChange run_ldFile run_stRow run_stChange run_stFile run_bsRow run_bsChange run_bdChange run_neqRow run_eqlRow rng_alloc_lt rng_alloc_at rng_drew rng_drewN rng_setCell_other rng_setRow_other whole_alloc_lt whole_alloc_at whole_drew whole_setCell_other whole_setRow_other setRow_alloc_at setRow_alloc_lt setRow_drew rowCs_size rowCs_ones rowCs_0 rowCs_1 rowCs_2 rowCs_3 rowCs_4 rowCs_5 rowCs_6 rowCs_7 rowCs_8 rowCs_9 rowCs_10 rowCs_11 rowCs_12 rowCs_all changeCs_size changeCs_ones changeCs_0 changeCs_row changeCs_all fileCs_size fileCs_ones fileCs_0 fileCs_1 fileCs_2 fileCs_3 fileCs_4 fileCs_all ext_const Ext.cell Ext.frozen Ext.rng Ext.whole

theorem OutAt.below {α : Type} {T e : TypeId} {size : Nat} {f : α → Array Value} {g : Nat} {w w' : World} {xs : List α} (h : OutAt T e size f g w xs) (hb : Below w.heap.size w w') : OutAt T e size f g w' xs := by
  obtain ⟨v, hv, hown⟩ := h
  exact ⟨v, by rw [hb.block g (Array.getElem?_eq_some_iff.1 hv).1, hv], hown.below hb (Nat.le_refl _)⟩

theorem OutAt.lt {α : Type} {T e : TypeId} {size : Nat} {f : α → Array Value} {g : Nat} {w : World} {xs : List α} (h : OutAt T e size f g w xs) : g < w.heap.size := by
  obtain ⟨v, hv, hown⟩ := h
  exact (Array.getElem?_eq_some_iff.1 hv).1

theorem flatL_len {α β : Type} {f : α → List β} (hf : ∀ x, (f x).length ≤ 1) (l : List α) : (flatL f l).length ≤ l.length := by
  induction l with
  | nil => simp [flatL]
  | cons x r ih => simp only [flatL, List.length_append, List.length_cons]; have := hf x; omega

/-- What a visitor does for one pair. -/
def Visits {α : Type} (T e : TypeId) (size : Nat) (f : α → Array Value) (fid : FuncId) (line : Option Row × Option Row → List α) (g : Nat) : Prop :=
  ∀ w xs x y p q, PtrRow w g p x → PtrRow w g q y → (x.isSome || y.isSome) = true → OutAt T e size f g w xs → xs.length ≤ 200000000 →
    Calls Tryz.prog fid #[p, q, .pointer (some ⟨g, 0, none⟩)] w fun e' w' => e' = .returned (.tuple #[]) ∧ OutAt T e size f g w' (xs ++ line (x, y)) ∧ Below g w w'

/-- How the round's order stands to the pairs that are left. -/
def OrdAt (F : Nat) (bs ts : List Row) (i j : Nat) (k : Int) : Prop :=
  (k < 0 ∧ ∃ h : i < bs.length, pairs F (bs.drop i) (ts.drop j) = (some bs[i], none) :: pairs F (bs.drop (i + 1)) (ts.drop j)) ∨
  (0 < k ∧ ∃ h : j < ts.length, pairs F (bs.drop i) (ts.drop j) = (none, some ts[j]) :: pairs F (bs.drop i) (ts.drop (j + 1))) ∨
  (k = 0 ∧ ∃ (h : i < bs.length) (h' : j < ts.length), pairs F (bs.drop i) (ts.drop j) = (some bs[i], some ts[j]) :: pairs F (bs.drop (i + 1)) (ts.drop (j + 1)))

theorem ordAt_end {bs ts : List Row} {i j : Nat} (hi : i = bs.length) (hj : j < ts.length) : OrdAt (bs.length + ts.length) bs ts i j 1 := by
  refine Or.inr (Or.inl ⟨by decide, hj, ?_⟩)
  have e1 : bs.drop i = [] := by rw [List.drop_eq_nil_iff]; omega
  rw [e1, drop_cons _ _ hj, pairs_right _ _ _ (by simp; omega)]

theorem ordAt_left {bs ts : List Row} {i j : Nat} (hi : i < bs.length) (hj : j = ts.length) : OrdAt (bs.length + ts.length) bs ts i j (-1) := by
  refine Or.inl ⟨by decide, hi, ?_⟩
  have e1 : ts.drop j = [] := by rw [List.drop_eq_nil_iff]; omega
  rw [e1, drop_cons _ _ hi, pairs_left _ _ _ (by simp; omega)]

theorem ordAt_both {bs ts : List Row} {i j : Nat} (hi : i < bs.length) (hj : j < ts.length) : OrdAt (bs.length + ts.length) bs ts i j (cmpK bs[i] ts[j]) := by
  have e1 := drop_cons _ _ hi
  have e2 := drop_cons _ _ hj
  rcases cmpK_cases bs[i] ts[j] with h | h | h
  · exact Or.inl ⟨by omega, hi, by rw [e1, e2, pairs_less _ _ _ _ _ (by simp; omega) (by omega)]⟩
  · exact Or.inr (Or.inr ⟨h, hi, hj, by rw [e1, e2, pairs_same _ _ _ _ _ (by simp; omega) h]⟩)
  · exact Or.inr (Or.inl ⟨by omega, hj, by rw [e1, e2, pairs_more _ _ _ _ _ (by simp; omega) (by omega)]⟩)

set_option maxRecDepth 100000 in
set_option maxHeartbeats 4000000 in
theorem pairUp_calls {α : Type} (T e : TypeId) (size : Nat) (f : α → Array Value) (fid : FuncId) (line : Option Row × Option Row → List α) (hline : ∀ x, (line x).length ≤ 1) (g : Nat) (hvis : Visits T e size f fid line g) (hcf : ∀ args w, (callFunc fid args).run Tryz.prog w = .ok (.enter fid args) w)
    (w : World) (v v' : Value) (bs ts : List Row) (h : RowsAt w (· < g) v bs) (h' : RowsAt w (· < g) v' ts) (hout : OutAt T e size f g w []) (hlen : bs.length ≤ 100000000) (hlen' : ts.length ≤ 100000000) :
    Calls Tryz.prog 254 #[v, v', .func (.func fid) #[] #[.pointer (some ⟨g, 0, none⟩)]] w fun e' w' => e' = .returned (.tuple #[]) ∧ OutAt T e size f g w' (flatL line (pairsOf bs ts)) ∧ Below g w w' := by
  obtain ⟨a, cap, b, off, rfl, hl, hm, hr, ha, hc⟩ := h
  obtain ⟨a', cap', b', off', rfl, hl', hm', hr', ha', hc'⟩ := h'
  obtain ⟨n, hn⟩ : ∃ n, n = bs.length := ⟨_, rfl⟩
  obtain ⟨n', hn'⟩ : ∃ n, n = ts.length := ⟨_, rfl⟩
  have Hn : Hid (n = bs.length) := hn
  have Hn' : Hid (n' = ts.length) := hn'
  rw [← hn] at hl hr ha hlen ⊢
  rw [← hn'] at hl' hr' ha' hlen' ⊢
  have hi := run_indexAt_arr (P := Tryz.prog) (cap := cap) Tryz.underlying150 Tryz.size109 (fun h => (ha h).1)
  have hi' := run_indexAt_arr (P := Tryz.prog) (cap := cap') Tryz.underlying150 Tryz.size109 (fun h => (ha' h).1)
  have HB : Hid (0 < n → b < g) := fun h => (ha h).2
  have HB' : Hid (0 < n' → b' < g) := fun h => (ha' h).2
  have HC := hide hc
  have HC' := hide hc'
  have HV := hide hvis
  have HLn := hide hline
  clear ha hc hn hm hl ha' hc' hn' hm' hl' hvis hline
  go_enter Tryz.func254, Tryz.ntmps254
  go_wp2_with fail
  go_loopg [6, 7] (n + n') (fun m i j wr => ∃ (p q : Nat) (done : List (Option Row × Option Row)), p ≤ n ∧ q ≤ n' ∧ m = (n - p) + (n' - q) ∧ i = .int .i64 p ∧ j = .int .i64 q ∧ OutAt T e size f g wr (flatL line done) ∧ Below g w wr ∧ done.length ≤ p + q ∧ Hid (pairsOf bs ts = done ++ pairs (bs.length + ts.length) (bs.drop p) (ts.drop q)))
  case atStart => exact ⟨0, 0, [], by omega, by omega, by omega, rfl, rfl, hout, Below.refl _ _, by simp, by show _ = _; simp [pairsOf]⟩
  case round =>
    obtain ⟨p, q, done, hp, hq, rfl, rfl, rfl, hout1, hbel, hdl, HG⟩ := hrel
    have HOL : Hid ((flatL line done).length ≤ 200000000) := Nat.le_trans (flatL_len HLn.out done) (by omega)
    by_cases hend : p = n ∧ q = n'
    · obtain ⟨rfl, rfl⟩ := hend
      have HF : Hid (pairsOf bs ts = done) := by
        show _ = _
        rw [HG.out, List.drop_eq_nil_iff.2 (by rw [← Hn.out]; omega), List.drop_eq_nil_iff.2 (by rw [← Hn'.out]; omega), pairs_nil, List.append_nil]
      go_wp2
      go_end0
      rw [HF.out]
      exact ⟨rfl, hout1, hbel⟩
    · have hsome : p < n ∨ q < n' := by omega
      clear hend
      by_cases hpn : p < n
      · go_upto_block 2 with fail
        go_cut [8] (fun o wx => ∃ k : Int, o = .int .i64 k ∧ OrdAt (bs.length + ts.length) bs ts p q k ∧ OutAt T e size f g wx (flatL line done) ∧ Below g w wx)
        case first =>
          have hpl : p < bs.length := by rw [← Hn.out]; exact hpn
          by_cases hqn : q < n'
          · have hql : q < ts.length := by rw [← Hn'.out]; exact hqn
            have hbg := HB.out (by omega)
            have hbg' := HB'.out (by omega)
            have c0 : rng wr b (off + p * 13) 13 = some (rowCs bs[p]) := by rw [rng_of_block (hbel.block _ hbg)]; exact HC.out p hpl
            have c1 : rng wr b' (off' + q * 13) 13 = some (rowCs ts[q]) := by rw [rng_of_block (hbel.block _ hbg')]; exact HC'.out q hql
            have HO := hide (ordAt_both hpl hql)
            have hgw := hout1.lt
            have hbw : b < wr.heap.size := by omega
            have hbw' : b' < wr.heap.size := by omega
            have e1 : ((p : Int) == (n : Int)) = false := by simp; omega
            have e2 : ((q : Int) == (n' : Int)) = false := by simp; omega
            generalize bs[p] = r1 at *
            generalize ts[q] = r2 at *
            go_upto_region 3 with fail
            refine wp_region_ext wr.heap.size (by kernel_rfl) (by kernel_rfl) ?_
            repeat (go_big_quiet_step ((go_at_call 112; refine ext_call (Nat.le_refl _) (compareKeys_calls _ _ _))))
            refine wpQuiet_nil ?_
            intro _ hw'
            obtain ⟨x, hw2⟩ := hw'
            subst hw2
            obtain ⟨w2, hb2⟩ := x
            simp only []
            go_wp2_with fail
            go_meet
            case rel => exact ⟨_, rfl, HO.out, hout1.below hb2, hbel.trans (hb2.mono (by omega))⟩
          · have e2 : (q : Int) = n' := by omega
            have e1 : ((p : Int) == (n : Int)) = false := by simp; omega
            have HO := hide (ordAt_left (ts := ts) (j := q) hpl (by rw [← Hn'.out]; omega))
            go_wp2
            go_meet
            case rel => exact ⟨_, rfl, HO.out, hout1, hbel⟩
        case rest =>
          obtain ⟨k, rfl, hord, hout2, hbel2⟩ := hcut
          clear hout1 hbel
          rcases hord with ⟨hk, hpl, ho⟩ | ⟨hk, hql, ho⟩ | ⟨hk, hpl, hql, ho⟩
          · have HO := hide ho
            clear ho
            have hbg := HB.out (by omega)
            have c0 : rng wc b (off + p * 13) 13 = some (rowCs bs[p]) := by rw [rng_of_block (hbel2.block _ hbg)]; exact HC.out p hpl
            have k1 : ¬ (0 ≤ k) := by omega
            go_wp2_with fail
            refine (HV.out wc (flatL line done) (some bs[p]) none _ _ ⟨b, _, rfl, hbg, c0⟩ rfl rfl hout2 HOL.out).mono ?_
            rintro e1 w1 ⟨rfl, hout3, hbel3⟩
            go_wp2
            go_roundg ((n - (p + 1)) + (n' - q))
            case measure => omega
            case rel => exact ⟨p + 1, q, done ++ [(some bs[p], none)], by omega, by omega, rfl, by go_num, rfl, by rw [flatL_append]; simpa [flatL] using hout3, hbel2.trans hbel3, by simp; omega, by show _ = _; rw [HG.out, HO.out]; simp⟩
          · have HO := hide ho
            clear ho
            have hqn : q < n' := by rw [Hn'.out]; exact hql
            have hbg' := HB'.out (by omega)
            have c1 : rng wc b' (off' + q * 13) 13 = some (rowCs ts[q]) := by rw [rng_of_block (hbel2.block _ hbg')]; exact HC'.out q hql
            have k1 : ¬ (k < 0) := by omega
            go_wp2_with fail
            refine (HV.out wc (flatL line done) none (some ts[q]) _ _ rfl ⟨b', _, rfl, hbg', c1⟩ rfl hout2 HOL.out).mono ?_
            rintro e1 w1 ⟨rfl, hout3, hbel3⟩
            go_wp2
            go_roundg ((n - p) + (n' - (q + 1)))
            case measure => omega
            case rel => exact ⟨p, q + 1, done ++ [(none, some ts[q])], by omega, by omega, rfl, rfl, by go_num, by rw [flatL_append]; simpa [flatL] using hout3, hbel2.trans hbel3, by simp; omega, by show _ = _; rw [HG.out, HO.out]; simp⟩
          · have HO := hide ho
            clear ho
            subst hk
            have hqn : q < n' := by rw [Hn'.out]; exact hql
            have hbg := HB.out (by omega)
            have c0 : rng wc b (off + p * 13) 13 = some (rowCs bs[p]) := by rw [rng_of_block (hbel2.block _ hbg)]; exact HC.out p hpl
            have hbg' := HB'.out (by omega)
            have c1 : rng wc b' (off' + q * 13) 13 = some (rowCs ts[q]) := by rw [rng_of_block (hbel2.block _ hbg')]; exact HC'.out q hql
            go_wp2_with fail
            refine wp_region_seqN g 7 (by decide) (by kernel_rfl) (by kernel_rfl) (fun d _ _ _ _ h => by cases d <;> exact h) ?_
            simp only [List.take_succ_cons, List.take_zero, List.drop_succ_cons, List.drop_zero]
            repeat (go_big_quiet_step (fail))
            refine wpQuiet_nil ?_
            refine seq_step rfl ?_
            go_wp2_with fail
            refine (HV.out wc.drew (flatL line done) (some bs[p]) (some ts[q]) _ _ ⟨b, _, rfl, hbg, c0⟩ ⟨b', _, rfl, hbg', c1⟩ rfl (hout2.below (Below.refl _ _).drew) HOL.out).mono ?_
            rintro e1 w1 ⟨rfl, hout3, hbel3⟩
            go_wp2_with fail
            refine ⟨Or.inr ⟨⟨w1, (Below.refl _ _).drew.trans hbel3⟩, rfl⟩, ?_⟩
            refine seq_nil ?_
            go_wp2
            go_roundg ((n - (p + 1)) + (n' - (q + 1)))
            case measure => omega
            case rel => exact ⟨p + 1, q + 1, done ++ [(some bs[p], some ts[q])], by omega, by omega, rfl, by go_num, by go_num, by rw [flatL_append]; simpa [flatL] using hout3, hbel2.trans ((Below.refl _ _).drew.trans hbel3), by simp; omega, by show _ = _; rw [HG.out, HO.out]; simp⟩
      · have hqn : q < n' := by omega
        have HPN : Hid (p = n) := by show p = n; omega
        have hql : q < ts.length := by rw [← Hn'.out]; exact hqn
        have HO : Hid (pairs (bs.length + ts.length) (bs.drop p) (ts.drop q) = (none, some ts[q]) :: pairs (bs.length + ts.length) (bs.drop p) (ts.drop (q + 1))) := by
          rcases ordAt_end (bs := bs) (ts := ts) (i := p) (j := q) (by rw [HPN.out, Hn.out]) hql with ⟨h, _⟩ | ⟨_, _, h⟩ | ⟨h, _⟩
          · exact absurd h (by decide)
          · exact h
          · exact absurd h (by decide)
        have hbg' := HB'.out (by omega)
        have c1 : rng wr b' (off' + q * 13) 13 = some (rowCs ts[q]) := by rw [rng_of_block (hbel.block _ hbg')]; exact HC'.out q hql
        go_wp2_with fail
        refine (HV.out wr (flatL line done) none (some ts[q]) _ _ rfl ⟨b', _, rfl, hbg', c1⟩ rfl hout1 HOL.out).mono ?_
        rintro e1 w1 ⟨rfl, hout2, hbel2⟩
        go_wp2
        go_roundg ((n - p) + (n' - (q + 1)))
        case measure => omega
        case rel => exact ⟨p, q + 1, done ++ [(none, some ts[q])], by omega, by omega, rfl, rfl, by go_num, by rw [flatL_append]; simpa [flatL] using hout2, hbel.trans hbel2, by simp; omega, by show _ = _; rw [HG.out, HO.out]; simp⟩

end Go.Proofs.Qxb6500666aGreatDoor
