/- The abstract model's small functions, walked. -/
import Derived.Test.Qxb6500665aDoorMapU
import Derived.BigQuiet
import Derived.Deep.LoopGhost
namespace Go.Proofs.Qxb6500665aDoor
open Go.RowKit Go.Proofs.Qxb6500665aDoor.Cal

def inCal (m : Int) : Bool := decide (0 ≤ m ∧ m ≤ 157785119)
def dayIn (d : Int) : Bool := decide (0 ≤ d ∧ d ≤ 109572)

set_option maxRecDepth 100000 in
theorem inCal_calls (m : Int) (w : World) : Calls Tryd.prog 45 #[.int .i64 m] w fun e w' => e = .returned (.bool (inCal m)) ∧ w = w' := by
  by_cases h1 : 0 ≤ m
  · by_cases h2 : m ≤ 157785119
    · have hR : inCal m = true := decide_eq_true ⟨h1, h2⟩
      rw [hR]
      go_enter Tryd.func45, Tryd.ntmps45
      go_wp2
      go_ret
      exact ⟨rfl, rfl⟩
    · have hR : inCal m = false := decide_eq_false (fun h => h2 h.2)
      rw [hR]
      go_enter Tryd.func45, Tryd.ntmps45
      go_wp2
      go_ret
      exact ⟨rfl, rfl⟩
  · have hR : inCal m = false := decide_eq_false (fun h => h1 h.1)
    rw [hR]
    go_enter Tryd.func45, Tryd.ntmps45
    go_wp2
    go_ret
    exact ⟨rfl, rfl⟩

set_option maxRecDepth 100000 in
theorem dayIn_calls (m : Int) (w : World) : Calls Tryd.prog 46 #[.int .i64 m] w fun e w' => e = .returned (.bool (dayIn m)) ∧ w = w' := by
  by_cases h1 : 0 ≤ m
  · by_cases h2 : m ≤ 109572
    · have hR : dayIn m = true := decide_eq_true ⟨h1, h2⟩
      rw [hR]
      go_enter Tryd.func46, Tryd.ntmps46
      go_wp2
      go_ret
      exact ⟨rfl, rfl⟩
    · have hR : dayIn m = false := decide_eq_false (fun h => h2 h.2)
      rw [hR]
      go_enter Tryd.func46, Tryd.ntmps46
      go_wp2
      go_ret
      exact ⟨rfl, rfl⟩
  · have hR : dayIn m = false := decide_eq_false (fun h => h1 h.1)
    rw [hR]
    go_enter Tryd.func46, Tryd.ntmps46
    go_wp2
    go_ret
    exact ⟨rfl, rfl⟩

/-- Two places that hold the same. -/
def twin (ids : List Int) (i j : Nat) : Prop := ∃ (hi : i < ids.length) (hj : j < ids.length), i ≠ j ∧ ids[i] = ids[j]
theorem nodup_of_twin {ids : List Int} (h : ∀ i j, ¬ twin ids i j) : ids.Nodup := by
  rw [List.Nodup, List.pairwise_iff_getElem]
  intro i j hi hj hij e
  exact h i j ⟨hi, hj, by omega, e⟩
theorem not_nodup_of_twin {ids : List Int} {i j : Nat} (h : twin ids i j) : ¬ ids.Nodup := fun hn => by
  obtain ⟨hi, hj, hne, he⟩ := h
  exact hne ((List.getElem_inj hn).1 he)

theorem ret_lc {w w' : World} {e : Ending} {K k : Int} (h : Hid (K = k)) (he : e = .returned (.int .u8 k)) (hw : ∃ d, w' = w.drewN d) : e = .returned (.int .u8 K) ∧ ∃ d, w' = w.drewN d := by rw [h.out]; exact ⟨he, hw⟩

set_option maxRecDepth 100000 in
set_option maxHeartbeats 2000000 in
theorem listCode_calls (w : World) (ok : Nat → Prop) (iv : Value) (ids : List Int) (most : Nat) (h : U32sAt w ok iv ids) (hm : most ≤ 1000000) :
    Calls Tryd.prog 73 #[iv, .int .i64 most] w fun e w' => e = .returned (.int .u8 (listErr ids most)) ∧ ∃ d, w' = w.drewN d := by
  obtain ⟨K, hK⟩ : ∃ K, K = listErr ids most := ⟨_, rfl⟩
  rw [← hK]
  have HK := hide hK
  clear hK
  obtain ⟨n, hnn⟩ : ∃ n, ids.length = n := ⟨_, rfl⟩
  obtain ⟨a, cap, b, off, rfl, r1, r2, r3, r4, ha, hc⟩ := h.parts n hnn
  rcases Nat.eq_zero_or_pos n with rfl | hpos
  · have HE : Hid (K = 7) := by show _ = _; rw [HK.out, listErr, if_pos (Or.inl hnn)]
    clear ha hc hnn h HK
    go_enter Tryd.func73, Tryd.ntmps73
    go_wp2
    go_ret
    exact ret_lc HE rfl ⟨0, rfl⟩
  · by_cases hlt : most < n
    · have HE : Hid (K = 7) := by show _ = _; rw [HK.out, listErr, if_pos (Or.inr (by omega))]
      have hn0 : ((n : Int) == 0) = false := by simp; omega
      have hd : decide ((most : Int) < (n : Int)) = true := decide_eq_true (by omega)
      clear ha hc hnn h HK
      go_enter Tryd.func73, Tryd.ntmps73
      go_wp2
      go_ret
      exact ret_lc HE rfl ⟨0, rfl⟩
    · obtain ⟨rfl, -, hbl⟩ := ha hpos
      have HE : Hid (K = if ids.Nodup then 0 else 8) := by
        show _ = _
        rw [HK.out, listErr, if_neg (by omega)]
      have hn0 : ((n : Int) == 0) = false := by simp; omega
      have hd : decide ((most : Int) < (n : Int)) = false := decide_eq_false (by omega)
      have hd' : decide (most < n) = false := decide_eq_false hlt
      have hi := run_indexAt_arr (P := Tryd.prog) (n := n) (cap := cap) Tryd.underlying31 Tryd.size29 (fun _ => (rfl : some (⟨b, off, none⟩ : Addr) = _))
      have HC := hide hc
      have Hn := hide hnn
      clear ha hc hnn h HK
      go_enter Tryd.func73, Tryd.ntmps73
      go_wp2
      go_loopg [18] n (fun g x wr => ∃ q : Nat, q ≤ n ∧ g = n - q ∧ x = .int .i64 q ∧ Hid (∀ i j, i < q → ¬ twin ids i j) ∧ ∃ dm, wr = w.drewN dm)
      case atStart => exact ⟨0, by omega, by omega, rfl, fun i j h => absurd h (by omega), 0, rfl⟩
      case round =>
        obtain ⟨q, hq, rfl, rfl, HT, dm, rfl⟩ := hrel
        by_cases hlt2 : q < n
        · go_wp2
          go_loopg [23] n (fun g x wr => ∃ p : Nat, p ≤ n ∧ g = n - p ∧ x = .int .i64 p ∧ Hid (∀ j, j < p → ¬ twin ids q j) ∧ ∃ dm, wr = w.drewN dm)
          case atStart => exact ⟨0, by omega, by omega, rfl, fun j h => absurd h (by omega), dm, rfl⟩
          case round =>
            obtain ⟨p, hp, rfl, rfl, HP, dm', rfl⟩ := hrel
            by_cases hlt3 : p < n
            · have hql : q < ids.length := by rw [Hn.out]; exact hlt2
              have hpl : p < ids.length := by rw [Hn.out]; exact hlt3
              have c0 := HC.out q hql
              have c1 := HC.out p hpl
              by_cases hqp : q = p
              · have t0 : ((q : Int) != (p : Int)) = false := by simp [hqp]
                have HQP := hide hqp
                clear hqp c0 c1
                go_upto_region 9 with fail
                go_quiet (fail)
                go_wp2
                go_roundg (n - (p + 1))
                case measure => omega
                case rel =>
                  refine ⟨p + 1, by omega, rfl, by go_num, fun j hj => ?_, dm' + nq, by simp⟩
                  by_cases hjp : j < p
                  · exact HP.out j hjp
                  · have : j = p := by omega
                    subst this
                    exact fun ⟨_, _, hne, _⟩ => hne HQP.out
              · have t0 : ((q : Int) != (p : Int)) = true := by simp; omega
                have HQP := hide hqp
                obtain ⟨x, hx⟩ : ∃ x, x = ids[q] := ⟨_, rfl⟩
                obtain ⟨y, hy⟩ : ∃ y, y = ids[p] := ⟨_, rfl⟩
                rw [← hx] at c0
                rw [← hy] at c1
                have HX := hide hx
                have HY := hide hy
                clear hqp hx hy
                by_cases hxy : x = y
                · have t1 : (x == y) = true := by simp [hxy]
                  have HF : Hid (K = 8) := by show _ = _; rw [HE.out, if_neg (not_nodup_of_twin ⟨hql, hpl, HQP.out, HX.out.symm.trans (hxy.trans HY.out)⟩)]
                  clear hxy
                  go_upto_region 9 with fail
                  go_quiet (fail)
                  go_wp2
                  go_ret
                  exact ret_lc HF rfl ⟨dm' + nq, by simp⟩
                · have t1 : (x == y) = false := by simp [hxy]
                  have HXY := hide hxy
                  clear hxy
                  go_upto_region 9 with fail
                  go_quiet (fail)
                  go_wp2
                  go_roundg (n - (p + 1))
                  case measure => omega
                  case rel =>
                    refine ⟨p + 1, by omega, rfl, by go_num, fun j hj => ?_, dm' + nq, by simp⟩
                    by_cases hjp : j < p
                    · exact HP.out j hjp
                    · have : j = p := by omega
                      subst this
                      exact fun ⟨_, _, _, he⟩ => HXY.out (HX.out.trans (he.trans HY.out.symm))
            · go_wp2
              go_roundg (n - (q + 1))
              case measure => omega
              case rel =>
                refine ⟨q + 1, by omega, rfl, by go_num, fun i j hi => ?_, dm', rfl⟩
                by_cases hiq : i < q
                · exact HT.out i j hiq
                · have : i = q := by omega
                  subst this
                  intro ht
                  obtain ⟨h1, h2, h3, h4⟩ := ht
                  exact HP.out j (by have := Hn.out; omega) ⟨h1, h2, h3, h4⟩
        · have HF : Hid (K = 0) := by
            show _ = _
            rw [HE.out, if_pos (nodup_of_twin (fun i j ht => HT.out i j (by obtain ⟨h1, -⟩ := ht; have := Hn.out; omega) ht))]
          go_wp2
          go_ret
          exact ret_lc HF rfl ⟨dm, rfl⟩

end Go.Proofs.Qxb6500665aDoor
