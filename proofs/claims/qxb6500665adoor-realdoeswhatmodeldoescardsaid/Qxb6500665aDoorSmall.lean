/- The size guard zzSmall1. -/
import Derived.Test.Qxb6500665aDoorData
import Derived.WalkSpells
import Derived.WalkLawsBesides
namespace Go.Proofs.Qxb6500665aDoor
open Go.RowKit

def Visit.weight (v : Visit) : Nat := v.panels.length
def sumOf {α : Type} (f : α → Nat) : List α → Nat
  | [] => 0
  | x :: r => f x + sumOf f r
def Op.weight (o : Op) : Nat := o.list.length + o.visits.length + sumOf Visit.weight o.visits
def total (s : List Op) : Nat := s.length + sumOf Op.weight s

theorem sumOf_take_succ {α : Type} (f : α → Nat) (l : List α) (k : Nat) (h : k < l.length) : sumOf f (l.take (k + 1)) = sumOf f (l.take k) + f l[k] := by
  induction l generalizing k with
  | nil => simp at h
  | cons x r ih =>
    cases k with
    | zero => simp [sumOf]
    | succ k =>
      have := ih k (by simpa using h)
      simp only [List.take_succ_cons, sumOf, this, List.getElem_cons_succ]
      omega

theorem sumOf_take_le {α : Type} (f : α → Nat) (l : List α) (k : Nat) : sumOf f (l.take k) ≤ sumOf f l := by
  induction l generalizing k with
  | nil => simp [sumOf]
  | cons x r ih =>
    cases k with
    | zero => simp [sumOf]
    | succ k => have := ih k; simp only [List.take_succ_cons, sumOf]; omega

theorem sumOf_le {α : Type} (f : α → Nat) (l : List α) (k : Nat) (h : k < l.length) : sumOf f (l.take k) + f l[k] ≤ sumOf f l := by
  have := sumOf_take_le f l (k + 1)
  rw [sumOf_take_succ f l k h] at this
  exact this

theorem ret_bl {a b : Bool} (h : a = b) : Ending.returned (.bool a) = .returned (.bool b) := by rw [h]

set_option maxRecDepth 100000 in
set_option maxHeartbeats 1000000 in
theorem small_calls (w : World) (ok : Nat → Prop) (v : Value) (s : List Op) (h : Script w ok v s) :
    Calls Tryd.prog 5 #[v] w fun e w' => e = .returned (.bool (decide (total s ≤ 65536))) ∧ w = w' := by
  obtain ⟨a, cap, b, off, rfl, hl, hm, hr, ha, hc⟩ := h
  obtain ⟨n, hn⟩ : ∃ n, n = s.length := ⟨_, rfl⟩
  have Hn : Hid (n = s.length) := hn
  rw [← hn] at hl hr ha ⊢
  have hi := run_indexAt_arr (P := Tryd.prog) (cap := cap) Tryd.underlying22 Tryd.size34 (fun h => (ha h).1)
  have HC := hide hc
  clear ha hc hn
  by_cases hbig : 65536 < n
  · have e : Hid (decide (total s ≤ 65536) = false) := by
      show decide (total s ≤ 65536) = false
      have := Hn.out
      have ht : ¬ total s ≤ 65536 := by unfold total; omega
      simpa using ht
    clear HC
    go_enter Tryd.func5, Tryd.ntmps5
    go_wp2
    go_ret
    exact ⟨ret_bl e.out.symm, rfl⟩
  go_enter Tryd.func5, Tryd.ntmps5
  go_wp2
  go_loop [3, 4] (fun x i => ∃ k m : Nat, k ≤ n ∧ m ≤ 65536 ∧ i = .int .i64 k ∧ x = .int .i64 m ∧ Hid (m = s.length + sumOf Op.weight (s.take k))) (fun _ i => n - (intOf i).toNat)
  case atStart => exact ⟨0, n, by omega, by omega, rfl, rfl, by show n = _; rw [Hn.out]; simp [sumOf]⟩
  case round =>
    obtain ⟨k, m, hk, hm1, rfl, rfl, HM⟩ := hrel
    by_cases hlt : k < n
    · have hks : k < s.length := by rw [← Hn.out]; exact hlt
      obtain ⟨cs, -, ⟨lv, vv, rfl, -, -, -, -, -, -, -, -, hlist, hvis⟩, hcell⟩ := HC.out k hks
      have c8 := hcell 8 (by simp)
      have c9 := hcell 9 (by simp)
      clear hcell
      obtain ⟨la, lcap, lb, loff, rfl, -, -, hlr, -, -⟩ := hlist
      obtain ⟨va, vcap, vb, voff, rfl, -, -, hvr, hva, hvc⟩ := hvis
      have hiv := run_indexAt_arr (P := Tryd.prog) (cap := vcap) Tryd.underlying32 Tryd.size63 (fun h => (hva h).1)
      have HV := hide hvc
      have HW : Hid (s.length + sumOf Op.weight (s.take (k + 1)) = m + (s[k].list.length + s[k].visits.length + sumOf Visit.weight s[k].visits)) := by
        show _ = _
        rw [sumOf_take_succ _ _ _ hks, HM.out]; simp [Op.weight]; omega
      have HT : Hid (s.length + sumOf Op.weight (s.take (k + 1)) ≤ total s) := by
        show _ ≤ _
        have := sumOf_take_le Op.weight s (k + 1); simp [total]; omega
      clear hva hvc
      obtain ⟨vis, hvis⟩ : ∃ x, x = s[k].visits := ⟨_, rfl⟩
      rw [← hvis] at hiv hvr c9 HV HW
      obtain ⟨ll, hll⟩ : ∃ x, x = s[k].list.length := ⟨_, rfl⟩
      rw [← hll] at hlr c8 HW
      obtain ⟨vn, hvn⟩ : ∃ x, x = vis.length := ⟨_, rfl⟩
      rw [← hvn] at hiv hvr c9 HW
      have Hvn : Hid (vn = vis.length) := hvn
      simp only [List.getElem_cons_succ, List.getElem_cons_zero] at c8 c9
      clear hvis hll hvn
      by_cases h1 : m + ll ≤ 65536
      · by_cases h2 : m + ll + vn ≤ 65536
        · go_wp2
          go_loop [3, 5] (fun x i => ∃ k2 m2 : Nat, k2 ≤ vn ∧ m2 ≤ 65536 ∧ i = .int .i64 k2 ∧ x = .int .i64 m2 ∧ Hid (m2 = m + ll + vn + sumOf Visit.weight (vis.take k2))) (fun _ i => vn - (intOf i).toNat)
          case atStart => exact ⟨0, m + ll + vn, by omega, by omega, rfl, by go_num, by show _ = _; simp [sumOf]⟩
          case round =>
            obtain ⟨k2, m2, hk2, hm2, rfl, rfl, HM2⟩ := hrel
            by_cases hlt2 : k2 < vn
            · have hks2 : k2 < vis.length := by rw [← Hvn.out]; exact hlt2
              obtain ⟨cs2, -, ⟨pv, rfl, -, -, -, -, hpan⟩, hcell2⟩ := HV.out k2 hks2
              have d4 := hcell2 4 (by simp)
              clear hcell2
              obtain ⟨pa, pcap, pb, poff, rfl, -, -, hpr, -, -⟩ := hpan
              have HW2 : Hid (m + ll + vn + sumOf Visit.weight (vis.take (k2 + 1)) = m2 + vis[k2].panels.length) := by
                show _ = _
                rw [sumOf_take_succ _ _ _ hks2, HM2.out]; simp [Visit.weight]; omega
              have HT2 : Hid (sumOf Visit.weight (vis.take (k2 + 1)) ≤ sumOf Visit.weight vis) := sumOf_take_le _ _ _
              obtain ⟨pn, hpn⟩ : ∃ x, x = vis[k2].panels.length := ⟨_, rfl⟩
              rw [← hpn] at hpr d4 HW2
              simp only [List.getElem_cons_succ, List.getElem_cons_zero] at d4
              clear hpn
              by_cases h3 : m2 + pn ≤ 65536
              · go_wp2
                go_round
                case rel => exact ⟨k2 + 1, m2 + pn, by omega, by omega, by go_num, by go_num, HW2.out.symm⟩
                case measure => simp [intOf]; omega
              · have e : Hid (decide (total s ≤ 65536) = false) := by
                  show decide (total s ≤ 65536) = false
                  have e1 := HW.out; have e2 := HT.out; have e3 := HW2.out; have e4 := HT2.out
                  simp; omega
                go_wp2
                go_ret
                exact ⟨ret_bl e.out.symm, rfl⟩
            · go_wp2
              go_round
              case rel =>
                refine ⟨k + 1, m2, by omega, by omega, by go_num, rfl, ?_⟩
                show _ = _
                have e1 := HW.out; have e2 := HM2.out
                rw [List.take_of_length_le (by rw [← Hvn.out]; omega)] at e2
                omega
              case measure => simp [intOf]; omega
        · have e : Hid (decide (total s ≤ 65536) = false) := by
            show decide (total s ≤ 65536) = false
            have e1 := HW.out; have e2 := HT.out
            simp; omega
          go_wp2
          go_ret
          exact ⟨ret_bl e.out.symm, rfl⟩
      · have e : Hid (decide (total s ≤ 65536) = false) := by
          show decide (total s ≤ 65536) = false
          have e1 := HW.out; have e2 := HT.out
          simp; omega
        go_wp2
        go_ret
        exact ⟨ret_bl e.out.symm, rfl⟩
    · have e : Hid (decide (total s ≤ 65536) = true) := by
        show decide (total s ≤ 65536) = true
        have e1 := HM.out
        rw [List.take_of_length_le (by rw [← Hn.out]; omega)] at e1
        have ht : total s ≤ 65536 := by unfold total; omega
        simpa using ht
      go_wp2
      go_ret
      exact ⟨ret_bl e.out.symm, rfl⟩

end Go.Proofs.Qxb6500665aDoor
