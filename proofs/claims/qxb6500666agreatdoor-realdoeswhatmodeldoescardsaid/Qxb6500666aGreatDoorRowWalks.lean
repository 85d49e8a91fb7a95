/- Walks over rows: compareKeys, inKeyOrder, sameList, rowsOf. -/
import Derived.Test.Qxb6500666aGreatDoorData
import Derived.Test.Qxb6500666aGreatDoorExt
import Derived.WalkSpells
import Derived.WalkLawsBesides
namespace Go.Proofs.Qxb6500666aGreatDoor
open Go.RowKit
attribute [local go_sem ↓] exec_ldRow exec_ldChange exec_stRow exec_stChange
attribute [local go_sem] run_ldRow run_ldChange run_stRow run_stChange rng_alloc_lt rng_alloc_at rng_drew rng_setCell_other rng_setRow_other whole_alloc_lt whole_alloc_at whole_drew whole_setCell_other whole_setRow_other setRow_alloc_at setRow_alloc_lt setRow_drew rowCs_size rowCs_ones rowCs_0 rowCs_1 rowCs_2 rowCs_3 rowCs_4 rowCs_5 rowCs_6 rowCs_7 rowCs_8 rowCs_9 rowCs_10 rowCs_11 rowCs_12 rowCs_all changeCs_size changeCs_ones changeCs_0 changeCs_row changeCs_all Ext.cell Ext.frozen Ext.rng Ext.whole

theorem guardRow (op : BinOp) (x y : Operand) (u v : Array Value) (w : World) : (eqGuard op 109 x y (.agg u) (.agg v)).run Tryz.prog w = .ok () w := by
  cases op <;> kernel_rfl

set_option maxRecDepth 100000 in
theorem equalRow (a b : Row) (w : World) : (Op.equalIn Op.maxDepth 109 (.agg (rowCs a)) (.agg (rowCs b))).run Tryz.prog w = .ok (a.eqB b) w := by
  obtain ⟨d, hd⟩ : ∃ d, Op.maxDepth = d + 2 := ⟨_, rfl⟩
  rw [hd, run_equalIn_struct w _ 109 _ _ (by kernel_rfl) (by kernel_rfl)]
  by_cases h : a = b
  · subst h
    rw [(Row.eqB_iff a a).2 rfl]
    simp [go_sem, Op.eqFields, rowCs_0, rowCs_1, rowCs_2, rowCs_3, rowCs_4, rowCs_5, rowCs_6, rowCs_7, rowCs_8, rowCs_9, rowCs_10, rowCs_11, rowCs_12]
  · have e : a.eqB b = false := by
      cases e : a.eqB b with
      | false => rfl
      | true => exact absurd ((Row.eqB_iff a b).1 e) h
    rw [e]
    simp [go_sem, Op.eqFields, rowCs_0, rowCs_1, rowCs_2, rowCs_3, rowCs_4, rowCs_5, rowCs_6, rowCs_7, rowCs_8, rowCs_9, rowCs_10, rowCs_11, rowCs_12]
    intro g0 g1 g2 g3 g4 g5 g6 g7 g8 g9 g10 g11 g12
    apply h
    cases a
    cases b
    simp only [Row.mk.injEq]
    exact ⟨g0, g1, g2, g3, g4, g5, g6, g7, g8, g9, g10, g11, g12⟩

theorem run_neqRow (x y : Operand) (a b : Row) (w : World) : (cmpS .neq 109 x y (.agg (rowCs a)) (.agg (rowCs b))).run Tryz.prog w = .ok (.bool (!a.eqB b)) w := by
  simp [cmpS, guardRow, binOp, Op.equal, equalRow]

theorem run_eqlRow (x y : Operand) (a b : Row) (w : World) : (cmpS .eql 109 x y (.agg (rowCs a)) (.agg (rowCs b))).run Tryz.prog w = .ok (.bool (a.eqB b)) w := by
  simp [cmpS, guardRow, binOp, Op.equal, equalRow]

attribute [local go_sem ↓] exec_eqlRow exec_neqRow
attribute [local go_sem] run_neqRow run_eqlRow rng_drewN

/-- The order of keys. -/
def cmpK (a b : Row) : Int :=
  if a.sample < b.sample then -1 else if b.sample < a.sample then 1 else if a.analyte < b.analyte then -1 else if b.analyte < a.analyte then 1 else 0

theorem ret_i64 {a b : Int} (h : a = b) : Ending.returned (.int .i64 a) = .returned (.int .i64 b) := by rw [h]
theorem ret_bool {a b : Bool} (h : a = b) : Ending.returned (.bool a) = .returned (.bool b) := by rw [h]

theorem below2 (w : World) (o1 o2 : Obj) : Below w.heap.size w ((w.alloc o1).alloc o2) := ((Below.refl _ _).alloc (Nat.le_refl _) o1).alloc (by simp) o2

set_option maxRecDepth 100000 in
theorem compareKeys_calls (a b : Row) (w : World) :
    Calls Tryz.prog 112 #[.agg (rowCs a), .agg (rowCs b)] w fun e w' => e = .returned (.int .i64 (cmpK a b)) ∧ Below w.heap.size w w' := by
  by_cases h1 : a.sample < b.sample
  · have e : Hid (cmpK a b = -1) := by show _ = _; simp [cmpK, h1]
    go_enter Tryz.func112, Tryz.ntmps112
    go_wp2
    go_ret
    exact ⟨ret_i64 e.out.symm, below2 _ _ _⟩
  by_cases h2 : b.sample < a.sample
  · have e : Hid (cmpK a b = 1) := by show _ = _; simp [cmpK, h1, h2]
    go_enter Tryz.func112, Tryz.ntmps112
    go_wp2
    go_ret
    exact ⟨ret_i64 e.out.symm, below2 _ _ _⟩
  by_cases h3 : a.analyte < b.analyte
  · have e : Hid (cmpK a b = -1) := by show _ = _; simp [cmpK, h1, h2, h3]
    go_enter Tryz.func112, Tryz.ntmps112
    go_wp2
    go_ret
    exact ⟨ret_i64 e.out.symm, below2 _ _ _⟩
  by_cases h4 : b.analyte < a.analyte
  · have e : Hid (cmpK a b = 1) := by show _ = _; simp [cmpK, h1, h2, h3, h4]
    go_enter Tryz.func112, Tryz.ntmps112
    go_wp2
    go_ret
    exact ⟨ret_i64 e.out.symm, below2 _ _ _⟩
  · have e : Hid (cmpK a b = 0) := by show _ = _; simp [cmpK, h1, h2, h3, h4]
    go_enter Tryz.func112, Tryz.ntmps112
    go_wp2
    go_ret
    exact ⟨ret_i64 e.out.symm, below2 _ _ _⟩

/-- a's key comes strictly before b's. -/
def keyLt (a b : Row) : Prop := a.sample < b.sample ∨ (a.sample = b.sample ∧ a.analyte < b.analyte)

/-- Neighbours stand in strictly rising key order. -/
def Ord (rs : List Row) : Prop := ∀ j (h : j + 1 < rs.length), keyLt rs[j] rs[j + 1]

def keyLtB (a b : Row) : Bool := decide (a.sample < b.sample) || (a.sample == b.sample && decide (a.analyte < b.analyte))

theorem keyLtB_iff (a b : Row) : keyLtB a b = true ↔ keyLt a b := by simp [keyLtB, keyLt]

def ordB : List Row → Bool
  | a :: b :: r => keyLtB a b && ordB (b :: r)
  | _ => true

theorem ordB_iff (rs : List Row) : ordB rs = true ↔ Ord rs := by
  induction rs with
  | nil => exact ⟨fun _ j h => absurd h (by simp), fun _ => rfl⟩
  | cons a r ih =>
    cases r with
    | nil => exact ⟨fun _ j h => absurd h (by simp), fun _ => rfl⟩
    | cons b r =>
      simp only [ordB, Bool.and_eq_true, keyLtB_iff, ih]
      constructor
      · intro ⟨h1, h2⟩ j hj
        cases j with
        | zero => exact h1
        | succ j => exact h2 j (by simpa using hj)
      · intro h
        exact ⟨h 0 (by simp), fun j hj => h (j + 1) (by simpa using hj)⟩

theorem ordB_false {rs : List Row} (h : ¬ Ord rs) : ordB rs = false := by
  cases e : ordB rs with
  | false => rfl
  | true => exact absurd ((ordB_iff rs).1 e) h

/-- A slice of rows. -/
def RowsAt (w : World) (ok : Nat → Prop) (v : Value) (rs : List Row) : Prop := RArr w ok 13 rowCs v rs


def sameRows : List Row → List Row → Bool
  | [], [] => true
  | a :: r, b :: s => a.eqB b && sameRows r s
  | _, _ => false

theorem sameRows_iff (a b : List Row) : sameRows a b = true ↔ a = b := by
  induction a generalizing b with
  | nil => cases b <;> simp [sameRows]
  | cons x r ih =>
    cases b with
    | nil => simp [sameRows]
    | cons y s => simp [sameRows, ih, Row.eqB_iff]

theorem sameRows_false {a b : List Row} (h : ¬ a = b) : sameRows a b = false := by
  cases e : sameRows a b with
  | false => rfl
  | true => exact absurd ((sameRows_iff a b).1 e) h

set_option maxRecDepth 100000 in
set_option maxHeartbeats 1000000 in
theorem sameList_calls (w : World) (ok ok' : Nat → Prop) (v v' : Value) (rs rs' : List Row) (h : RowsAt w ok v rs) (h' : RowsAt w ok' v' rs') :
    Calls Tryz.prog 57 #[v, v'] w fun e w' => e = .returned (.bool (sameRows rs rs')) ∧ ∃ n, w' = w.drewN n := by
  obtain ⟨a, cap, b, off, rfl, hl, hm, hr, ha, hc⟩ := h
  obtain ⟨a', cap', b', off', rfl, hl', hm', hr', ha', hc'⟩ := h'
  obtain ⟨n, hn⟩ : ∃ n, n = rs.length := ⟨_, rfl⟩
  obtain ⟨n', hn'⟩ : ∃ n, n = rs'.length := ⟨_, rfl⟩
  have Hn : Hid (n = rs.length) := hn
  have Hn' : Hid (n' = rs'.length) := hn'
  rw [← hn] at hl hr ha ⊢
  rw [← hn'] at hl' hr' ha' ⊢
  have hi := run_indexAt_arr (P := Tryz.prog) (cap := cap) Tryz.underlying150 Tryz.size109 (fun h => (ha h).1)
  have hi' := run_indexAt_arr (P := Tryz.prog) (cap := cap') Tryz.underlying150 Tryz.size109 (fun h => (ha' h).1)
  have HC := hide hc
  have HC' := hide hc'
  clear ha hc hn hm hl ha' hc' hn' hm' hl'
  by_cases hne : n = n'
  case neg =>
    have e : Hid (sameRows rs rs' = false) := sameRows_false (fun e => hne (by rw [Hn.out, Hn'.out, e]))
    have hb : ((n : Int) != (n' : Int)) = true := by simp; omega
    clear hi hi'
    go_enter Tryz.func57, Tryz.ntmps57
    go_wp2
    go_ret
    exact ⟨ret_bool e.out.symm, 0, rfl⟩
  subst hne
  have hb : ((n : Int) != (n : Int)) = false := by simp
  go_enter Tryz.func57, Tryz.ntmps57
  go_wp2
  go_loopw [13] (fun i wr => ∃ k : Nat, k ≤ n ∧ i = .int .i64 k ∧ Hid (rs.take k = rs'.take k) ∧ Hid (∃ m, wr = w.drewN m)) (fun i _ => n - (intOf i).toNat)
  case atStart => exact ⟨0, by omega, rfl, (by show _ = _; simp), ⟨0, rfl⟩⟩
  case round =>
    obtain ⟨k, hk, rfl, HT, HW⟩ := hrel
    obtain ⟨m, rfl⟩ := HW.out
    by_cases hlt : k < n
    · have hks : k < rs.length := by rw [← Hn.out]; exact hlt
      have hks' : k < rs'.length := by rw [← Hn'.out]; exact hlt
      have c0 := HC.out k hks
      have d0 := HC'.out k hks'
      have HS : Hid (rs[k] = rs'[k] → rs.take (k + 1) = rs'.take (k + 1)) := by
        intro e
        rw [List.take_succ_eq_append_getElem hks, List.take_succ_eq_append_getElem hks', HT.out, e]
      have HF : Hid (¬ rs[k] = rs'[k] → sameRows rs rs' = false) := by
        intro e
        exact sameRows_false (fun h => e (by simp [h]))
      generalize rs[k] = r1 at *
      generalize rs'[k] = r2 at *
      cases hq : r1.eqB r2 with
      | true =>
        have HQ : Hid (r1 = r2) := (Row.eqB_iff _ _).1 hq
        go_wp2
        go_quiet (fail)
        go_wp2
        go_roundw
        case rel => exact ⟨k + 1, by omega, by go_num, HS.out HQ.out, ⟨m + nq, by simp⟩⟩
        case measure => simp [intOf]; omega
      | false =>
        have HQ : Hid (sameRows rs rs' = false) := HF.out (fun e => by rw [(Row.eqB_iff _ _).2 e] at hq; simp at hq)
        go_wp2
        go_quiet (fail)
        go_wp2
        go_ret
        exact ⟨ret_bool HQ.out.symm, m + nq, by simp⟩
    · have HE : Hid (sameRows rs rs' = true) := by
        refine (sameRows_iff _ _).2 ?_
        have := HT.out
        rwa [List.take_of_length_le (by rw [← Hn.out]; omega), List.take_of_length_le (by rw [← Hn'.out]; omega)] at this
      go_wp2
      go_ret
      exact ⟨ret_bool HE.out.symm, m, rfl⟩

end Go.Proofs.Qxb6500666aGreatDoor
