/- validDifference, keyBefore, walked. (Made by tools/mk_rep.py.) -/
import Derived.Test.Qxb6500666aGreatDoorRecon
namespace Go.Proofs.Qxb6500666aGreatDoor
open Go.RowKit

def vdB (d : Diff) : Bool := if (d.sample == 0) then false else if (d.analyte == 0) then false else if (d.action == 78) then (if (d.before == 0) then decide (0 < d.after) else false) else if (d.action == 87) then (if decide (0 < d.before) then (d.after == 0) else false) else if (d.action == 67) then (if decide (0 < d.before) then decide (0 < d.after) else false) else false
def kbB (a b : Diff) : Bool := if decide (a.sample < b.sample) then true else if (a.sample == b.sample) then decide (a.analyte < b.analyte) else false

section
variable (ρ : Operand → Value) (dst : Option Tmp) (x y : Operand) (ty : TypeId) (pos : String) (after : Array Edge) (guard : Option (Nat × Bool))
theorem exec_ldDiff : execOp ρ { dst, op := .load 166 x, type := ty, pos, after, guard } = (do pure (.value (← ldS 166 (ρ x)))) := rfl
theorem exec_stDiff : execOp ρ { dst, op := .store 166 x y, type := ty, pos, after, guard } = (do stS 166 (ρ x) (ρ y); pure .skip) := rfl
end
theorem Tryz.size166_z (w : World) : (sizeOf 166).run Tryz.prog w = .ok 5 w := by kernel_rfl
theorem run_ldDiff (w : World) (b off : Nat) : (ldS 166 (.pointer (some ⟨b, off, none⟩))).run Tryz.prog w = match rng w b off 5 with | some cs => .ok (.agg cs) w | none => (Instr.loadAt 166 (.pointer (some ⟨b, off, none⟩))).run Tryz.prog w :=
  run_ldS Tryz.underlying166 Tryz.size166_z w b off
theorem run_stDiff (w : World) (b : Nat) (cs : Array Value) : (stS 166 (.pointer (some ⟨b, 0, none⟩)) (.agg cs)).run Tryz.prog w = if whole w b 5 = true ∧ ones cs 5 = true then .ok () (w.setRow b cs) else (Instr.storeAt 166 (.pointer (some ⟨b, 0, none⟩)) (.agg cs)).run Tryz.prog w := run_stS Tryz.size166_z w b cs

theorem ret_boolz {a b : Bool} (h : a = b) : Ending.returned (.bool a) = .returned (.bool b) := by rw [h]

attribute [local go_sem] ext_const Ext.cell Ext.frozen Ext.rng Ext.whole

set_option maxRecDepth 100000 in
set_option maxHeartbeats 1000000 in
theorem validDiff_calls (w : World) (d : Diff) : Calls Tryz.prog 168 #[.agg (diffCs d)] w fun e w' => e = .returned (.bool (vdB d)) ∧ Below w.heap.size w w' := by
  obtain ⟨R, hR⟩ : ∃ R, R = vdB d := ⟨_, rfl⟩
  rw [← hR]
  have HR := hide hR
  clear hR
  obtain ⟨da, ds, dn, db, df⟩ := d
  have hb : Below w.heap.size w (w.alloc (.cells (diffCs ⟨da, ds, dn, db, df⟩) 166)) := (Below.refl _ _).alloc (Nat.le_refl _) _
  have hx : (w.alloc (.cells (diffCs ⟨da, ds, dn, db, df⟩) 166)).heap[w.heap.size]? = some (.cells (diffCs ⟨da, ds, dn, db, df⟩) 166 (0, 0)) := heap_alloc_at _ _
  go_enter Tryz.func168, Tryz.ntmps168
  go_upto_region 1 with fail
  simp only [diffCs] at hb hx ⊢
  generalize (World.alloc w _) = W at *
  have HB := hide hb
  have c0 : W.cell? ⟨w.heap.size, 0, none⟩ = some (.int .u8 da) := by rw [World.cell?, hx]; rfl
  have c1 : W.cell? ⟨w.heap.size, 1, none⟩ = some (.int .u32 ds) := by rw [World.cell?, hx]; rfl
  have c2 : W.cell? ⟨w.heap.size, 2, none⟩ = some (.int .u32 dn) := by rw [World.cell?, hx]; rfl
  have c3 : W.cell? ⟨w.heap.size, 3, none⟩ = some (.int .u32 db) := by rw [World.cell?, hx]; rfl
  have c4 : W.cell? ⟨w.heap.size, 4, none⟩ = some (.int .u32 df) := by rw [World.cell?, hx]; rfl
  have hl := blk_lt hx
  clear hb hx
  cases qs : (ds == 0) with
  | true =>
    have HE : Hid (R = false) := HR.out.trans (by simp [vdB, qs])
    go_wp2
    go_ret
    exact ⟨ret_boolH HE, HB.out⟩
  | false =>
    cases qn : (dn == 0) with
    | true =>
      have HE : Hid (R = false) := HR.out.trans (by simp [vdB, qs, qn])
      go_wp2
      go_ret
      exact ⟨ret_boolH HE, HB.out⟩
    | false =>
      cases qa : (da == 78) with
      | true =>
        cases qb : (db == 0) with
        | true =>
          have HE : Hid (R = decide (0 < df)) := HR.out.trans (by simp [vdB, qs, qn, qa, qb])
          cases qf : decide (0 < df) with
          | true =>
            go_wp2
            go_ret
            exact ⟨ret_boolH (HE.out.trans qf), HB.out⟩
          | false =>
            go_wp2
            go_ret
            exact ⟨ret_boolH (HE.out.trans qf), HB.out⟩
        | false =>
          have HE : Hid (R = false) := HR.out.trans (by simp [vdB, qs, qn, qa, qb])
          go_wp2
          go_ret
          exact ⟨ret_boolH HE, HB.out⟩
      | false =>
        cases qw : (da == 87) with
        | true =>
          cases qg : decide (0 < db) with
          | true =>
            have qg' := of_decide_eq_true qg
            have HE : Hid (R = (df == 0)) := HR.out.trans (by simp [vdB, qs, qn, qa, qw, qg'])
            cases qz : (df == 0) with
            | true =>
              go_wp2
              go_ret
              exact ⟨ret_boolH (HE.out.trans qz), HB.out⟩
            | false =>
              go_wp2
              go_ret
              exact ⟨ret_boolH (HE.out.trans qz), HB.out⟩
          | false =>
            have qg' := of_decide_eq_false qg
            have HE : Hid (R = false) := HR.out.trans (by simp [vdB, qs, qn, qa, qw, qg'])
            go_wp2
            go_ret
            exact ⟨ret_boolH HE, HB.out⟩
        | false =>
          cases qc : (da == 67) with
          | true =>
            cases qg : decide (0 < db) with
            | true =>
              have qg' := of_decide_eq_true qg
              have HE : Hid (R = decide (0 < df)) := HR.out.trans (by simp [vdB, qs, qn, qa, qw, qc, qg'])
              cases qf : decide (0 < df) with
              | true =>
                go_wp2
                go_ret
                exact ⟨ret_boolH (HE.out.trans qf), HB.out⟩
              | false =>
                go_wp2
                go_ret
                exact ⟨ret_boolH (HE.out.trans qf), HB.out⟩
            | false =>
              have qg' := of_decide_eq_false qg
              have HE : Hid (R = false) := HR.out.trans (by simp [vdB, qs, qn, qa, qw, qc, qg'])
              go_wp2
              go_ret
              exact ⟨ret_boolH HE, HB.out⟩
          | false =>
            have HE : Hid (R = false) := HR.out.trans (by simp [vdB, qs, qn, qa, qw, qc])
            go_wp2
            go_ret
            exact ⟨ret_boolH HE, HB.out⟩

set_option maxRecDepth 100000 in
set_option maxHeartbeats 1000000 in
theorem keyBefore_calls (w : World) (a b : Diff) : Calls Tryz.prog 169 #[.agg (diffCs a), .agg (diffCs b)] w fun e w' => e = .returned (.bool (kbB a b)) ∧ Below w.heap.size w w' := by
  obtain ⟨R, hR⟩ : ∃ R, R = kbB a b := ⟨_, rfl⟩
  rw [← hR]
  have HR := hide hR
  clear hR
  obtain ⟨aa, as', an, ab, af⟩ := a
  obtain ⟨ba, bs, bn, bb, bf⟩ := b
  have hb : Below w.heap.size w ((w.alloc (.cells (diffCs ⟨aa, as', an, ab, af⟩) 166)).alloc (.cells (diffCs ⟨ba, bs, bn, bb, bf⟩) 166)) := ((Below.refl _ _).alloc (Nat.le_refl _) _).alloc (by simp) _
  have hx : ((w.alloc (.cells (diffCs ⟨aa, as', an, ab, af⟩) 166)).alloc (.cells (diffCs ⟨ba, bs, bn, bb, bf⟩) 166)).heap[w.heap.size]? = some (.cells (diffCs ⟨aa, as', an, ab, af⟩) 166 (0, 0)) := (Below.heap_alloc _ _ _ (by simp)).trans (heap_alloc_at _ _)
  have hy : ((w.alloc (.cells (diffCs ⟨aa, as', an, ab, af⟩) 166)).alloc (.cells (diffCs ⟨ba, bs, bn, bb, bf⟩) 166)).heap[w.heap.size + 1]? = some (.cells (diffCs ⟨ba, bs, bn, bb, bf⟩) 166 (0, 0)) := box2 w _ _ _ _
  go_enter Tryz.func169, Tryz.ntmps169
  go_upto_region 1 with fail
  simp only [diffCs] at hb hx hy ⊢
  generalize (World.alloc (World.alloc w _) _) = W at *
  have HB := hide hb
  have c1 : W.cell? ⟨w.heap.size, 1, none⟩ = some (.int .u32 as') := by rw [World.cell?, hx]; rfl
  have c2 : W.cell? ⟨w.heap.size, 2, none⟩ = some (.int .u32 an) := by rw [World.cell?, hx]; rfl
  have d1 : W.cell? ⟨w.heap.size + 1, 1, none⟩ = some (.int .u32 bs) := by rw [World.cell?, hy]; rfl
  have d2 : W.cell? ⟨w.heap.size + 1, 2, none⟩ = some (.int .u32 bn) := by rw [World.cell?, hy]; rfl
  have hl := blk_lt hx
  have hl2 := blk_lt hy
  clear hb hx hy
  cases q1 : decide (as' < bs) with
  | true =>
    have q1' := of_decide_eq_true q1
    have HE : Hid (R = true) := HR.out.trans (by simp [kbB, q1'])
    go_wp2
    go_ret
    exact ⟨ret_boolH HE, HB.out⟩
  | false =>
    have q1' := of_decide_eq_false q1
    cases q2 : (as' == bs) with
    | false =>
      have HE : Hid (R = false) := HR.out.trans (by simp [kbB, q1', q2])
      go_wp2
      go_ret
      exact ⟨ret_boolH HE, HB.out⟩
    | true =>
      have HE : Hid (R = decide (an < bn)) := HR.out.trans (by simp only [kbB, q1, q2]; rfl)
      cases q3 : decide (an < bn) with
      | true =>
        have q3' := of_decide_eq_true q3
        go_wp2
        go_ret
        exact ⟨ret_boolH (HE.out.trans q3), HB.out⟩
      | false =>
        have q3' := of_decide_eq_false q3
        go_wp2
        go_ret
        exact ⟨ret_boolH (HE.out.trans q3), HB.out⟩

end Go.Proofs.Qxb6500666aGreatDoor
