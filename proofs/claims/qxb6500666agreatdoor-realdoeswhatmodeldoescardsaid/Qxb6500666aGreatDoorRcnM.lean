/- What the walk of ReconciliationListsSetDifferences uses. -/
import Derived.Test.Qxb6500666aGreatDoorRcnP
import Derived.Test.Qxb6500666aGreatDoorChnW
import Derived.Test.Qxb6500666aGreatDoorRowsOf
import Derived.Test.Qxb6500666aGreatDoorTextLen
import Derived.ChangeKeysEq
namespace Go.Proofs.Qxb6500666aGreatDoor
open Go.RowKit

theorem guardDif (op : BinOp) (x y : Operand) (u v : Array Value) (w : World) : (eqGuard op 166 x y (.agg u) (.agg v)).run Tryz.prog w = .ok () w := by
  cases op <;> kernel_rfl
set_option maxRecDepth 100000 in
theorem equalDif (c : Diff) (w : World) : (Op.equalIn Op.maxDepth 166 (.agg (diffCs c)) (.agg (diffCs c))).run Tryz.prog w = .ok true w := by
  obtain ⟨d, hd⟩ : ∃ d, Op.maxDepth = d + 2 := ⟨_, rfl⟩
  rw [hd, run_equalIn_struct w _ 166 _ _ (by kernel_rfl) (by kernel_rfl)]
  simp [go_sem, Op.eqFields, diffCs]
section
variable (ρ : Operand → Value) (dst : Option Tmp) (x y a b c d : Operand) (ty : TypeId) (pos : String) (after : Array Edge) (guard : Option (Nat × Bool))
theorem exec_neqDif (yt : TypeId) : execOp ρ { dst, op := .binOp .neq 166 x y yt, type := ty, pos, after, guard } = (do pure (.value (← cmpS .neq 166 x y (ρ x) (ρ y)))) := rfl
def bdFile1S (a : Value) : Sem Value := Instr.build 59 #[(0, a)]
theorem exec_bdFile1 : execOp ρ { dst, op := .build 59 #[(0, a)], type := ty, pos, after, guard } = (do pure (.value (← bdFile1S (ρ a)))) := by simp [execOp, bdFile1S]
def bdDif4S (a b c d : Value) : Sem Value := Instr.build 166 #[(1, a), (2, b), (3, c), (4, d)]
theorem exec_bdDif4 : execOp ρ { dst, op := .build 166 #[(1, a), (2, b), (3, c), (4, d)], type := ty, pos, after, guard } = (do pure (.value (← bdDif4S (ρ a) (ρ b) (ρ c) (ρ d)))) := by simp [execOp, bdDif4S]
end
theorem run_neqDif (x y : Operand) (c : Diff) (w : World) : (cmpS .neq 166 x y (.agg (diffCs c)) (.agg (diffCs c))).run Tryz.prog w = .ok (.bool false) w := by
  simp [cmpS, guardDif, binOp, Op.equal, equalDif]
theorem run_bdFile1 (w : World) : (bdFile1S (.int .u8 67)).run Tryz.prog w = .ok (.agg (fileCs 67 0 0 0 none 0 0)) w := by kernel_rfl
theorem run_bdDif4 (w : World) (s a b c : Int) : (bdDif4S (.int .u32 s) (.int .u32 a) (.int .u32 b) (.int .u32 c)).run Tryz.prog w = .ok (.agg (diffCs ⟨0, s, a, b, c⟩)) w := by kernel_rfl

theorem repText_pos (ea la : Int) (ds : List Diff) : 0 < (repText ea la ds).length := by
  unfold repText trailText
  simp only [List.length_append, List.length_cons, List.length_nil]
  omega
theorem repLine_len {d : Diff} (h : d.Ok) : (repLine d).length ≤ 90 := by
  have h1 := fld_len h.sample.i64
  have h2 := fld_len h.analyte.i64
  have h3 := fld_len h.before.i64
  have h4 := fld_len h.after.i64
  unfold repLine
  simp only [List.length_append, List.length_cons, List.length_nil]
  omega
theorem repText_len {ea la : Int} {ds : List Diff} (he : U32 ea) (hl : U32 la) (hok : ∀ d ∈ ds, d.Ok) (hn : ds.length ≤ 900000) : (repText ea la ds).length ≤ 90000000 := by
  have hnn : I64 (ds.length : Int) := ⟨by omega, by omega⟩
  have h0 := trailText_len (bs := repHead ea la ds.length ++ flatL repLine ds) hnn
  have h1 := fld_len he.i64
  have h2 := fld_len hl.i64
  have h3 := fld_len hnn
  have h5 := flatK_len (f := repLine) (k := 90) (l := ds) (fun c hc => repLine_len (hok c hc))
  have h6 : (repHead ea la ds.length).length ≤ 70 := by
    unfold repHead
    simp only [List.length_append, List.length_cons, List.length_nil]
    omega
  rw [List.length_append] at h0
  unfold repText
  omega
theorem rec_okD {bs ts : List Row} (h1 : Rise bs) (h2 : Rise ts) (v1 : ∀ r ∈ bs, RowOk r ∧ r.Ok) (v2 : ∀ r ∈ ts, RowOk r ∧ r.Ok) {d : Diff} (hd : d ∈ reconcile bs ts) : d.Ok := by
  have ha := vdB_act (vd_rec h1 h2 v1 v2 hd)
  have hu : U8 d.action := ⟨by omega, by omega⟩
  obtain ⟨p, hp1, hp2⟩ := mem_flatL hd
  obtain ⟨s, a, rfl, -⟩ := pairs_look _ bs ts (Nat.le_refl _) h1 h2 p hp1
  cases hx : mlook bs s a with
  | none =>
    cases hy : mlook ts s a with
    | none => rw [hx, hy] at hp2; simp [diffOf] at hp2
    | some y =>
      rw [hx, hy] at hp2
      obtain rfl := List.mem_singleton.1 hp2
      have k := (v2 y (mlook_mem hy).1).2
      exact ⟨hu, k.sample, k.analyte, u32z, k.version⟩
  | some x =>
    have k := (v1 x (mlook_mem hx).1).2
    cases hy : mlook ts s a with
    | none =>
      rw [hx, hy] at hp2
      obtain rfl := List.mem_singleton.1 hp2
      exact ⟨hu, k.sample, k.analyte, k.version, u32z⟩
    | some y =>
      rw [hx, hy] at hp2
      have k2 := (v2 y (mlook_mem hy).1).2
      unfold diffOf at hp2
      dsimp only at hp2
      split at hp2
      · cases hp2
      · obtain rfl := List.mem_singleton.1 hp2
        exact ⟨hu, k2.sample, k2.analyte, k.version, k2.version⟩

attribute [local go_sem ↓] exec_neqDif exec_ldDiff
attribute [local go_sem] run_neqDif run_ldDiff rng_drewN diffCs_ex
set_option maxRecDepth 100000 in
set_option maxHeartbeats 2000000 in
theorem sameDif_calls (w : World) (ok ok' : Nat → Prop) (v v' : Value) (cs : List Diff) (h : RArr w ok 5 diffCs v cs) (h' : RArr w ok' 5 diffCs v' cs) :
    Calls Tryz.prog 74 #[v, v'] w fun e w' => e = .returned (.bool true) ∧ ∃ n, w' = w.drewN n := by
  obtain ⟨a, cap, b, off, rfl, hl, hm, hr, ha, hc⟩ := h
  obtain ⟨a', cap', b', off', rfl, hl', hm', hr', ha', hc'⟩ := h'
  obtain ⟨n, hn⟩ : ∃ n, n = cs.length := ⟨_, rfl⟩
  have Hn : Hid (n = cs.length) := hn
  rw [← hn] at hl hr ha hl' hr' ha' ⊢
  have hi := run_indexAt_arr (P := Tryz.prog) (cap := cap) Tryz.underlying72 Tryz.size166_z (fun h => (ha h).1)
  have hi' := run_indexAt_arr (P := Tryz.prog) (cap := cap') Tryz.underlying72 Tryz.size166_z (fun h => (ha' h).1)
  have HC := hide hc
  have HC' := hide hc'
  clear ha hc hn hm hl ha' hc' hm' hl'
  have hb : ((n : Int) != (n : Int)) = false := by simp
  go_enter Tryz.func74, Tryz.ntmps74
  go_wp2
  go_loopw [13] (fun i wr => ∃ k : Nat, k ≤ n ∧ i = .int .i64 k ∧ Hid (∃ m, wr = w.drewN m)) (fun i _ => n - (intOf i).toNat)
  case atStart => exact ⟨0, by omega, rfl, ⟨0, rfl⟩⟩
  case round =>
    obtain ⟨k, hk, rfl, HW⟩ := hrel
    obtain ⟨m, rfl⟩ := HW.out
    by_cases hlt : k < n
    · have hks : k < cs.length := by rw [← Hn.out]; exact hlt
      have c0 := HC.out k hks
      have d0 := HC'.out k hks
      generalize cs[k] = c at *
      go_wp2
      go_quiet (fail)
      go_wp2
      go_roundw
      case measure => simp [intOf]; omega
      case rel => exact ⟨k + 1, by omega, by go_num, ⟨m + nq, by simp⟩⟩
    · go_wp2
      go_ret
      exact ⟨rfl, m, rfl⟩

end Go.Proofs.Qxb6500666aGreatDoor
