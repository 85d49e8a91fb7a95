/- What the walk of CumulativeIsPrecedingPlusIncrementals uses. -/
import Derived.Test.Qxb6500666aGreatDoorCumP
import Derived.Test.Qxb6500666aGreatDoorLedV
import Derived.Test.Qxb6500666aGreatDoorLedF
import Derived.Test.Qxb6500666aGreatDoorLedB
import Derived.Test.Qxb6500666aGreatDoorRcnM
namespace Go.Proofs.Qxb6500666aGreatDoor
open Go.RowKit

section
variable {ops : Array Oper} {rest : List Oper} {o : Oper} {a : Act} {w : World} {Q : Exit → Act → World → Prop}
theorem wpList_putM (hg : o.guard = none) (m x v : Operand) (hop : o.op = Op.mapUpdate 148 m x v) (B n : Nat) (mm : List Row)
    (hm : a.eval m = .map (some B)) (hown : MapAt w B n mm) (hn : n < maxLen) (r : Row) (hs : U32 r.sample) (ha : U32 r.analyte) (hx : a.eval x = keyV r.sample r.analyte) (hv : a.eval v = .agg (rowCs r))
    (hK : ∀ w', MapAt w' B (n + 1) (mput mm r) → w.grownBy w' (some B) → wpList Tryz.prog ops Q rest (a.put o.dst undef) w') : wpList Tryz.prog ops Q (o :: rest) a w := by
  refine wpList_plain hg fun K' hK' => ?_
  obtain ⟨w', hrun, r1, r2⟩ := hown.put hn r hs ha
  unfold Oper.wp
  simp [execOp, hop, hm, hx, hv, hrun, Result.andThen]
  exact hK' _ _ (hK w' r1 r2)
theorem wpList_lookM (hg : o.guard = none) (m x : Operand) (hop : o.op = Op.lookup 148 m x true) (B n : Nat) (mm : List Row)
    (hm : a.eval m = .map (some B)) (hown : MapAt w B n mm) (s t : Int) (hs : U32 s) (ha : U32 t) (hx : a.eval x = keyV s t)
    (hK : wpList Tryz.prog ops Q rest (a.put o.dst (.tuple #[.agg (rowCs ((mlook mm s t).getD zeroRow)), .bool (mlook mm s t).isSome])) w) : wpList Tryz.prog ops Q (o :: rest) a w := by
  refine wpList_plain hg fun K' hK' => ?_
  have hrun := hown.look_ok hs ha
  unfold Oper.wp
  simp [execOp, hop, hm, hx, hrun, Result.andThen]
  exact hK' _ _ hK
theorem wpList_dropM (hg : o.guard = none) (m x : Operand) (hop : o.op = Op.call { callee := Callee.builtin Builtin.delete, args := #[m, x], argTypes := #[148, 106] }) (B n : Nat) (mm : List Row)
    (hm : a.eval m = .map (some B)) (hown : MapAt w B n mm) (s t : Int) (hs : U32 s) (ha : U32 t) (hx : a.eval x = keyV s t)
    (hK : ∀ w', MapAt w' B n (mdel mm s t) → w.grownBy w' (some B) → wpList Tryz.prog ops Q rest (a.put o.dst (.tuple #[])) w') : wpList Tryz.prog ops Q (o :: rest) a w := by
  refine wpList_plain hg fun K' hK' => ?_
  obtain ⟨w', hrun, r1, r2⟩ := hown.drop hs ha o.type
  unfold Oper.wp
  simp [execOp, hop, resolve, invoke, builtin, hm, hx, hrun, Result.andThen]
  exact hK' _ _ (hK w' r1 r2.grown)
end

theorem Tryz.underKey : Tryz.prog.underlying 106 = some (.struct (match Tryz.prog.underlying 106 with | some (.struct fs) => fs | _ => #[])) := by kernel_rfl
theorem Tryz.sizeKey (w : World) : (sizeOf 106).run Tryz.prog w = .ok 2 w := by kernel_rfl
section
variable (ρ : Operand → Value) (dst : Option Tmp) (x : Operand) (ty : TypeId) (pos : String) (after : Array Edge) (guard : Option (Nat × Bool))
theorem exec_ldKey : execOp ρ { dst, op := .load 106 x, type := ty, pos, after, guard } = (do pure (.value (← ldS 106 (ρ x)))) := rfl
end
theorem run_ldKey (w : World) (b off : Nat) : (ldS 106 (.pointer (some ⟨b, off, none⟩))).run Tryz.prog w = match rng w b off 2 with | some cs => .ok (.agg cs) w | none => (Instr.loadAt 106 (.pointer (some ⟨b, off, none⟩))).run Tryz.prog w :=
  run_ldS Tryz.underKey Tryz.sizeKey w b off

/-- The law's map, in the first block behind V. -/
structure CMap (V U : World) (n : Nat) (m : List Row) : Prop where
  bel : Below V.heap.size V U
  mp : MapAt U V.heap.size n m
section
variable {V U U' : World} {n n' : Nat} {m m' : List Row}
theorem CMap.start (V : World) : CMap V (V.alloc (.map #[] 0)) 0 [] := ⟨(Below.refl _ _).alloc (Nat.le_refl _) _, MapAt.made V⟩
theorem CMap.below (h : CMap V U n m) (hb : Below U.heap.size U U') : CMap V U' n m := ⟨h.bel.trans (hb.mono h.bel.size), h.mp.same (hb.block _ h.mp.lt)⟩
theorem CMap.turn (h : CMap V U n m) (hg : U.grownBy U' (some V.heap.size)) (hm : MapAt U' V.heap.size n' m') : CMap V U' n' m' := ⟨h.bel.grown hg h.bel.size (fun k hk => by cases hk; exact Nat.le_refl _), hm⟩
end
/-- The texts of the chain. -/
theorem ChI.texts {W V : World} {fv tv : Value} {zf : List ZF} {zt : List ZT} {fs : List File} (h : ChI W V fv tv zf zt) (hm : zt.map (·.2) = fs.map txt) (hl : fs.length ≤ 1000000) : TxAt V (· < V.heap.size) tv zt fs := by
  have hz : zt.length = fs.length := by have := congrArg List.length hm; simpa using this
  exact ⟨RArr.mono (RArr.lt (h.b.rows ztCs_size (by decide) (by omega))) (Same.refl _ _) (fun _ q => q.2), fun z hz => RArr.mono (h.ct z hz) (Same.refl _ _) (fun _ q => q.1.2), hm⟩
theorem FI.fk {ps : List KV} {fs : List File} {rows : List Row} (h : FI ps fs rows) (hl : fs.length ≤ 1000000) (hc : ∀ f ∈ fs, f.changes.length ≤ 65536) : ∀ f ∈ fs, FK f := fun f hf => by
  obtain ⟨i, hi, rfl⟩ := List.getElem_of_mem hf
  obtain ⟨n1, n2, n3, n4, -⟩ := h.nums hl hi
  exact ⟨h.fok _ hf, n1, n2, n3, n4, h.cok _ hf, hc _ hf⟩
/-- The tail of the texts. -/
theorem TxAt.tail {W : World} {ok : Nat → Prop} {b off n c : Nat} {zt : List ZT} {fs : List File} (h : TxAt W ok (.slice (some ⟨b, off, none⟩) n c) zt fs) (h0 : 0 < n) : TxAt W ok (.slice (some ⟨b, off + 1, none⟩) (n - 1) (c - 1)) (zt.drop 1) (fs.drop 1) := by
  obtain ⟨a, cap, b', o', e, h1, h2, h3, h4, h5⟩ := h.a
  injection e with e1 e2 e3
  subst e2
  subst e3
  obtain ⟨h4a, h4b⟩ := h4 h0
  rw [h4a] at e1
  injection e1 with e1
  injection e1 with e1 e4
  subst e1
  subst e4
  refine ⟨⟨some ⟨b, off + 1, none⟩, c - 1, b, off + 1, ?_, ?_, ⟨?_, fun h => (by cases h)⟩, ?_, fun _ => ⟨rfl, h4b⟩, fun i hi => ?_⟩, fun z hz => h.t z (List.mem_of_mem_drop hz), ?_⟩
  · rw [List.length_drop]
  · rw [List.length_drop]; omega
  · have := h2.1; omega
  · rw [List.length_drop]; omega
  · have hi' : 1 + i < zt.length := by rw [List.length_drop] at hi; omega
    have := h5 (1 + i) hi'
    rw [List.getElem_drop]
    rw [show off + 1 + i * 1 = off + (1 + i) * 1 by omega]
    exact this
  · rw [List.map_drop, List.map_drop, h.m]
end Go.Proofs.Qxb6500666aGreatDoor
