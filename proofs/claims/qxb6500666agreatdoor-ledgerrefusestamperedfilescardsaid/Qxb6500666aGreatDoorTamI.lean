/- LedgerRefusesTamperedFiles: what stands between the files. -/
import Derived.Test.Qxb6500666aGreatDoorTamP
import Derived.Test.Qxb6500666aGreatDoorTamT
namespace Go.Proofs.Qxb6500666aGreatDoor
open Go.RowKit

/-- Behind i files: the ledger, and the time of the last file. -/
structure TI (V1 U : World) (fs : List File) (i : Nat) (v : SV) : Prop where
  led : LedAt U V1.heap.size (ledAt fs i) v
  last : U.heap[V1.heap.size + 1]? = some (.cells #[.int .i64 (ledAt fs i).issued] 2 (0, 0))
  bel : Below V1.heap.size V1 U
theorem TI.below {V1 U U' : World} {fs : List File} {i : Nat} {v : SV} (h : TI V1 U fs i v) (hb : Below U.heap.size U U') : TI V1 U' fs i v := ⟨h.led.below hb, (hb.block _ (blk_lt h.last)).trans h.last, h.bel.trans (hb.mono h.bel.size)⟩
theorem TI.start (V1 : World) (fs : List File) : TI V1 ((V1.alloc (.cells (ledCs led0 (none, 0, 0)) 154)).alloc (.cells #[.int .i64 0] 2)) fs 0 (none, 0, 0) := by
  have h1 := LedAt.new V1
  have hz : (V1.alloc (.cells (ledCs led0 (none, 0, 0)) 154)).heap.size = V1.heap.size + 1 := by simp
  have hb1 : Below V1.heap.size V1 (V1.alloc (.cells (ledCs led0 (none, 0, 0)) 154)) := (Below.refl _ _).alloc (Nat.le_refl _) _
  generalize V1.alloc (.cells (ledCs led0 (none, 0, 0)) 154) = V2 at *
  have hb2 : Below V2.heap.size V2 (V2.alloc (.cells #[.int .i64 0] 2)) := (Below.refl _ _).alloc (Nat.le_refl _) _
  have hk2 : (V2.alloc (.cells #[.int .i64 0] 2)).heap[V2.heap.size]? = some (.cells #[.int .i64 0] 2 (0, 0)) := heap_alloc_at _ _
  rw [hz] at hk2
  refine ⟨by rw [ledAt_zero]; exact h1.below hb2, by rw [ledAt_zero]; exact hk2, hb1.trans (hb2.mono hb1.size)⟩
/-- The rows do not lie in a block of one cell. -/
theorem rows_apart {w : World} {ok : Nat → Prop} {v : Value} {rows : List Row} {T : Nat} {x : Value} {t : TypeId} (h : RArr w ok 13 rowCs v rows) (hT : w.heap[T]? = some (.cells #[x] t (0, 0))) : RArr w (fun b => ok b ∧ b ≠ T) 13 rowCs v rows := by
  obtain ⟨a, cap, b, off, e, k1, k2, k3, k4, k5⟩ := h
  refine ⟨a, cap, b, off, e, k1, k2, k3, fun h => ⟨(k4 h).1, (k4 h).2, fun eb => ?_⟩, k5⟩
  have h1 := (rng_cell (k5 0 h)).2 12 (by decide)
  subst eb
  rw [cells_all hT] at h1
  simp [rowCs] at h1
/-- The next file is taken, and its time noted. -/
theorem TI.next {V1 U U2 : World} {fs : List File} {i : Nat} {v v2 : SV} (h : TI V1 U fs i v) (hl : LedAt U2 V1.heap.size (ledAt fs (i + 1)) v2) (hs : Same (fun b => b < U.heap.size ∧ b ≠ V1.heap.size) U U2) (hb : Below V1.heap.size U U2) : TI V1 (U2.setCell ⟨V1.heap.size + 1, 0, none⟩ (.int .i64 (ledAt fs (i + 1)).issued)) fs (i + 1) v2 := by
  have h1 := (hs (V1.heap.size + 1) ⟨blk_lt h.last, by omega⟩).trans h.last
  refine ⟨⟨(Below.heap_setCell _ _ _ _ (by show V1.heap.size ≠ V1.heap.size + 1; omega)).trans hl.top, RArr.mono (rows_apart hl.rows h1) (fun b q => Below.heap_setCell _ _ _ _ q.2) (fun b q => q.1)⟩, heap_set1 h1, (h.bel.trans hb).setCell (p := ⟨V1.heap.size + 1, 0, none⟩) (by show V1.heap.size ≤ V1.heap.size + 1; omega) _⟩
/-- A ledger copied. -/
theorem LedAt.copy {w : World} {G : Nat} {L : Led} {v : SV} (h : LedAt w G L v) : LedAt (w.alloc (.cells (ledCs L v) 154)) w.heap.size L v := by
  refine ⟨heap_alloc_at _ _, ?_⟩
  have h1 := h.rows.lt
  exact RArr.mono h1 (fun b q => Below.heap_alloc _ _ _ q.2) (fun b q e => by have := q.2; omega)
theorem FgI.start (W0 : World) : FgI W0 (W0.alloc (.cells #[.slice none 0 0] 43)) W0.heap.size (fun _ => False) [] (none, 0, 0) :=
  ⟨heap_alloc_at _ _, OwnR.nil _ _ _ _ _, fun _ h => (by cases h), fun _ h => False.elim h, (Below.refl _ _).alloc (Nat.le_refl _) _⟩
theorem tf_ones (z : ZF) : ones (zfCs z) 5 = true := rfl
theorem tf_ex (z : ZF) : (zfCs z).extract 0 5 = zfCs z := rfl
theorem ledCs_ones (L : Led) (v : SV) : ones (ledCs L v) 4 = true := rfl
theorem sizeLed (w : World) : (sizeOf 154).run Tryz.prog w = .ok 4 w := by kernel_rfl
section
variable (ρ : Operand → Value) (dst : Option Tmp) (x y : Operand) (ty : TypeId) (pos : String) (after : Array Edge) (guard : Option (Nat × Bool))
theorem exec_ldLed : execOp ρ { dst, op := .load 154 x, type := ty, pos, after, guard } = (do pure (.value (← ldS 154 (ρ x)))) := rfl
theorem exec_stLed : execOp ρ { dst, op := .store 154 x y, type := ty, pos, after, guard } = (do stS 154 (ρ x) (ρ y); pure .skip) := rfl
end
theorem run_ldLed (w : World) (b off : Nat) : (ldS 154 (.pointer (some ⟨b, off, none⟩))).run Tryz.prog w = match rng w b off 4 with | some cs => .ok (.agg cs) w | none => (Instr.loadAt 154 (.pointer (some ⟨b, off, none⟩))).run Tryz.prog w := run_ldS Tryz.underlying154 sizeLed w b off
theorem run_stLed (w : World) (b : Nat) (cs : Array Value) : (stS 154 (.pointer (some ⟨b, 0, none⟩)) (.agg cs)).run Tryz.prog w = if whole w b 4 = true ∧ ones cs 4 = true then .ok () (w.setRow b cs) else (Instr.storeAt 154 (.pointer (some ⟨b, 0, none⟩)) (.agg cs)).run Tryz.prog w := run_stS sizeLed w b cs
end Go.Proofs.Qxb6500666aGreatDoor
