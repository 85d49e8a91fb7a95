/- Small rules for the end of CumulativeIsPrecedingPlusIncrementals. -/
import Derived.Test.Qxb6500666aGreatDoorCumM
import Derived.Lib.SlBytesConst
namespace Go.Proofs.Qxb6500666aGreatDoor
open Go.RowKit

def bs7S (a b c d e f g : Value) : Sem Value := Instr.buildSlice 55 7 #[(0, a), (1, b), (2, c), (3, d), (4, e), (5, f), (6, g)]
section
variable (ρ : Operand → Value) (dst : Option Tmp) (x a b c d e f g : Operand) (ty : TypeId) (pos : String) (after : Array Edge) (guard : Option (Nat × Bool))
theorem exec_bs7 : execOp ρ { dst, op := .buildSlice 55 7 #[(0, a), (1, b), (2, c), (3, d), (4, e), (5, f), (6, g)], type := ty, pos, after, guard } = (do pure (.value (← bs7S (ρ a) (ρ b) (ρ c) (ρ d) (ρ e) (ρ f) (ρ g)))) := by simp [execOp, bs7S]
theorem exec_bsTx : execOp ρ { dst, op := .buildSlice 144 1 #[(0, x)], type := ty, pos, after, guard } = (do pure (.value (← bsS 144 (ρ x)))) := by simp [execOp, bsS]
end
def noFile : Array Value := #[.int .u8 110, .int .u8 111, .int .u8 32, .int .u8 102, .int .u8 105, .int .u8 108, .int .u8 101]
theorem run_bs7 (w : World) : (bs7S (.int .u8 110) (.int .u8 111) (.int .u8 32) (.int .u8 102) (.int .u8 105) (.int .u8 108) (.int .u8 101)).run Tryz.prog w = .ok (.slice (some ⟨w.heap.size, 0, none⟩) 7 7) (w.alloc (.cells noFile 5)) := by kernel_rfl
theorem run_cvNo (w : World) : (convert 55 55 (.slice (some ⟨w.heap.size, 0, none⟩) 7 7)).run Tryz.prog (w.alloc (.cells noFile 5)) = .ok (.slice (some ⟨w.heap.size, 0, none⟩) 7 7) (w.alloc (.cells noFile 5 (7, 8))) :=
  Go.Lib.run_convert_bytes_const (P := Tryz.prog) w 55 5 noFile 7 7 Tryz.underlying55 Tryz.underlying5
theorem run_bsTx (w : World) (a : Option Addr) (n c : Nat) : (bsS 144 (.slice a n c)).run Tryz.prog w = .ok (.slice (some ⟨w.heap.size, 0, none⟩) 1 1) (w.alloc (.cells #[.slice a n c] 55)) := by kernel_rfl
/-- The texts but the first. -/
theorem TxAt.rest {W : World} {ok : Nat → Prop} {ta : Option Addr} {n tc : Nat} {zt : List ZT} {fs : List File} (h : TxAt W ok (.slice ta n tc) zt fs) (h0 : 0 < n) : ∃ ao, (∀ w, (Instr.sliceAt 144 (.slice ta n tc) (some (.int .i64 1)) none none).run Tryz.prog w = .ok (.slice ao (n - 1) (tc - 1)) w) ∧ TxAt W ok (.slice ao (n - 1) (tc - 1)) (zt.drop 1) (fs.drop 1) := by
  obtain ⟨a, cap, b, off, e, h1, h2, h3, h4, h5⟩ := h.a
  injection e with e1 e2 e3
  subst e1
  subst e2
  subst e3
  obtain ⟨ao, g1, g2, g3⟩ := run_slFrom (P := Tryz.prog) Tryz.underlying144 Tryz.size55 (fun h => (h4 h).1) h1 h2.2 1 (by omega)
  refine ⟨ao, g1, ⟨ao, tc - 1, b, off + 1, ?_, ?_, ⟨?_, g3⟩, ?_, fun hp => ⟨?_, (h4 h0).2⟩, fun i hi => ?_⟩, fun z hz => h.t z (List.mem_of_mem_drop hz), ?_⟩
  · rw [List.length_drop]
  · rw [List.length_drop]; omega
  · have := h2.1; omega
  · rw [List.length_drop]; omega
  · have := g2 (by rw [List.length_drop] at hp; omega)
    simpa using this
  · have hi' : 1 + i < zt.length := by rw [List.length_drop] at hi; omega
    have := h5 (1 + i) hi'
    rw [List.getElem_drop]
    rw [show off + 1 + i * 1 = off + (1 + i) * 1 by omega]
    exact this
  · rw [List.map_drop, List.map_drop, h.m]
theorem ledTake_no (U : World) (G b : Nat) (t : TypeId) (fz : Nat × Nat) (h : U.heap[b]? = some (.cells noFile t fz)) :
    Calls Tryz.prog 54 #[.pointer (some ⟨G, 0, none⟩), .slice (some ⟨b, 0, none⟩) 7 7] U fun e w' => ∃ E, e = .returned (.iface 241 (.pointer (some ⟨E, 0, none⟩))) ∧ Below U.heap.size U w' := by
  refine ledTake_bad U G b 0 7 7 [110, 111, 32, 102, 105, 108, 101] ⟨Nat.le_refl _, by unfold maxLen; omega⟩ (blk_lt h) (fun t ht => ?_) rfl (by omega) (by decide)
  rw [Nat.zero_add]
  have hc : t = 0 ∨ t = 1 ∨ t = 2 ∨ t = 3 ∨ t = 4 ∨ t = 5 ∨ t = 6 := by simp at ht; omega
  rcases hc with rfl | rfl | rfl | rfl | rfl | rfl | rfl <;> (rw [World.cell?, h]; rfl)
end Go.Proofs.Qxb6500666aGreatDoor
