/- Parts of the law's walk. -/
import Derived.Test.Qxb6500665aBits
namespace Go.Proofs.Qxb6500665a
open Go.RowKit Go.Proofs.Qxb6500665a.Cal

theorem cellB {w w' : World} {b : Nat} (h : w'.heap[b]? = w.heap[b]?) (i : Nat) : w'.cell? ⟨b, i, none⟩ = w.cell? ⟨b, i, none⟩ := by simp [World.cell?, h]

section
variable (ρ : Operand → Value) (dst : Option Tmp) (x y : Operand) (ty : TypeId) (pos : String) (after : Array Edge) (guard : Option (Nat × Bool))
theorem exec_neqPl (yt : TypeId) : execOp ρ { dst, op := .binOp .neq 42 x y yt, type := ty, pos, after, guard } = (do pure (.value (← cmpS .neq 42 x y (ρ x) (ρ y)))) := rfl
end
theorem run_stVisit (w : World) (b : Nat) (cs : Array Value) : (stS 55 (.pointer (some ⟨b, 0, none⟩)) (.agg cs)).run Try.prog w = if whole w b 5 = true ∧ ones cs 5 = true then .ok () (w.setRow b cs) else (Instr.storeAt 55 (.pointer (some ⟨b, 0, none⟩)) (.agg cs)).run Try.prog w := run_stS Try.size55 w b cs
theorem ones_visit (k1 k2 k3 k4 : IntKind) (x y z u : Int) (a : Option Addr) (n c : Nat) : ones #[.int k1 x, .int k2 y, .int k3 z, .int k4 u, .slice a n c] 5 = true := rfl

def bs4S (a b c d : Value) : Sem Value := Instr.buildSlice 31 4 #[(0, a), (1, b), (2, c), (3, d)]
def bs2S (t : TypeId) (a b : Value) : Sem Value := Instr.buildSlice t 2 #[(0, a), (1, b)]
section
variable (ρ : Operand → Value) (dst : Option Tmp) (x y z u : Operand) (ty t : TypeId) (pos : String) (after : Array Edge) (guard : Option (Nat × Bool))
theorem exec_bs4 : execOp ρ { dst, op := .buildSlice 31 4 #[(0, x), (1, y), (2, z), (3, u)], type := ty, pos, after, guard } = (do pure (.value (← bs4S (ρ x) (ρ y) (ρ z) (ρ u)))) := by simp [execOp, bs4S]
theorem exec_bs2 : execOp ρ { dst, op := .buildSlice t 2 #[(0, x), (1, y)], type := ty, pos, after, guard } = (do pure (.value (← bs2S t (ρ x) (ρ y)))) := by simp [execOp, bs2S]
end
theorem run_bs4 (w : World) (a b c d : Int) : (bs4S (.int .i64 a) (.int .i64 b) (.int .i64 c) (.int .i64 d)).run Try.prog w = .ok (.slice (some ⟨w.heap.size, 0, none⟩) 4 4) (w.alloc (.cells #[.int .i64 a, .int .i64 b, .int .i64 c, .int .i64 d] 2)) := by kernel_rfl
theorem run_bs2 (w : World) (a b : Int) : (bs2S 31 (.int .i64 a) (.int .i64 b)).run Try.prog w = .ok (.slice (some ⟨w.heap.size, 0, none⟩) 2 2) (w.alloc (.cells #[.int .i64 a, .int .i64 b] 2)) := by kernel_rfl
theorem run_bs2u (w : World) (a b : Int) : (bs2S 28 (.int .u32 a) (.int .u32 b)).run Try.prog w = .ok (.slice (some ⟨w.heap.size, 0, none⟩) 2 2) (w.alloc (.cells #[.int .u32 a, .int .u32 b] 33)) := by kernel_rfl

theorem guardPl (op : BinOp) (x y : Operand) (u v : Array Value) (w : World) : (eqGuard op 42 x y (.agg u) (.agg v)).run Try.prog w = .ok () w := by
  cases op <;> kernel_rfl
set_option maxRecDepth 100000 in
theorem equalPl (a b c d : Int) (w : World) : (Op.equalIn Op.maxDepth 42 (.agg #[.int .u32 a, .int .u8 b, .int .i64 c, .int .i64 d]) (.agg #[.int .u32 a, .int .u8 b, .int .i64 c, .int .i64 d])).run Try.prog w = .ok true w := by
  obtain ⟨k, hk⟩ : ∃ k, Op.maxDepth = k + 2 := ⟨_, rfl⟩
  rw [hk, run_equalIn_struct w _ 42 _ _ (by kernel_rfl) (by kernel_rfl)]
  simp [go_sem, Op.eqFields]
theorem run_neqPl (x y : Operand) (a b c d : Int) (w : World) : (cmpS .neq 42 x y (.agg #[.int .u32 a, .int .u8 b, .int .i64 c, .int .i64 d]) (.agg #[.int .u32 a, .int .u8 b, .int .i64 c, .int .i64 d])).run Try.prog w = .ok (.bool false) w := by
  simp [cmpS, guardPl, binOp, Op.equal, equalPl]

theorem ones_hf (o : Option HVer) : ones (hfCs o) 3 = true := by cases o <;> rfl
theorem size_hf (o : Option HVer) : (hfCs o).size = 3 := by cases o <;> rfl

/-- The visits of a version: they lie in memory that does not change. -/
theorem vis_at {w1 : World} {base : Nat} {a : Option Addr} {n c : Nat} {vs : List Visit} (h : VisitsAt w1 (· < base) (.slice a n c) vs) :
    n = vs.length ∧ n ≤ c ∧ c ≤ maxLen ∧ ∃ b off, (0 < n → a = some ⟨b, off, none⟩ ∧ b < base) ∧ ∀ (W : World), (∀ b, b < base → W.heap[b]? = w1.heap[b]?) → ∀ i (hi : i < vs.length), ∃ pa pn pc, rng W b (off + i * 5) 5 = some #[.int .u32 vs[i].id, .int .i64 vs[i].target, .int .i64 vs[i].early, .int .i64 vs[i].late, .slice pa pn pc] := by
  obtain ⟨zs, ⟨a', cap, b, off, hv, hl, hm, hr, ha, hc⟩, hz, -⟩ := h
  cases hv
  subst hz
  refine ⟨by simp, hl, hm.1, b, off, ha, fun W hW i hi => ?_⟩
  have hi' : i < zs.length := by simpa using hi
  obtain ⟨pa, pn, pc⟩ : SV := zs[i].2
  refine ⟨zs[i].2.1, zs[i].2.2.1, zs[i].2.2.2, ?_⟩
  rw [rng_of_block (hW b (ha (by omega)).2), hc i hi']
  simp [vzCs, sv]

theorem PI.start {w3 wb : World} {pv : Value} {P : List Int} (ho : OwnR wb w3.heap.size 2 1 i64Cs pv P) (hb : Below w3.heap.size w3 wb) (hn : ∀ d ∈ P, nearD d) :
    PI w3 (wb.alloc (.cells #[.int .u32 0, .int .u32 4000000000] 33)) pv (.slice (some ⟨wb.heap.size, 0, none⟩) 2 2) P [0, 4000000000] := by
  refine ⟨ho.below ((Below.refl _ _).alloc (Nat.le_refl _) _) (Nat.le_refl _), own_lit u32Cs_size [0, 4000000000] hb.size (by decide), fun b hb' e => ?_, hb.alloc hb.size _, hn, by decide⟩
  have h1 := (ho.block b hb').2
  have h2 : some wb.heap.size = some b := e
  cases h2
  omega

/-- A block of numbers, read at some place. -/
theorem lit2_at {w : World} {g : Nat} {a b : Int} {t : TypeId} (h : w.heap[g]? = some (.cells #[.int .i64 a, .int .i64 b] t (0, 0))) (p : Int → Prop) (ha : p a) (hb : p b) (k : Nat) (hk : k < 2) : ∃ x, w.cell? ⟨g, k, none⟩ = some (.int .i64 x) ∧ Hid (p x) := by
  obtain rfl | rfl : k = 0 ∨ k = 1 := by omega
  · exact ⟨a, by simp [World.cell?, h], ha⟩
  · exact ⟨b, by simp [World.cell?, h], hb⟩
theorem lit4_at {w : World} {g : Nat} {a b c d : Int} {t : TypeId} (h : w.heap[g]? = some (.cells #[.int .i64 a, .int .i64 b, .int .i64 c, .int .i64 d] t (0, 0))) (p : Int → Prop) (ha : p a) (hb : p b) (hc : p c) (hd : p d) (k : Nat) (hk : k < 4) : ∃ x, w.cell? ⟨g, k, none⟩ = some (.int .i64 x) ∧ Hid (p x) := by
  obtain rfl | rfl | rfl | rfl : k = 0 ∨ k = 1 ∨ k = 2 ∨ k = 3 := by omega
  · exact ⟨a, by simp [World.cell?, h], ha⟩
  · exact ⟨b, by simp [World.cell?, h], hb⟩
  · exact ⟨c, by simp [World.cell?, h], hc⟩
  · exact ⟨d, by simp [World.cell?, h], hd⟩

/-- A minute of the day d. -/
def minOf (d m : Int) : Prop := m / 1440 = d ∧ (outB d = true → m < 0 ∨ 157785119 < m) ∧ (outB d = false → 0 ≤ m ∧ m ≤ 157785119) ∧ -400000000 ≤ m ∧ m ≤ 400000000
theorem minOf_lo {d : Int} (h : nearD d) : minOf d (d * 1440) := by
  obtain ⟨h1, h2⟩ := h
  refine ⟨by omega, fun h => ?_, fun h => ?_, by omega, by omega⟩
  · rcases of_decide_eq_true h with h | h <;> omega
  · have := of_decide_eq_false h; unfold outD at this; omega
theorem minOf_hi {d : Int} (h : nearD d) : minOf d (d * 1440 + 1440 - 1) := by
  obtain ⟨h1, h2⟩ := h
  refine ⟨by omega, fun h => ?_, fun h => ?_, by omega, by omega⟩
  · rcases of_decide_eq_true h with h | h <;> omega
  · have := of_decide_eq_false h; unfold outD at this; omega

theorem outB_true {d : Int} (h : outB d = true) : outD d := of_decide_eq_true h
theorem outB_false {d : Int} (h : outB d = false) : ¬ outD d := of_decide_eq_false h
section
variable {num ad day : Int} {v x : Visit} {r : List Visit}
theorem clsEnd_o (h : outB (ad + v.target - v.early) = true) : clsEnd num ad day v r = noPl 4 := by rw [clsEnd.eq_def, if_pos (Or.inl (outB_true h))]
theorem clsEnd_c (h : outB (ad + v.target + v.late) = true) : clsEnd num ad day v r = noPl 4 := by rw [clsEnd.eq_def, if_pos (Or.inr (outB_true h))]
theorem clsEnd_n (h1 : outB (ad + v.target - v.early) = false) (h2 : outB (ad + v.target + v.late) = false) (h3 : outB (ad + x.target - x.early) = true) : clsEnd num ad day v [x] = noPl 4 := by
  rw [clsEnd, if_neg (fun h => h.elim (outB_false h1) (outB_false h2))]
  rw [if_pos (outB_true h3)]
theorem clsEnd_last (h1 : outB (ad + v.target - v.early) = false) (h2 : outB (ad + v.target + v.late) = false) : clsEnd num ad day v [] = ⟨0, num, if day < ad + v.target - v.early then 1 else if day ≤ ad + v.target + v.late then 2 else 3, ad + v.target - v.early, ad + v.target + v.late⟩ := by
  rw [clsEnd, if_neg (fun h => h.elim (outB_false h1) (outB_false h2))]
theorem clsEnd_next (h1 : outB (ad + v.target - v.early) = false) (h2 : outB (ad + v.target + v.late) = false) (h3 : outB (ad + x.target - x.early) = false) : clsEnd num ad day v [x] = ⟨0, num, if day < ad + v.target - v.early then 1 else if day ≤ ad + v.target + v.late then 2 else if ad + x.target - x.early ≤ day then 4 else 3, ad + v.target - v.early, ad + v.target + v.late⟩ := by
  rw [clsEnd, if_neg (fun h => h.elim (outB_false h1) (outB_false h2))]
  rw [if_neg (outB_false h3)]
end

end Go.Proofs.Qxb6500665a
