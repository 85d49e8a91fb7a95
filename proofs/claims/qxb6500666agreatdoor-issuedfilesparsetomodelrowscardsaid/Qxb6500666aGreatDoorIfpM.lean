/- IssuedFilesParseToModelRows: rules and answers that its walk needs. -/
import Derived.Test.Qxb6500666aGreatDoorIfpP
import Derived.Test.Qxb6500666aGreatDoorCorM
import Derived.Test.Qxb6500666aGreatDoorCraM
import Derived.Test.Qxb6500666aGreatDoorWkErr
import Derived.Test.Qxb6500666aGreatDoorSameP
namespace Go.Proofs.Qxb6500666aGreatDoor
open Go.RowKit
theorem root_may26 (ps : List KV) : authR ps 1 26 = .ok 1 := by kernel_rfl
theorem ask_hdr {rn kn : Nat → ByteArray} {w w' : World} {ps : List KV} {full : Bool} {off lar : Int} {L : Low} {x : Rsp} {k : Int} {hd : Hdr} (hx : RspP rn kn w w' ps full off lar L (askReq 26 k 0) x) (hl : hdrR ps k = .ok hd) : x.hd = hd := by
  have h1 := hx.1 rfl 1 (root_may26 ps)
  have e : rdX rn kn w w' ps L (askReq 26 k 0) = rd26X ps (askReq 26 k 0) := by unfold rdX; simp [askReq]
  rw [e] at h1
  unfold rd26X at h1
  rw [show (askReq 26 k 0).id = k from rfl, hl] at h1
  have h1 : x = { rsp0 with hd := hd } := h1
  rw [h1]
theorem run_fldHd (w : World) (r : Rsp) : (fldS 75 8 (.agg (respCs r))).run Tryz.prog w = .ok (.agg (hdrCs r.hd)) w := by kernel_rfl
section
variable (ρ : Operand → Value) (dst : Option Tmp) (x y : Operand) (ty : TypeId) (pos : String) (after : Array Edge) (guard : Option (Nat × Bool))
theorem exec_neqHdr (yt : TypeId) : execOp ρ { dst, op := .binOp .neq 71 x y yt, type := ty, pos, after, guard } = (do pure (.value (← cmpS .neq 71 x y (ρ x) (ρ y)))) := rfl
end
theorem run_neqHdr (x y : Operand) (c : Hdr) (w : World) : (cmpS .neq 71 x y (.agg (hdrCs c)) (.agg (hdrCs c))).run Tryz.prog w = .ok (.bool false) w := by
  simp [cmpS, guardHdr, binOp, Op.equal, equalHdr]
/-- The rows of a file lie in rising order of their keys. -/
theorem file_rise {k s i b : Int} {cs : List Change} (hF : FileOk k s i b cs) {j : Nat} (h : j + 1 < cs.length) : ¬ (cs[j + 1].row.sample < cs[j].row.sample) ∧ ¬ (cs[j].row.sample = cs[j + 1].row.sample ∧ cs[j + 1].row.analyte ≤ cs[j].row.analyte) := by
  have h1 := (hF.2.2.2 (j + 1) h).2.2
  rw [prevAt_succ cs j (by omega)] at h1
  unfold prevBad at h1
  have h2 : ¬ (0 ≤ cmpK cs[j].row cs[j + 1].row) := by simpa using h1
  unfold cmpK at h2
  refine ⟨fun q => h2 ?_, fun q => h2 ?_⟩
  · simp only [show ¬ (cs[j].row.sample < cs[j + 1].row.sample) by omega, if_false]
    split <;> omega
  · rw [if_neg (by omega), if_neg (by omega)]
    split
    · omega
    · split <;> omega
theorem tl_cells (w W2 : World) (hb : Below (w.alloc (.cells #[.int .u8 84, .int .u8 124] 5 (2, 3))).heap.size (w.alloc (.cells #[.int .u8 84, .int .u8 124] 5 (2, 3))) W2) : ∀ i (_ : i < ([84, 124] : List Int).length), W2.cell? ⟨w.heap.size, i, none⟩ = some (.int .u8 ([84, 124] : List Int)[i]) := fun i h => by
  have h1 := hb.cell (p := ⟨w.heap.size, i, none⟩) (by simp)
  have h2 : (w.alloc (.cells #[.int .u8 84, .int .u8 124] 5 (2, 3))).heap[w.heap.size]? = some (.cells #[.int .u8 84, .int .u8 124] 5 (2, 3)) := heap_alloc_at _ _
  rw [h1]
  unfold World.cell?
  rw [h2]
  rcases i with _ | _ | i
  · rfl
  · rfl
  · simp at h
    omega
/-- What was just written behind a call. -/
theorem own_src {W : World} {B : Nat} {v : Value} {x : Int} (h1 : -9223372036854775808 ≤ x) (h2 : x ≤ 9223372036854775807) (h : OwnR W B 5 1 byteCs v (dec x)) : ∃ b o c, v = .slice (some ⟨b, o, none⟩) (dec x).length c ∧ b < W.heap.size ∧ ∀ i (hi : i < (dec x).length), rng W b (o + i * 1) 1 = some (byteCs (dec x)[i]) := by
  have hdl := dec_len h1 h2
  obtain ⟨a2, c2, b2, o2, rfl, -, -, -, ha2, hc2⟩ := RArr.lt (h.rows byteCs_size (by decide) (by omega))
  obtain ⟨rfl, -, hbz2⟩ := ha2 (dec_pos _)
  exact ⟨b2, o2, c2, rfl, hbz2, hc2⟩
end Go.Proofs.Qxb6500666aGreatDoor
