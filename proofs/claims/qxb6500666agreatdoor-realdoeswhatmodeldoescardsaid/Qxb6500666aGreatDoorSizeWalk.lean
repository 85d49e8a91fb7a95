/- The size of a batch, walked. -/
import Derived.Test.Qxb6500666aGreatDoorStM
import Derived.Test.Qxb6500666aGreatDoorLowAm
namespace Go.Proofs.Qxb6500666aGreatDoor
open Go.RowKit

section
variable (ρ : Operand → Value) (dst : Option Tmp) (x y : Operand) (ty : TypeId) (pos : String) (after : Array Edge) (guard : Option (Nat × Bool))
theorem exec_ldWr : execOp ρ { dst, op := .load 388 x, type := ty, pos, after, guard } = (do pure (.value (← ldS 388 (ρ x)))) := rfl
theorem exec_stWr : execOp ρ { dst, op := .store 388 x y, type := ty, pos, after, guard } = (do stS 388 (ρ x) (ρ y); pure .skip) := rfl
theorem exec_ldPa : execOp ρ { dst, op := .load 171 x, type := ty, pos, after, guard } = (do pure (.value (← ldS 171 (ρ x)))) := rfl
theorem exec_stPa : execOp ρ { dst, op := .store 171 x y, type := ty, pos, after, guard } = (do stS 171 (ρ x) (ρ y); pure .skip) := rfl
end
theorem run_ldWr (w : World) (b off : Nat) : (ldS 388 (.pointer (some ⟨b, off, none⟩))).run Tryz.prog w = match rng w b off 3 with | some cs => .ok (.agg cs) w | none => (Instr.loadAt 388 (.pointer (some ⟨b, off, none⟩))).run Tryz.prog w :=
  run_ldS Tryz.underlying388 Tryz.size388 w b off
theorem run_stWr (w : World) (b : Nat) (cs : Array Value) : (stS 388 (.pointer (some ⟨b, 0, none⟩)) (.agg cs)).run Tryz.prog w = if whole w b 3 = true ∧ ones cs 3 = true then .ok () (w.setRow b cs) else (Instr.storeAt 388 (.pointer (some ⟨b, 0, none⟩)) (.agg cs)).run Tryz.prog w := run_stS Tryz.size388 w b cs
theorem run_ldPa (w : World) (b off : Nat) : (ldS 171 (.pointer (some ⟨b, off, none⟩))).run Tryz.prog w = match rng w b off 2 with | some cs => .ok (.agg cs) w | none => (Instr.loadAt 171 (.pointer (some ⟨b, off, none⟩))).run Tryz.prog w :=
  run_ldS Tryz.underlying171 Tryz.size171 w b off
theorem run_stPa (w : World) (b : Nat) (cs : Array Value) : (stS 171 (.pointer (some ⟨b, 0, none⟩)) (.agg cs)).run Tryz.prog w = if whole w b 2 = true ∧ ones cs 2 = true then .ok () (w.setRow b cs) else (Instr.storeAt 171 (.pointer (some ⟨b, 0, none⟩)) (.agg cs)).run Tryz.prog w := run_stS Tryz.size171 w b cs

attribute [local go_sem] ext_const Ext.cell Ext.frozen Ext.rng Ext.whole
attribute [local go_sem ↓] exec_ldWr exec_stWr
attribute [local go_sem] run_ldWr run_stWr whole_alloc_lt whole_alloc_at whole_drew setRow_alloc_at setRow_alloc_lt rng_alloc_lt rng_alloc_at rng_drew rng_drewN

set_option maxRecDepth 100000 in
set_option maxHeartbeats 1000000 in
theorem size_calls (w : World) (ok : Nat → Prop) (v : Value) (ws : List WR) (h : BatchAt w ok v ws) (hsz : sizeW ws ≤ 1000000000) :
    Calls Tryz.prog 232 #[v] w fun e w' => e = .returned (.int .i64 (sizeW ws)) ∧ Below w.heap.size w w' := by
  obtain ⟨zs, hR, hm, hz⟩ := h.ex
  obtain ⟨a, n, c, rfl, -⟩ := Src.of hR
  obtain ⟨hn, hnc, hnm⟩ := hR.caps
  obtain ⟨b, off, hb⟩ : ∃ b off, 0 < n → a = some ⟨b, off, none⟩ ∧ b < w.heap.size ∧ ∀ i (hi : i < zs.length), rng w b (off + i * 3) 3 = some (zwCs zs[i]) := by
    by_cases h0 : 0 < n
    · obtain ⟨b, off, h1, -, h2⟩ := hR.openAt h0
      exact ⟨b, off, fun _ => ⟨h1, rng_lt (h2 0 (by omega)), h2⟩⟩
    · exact ⟨0, 0, fun h1 => absurd h1 h0⟩
  have hi := run_indexAt_arr (P := Tryz.prog) (a := a) (b := b) (off := off) (n := n) (cap := c) Tryz.underlying328 Tryz.size388 (fun h => (hb h).1)
  have Hn := hide hn
  have HB := hide hb
  have HM := hide hm
  have HZ := hide hz
  have HSZ := hide hsz
  have hnw : n = ws.length := by rw [hn, ← hm, List.length_map]
  have HNW := hide hnw
  clear hn hb hm hz h hR hsz hnw
  go_enter Tryz.func232, Tryz.ntmps232
  go_upto_region 3 with fail
  go_loopg [3, 8] n (fun g t x wr => ∃ q : Nat, q ≤ n ∧ g = n - q ∧ x = .int .i64 q ∧ t = .int .i64 (sizeW (ws.take q)) ∧ Hid (Below w.heap.size w wr))
  case atStart => exact ⟨0, by omega, by omega, rfl, rfl, Below.refl _ _⟩
  case round =>
    obtain ⟨q, hq, rfl, rfl, rfl, HQ⟩ := hrel
    have hwr := HQ.out.size
    by_cases hlt : q < n
    · have h1 : q < zs.length := by rw [← Hn.out]; exact hlt
      have h2 : q < ws.length := by rw [← HNW.out]; exact hlt
      obtain ⟨-, hbl, hcs⟩ := HB.out (by omega)
      have hrg := hcs q h1
      rw [← rng_of_block (HQ.out.block b hbl)] at hrg
      have hT := sizeW_take h2
      have hle : sizeW (ws.take (q + 1)) ≤ 1000000000 := by
        have h5 := sizeW_append (ws.take (q + 1)) (ws.drop (q + 1))
        rw [List.take_append_drop] at h5
        have := HSZ.out
        omega
      have hws : ws[q] = zs[q].2 := by simp [← HM.out]
      have hzq := HZ.out zs[q] (List.getElem_mem h1)
      rw [hws] at hT
      generalize zs[q] = z at *
      obtain ⟨⟨⟨ka, kn, kc⟩, ⟨va, vn, vc⟩⟩, ⟨⟨kb, vb⟩, dl⟩⟩ := z
      simp only [sv] at hzq
      have hk := (RArr.caps hzq.1).1
      have hv := (RArr.caps hzq.2).1
      simp only [zwCs, sv] at hrg
      simp only at hT
      rw [← hk, ← hv] at hT
      have hov : ones #[.slice ka kn kc, .slice va vn vc, .bool dl] 3 = true := rfl
      have hbr : b < wr.heap.size := by omega
      generalize hT0 : sizeW (ws.take q) = T0 at *
      have HTT := hide hT
      have hb2 : T0 + (kn + vn + 12) ≤ 1000000000 := by omega
      clear hT hws hzq hk hv hcs hT0 hle
      go_wp2
      go_roundg (n - (q + 1))
      case measure => omega
      case rel => exact ⟨q + 1, by omega, rfl, by go_num, by rw [HTT.out]; rfl, HQ.out.alloc hwr _⟩
    · have hE : ws.take q = ws := List.take_of_length_le (by rw [← HNW.out]; omega)
      rw [hE]
      go_wp2
      go_ret
      exact ⟨rfl, HQ.out⟩

end Go.Proofs.Qxb6500666aGreatDoor
