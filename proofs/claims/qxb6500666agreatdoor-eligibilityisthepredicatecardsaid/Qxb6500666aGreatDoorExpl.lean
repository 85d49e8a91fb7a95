/- Explain, walked: as many phrases as there are holds. -/
import Derived.Test.Qxb6500666aGreatDoorHoldP
import Derived.Test.Qxb6500666aGreatDoorElig
namespace Go.Proofs.Qxb6500666aGreatDoor
open Go.RowKit

/-- The laid table of phrases, as its cells. -/
def hnA (nm : Nat → ByteArray) : Array Value := #[.int .u16 1, .string (nm 0), .int .u16 2, .string (nm 1), .int .u16 4, .string (nm 2), .int .u16 8, .string (nm 3), .int .u16 16, .string (nm 4), .int .u16 32, .string (nm 5), .int .u16 64, .string (nm 6), .int .u16 128, .string (nm 7), .int .u16 256, .string (nm 8), .int .u16 512, .string (nm 9)]
def ldA (t : TypeId) (v : Value) : Sem Value := Instr.loadAt t v
theorem run_ldA {P : Program} {t : TypeId} {n : Nat} (ht : ∀ w, (isAgg t).run P w = .ok true w) (hs : ∀ w, (sizeOf t).run P w = .ok n w) (w : World) (b off : Nat) :
    (ldA t (.pointer (some ⟨b, off, none⟩))).run P w = match rng w b off n with | some cs => .ok (.agg cs) w | none => (Instr.loadAt t (.pointer (some ⟨b, off, none⟩))).run P w := by
  cases h : rng w b off n with
  | none => rfl
  | some cs =>
    obtain ⟨hsz, hc⟩ := rng_cell h
    have hl : (loadCells ⟨b, off, none⟩ cs.toList.length).run P w = .ok cs.toList.toArray w :=
      run_loadCells_list (P := P) w ⟨b, off, none⟩ cs.toList (fun j v hv => by
        rw [Addr.add_lit]
        have hj : j < n := by
          have := (List.getElem?_eq_some_iff.1 hv).1
          simp at this; omega
        rw [hc j hj]
        simpa using hv)
    simp only [Array.length_toList, Array.toArray_toList, hsz] at hl
    simp [ldA, Instr.loadAt, Instr.sureAddr, loadVar, Sem.run_bind, ht, hs, hl]
def ixS (x i : Value) : Sem Value := Instr.index 222 x i
section
variable (ρ : Operand → Value) (dst : Option Tmp) (x y : Operand) (ty : TypeId) (pos : String) (after : Array Edge) (guard : Option (Nat × Bool))
theorem exec_ldHn : execOp ρ { dst, op := .load 222 x, type := ty, pos, after, guard } = (do pure (.value (← ldA 222 (ρ x)))) := rfl
theorem exec_ixHn : execOp ρ { dst, op := .index 222 x y, type := ty, pos, after, guard } = (do pure (.value (← ixS (ρ x) (ρ y)))) := rfl
theorem exec_stHn : execOp ρ { dst, op := .store 221 x y, type := ty, pos, after, guard } = (do stS 221 (ρ x) (ρ y); pure .skip) := rfl
theorem exec_bsStr : execOp ρ { dst, op := .buildSlice 98 1 #[(0, x)], type := ty, pos, after, guard } = (do pure (.value (← bsS 98 (ρ x)))) := by simp [execOp, bsS]
end
theorem isAgg222 (w : World) : (isAgg 222).run Tryz.prog w = .ok true w := by kernel_rfl
theorem size222 (w : World) : (sizeOf 222).run Tryz.prog w = .ok 20 w := by kernel_rfl
theorem size221 (w : World) : (sizeOf 221).run Tryz.prog w = .ok 2 w := by kernel_rfl
theorem run_ldHn (w : World) (b off : Nat) : (ldA 222 (.pointer (some ⟨b, off, none⟩))).run Tryz.prog w = match rng w b off 20 with | some cs => .ok (.agg cs) w | none => (Instr.loadAt 222 (.pointer (some ⟨b, off, none⟩))).run Tryz.prog w := run_ldA isAgg222 size222 w b off
theorem run_stHn (w : World) (b : Nat) (cs : Array Value) : (stS 221 (.pointer (some ⟨b, 0, none⟩)) (.agg cs)).run Tryz.prog w = if whole w b 2 = true ∧ ones cs 2 = true then .ok () (w.setRow b cs) else (Instr.storeAt 221 (.pointer (some ⟨b, 0, none⟩)) (.agg cs)).run Tryz.prog w := run_stS size221 w b cs
theorem run_bsStr (w : World) (s : ByteArray) : (bsS 98 (.string s)).run Tryz.prog w = .ok (.slice (some ⟨w.heap.size, 0, none⟩) 1 1) (w.alloc (.cells #[.string s] 9)) := by kernel_rfl
theorem run_ixHn (w : World) (nm : Nat → ByteArray) : ∀ q : Nat, q < 10 → (ixS (.agg (hnA nm)) (.int .i64 (q : Int))).run Tryz.prog w = .ok (.agg #[.int .u16 (holdN.getD q 0), .string (nm q)]) w
  | 0, _ => by kernel_rfl
  | 1, _ => by kernel_rfl
  | 2, _ => by kernel_rfl
  | 3, _ => by kernel_rfl
  | 4, _ => by kernel_rfl
  | 5, _ => by kernel_rfl
  | 6, _ => by kernel_rfl
  | 7, _ => by kernel_rfl
  | 8, _ => by kernel_rfl
  | 9, _ => by kernel_rfl
def strCs (s : ByteArray) : Array Value := #[.string s]
theorem strCs_size (s : ByteArray) : (strCs s).size = 1 := rfl
theorem strCs_one (s : ByteArray) : ∀ u ∈ (strCs s).toList, u.oneCell' = true := by simp [strCs, Value.oneCell']
theorem info_str : (Tryz.prog.info? 9).map (fun i => (i.zero, i.size, i.bytes)) = some (some (.string ByteArray.empty), 1, 16) := by kernel_rfl
theorem und98 : Tryz.prog.underlying 98 = some (.slice 9) := by kernel_rfl
/-- How many of the first q holds are in h. -/
def cntQ (h : Int) (q : Nat) : Nat := (holdN.take q).countP fun k => bits .and .u16 h k != 0
theorem cntQ_succ (h : Int) {q : Nat} (hq : q < 10) : cntQ h (q + 1) = cntQ h q + if bits .and .u16 h (holdN.getD q 0) != 0 then 1 else 0 := by
  unfold cntQ
  have hl : q < holdN.length := hq
  rw [List.take_succ_eq_append_getElem hl, List.countP_append]
  congr 1
  rw [List.getD_eq_getElem?_getD, List.getElem?_eq_getElem hl]
  simp [List.countP_cons]
theorem cntQ_le (h : Int) (q : Nat) : cntQ h q ≤ 10 := by
  unfold cntQ
  have h1 := List.countP_le_length (p := fun k => bits .and .u16 h k != 0) (l := holdN.take q)
  have h2 : (holdN.take q).length ≤ 10 := by rw [List.length_take]; exact Nat.min_le_right _ _
  omega

attribute [local go_sem] ext_const Ext.cell Ext.frozen Ext.rng Ext.whole
attribute [local go_sem ↓] exec_ldHn exec_ixHn exec_stHn exec_bsStr
attribute [local go_sem] run_ldHn run_stHn run_bsStr whole_alloc_lt whole_alloc_at whole_drew setRow_alloc_at setRow_alloc_lt rng_alloc_lt rng_drew rng_drewN

set_option maxRecDepth 100000 in
set_option maxHeartbeats 2000000 in
theorem explain_calls (w : World) (nm : Nat → ByteArray) (h : Int) (hn : rng w 0 0 20 = some (hnA nm)) :
    Calls Tryz.prog 30 #[.int .u16 h] w fun e w' => (∃ a c, e = .returned (.slice a (cntH h) c)) ∧ Below w.heap.size w w' := by
  have hix := fun (W : World) (q : Nat) (hq : q < 10) => run_ixHn W nm q hq
  have HCN : Hid (cntQ h 10 = cntH h) := rfl
  go_enter Tryz.func30, Tryz.ntmps30
  go_upto_region 3 with fail
  generalize hnA nm = T at *
  go_loopg [3, 7] 10 (fun m v j wr => ∃ (q : Nat) (a : Option Addr) (c : Nat), q ≤ 10 ∧ m = 10 - q ∧ j = .int .i64 q ∧ v = .slice a (cntQ h q) c ∧ Hid (∃ ss : List ByteArray, ss.length = cntQ h q ∧ OwnR wr w.heap.size 9 1 strCs (.slice a (cntQ h q) c) ss ∧ Below w.heap.size w wr))
  case atStart => exact ⟨0, none, 0, by omega, by omega, rfl, rfl, ⟨[], rfl, OwnR.nil _ _ _ _ _, Below.refl _ _⟩⟩
  case round =>
    obtain ⟨q, a, c, hq, rfl, rfl, rfl, HS⟩ := hrel
    by_cases hlt : q < 10
    · have hixq := fun W => hix W q hlt
      have HCS := hide (cntQ_succ h hlt)
      have hle := cntQ_le h q
      obtain ⟨ss, hss, hown, hbel⟩ := HS.out
      have HO := hide hown
      have HBR := hide hbel
      have HSS := hide hss
      have hsr := hbel.size
      clear HS hown hbel hss hix
      generalize holdN.getD q 0 = kq at *
      generalize nm q = sq at *
      have hov : ones #[.int .u16 kq, .string sq] 2 = true := rfl
      cases t0 : (bits .and .u16 h kq != 0) with
      | false =>
        have HC2 : Hid (cntQ h (q + 1) = cntQ h q) := HCS.out.trans (by rw [t0]; simp)
        go_wp2
        go_roundg (10 - (q + 1))
        case measure => omega
        case rel => exact ⟨q + 1, a, c, by omega, rfl, by go_num, by rw [HC2.out], ⟨ss, HSS.out.trans HC2.out.symm, by rw [HC2.out]; exact HO.out.below ((Below.refl _ _).alloc (Nat.le_refl _) _) (Nat.le_refl _), HBR.out.alloc hsr _⟩⟩
      | true =>
        have HC2 : Hid (cntQ h (q + 1) = cntQ h q + 1) := HCS.out.trans (by rw [t0]; simp)
        have HO6 := hide (HO.out.below ((Below.refl _ _).alloc (Nat.le_refl _) (.cells #[.int .u16 kq, .string sq] 221)) (Nat.le_refl _))
        have HB6 : Hid (Below w.heap.size w (wr.alloc (.cells #[.int .u16 kq, .string sq] 221))) := HBR.out.alloc hsr _
        have hk6 : (wr.alloc (.cells #[.int .u16 kq, .string sq] 221)).heap[wr.heap.size]? = some (.cells #[.int .u16 kq, .string sq] 221 (0, 0)) := heap_alloc_at _ _
        go_upto_region 6 with fail
        generalize wr.alloc (.cells #[.int .u16 kq, .string sq] 221) = W6 at *
        obtain ⟨-, d1, -, d3⟩ := cell_two hk6
        have hs6 := HB6.out.size
        have hssl : ss.length ≤ 10 := by rw [HSS.out]; exact hle
        clear hk6 HO
        go_wp2_with (at_builtin; refine wpList_app1 (α := ByteArray) rfl _ _ 98 rfl w.heap.size 9 strCs und98 info_str rfl (by decide) strCs_size strCs_one _ ss rfl (OwnR.below HO6.out ((Below.refl _ _).alloc (Nat.le_refl _) _) (Nat.le_refl _)) _ rfl sq (rng_whole (heap_alloc_at _ _)) (by omega) (by unfold maxLen; omega) (by simp only [World.size_alloc]; omega) ?_; intro v9 w9 hown9 hsame9 hbel9 hat9)
        obtain ⟨va, vc, hv9⟩ := hown9.form
        subst hv9
        have hln : (ss ++ [sq]).length = cntQ h (q + 1) := by rw [HC2.out, List.length_append, HSS.out]; rfl
        go_roundg (10 - (q + 1))
        case measure => omega
        case rel => exact ⟨q + 1, va, vc, by omega, rfl, by go_num, by rw [hln], ⟨_, hln, by rw [← hln]; exact hown9, (HB6.out.alloc hs6 _).trans hbel9⟩⟩
    · obtain rfl : q = 10 := by omega
      obtain ⟨ss, hss, hown, hbel⟩ := HS.out
      have HBR := hide hbel
      rw [HCN.out]
      clear HS hown hbel hss hix
      go_wp2
      go_ret
      exact ⟨⟨_, _, rfl⟩, HBR.out⟩

end Go.Proofs.Qxb6500666aGreatDoor
