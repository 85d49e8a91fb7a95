/- Stores of whole structs; results in a cell. -/
import Derived.Test.Qxb6500665aDoorBytes
namespace Go.Proofs.Qxb6500665aDoor
open Go.RowKit

theorem Tryd.sz41 (w : World) : (sizeOf 41).run Tryd.prog w = .ok 3 w := by kernel_rfl
theorem Tryd.sz43 (w : World) : (sizeOf 43).run Tryd.prog w = .ok 4 w := by kernel_rfl
theorem Tryd.sz45 (w : World) : (sizeOf 45).run Tryd.prog w = .ok 3 w := by kernel_rfl
theorem Tryd.sz78 (w : World) : (sizeOf 78).run Tryd.prog w = .ok 2 w := by kernel_rfl
theorem Tryd.sz39 (w : World) : (sizeOf 39).run Tryd.prog w = .ok 4 w := by kernel_rfl

section
variable (ρ : Operand → Value) (dst : Option Tmp) (x y : Operand) (ty : TypeId) (pos : String) (after : Array Edge) (guard : Option (Nat × Bool))
theorem exec_stVersion : execOp ρ { dst, op := .store 41 x y, type := ty, pos, after, guard } = (do stS 41 (ρ x) (ρ y); pure .skip) := rfl
theorem exec_stAnalyte : execOp ρ { dst, op := .store 43 x y, type := ty, pos, after, guard } = (do stS 43 (ρ x) (ρ y); pure .skip) := rfl
theorem exec_stSubject : execOp ρ { dst, op := .store 45 x y, type := ty, pos, after, guard } = (do stS 45 (ρ x) (ρ y); pure .skip) := rfl
theorem exec_stPanel : execOp ρ { dst, op := .store 78 x y, type := ty, pos, after, guard } = (do stS 78 (ρ x) (ρ y); pure .skip) := rfl
theorem exec_stPlacement : execOp ρ { dst, op := .store 39 x y, type := ty, pos, after, guard } = (do stS 39 (ρ x) (ρ y); pure .skip) := rfl
end

theorem run_stVersion (w : World) (b : Nat) (cs : Array Value) : (stS 41 (.pointer (some ⟨b, 0, none⟩)) (.agg cs)).run Tryd.prog w = if whole w b 3 = true ∧ ones cs 3 = true then .ok () (w.setRow b cs) else (Instr.storeAt 41 (.pointer (some ⟨b, 0, none⟩)) (.agg cs)).run Tryd.prog w := run_stS Tryd.sz41 w b cs
theorem run_stAnalyte (w : World) (b : Nat) (cs : Array Value) : (stS 43 (.pointer (some ⟨b, 0, none⟩)) (.agg cs)).run Tryd.prog w = if whole w b 4 = true ∧ ones cs 4 = true then .ok () (w.setRow b cs) else (Instr.storeAt 43 (.pointer (some ⟨b, 0, none⟩)) (.agg cs)).run Tryd.prog w := run_stS Tryd.sz43 w b cs
theorem run_stSubject (w : World) (b : Nat) (cs : Array Value) : (stS 45 (.pointer (some ⟨b, 0, none⟩)) (.agg cs)).run Tryd.prog w = if whole w b 3 = true ∧ ones cs 3 = true then .ok () (w.setRow b cs) else (Instr.storeAt 45 (.pointer (some ⟨b, 0, none⟩)) (.agg cs)).run Tryd.prog w := run_stS Tryd.sz45 w b cs
theorem run_stPanel (w : World) (b : Nat) (cs : Array Value) : (stS 78 (.pointer (some ⟨b, 0, none⟩)) (.agg cs)).run Tryd.prog w = if whole w b 2 = true ∧ ones cs 2 = true then .ok () (w.setRow b cs) else (Instr.storeAt 78 (.pointer (some ⟨b, 0, none⟩)) (.agg cs)).run Tryd.prog w := run_stS Tryd.sz78 w b cs
theorem run_stPlacement (w : World) (b : Nat) (cs : Array Value) : (stS 39 (.pointer (some ⟨b, 0, none⟩)) (.agg cs)).run Tryd.prog w = if whole w b 4 = true ∧ ones cs 4 = true then .ok () (w.setRow b cs) else (Instr.storeAt 39 (.pointer (some ⟨b, 0, none⟩)) (.agg cs)).run Tryd.prog w := run_stS Tryd.sz39 w b cs

theorem ones_iii (k1 k2 k3 : IntKind) (x y z : Int) : ones #[.int k1 x, .int k2 y, .int k3 z] 3 = true := rfl
theorem ones_iiii (k1 k2 k3 k4 : IntKind) (x y z u : Int) : ones #[.int k1 x, .int k2 y, .int k3 z, .int k4 u] 4 = true := rfl
theorem ones_iis (k1 k2 : IntKind) (x y : Int) (a : Option Addr) (n c : Nat) : ones #[.int k1 x, .int k2 y, .slice a n c] 3 = true := rfl
theorem ones_is (k1 : IntKind) (x : Int) (a : Option Addr) (n c : Nat) : ones #[.int k1 x, .slice a n c] 2 = true := rfl

theorem results_cell_tmp {P : Program} {fn : Func} {q p : Tmp} {ty : TypeId} (h : fn.results = #[.cell p ty, .tmp q]) (tmps : Array Value) (w : World) (g : Nat) (t : TypeId) (cs : Array Value) (fr : Nat × Nat) (d : TypeDesc)
    (hp : tmps.getD p undef = .pointer (some ⟨g, 0, none⟩)) (hg : w.heap[g]? = some (.cells cs t fr))
    (hu : P.underlying ty = some d) (hd : (match d with | .struct _ | .array _ _ => true | _ => false) = true) (hi : (P.info? ty).map (·.size) = some cs.size) :
    (results fn tmps).run P w = .ok (.tuple #[.agg cs, tmps.getD q undef]) w := by
  have hp' : tmps[p]?.getD undef = .pointer (some ⟨g, 0, none⟩) := by simpa using hp
  simp [results, h, hp', asAddr, run_loadVar_row w g t ty cs fr d hg hu hd hi]

theorem heap_setRow_at {w : World} {g : Nat} {cs ds : Array Value} {t : TypeId} (h : w.heap[g]? = some (.cells cs t (0, 0))) : (w.setRow g ds).heap[g]? = some (.cells ds t (0, 0)) := setRow_heap w g cs ds t _ h

theorem whole_of_heap {w : World} {g : Nat} {cs : Array Value} {t : TypeId} (h : w.heap[g]? = some (.cells cs t (0, 0))) : whole w g cs.size = true := by simp [whole, h]

theorem below_setRow' {w : World} (g : Nat) (cs : Array Value) {B : Nat} (hB : B ≤ g) : Below B w (w.setRow g cs) := ⟨rfl, rfl, rfl, by simp, fun k hk => setRow_other _ _ _ _ (by omega)⟩

end Go.Proofs.Qxb6500665aDoor
