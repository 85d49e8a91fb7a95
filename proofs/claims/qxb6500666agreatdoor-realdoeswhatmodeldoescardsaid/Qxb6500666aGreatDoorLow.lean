/- The layers beneath: their data, how they lie in memory, the rules of their structs. -/
import Derived.Test.Qxb6500666aGreatDoorWr
namespace Go.Proofs.Qxb6500666aGreatDoor
open Go.RowKit

structure Ana where
  id : Int
  l0 : Int
  l1 : Int
  l2 : Int
  deriving DecidableEq
def anaCs (x : Ana) : Array Value := #[.int .u32 x.id, .int .i64 x.l0, .int .i64 x.l1, .int .i64 x.l2]
theorem anaCs_size (x : Ana) : (anaCs x).size = 4 := rfl
theorem anaCs_one (x : Ana) : ∀ u ∈ (anaCs x).toList, u.oneCell' = true := by simp [anaCs, Value.oneCell']
theorem anaCs_ones (x : Ana) : ones (anaCs x) 4 = true := rfl
structure Ana.Ok (x : Ana) : Prop where
  id : U32 x.id
  l0 : I64 x.l0
  l1 : I64 x.l1
  l2 : I64 x.l2

structure Sbj where
  id : Int
  site : Int
  deriving DecidableEq
def sbjCs (x : Sbj) : Array Value := #[.int .u32 x.id, .int .u32 x.site]
theorem sbjCs_size (x : Sbj) : (sbjCs x).size = 2 := rfl
theorem sbjCs_one (x : Sbj) : ∀ u ∈ (sbjCs x).toList, u.oneCell' = true := by simp [sbjCs, Value.oneCell']
theorem sbjCs_ones (x : Sbj) : ones (sbjCs x) 2 = true := rfl
structure Sbj.Ok (x : Sbj) : Prop where
  id : U32 x.id
  site : U32 x.site

structure Kit where
  id : Int
  site : Int
  deriving DecidableEq
def kitCs (x : Kit) : Array Value := #[.int .u32 x.id, .int .u32 x.site]
theorem kitCs_size (x : Kit) : (kitCs x).size = 2 := rfl
theorem kitCs_one (x : Kit) : ∀ u ∈ (kitCs x).toList, u.oneCell' = true := by simp [kitCs, Value.oneCell']
theorem kitCs_ones (x : Kit) : ones (kitCs x) 2 = true := rfl
structure Kit.Ok (x : Kit) : Prop where
  id : U32 x.id
  site : U32 x.site

structure Smp where
  id : Int
  kit : Int
  subject : Int
  visit : Int
  cls : Int
  collected : Int
  received : Int
  exc : Bool
  deriving DecidableEq
def smpCs (x : Smp) : Array Value := #[.int .u32 x.id, .int .u32 x.kit, .int .u32 x.subject, .int .u32 x.visit, .int .u8 x.cls, .int .i64 x.collected, .int .i64 x.received, .bool x.exc]
theorem smpCs_size (x : Smp) : (smpCs x).size = 8 := rfl
theorem smpCs_one (x : Smp) : ∀ u ∈ (smpCs x).toList, u.oneCell' = true := by simp [smpCs, Value.oneCell']
theorem smpCs_ones (x : Smp) : ones (smpCs x) 8 = true := rfl
structure Smp.Ok (x : Smp) : Prop where
  id : U32 x.id
  kit : U32 x.kit
  subject : U32 x.subject
  visit : U32 x.visit
  cls : U8 x.cls
  collected : I64 x.collected
  received : I64 x.received

structure Res where
  sample : Int
  analyte : Int
  version : Int
  value : Int
  tested : Int
  wd : Bool
  deriving DecidableEq
def resCs (x : Res) : Array Value := #[.int .u32 x.sample, .int .u32 x.analyte, .int .u32 x.version, .int .i64 x.value, .int .i64 x.tested, .bool x.wd]
theorem resCs_size (x : Res) : (resCs x).size = 6 := rfl
theorem resCs_one (x : Res) : ∀ u ∈ (resCs x).toList, u.oneCell' = true := by simp [resCs, Value.oneCell']
theorem resCs_ones (x : Res) : ones (resCs x) 6 = true := rfl
structure Res.Ok (x : Res) : Prop where
  sample : U32 x.sample
  analyte : U32 x.analyte
  version : U32 x.version
  value : I64 x.value
  tested : I64 x.tested

structure Qry where
  id : Int
  sample : Int
  stage : Int
  deriving DecidableEq
def qryCs (x : Qry) : Array Value := #[.int .u32 x.id, .int .u32 x.sample, .int .u8 x.stage]
theorem qryCs_size (x : Qry) : (qryCs x).size = 3 := rfl
theorem qryCs_one (x : Qry) : ∀ u ∈ (qryCs x).toList, u.oneCell' = true := by simp [qryCs, Value.oneCell']
theorem qryCs_ones (x : Qry) : ones (qryCs x) 3 = true := rfl
structure Qry.Ok (x : Qry) : Prop where
  id : U32 x.id
  sample : U32 x.sample
  stage : U8 x.stage

/-- A version of the protocol, and its slice. -/
abbrev Vsn := Int × List Int
structure VZ where
  eff : Int
  vis : List Int
  s : SV
def vzCs (x : VZ) : Array Value := #[.int .i64 x.eff, sv x.s]
theorem vzCs_size (x : VZ) : (vzCs x).size = 2 := rfl
theorem vzCs_one (x : VZ) : ∀ u ∈ (vzCs x).toList, u.oneCell' = true := by simp [vzCs, sv, Value.oneCell']

def VersAt (w : World) (ok : Nat → Prop) (v : Value) (vs : List Vsn) : Prop := ∃ zs : List VZ, RArr w ok 2 vzCs v zs ∧ zs.map (fun x => (x.eff, x.vis)) = vs ∧ ∀ z ∈ zs, U32sAt w ok (sv z.s) z.vis

theorem rng_whole {w : World} {g : Nat} {cs : Array Value} {t : TypeId} {fr : Nat × Nat} (h : w.heap[g]? = some (.cells cs t fr)) : rng w g 0 cs.size = some cs := by
  unfold rng
  rw [h]
  simp

section
variable (ρ : Operand → Value) (dst : Option Tmp) (x y : Operand) (ty : TypeId) (pos : String) (after : Array Edge) (guard : Option (Nat × Bool))
theorem exec_ldAna : execOp ρ { dst, op := .load 197 x, type := ty, pos, after, guard } = (do pure (.value (← ldS 197 (ρ x)))) := rfl
theorem exec_stAna : execOp ρ { dst, op := .store 197 x y, type := ty, pos, after, guard } = (do stS 197 (ρ x) (ρ y); pure .skip) := rfl
theorem exec_ldSbj : execOp ρ { dst, op := .load 200 x, type := ty, pos, after, guard } = (do pure (.value (← ldS 200 (ρ x)))) := rfl
theorem exec_stSbj : execOp ρ { dst, op := .store 200 x y, type := ty, pos, after, guard } = (do stS 200 (ρ x) (ρ y); pure .skip) := rfl
theorem exec_ldKit : execOp ρ { dst, op := .load 202 x, type := ty, pos, after, guard } = (do pure (.value (← ldS 202 (ρ x)))) := rfl
theorem exec_stKit : execOp ρ { dst, op := .store 202 x y, type := ty, pos, after, guard } = (do stS 202 (ρ x) (ρ y); pure .skip) := rfl
theorem exec_ldSmp : execOp ρ { dst, op := .load 94 x, type := ty, pos, after, guard } = (do pure (.value (← ldS 94 (ρ x)))) := rfl
theorem exec_stSmp : execOp ρ { dst, op := .store 94 x y, type := ty, pos, after, guard } = (do stS 94 (ρ x) (ρ y); pure .skip) := rfl
theorem exec_ldRes : execOp ρ { dst, op := .load 92 x, type := ty, pos, after, guard } = (do pure (.value (← ldS 92 (ρ x)))) := rfl
theorem exec_stRes : execOp ρ { dst, op := .store 92 x y, type := ty, pos, after, guard } = (do stS 92 (ρ x) (ρ y); pure .skip) := rfl
theorem exec_ldQry : execOp ρ { dst, op := .load 208 x, type := ty, pos, after, guard } = (do pure (.value (← ldS 208 (ρ x)))) := rfl
theorem exec_stQry : execOp ρ { dst, op := .store 208 x y, type := ty, pos, after, guard } = (do stS 208 (ρ x) (ρ y); pure .skip) := rfl
theorem exec_ldVsn : execOp ρ { dst, op := .load 193 x, type := ty, pos, after, guard } = (do pure (.value (← ldS 193 (ρ x)))) := rfl
theorem exec_stVsn : execOp ρ { dst, op := .store 193 x y, type := ty, pos, after, guard } = (do stS 193 (ρ x) (ρ y); pure .skip) := rfl
end
theorem Tryz.size197 (w : World) : (sizeOf 197).run Tryz.prog w = .ok 4 w := by kernel_rfl
theorem run_ldAna (w : World) (b off : Nat) : (ldS 197 (.pointer (some ⟨b, off, none⟩))).run Tryz.prog w = match rng w b off 4 with | some cs => .ok (.agg cs) w | none => (Instr.loadAt 197 (.pointer (some ⟨b, off, none⟩))).run Tryz.prog w :=
  run_ldS Tryz.underlying197 Tryz.size197 w b off
theorem run_stAna (w : World) (b : Nat) (cs : Array Value) : (stS 197 (.pointer (some ⟨b, 0, none⟩)) (.agg cs)).run Tryz.prog w = if whole w b 4 = true ∧ ones cs 4 = true then .ok () (w.setRow b cs) else (Instr.storeAt 197 (.pointer (some ⟨b, 0, none⟩)) (.agg cs)).run Tryz.prog w := run_stS Tryz.size197 w b cs
theorem Tryz.size200 (w : World) : (sizeOf 200).run Tryz.prog w = .ok 2 w := by kernel_rfl
theorem run_ldSbj (w : World) (b off : Nat) : (ldS 200 (.pointer (some ⟨b, off, none⟩))).run Tryz.prog w = match rng w b off 2 with | some cs => .ok (.agg cs) w | none => (Instr.loadAt 200 (.pointer (some ⟨b, off, none⟩))).run Tryz.prog w :=
  run_ldS Tryz.underlying200 Tryz.size200 w b off
theorem run_stSbj (w : World) (b : Nat) (cs : Array Value) : (stS 200 (.pointer (some ⟨b, 0, none⟩)) (.agg cs)).run Tryz.prog w = if whole w b 2 = true ∧ ones cs 2 = true then .ok () (w.setRow b cs) else (Instr.storeAt 200 (.pointer (some ⟨b, 0, none⟩)) (.agg cs)).run Tryz.prog w := run_stS Tryz.size200 w b cs
theorem Tryz.size202 (w : World) : (sizeOf 202).run Tryz.prog w = .ok 2 w := by kernel_rfl
theorem run_ldKit (w : World) (b off : Nat) : (ldS 202 (.pointer (some ⟨b, off, none⟩))).run Tryz.prog w = match rng w b off 2 with | some cs => .ok (.agg cs) w | none => (Instr.loadAt 202 (.pointer (some ⟨b, off, none⟩))).run Tryz.prog w :=
  run_ldS Tryz.underlying202 Tryz.size202 w b off
theorem run_stKit (w : World) (b : Nat) (cs : Array Value) : (stS 202 (.pointer (some ⟨b, 0, none⟩)) (.agg cs)).run Tryz.prog w = if whole w b 2 = true ∧ ones cs 2 = true then .ok () (w.setRow b cs) else (Instr.storeAt 202 (.pointer (some ⟨b, 0, none⟩)) (.agg cs)).run Tryz.prog w := run_stS Tryz.size202 w b cs
theorem Tryz.size94 (w : World) : (sizeOf 94).run Tryz.prog w = .ok 8 w := by kernel_rfl
theorem run_ldSmp (w : World) (b off : Nat) : (ldS 94 (.pointer (some ⟨b, off, none⟩))).run Tryz.prog w = match rng w b off 8 with | some cs => .ok (.agg cs) w | none => (Instr.loadAt 94 (.pointer (some ⟨b, off, none⟩))).run Tryz.prog w :=
  run_ldS Tryz.underlying94 Tryz.size94 w b off
theorem run_stSmp (w : World) (b : Nat) (cs : Array Value) : (stS 94 (.pointer (some ⟨b, 0, none⟩)) (.agg cs)).run Tryz.prog w = if whole w b 8 = true ∧ ones cs 8 = true then .ok () (w.setRow b cs) else (Instr.storeAt 94 (.pointer (some ⟨b, 0, none⟩)) (.agg cs)).run Tryz.prog w := run_stS Tryz.size94 w b cs
theorem Tryz.size92 (w : World) : (sizeOf 92).run Tryz.prog w = .ok 6 w := by kernel_rfl
theorem run_ldRes (w : World) (b off : Nat) : (ldS 92 (.pointer (some ⟨b, off, none⟩))).run Tryz.prog w = match rng w b off 6 with | some cs => .ok (.agg cs) w | none => (Instr.loadAt 92 (.pointer (some ⟨b, off, none⟩))).run Tryz.prog w :=
  run_ldS Tryz.underlying92 Tryz.size92 w b off
theorem run_stRes (w : World) (b : Nat) (cs : Array Value) : (stS 92 (.pointer (some ⟨b, 0, none⟩)) (.agg cs)).run Tryz.prog w = if whole w b 6 = true ∧ ones cs 6 = true then .ok () (w.setRow b cs) else (Instr.storeAt 92 (.pointer (some ⟨b, 0, none⟩)) (.agg cs)).run Tryz.prog w := run_stS Tryz.size92 w b cs
theorem Tryz.size208 (w : World) : (sizeOf 208).run Tryz.prog w = .ok 3 w := by kernel_rfl
theorem run_ldQry (w : World) (b off : Nat) : (ldS 208 (.pointer (some ⟨b, off, none⟩))).run Tryz.prog w = match rng w b off 3 with | some cs => .ok (.agg cs) w | none => (Instr.loadAt 208 (.pointer (some ⟨b, off, none⟩))).run Tryz.prog w :=
  run_ldS Tryz.underlying208 Tryz.size208 w b off
theorem run_stQry (w : World) (b : Nat) (cs : Array Value) : (stS 208 (.pointer (some ⟨b, 0, none⟩)) (.agg cs)).run Tryz.prog w = if whole w b 3 = true ∧ ones cs 3 = true then .ok () (w.setRow b cs) else (Instr.storeAt 208 (.pointer (some ⟨b, 0, none⟩)) (.agg cs)).run Tryz.prog w := run_stS Tryz.size208 w b cs
theorem Tryz.size193 (w : World) : (sizeOf 193).run Tryz.prog w = .ok 2 w := by kernel_rfl
theorem run_ldVsn (w : World) (b off : Nat) : (ldS 193 (.pointer (some ⟨b, off, none⟩))).run Tryz.prog w = match rng w b off 2 with | some cs => .ok (.agg cs) w | none => (Instr.loadAt 193 (.pointer (some ⟨b, off, none⟩))).run Tryz.prog w :=
  run_ldS Tryz.underlying193 Tryz.size193 w b off
theorem run_stVsn (w : World) (b : Nat) (cs : Array Value) : (stS 193 (.pointer (some ⟨b, 0, none⟩)) (.agg cs)).run Tryz.prog w = if whole w b 2 = true ∧ ones cs 2 = true then .ok () (w.setRow b cs) else (Instr.storeAt 193 (.pointer (some ⟨b, 0, none⟩)) (.agg cs)).run Tryz.prog w := run_stS Tryz.size193 w b cs

/-- All that the layers beneath hold. -/
structure Pr where
  ana : List Ana
  ver : List Vsn
  site : List Int
  sub : List Sbj
structure Sm where
  ss : List Smp
  rs : List Res
  qs : List Qry
structure Low where
  pr : Pr
  kit : List Kit
  sm : Sm

end Go.Proofs.Qxb6500666aGreatDoor
