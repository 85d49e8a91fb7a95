/- The transfer layer's data, and how they lie in memory. -/
import Derived.Test.Qxb6500666aGreatDoorProg
import Derived.Test.Qxb6500666aGreatDoorAppend
namespace Go.Proofs.Qxb6500666aGreatDoor
open Go.RowKit

structure Row where
  sample : Int
  analyte : Int
  version : Int
  value : Int
  subject : Int
  site : Int
  visit : Int
  proto : Int
  kit : Int
  cls : Int
  collected : Int
  received : Int
  tested : Int

def Row.eqB (a b : Row) : Bool :=
  a.sample == b.sample && a.analyte == b.analyte && a.version == b.version && a.value == b.value && a.subject == b.subject && a.site == b.site && a.visit == b.visit && a.proto == b.proto && a.kit == b.kit && a.cls == b.cls && a.collected == b.collected && a.received == b.received && a.tested == b.tested

theorem Row.eqB_iff (a b : Row) : a.eqB b = true ↔ a = b := by
  cases a; cases b
  simp [Row.eqB, and_assoc]

structure Change where
  action : Int
  row : Row

structure File where
  kind : Int
  seq : Int
  issued : Int
  base : Int
  changes : List Change

/-- The bounds of the integer kinds. -/
def U8 (x : Int) : Prop := 0 ≤ x ∧ x ≤ 255
def U32 (x : Int) : Prop := 0 ≤ x ∧ x ≤ 4294967295
def I64 (x : Int) : Prop := -9223372036854775808 ≤ x ∧ x ≤ 9223372036854775807
def U64 (x : Int) : Prop := 0 ≤ x ∧ x ≤ 18446744073709551615

def rowCs (r : Row) : Array Value :=
  #[.int .u32 r.sample, .int .u32 r.analyte, .int .u32 r.version, .int .i64 r.value, .int .u32 r.subject, .int .u32 r.site, .int .u32 r.visit, .int .u32 r.proto, .int .u32 r.kit, .int .u8 r.cls, .int .i64 r.collected, .int .i64 r.received, .int .i64 r.tested]
def changeCs (c : Change) : Array Value :=
  #[.int .u8 c.action, .int .u32 c.row.sample, .int .u32 c.row.analyte, .int .u32 c.row.version, .int .i64 c.row.value, .int .u32 c.row.subject, .int .u32 c.row.site, .int .u32 c.row.visit, .int .u32 c.row.proto, .int .u32 c.row.kit, .int .u8 c.row.cls, .int .i64 c.row.collected, .int .i64 c.row.received, .int .i64 c.row.tested]

structure Row.Ok (r : Row) : Prop where
  sample : U32 r.sample
  analyte : U32 r.analyte
  version : U32 r.version
  value : I64 r.value
  subject : U32 r.subject
  site : U32 r.site
  visit : U32 r.visit
  proto : U32 r.proto
  kit : U32 r.kit
  cls : U8 r.cls
  collected : I64 r.collected
  received : I64 r.received
  tested : I64 r.tested

structure Change.Ok (c : Change) : Prop where
  action : U8 c.action
  row : c.row.Ok

def ERow (cs : List Value) (r : Row) : Prop := cs = (rowCs r).toList ∧ r.Ok
def EChange (cs : List Value) (c : Change) : Prop := cs = (changeCs c).toList ∧ c.Ok

theorem rowCs_size (r : Row) : (rowCs r).size = 13 := rfl
theorem rowCs_ones (r : Row) : ones (rowCs r) 13 = true := rfl
theorem rowCs_0 (r : Row) : (rowCs r)[0]? = some (.int .u32 r.sample) := rfl
theorem rowCs_1 (r : Row) : (rowCs r)[1]? = some (.int .u32 r.analyte) := rfl
theorem rowCs_2 (r : Row) : (rowCs r)[2]? = some (.int .u32 r.version) := rfl
theorem rowCs_3 (r : Row) : (rowCs r)[3]? = some (.int .i64 r.value) := rfl
theorem rowCs_4 (r : Row) : (rowCs r)[4]? = some (.int .u32 r.subject) := rfl
theorem rowCs_5 (r : Row) : (rowCs r)[5]? = some (.int .u32 r.site) := rfl
theorem rowCs_6 (r : Row) : (rowCs r)[6]? = some (.int .u32 r.visit) := rfl
theorem rowCs_7 (r : Row) : (rowCs r)[7]? = some (.int .u32 r.proto) := rfl
theorem rowCs_8 (r : Row) : (rowCs r)[8]? = some (.int .u32 r.kit) := rfl
theorem rowCs_9 (r : Row) : (rowCs r)[9]? = some (.int .u8 r.cls) := rfl
theorem rowCs_10 (r : Row) : (rowCs r)[10]? = some (.int .i64 r.collected) := rfl
theorem rowCs_11 (r : Row) : (rowCs r)[11]? = some (.int .i64 r.received) := rfl
theorem rowCs_12 (r : Row) : (rowCs r)[12]? = some (.int .i64 r.tested) := rfl
theorem rowCs_all (r : Row) : (rowCs r).extract 0 13 = rowCs r := rfl
theorem changeCs_size (c : Change) : (changeCs c).size = 14 := rfl
theorem changeCs_ones (c : Change) : ones (changeCs c) 14 = true := rfl
theorem changeCs_0 (c : Change) : (changeCs c)[0]? = some (.int .u8 c.action) := rfl
theorem changeCs_row (c : Change) : (changeCs c).extract 1 14 = rowCs c.row := rfl
theorem changeCs_all (c : Change) : (changeCs c).extract 0 14 = changeCs c := rfl

/-- The cells of a file; of a step of a script what is needed of it. -/
def fileCs (k s i b : Int) (a : Option Addr) (n cap : Nat) : Array Value := #[.int .u8 k, .int .u32 s, .int .i64 i, .int .u32 b, .slice a n cap]
section
variable (k s i b : Int) (a : Option Addr) (n cap : Nat)
theorem fileCs_size : (fileCs k s i b a n cap).size = 5 := rfl
theorem fileCs_ones : ones (fileCs k s i b a n cap) 5 = true := rfl
theorem fileCs_0 : (fileCs k s i b a n cap)[0]? = some (.int .u8 k) := rfl
theorem fileCs_1 : (fileCs k s i b a n cap)[1]? = some (.int .u32 s) := rfl
theorem fileCs_2 : (fileCs k s i b a n cap)[2]? = some (.int .i64 i) := rfl
theorem fileCs_3 : (fileCs k s i b a n cap)[3]? = some (.int .u32 b) := rfl
theorem fileCs_4 : (fileCs k s i b a n cap)[4]? = some (.slice a n cap) := rfl
theorem fileCs_all : (fileCs k s i b a n cap).extract 0 5 = fileCs k s i b a n cap := rfl
end

theorem Tryz.size59 (w : World) : (sizeOf 59).run Tryz.prog w = .ok 5 w := by kernel_rfl
theorem Tryz.size109 (w : World) : (sizeOf 109).run Tryz.prog w = .ok 13 w := by kernel_rfl
theorem Tryz.size111 (w : World) : (sizeOf 111).run Tryz.prog w = .ok 14 w := by kernel_rfl

/-! The loads and stores of rows and lines as wholes. -/
section
variable (ρ : Operand → Value) (dst : Option Tmp) (x y : Operand) (ty : TypeId) (pos : String) (after : Array Edge) (guard : Option (Nat × Bool))
theorem exec_ldRow : execOp ρ { dst, op := .load 109 x, type := ty, pos, after, guard } = (do pure (.value (← ldS 109 (ρ x)))) := rfl
theorem exec_ldChange : execOp ρ { dst, op := .load 111 x, type := ty, pos, after, guard } = (do pure (.value (← ldS 111 (ρ x)))) := rfl
theorem exec_ldFile : execOp ρ { dst, op := .load 59 x, type := ty, pos, after, guard } = (do pure (.value (← ldS 59 (ρ x)))) := rfl
theorem exec_stFile : execOp ρ { dst, op := .store 59 x y, type := ty, pos, after, guard } = (do stS 59 (ρ x) (ρ y); pure .skip) := rfl
theorem exec_bsRow : execOp ρ { dst, op := .buildSlice 150 1 #[(0, x)], type := ty, pos, after, guard } = (do pure (.value (← bsS 150 (ρ x)))) := by simp [execOp, bsS]
theorem exec_bsChange : execOp ρ { dst, op := .buildSlice 57 1 #[(0, x)], type := ty, pos, after, guard } = (do pure (.value (← bsS 57 (ρ x)))) := by simp [execOp, bsS]
theorem exec_slRows : execOp ρ { dst, op := .slice 150 x (some y) none none, type := ty, pos, after, guard } = (do pure (.value (← slFrom 150 (ρ x) (ρ y)))) := rfl
theorem exec_bdChange : execOp ρ { dst, op := .build 111 #[(0, x), (1, y)], type := ty, pos, after, guard } = (do pure (.value (← bdS 111 (ρ x) (ρ y)))) := by simp [execOp, bdS]
theorem exec_stRow : execOp ρ { dst, op := .store 109 x y, type := ty, pos, after, guard } = (do stS 109 (ρ x) (ρ y); pure .skip) := rfl
theorem exec_eqlRow (yt : TypeId) : execOp ρ { dst, op := .binOp .eql 109 x y yt, type := ty, pos, after, guard } = (do pure (.value (← cmpS .eql 109 x y (ρ x) (ρ y)))) := rfl
theorem exec_neqRow (yt : TypeId) : execOp ρ { dst, op := .binOp .neq 109 x y yt, type := ty, pos, after, guard } = (do pure (.value (← cmpS .neq 109 x y (ρ x) (ρ y)))) := rfl
theorem exec_stChange : execOp ρ { dst, op := .store 111 x y, type := ty, pos, after, guard } = (do stS 111 (ρ x) (ρ y); pure .skip) := rfl
end
theorem run_ldRow (w : World) (b off : Nat) : (ldS 109 (.pointer (some ⟨b, off, none⟩))).run Tryz.prog w = match rng w b off 13 with | some cs => .ok (.agg cs) w | none => (Instr.loadAt 109 (.pointer (some ⟨b, off, none⟩))).run Tryz.prog w :=
  run_ldS Tryz.underlying109 Tryz.size109 w b off
theorem run_ldChange (w : World) (b off : Nat) : (ldS 111 (.pointer (some ⟨b, off, none⟩))).run Tryz.prog w = match rng w b off 14 with | some cs => .ok (.agg cs) w | none => (Instr.loadAt 111 (.pointer (some ⟨b, off, none⟩))).run Tryz.prog w :=
  run_ldS Tryz.underlying111 Tryz.size111 w b off
theorem run_stRow (w : World) (b : Nat) (cs : Array Value) : (stS 109 (.pointer (some ⟨b, 0, none⟩)) (.agg cs)).run Tryz.prog w = if whole w b 13 = true ∧ ones cs 13 = true then .ok () (w.setRow b cs) else (Instr.storeAt 109 (.pointer (some ⟨b, 0, none⟩)) (.agg cs)).run Tryz.prog w :=
  run_stS Tryz.size109 w b cs
theorem run_stChange (w : World) (b : Nat) (cs : Array Value) : (stS 111 (.pointer (some ⟨b, 0, none⟩)) (.agg cs)).run Tryz.prog w = if whole w b 14 = true ∧ ones cs 14 = true then .ok () (w.setRow b cs) else (Instr.storeAt 111 (.pointer (some ⟨b, 0, none⟩)) (.agg cs)).run Tryz.prog w :=
  run_stS Tryz.size111 w b cs

theorem run_ldFile (w : World) (b off : Nat) : (ldS 59 (.pointer (some ⟨b, off, none⟩))).run Tryz.prog w = match rng w b off 5 with | some cs => .ok (.agg cs) w | none => (Instr.loadAt 59 (.pointer (some ⟨b, off, none⟩))).run Tryz.prog w :=
  run_ldS Tryz.underlying59 Tryz.size59 w b off
theorem run_stFile (w : World) (b : Nat) (cs : Array Value) : (stS 59 (.pointer (some ⟨b, 0, none⟩)) (.agg cs)).run Tryz.prog w = if whole w b 5 = true ∧ ones cs 5 = true then .ok () (w.setRow b cs) else (Instr.storeAt 59 (.pointer (some ⟨b, 0, none⟩)) (.agg cs)).run Tryz.prog w :=
  run_stS Tryz.size59 w b cs
theorem run_bsRow (w : World) (r : Row) : (bsS 150 (.agg (rowCs r))).run Tryz.prog w = .ok (.slice (some ⟨w.heap.size, 0, none⟩) 1 1) (w.alloc (.cells (rowCs r) 109)) := by kernel_rfl
theorem run_bsChange (w : World) (c : Change) : (bsS 57 (.agg (changeCs c))).run Tryz.prog w = .ok (.slice (some ⟨w.heap.size, 0, none⟩) 1 1) (w.alloc (.cells (changeCs c) 111)) := by kernel_rfl
theorem run_bdChange (w : World) (k : Int) (r : Row) : (bdS 111 (.int .u8 k) (.agg (rowCs r))).run Tryz.prog w = .ok (.agg (changeCs ⟨k, r⟩)) w := by kernel_rfl
theorem Tryz.info109 : (Tryz.prog.info? 109).map (fun i => (i.zero, i.size, i.bytes)) = some (some (.agg (rowCs ⟨0, 0, 0, 0, 0, 0, 0, 0, 0, 0, 0, 0, 0⟩)), 13, 72) := by kernel_rfl
theorem Tryz.info111 : (Tryz.prog.info? 111).map (fun i => (i.zero, i.size, i.bytes)) = some (some (.agg (changeCs ⟨0, ⟨0, 0, 0, 0, 0, 0, 0, 0, 0, 0, 0, 0, 0⟩⟩)), 14, 80) := by kernel_rfl
theorem rowCs_one (r : Row) : ∀ u ∈ (rowCs r).toList, u.oneCell' = true := by simp [rowCs, Value.oneCell']
theorem changeCs_one (c : Change) : ∀ u ∈ (changeCs c).toList, u.oneCell' = true := by simp [changeCs, Value.oneCell']

end Go.Proofs.Qxb6500666aGreatDoor
