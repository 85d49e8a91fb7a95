/- LedgerRefusesTamperedFiles: the forged files. Plain. -/
import Derived.Test.Qxb6500666aGreatDoorSortZ
import Derived.Test.Qxb6500666aGreatDoorCheckWalk
namespace Go.Proofs.Qxb6500666aGreatDoor
open Go.RowKit

theorem xor_mod2 (a : Nat) : (a ^^^ 1) % 2 = (a + 1) % 2 := by
  have h := Nat.testBit_xor a 1 0
  rw [Nat.testBit_zero, Nat.testBit_zero, Nat.testBit_zero] at h
  rcases Nat.mod_two_eq_zero_or_one a with e | e <;> rcases Nat.mod_two_eq_zero_or_one (a ^^^ 1) with e' | e' <;> simp [e, e'] at h <;> omega
theorem xor1_mod (v : Int) : bits .xor .i64 v 1 % 2 = (v + 1) % 2 := by
  have h : (BitVec.ofInt 64 v ^^^ BitVec.ofInt 64 1).toNat % 2 = ((v % 18446744073709551616).toNat + 1) % 2 := by
    rw [BitVec.toNat_xor, show (BitVec.ofInt 64 1).toNat = 1 from rfl, xor_mod2, BitVec.toNat_ofInt]
    rfl
  show IntKind.i64.wrap ((BitVec.ofInt 64 v ^^^ BitVec.ofInt 64 1).toNat : Int) % 2 = _
  generalize (BitVec.ofInt 64 v ^^^ BitVec.ofInt 64 1).toNat = n at *
  rw [IntKind.wrap_i64]
  omega
theorem xor1_in (v : Int) : I64 (bits .xor .i64 v 1) := by
  show -9223372036854775808 ≤ IntKind.i64.wrap ((BitVec.ofInt 64 v ^^^ BitVec.ofInt 64 1).toNat : Int) ∧ IntKind.i64.wrap ((BitVec.ofInt 64 v ^^^ BitVec.ofInt 64 1).toNat : Int) ≤ _
  rw [IntKind.wrap_i64]
  omega
theorem xor1_ne (v : Int) : bits .xor .i64 v 1 ≠ v := fun h => by
  have := xor1_mod v
  rw [h] at this
  omega
/-- A line with another value, with another action. -/
def valC (c : Change) : Change := { c with row := { c.row with value := bits .xor .i64 c.row.value 1 } }
def actC (c : Change) (a : Int) : Change := { c with action := a }
/-- A file with another line; without a line. -/
def chAt (f : File) (n : Nat) (c : Change) : File := { f with changes := f.changes.set n c }
def dropAt (f : File) (n : Nat) : File := { f with changes := f.changes.eraseIdx n }
def seqF (f : File) : File := { f with seq := f.seq + 1 }
def baseF (f : File) : File := { f with base := (f.base + 1) % f.seq }
def issF (f : File) (l : Int) : File := { f with issued := l - 1 }
end Go.Proofs.Qxb6500666aGreatDoor
