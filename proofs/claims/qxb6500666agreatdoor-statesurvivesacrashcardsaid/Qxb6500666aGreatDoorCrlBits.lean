/- Which slots the loops of a law write. (Written by tools/mk_zbits.py.) -/
import Derived.Test.Qxb6500666aGreatDoorMask
namespace Go.Proofs.Qxb6500666aGreatDoor

set_option maxRecDepth 10000
def crL1 (x : Value) : List MSlot := [.keep, .keep, .keep, .keep, .keep, .any 5, .keep, .keep, .keep, .keep, .keep, .keep, .keep, .keep, .keep, .keep, .keep, .keep, .keep, .keep, .is x, .any 21, .any 22, .any 23, .any 24, .any 25, .any 26, .any 27]
def crL2 (x : Value × Value) : List MSlot := [.keep, .keep, .keep, .keep, .keep, .keep, .keep, .is x.1, .is x.2, .keep, .keep, .keep, .keep, .keep, .keep, .keep, .keep, .keep, .keep, .keep, .keep, .keep, .keep, .keep, .keep, .keep, .keep, .keep, .keep, .keep, .keep, .keep, .keep, .keep, .keep, .keep, .keep, .keep, .keep, .keep, .keep, .any 41, .any 42, .any 43, .any 44, .any 45, .any 46, .any 47, .any 48, .any 49, .any 50, .any 51, .any 52, .any 53, .any 54, .any 55, .any 56, .any 57, .any 58, .any 59, .any 60, .any 61, .any 62, .any 63, .any 64, .any 65, .any 66, .any 67, .any 68, .any 69, .any 70, .any 71, .any 72, .any 73]
def crL3 (x : Value) : List MSlot := [.keep, .keep, .keep, .keep, .keep, .keep, .keep, .keep, .keep, .keep, .keep, .keep, .keep, .any 13, .keep, .keep, .keep, .keep, .keep, .keep, .keep, .keep, .keep, .keep, .keep, .keep, .keep, .keep, .keep, .keep, .keep, .keep, .keep, .keep, .keep, .keep, .keep, .keep, .keep, .keep, .keep, .keep, .keep, .keep, .keep, .keep, .keep, .keep, .keep, .keep, .keep, .keep, .keep, .keep, .keep, .keep, .keep, .keep, .keep, .keep, .keep, .keep, .keep, .keep, .keep, .keep, .keep, .keep, .keep, .keep, .keep, .keep, .keep, .keep, .keep, .keep, .keep, .keep, .keep, .keep, .keep, .keep, .keep, .keep, .keep, .keep, .keep, .keep, .keep, .keep, .keep, .keep, .keep, .keep, .keep, .is x, .any 96, .any 97, .any 98, .any 99, .any 100, .any 101, .any 102, .any 103, .any 104, .any 105, .any 106, .any 107]

end Go.Proofs.Qxb6500666aGreatDoor
