/- Which slots the loops of a law write. (Written by tools/mk_zbits.py.) -/
import Derived.Test.Qxb6500666aGreatDoorMask
namespace Go.Proofs.Qxb6500666aGreatDoor

set_option maxRecDepth 10000
def rdL1 (x : Value) : List MSlot := [.keep, .keep, .keep, .keep, .keep, .keep, .any 6, .keep, .keep, .keep, .keep, .keep, .keep, .keep, .keep, .keep, .keep, .keep, .is x, .any 19, .any 20, .any 21, .any 22, .any 23, .any 24, .any 25, .any 26, .any 27, .any 28, .any 29, .any 30]
def rdL2 (x : Value) : List MSlot := [.keep, .keep, .keep, .keep, .keep, .keep, .keep, .keep, .keep, .any 9, .keep, .keep, .keep, .keep, .keep, .keep, .keep, .keep, .keep, .keep, .keep, .keep, .keep, .keep, .keep, .keep, .keep, .keep, .keep, .keep, .keep, .keep, .keep, .keep, .keep, .keep, .keep, .keep, .keep, .keep, .is x, .any 41, .any 42, .any 43, .any 44, .any 45, .any 46, .any 47, .any 48, .any 49, .any 50, .any 51, .any 52]

end Go.Proofs.Qxb6500666aGreatDoor
