/- The model's Step: every kind. (Made by tools/mk_mst.py.) -/
import Derived.Test.Qxb6500666aGreatDoorMdV2
import Derived.Test.Qxb6500666aGreatDoorMdV3
namespace Go.Proofs.Qxb6500666aGreatDoor
open Go.RowKit
theorem mStep_calls (rn kn ft : Nat → ByteArray) (okg : Nat → Prop) (w : World) (M : Nat) (ok : Nat → Prop) (v : MV) (m : Mod) (o : Op) (lv dv : Value) (ca : Option Addr) (cn cc : Nat) (h : StI rn kn ft okg w M ok v m o lv dv ca cn cc) :
    Calls Tryz.prog 22 #[.pointer (some ⟨M, 0, none⟩), .agg (opA o lv dv ca cn cc)] w fun e w' => MStp rn kn w w' M ok m o e := by
  by_cases k1 : o.kind = 1
  · exact mst1_calls rn kn ft okg w M ok v m o lv dv ca cn cc h k1
  by_cases k2 : o.kind = 2
  · exact mst2_calls rn kn ft okg w M ok v m o lv dv ca cn cc h k2
  by_cases k3 : o.kind = 3
  · exact mst3_calls rn kn ft okg w M ok v m o lv dv ca cn cc h k3
  by_cases k4 : o.kind = 4
  · exact mst4_calls rn kn ft okg w M ok v m o lv dv ca cn cc h k4
  by_cases k5 : o.kind = 5
  · exact mst5_calls rn kn ft okg w M ok v m o lv dv ca cn cc h k5
  by_cases k6 : o.kind = 6
  · exact mst6_calls rn kn ft okg w M ok v m o lv dv ca cn cc h k6
  by_cases k7 : o.kind = 7
  · exact mst7_calls rn kn ft okg w M ok v m o lv dv ca cn cc h k7
  exact mstD_calls rn kn ft okg w M ok v m o lv dv ca cn cc h ⟨k1, k2, k3, k4, k5, k6, k7⟩
end Go.Proofs.Qxb6500666aGreatDoor
