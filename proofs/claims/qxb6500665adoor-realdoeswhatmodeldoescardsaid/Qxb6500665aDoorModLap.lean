/- Overlap, walked. -/
import Derived.Test.Qxb6500665aDoorModSmall
namespace Go.Proofs.Qxb6500665aDoor
open Go.RowKit Go.Proofs.Qxb6500665aDoor.Cal

def lapB (a b : Visit) : Bool := decide (a.target - a.early ≤ b.target + b.late ∧ b.target - b.early ≤ a.target + a.late)

set_option maxRecDepth 100000 in
set_option maxHeartbeats 1000000 in
theorem overlap_calls (w : World) (x y : ZV) (hx : VB x.1) (hy : VB y.1) :
    Calls Tryd.prog 74 #[.agg (vzCs x), .agg (vzCs y)] w fun e w' => e = .returned (.bool (lapB x.1 y.1)) ∧ Below w.heap.size w w' := by
  obtain ⟨⟨xi, xt, xe, xl, xp⟩, ⟨xa, xn, xc⟩⟩ := x
  obtain ⟨⟨yi, yt, ye, yl, yp⟩, ⟨ya, yn, yc⟩⟩ := y
  obtain ⟨a1, a2, a3, a4, a5, a6⟩ := hx
  obtain ⟨b1, b2, b3, b4, b5, b6⟩ := hy
  simp only at a1 a2 a3 a4 a5 a6 b1 b2 b3 b4 b5 b6
  simp only [vzCs, sv]
  obtain ⟨R, hR⟩ : ∃ R, R = lapB ⟨xi, xt, xe, xl, xp⟩ ⟨yi, yt, ye, yl, yp⟩ := ⟨_, rfl⟩
  rw [← hR]
  have hbw : Below w.heap.size w ((w.alloc (.cells #[.int .u32 xi, .int .i64 xt, .int .i64 xe, .int .i64 xl, .slice xa xn xc] 63)).alloc (.cells #[.int .u32 yi, .int .i64 yt, .int .i64 ye, .int .i64 yl, .slice ya yn yc] 63)) := ((Below.refl _ _).alloc (Nat.le_refl _) _).alloc (by simp) _
  by_cases h1 : xt - xe ≤ yt + yl
  · by_cases h2 : yt - ye ≤ xt + xl
    · have HR : Hid (R = true) := hR.trans (decide_eq_true ⟨h1, h2⟩)
      clear hR
      go_enter Tryd.func74, Tryd.ntmps74
      go_wp2
      go_ret
      exact ⟨by rw [HR.out]; rfl, hbw⟩
    · have HR : Hid (R = false) := hR.trans (decide_eq_false (fun h => h2 h.2))
      clear hR
      go_enter Tryd.func74, Tryd.ntmps74
      go_wp2
      go_ret
      exact ⟨by rw [HR.out]; rfl, hbw⟩
  · have HR : Hid (R = false) := hR.trans (decide_eq_false (fun h => h1 h.1))
    clear hR
    go_enter Tryd.func74, Tryd.ntmps74
    go_wp2
    go_ret
    exact ⟨by rw [HR.out]; rfl, hbw⟩

end Go.Proofs.Qxb6500665aDoor
