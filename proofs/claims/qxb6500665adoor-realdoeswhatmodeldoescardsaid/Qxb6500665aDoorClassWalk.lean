/- window, Classify, walked. -/
import Derived.Test.Qxb6500665aDoorAmPlain
namespace Go.Proofs.Qxb6500665aDoor
open Go.RowKit Go.Proofs.Qxb6500665aDoor.Cal

def outD (d : Int) : Prop := d < 0 ∨ 109572 < d
instance (d : Int) : Decidable (outD d) := inferInstanceAs (Decidable (d < 0 ∨ 109572 < d))

structure VB (v : Visit) : Prop where
  t1 : -3650 ≤ v.target
  t2 : v.target ≤ 3650
  e1 : 0 ≤ v.early
  e2 : v.early ≤ 365
  l1 : 0 ≤ v.late
  l2 : v.late ≤ 365
theorem VB.of_ok {v : Visit} (h : visErr v = 0) : VB v := by
  obtain ⟨-, a, b, c, d, e, f, -⟩ := visErr_ok h
  exact ⟨a, b, c, d, e, f⟩

def winErr (ad : Int) (v : Visit) : Int := if outD (ad + v.target - v.early) ∨ outD (ad + v.target + v.late) then 4 else 0

set_option maxRecDepth 100000 in
set_option maxHeartbeats 1000000 in
theorem window_bad (w : World) (ad : Int) (z : ZV) (h0 : 0 ≤ ad) (h1 : ad ≤ 109572) (hb : VB z.1) (ho : outD (ad + z.1.target - z.1.early) ∨ outD (ad + z.1.target + z.1.late)) :
    Calls Tryd.prog 61 #[.int .i64 ad, .agg (vzCs z)] w fun e w' => e = .returned (.tuple #[.int .i64 0, .int .i64 0, errV 4]) ∧ Below w.heap.size w w' := by
  obtain ⟨⟨id, ta, ea, la, pan⟩, ⟨pa, pn, pc⟩⟩ := z
  obtain ⟨t1, t2, e1, e2, l1, l2⟩ := hb
  simp only at t1 t2 e1 e2 l1 l2 ho
  simp only [vzCs, sv]
  have hbw : Below w.heap.size w (w.alloc (.cells #[.int .u32 id, .int .i64 ta, .int .i64 ea, .int .i64 la, .slice pa pn pc] 63)) := (Below.refl _ _).alloc (Nat.le_refl _) _
  unfold outD at ho
  by_cases k1 : ad + (ta - ea) < 0 ∨ 109572 < ad + (ta - ea)
  · clear ho
    have HH := hide (fun W => addDays_over ad (ta - ea) W h0 h1 (by omega))
    clear k1
    go_enter Tryd.func61, Tryd.ntmps61
    go_wp2_with (go_at_call 32; refine (HH.out _).mono ?_; rintro e w1 ⟨rfl, rfl⟩)
    go_ret3
    exact ⟨rfl, hbw⟩
  · have HH := hide (fun W => addDays_ok ad (ta - ea) W h0 h1 (by omega) (by omega))
    have HH2 := hide (fun W => addDays_over ad (ta + la) W h0 h1 (by omega))
    clear k1 ho
    go_enter Tryd.func61, Tryd.ntmps61
    go_upto_region 4 with (go_at_call 32; refine (HH.out _).mono ?_; rintro e w1 ⟨rfl, rfl⟩)
    go_wp2_with (go_at_call 32; refine (HH2.out _).mono ?_; rintro e w1 ⟨rfl, rfl⟩)
    go_ret3
    exact ⟨rfl, hbw⟩

set_option maxRecDepth 100000 in
set_option maxHeartbeats 1000000 in
theorem window_ok (w : World) (ad : Int) (z : ZV) (h0 : 0 ≤ ad) (h1 : ad ≤ 109572) (hb : VB z.1) (ho : ¬ outD (ad + z.1.target - z.1.early)) (hc : ¬ outD (ad + z.1.target + z.1.late)) :
    Calls Tryd.prog 61 #[.int .i64 ad, .agg (vzCs z)] w fun e w' => e = .returned (.tuple #[.int .i64 (ad + z.1.target - z.1.early), .int .i64 (ad + z.1.target + z.1.late), .nilIface]) ∧ Below w.heap.size w w' := by
  obtain ⟨⟨id, ta, ea, la, pan⟩, ⟨pa, pn, pc⟩⟩ := z
  obtain ⟨t1, t2, e1, e2, l1, l2⟩ := hb
  simp only at t1 t2 e1 e2 l1 l2 ho hc
  simp only [vzCs, sv]
  have hbw : Below w.heap.size w (w.alloc (.cells #[.int .u32 id, .int .i64 ta, .int .i64 ea, .int .i64 la, .slice pa pn pc] 63)) := (Below.refl _ _).alloc (Nat.le_refl _) _
  unfold outD at ho hc
  have HH := hide (fun W => addDays_ok ad (ta - ea) W h0 h1 (by omega) (by omega))
  have HH2 := hide (fun W => addDays_ok ad (ta + la) W h0 h1 (by omega) (by omega))
  have E1 : Hid (ad + (ta - ea) = ad + ta - ea) := by show _ = _; omega
  have E2 : Hid (ad + (ta + la) = ad + ta + la) := by show _ = _; omega
  clear ho hc
  go_enter Tryd.func61, Tryd.ntmps61
  go_upto_region 4 with (go_at_call 32; refine (HH.out _).mono ?_; rintro e w1 ⟨rfl, rfl⟩; rw [E1.out])
  go_wp2_with (go_at_call 32; refine (HH2.out _).mono ?_; rintro e w1 ⟨rfl, rfl⟩; rw [E2.out])
  go_ret3
  exact ⟨rfl, hbw⟩

/-- A placement: its code, and its four parts. -/
structure Pl where
  code : Int
  num : Int
  cls : Int
  opens : Int
  closes : Int

def noPl (k : Int) : Pl := ⟨k, 0, 0, 0, 0⟩
def clsEnd (num ad day : Int) (v : Visit) (r : List Visit) : Pl :=
  if outD (ad + v.target - v.early) ∨ outD (ad + v.target + v.late) then noPl 4
  else match r with
    | [] => ⟨0, num, if day < ad + v.target - v.early then 1 else if day ≤ ad + v.target + v.late then 2 else 3, ad + v.target - v.early, ad + v.target + v.late⟩
    | x :: _ => if outD (ad + x.target - x.early) then noPl 4
      else ⟨0, num, if day < ad + v.target - v.early then 1 else if day ≤ ad + v.target + v.late then 2 else if ad + x.target - x.early ≤ day then 4 else 3, ad + v.target - v.early, ad + v.target + v.late⟩
def clsT (num ad day visit : Int) : List Visit → Pl
  | [] => ⟨0, num, 5, 0, 0⟩
  | v :: r => if v.id = visit then clsEnd num ad day v r else clsT num ad day visit r

def plCs (p : Pl) : Array Value := #[.int .u32 p.num, .int .u8 p.cls, .int .i64 p.opens, .int .i64 p.closes]
def ClPost (w w' : World) (e : Ending) (p : Pl) : Prop := e = .returned (.tuple #[.agg (plCs p), errOr p.code]) ∧ Below w.heap.size w w'

end Go.Proofs.Qxb6500665aDoor
