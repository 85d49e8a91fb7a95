/- inForce, outside, walked. -/
import Derived.Test.Qxb6500665aNoteWalk
namespace Go.Proofs.Qxb6500665a
open Go.RowKit Go.Proofs.Qxb6500665a.Cal

attribute [local go_sem ↓] exec_stVersion
attribute [local go_sem] run_stVersion ones_iis whole_alloc_lt whole_alloc_at whole_drew whole_setCell_other whole_setRow_other setRow_alloc_at setRow_alloc_lt

def toVer (x : HVer) : Ver := (x.eff, sortV x.vs)
def hF (hv : List HVer) (m : Int) : Option HVer := (inF (hv.map toVer) m).bind fun k => hv[k]?
def hfCs : Option HVer → Array Value
  | none => #[.int .u32 0, .int .i64 0, .slice none 0 0]
  | some x => hvCs x

def IfPost (w w' : World) (e : Ending) (o : Option HVer) : Prop := e = .returned (.tuple #[.agg (hfCs o), .bool o.isSome]) ∧ Below w.heap.size w w'
theorem ret_if {w w' : World} {e : Ending} {o p : Option HVer} (h : Hid (o = p)) (k : IfPost w w' e p) : IfPost w w' e o := by rw [h.out]; exact k

set_option maxRecDepth 100000 in
set_option maxHeartbeats 2000000 in
theorem inForce_calls (w : World) (h base : Nat) (D : Nat → Prop) (hv : List HVer) (hs : List HSub) (N : Nat) (m : Int) (k : HistAt w h base D hv hs N) (hN : N ≤ 1000000) :
    Calls Try.prog 16 #[.pointer (some ⟨h, 0, none⟩), .int .i64 m] w fun e w' => IfPost w w' e (hF hv m) := by
  obtain ⟨O, hO⟩ : ∃ O, O = hF hv m := ⟨_, rfl⟩
  have HO : Hid (O = (inFrom (hv.map toVer) m hv.length).bind fun k => hv[k]?) := by show _ = _; rw [hO, hF, inF]; simp
  rw [← hO]
  clear hO
  obtain ⟨⟨vv, ss, pv, hp, h1, o1, -⟩, l1, -, hD, hlt⟩ := k
  obtain ⟨n, hn⟩ : ∃ n, n = hv.length := ⟨_, rfl⟩
  have Hn := hide hn
  have hnl : n ≤ 1000000 := by omega
  obtain ⟨a, cap, b, off, rfl, r1, r2, r3, ha, hc⟩ := (o1.rows hvCs_size (by decide) (by omega)).lt
  rw [← hn] at r1 r3 ha HO
  have hhl := (hlt h hD).2
  have hbw0 : Below w.heap.size w (w.alloc (.cells #[.int .u32 0, .int .i64 0, .slice none 0 0] 44)) := (Below.refl _ _).alloc (Nat.le_refl _) _
  have hG0 : (w.alloc (.cells #[.int .u32 0, .int .i64 0, .slice none 0 0] 44)).heap[w.heap.size]? = some (.cells #[.int .u32 0, .int .i64 0, .slice none 0 0] 44 (0, 0)) := heap_alloc_at _ _
  obtain ⟨w1, hw1⟩ : ∃ w1, w1 = w.alloc (.cells #[.int .u32 0, .int .i64 0, .slice none 0 0] 44) := ⟨_, rfl⟩
  have HW1 := hide hw1
  rw [← hw1] at hbw0 hG0
  have hs1 : w1.heap.size = w.heap.size + 1 := by rw [hw1]; simp
  have hi := run_indexAt_arr (P := Try.prog) (n := n) (cap := cap) Try.underlying26 Try.sz44 (fun h => (ha h).1)
  have HB : Hid (0 < n → b < w.heap.size) := fun h => (ha h).2.2
  have HC := hide hc
  obtain ⟨c0, -, -, -, -⟩ := cell_three ((hbw0.block h hhl).trans h1)
  rw [← hn] at c0
  have hwh := whole_of_heap hG0
  simp only [List.size_toArray, List.length_cons, List.length_nil] at hwh
  clear ha hc hn h1 o1 hw1
  go_enter Try.func16, Try.ntmps16
  go_upto_region 1 with fail
  rw [← HW1.out]
  go_upto_region 2 with fail
  go_loopw [6] (fun j wr => ∃ q : Nat, q ≤ n ∧ ((q = 0 ∧ j = .int .i64 (-1)) ∨ ∃ k, q = k + 1 ∧ j = .int .i64 (k : Nat)) ∧ w1 = wr ∧ Hid (O = (inFrom (hv.map toVer) m q).bind fun k => hv[k]?)) (fun j _ => (intOf j + 1).toNat)
  case atStart =>
    rcases Nat.eq_zero_or_pos n with rfl | hpos
    · exact ⟨0, by omega, Or.inl ⟨rfl, by go_num⟩, rfl, HO⟩
    · obtain ⟨k, hk⟩ : ∃ k, n = k + 1 := ⟨n - 1, by omega⟩
      subst hk
      exact ⟨k + 1, by omega, Or.inr ⟨k, rfl, by go_num⟩, rfl, HO⟩
  case round =>
    obtain ⟨q, hq, hcase, rfl, HI⟩ := hrel
    rcases hcase with ⟨rfl, rfl⟩ | ⟨k, rfl, rfl⟩
    · go_wp2
      have hfin := heap_setRow_at (ds := #[.int .u32 0, .int .i64 0, .slice none 0 0]) hG0
      refine bodyPost_ret (results_cell_tmp Try.results16 _ _ w.heap.size _ _ _ _ rfl hfin Try.underlying44 rfl (by kernel_rfl)) rfl ?_
      exact ret_if HI ⟨rfl, hbw0.trans (below_setRow' _ _ (Nat.le_refl _))⟩
    · have hkn : k < n := by omega
      have hk : k < hv.length := by rw [← Hn.out]; omega
      have hbb := HB.out (by omega)
      have hr := HC.out k hk
      rw [← rng_of_block (hbw0.block b hbb)] at hr
      have HI2 : Hid (O = if hv[k].eff ≤ m then some hv[k] else (inFrom (hv.map toVer) m k).bind fun k => hv[k]?) := by
        show _ = _
        rw [HI.out, inFrom]
        simp only [List.getElem?_map, List.getElem?_eq_getElem hk, Option.map_some, Option.getD_some, toVer]
        split
        · simp [hk]
        · rfl
      have e0 := (rng_cell hr).2 0 (by decide)
      have e1 := (rng_cell hr).2 1 (by decide)
      have e2 := (rng_cell hr).2 2 (by decide)
      generalize hv[k] = x at *
      obtain ⟨xn, xe, ⟨xa, xl, xc⟩, xv⟩ := x
      simp only [hvCs, sv, List.getElem?_toArray, List.getElem?_cons_zero, List.getElem?_cons_succ, Nat.add_zero] at e0 e1 e2
      simp only at HI2
      by_cases hle : xe ≤ m
      · have HF : Hid (O = some ⟨xn, xe, (xa, xl, xc), xv⟩) := by show _ = _; rw [HI2.out, if_pos hle]
        go_wp2
        have hfin := heap_setRow_at (ds := #[.int .u32 xn, .int .i64 xe, .slice xa xl xc]) hG0
        refine bodyPost_ret (results_cell_tmp Try.results16 _ _ w.heap.size _ _ _ _ rfl hfin Try.underlying44 rfl (by kernel_rfl)) rfl ?_
        exact ret_if HF ⟨rfl, hbw0.trans (below_setRow' _ _ (Nat.le_refl _))⟩
      · have HF : Hid (O = (inFrom (hv.map toVer) m k).bind fun k => hv[k]?) := by show _ = _; rw [HI2.out, if_neg hle]
        go_wp2
        go_roundw
        case measure => simp [intOf]
        case rel =>
          rcases Nat.eq_zero_or_pos k with rfl | hpos
          · exact ⟨0, by omega, Or.inl ⟨rfl, by go_num⟩, by first | rfl | trivial, HF⟩
          · obtain ⟨k', rfl⟩ : ∃ k', k = k' + 1 := ⟨k - 1, by omega⟩
            exact ⟨k' + 1, by omega, Or.inr ⟨k', rfl, by go_num⟩, by first | rfl | trivial, HF⟩

def outB (d : Int) : Bool := decide (outD d)

set_option maxRecDepth 100000 in
theorem outside_calls (d : Int) (w : World) : Calls Try.prog 14 #[.int .i64 d] w fun e w' => e = .returned (.bool (outB d)) ∧ w = w' := by
  by_cases h1 : d < 0
  · have hR : outB d = true := decide_eq_true (Or.inl h1)
    rw [hR]
    go_enter Try.func14, Try.ntmps14
    go_wp2
    go_ret
    exact ⟨rfl, rfl⟩
  · by_cases h2 : 109572 < d
    · have hR : outB d = true := decide_eq_true (Or.inr h2)
      rw [hR]
      go_enter Try.func14, Try.ntmps14
      go_wp2
      go_ret
      exact ⟨rfl, rfl⟩
    · have hR : outB d = false := decide_eq_false (fun h => by rcases h with h | h <;> omega)
      rw [hR]
      go_enter Try.func14, Try.ntmps14
      go_wp2
      go_ret
      exact ⟨rfl, rfl⟩

section
variable {P : Program} {ops : Array Oper} {Q : Exit → Act → World → Prop} {md : Region.Mode} {S : World → Prop} {R : List Nat}
theorem mixT_two {listed : Array Bool} {a : Act} {w : World} {fuel k k' : Nat} {o o' : Oper} (hr : Region.ready md ops listed = [k, k']) (ho : ops.toList[k]? = some o) (ho' : ops.toList[k']? = some o')
    (h : wpList P ops (Exit.then (fun a' w' => (fullT md ops R k = true ∨ (S w → S w')) ∧ wpMixT P md ops Q S R fuel (listed.setIfInBounds k true) a' w') Q) [o] a w)
    (h' : wpList P ops (Exit.then (fun a' w' => (fullT md ops R k' = true ∨ (S w → S w')) ∧ wpMixT P md ops Q S R fuel (listed.setIfInBounds k' true) a' w') Q) [o'] a w) : wpMixT P md ops Q S R (fuel + 1) listed a w :=
  ⟨fun e => absurd (hr ▸ e) (by simp), fun i hi => by
    rw [hr] at hi
    have : i = k ∨ i = k' := by simpa using hi
    rcases this with rfl | rfl
    · exact wpOp_list (by simpa using ho) h
    · exact wpOp_list (by simpa using ho') h'⟩
end

end Go.Proofs.Qxb6500665a
