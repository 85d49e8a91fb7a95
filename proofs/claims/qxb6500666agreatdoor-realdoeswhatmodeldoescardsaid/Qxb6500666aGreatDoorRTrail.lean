/- RenderTrail, walked. (Made by tools/mk_rtrail.py.) -/
import Derived.Test.Qxb6500666aGreatDoorWord
namespace Go.Proofs.Qxb6500666aGreatDoor
open Go.RowKit

/-- The tables of names, as they are laid. -/
structure NmAt (w : World) (rn kn ft : Nat → ByteArray) : Prop where
  r : ∀ k, k ≤ 6 → w.cell? ⟨4, k, none⟩ = some (.string (rn k))
  k : ∀ k, k ≤ 30 → w.cell? ⟨5, k, none⟩ = some (.string (kn k))
  f : ∀ k, k ≤ 8 → w.cell? ⟨2, k, none⟩ = some (.string (ft k))
  lt : 5 < w.heap.size
  rs : ∀ k, (rn k).size ≤ 64
  ks : ∀ k, (kn k).size ≤ 64
  fs : ∀ k, (ft k).size ≤ 64
theorem NmAt.below {w w' : World} {rn kn ft : Nat → ByteArray} (h : NmAt w rn kn ft) (hb : Below w.heap.size w w') : NmAt w' rn kn ft :=
  ⟨fun k hk => (hb.cell (p := ⟨_, _, none⟩) (by have := h.lt; dsimp only; omega)).trans (h.r k hk), fun k hk => (hb.cell (p := ⟨_, _, none⟩) (by have := h.lt; dsimp only; omega)).trans (h.k k hk), fun k hk => (hb.cell (p := ⟨_, _, none⟩) (by have := h.lt; dsimp only; omega)).trans (h.f k hk), Nat.lt_of_lt_of_le h.lt hb.size, h.rs, h.ks, h.fs⟩
theorem NmAt.same {w w' : World} {B : Nat} {rn kn ft : Nat → ByteArray} (h : NmAt w rn kn ft) (hb : Below B w w') (hB : 5 < B) : NmAt w' rn kn ft :=
  ⟨fun k hk => (hb.cell (p := ⟨_, _, none⟩) (by dsimp only; omega)).trans (h.r k hk), fun k hk => (hb.cell (p := ⟨_, _, none⟩) (by dsimp only; omega)).trans (h.k k hk), fun k hk => (hb.cell (p := ⟨_, _, none⟩) (by dsimp only; omega)).trans (h.f k hk), Nat.lt_of_lt_of_le h.lt hb.size, h.rs, h.ks, h.fs⟩

attribute [local go_sem] ext_const Ext.cell Ext.frozen Ext.rng Ext.whole
attribute [local go_sem ↓] exec_ldReq exec_stReq exec_ldEnt exec_stEnt
attribute [local go_sem] run_ldReq run_stReq run_ldEnt run_stEnt entA_size entA_ones whole_alloc_lt whole_alloc_at whole_drew setRow_alloc_at setRow_alloc_lt rng_alloc_lt rng_alloc_at rng_drew rng_drewN rng_setRow_other whole_setRow_other run_ix0 run_ix1 run_ix2

def nmOf (f : Nat → ByteArray) (top : Int) (x : Int) : ByteArray := if decide (top < x) then ByteArray.empty else f x.toNat
theorem nmOf_size {f : Nat → ByteArray} {top x : Int} (h : ∀ k, (f k).size ≤ 64) : (nmOf f top x).size ≤ 64 := by
  unfold nmOf
  split
  · show ByteArray.empty.size ≤ 64; decide
  · exact h _

set_option maxRecDepth 100000 in
set_option maxHeartbeats 1000000 in
theorem roleStr_calls (w : World) (rn kn ft : Nat → ByteArray) (x : Int) (h : NmAt w rn kn ft) (hx : U8 x) :
    Calls Tryz.prog 137 #[.int .u8 x] w fun e w' => e = .returned (.string (nmOf rn 6 x)) ∧ w' = w := by
  obtain ⟨R, hR⟩ : ∃ R, R = nmOf rn 6 x := ⟨_, rfl⟩
  rw [← hR]
  obtain ⟨hx0, -⟩ := hx
  cases t0 : decide (6 < x) with
  | true =>
    have t1 := of_decide_eq_true t0
    have HE : Hid (R = ByteArray.empty) := hR.trans (by simp only [nmOf, t0, if_true])
    clear hR
    go_enter Tryz.func137, Tryz.ntmps137
    go_wp2
    go_ret
    rw [HE.out]
    exact ⟨rfl, rfl⟩
  | false =>
    have t1 := of_decide_eq_false t0
    obtain ⟨k, rfl⟩ : ∃ k : Nat, x = k := ⟨x.toNat, by omega⟩
    have HE : Hid (R = rn k) := hR.trans (by simp only [nmOf, t0]; rfl)
    have hc := h.r k (by omega)
    have hl := h.lt
    have hkk : (k : Int) ≤ 6 := by omega
    clear hR h
    go_enter Tryz.func137, Tryz.ntmps137
    go_wp2
    go_ret
    rw [HE.out]
    exact ⟨rfl, rfl⟩

set_option maxRecDepth 100000 in
set_option maxHeartbeats 1000000 in
theorem kindStr_calls (w : World) (rn kn ft : Nat → ByteArray) (x : Int) (h : NmAt w rn kn ft) (hx : U8 x) :
    Calls Tryz.prog 138 #[.int .u8 x] w fun e w' => e = .returned (.string (nmOf kn 30 x)) ∧ w' = w := by
  obtain ⟨R, hR⟩ : ∃ R, R = nmOf kn 30 x := ⟨_, rfl⟩
  rw [← hR]
  obtain ⟨hx0, -⟩ := hx
  cases t0 : decide (30 < x) with
  | true =>
    have t1 := of_decide_eq_true t0
    have HE : Hid (R = ByteArray.empty) := hR.trans (by simp only [nmOf, t0, if_true])
    clear hR
    go_enter Tryz.func138, Tryz.ntmps138
    go_wp2
    go_ret
    rw [HE.out]
    exact ⟨rfl, rfl⟩
  | false =>
    have t1 := of_decide_eq_false t0
    obtain ⟨k, rfl⟩ : ∃ k : Nat, x = k := ⟨x.toNat, by omega⟩
    have HE : Hid (R = kn k) := hR.trans (by simp only [nmOf, t0]; rfl)
    have hc := h.k k (by omega)
    have hl := h.lt
    have hkk : (k : Int) ≤ 30 := by omega
    clear hR h
    go_enter Tryz.func138, Tryz.ntmps138
    go_wp2
    go_ret
    rw [HE.out]
    exact ⟨rfl, rfl⟩

def entOk (x : Ent) (n : Int) : Bool := if (x.seq == n) then (if roleOk x.role then (if isCmd x.req.kind then decide (x.req.list.length ≤ 12) else false) else false) else false

set_option maxRecDepth 100000 in
set_option maxHeartbeats 1000000 in
theorem checkEntry_calls (w : World) (x : Ent) (a : Option Addr) (n cap : Nat) (m : Int) (hn : n = x.req.list.length) :
    Calls Tryz.prog 134 #[.agg (entA x (.slice a n cap)), .int .u32 m] w fun e w' => e = .returned (.bool (entOk x m)) ∧ Below w.heap.size w w' := by
  obtain ⟨R, hR⟩ : ∃ R, R = entOk x m := ⟨_, rfl⟩
  rw [← hR]
  unfold entOk at hR
  rw [← hn] at hR
  have HR := hide hR
  clear hR hn
  have hb : Below w.heap.size w (w.alloc (.cells (entA x (.slice a n cap)) 67)) := (Below.refl _ _).alloc (Nat.le_refl _) _
  have hx : (w.alloc (.cells (entA x (.slice a n cap)) 67)).heap[w.heap.size]? = some (.cells (entA x (.slice a n cap)) 67 (0, 0)) := heap_alloc_at _ _
  go_enter Tryz.func134, Tryz.ntmps134
  go_upto_region 1 with fail
  generalize (World.alloc w _) = W at *
  have HB := hide hb
  have c0 : W.cell? ⟨w.heap.size, 0, none⟩ = some (.int .u32 x.seq) := by rw [World.cell?, hx]; rfl
  have c1 : W.cell? ⟨w.heap.size, 1, none⟩ = some (.int .u8 x.role) := by rw [World.cell?, hx]; rfl
  have c3 : W.cell? ⟨w.heap.size, 3, none⟩ = some (.int .u8 x.req.kind) := by rw [World.cell?, hx]; rfl
  have c19 : W.cell? ⟨w.heap.size, 19, none⟩ = some (.slice a n cap) := by rw [World.cell?, hx]; rfl
  have hl := blk_lt hx
  clear hb hx
  cases q0 : (x.seq == m) with
  | false =>
    have HE : Hid (R = false) := HR.out.trans (by rw [q0]; rfl)
    go_wp2
    go_ret
    exact ⟨ret_boolH HE, HB.out⟩
  | true =>
    cases q1 : roleOk x.role with
    | false =>
      have HE : Hid (R = false) := HR.out.trans (by rw [q0, q1]; rfl)
      go_wp2_with (go_at_call 181; refine (validRole_calls _ _).mono ?_; rintro e w9 ⟨rfl, hw9⟩; have hw8 := hw9.symm; subst hw8; rw [q1])
      go_ret
      exact ⟨ret_boolH HE, HB.out⟩
    | true =>
      cases q2 : isCmd x.req.kind with
      | false =>
        have HE : Hid (R = false) := HR.out.trans (by rw [q0, q1, q2]; rfl)
        go_wp2_with (first | (go_at_call 181; refine (validRole_calls _ _).mono ?_; rintro e w9 ⟨rfl, hw9⟩; have hw8 := hw9.symm; subst hw8; rw [q1]) | (go_at_call 26; refine (isCmd_calls _ _).mono ?_; rintro e w9 ⟨rfl, hw9⟩; have hw8 := hw9.symm; subst hw8; rw [q2]))
        go_ret
        exact ⟨ret_boolH HE, HB.out⟩
      | true =>
        have HE : Hid (R = decide (n ≤ 12)) := HR.out.trans (by rw [q0, q1, q2]; rfl)
        cases q3 : decide (n ≤ 12) with
        | true =>
          have q3' := of_decide_eq_true q3
          have q4 : decide ((n : Int) ≤ 12) = true := by simpa using (by omega)
          go_wp2_with (first | (go_at_call 181; refine (validRole_calls _ _).mono ?_; rintro e w9 ⟨rfl, hw9⟩; have hw8 := hw9.symm; subst hw8; rw [q1]) | (go_at_call 26; refine (isCmd_calls _ _).mono ?_; rintro e w9 ⟨rfl, hw9⟩; have hw8 := hw9.symm; subst hw8; rw [q2]))
          go_ret
          exact ⟨ret_boolH (HE.out.trans q3), HB.out⟩
        | false =>
          have q3' := of_decide_eq_false q3
          have q4 : decide ((n : Int) ≤ 12) = false := by simpa using (by omega)
          go_wp2_with (first | (go_at_call 181; refine (validRole_calls _ _).mono ?_; rintro e w9 ⟨rfl, hw9⟩; have hw8 := hw9.symm; subst hw8; rw [q1]) | (go_at_call 26; refine (isCmd_calls _ _).mono ?_; rintro e w9 ⟨rfl, hw9⟩; have hw8 := hw9.symm; subst hw8; rw [q2]))
          go_ret
          exact ⟨ret_boolH (HE.out.trans q3), HB.out⟩


end Go.Proofs.Qxb6500666aGreatDoor
