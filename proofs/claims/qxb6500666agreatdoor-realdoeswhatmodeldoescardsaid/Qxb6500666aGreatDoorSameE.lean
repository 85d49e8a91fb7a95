/- sameRequest, sameEntry, where both sides read alike. -/
import Derived.Test.Qxb6500666aGreatDoorAsk
namespace Go.Proofs.Qxb6500666aGreatDoor
open Go.RowKit

theorem guardArr3 (op : BinOp) (x y : Operand) (u v : Array Value) (w : World) : (eqGuard op 51 x y (.agg u) (.agg v)).run Tryz.prog w = .ok () w := by
  cases op <;> kernel_rfl
section
variable (ρ : Operand → Value) (dst : Option Tmp) (x y : Operand) (ty : TypeId) (pos : String) (after : Array Edge) (guard : Option (Nat × Bool))
theorem exec_eqlArr3 (yt : TypeId) : execOp ρ { dst, op := .binOp .eql 51 x y yt, type := ty, pos, after, guard } = (do pure (.value (← cmpS .eql 51 x y (ρ x) (ρ y)))) := rfl
theorem exec_ldArr3 : execOp ρ { dst, op := .load 51 x, type := ty, pos, after, guard } = (do pure (.value (← ldS 51 (ρ x)))) := rfl
end
theorem run_eqlArr3 (x y : Operand) (a b c : Int) (w : World) : (cmpS .eql 51 x y (.agg #[.int .i64 a, .int .i64 b, .int .i64 c]) (.agg #[.int .i64 a, .int .i64 b, .int .i64 c])).run Tryz.prog w = .ok (.bool true) w := by
  obtain ⟨d, hd⟩ : ∃ d, Op.maxDepth = d + 2 := ⟨_, rfl⟩
  simp [cmpS, guardArr3, binOp, Op.equal, hd, equalArr3]
/-- The two copies. -/
structure Rq2 (W0 W : World) (N M : Nat) (r : Req) (lv lv' : Value) : Prop where
  bel : Below W0.heap.size W0 W
  n : W.heap[N]? = some (.cells (reqA r lv) 53 (0, 0))
  m : W.heap[M]? = some (.cells (reqA r lv') 53 (0, 0))
  ne : N ≠ M ∧ W0.heap.size ≤ N ∧ W0.heap.size ≤ M
theorem Rq2.mk1 {W0 : World} {r : Req} {lv lv' : Value} : Rq2 W0 ((W0.alloc (.cells (reqA r lv) 53)).alloc (.cells (reqA r lv') 53)).drew W0.heap.size (W0.heap.size + 1) r lv lv' :=
  ⟨(((Below.refl _ _).alloc (Nat.le_refl _) _).alloc (by simp) _).drew, (Below.heap_alloc _ _ _ (by simp)).trans (heap_alloc_at _ _), box2 W0 _ _ _ _, by omega, by omega, by omega⟩
theorem Rq2.mk2 {W0 : World} {r : Req} {lv lv' : Value} : Rq2 W0 ((W0.alloc (.cells (reqA r lv') 53)).alloc (.cells (reqA r lv) 53)).drew (W0.heap.size + 1) W0.heap.size r lv lv' :=
  ⟨(((Below.refl _ _).alloc (Nat.le_refl _) _).alloc (by simp) _).drew, box2 W0 _ _ _ _, (Below.heap_alloc _ _ _ (by simp)).trans (heap_alloc_at _ _), by omega, by omega, by omega⟩
theorem frozen_of {w : World} {b : Nat} {cs : Array Value} {t : TypeId} (h : w.heap[b]? = some (.cells cs t (0, 0))) (j : Nat) : w.frozen? ⟨b, j, none⟩ = false := by rw [World.frozen?, h]; simp

attribute [local go_sem ↓] exec_ldReq exec_stReq exec_eqlArr3
attribute [local go_sem] run_ldReq run_stReq run_eqlArr3 reqA_size whole_alloc_lt whole_alloc_at whole_drew setRow_alloc_at setRow_alloc_lt rng_alloc_lt rng_alloc_at rng_drew rng_drewN setRow_drew whole_setRow_other rng_setRow_other

set_option maxRecDepth 100000 in
set_option maxHeartbeats 8000000 in
theorem sameRequest_calls (w : World) (ok ok' : Nat → Prop) (r : Req) (lv lv' : Value) (h : RArr w ok 1 u32Cs lv r.list) (h' : RArr w ok' 1 u32Cs lv' r.list) :
    Calls Tryz.prog 115 #[.agg (reqA r lv), .agg (reqA r lv')] w fun e w' => e = .returned (.bool true) ∧ Below w.heap.size w w' := by
  have HL := hide (fun W (hb : Below w.heap.size w W) => h.below hb)
  have HL' := hide (fun W (hb : Below w.heap.size w W) => h'.below hb)
  obtain ⟨la, lc, _, _, e, _⟩ := h
  obtain ⟨la', lc', _, _, e', _⟩ := h'
  generalize hm : r.list.length = m at e e'
  subst e e'
  have ho : ones (reqA r (.slice la m lc)) 17 = true := rfl
  have ho' : ones (reqA r (.slice la' m lc')) 17 = true := rfl
  have hb0 : Below w.heap.size w ((w.alloc (.cells (reqA r (.slice la m lc)) 53)).alloc (.cells (reqA r (.slice la' m lc')) 53)) := ((Below.refl _ _).alloc (Nat.le_refl _) _).alloc (by simp) _
  have e0 : ((w.alloc (.cells (reqA r (.slice la m lc)) 53)).alloc (.cells (reqA r (.slice la' m lc')) 53)).heap[w.heap.size]? = some (.cells (reqA r (.slice la m lc)) 53 (0, 0)) := (Below.heap_alloc _ _ _ (by simp)).trans (heap_alloc_at _ _)
  have e1 : ((w.alloc (.cells (reqA r (.slice la m lc)) 53)).alloc (.cells (reqA r (.slice la' m lc')) 53)).heap[w.heap.size + 1]? = some (.cells (reqA r (.slice la' m lc')) 53 (0, 0)) := box2 w _ _ _ _
  clear hm
  go_enter Tryz.func115, Tryz.ntmps115
  go_upto_region 1 with fail
  change Code.wp _ _ _ _ ((w.alloc (.cells (reqA r (.slice la m lc)) 53)).alloc (.cells (reqA r (.slice la' m lc')) 53))
  generalize ((w.alloc (.cells (reqA r (.slice la m lc)) 53)).alloc (.cells (reqA r (.slice la' m lc')) 53)) = W0 at *
  have HB0 := hide hb0
  have E0 := hide e0
  have E1 := hide e1
  have z0 := blk_lt e0
  have z1 := blk_lt e1
  have r0 : rng W0 w.heap.size 0 17 = some (reqA r (.slice la m lc)) := rng_whole e0
  have r1 : rng W0 (w.heap.size + 1) 0 17 = some (reqA r (.slice la' m lc')) := rng_whole e1
  clear hb0 e0 e1
  go_cut [5, 6] (fun v5 v6 W => ∃ N M, v5 = .pointer (some ⟨N, 0, none⟩) ∧ v6 = .pointer (some ⟨M, 0, none⟩) ∧ Hid (Rq2 W0 W N M r (.slice la m lc) (.slice la' m lc')))
  case first =>
    as_aux_lemma =>
    go_region
    all_goals
      go_wp2
      go_meet
      case rel => exact ⟨_, _, rfl, rfl, by first | exact Rq2.mk1 | exact Rq2.mk2⟩
  case rest =>
    as_aux_lemma =>
    obtain ⟨N, M, rfl, rfl, HQ⟩ := hcut
    obtain ⟨n1, n2, n3⟩ := HQ.out.ne
    have n4 : w.heap.size ≠ N := by omega
    have n5 : w.heap.size ≠ M := by omega
    have n6 : w.heap.size + 1 ≠ N := by omega
    have n7 : w.heap.size + 1 ≠ M := by omega
    have n8 : M ≠ N := fun e => n1 e.symm
    have hc := cells_all HQ.out.n
    have hd := cells_all HQ.out.m
    have ha := cells_all ((HQ.out.bel.block _ z0).trans E0.out) 16
    have hb := cells_all ((HQ.out.bel.block _ z1).trans E1.out) 16
    have c0 := hc 0
    have c1 := hc 1
    have c2 := hc 2
    have c3 := hc 3
    have c4 := hc 4
    have c5 := hc 5
    have c6 := hc 6
    have c7 := hc 7
    have c8 := hc 8
    have c9 := hc 9
    have c10 := hc 10
    have c11 := hc 11
    have c12 := hc 12
    have c13 := hc 13
    have c14 := hc 14
    have c15 := hc 15
    have c16 := hc 16
    have d0 := hd 0
    have d1 := hd 1
    have d2 := hd 2
    have d3 := hd 3
    have d4 := hd 4
    have d5 := hd 5
    have d6 := hd 6
    have d7 := hd 7
    have d8 := hd 8
    have d9 := hd 9
    have d10 := hd 10
    have d11 := hd 11
    have d12 := hd 12
    have d13 := hd 13
    have d14 := hd 14
    have d15 := hd 15
    have d16 := hd 16
    simp only [reqA, List.getElem?_toArray, List.getElem?_cons_zero, List.getElem?_cons_succ] at ha hb c0 c1 c2 c3 c4 c5 c6 c7 c8 c9 c10 c11 c12 c13 c14 c15 c16 d0 d1 d2 d3 d4 d5 d6 d7 d8 d9 d10 d11 d12 d13 d14 d15 d16
    have g1 := frozen_of HQ.out.n 16
    have g2 := frozen_of HQ.out.m 16
    clear hc hd
    have HBS : Hid (∀ u v, Below w.heap.size w ((wc.setCell ⟨N, 16, none⟩ u).setCell ⟨M, 16, none⟩ v)) := fun u v => by
      have hz := HB0.out.size
      exact ((HB0.out.trans (HQ.out.bel.mono hz)).setCell (p := ⟨N, 16, none⟩) (by show w.heap.size ≤ N; omega) _).setCell (p := ⟨M, 16, none⟩) (by show w.heap.size ≤ M; omega) _
    go_wp2_with (go_at_call 88; refine (sameU32_calls _ ok ok' _ _ r.list (HL.out _ (HBS.out _ _)) (HL'.out _ (HBS.out _ _))).mono ?_; rintro e w1 ⟨rfl, q, rfl⟩)
    go_ret
    exact ⟨rfl, below_drewN (HBS.out _ _) _⟩

end Go.Proofs.Qxb6500666aGreatDoor
