/- The readings: read, kind by kind. -/
import Derived.Test.Qxb6500666aGreatDoorResp
import Derived.Test.Qxb6500666aGreatDoorTrail
import Derived.Test.Qxb6500666aGreatDoorParseParts
namespace Go.Proofs.Qxb6500666aGreatDoor
open Go.RowKit

/-- What a reading answers: the response, or the code of a refusal. -/
def RdPost (w w' : World) (e : Ending) : Except Int (Rsp → Prop) → Prop
  | .ok P => (∃ x, e = .returned (.agg (respCs x)) ∧ P x) ∧ Below w.heap.size w w'
  | .error c => e = .returned (.agg (respCs { rsp0 with code := c })) ∧ Below w.heap.size w w'
/-- read's own blocks. -/
structure RB (w W : World) (q : Array Value) (x : Rsp) : Prop where
  rq : W.heap[w.heap.size]? = some (.cells q 53 (0, 0))
  rs : W.heap[w.heap.size + 1]? = some (.cells (respCs rsp0) 75 (0, 0))
  rp : W.heap[w.heap.size + 2]? = some (.cells (respCs x) 75 (0, 0))
  blw : Below w.heap.size w W
theorem RB.start (w : World) (q : Array Value) : RB w (((w.alloc (.cells q 53)).alloc (.cells (respCs rsp0) 75)).alloc (.cells (respCs rsp0) 75)) q rsp0 :=
  ⟨(Below.heap_alloc _ _ _ (by simp <;> omega)).trans ((Below.heap_alloc _ _ _ (by simp)).trans (heap_alloc_at _ _)), (Below.heap_alloc _ _ _ (by simp)).trans (box2 w _ _ _ _), by have := heap_alloc_at ((w.alloc (.cells q 53)).alloc (.cells (respCs rsp0) 75)) (.cells (respCs rsp0) 75); simpa using this, (((Below.refl _ _).alloc (Nat.le_refl _) _).alloc (by simp) _).alloc (by simp <;> omega) _⟩
theorem RB.next {w W W' : World} {q : Array Value} {x : Rsp} (h : RB w W q x) (hb : Below W.heap.size W W') : RB w W' q x :=
  have h3 := blk_lt h.rp
  ⟨(hb.block _ (by omega)).trans h.rq, (hb.block _ (by omega)).trans h.rs, (hb.block _ (by omega)).trans h.rp, h.blw.trans (hb.mono (by omega))⟩
theorem RB.row {w W : World} {q : Array Value} {x : Rsp} (h : RB w W q x) (y : Rsp) : RB w (W.setRow (w.heap.size + 2) (respCs y)) q y :=
  ⟨(setRow_other _ _ _ _ (by omega)).trans h.rq, (setRow_other _ _ _ _ (by omega)).trans h.rs, heap_setRow_at h.rp, h.blw.trans ⟨rfl, rfl, rfl, by simp, fun k hk => setRow_other _ _ _ _ (by omega)⟩⟩
theorem RB.cell {w W : World} {q : Array Value} {x : Rsp} (h : RB w W q x) {j : Nat} {v : Value} (y : Rsp) (hy : (respCs x).setIfInBounds j v = respCs y) : RB w (W.setCell ⟨w.heap.size + 2, j, none⟩ v) q y :=
  ⟨(Below.heap_setCell _ _ _ _ (by simp)).trans h.rq, (Below.heap_setCell _ _ _ _ (by simp)).trans h.rs, by have := heap_set3 (j := j) (v := v) h.rp; rwa [hy] at this, h.blw.setCell (p := ⟨w.heap.size + 2, j, none⟩) (by simp) _⟩
theorem RB.facts {w W : World} {q : Array Value} {x : Rsp} (h : RB w W q x) : whole W (w.heap.size + 1) 40 = true ∧ rng W (w.heap.size + 2) 0 40 = some (respCs x) ∧ (∀ j, W.cell? ⟨w.heap.size, j, none⟩ = q[j]?) ∧ (∀ j, W.cell? ⟨w.heap.size + 2, j, none⟩ = (respCs x)[j]?) ∧ (∀ j, W.frozen? ⟨w.heap.size + 2, j, none⟩ = false) ∧ w.heap.size + 2 < W.heap.size :=
  ⟨whole_blk h.rs, rng_whole h.rp, fun j => cells_all h.rq j, fun j => cells_all h.rp j, fun j => by simp [World.frozen?, h.rp], blk_lt h.rp⟩
theorem RB.fin {w W : World} {q : Array Value} {x y : Rsp} (h : RB w W q x) : (W.setRow (w.heap.size + 1) (respCs y)).heap[w.heap.size + 1]? = some (.cells (respCs y) 75 (0, 0)) ∧ Below w.heap.size w (W.setRow (w.heap.size + 1) (respCs y)) :=
  ⟨heap_setRow_at h.rs, h.blw.trans ⟨rfl, rfl, rfl, by simp, fun k hk => setRow_other _ _ _ _ (by omega)⟩⟩
theorem GetPost.isOk {α : Type} {w w' : World} {e : Ending} {f : α → Array Value} {z x : α} {R : Except Int α} (h : GetPost w w' e f z R) (hR : R = .ok x) : e = .returned (.tuple #[.agg (f x), .nilIface]) ∧ Below w.heap.size w w' := by
  subst hR; exact h
theorem GetPost.isErr {α : Type} {w w' : World} {e : Ending} {f : α → Array Value} {z : α} {c : Int} {R : Except Int α} (h : GetPost w w' e f z R) (hR : R = .error c) : e = .returned (.tuple #[.agg (f z), .iface 63 (.int .u8 c)]) ∧ Below w.heap.size w w' := by
  subst hR; exact h
theorem store_cells_mid {P : Program} (g o : Nat) (t : TypeId) (suf : List Value) : ∀ (vs : List Value) (w : World) (i : Nat) (pre post : List Value), (∀ v ∈ vs, v.oneCell' = true) → o + i = pre.length → vs.length = post.length → w.heap[g]? = some (.cells (pre ++ post ++ suf).toArray t (0, 0)) →
    (storeCells ⟨g, o, none⟩ vs i).run P w = .ok () (w.setRow g (pre ++ vs ++ suf).toArray) := by
  intro vs
  induction vs with
  | nil =>
    intro w i pre post _ hi hp hw
    have : post = [] := List.length_eq_zero_iff.1 (by simpa using hp.symm)
    subst this
    simp only [storeCells, List.append_nil] at hw ⊢
    rw [setRow_self w g _ t _ hw]
    rfl
  | cons v rest ih =>
    intro w i pre post hone hi hp hw
    cases post with
    | nil => simp at hp
    | cons q post =>
      unfold storeCells
      rw [Sem.run_bind]
      have hcell : w.cell? ⟨g, o + i, none⟩ = some q := by
        simp only [World.cell?, hw, Option.isSome_none, Bool.false_eq_true, if_false]
        rw [hi]
        simp
      have hfz : w.frozen? ⟨g, o + i, none⟩ = false := frozen_of_row w g (o + i) _ t hw
      have hst : (store (Addr.add ⟨g, o, none⟩ i) v).run P w = .ok () (w.setCell ⟨g, o + i, none⟩ v) := by
        rw [Addr.add_lit, run_store P w _ v .plain (hone v (by simp))]
        simp [hcell, hfz]
      rw [hst]
      simp only [Result.andThen_ok]
      have hw2 := heap_setCell_same w g (o + i) _ t v hw
      have e : ((pre ++ q :: post ++ suf).toArray.setIfInBounds (o + i) v) = ((pre ++ [v]) ++ post ++ suf).toArray := by
        rw [hi]
        simp
      rw [e] at hw2
      rw [ih (w.setCell ⟨g, o + i, none⟩ v) (i + 1) (pre ++ [v]) post (fun x hx => hone x (by simp [hx])) (by simp; omega) (by simpa using hp) hw2]
      rw [setCell_eq_setRow w g (o + i) _ t _ v hw, setRow_setRow]
      simp

theorem run_stStat4 (w : World) (C : Nat) (x : Rsp) (s : Stat) (h : w.heap[C]? = some (.cells (respCs x) 75 (0, 0))) :
    (stS 65 (.pointer (some ⟨C, 4, none⟩)) (.agg (statCs s))).run Tryz.prog w = .ok () (w.setRow C (respCs { x with st := s })) := by
  have := store_cells_mid (P := Tryz.prog) C 4 75 ((respCs x).toList.drop 8) (statCs s).toList w 0 ((respCs x).toList.take 4) (((respCs x).toList.drop 4).take 4) (fun v hv => by simp [statCs] at hv; rcases hv with rfl | rfl | rfl | rfl <;> rfl) rfl rfl h
  simp [stS, Instr.storeAt, Instr.sureAddr, storeVar, Sem.run_bind, Value.cells]
  exact this
theorem run_stHd30 (w : World) (C : Nat) (x : Rsp) (s : Hdr) (h : w.heap[C]? = some (.cells (respCs x) 75 (0, 0))) :
    (stS 71 (.pointer (some ⟨C, 30, none⟩)) (.agg (hdrCs s))).run Tryz.prog w = .ok () (w.setRow C (respCs { x with hd := s })) := by
  have := store_cells_mid (P := Tryz.prog) C 30 75 ((respCs x).toList.drop 37) (hdrCs s).toList w 0 ((respCs x).toList.take 30) (((respCs x).toList.drop 30).take 7) (fun v hv => by simp [hdrCs] at hv; rcases hv with rfl | rfl | rfl | rfl | rfl | rfl | rfl <;> rfl) rfl rfl h
  simp [stS, Instr.storeAt, Instr.sureAddr, storeVar, Sem.run_bind, Value.cells]
  exact this
theorem run_stEnt8 (w : World) (C : Nat) (x : Rsp) (s : Ent) (l : SV) (h : w.heap[C]? = some (.cells (respCs x) 75 (0, 0))) :
    (stS 67 (.pointer (some ⟨C, 8, none⟩)) (.agg (entA s (sv l)))).run Tryz.prog w = .ok () (w.setRow C (respCs { x with en := s, el := l })) := by
  have := store_cells_mid (P := Tryz.prog) C 8 75 ((respCs x).toList.drop 28) (entA s (sv l)).toList w 0 ((respCs x).toList.take 8) (((respCs x).toList.drop 8).take 20) (fun v hv => zeCs_one (s, l) v hv) rfl rfl h
  simp [stS, Instr.storeAt, Instr.sureAddr, storeVar, Sem.run_bind, Value.cells]
  exact this

attribute [local go_sem ↓] exec_ldRsp exec_stRsp exec_bdRsp exec_ldStat exec_stStat exec_ldAcc exec_stAcc exec_ldHd exec_stHd
attribute [local go_sem] run_ldRsp run_stRsp run_bdRsp0 run_bdRsp1 respCs_ones run_ldStat run_stStat run_ldAcc run_stAcc run_ldHd run_stHd

end Go.Proofs.Qxb6500666aGreatDoor
