/- Differ and Reconcile, walked. -/
import Derived.Test.Qxb6500666aGreatDoorPairUp
namespace Go.Proofs.Qxb6500666aGreatDoor
open Go.RowKit
attribute [local go_sem ↓] exec_ldRow exec_ldChange exec_ldFile exec_stRow exec_stChange exec_stFile exec_bsRow exec_bsChange exec_slRows exec_bdChange exec_eqlRow exec_neqRow
attribute [local go_sem] run_ldRow run_ldChange run_ldFile run_stRow run_stChange run_stFile run_bsRow run_bsChange run_bdChange run_neqRow run_eqlRow rng_alloc_lt rng_alloc_at rng_drew rng_drewN rng_setCell_other rng_setRow_other whole_alloc_lt whole_alloc_at whole_drew whole_setCell_other whole_setRow_other setRow_alloc_at setRow_alloc_lt setRow_drew rowCs_size rowCs_ones rowCs_0 rowCs_1 rowCs_2 rowCs_3 rowCs_4 rowCs_5 rowCs_6 rowCs_7 rowCs_8 rowCs_9 rowCs_10 rowCs_11 rowCs_12 rowCs_all changeCs_size changeCs_ones changeCs_0 changeCs_row changeCs_all fileCs_size fileCs_ones fileCs_0 fileCs_1 fileCs_2 fileCs_3 fileCs_4 fileCs_all ext_const Ext.cell Ext.frozen Ext.rng Ext.whole

theorem lineOf_len (x : Option Row × Option Row) : (lineOf x).length ≤ 1 := by
  obtain ⟨x, y⟩ := x
  cases x <;> cases y <;> simp only [lineOf] <;> (try split) <;> simp
theorem diffOf_len (x : Option Row × Option Row) : (diffOf x).length ≤ 1 := by
  obtain ⟨x, y⟩ := x
  cases x <;> cases y <;> simp only [diffOf] <;> (try split) <;> simp

/-- What Differ and Reconcile leave: a row of their own. -/
def OwnPost {α : Type} (e0 : TypeId) (size : Nat) (f : α → Array Value) (w : World) (xs : List α) (e : Ending) (w' : World) : Prop :=
  ∃ v, e = .returned v ∧ OwnR w' w.heap.size e0 size f v xs ∧ Below w.heap.size w w'

theorem outAt_new {α : Type} (T e : TypeId) (size : Nat) (f : α → Array Value) (w : World) : OutAt T e size f w.heap.size (w.alloc (.cells #[.slice none 0 0] T)) [] :=
  ⟨.slice none 0 0, heap_alloc_new _ _, OwnR.nil _ _ _ _ _⟩

theorem OwnR.base_mono {α : Type} {w : World} {base base' : Nat} {e : TypeId} {size : Nat} {f : α → Array Value} {v : Value} {xs : List α} (h : OwnR w base e size f v xs) (hb : base' ≤ base) : OwnR w base' e size f v xs := by
  obtain ⟨h1, h2⟩ := h
  refine ⟨h1, ?_⟩
  rcases h2 with h2 | ⟨g, cap, cur, rfl, hg, hh, r⟩
  · exact Or.inl h2
  · exact Or.inr ⟨g, cap, cur, rfl, Nat.le_trans hb hg, hh, r⟩

set_option maxRecDepth 100000 in
set_option maxHeartbeats 1000000 in
theorem differ_calls (w : World) (ok ok' : Nat → Prop) (v v' : Value) (bs ts : List Row) (h : RowsAt w ok v bs) (h' : RowsAt w ok' v' ts) (hlen : bs.length ≤ 100000000) (hlen' : ts.length ≤ 100000000) :
    Calls Tryz.prog 224 #[v, v'] w fun e w' => OwnPost 111 14 changeCs w (differ bs ts) e w' := by
  have H1 : Hid (RowsAt (w.alloc (.cells #[.slice none 0 0] 57)) (· < w.heap.size) v bs) := (RArr.lt h).mono (fun b hb => Below.heap_alloc _ _ _ hb.2) (fun _ hb => hb.2)
  have H2 : Hid (RowsAt (w.alloc (.cells #[.slice none 0 0] 57)) (· < w.heap.size) v' ts) := (RArr.lt h').mono (fun b hb => Below.heap_alloc _ _ _ hb.2) (fun _ hb => hb.2)
  clear h h'
  go_enter Tryz.func224, Tryz.ntmps224
  go_wp2_with (go_at_call 254; refine (pairUp_calls 57 111 14 changeCs 255 lineOf lineOf_len w.heap.size (fun w xs x y p q => differ1_calls w _ xs x y p q) (fun _ _ => rfl) _ v v' bs ts H1.out H2.out (outAt_new _ _ _ _ _) hlen hlen').mono ?_; rintro e w1 ⟨rfl, hout, hbel⟩; obtain ⟨u, hu, hown⟩ := hout; obtain ⟨hc, hfz, hgl⟩ := out_cell hu)
  go_ret
  exact ⟨_, rfl, OwnR.base_mono hown (by omega), ((Below.refl _ _).alloc (Nat.le_refl _) _).trans hbel⟩

set_option maxRecDepth 100000 in
set_option maxHeartbeats 1000000 in
theorem reconcile_calls (w : World) (ok ok' : Nat → Prop) (v v' : Value) (bs ts : List Row) (h : RowsAt w ok v bs) (h' : RowsAt w ok' v' ts) (hlen : bs.length ≤ 100000000) (hlen' : ts.length ≤ 100000000) :
    Calls Tryz.prog 227 #[v, v'] w fun e w' => OwnPost 166 5 diffCs w (reconcile bs ts) e w' := by
  have H1 : Hid (RowsAt (w.alloc (.cells #[.slice none 0 0] 72)) (· < w.heap.size) v bs) := (RArr.lt h).mono (fun b hb => Below.heap_alloc _ _ _ hb.2) (fun _ hb => hb.2)
  have H2 : Hid (RowsAt (w.alloc (.cells #[.slice none 0 0] 72)) (· < w.heap.size) v' ts) := (RArr.lt h').mono (fun b hb => Below.heap_alloc _ _ _ hb.2) (fun _ hb => hb.2)
  clear h h'
  go_enter Tryz.func227, Tryz.ntmps227
  go_wp2_with (go_at_call 254; refine (pairUp_calls 72 166 5 diffCs 256 diffOf diffOf_len w.heap.size (fun w xs x y p q => reconcile1_calls w _ xs x y p q) (fun _ _ => rfl) _ v v' bs ts H1.out H2.out (outAt_new _ _ _ _ _) hlen hlen').mono ?_; rintro e w1 ⟨rfl, hout, hbel⟩; obtain ⟨u, hu, hown⟩ := hout; obtain ⟨hc, hfz, hgl⟩ := out_cell hu)
  go_ret
  exact ⟨_, rfl, OwnR.base_mono hown (by omega), ((Below.refl _ _).alloc (Nat.le_refl _) _).trans hbel⟩

end Go.Proofs.Qxb6500666aGreatDoor
