/- The visitors of Differ and Reconcile, walked. -/
import Derived.Test.Qxb6500666aGreatDoorPlainDiffer
import Derived.Test.Qxb6500666aGreatDoorSeq
namespace Go.Proofs.Qxb6500666aGreatDoor
open Go.RowKit
attribute [local go_sem ↓] exec_ldRow exec_ldChange exec_ldFile exec_stRow exec_stChange exec_stFile exec_bsRow exec_bsChange exec_slRows exec_bdChange exec_eqlRow exec_neqRow
attribute [local go_sem] run_ldRow run_ldChange run_ldFile run_stRow run_stChange run_stFile run_bsRow run_bsChange run_bdChange run_neqRow run_eqlRow rng_alloc_lt rng_alloc_at rng_drew rng_drewN rng_setCell_other rng_setRow_other whole_alloc_lt whole_alloc_at whole_drew whole_setCell_other whole_setRow_other setRow_alloc_at setRow_alloc_lt setRow_drew rowCs_size rowCs_ones rowCs_0 rowCs_1 rowCs_2 rowCs_3 rowCs_4 rowCs_5 rowCs_6 rowCs_7 rowCs_8 rowCs_9 rowCs_10 rowCs_11 rowCs_12 rowCs_all changeCs_size changeCs_ones changeCs_0 changeCs_row changeCs_all fileCs_size fileCs_ones fileCs_0 fileCs_1 fileCs_2 fileCs_3 fileCs_4 fileCs_all ext_const Ext.cell Ext.frozen Ext.rng Ext.whole

/-- A pointer to a row below block g, or nil. -/
def PtrRow (w : World) (g : Nat) (p : Value) : Option Row → Prop
  | none => p = .pointer none
  | some r => ∃ b off, p = .pointer (some ⟨b, off, none⟩) ∧ b < g ∧ rng w b off 13 = some (rowCs r)

/-- The visitor's gathered lines: the variable at block g, what it owns. -/
def OutAt {α : Type} (T e : TypeId) (size : Nat) (f : α → Array Value) (g : Nat) (w : World) (xs : List α) : Prop :=
  ∃ v, w.heap[g]? = some (.cells #[v] T (0, 0)) ∧ OwnR w (g + 1) e size f v xs

theorem out_cell {w : World} {g : Nat} {v : Value} {T : TypeId} (h : w.heap[g]? = some (.cells #[v] T (0, 0))) : w.cell? ⟨g, 0, none⟩ = some v ∧ w.frozen? ⟨g, 0, none⟩ = false ∧ g < w.heap.size :=
  ⟨by simp [World.cell?, h], by simp [World.frozen?, h], (Array.getElem?_eq_some_iff.1 h).1⟩

theorem out_store {α : Type} {T e : TypeId} {size : Nat} {f : α → Array Value} {g : Nat} {w : World} {v u : Value} {xs : List α} (h : w.heap[g]? = some (.cells #[v] T (0, 0))) (ho : OwnR w (g + 1) e size f u xs) :
    OutAt T e size f g (w.setCell ⟨g, 0, none⟩ u) xs := by
  refine ⟨u, ?_, ho.mono fun b hb => Below.heap_setCell _ _ _ _ ?_⟩
  · have hg := (Array.getElem?_eq_some_iff.1 h).1
    obtain ⟨_, hg2⟩ := Array.getElem?_eq_some_iff.1 h
    simp [World.setCell, hg, Array.getElem_modify, hg2]
  · have := (ho.block b hb).1
    simp; omega

theorem rng13 {w : World} {b off : Nat} {r : Row} (h : rng w b off 13 = some (rowCs r)) : w.cell? ⟨b, off, none⟩ = some (.int .u32 r.sample) ∧ w.cell? ⟨b, off + 1, none⟩ = some (.int .u32 r.analyte) ∧ w.cell? ⟨b, off + 2, none⟩ = some (.int .u32 r.version) :=
  ⟨(rng_cell h).2 0 (by decide), (rng_cell h).2 1 (by decide), (rng_cell h).2 2 (by decide)⟩

theorem Tryz.info166 : (Tryz.prog.info? 166).map (fun i => (i.zero, i.size, i.bytes)) = some (some (.agg (diffCs ⟨0, 0, 0, 0, 0⟩)), 5, 20) := by kernel_rfl
theorem diffCs_size (d : Diff) : (diffCs d).size = 5 := rfl
theorem diffCs_one (d : Diff) : ∀ u ∈ (diffCs d).toList, u.oneCell' = true := by
  intro u hu
  simp only [diffCs, List.mem_cons, List.not_mem_nil, or_false] at hu
  rcases hu with rfl | rfl | rfl | rfl | rfl <;> rfl

set_option maxRecDepth 100000 in
set_option maxHeartbeats 2000000 in
theorem differ1_left (w : World) (g : Nat) (xs : List Change) (b : Row) (p : Value) (hp : PtrRow w g p (some b)) (h : OutAt 57 111 14 changeCs g w xs) (hl : xs.length ≤ 200000000) :
    Calls Tryz.prog 255 #[p, .pointer none, .pointer (some ⟨g, 0, none⟩)] w fun e w' => e = .returned (.tuple #[]) ∧ OutAt 57 111 14 changeCs g w' (xs ++ [⟨87, b⟩]) ∧ Below g w w' := by
  obtain ⟨bp, op, rfl, hbgp, hrp⟩ := hp
  have hblp : bp < w.heap.size := by
    obtain ⟨v, hv, hown⟩ := h
    have := (out_cell hv).2.2
    omega
  obtain ⟨v, hv, hown⟩ := h
  obtain ⟨a0, cap0, rfl⟩ := hown.form
  obtain ⟨hc, hfz, hgl⟩ := out_cell hv
  go_enter Tryz.func255, Tryz.ntmps255
  go_wp2_with fail
  refine wp_region_seqN (g + 1) 5 (by decide) (by kernel_rfl) (by kernel_rfl) (fun d _ _ _ _ h => by cases d <;> exact h) ?_
  simp only [List.take_succ_cons, List.take_zero, List.drop_succ_cons, List.drop_zero]
  repeat (go_big_quiet_step (fail))
  refine wpQuiet_nil ?_
  refine seq_step rfl ?_
  go_wp2_with fail
  refine ⟨Or.inr ⟨⟨_, (Below.refl _ _).drew.alloc (by simp; omega) _⟩, rfl⟩, ?_⟩
  refine seq_step rfl ?_
  refine wpList_app1 (α := Change) rfl _ _ 57 rfl (g + 1) 111 changeCs Tryz.underlying57 Tryz.info111 rfl (by decide) changeCs_size changeCs_one _ xs rfl (OwnR.below hown (((Below.refl _ _).alloc (Nat.le_refl _) _).drew) (Nat.le_refl _)) _ rfl ⟨87, b⟩ (by first | exact (rng_alloc_at _ _ _ _ _ _ _ rfl).trans (by simp [go_sem]) | simp [go_sem]) (by omega) (by unfold maxLen; omega) (by simp; omega) ?_
  intro v1 w1 hown1 hsame hbel hat
  go_wp2_with fail
  clear hsame hat
  have hb1 : Below (g + 1) w w1 := (((Below.refl _ _).alloc (by omega) _).drew).trans hbel
  have hgg : w1.heap[g]? = some (.cells #[.slice a0 xs.length cap0] 57 (0, 0)) := by rw [(hb1.block g (by omega)), hv]
  obtain ⟨hc1, hfz1, hgl1⟩ := out_cell hgg
  clear hgl1
  obtain ⟨a1, cap1, rfl⟩ := hown1.form
  refine ⟨Or.inr ⟨⟨w1, Below.trans (b := w) ⟨rfl, rfl, rfl, Nat.le_refl _, fun _ _ => rfl⟩ hb1⟩, rfl⟩, ?_⟩
  refine seq_step rfl ?_
  go_wp2_with fail
  refine ⟨Or.inl (by kernel_rfl), ?_⟩
  refine seq_nil ?_
  go_wp2_with fail
  go_end0
  refine ⟨rfl, ?_, (hb1.mono (Nat.le_succ g)).setCell (p := ⟨g, 0, none⟩) (Nat.le_refl g) _⟩
  have := out_store hgg hown1
  simp only [List.length_append, List.length_cons, List.length_nil] at this
  exact this

set_option maxRecDepth 100000 in
set_option maxHeartbeats 2000000 in
theorem differ1_right (w : World) (g : Nat) (xs : List Change) (a : Row) (q : Value) (hq : PtrRow w g q (some a)) (h : OutAt 57 111 14 changeCs g w xs) (hl : xs.length ≤ 200000000) :
    Calls Tryz.prog 255 #[.pointer none, q, .pointer (some ⟨g, 0, none⟩)] w fun e w' => e = .returned (.tuple #[]) ∧ OutAt 57 111 14 changeCs g w' (xs ++ [⟨78, a⟩]) ∧ Below g w w' := by
  obtain ⟨bq, oq, rfl, hbgq, hrq⟩ := hq
  have hblq : bq < w.heap.size := by
    obtain ⟨v, hv, hown⟩ := h
    have := (out_cell hv).2.2
    omega
  obtain ⟨v, hv, hown⟩ := h
  obtain ⟨a0, cap0, rfl⟩ := hown.form
  obtain ⟨hc, hfz, hgl⟩ := out_cell hv
  go_enter Tryz.func255, Tryz.ntmps255
  go_wp2_with fail
  refine wp_region_seqN (g + 1) 5 (by decide) (by kernel_rfl) (by kernel_rfl) (fun d _ _ _ _ h => by cases d <;> exact h) ?_
  simp only [List.take_succ_cons, List.take_zero, List.drop_succ_cons, List.drop_zero]
  repeat (go_big_quiet_step (fail))
  refine wpQuiet_nil ?_
  refine seq_step rfl ?_
  go_wp2_with fail
  refine ⟨Or.inr ⟨⟨_, (Below.refl _ _).drew.alloc (by simp; omega) _⟩, rfl⟩, ?_⟩
  refine seq_step rfl ?_
  refine wpList_app1 (α := Change) rfl _ _ 57 rfl (g + 1) 111 changeCs Tryz.underlying57 Tryz.info111 rfl (by decide) changeCs_size changeCs_one _ xs rfl (OwnR.below hown (((Below.refl _ _).alloc (Nat.le_refl _) _).drew) (Nat.le_refl _)) _ rfl ⟨78, a⟩ (by first | exact (rng_alloc_at _ _ _ _ _ _ _ rfl).trans (by simp [go_sem]) | simp [go_sem]) (by omega) (by unfold maxLen; omega) (by simp; omega) ?_
  intro v1 w1 hown1 hsame hbel hat
  go_wp2_with fail
  clear hsame hat
  have hb1 : Below (g + 1) w w1 := (((Below.refl _ _).alloc (by omega) _).drew).trans hbel
  have hgg : w1.heap[g]? = some (.cells #[.slice a0 xs.length cap0] 57 (0, 0)) := by rw [(hb1.block g (by omega)), hv]
  obtain ⟨hc1, hfz1, hgl1⟩ := out_cell hgg
  clear hgl1
  obtain ⟨a1, cap1, rfl⟩ := hown1.form
  refine ⟨Or.inr ⟨⟨w1, Below.trans (b := w) ⟨rfl, rfl, rfl, Nat.le_refl _, fun _ _ => rfl⟩ hb1⟩, rfl⟩, ?_⟩
  refine seq_step rfl ?_
  go_wp2_with fail
  refine ⟨Or.inl (by kernel_rfl), ?_⟩
  refine seq_nil ?_
  go_wp2_with fail
  go_end0
  refine ⟨rfl, ?_, (hb1.mono (Nat.le_succ g)).setCell (p := ⟨g, 0, none⟩) (Nat.le_refl g) _⟩
  have := out_store hgg hown1
  simp only [List.length_append, List.length_cons, List.length_nil] at this
  exact this

set_option maxRecDepth 100000 in
set_option maxHeartbeats 2000000 in
theorem differ1_both (w : World) (g : Nat) (xs : List Change) (b : Row) (p : Value) (hp : PtrRow w g p (some b)) (a : Row) (q : Value) (hq : PtrRow w g q (some a)) (heq : a.eqB b = false) (h : OutAt 57 111 14 changeCs g w xs) (hl : xs.length ≤ 200000000) :
    Calls Tryz.prog 255 #[p, q, .pointer (some ⟨g, 0, none⟩)] w fun e w' => e = .returned (.tuple #[]) ∧ OutAt 57 111 14 changeCs g w' (xs ++ [⟨67, a⟩]) ∧ Below g w w' := by
  obtain ⟨bp, op, rfl, hbgp, hrp⟩ := hp
  have hblp : bp < w.heap.size := by
    obtain ⟨v, hv, hown⟩ := h
    have := (out_cell hv).2.2
    omega
  obtain ⟨bq, oq, rfl, hbgq, hrq⟩ := hq
  have hblq : bq < w.heap.size := by
    obtain ⟨v, hv, hown⟩ := h
    have := (out_cell hv).2.2
    omega
  obtain ⟨v, hv, hown⟩ := h
  obtain ⟨a0, cap0, rfl⟩ := hown.form
  obtain ⟨hc, hfz, hgl⟩ := out_cell hv
  go_enter Tryz.func255, Tryz.ntmps255
  go_wp2_with fail
  go_quiet (fail)
  go_wp2_with fail
  refine wp_region_seqN (g + 1) 5 (by decide) (by kernel_rfl) (by kernel_rfl) (fun d _ _ _ _ h => by cases d <;> exact h) ?_
  simp only [List.take_succ_cons, List.take_zero, List.drop_succ_cons, List.drop_zero]
  repeat (go_big_quiet_step (fail))
  refine wpQuiet_nil ?_
  refine seq_step rfl ?_
  go_wp2_with fail
  refine ⟨Or.inr ⟨⟨_, (Below.refl _ _).drew.alloc (by simp; omega) _⟩, rfl⟩, ?_⟩
  refine seq_step rfl ?_
  refine wpList_app1 (α := Change) rfl _ _ 57 rfl (g + 1) 111 changeCs Tryz.underlying57 Tryz.info111 rfl (by decide) changeCs_size changeCs_one _ xs rfl (OwnR.below hown ((below_drewN (Below.refl _ _) _).alloc (Nat.le_refl _) _) (Nat.le_refl _)) _ rfl ⟨67, a⟩ (by first | exact (rng_alloc_at _ _ _ _ _ _ _ rfl).trans (by simp [go_sem]) | simp [go_sem]) (by omega) (by unfold maxLen; omega) (by simp; omega) ?_
  intro v1 w1 hown1 hsame hbel hat
  go_wp2_with fail
  clear hsame hat
  have hb1 : Below (g + 1) w w1 := ((below_drewN (Below.refl _ _) _).alloc (by simp; omega) _).trans hbel
  have hgg : w1.heap[g]? = some (.cells #[.slice a0 xs.length cap0] 57 (0, 0)) := by rw [(hb1.block g (by omega)), hv]
  obtain ⟨hc1, hfz1, hgl1⟩ := out_cell hgg
  clear hgl1
  obtain ⟨a1, cap1, rfl⟩ := hown1.form
  refine ⟨Or.inr ⟨⟨w1, Below.trans (b := w) ⟨rfl, rfl, rfl, Nat.le_refl _, fun _ _ => rfl⟩ hb1⟩, rfl⟩, ?_⟩
  refine seq_step rfl ?_
  go_wp2_with fail
  refine ⟨Or.inl (by kernel_rfl), ?_⟩
  refine seq_nil ?_
  go_wp2_with fail
  go_end0
  refine ⟨rfl, ?_, (hb1.mono (Nat.le_succ g)).setCell (p := ⟨g, 0, none⟩) (Nat.le_refl g) _⟩
  have := out_store hgg hown1
  simp only [List.length_append, List.length_cons, List.length_nil] at this
  exact this

set_option maxRecDepth 100000 in
set_option maxHeartbeats 2000000 in
theorem differ1_same (w : World) (g : Nat) (xs : List Change) (b : Row) (p : Value) (hp : PtrRow w g p (some b)) (a : Row) (q : Value) (hq : PtrRow w g q (some a)) (heq : a.eqB b = true) (h : OutAt 57 111 14 changeCs g w xs)  :
    Calls Tryz.prog 255 #[p, q, .pointer (some ⟨g, 0, none⟩)] w fun e w' => e = .returned (.tuple #[]) ∧ OutAt 57 111 14 changeCs g w' (xs) ∧ Below g w w' := by
  obtain ⟨bp, op, rfl, hbgp, hrp⟩ := hp
  have hblp : bp < w.heap.size := by
    obtain ⟨v, hv, hown⟩ := h
    have := (out_cell hv).2.2
    omega
  obtain ⟨bq, oq, rfl, hbgq, hrq⟩ := hq
  have hblq : bq < w.heap.size := by
    obtain ⟨v, hv, hown⟩ := h
    have := (out_cell hv).2.2
    omega
  obtain ⟨v, hv, hown⟩ := h
  obtain ⟨a0, cap0, rfl⟩ := hown.form
  obtain ⟨hc, hfz, hgl⟩ := out_cell hv
  go_enter Tryz.func255, Tryz.ntmps255
  go_wp2_with fail
  go_quiet (fail)
  go_wp2
  go_end0
  exact ⟨rfl, ⟨_, hv, hown⟩, below_drewN (Below.refl _ _) _⟩

set_option maxRecDepth 100000 in
set_option maxHeartbeats 2000000 in
theorem reconcile1_left (w : World) (g : Nat) (xs : List Diff) (b : Row) (p : Value) (hp : PtrRow w g p (some b)) (h : OutAt 72 166 5 diffCs g w xs) (hl : xs.length ≤ 200000000) :
    Calls Tryz.prog 256 #[p, .pointer none, .pointer (some ⟨g, 0, none⟩)] w fun e w' => e = .returned (.tuple #[]) ∧ OutAt 72 166 5 diffCs g w' (xs ++ [⟨87, b.sample, b.analyte, b.version, 0⟩]) ∧ Below g w w' := by
  obtain ⟨bp, op, rfl, hbgp, hrp⟩ := hp
  have hblp : bp < w.heap.size := by
    obtain ⟨v, hv, hown⟩ := h
    have := (out_cell hv).2.2
    omega
  obtain ⟨hf0p, hf1p, hf2p⟩ := rng13 hrp
  obtain ⟨v, hv, hown⟩ := h
  obtain ⟨a0, cap0, rfl⟩ := hown.form
  obtain ⟨hc, hfz, hgl⟩ := out_cell hv
  go_enter Tryz.func256, Tryz.ntmps256
  go_wp2_with fail
  refine wp_region_seqN (g + 1) 14 (by decide) (by kernel_rfl) (by kernel_rfl) (fun d _ _ _ _ h => by cases d <;> exact h) ?_
  simp only [List.take_succ_cons, List.take_zero, List.drop_succ_cons, List.drop_zero]
  repeat (go_big_quiet_step (fail))
  refine wpQuiet_nil ?_
  refine seq_step rfl ?_
  go_wp2_with fail
  refine ⟨Or.inr ⟨⟨_, (Below.refl _ _).drew.alloc (by simp; omega) _⟩, rfl⟩, ?_⟩
  refine seq_step rfl ?_
  refine wpList_app1 (α := Diff) rfl _ _ 72 rfl (g + 1) 166 diffCs Tryz.underlying72 Tryz.info166 rfl (by decide) diffCs_size diffCs_one _ xs rfl (OwnR.below hown (((Below.refl _ _).alloc (Nat.le_refl _) _).drew) (Nat.le_refl _)) _ rfl ⟨87, b.sample, b.analyte, b.version, 0⟩ (by first | exact (rng_alloc_at _ _ _ _ _ _ _ rfl).trans (by simp [go_sem, diffCs]) | simp [go_sem, diffCs]) (by omega) (by unfold maxLen; omega) (by simp; omega) ?_
  intro v1 w1 hown1 hsame hbel hat
  go_wp2_with fail
  clear hsame hat
  have hb1 : Below (g + 1) w w1 := (((Below.refl _ _).alloc (by omega) _).drew).trans hbel
  have hgg : w1.heap[g]? = some (.cells #[.slice a0 xs.length cap0] 72 (0, 0)) := by rw [(hb1.block g (by omega)), hv]
  obtain ⟨hc1, hfz1, hgl1⟩ := out_cell hgg
  clear hgl1
  obtain ⟨a1, cap1, rfl⟩ := hown1.form
  refine ⟨Or.inr ⟨⟨w1, Below.trans (b := w) ⟨rfl, rfl, rfl, Nat.le_refl _, fun _ _ => rfl⟩ hb1⟩, rfl⟩, ?_⟩
  refine seq_step rfl ?_
  go_wp2_with fail
  refine ⟨Or.inl (by kernel_rfl), ?_⟩
  refine seq_nil ?_
  go_wp2_with fail
  go_end0
  refine ⟨rfl, ?_, (hb1.mono (Nat.le_succ g)).setCell (p := ⟨g, 0, none⟩) (Nat.le_refl g) _⟩
  have := out_store hgg hown1
  simp only [List.length_append, List.length_cons, List.length_nil] at this
  exact this

set_option maxRecDepth 100000 in
set_option maxHeartbeats 2000000 in
theorem reconcile1_right (w : World) (g : Nat) (xs : List Diff) (a : Row) (q : Value) (hq : PtrRow w g q (some a)) (h : OutAt 72 166 5 diffCs g w xs) (hl : xs.length ≤ 200000000) :
    Calls Tryz.prog 256 #[.pointer none, q, .pointer (some ⟨g, 0, none⟩)] w fun e w' => e = .returned (.tuple #[]) ∧ OutAt 72 166 5 diffCs g w' (xs ++ [⟨78, a.sample, a.analyte, 0, a.version⟩]) ∧ Below g w w' := by
  obtain ⟨bq, oq, rfl, hbgq, hrq⟩ := hq
  have hblq : bq < w.heap.size := by
    obtain ⟨v, hv, hown⟩ := h
    have := (out_cell hv).2.2
    omega
  obtain ⟨hf0q, hf1q, hf2q⟩ := rng13 hrq
  obtain ⟨v, hv, hown⟩ := h
  obtain ⟨a0, cap0, rfl⟩ := hown.form
  obtain ⟨hc, hfz, hgl⟩ := out_cell hv
  go_enter Tryz.func256, Tryz.ntmps256
  go_wp2_with fail
  refine wp_region_seqN (g + 1) 14 (by decide) (by kernel_rfl) (by kernel_rfl) (fun d _ _ _ _ h => by cases d <;> exact h) ?_
  simp only [List.take_succ_cons, List.take_zero, List.drop_succ_cons, List.drop_zero]
  repeat (go_big_quiet_step (fail))
  refine wpQuiet_nil ?_
  refine seq_step rfl ?_
  go_wp2_with fail
  refine ⟨Or.inr ⟨⟨_, (Below.refl _ _).drew.alloc (by simp; omega) _⟩, rfl⟩, ?_⟩
  refine seq_step rfl ?_
  refine wpList_app1 (α := Diff) rfl _ _ 72 rfl (g + 1) 166 diffCs Tryz.underlying72 Tryz.info166 rfl (by decide) diffCs_size diffCs_one _ xs rfl (OwnR.below hown (((Below.refl _ _).alloc (Nat.le_refl _) _).drew) (Nat.le_refl _)) _ rfl ⟨78, a.sample, a.analyte, 0, a.version⟩ (by first | exact (rng_alloc_at _ _ _ _ _ _ _ rfl).trans (by simp [go_sem, diffCs]) | simp [go_sem, diffCs]) (by omega) (by unfold maxLen; omega) (by simp; omega) ?_
  intro v1 w1 hown1 hsame hbel hat
  go_wp2_with fail
  clear hsame hat
  have hb1 : Below (g + 1) w w1 := (((Below.refl _ _).alloc (by omega) _).drew).trans hbel
  have hgg : w1.heap[g]? = some (.cells #[.slice a0 xs.length cap0] 72 (0, 0)) := by rw [(hb1.block g (by omega)), hv]
  obtain ⟨hc1, hfz1, hgl1⟩ := out_cell hgg
  clear hgl1
  obtain ⟨a1, cap1, rfl⟩ := hown1.form
  refine ⟨Or.inr ⟨⟨w1, Below.trans (b := w) ⟨rfl, rfl, rfl, Nat.le_refl _, fun _ _ => rfl⟩ hb1⟩, rfl⟩, ?_⟩
  refine seq_step rfl ?_
  go_wp2_with fail
  refine ⟨Or.inl (by kernel_rfl), ?_⟩
  refine seq_nil ?_
  go_wp2_with fail
  go_end0
  refine ⟨rfl, ?_, (hb1.mono (Nat.le_succ g)).setCell (p := ⟨g, 0, none⟩) (Nat.le_refl g) _⟩
  have := out_store hgg hown1
  simp only [List.length_append, List.length_cons, List.length_nil] at this
  exact this

set_option maxRecDepth 100000 in
set_option maxHeartbeats 2000000 in
theorem reconcile1_both (w : World) (g : Nat) (xs : List Diff) (b : Row) (p : Value) (hp : PtrRow w g p (some b)) (a : Row) (q : Value) (hq : PtrRow w g q (some a)) (heq : a.eqB b = false) (h : OutAt 72 166 5 diffCs g w xs) (hl : xs.length ≤ 200000000) :
    Calls Tryz.prog 256 #[p, q, .pointer (some ⟨g, 0, none⟩)] w fun e w' => e = .returned (.tuple #[]) ∧ OutAt 72 166 5 diffCs g w' (xs ++ [⟨67, a.sample, a.analyte, b.version, a.version⟩]) ∧ Below g w w' := by
  obtain ⟨bp, op, rfl, hbgp, hrp⟩ := hp
  have hblp : bp < w.heap.size := by
    obtain ⟨v, hv, hown⟩ := h
    have := (out_cell hv).2.2
    omega
  obtain ⟨hf0p, hf1p, hf2p⟩ := rng13 hrp
  obtain ⟨bq, oq, rfl, hbgq, hrq⟩ := hq
  have hblq : bq < w.heap.size := by
    obtain ⟨v, hv, hown⟩ := h
    have := (out_cell hv).2.2
    omega
  obtain ⟨hf0q, hf1q, hf2q⟩ := rng13 hrq
  obtain ⟨v, hv, hown⟩ := h
  obtain ⟨a0, cap0, rfl⟩ := hown.form
  obtain ⟨hc, hfz, hgl⟩ := out_cell hv
  go_enter Tryz.func256, Tryz.ntmps256
  go_wp2_with fail
  go_quiet (fail)
  go_wp2_with fail
  refine wp_region_seqN (g + 1) 18 (by decide) (by kernel_rfl) (by kernel_rfl) (fun d _ _ _ _ h => by cases d <;> exact h) ?_
  simp only [List.take_succ_cons, List.take_zero, List.drop_succ_cons, List.drop_zero]
  repeat (go_big_quiet_step (fail))
  refine wpQuiet_nil ?_
  refine seq_step rfl ?_
  go_wp2_with fail
  refine ⟨Or.inr ⟨⟨_, (Below.refl _ _).drew.alloc (by simp; omega) _⟩, rfl⟩, ?_⟩
  refine seq_step rfl ?_
  refine wpList_app1 (α := Diff) rfl _ _ 72 rfl (g + 1) 166 diffCs Tryz.underlying72 Tryz.info166 rfl (by decide) diffCs_size diffCs_one _ xs rfl (OwnR.below hown ((below_drewN (Below.refl _ _) _).alloc (Nat.le_refl _) _) (Nat.le_refl _)) _ rfl ⟨67, a.sample, a.analyte, b.version, a.version⟩ (by first | exact (rng_alloc_at _ _ _ _ _ _ _ rfl).trans (by simp [go_sem, diffCs]) | simp [go_sem, diffCs]) (by omega) (by unfold maxLen; omega) (by simp; omega) ?_
  intro v1 w1 hown1 hsame hbel hat
  go_wp2_with fail
  clear hsame hat
  have hb1 : Below (g + 1) w w1 := ((below_drewN (Below.refl _ _) _).alloc (by simp; omega) _).trans hbel
  have hgg : w1.heap[g]? = some (.cells #[.slice a0 xs.length cap0] 72 (0, 0)) := by rw [(hb1.block g (by omega)), hv]
  obtain ⟨hc1, hfz1, hgl1⟩ := out_cell hgg
  clear hgl1
  obtain ⟨a1, cap1, rfl⟩ := hown1.form
  refine ⟨Or.inr ⟨⟨w1, Below.trans (b := w) ⟨rfl, rfl, rfl, Nat.le_refl _, fun _ _ => rfl⟩ hb1⟩, rfl⟩, ?_⟩
  refine seq_step rfl ?_
  go_wp2_with fail
  refine ⟨Or.inl (by kernel_rfl), ?_⟩
  refine seq_nil ?_
  go_wp2_with fail
  go_end0
  refine ⟨rfl, ?_, (hb1.mono (Nat.le_succ g)).setCell (p := ⟨g, 0, none⟩) (Nat.le_refl g) _⟩
  have := out_store hgg hown1
  simp only [List.length_append, List.length_cons, List.length_nil] at this
  exact this

set_option maxRecDepth 100000 in
set_option maxHeartbeats 2000000 in
theorem reconcile1_same (w : World) (g : Nat) (xs : List Diff) (b : Row) (p : Value) (hp : PtrRow w g p (some b)) (a : Row) (q : Value) (hq : PtrRow w g q (some a)) (heq : a.eqB b = true) (h : OutAt 72 166 5 diffCs g w xs)  :
    Calls Tryz.prog 256 #[p, q, .pointer (some ⟨g, 0, none⟩)] w fun e w' => e = .returned (.tuple #[]) ∧ OutAt 72 166 5 diffCs g w' (xs) ∧ Below g w w' := by
  obtain ⟨bp, op, rfl, hbgp, hrp⟩ := hp
  have hblp : bp < w.heap.size := by
    obtain ⟨v, hv, hown⟩ := h
    have := (out_cell hv).2.2
    omega
  obtain ⟨hf0p, hf1p, hf2p⟩ := rng13 hrp
  obtain ⟨bq, oq, rfl, hbgq, hrq⟩ := hq
  have hblq : bq < w.heap.size := by
    obtain ⟨v, hv, hown⟩ := h
    have := (out_cell hv).2.2
    omega
  obtain ⟨hf0q, hf1q, hf2q⟩ := rng13 hrq
  obtain ⟨v, hv, hown⟩ := h
  obtain ⟨a0, cap0, rfl⟩ := hown.form
  obtain ⟨hc, hfz, hgl⟩ := out_cell hv
  go_enter Tryz.func256, Tryz.ntmps256
  go_wp2_with fail
  go_quiet (fail)
  go_wp2
  go_end0
  exact ⟨rfl, ⟨_, hv, hown⟩, below_drewN (Below.refl _ _) _⟩

theorem differ1_calls (w : World) (g : Nat) (xs : List Change) (x y : Option Row) (p q : Value) (hx : PtrRow w g p x) (hy : PtrRow w g q y) (hne : (x.isSome || y.isSome) = true) (h : OutAt 57 111 14 changeCs g w xs) (hl : xs.length ≤ 200000000) :
    Calls Tryz.prog 255 #[p, q, .pointer (some ⟨g, 0, none⟩)] w fun e w' => e = .returned (.tuple #[]) ∧ OutAt 57 111 14 changeCs g w' (xs ++ lineOf (x, y)) ∧ Below g w w' := by
  cases x with
  | none =>
    cases y with
    | none => simp at hne
    | some a => have hx' : p = .pointer none := hx; subst hx'; exact differ1_right w g xs a q hy h hl
  | some b =>
    cases y with
    | none => have hy' : q = .pointer none := hy; subst hy'; exact differ1_left w g xs b p hx h hl
    | some a =>
      cases he : a.eqB b with
      | true => simp only [lineOf, he, if_true, List.append_nil]; exact differ1_same w g xs b p hx a q hy he h
      | false => simp only [lineOf, he]; exact differ1_both w g xs b p hx a q hy he h hl

theorem reconcile1_calls (w : World) (g : Nat) (xs : List Diff) (x y : Option Row) (p q : Value) (hx : PtrRow w g p x) (hy : PtrRow w g q y) (hne : (x.isSome || y.isSome) = true) (h : OutAt 72 166 5 diffCs g w xs) (hl : xs.length ≤ 200000000) :
    Calls Tryz.prog 256 #[p, q, .pointer (some ⟨g, 0, none⟩)] w fun e w' => e = .returned (.tuple #[]) ∧ OutAt 72 166 5 diffCs g w' (xs ++ diffOf (x, y)) ∧ Below g w w' := by
  cases x with
  | none =>
    cases y with
    | none => simp at hne
    | some a => have hx' : p = .pointer none := hx; subst hx'; exact reconcile1_right w g xs a q hy h hl
  | some b =>
    cases y with
    | none => have hy' : q = .pointer none := hy; subst hy'; exact reconcile1_left w g xs b p hx h hl
    | some a =>
      cases he : a.eqB b with
      | true => simp only [diffOf, he, if_true, List.append_nil]; exact reconcile1_same w g xs b p hx a q hy he h
      | false => simp only [diffOf, he]; exact reconcile1_both w g xs b p hx a q hy he h hl

end Go.Proofs.Qxb6500666aGreatDoor
