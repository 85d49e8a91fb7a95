/- LedgerRefusesTamperedFiles: what each of the law's closures does to the file in hand. (Made by tools/mk_tamc.py.) -/
import Derived.Test.Qxb6500666aGreatDoorTamQ
import Derived.Test.Qxb6500666aGreatDoorMask
namespace Go.Proofs.Qxb6500666aGreatDoor
open Go.RowKit
attribute [local go_sem] ext_const Ext.cell Ext.frozen Ext.rng Ext.whole
theorem ga_drew {W W' : World} {B lo : Nat} {g : File} (h : (∃ v', GA W' B lo g v') ∧ Below B W W') : (∃ v', GA W'.drew B lo g v') ∧ Below B W W'.drew := by
  obtain ⟨⟨v', h1⟩, h2⟩ := h
  exact ⟨⟨v', h1.below (Below.refl _ _).drew⟩, h2.drew⟩
/-- The line in hand, for the walk. -/
theorem GA.line {W : World} {B lo : Nat} {f : File} {v : SV} (h : GA W B lo f v) {n : Nat} (hn : n < f.changes.length) (hl : f.changes.length ≤ 65536) : ∃ g cap, v = (some ⟨g, 0, none⟩, f.changes.length, cap) ∧ lo ≤ g ∧ g < W.heap.size ∧ f.changes.length ≤ cap ∧ rng W g (n * 14) 14 = some (changeCs f.changes[n]) ∧ (∀ q, W.frozen? ⟨g, q, none⟩ = false) := by
  obtain ⟨g, cap, e, h1, h2, h3⟩ := h.own.elem changeCs_size (by decide) (by omega) (by omega)
  obtain ⟨a, c', b', o', e', k1, k2, k3, k4, k5⟩ := h.own.rows changeCs_size (by decide) (by omega)
  obtain ⟨va, vn, vc⟩ := v
  have e0 := e
  injection e with q1 q2 q3
  dsimp only at q1 q2 q3
  subst q1 q2 q3
  injection e' with p1 p2 p3
  have ho := h.own
  obtain ⟨g', hg', -, -, -, hfr⟩ := ho.setOne changeCs_size n hn 0 (by decide) (.int .u8 f.changes[n].action) f.changes[n] rfl
  injection hg' with hg'
  injection hg' with hg'
  subst hg'
  exact ⟨g, _, rfl, h1, h2, by have := p3; dsimp only at this; omega, h3 n hn, hfr⟩
/-- A cell of a line written. -/
theorem GA.setL {W : World} {B lo : Nat} {f : File} {g cap : Nat} (h : GA W B lo f (some ⟨g, 0, none⟩, f.changes.length, cap)) {n : Nat} (hn : n < f.changes.length) (j : Nat) (hj : j < 14) (u : Value) (c' : Change) (hc : changeCs c' = (changeCs f.changes[n]).setIfInBounds j u) : (∃ v', GA (W.setCell ⟨g, n * 14 + j, none⟩ u) B lo (chAt f n c') v') ∧ Below B W (W.setCell ⟨g, n * 14 + j, none⟩ u) := by
  obtain ⟨g', hg, hown, hlo, hlt, -⟩ := OwnR.setOne (a := some ⟨g, 0, none⟩) (n := f.changes.length) (cap := cap) h.own changeCs_size n hn j hj u c' hc
  injection hg with hg
  injection hg with hg
  subst hg
  have hB := h.lt
  exact ⟨⟨_, ⟨(Below.heap_setCell _ _ _ _ (by show B ≠ g; omega)).trans h.top, hown, hB⟩⟩, (Below.refl _ _).setCell (p := ⟨g, n * 14 + j, none⟩) (by show B ≤ g; omega) _⟩

theorem chg60 (W0 : World) (f : File) (hs : 0 ≤ f.seq ∧ f.seq ≤ 1000000000) : CIn W0 60 #[] f (seqF f) := by
  intro W B lo v hb hB h
  obtain ⟨c0, c1, c2, c3, c4, hfr, hlt⟩ := h.five
  have HG := hide (fun x (q : (fileCs f.kind f.seq f.issued f.base v.1 v.2.1 v.2.2).setIfInBounds 1 x = fileCs f.kind (f.seq + 1) f.issued f.base v.1 v.2.1 v.2.2) => h.set (g := seqF f) q rfl)
  clear hb h
  go_enter Tryz.func60, Tryz.ntmps60
  go_wp2
  go_end0
  exact ⟨rfl, HG.out _ rfl⟩

set_option maxRecDepth 100000 in
theorem chg61 (W0 : World) (f : File) (hs : 0 < f.seq ∧ f.seq ≤ 1000000000) (hb2 : 0 ≤ f.base ∧ f.base < f.seq) : CIn W0 61 #[] f (baseF f) := by
  intro W B lo v hb h0 h
  obtain ⟨c0, c1, c2, c3, c4, hfr, hlt⟩ := h.five
  have HG := hide (fun x (q : (fileCs f.kind f.seq f.issued f.base v.1 v.2.1 v.2.2).setIfInBounds 3 x = fileCs f.kind f.seq f.issued ((f.base + 1) % f.seq) v.1 v.2.1 v.2.2) => ga_drew (h.set (g := baseF f) q rfl))
  have hne : ¬ f.seq = 0 := by omega
  clear hb h
  go_enter Tryz.func61, Tryz.ntmps61
  go_upto_region 0 with fail
  refine wp_region_mixT (W.heap.size) [4, 9] (by kernel_rfl) ?_
  refine mixT_slots [0, 1, 2, 3, 6, 7, 8] (fuel := 7) rfl (by kernel_rfl) (by kernel_rfl) (fun d _ _ _ _ h => by cases d <;> exact h) ?_
  simp only [opersAt, List.getElem?_toArray, List.getElem?_cons_zero, List.getElem?_cons_succ]
  repeat (go_big_quiet_step (fail))
  refine wpQuiet_nil ?_
  refine mixT_reads [4, 9] (fuel := 5) rfl (by kernel_rfl) (by decide) (by kernel_rfl) (fun d _ _ _ _ h => by cases d <;> exact h) (ext_drew _ _) ?_
  simp only [opersAt, List.getElem?_toArray, List.getElem?_cons_zero, List.getElem?_cons_succ]
  repeat (go_big_quiet_step (fail))
  refine wpQuiet_nil ?_
  refine mixT_slots [5, 10, 11, 12] (fuel := 1) rfl (by kernel_rfl) (by kernel_rfl) (fun d _ _ _ _ h => by cases d <;> exact h) ?_
  simp only [opersAt, List.getElem?_toArray, List.getElem?_cons_zero, List.getElem?_cons_succ]
  repeat (go_big_quiet_step (fail))
  refine wpQuiet_nil ?_
  refine mixT_one (k := 13) (by kernel_rfl) rfl ?_
  go_wp2
  refine ⟨Or.inl (by kernel_rfl), ?_⟩
  refine mixT_nil (by kernel_rfl) ?_
  go_wp2
  go_end0
  exact ⟨rfl, HG.out _ rfl⟩

theorem chg62 (W0 : World) (f : File) (T : Nat) (l : Int) (hT : W0.heap[T]? = some (.cells #[.int .i64 l] 2 (0, 0))) (hl : 0 ≤ l ∧ l ≤ 1000000000) : CIn W0 62 #[.pointer (some ⟨T, 0, none⟩)] f (issF f l) := by
  intro W B lo v hb hB h
  obtain ⟨c0, c1, c2, c3, c4, hfr, hlt⟩ := h.five
  have t0 : W.cell? ⟨T, 0, none⟩ = some (.int .i64 l) := cells_all ((hb.block _ (blk_lt hT)).trans hT) 0
  have HG := hide (fun x (q : (fileCs f.kind f.seq f.issued f.base v.1 v.2.1 v.2.2).setIfInBounds 2 x = fileCs f.kind f.seq (l - 1) f.base v.1 v.2.1 v.2.2) => h.set (g := issF f l) q rfl)
  clear hb h hT
  show Calls _ _ #[.pointer (some ⟨B, 0, none⟩), .pointer (some ⟨T, 0, none⟩)] _ _
  go_enter Tryz.func62, Tryz.ntmps62
  go_wp2
  go_end0
  exact ⟨rfl, HG.out _ rfl⟩

set_option maxRecDepth 100000 in
theorem chg63 (W0 : World) (f : File) (T n : Nat) (hT : W0.heap[T]? = some (.cells #[.int .i64 n] 3 (0, 0))) (hn : n < f.changes.length) (hl : f.changes.length ≤ 65536) : CIn W0 63 #[.pointer (some ⟨T, 0, none⟩)] f (chAt f n (valC f.changes[n])) := by
  intro W B lo v hb hB h
  obtain ⟨g, cap, rfl, hg1, hg2, hcap, hr, hfr⟩ := h.line hn hl
  obtain ⟨-, -, -, -, c4, -, hlt⟩ := h.five
  have t0 : W.cell? ⟨T, 0, none⟩ = some (.int .i64 n) := cells_all ((hb.block _ (blk_lt hT)).trans hT) 0
  have htl : T < W.heap.size := Nat.lt_of_lt_of_le (blk_lt hT) hb.size
  have HG := hide (ga_drew (h.setL hn 4 (by decide) (.int .i64 (bits .xor .i64 f.changes[n].row.value 1)) (valC f.changes[n]) rfl))
  have d4 := (rng_cell hr).2 4 (by decide)
  simp only [changeCs, List.getElem?_toArray, List.getElem?_cons_zero, List.getElem?_cons_succ] at d4
  have hi := run_indexAt_arr (P := Tryz.prog) (n := f.changes.length) (cap := cap) (a := some ⟨g, 0, none⟩) (b := g) (off := 0) Tryz.underlying57 Tryz.size111 (fun _ => rfl)
  have hi := fun W => hi W (n : Int) (by omega) (by omega)
  rw [show ((n : Int)).toNat = n by omega] at hi
  simp only [Nat.zero_add] at hi
  dsimp only at c4
  clear hb h hT hr
  generalize f.changes[n].row.value = x at *
  show Calls _ _ #[.pointer (some ⟨B, 0, none⟩), .pointer (some ⟨T, 0, none⟩)] _ _
  go_enter Tryz.func63, Tryz.ntmps63
  go_upto_region 0 with fail
  refine wp_region_mixT (W.heap.size) [3, 4, 8] (by kernel_rfl) ?_
  refine mixT_slots [0, 1, 2] (fuel := 11) rfl (by kernel_rfl) (by kernel_rfl) (fun d _ _ _ _ h => by cases d <;> exact h) ?_
  simp only [opersAt, List.getElem?_toArray, List.getElem?_cons_zero, List.getElem?_cons_succ]
  repeat (go_big_quiet_step (fail))
  refine wpQuiet_nil ?_
  refine mixT_reads [3, 4] (fuel := 9) rfl (by kernel_rfl) (by decide) (by kernel_rfl) (fun d _ _ _ _ h => by cases d <;> exact h) (ext_drew _ _) ?_
  simp only [opersAt, List.getElem?_toArray, List.getElem?_cons_zero, List.getElem?_cons_succ]
  repeat (go_big_quiet_step (fail))
  refine wpQuiet_nil ?_
  refine mixT_slots [5, 6, 7] (fuel := 6) rfl (by kernel_rfl) (by kernel_rfl) (fun d _ _ _ _ h => by cases d <;> exact h) ?_
  simp only [opersAt, List.getElem?_toArray, List.getElem?_cons_zero, List.getElem?_cons_succ]
  repeat (go_big_quiet_step (fail))
  refine wpQuiet_nil ?_
  refine mixT_reads [8] (fuel := 5) rfl (by kernel_rfl) (by decide) (by kernel_rfl) (fun d _ _ _ _ h => by cases d <;> exact h) (ext_drew _ _) ?_
  simp only [opersAt, List.getElem?_toArray, List.getElem?_cons_zero, List.getElem?_cons_succ]
  repeat (go_big_quiet_step (fail))
  refine wpQuiet_nil ?_
  refine mixT_slots [9, 10, 11, 12] (fuel := 1) rfl (by kernel_rfl) (by kernel_rfl) (fun d _ _ _ _ h => by cases d <;> exact h) ?_
  simp only [opersAt, List.getElem?_toArray, List.getElem?_cons_zero, List.getElem?_cons_succ]
  repeat (go_big_quiet_step (fail))
  refine wpQuiet_nil ?_
  refine mixT_one (k := 13) (by kernel_rfl) rfl ?_
  go_wp2
  refine ⟨Or.inl (by kernel_rfl), ?_⟩
  refine mixT_nil (by kernel_rfl) ?_
  go_wp2
  go_end0
  exact ⟨rfl, HG.out⟩

set_option maxRecDepth 100000 in
theorem chg64 (W0 : World) (f : File) (T n : Nat) (hT : W0.heap[T]? = some (.cells #[.int .i64 n] 3 (0, 0))) (hn : n < f.changes.length) (hl : f.changes.length ≤ 65536) : CIn W0 64 #[.pointer (some ⟨T, 0, none⟩)] f (dropAt f n) := by
  intro W B lo v hb hB h
  obtain ⟨g, cap, rfl, hg1, hg2, hcap, hr, hfr⟩ := h.line hn hl
  obtain ⟨-, -, -, -, c4, hfB, hlt⟩ := h.five
  have t0 : W.cell? ⟨T, 0, none⟩ = some (.int .i64 n) := cells_all ((hb.block _ (blk_lt hT)).trans hT) 0
  have htl : T < W.heap.size := Nat.lt_of_lt_of_le (blk_lt hT) hb.size
  obtain ⟨N, hN⟩ : ∃ N, N = f.changes.length := ⟨_, rfl⟩
  have HN := hide hN
  have hsl1 := fun W => run_slToI (P := Tryz.prog) Tryz.underlying57 Tryz.size111 (b := g) (off := 0) (n := N) (cap := cap) (by omega) n (by omega) W
  obtain ⟨ao, hsl2, hao, hanil⟩ := run_slFrom (P := Tryz.prog) Tryz.underlying57 Tryz.size111 (a := some ⟨g, 0, none⟩) (b := g) (off := 0) (n := N) (cap := cap) (fun _ => rfl) (by omega) (fun e => by cases e) (n + 1) (by omega)
  unfold slFrom at hsl2
  have hn1 : ((n + 1 : Nat) : Int) = (n : Int) + 1 := by omega
  rw [hn1] at hsl2
  have HAO := hide hao
  have HAN := hide hanil
  have HO1 := hide (OwnR.takeLe (a := some ⟨g, 0, none⟩) (n := f.changes.length) (cap := cap) h.own changeCs_size n (by omega))
  have HEL : Hid (∀ i (hi : i < f.changes.length), rng W g (i * 14) 14 = some (changeCs f.changes[i])) := fun i hi => by
    obtain ⟨g', cap', e, -, -, -, k, -⟩ := h.line hi hl
    injection e with e
    injection e with e
    injection e with e
    subst e
    exact k
  have HGA := hide h
  dsimp only at c4
  rw [← hN] at c4 hl hn
  clear hb h hT hr hao hanil hN hn1
  show Calls _ _ #[.pointer (some ⟨B, 0, none⟩), .pointer (some ⟨T, 0, none⟩)] _ _
  go_enter Tryz.func64, Tryz.ntmps64
  go_upto_region 0 with fail
  refine wp_region_mixT (W.heap.size) [4, 5, 10, 11] (by kernel_rfl) ?_
  refine mixT_slots [0, 1, 2, 3, 7, 8, 9] (fuel := 11) rfl (by kernel_rfl) (by kernel_rfl) (fun d _ _ _ _ h => by cases d <;> exact h) ?_
  simp only [opersAt, List.getElem?_toArray, List.getElem?_cons_zero, List.getElem?_cons_succ]
  repeat (go_big_quiet_step (fail))
  refine wpQuiet_nil ?_
  refine mixT_reads [4, 5, 10, 11] (fuel := 7) rfl (by kernel_rfl) (by decide) (by kernel_rfl) (fun d _ _ _ _ h => by cases d <;> exact h) (ext_drew _ _) ?_
  simp only [opersAt, List.getElem?_toArray, List.getElem?_cons_zero, List.getElem?_cons_succ]
  repeat (go_big_quiet_step (fail))
  refine wpQuiet_nil ?_
  refine mixT_slots [6, 12, 13] (fuel := 4) rfl (by kernel_rfl) (by kernel_rfl) (fun d _ _ _ _ h => by cases d <;> exact h) ?_
  simp only [opersAt, List.getElem?_toArray, List.getElem?_cons_zero, List.getElem?_cons_succ]
  repeat (go_big_quiet_step (fail))
  refine wpQuiet_nil ?_
  refine mixT_one (k := 14) (by kernel_rfl) rfl ?_
  refine wpList_appN (α := Change) rfl _ _ 57 rfl lo 111 changeCs Tryz.underlying57 Tryz.info111 rfl (by decide) changeCs_size changeCs_one _ (f.changes.take n) rfl (HO1.out.below (Below.refl _ _).drew (Nat.le_refl _)) ao (N - (n + 1)) (cap - (n + 1)) rfl (f.changes.drop (n + 1)) (by rw [List.length_drop, ← HN.out]) HAN.out (fun hp => ⟨g, 0 + (n + 1) * 14, HAO.out (by omega), fun i hi => ?_⟩) (by rw [List.length_take]; omega) (by rw [List.length_take]; unfold maxLen; omega) (by show lo ≤ W.heap.size; omega) ?_
  · rw [List.length_drop] at hi
    rw [List.getElem_drop, show 0 + (n + 1) * 14 + i * 14 = (n + 1 + i) * 14 by omega]
    exact HEL.out (n + 1 + i) (by omega)
  intro v2 w2 hown2 hsame2 hbel2 hat2
  refine ⟨Or.inl (by kernel_rfl), ?_⟩
  have hBlo := HGA.out.lt
  have htop2 : w2.heap[B]? = some (.cells (fileCs f.kind f.seq f.issued f.base (some ⟨g, 0, none⟩) N cap) 59 (0, 0)) := by
    refine (hsame2 B ⟨hlt, fun e => ?_⟩).trans (by rw [HN.out]; exact HGA.out.top)
    have e : g = B := Option.some.inj e
    omega
  have hlen2 : (f.changes.take n ++ f.changes.drop (n + 1)).length = N - 1 := by rw [List.length_append, List.length_take, List.length_drop, ← HN.out]; omega
  obtain ⟨a2, cap2, hv2⟩ := hown2.form
  rw [hlen2] at hv2
  subst hv2
  have hc2 := cells_all htop2 4
  have hf2 : w2.frozen? ⟨B, 4, none⟩ = false := by simp [World.frozen?, htop2]
  have hl2 : B < w2.heap.size := blk_lt htop2
  have HG : Hid ((∃ v', GA (w2.setCell ⟨B, 4, none⟩ (.slice a2 (N - 1) cap2)) B lo (dropAt f n) v') ∧ Below B W (w2.setCell ⟨B, 4, none⟩ (.slice a2 (N - 1) cap2))) := by
    refine ⟨⟨(a2, N - 1, cap2), ⟨by rw [heap_set3 htop2]; rfl, ?_, hBlo⟩⟩, (((Below.refl B W).drew.trans (hbel2.mono (by omega))).setCell (p := ⟨B, 4, none⟩) (Nat.le_refl _) _)⟩
    have e : (dropAt f n).changes = f.changes.take n ++ f.changes.drop (n + 1) := List.eraseIdx_eq_take_drop_succ ..
    rw [e]
    exact hown2.mono (fun b hb => Below.heap_setCell _ _ _ _ (by have := (hown2.block b hb).1; show b ≠ B; omega))
  clear hown2 hsame2 hbel2 hat2 htop2 HO1 HGA HEL
  refine mixT_one (k := 15) (by kernel_rfl) rfl ?_
  go_wp2
  refine ⟨Or.inl (by kernel_rfl), ?_⟩
  refine mixT_one (k := 16) (by kernel_rfl) rfl ?_
  go_wp2
  refine ⟨Or.inl (by kernel_rfl), ?_⟩
  refine mixT_one (k := 17) (by kernel_rfl) rfl ?_
  go_wp2
  first
    | refine ⟨Or.inl (by kernel_rfl), ?_⟩
    | skip
  refine mixT_nil (by kernel_rfl) ?_
  go_wp2
  go_end0
  exact ⟨rfl, HG.out⟩

set_option maxRecDepth 100000 in
theorem chg65 (W0 : World) (f : File) (T n : Nat) (hT : W0.heap[T]? = some (.cells #[.int .i64 n] 3 (0, 0))) (hn : n < f.changes.length) (hl : f.changes.length ≤ 65536) : CIn W0 65 #[.pointer (some ⟨T, 0, none⟩)] f (chAt f n (valC f.changes[n])) := by
  intro W B lo v hb hB h
  obtain ⟨g, cap, rfl, hg1, hg2, hcap, hr, hfr⟩ := h.line hn hl
  obtain ⟨-, -, -, -, c4, -, hlt⟩ := h.five
  have t0 : W.cell? ⟨T, 0, none⟩ = some (.int .i64 n) := cells_all ((hb.block _ (blk_lt hT)).trans hT) 0
  have htl : T < W.heap.size := Nat.lt_of_lt_of_le (blk_lt hT) hb.size
  have HG := hide (ga_drew (h.setL hn 4 (by decide) (.int .i64 (bits .xor .i64 f.changes[n].row.value 1)) (valC f.changes[n]) rfl))
  have d4 := (rng_cell hr).2 4 (by decide)
  simp only [changeCs, List.getElem?_toArray, List.getElem?_cons_zero, List.getElem?_cons_succ] at d4
  have hi := run_indexAt_arr (P := Tryz.prog) (n := f.changes.length) (cap := cap) (a := some ⟨g, 0, none⟩) (b := g) (off := 0) Tryz.underlying57 Tryz.size111 (fun _ => rfl)
  have hi := fun W => hi W (n : Int) (by omega) (by omega)
  rw [show ((n : Int)).toNat = n by omega] at hi
  simp only [Nat.zero_add] at hi
  dsimp only at c4
  clear hb h hT hr
  generalize f.changes[n].row.value = x at *
  show Calls _ _ #[.pointer (some ⟨B, 0, none⟩), .pointer (some ⟨T, 0, none⟩)] _ _
  go_enter Tryz.func65, Tryz.ntmps65
  go_upto_region 0 with fail
  refine wp_region_mixT (W.heap.size) [3, 4, 8] (by kernel_rfl) ?_
  refine mixT_slots [0, 1, 2] (fuel := 11) rfl (by kernel_rfl) (by kernel_rfl) (fun d _ _ _ _ h => by cases d <;> exact h) ?_
  simp only [opersAt, List.getElem?_toArray, List.getElem?_cons_zero, List.getElem?_cons_succ]
  repeat (go_big_quiet_step (fail))
  refine wpQuiet_nil ?_
  refine mixT_reads [3, 4] (fuel := 9) rfl (by kernel_rfl) (by decide) (by kernel_rfl) (fun d _ _ _ _ h => by cases d <;> exact h) (ext_drew _ _) ?_
  simp only [opersAt, List.getElem?_toArray, List.getElem?_cons_zero, List.getElem?_cons_succ]
  repeat (go_big_quiet_step (fail))
  refine wpQuiet_nil ?_
  refine mixT_slots [5, 6, 7] (fuel := 6) rfl (by kernel_rfl) (by kernel_rfl) (fun d _ _ _ _ h => by cases d <;> exact h) ?_
  simp only [opersAt, List.getElem?_toArray, List.getElem?_cons_zero, List.getElem?_cons_succ]
  repeat (go_big_quiet_step (fail))
  refine wpQuiet_nil ?_
  refine mixT_reads [8] (fuel := 5) rfl (by kernel_rfl) (by decide) (by kernel_rfl) (fun d _ _ _ _ h => by cases d <;> exact h) (ext_drew _ _) ?_
  simp only [opersAt, List.getElem?_toArray, List.getElem?_cons_zero, List.getElem?_cons_succ]
  repeat (go_big_quiet_step (fail))
  refine wpQuiet_nil ?_
  refine mixT_slots [9, 10, 11, 12] (fuel := 1) rfl (by kernel_rfl) (by kernel_rfl) (fun d _ _ _ _ h => by cases d <;> exact h) ?_
  simp only [opersAt, List.getElem?_toArray, List.getElem?_cons_zero, List.getElem?_cons_succ]
  repeat (go_big_quiet_step (fail))
  refine wpQuiet_nil ?_
  refine mixT_one (k := 13) (by kernel_rfl) rfl ?_
  go_wp2
  refine ⟨Or.inl (by kernel_rfl), ?_⟩
  refine mixT_nil (by kernel_rfl) ?_
  go_wp2
  go_end0
  exact ⟨rfl, HG.out⟩

set_option maxRecDepth 100000 in
theorem chg66 (W0 : World) (f : File) (T n : Nat) (hT : W0.heap[T]? = some (.cells #[.int .i64 n] 3 (0, 0))) (hn : n < f.changes.length) (hl : f.changes.length ≤ 65536) : CIn W0 66 #[.pointer (some ⟨T, 0, none⟩)] f (chAt f n (actC f.changes[n] 78)) := by
  intro W B lo v hb hB h
  obtain ⟨g, cap, rfl, hg1, hg2, hcap, hr, hfr⟩ := h.line hn hl
  obtain ⟨-, -, -, -, c4, -, hlt⟩ := h.five
  have t0 : W.cell? ⟨T, 0, none⟩ = some (.int .i64 n) := cells_all ((hb.block _ (blk_lt hT)).trans hT) 0
  have htl : T < W.heap.size := Nat.lt_of_lt_of_le (blk_lt hT) hb.size
  have HG := hide (ga_drew (h.setL hn 0 (by decide) (.int .u8 78) (actC f.changes[n] 78) rfl))
  have d4 := (rng_cell hr).2 0 (by decide)
  simp only [changeCs, List.getElem?_toArray, List.getElem?_cons_zero] at d4
  rw [Nat.add_zero] at d4 HG
  have hi := run_indexAt_arr (P := Tryz.prog) (n := f.changes.length) (cap := cap) (a := some ⟨g, 0, none⟩) (b := g) (off := 0) Tryz.underlying57 Tryz.size111 (fun _ => rfl)
  have hi := fun W => hi W (n : Int) (by omega) (by omega)
  rw [show ((n : Int)).toNat = n by omega] at hi
  simp only [Nat.zero_add] at hi
  dsimp only at c4
  clear hb h hT hr
  show Calls _ _ #[.pointer (some ⟨B, 0, none⟩), .pointer (some ⟨T, 0, none⟩)] _ _
  go_enter Tryz.func66, Tryz.ntmps66
  go_upto_region 0 with fail
  refine wp_region_mixT (W.heap.size) [3, 4] (by kernel_rfl) ?_
  refine mixT_slots [0, 1, 2] (fuel := 5) rfl (by kernel_rfl) (by kernel_rfl) (fun d _ _ _ _ h => by cases d <;> exact h) ?_
  simp only [opersAt, List.getElem?_toArray, List.getElem?_cons_zero, List.getElem?_cons_succ]
  repeat (go_big_quiet_step (fail))
  refine wpQuiet_nil ?_
  refine mixT_reads [3, 4] (fuel := 3) rfl (by kernel_rfl) (by decide) (by kernel_rfl) (fun d _ _ _ _ h => by cases d <;> exact h) (ext_drew _ _) ?_
  simp only [opersAt, List.getElem?_toArray, List.getElem?_cons_zero, List.getElem?_cons_succ]
  repeat (go_big_quiet_step (fail))
  refine wpQuiet_nil ?_
  refine mixT_slots [5, 6] (fuel := 1) rfl (by kernel_rfl) (by kernel_rfl) (fun d _ _ _ _ h => by cases d <;> exact h) ?_
  simp only [opersAt, List.getElem?_toArray, List.getElem?_cons_zero, List.getElem?_cons_succ]
  repeat (go_big_quiet_step (fail))
  refine wpQuiet_nil ?_
  refine mixT_one (k := 7) (by kernel_rfl) rfl ?_
  go_wp2
  refine ⟨Or.inl (by kernel_rfl), ?_⟩
  refine mixT_nil (by kernel_rfl) ?_
  go_wp2
  go_end0
  exact ⟨rfl, HG.out⟩

set_option maxRecDepth 100000 in
theorem chg67 (W0 : World) (f : File) (T n : Nat) (hT : W0.heap[T]? = some (.cells #[.int .i64 n] 3 (0, 0))) (hn : n < f.changes.length) (hl : f.changes.length ≤ 65536) : CIn W0 67 #[.pointer (some ⟨T, 0, none⟩)] f (chAt f n (actC f.changes[n] 67)) := by
  intro W B lo v hb hB h
  obtain ⟨g, cap, rfl, hg1, hg2, hcap, hr, hfr⟩ := h.line hn hl
  obtain ⟨-, -, -, -, c4, -, hlt⟩ := h.five
  have t0 : W.cell? ⟨T, 0, none⟩ = some (.int .i64 n) := cells_all ((hb.block _ (blk_lt hT)).trans hT) 0
  have htl : T < W.heap.size := Nat.lt_of_lt_of_le (blk_lt hT) hb.size
  have HG := hide (ga_drew (h.setL hn 0 (by decide) (.int .u8 67) (actC f.changes[n] 67) rfl))
  have d4 := (rng_cell hr).2 0 (by decide)
  simp only [changeCs, List.getElem?_toArray, List.getElem?_cons_zero] at d4
  rw [Nat.add_zero] at d4 HG
  have hi := run_indexAt_arr (P := Tryz.prog) (n := f.changes.length) (cap := cap) (a := some ⟨g, 0, none⟩) (b := g) (off := 0) Tryz.underlying57 Tryz.size111 (fun _ => rfl)
  have hi := fun W => hi W (n : Int) (by omega) (by omega)
  rw [show ((n : Int)).toNat = n by omega] at hi
  simp only [Nat.zero_add] at hi
  dsimp only at c4
  clear hb h hT hr
  show Calls _ _ #[.pointer (some ⟨B, 0, none⟩), .pointer (some ⟨T, 0, none⟩)] _ _
  go_enter Tryz.func67, Tryz.ntmps67
  go_upto_region 0 with fail
  refine wp_region_mixT (W.heap.size) [3, 4] (by kernel_rfl) ?_
  refine mixT_slots [0, 1, 2] (fuel := 5) rfl (by kernel_rfl) (by kernel_rfl) (fun d _ _ _ _ h => by cases d <;> exact h) ?_
  simp only [opersAt, List.getElem?_toArray, List.getElem?_cons_zero, List.getElem?_cons_succ]
  repeat (go_big_quiet_step (fail))
  refine wpQuiet_nil ?_
  refine mixT_reads [3, 4] (fuel := 3) rfl (by kernel_rfl) (by decide) (by kernel_rfl) (fun d _ _ _ _ h => by cases d <;> exact h) (ext_drew _ _) ?_
  simp only [opersAt, List.getElem?_toArray, List.getElem?_cons_zero, List.getElem?_cons_succ]
  repeat (go_big_quiet_step (fail))
  refine wpQuiet_nil ?_
  refine mixT_slots [5, 6] (fuel := 1) rfl (by kernel_rfl) (by kernel_rfl) (fun d _ _ _ _ h => by cases d <;> exact h) ?_
  simp only [opersAt, List.getElem?_toArray, List.getElem?_cons_zero, List.getElem?_cons_succ]
  repeat (go_big_quiet_step (fail))
  refine wpQuiet_nil ?_
  refine mixT_one (k := 7) (by kernel_rfl) rfl ?_
  go_wp2
  refine ⟨Or.inl (by kernel_rfl), ?_⟩
  refine mixT_nil (by kernel_rfl) ?_
  go_wp2
  go_end0
  exact ⟨rfl, HG.out⟩

set_option maxRecDepth 100000 in
theorem chg68 (W0 : World) (f : File) (T n : Nat) (hT : W0.heap[T]? = some (.cells #[.int .i64 n] 3 (0, 0))) (hn : n < f.changes.length) (hl : f.changes.length ≤ 65536) : CIn W0 68 #[.pointer (some ⟨T, 0, none⟩)] f (chAt f n (actC f.changes[n] 87)) := by
  intro W B lo v hb hB h
  obtain ⟨g, cap, rfl, hg1, hg2, hcap, hr, hfr⟩ := h.line hn hl
  obtain ⟨-, -, -, -, c4, -, hlt⟩ := h.five
  have t0 : W.cell? ⟨T, 0, none⟩ = some (.int .i64 n) := cells_all ((hb.block _ (blk_lt hT)).trans hT) 0
  have htl : T < W.heap.size := Nat.lt_of_lt_of_le (blk_lt hT) hb.size
  have HG := hide (ga_drew (h.setL hn 0 (by decide) (.int .u8 87) (actC f.changes[n] 87) rfl))
  have d4 := (rng_cell hr).2 0 (by decide)
  simp only [changeCs, List.getElem?_toArray, List.getElem?_cons_zero] at d4
  rw [Nat.add_zero] at d4 HG
  have hi := run_indexAt_arr (P := Tryz.prog) (n := f.changes.length) (cap := cap) (a := some ⟨g, 0, none⟩) (b := g) (off := 0) Tryz.underlying57 Tryz.size111 (fun _ => rfl)
  have hi := fun W => hi W (n : Int) (by omega) (by omega)
  rw [show ((n : Int)).toNat = n by omega] at hi
  simp only [Nat.zero_add] at hi
  dsimp only at c4
  clear hb h hT hr
  show Calls _ _ #[.pointer (some ⟨B, 0, none⟩), .pointer (some ⟨T, 0, none⟩)] _ _
  go_enter Tryz.func68, Tryz.ntmps68
  go_upto_region 0 with fail
  refine wp_region_mixT (W.heap.size) [3, 4] (by kernel_rfl) ?_
  refine mixT_slots [0, 1, 2] (fuel := 5) rfl (by kernel_rfl) (by kernel_rfl) (fun d _ _ _ _ h => by cases d <;> exact h) ?_
  simp only [opersAt, List.getElem?_toArray, List.getElem?_cons_zero, List.getElem?_cons_succ]
  repeat (go_big_quiet_step (fail))
  refine wpQuiet_nil ?_
  refine mixT_reads [3, 4] (fuel := 3) rfl (by kernel_rfl) (by decide) (by kernel_rfl) (fun d _ _ _ _ h => by cases d <;> exact h) (ext_drew _ _) ?_
  simp only [opersAt, List.getElem?_toArray, List.getElem?_cons_zero, List.getElem?_cons_succ]
  repeat (go_big_quiet_step (fail))
  refine wpQuiet_nil ?_
  refine mixT_slots [5, 6] (fuel := 1) rfl (by kernel_rfl) (by kernel_rfl) (fun d _ _ _ _ h => by cases d <;> exact h) ?_
  simp only [opersAt, List.getElem?_toArray, List.getElem?_cons_zero, List.getElem?_cons_succ]
  repeat (go_big_quiet_step (fail))
  refine wpQuiet_nil ?_
  refine mixT_one (k := 7) (by kernel_rfl) rfl ?_
  go_wp2
  refine ⟨Or.inl (by kernel_rfl), ?_⟩
  refine mixT_nil (by kernel_rfl) ?_
  go_wp2
  go_end0
  exact ⟨rfl, HG.out⟩

set_option maxRecDepth 100000 in
theorem chg69 (W0 : World) (f : File) (T n : Nat) (hT : W0.heap[T]? = some (.cells #[.int .i64 n] 3 (0, 0))) (hn : n < f.changes.length) (hl : f.changes.length ≤ 65536) : CIn W0 69 #[.pointer (some ⟨T, 0, none⟩)] f (chAt f n (actC f.changes[n] 78)) := by
  intro W B lo v hb hB h
  obtain ⟨g, cap, rfl, hg1, hg2, hcap, hr, hfr⟩ := h.line hn hl
  obtain ⟨-, -, -, -, c4, -, hlt⟩ := h.five
  have t0 : W.cell? ⟨T, 0, none⟩ = some (.int .i64 n) := cells_all ((hb.block _ (blk_lt hT)).trans hT) 0
  have htl : T < W.heap.size := Nat.lt_of_lt_of_le (blk_lt hT) hb.size
  have HG := hide (ga_drew (h.setL hn 0 (by decide) (.int .u8 78) (actC f.changes[n] 78) rfl))
  have d4 := (rng_cell hr).2 0 (by decide)
  simp only [changeCs, List.getElem?_toArray, List.getElem?_cons_zero] at d4
  rw [Nat.add_zero] at d4 HG
  have hi := run_indexAt_arr (P := Tryz.prog) (n := f.changes.length) (cap := cap) (a := some ⟨g, 0, none⟩) (b := g) (off := 0) Tryz.underlying57 Tryz.size111 (fun _ => rfl)
  have hi := fun W => hi W (n : Int) (by omega) (by omega)
  rw [show ((n : Int)).toNat = n by omega] at hi
  simp only [Nat.zero_add] at hi
  dsimp only at c4
  clear hb h hT hr
  show Calls _ _ #[.pointer (some ⟨B, 0, none⟩), .pointer (some ⟨T, 0, none⟩)] _ _
  go_enter Tryz.func69, Tryz.ntmps69
  go_upto_region 0 with fail
  refine wp_region_mixT (W.heap.size) [3, 4] (by kernel_rfl) ?_
  refine mixT_slots [0, 1, 2] (fuel := 5) rfl (by kernel_rfl) (by kernel_rfl) (fun d _ _ _ _ h => by cases d <;> exact h) ?_
  simp only [opersAt, List.getElem?_toArray, List.getElem?_cons_zero, List.getElem?_cons_succ]
  repeat (go_big_quiet_step (fail))
  refine wpQuiet_nil ?_
  refine mixT_reads [3, 4] (fuel := 3) rfl (by kernel_rfl) (by decide) (by kernel_rfl) (fun d _ _ _ _ h => by cases d <;> exact h) (ext_drew _ _) ?_
  simp only [opersAt, List.getElem?_toArray, List.getElem?_cons_zero, List.getElem?_cons_succ]
  repeat (go_big_quiet_step (fail))
  refine wpQuiet_nil ?_
  refine mixT_slots [5, 6] (fuel := 1) rfl (by kernel_rfl) (by kernel_rfl) (fun d _ _ _ _ h => by cases d <;> exact h) ?_
  simp only [opersAt, List.getElem?_toArray, List.getElem?_cons_zero, List.getElem?_cons_succ]
  repeat (go_big_quiet_step (fail))
  refine wpQuiet_nil ?_
  refine mixT_one (k := 7) (by kernel_rfl) rfl ?_
  go_wp2
  refine ⟨Or.inl (by kernel_rfl), ?_⟩
  refine mixT_nil (by kernel_rfl) ?_
  go_wp2
  go_end0
  exact ⟨rfl, HG.out⟩

set_option maxRecDepth 100000 in
theorem chg70 (W0 : World) (f : File) (T n : Nat) (hT : W0.heap[T]? = some (.cells #[.int .i64 n] 3 (0, 0))) (hn : n < f.changes.length) (hl : f.changes.length ≤ 65536) : CIn W0 70 #[.pointer (some ⟨T, 0, none⟩)] f (chAt f n (actC f.changes[n] 87)) := by
  intro W B lo v hb hB h
  obtain ⟨g, cap, rfl, hg1, hg2, hcap, hr, hfr⟩ := h.line hn hl
  obtain ⟨-, -, -, -, c4, -, hlt⟩ := h.five
  have t0 : W.cell? ⟨T, 0, none⟩ = some (.int .i64 n) := cells_all ((hb.block _ (blk_lt hT)).trans hT) 0
  have htl : T < W.heap.size := Nat.lt_of_lt_of_le (blk_lt hT) hb.size
  have HG := hide (ga_drew (h.setL hn 0 (by decide) (.int .u8 87) (actC f.changes[n] 87) rfl))
  have d4 := (rng_cell hr).2 0 (by decide)
  simp only [changeCs, List.getElem?_toArray, List.getElem?_cons_zero] at d4
  rw [Nat.add_zero] at d4 HG
  have hi := run_indexAt_arr (P := Tryz.prog) (n := f.changes.length) (cap := cap) (a := some ⟨g, 0, none⟩) (b := g) (off := 0) Tryz.underlying57 Tryz.size111 (fun _ => rfl)
  have hi := fun W => hi W (n : Int) (by omega) (by omega)
  rw [show ((n : Int)).toNat = n by omega] at hi
  simp only [Nat.zero_add] at hi
  dsimp only at c4
  clear hb h hT hr
  show Calls _ _ #[.pointer (some ⟨B, 0, none⟩), .pointer (some ⟨T, 0, none⟩)] _ _
  go_enter Tryz.func70, Tryz.ntmps70
  go_upto_region 0 with fail
  refine wp_region_mixT (W.heap.size) [3, 4] (by kernel_rfl) ?_
  refine mixT_slots [0, 1, 2] (fuel := 5) rfl (by kernel_rfl) (by kernel_rfl) (fun d _ _ _ _ h => by cases d <;> exact h) ?_
  simp only [opersAt, List.getElem?_toArray, List.getElem?_cons_zero, List.getElem?_cons_succ]
  repeat (go_big_quiet_step (fail))
  refine wpQuiet_nil ?_
  refine mixT_reads [3, 4] (fuel := 3) rfl (by kernel_rfl) (by decide) (by kernel_rfl) (fun d _ _ _ _ h => by cases d <;> exact h) (ext_drew _ _) ?_
  simp only [opersAt, List.getElem?_toArray, List.getElem?_cons_zero, List.getElem?_cons_succ]
  repeat (go_big_quiet_step (fail))
  refine wpQuiet_nil ?_
  refine mixT_slots [5, 6] (fuel := 1) rfl (by kernel_rfl) (by kernel_rfl) (fun d _ _ _ _ h => by cases d <;> exact h) ?_
  simp only [opersAt, List.getElem?_toArray, List.getElem?_cons_zero, List.getElem?_cons_succ]
  repeat (go_big_quiet_step (fail))
  refine wpQuiet_nil ?_
  refine mixT_one (k := 7) (by kernel_rfl) rfl ?_
  go_wp2
  refine ⟨Or.inl (by kernel_rfl), ?_⟩
  refine mixT_nil (by kernel_rfl) ?_
  go_wp2
  go_end0
  exact ⟨rfl, HG.out⟩
end Go.Proofs.Qxb6500666aGreatDoor
