/- A file's lines, written. (Made by tools/mk_rowtext.py.) -/
import Derived.Test.Qxb6500666aGreatDoorTextWalk
namespace Go.Proofs.Qxb6500666aGreatDoor
open Go.RowKit
attribute [local go_sem ↓] exec_ldRow exec_ldChange exec_ldFile exec_stRow exec_stChange exec_stFile exec_bsRow exec_bsChange exec_slRows exec_bdChange exec_eqlRow exec_neqRow
attribute [local go_sem] run_ldRow run_ldChange run_ldFile run_stRow run_stChange run_stFile run_bsRow run_bsChange run_bdChange run_neqRow run_eqlRow rng_alloc_lt rng_alloc_at rng_drew rng_drewN rng_setCell_other rng_setRow_other whole_alloc_lt whole_alloc_at whole_drew whole_setCell_other whole_setRow_other setRow_alloc_at setRow_alloc_lt setRow_drew rowCs_size rowCs_ones rowCs_0 rowCs_1 rowCs_2 rowCs_3 rowCs_4 rowCs_5 rowCs_6 rowCs_7 rowCs_8 rowCs_9 rowCs_10 rowCs_11 rowCs_12 rowCs_all changeCs_size changeCs_ones changeCs_0 changeCs_row changeCs_all fileCs_size fileCs_ones fileCs_0 fileCs_1 fileCs_2 fileCs_3 fileCs_4 fileCs_all ext_const Ext.cell Ext.frozen Ext.rng Ext.whole

def fld (x : Int) : List Int := 124 :: dec x
theorem fld_len {x : Int} (h : I64 x) : (fld x).length ≤ 21 := by
  have := dec_len h.1 h.2
  simp [fld]; omega

theorem U32.i64 {x : Int} (h : U32 x) : I64 x := ⟨by have := h.1; omega, by have := h.2; omega⟩
theorem U8.i64 {x : Int} (h : U8 x) : I64 x := ⟨by have := h.1; omega, by have := h.2; omega⟩

theorem id_fld (w : World) (B g : Nat) (A : Nat → Prop) (bs xs : List Int) (x : Int) (N : Nat) (h : TextAt w B g A bs) (hl : bs.length ≤ N) (hN : N ≤ 35184372088832) (hx : U32 x) (he : bs ++ fld x = xs) :
    Calls Tryz.prog 135 #[.pointer (some ⟨g, 0, none⟩), .int .u32 x] w fun e w' => e = .returned (.tuple #[]) ∧ Wrote w w' B g A xs ∧ xs.length ≤ N + 21 := by
  refine (id_calls w B g A bs x h (by omega) hx.1 hx.2).mono fun e w' ⟨he', hW⟩ => ⟨he', he ▸ hW, ?_⟩
  have := fld_len hx.i64
  rw [← he]; simp; omega

theorem number_fld (w : World) (B g : Nat) (A : Nat → Prop) (bs xs : List Int) (x : Int) (N : Nat) (h : TextAt w B g A bs) (hl : bs.length ≤ N) (hN : N ≤ 35184372088832) (hx : I64 x) (he : bs ++ fld x = xs) :
    Calls Tryz.prog 132 #[.pointer (some ⟨g, 0, none⟩), .int .i64 x] w fun e w' => e = .returned (.tuple #[]) ∧ Wrote w w' B g A xs ∧ xs.length ≤ N + 21 := by
  refine (number_calls w B g A bs x h (by omega) hx.1 hx.2).mono fun e w' ⟨he', hW⟩ => ⟨he', he ▸ hW, ?_⟩
  have := fld_len hx
  rw [← he]; simp; omega

def rowText (c : Change) : List Int :=
  [c.action] ++ fld c.row.sample ++ fld c.row.analyte ++ fld c.row.version ++ fld c.row.value ++ fld c.row.subject ++ fld c.row.site ++ fld c.row.visit ++ fld c.row.proto ++ fld c.row.kit ++ fld c.row.cls ++ fld c.row.collected ++ fld c.row.received ++ fld c.row.tested ++ [10]

/-- The cells of a block that holds just these. -/
theorem cells_all {w : World} {g : Nat} {cs : Array Value} {t : TypeId} (h : w.heap[g]? = some (.cells cs t (0, 0))) (j : Nat) : w.cell? ⟨g, j, none⟩ = cs[j]? := by simp [World.cell?, h]

set_option maxRecDepth 100000 in
set_option maxHeartbeats 4000000 in
theorem row_calls (w : World) (B g : Nat) (A : Nat → Prop) (bs : List Int) (c : Change) (h : TextAt w B g A bs) (hl : bs.length ≤ 17592186044416) (hB : B ≤ w.heap.size) (hc : c.Ok) :
    Calls Tryz.prog 167 #[.pointer (some ⟨g, 0, none⟩), .agg (changeCs c)] w fun e w' => e = .returned (.tuple #[]) ∧ Wrote w w' B g A (bs ++ rowText c) ∧ (bs ++ rowText c).length ≤ bs.length + 275 := by
  have hT0 : TextAt ((w.alloc (.cells (changeCs c) 111)).alloc (.cells (rowCs c.row) 109)) B g (fun b => (A b ∨ b = w.heap.size) ∨ b = w.heap.size + 1) bs := by
    have := (h.alloc (.cells (changeCs c) 111)).alloc (.cells (rowCs c.row) 109)
    simpa using this
  have hr := hc.row
  go_enter Tryz.func167, Tryz.ntmps167
  go_upto_region 2 with fail
  have hW0 : Below B w ((w.alloc (.cells (changeCs c) 111)).alloc (.cells (rowCs c.row) 109)) := ((Below.refl _ _).alloc hB _).alloc (by simp; omega) _
  have hS0 : Same A w ((w.alloc (.cells (changeCs c) 111)).alloc (.cells (rowCs c.row) 109)) := fun b hb => by
    obtain ⟨_, _, _, _, _, _, _, _, h3⟩ := h
    have := h3 b hb
    rw [Below.heap_alloc _ _ _ (by simp; omega), Below.heap_alloc _ _ _ this]
  have hk0 : ((w.alloc (.cells (changeCs c) 111)).alloc (.cells (rowCs c.row) 109)).heap[w.heap.size]? = some (.cells (changeCs c) 111 (0, 0)) := by rw [Below.heap_alloc _ _ _ (by simp), heap_alloc_at]
  have hk1 : ((w.alloc (.cells (changeCs c) 111)).alloc (.cells (rowCs c.row) 109)).heap[w.heap.size + 1]? = some (.cells (rowCs c.row) 109 (0, 0)) := by
    have := heap_alloc_at (w.alloc (.cells (changeCs c) 111)) (.cells (rowCs c.row) 109)
    simpa using this
  obtain ⟨W0, hw0⟩ : ∃ W0, (w.alloc (.cells (changeCs c) 111)).alloc (.cells (rowCs c.row) 109) = W0 := ⟨_, rfl⟩
  rw [hw0] at hT0 hW0 hS0 hk0 hk1 ⊢
  obtain ⟨G, hG⟩ : ∃ G, w.heap.size = G := ⟨_, rfl⟩
  rw [hG] at hT0 hk0 hk1 ⊢
  have Hw0 := hide hw0
  have HG := hide hG
  clear hw0 hG h hB
  have d0 := cells_all hk0
  have c0 := cells_all hk1
  obtain ⟨r, hr0⟩ : ∃ r, c.row = r := ⟨_, rfl⟩
  rw [hr0] at hr hk1 c0
  have Hr := hide hr0
  clear hr0
  have hcl1 : 0 ≤ r.cls := hr.cls.1
  have hcl2 : r.cls ≤ 255 := hr.cls.2
  obtain ⟨x0, e0⟩ : ∃ x0, bs ++ [c.action] = x0 := ⟨_, rfl⟩
  go_upto_region 3 with (go_at_call 130; refine (open_calls _ B g _ bs c.action hT0 (by omega)).mono ?_; rintro e w1 ⟨rfl, hW1⟩)
  rw [e0] at hW1
  have l1 : x0.length ≤ bs.length + 1 := by rw [← e0]; simp
  have k1 := (hW1.same (G + 1) (Or.inr rfl)).trans hk1
  have c1 := cells_all k1
  clear c0 d0
  obtain ⟨x1, e1⟩ : ∃ x1, x0 ++ fld r.sample = x1 := ⟨_, rfl⟩
  go_upto_region 4 with (go_at_call 135; refine (id_fld _ B g _ x0 x1 r.sample _ hW1.text l1 (by omega) hr.sample e1).mono ?_; rintro e w2 ⟨rfl, hV, l2⟩)
  have hW2 := hW1.trans hV
  have k2 := (hV.same (G + 1) (Or.inr rfl)).trans k1
  have c2 := cells_all k2
  clear hV c1
  obtain ⟨x2, e2⟩ : ∃ x2, x1 ++ fld r.analyte = x2 := ⟨_, rfl⟩
  go_upto_region 5 with (go_at_call 135; refine (id_fld _ B g _ x1 x2 r.analyte _ hW2.text l2 (by omega) hr.analyte e2).mono ?_; rintro e w3 ⟨rfl, hV, l3⟩)
  have hW3 := hW2.trans hV
  have k3 := (hV.same (G + 1) (Or.inr rfl)).trans k2
  have c3 := cells_all k3
  clear hV c2
  obtain ⟨x3, e3⟩ : ∃ x3, x2 ++ fld r.version = x3 := ⟨_, rfl⟩
  go_upto_region 6 with (go_at_call 135; refine (id_fld _ B g _ x2 x3 r.version _ hW3.text l3 (by omega) hr.version e3).mono ?_; rintro e w4 ⟨rfl, hV, l4⟩)
  have hW4 := hW3.trans hV
  have k4 := (hV.same (G + 1) (Or.inr rfl)).trans k3
  have c4 := cells_all k4
  clear hV c3
  obtain ⟨x4, e4⟩ : ∃ x4, x3 ++ fld r.value = x4 := ⟨_, rfl⟩
  go_upto_region 7 with (go_at_call 132; refine (number_fld _ B g _ x3 x4 r.value _ hW4.text l4 (by omega) hr.value e4).mono ?_; rintro e w5 ⟨rfl, hV, l5⟩)
  have hW5 := hW4.trans hV
  have k5 := (hV.same (G + 1) (Or.inr rfl)).trans k4
  have c5 := cells_all k5
  clear hV c4
  obtain ⟨x5, e5⟩ : ∃ x5, x4 ++ fld r.subject = x5 := ⟨_, rfl⟩
  go_upto_region 8 with (go_at_call 135; refine (id_fld _ B g _ x4 x5 r.subject _ hW5.text l5 (by omega) hr.subject e5).mono ?_; rintro e w6 ⟨rfl, hV, l6⟩)
  have hW6 := hW5.trans hV
  have k6 := (hV.same (G + 1) (Or.inr rfl)).trans k5
  have c6 := cells_all k6
  clear hV c5
  obtain ⟨x6, e6⟩ : ∃ x6, x5 ++ fld r.site = x6 := ⟨_, rfl⟩
  go_upto_region 9 with (go_at_call 135; refine (id_fld _ B g _ x5 x6 r.site _ hW6.text l6 (by omega) hr.site e6).mono ?_; rintro e w7 ⟨rfl, hV, l7⟩)
  have hW7 := hW6.trans hV
  have k7 := (hV.same (G + 1) (Or.inr rfl)).trans k6
  have c7 := cells_all k7
  clear hV c6
  obtain ⟨x7, e7⟩ : ∃ x7, x6 ++ fld r.visit = x7 := ⟨_, rfl⟩
  go_upto_region 10 with (go_at_call 135; refine (id_fld _ B g _ x6 x7 r.visit _ hW7.text l7 (by omega) hr.visit e7).mono ?_; rintro e w8 ⟨rfl, hV, l8⟩)
  have hW8 := hW7.trans hV
  have k8 := (hV.same (G + 1) (Or.inr rfl)).trans k7
  have c8 := cells_all k8
  clear hV c7
  obtain ⟨x8, e8⟩ : ∃ x8, x7 ++ fld r.proto = x8 := ⟨_, rfl⟩
  go_upto_region 11 with (go_at_call 135; refine (id_fld _ B g _ x7 x8 r.proto _ hW8.text l8 (by omega) hr.proto e8).mono ?_; rintro e w9 ⟨rfl, hV, l9⟩)
  have hW9 := hW8.trans hV
  have k9 := (hV.same (G + 1) (Or.inr rfl)).trans k8
  have c9 := cells_all k9
  clear hV c8
  obtain ⟨x9, e9⟩ : ∃ x9, x8 ++ fld r.kit = x9 := ⟨_, rfl⟩
  go_upto_region 12 with (go_at_call 135; refine (id_fld _ B g _ x8 x9 r.kit _ hW9.text l9 (by omega) hr.kit e9).mono ?_; rintro e w10 ⟨rfl, hV, l10⟩)
  have hW10 := hW9.trans hV
  have k10 := (hV.same (G + 1) (Or.inr rfl)).trans k9
  have c10 := cells_all k10
  clear hV c9
  obtain ⟨x10, e10⟩ : ∃ x10, x9 ++ fld r.cls = x10 := ⟨_, rfl⟩
  go_upto_region 13 with (go_at_call 132; refine (number_fld _ B g _ x9 x10 r.cls _ hW10.text l10 (by omega) hr.cls.i64 e10).mono ?_; rintro e w11 ⟨rfl, hV, l11⟩)
  have hW11 := hW10.trans hV
  have k11 := (hV.same (G + 1) (Or.inr rfl)).trans k10
  have c11 := cells_all k11
  clear hV c10
  obtain ⟨x11, e11⟩ : ∃ x11, x10 ++ fld r.collected = x11 := ⟨_, rfl⟩
  go_upto_region 14 with (go_at_call 132; refine (number_fld _ B g _ x10 x11 r.collected _ hW11.text l11 (by omega) hr.collected e11).mono ?_; rintro e w12 ⟨rfl, hV, l12⟩)
  have hW12 := hW11.trans hV
  have k12 := (hV.same (G + 1) (Or.inr rfl)).trans k11
  have c12 := cells_all k12
  clear hV c11
  obtain ⟨x12, e12⟩ : ∃ x12, x11 ++ fld r.received = x12 := ⟨_, rfl⟩
  go_upto_region 15 with (go_at_call 132; refine (number_fld _ B g _ x11 x12 r.received _ hW12.text l12 (by omega) hr.received e12).mono ?_; rintro e w13 ⟨rfl, hV, l13⟩)
  have hW13 := hW12.trans hV
  have k13 := (hV.same (G + 1) (Or.inr rfl)).trans k12
  have c13 := cells_all k13
  clear hV c12
  obtain ⟨x13, e13⟩ : ∃ x13, x12 ++ fld r.tested = x13 := ⟨_, rfl⟩
  go_upto_region 16 with (go_at_call 132; refine (number_fld _ B g _ x12 x13 r.tested _ hW13.text l13 (by omega) hr.tested e13).mono ?_; rintro e w14 ⟨rfl, hV, l14⟩)
  have hW14 := hW13.trans hV
  have k14 := (hV.same (G + 1) (Or.inr rfl)).trans k13
  have c14 := cells_all k14
  clear hV c13
  go_wp2_with (go_at_call 133; refine (close_calls _ B g _ x13 hW14.text (by omega)).mono ?_; rintro e w15 ⟨rfl, hV⟩)
  go_end0
  have hE : x13 ++ [10] = bs ++ rowText c := by
    rw [← e13, ← e12, ← e11, ← e10, ← e9, ← e8, ← e7, ← e6, ← e5, ← e4, ← e3, ← e2, ← e1, ← e0]
    simp only [rowText, Hr.out, List.append_assoc]
  have hF := hW14.trans hV
  rw [hE] at hF
  refine ⟨rfl, ⟨hF.text.sub fun b hb => Or.inl (Or.inl hb), hW0.trans hF.below, hS0.trans (hF.same.mono fun b hb => Or.inl (Or.inl hb))⟩, ?_⟩
  rw [← hE]
  simp
  omega

end Go.Proofs.Qxb6500666aGreatDoor
