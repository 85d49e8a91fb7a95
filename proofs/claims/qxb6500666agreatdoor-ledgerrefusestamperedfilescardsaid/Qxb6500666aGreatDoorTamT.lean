/- LedgerRefusesTamperedFiles: tamper, walked with each of the closures. (Made by tools/mk_tamt.py.) -/
import Derived.Test.Qxb6500666aGreatDoorTamC
import Derived.Test.Qxb6500666aGreatDoorChnW
namespace Go.Proofs.Qxb6500666aGreatDoor
open Go.RowKit
attribute [local go_sem] ext_const Ext.cell Ext.frozen Ext.rng Ext.whole
attribute [local go_sem ↓] exec_ldFile exec_stFile exec_bsFile
attribute [local go_sem] run_ldFile run_stFile run_bsFile fileCs_size fileCs_ones whole_alloc_lt whole_alloc_at whole_drew setRow_alloc_at setRow_alloc_lt rng_alloc_lt rng_alloc_at rng_drew

/-- The forged files so far: the variable that names them in the block T; K: blocks of the law's own. -/
structure FgI (W0 W : World) (T : Nat) (K : Nat → Prop) (zs : List ZF) (v : SV) : Prop where
  cell : W.heap[T]? = some (.cells #[sv v] 43 (0, 0))
  own : OwnR W (T + 1) 59 5 zfCs (sv v) zs
  ch : ∀ z ∈ zs, ChangesAt W (fun b => T < b ∧ b < W.heap.size ∧ (sv v).ownBlock ≠ some b) (sv z.2) z.1.changes
  k : ∀ b, K b → T < b ∧ b < W.heap.size ∧ (sv v).ownBlock ≠ some b
  bel : Below T W0 W
section
variable {W0 W W' : World} {T : Nat} {K K' : Nat → Prop} {zs : List ZF} {v v' : SV}
theorem FgI.lt (h : FgI W0 W T K zs v) : T < W.heap.size := blk_lt h.cell
theorem FgI.more (h : FgI W0 W T K zs v) (hb : Below W.heap.size W W') (hK : ∀ b, K' b → K b ∨ (W.heap.size ≤ b ∧ b < W'.heap.size)) : FgI W0 W' T K' zs v := by
  have hs := hb.size
  refine ⟨(hb.block _ h.lt).trans h.cell, h.own.below hb (Nat.le_refl _), fun z hz => RArr.mono (h.ch z hz) (fun b q => hb.block b q.2.1) (fun b q => ⟨q.1, by omega, q.2.2⟩), fun b q => ?_, h.bel.trans (hb.mono (by have := h.lt; omega))⟩
  rcases hK b q with q | q
  · have := h.k b q
    exact ⟨this.1, by omega, this.2.2⟩
  · exact ⟨by have := h.lt; omega, q.2, fun e => by (have := (h.own.block b e).2; omega)⟩
/-- One more. -/
theorem FgI.add (h : FgI W0 W T K zs v) {z : ZF} {V : World} (hz : ChangesAt W (fun b => T < b ∧ b < W.heap.size ∧ (sv v).ownBlock ≠ some b) (sv z.2) z.1.changes) (hown : OwnR V (T + 1) 59 5 zfCs (sv v') (zs ++ [z])) (hs : Same (fun b => b < W.heap.size ∧ (sv v).ownBlock ≠ some b) W V) (hb : Below (T + 1) W V) (hat : (sv v').ownBlock = (sv v).ownBlock ∨ (sv v').ownBlock = some W.heap.size) : FgI W0 (V.setCell ⟨T, 0, none⟩ (sv v')) T K (zs ++ [z]) v' ∧ ∀ b, K b → (V.setCell ⟨T, 0, none⟩ (sv v')).heap[b]? = W.heap[b]? := by
  have hz' := hb.size
  have hT : (sv v).ownBlock ≠ some T := fun e => by (have := (h.own.block T e).1; omega)
  have hk : ∀ b, T < b ∧ b < W.heap.size ∧ (sv v).ownBlock ≠ some b → T < b ∧ b < (V.setCell ⟨T, 0, none⟩ (sv v')).heap.size ∧ (sv v').ownBlock ≠ some b := fun b q => by
    refine ⟨q.1, by have := q.2.1; simp; omega, fun e => ?_⟩
    rcases hat with e1 | e1
    · exact q.2.2 (e1 ▸ e)
    · rw [e1] at e; injection e with e; have := q.2.1; omega
  have hm : ∀ b, T < b ∧ b < W.heap.size ∧ (sv v).ownBlock ≠ some b → (V.setCell ⟨T, 0, none⟩ (sv v')).heap[b]? = W.heap[b]? := fun b q => (Below.heap_setCell _ _ _ _ (by have := q.1; show b ≠ T; omega)).trans (hs b ⟨q.2.1, q.2.2⟩)
  refine ⟨⟨heap_set1 ((hs T ⟨h.lt, hT⟩).trans h.cell), hown.mono (fun b hb => Below.heap_setCell _ _ _ _ (by have := (hown.block b hb).1; show b ≠ T; omega)), fun y hy => ?_, fun b q => hk b (h.k b q), h.bel.trans ((hb.mono (Nat.le_succ _)).setCell (p := ⟨T, 0, none⟩) (Nat.le_refl _) _)⟩, fun b q => hm b (h.k b q)⟩
  rcases List.mem_append.1 hy with q | q
  · exact RArr.mono (h.ch y q) hm hk
  · rw [List.mem_singleton.1 q]
    exact RArr.mono hz hm hk
end

set_option maxRecDepth 100000 in
set_option maxHeartbeats 2000000 in
theorem tamper60 (W0 W : World) (T B : Nat) (K : Nat → Prop) (zs : List ZF) (v : SV) (f g : File) (c : SV) (h : FgI W0 W T K zs v) (hf : W.heap[B]? = some (.cells (zfCs (f, c)) 59 (0, 0))) (hc : ChangesAt W (fun _ => True) (sv c) f.changes) (hl : f.changes.length ≤ 65536) (hgl : g.changes.length ≤ 65536) (hzl : zs.length ≤ 1000000) (hC : CIn W 60 #[] f g) :
    Calls Tryz.prog 59 #[.func (.func 60) #[] #[], .pointer (some ⟨B, 0, none⟩), .pointer (some ⟨T, 0, none⟩)] W fun e W' => e = .returned (.tuple #[]) ∧ (∃ c' v', FgI W0 W' T K (zs ++ [(g, c')]) v') ∧ ∀ b, K b → W'.heap[b]? = W.heap[b]? := by
  have HC := hide hC
  have HFG := hide h
  have hTW := h.lt
  have hBl := blk_lt hf
  have rB : rng W B 0 5 = some (fileCs f.kind f.seq f.issued f.base c.1 c.2.1 c.2.2) := rng_whole hf
  have cB : W.cell? ⟨B, 4, none⟩ = some (.slice c.1 c.2.1 c.2.2) := cells_all hf 4
  obtain ⟨ca, cc, cb, co, ce, l1, l2, l3, la, lc⟩ := hc.lt
  obtain ⟨c1, c2, c3⟩ := c
  injection ce with e1 e2 e3
  dsimp only at e1 e2 e3
  subst e1
  subst e2
  subst e3
  dsimp only at rB cB
  have HLA := hide la
  have HLC := hide lc
  have HL2 := hide l2
  obtain ⟨N, hN⟩ : ∃ N, N = f.changes.length := ⟨_, rfl⟩
  have HN := hide hN
  rw [← hN] at rB cB hl
  clear hC h hf hc la lc l1 l2 l3 hN
  go_enter Tryz.func59, Tryz.ntmps59
  go_upto_region 1 with fail
  have HB1 : Hid (Below W.heap.size W (W.alloc (.cells (fileCs f.kind f.seq f.issued f.base c1 N c3) 59))) := (Below.refl _ _).alloc (Nat.le_refl _) _
  have hk1 : (W.alloc (.cells (fileCs f.kind f.seq f.issued f.base c1 N c3) 59)).heap[W.heap.size]? = some (.cells (fileCs f.kind f.seq f.issued f.base c1 N c3) 59 (0, 0)) := heap_alloc_at _ _
  have hz1 : (W.alloc (.cells (fileCs f.kind f.seq f.issued f.base c1 N c3) 59)).heap.size = W.heap.size + 1 := by simp
  generalize W.alloc (.cells (fileCs f.kind f.seq f.issued f.base c1 N c3) 59) = W1 at *
  have cB1 : W1.cell? ⟨B, 4, none⟩ = some (.slice c1 N c3) := (HB1.out.cell (p := ⟨B, 4, none⟩) hBl).trans cB
  have HK1 := hide hk1
  clear rB cB hk1
  go_upto_region 2 with (at_builtin; refine wpList_appN (α := Change) rfl _ _ 57 rfl W1.heap.size 111 changeCs Tryz.underlying57 Tryz.info111 rfl (by decide) changeCs_size changeCs_one _ [] rfl (OwnR.nil _ _ _ _ _) c1 N c3 rfl f.changes HN.out HL2.out.2 (fun h => ⟨cb, co, (HLA.out (by rw [← HN.out]; exact h)).1, fun i hi => (rng_of_block (HB1.out.block _ (HLA.out (by rw [← HN.out]; exact h)).2.2) _ _).trans (HLC.out i hi)⟩) (by simp; omega) (by unfold maxLen; simp; omega) (Nat.le_refl _) ?_; intro v2 W2 hown2 hsame2 hbel2 hat2; rw [List.nil_append] at hown2; obtain ⟨a2, cap2, hv2⟩ := hown2.form; rw [← HN.out] at hv2; subst hv2; have hk2 := (hbel2.block _ (blk_lt HK1.out)).trans HK1.out; have hc2 : W2.cell? ⟨W.heap.size, 4, none⟩ = some (.slice c1 N c3) := cells_all hk2 4; have hf2 : W2.frozen? ⟨W.heap.size, 4, none⟩ = false := (by simp [World.frozen?, hk2]); have hl2 : W.heap.size < W2.heap.size := blk_lt hk2; have HK2 := hide hk2; have HO2 := hide hown2; have HB2 := hide hbel2; clear hown2 hsame2 hbel2 hat2 hk2)
  have HGA : Hid (GA (W2.setCell ⟨W.heap.size, 4, none⟩ (.slice a2 N cap2)) W.heap.size W1.heap.size f (a2, N, cap2)) := ⟨by rw [heap_set3 HK2.out]; rfl, HO2.out.mono (fun b hb => Below.heap_setCell _ _ _ _ (by have := (HO2.out.block b hb).1; show b ≠ W.heap.size; omega)), by omega⟩
  have HB3 : Hid (Below W.heap.size W (W2.setCell ⟨W.heap.size, 4, none⟩ (.slice a2 N cap2))) := (HB1.out.trans (HB2.out.mono (by omega))).setCell (p := ⟨W.heap.size, 4, none⟩) (Nat.le_refl _) _
  clear HK2 HO2 HB2 HK1 HB1 hc2 hf2 cB1 hl2
  generalize W2.setCell ⟨W.heap.size, 4, none⟩ (.slice a2 N cap2) = W3 at *
  have HCC := hide (HC.out W3 _ _ _ HB3.out (Nat.le_refl _) HGA.out)
  clear HC HGA
  change Hid (Calls _ _ #[.pointer (some ⟨W.heap.size, 0, none⟩)] _ _) at HCC
  go_upto_region 3 with (go_at_call 60; refine HCC.out.mono ?_; rintro e W4 ⟨rfl, ⟨v4, hg4⟩, hb4⟩; have HG4 := hide hg4; have HB4 : Hid (Below W.heap.size W W4) := (HB3.out.trans hb4); clear hg4 hb4)
  clear HCC HB3
  have HF4 := hide (HFG.out.more (K' := K) HB4.out (fun b q => Or.inl q))
  have HZC : Hid (ChangesAt W4 (fun b => T < b ∧ b < W4.heap.size ∧ (sv v).ownBlock ≠ some b) (sv v4) g.changes) := by
    refine (HG4.out.own.rows changeCs_size (by decide) ?_).lt.mono (Same.refl _ _) (fun b q => ⟨by have := q.1; omega, q.2, fun e => ?_⟩)
    · omega
    · have := (HFG.out.own.block b e).2
      have := q.1
      omega
  have r4 : rng W4 W.heap.size 0 5 = some (fileCs g.kind g.seq g.issued g.base v4.1 v4.2.1 v4.2.2) := rng_whole HG4.out.top
  have hl4 := blk_lt HG4.out.top
  have t4 := cells_all HF4.out.cell 0
  simp only [List.getElem?_toArray, List.getElem?_cons_zero] at t4
  have hT4 := HF4.out.lt
  obtain ⟨v1, vn, vc⟩ := v
  replace t4 : W4.cell? ⟨T, 0, none⟩ = some (.slice v1 vn vc) := t4
  have HF5 := hide (HF4.out.more (W' := W4.alloc (.cells (fileCs g.kind g.seq g.issued g.base v4.1 v4.2.1 v4.2.2) 59)) (K' := K) ((Below.refl _ _).alloc (Nat.le_refl _) _) (fun b q => Or.inl q))
  have HR5 : Hid (rng (W4.alloc (.cells (fileCs g.kind g.seq g.issued g.base v4.1 v4.2.1 v4.2.2) 59)) W4.heap.size 0 5 = some (zfCs (g, v4))) := rng_whole (heap_alloc_at _ _)
  have HZ5 : Hid (ChangesAt (W4.alloc (.cells (fileCs g.kind g.seq g.issued g.base v4.1 v4.2.1 v4.2.2) 59)) (fun b => T < b ∧ b < (W4.alloc (.cells (fileCs g.kind g.seq g.issued g.base v4.1 v4.2.1 v4.2.2) 59)).heap.size ∧ (sv (v1, vn, vc)).ownBlock ≠ some b) (sv v4) g.changes) := RArr.mono HZC.out (fun b q => Below.heap_alloc _ _ _ q.2.1) (fun b q => ⟨q.1, by have := q.2.1; simp; omega, q.2.2⟩)
  have HKK : Hid (∀ b, K b → (W4.alloc (.cells (fileCs g.kind g.seq g.issued g.base v4.1 v4.2.1 v4.2.2) 59)).heap[b]? = W.heap[b]?) := fun b q => (Below.heap_alloc _ _ _ (HF4.out.k b q).2.1).trans (HB4.out.block b (HFG.out.k b q).2.1)
  have hb5 : T + 1 ≤ (W4.alloc (.cells (fileCs g.kind g.seq g.issued g.base v4.1 v4.2.1 v4.2.2) 59)).heap.size := by simp; omega
  have hzk : (zs.length + 1) * 48 ≤ 140737488355328 := by omega
  clear HG4 HZC HF4 HFG
  go_wp2_with (at_builtin; refine wpList_app1 (α := ZF) rfl _ _ 43 rfl (T + 1) 59 zfCs Tryz.underlying43 Tryz.info59_c rfl (by decide) zfCs_size zfCs_one _ zs rfl HF5.out.own _ rfl (g, v4) HR5.out hzk (by unfold maxLen; omega) hb5 ?_; intro v6 W6 hown6 hsame6 hbel6 hat6; obtain ⟨a6, c6, e6⟩ := hown6.form; rw [show (zs ++ [(g, v4)]).length = zs.length + 1 by simp] at e6; subst e6; have hk6 := (hsame6 T ⟨by have := HF5.out.lt; omega, fun e => (by have := (HF5.out.own.block T e).1; omega)⟩).trans HF5.out.cell; have hc6 : W6.cell? ⟨T, 0, none⟩ = some (.slice v1 vn vc) := cells_all hk6 0; have hf6 : W6.frozen? ⟨T, 0, none⟩ = false := (by simp [World.frozen?, hk6]); have hl6 : T < W6.heap.size := blk_lt hk6; have HEND := hide (HF5.out.add (v' := (a6, zs.length + 1, c6)) HZ5.out hown6 hsame6 hbel6 hat6); clear hown6 hsame6 hbel6 hat6 hk6)
  go_end0
  exact ⟨rfl, ⟨v4, _, HEND.out.1⟩, fun b q => (HEND.out.2 b q).trans (HKK.out b q)⟩

set_option maxRecDepth 100000 in
set_option maxHeartbeats 2000000 in
theorem tamper61 (W0 W : World) (T B : Nat) (K : Nat → Prop) (zs : List ZF) (v : SV) (f g : File) (c : SV) (h : FgI W0 W T K zs v) (hf : W.heap[B]? = some (.cells (zfCs (f, c)) 59 (0, 0))) (hc : ChangesAt W (fun _ => True) (sv c) f.changes) (hl : f.changes.length ≤ 65536) (hgl : g.changes.length ≤ 65536) (hzl : zs.length ≤ 1000000) (hC : CIn W 61 #[] f g) :
    Calls Tryz.prog 59 #[.func (.func 61) #[] #[], .pointer (some ⟨B, 0, none⟩), .pointer (some ⟨T, 0, none⟩)] W fun e W' => e = .returned (.tuple #[]) ∧ (∃ c' v', FgI W0 W' T K (zs ++ [(g, c')]) v') ∧ ∀ b, K b → W'.heap[b]? = W.heap[b]? := by
  have HC := hide hC
  have HFG := hide h
  have hTW := h.lt
  have hBl := blk_lt hf
  have rB : rng W B 0 5 = some (fileCs f.kind f.seq f.issued f.base c.1 c.2.1 c.2.2) := rng_whole hf
  have cB : W.cell? ⟨B, 4, none⟩ = some (.slice c.1 c.2.1 c.2.2) := cells_all hf 4
  obtain ⟨ca, cc, cb, co, ce, l1, l2, l3, la, lc⟩ := hc.lt
  obtain ⟨c1, c2, c3⟩ := c
  injection ce with e1 e2 e3
  dsimp only at e1 e2 e3
  subst e1
  subst e2
  subst e3
  dsimp only at rB cB
  have HLA := hide la
  have HLC := hide lc
  have HL2 := hide l2
  obtain ⟨N, hN⟩ : ∃ N, N = f.changes.length := ⟨_, rfl⟩
  have HN := hide hN
  rw [← hN] at rB cB hl
  clear hC h hf hc la lc l1 l2 l3 hN
  go_enter Tryz.func59, Tryz.ntmps59
  go_upto_region 1 with fail
  have HB1 : Hid (Below W.heap.size W (W.alloc (.cells (fileCs f.kind f.seq f.issued f.base c1 N c3) 59))) := (Below.refl _ _).alloc (Nat.le_refl _) _
  have hk1 : (W.alloc (.cells (fileCs f.kind f.seq f.issued f.base c1 N c3) 59)).heap[W.heap.size]? = some (.cells (fileCs f.kind f.seq f.issued f.base c1 N c3) 59 (0, 0)) := heap_alloc_at _ _
  have hz1 : (W.alloc (.cells (fileCs f.kind f.seq f.issued f.base c1 N c3) 59)).heap.size = W.heap.size + 1 := by simp
  generalize W.alloc (.cells (fileCs f.kind f.seq f.issued f.base c1 N c3) 59) = W1 at *
  have cB1 : W1.cell? ⟨B, 4, none⟩ = some (.slice c1 N c3) := (HB1.out.cell (p := ⟨B, 4, none⟩) hBl).trans cB
  have HK1 := hide hk1
  clear rB cB hk1
  go_upto_region 2 with (at_builtin; refine wpList_appN (α := Change) rfl _ _ 57 rfl W1.heap.size 111 changeCs Tryz.underlying57 Tryz.info111 rfl (by decide) changeCs_size changeCs_one _ [] rfl (OwnR.nil _ _ _ _ _) c1 N c3 rfl f.changes HN.out HL2.out.2 (fun h => ⟨cb, co, (HLA.out (by rw [← HN.out]; exact h)).1, fun i hi => (rng_of_block (HB1.out.block _ (HLA.out (by rw [← HN.out]; exact h)).2.2) _ _).trans (HLC.out i hi)⟩) (by simp; omega) (by unfold maxLen; simp; omega) (Nat.le_refl _) ?_; intro v2 W2 hown2 hsame2 hbel2 hat2; rw [List.nil_append] at hown2; obtain ⟨a2, cap2, hv2⟩ := hown2.form; rw [← HN.out] at hv2; subst hv2; have hk2 := (hbel2.block _ (blk_lt HK1.out)).trans HK1.out; have hc2 : W2.cell? ⟨W.heap.size, 4, none⟩ = some (.slice c1 N c3) := cells_all hk2 4; have hf2 : W2.frozen? ⟨W.heap.size, 4, none⟩ = false := (by simp [World.frozen?, hk2]); have hl2 : W.heap.size < W2.heap.size := blk_lt hk2; have HK2 := hide hk2; have HO2 := hide hown2; have HB2 := hide hbel2; clear hown2 hsame2 hbel2 hat2 hk2)
  have HGA : Hid (GA (W2.setCell ⟨W.heap.size, 4, none⟩ (.slice a2 N cap2)) W.heap.size W1.heap.size f (a2, N, cap2)) := ⟨by rw [heap_set3 HK2.out]; rfl, HO2.out.mono (fun b hb => Below.heap_setCell _ _ _ _ (by have := (HO2.out.block b hb).1; show b ≠ W.heap.size; omega)), by omega⟩
  have HB3 : Hid (Below W.heap.size W (W2.setCell ⟨W.heap.size, 4, none⟩ (.slice a2 N cap2))) := (HB1.out.trans (HB2.out.mono (by omega))).setCell (p := ⟨W.heap.size, 4, none⟩) (Nat.le_refl _) _
  clear HK2 HO2 HB2 HK1 HB1 hc2 hf2 cB1 hl2
  generalize W2.setCell ⟨W.heap.size, 4, none⟩ (.slice a2 N cap2) = W3 at *
  have HCC := hide (HC.out W3 _ _ _ HB3.out (Nat.le_refl _) HGA.out)
  clear HC HGA
  change Hid (Calls _ _ #[.pointer (some ⟨W.heap.size, 0, none⟩)] _ _) at HCC
  go_upto_region 3 with (go_at_call 61; refine HCC.out.mono ?_; rintro e W4 ⟨rfl, ⟨v4, hg4⟩, hb4⟩; have HG4 := hide hg4; have HB4 : Hid (Below W.heap.size W W4) := (HB3.out.trans hb4); clear hg4 hb4)
  clear HCC HB3
  have HF4 := hide (HFG.out.more (K' := K) HB4.out (fun b q => Or.inl q))
  have HZC : Hid (ChangesAt W4 (fun b => T < b ∧ b < W4.heap.size ∧ (sv v).ownBlock ≠ some b) (sv v4) g.changes) := by
    refine (HG4.out.own.rows changeCs_size (by decide) ?_).lt.mono (Same.refl _ _) (fun b q => ⟨by have := q.1; omega, q.2, fun e => ?_⟩)
    · omega
    · have := (HFG.out.own.block b e).2
      have := q.1
      omega
  have r4 : rng W4 W.heap.size 0 5 = some (fileCs g.kind g.seq g.issued g.base v4.1 v4.2.1 v4.2.2) := rng_whole HG4.out.top
  have hl4 := blk_lt HG4.out.top
  have t4 := cells_all HF4.out.cell 0
  simp only [List.getElem?_toArray, List.getElem?_cons_zero] at t4
  have hT4 := HF4.out.lt
  obtain ⟨v1, vn, vc⟩ := v
  replace t4 : W4.cell? ⟨T, 0, none⟩ = some (.slice v1 vn vc) := t4
  have HF5 := hide (HF4.out.more (W' := W4.alloc (.cells (fileCs g.kind g.seq g.issued g.base v4.1 v4.2.1 v4.2.2) 59)) (K' := K) ((Below.refl _ _).alloc (Nat.le_refl _) _) (fun b q => Or.inl q))
  have HR5 : Hid (rng (W4.alloc (.cells (fileCs g.kind g.seq g.issued g.base v4.1 v4.2.1 v4.2.2) 59)) W4.heap.size 0 5 = some (zfCs (g, v4))) := rng_whole (heap_alloc_at _ _)
  have HZ5 : Hid (ChangesAt (W4.alloc (.cells (fileCs g.kind g.seq g.issued g.base v4.1 v4.2.1 v4.2.2) 59)) (fun b => T < b ∧ b < (W4.alloc (.cells (fileCs g.kind g.seq g.issued g.base v4.1 v4.2.1 v4.2.2) 59)).heap.size ∧ (sv (v1, vn, vc)).ownBlock ≠ some b) (sv v4) g.changes) := RArr.mono HZC.out (fun b q => Below.heap_alloc _ _ _ q.2.1) (fun b q => ⟨q.1, by have := q.2.1; simp; omega, q.2.2⟩)
  have HKK : Hid (∀ b, K b → (W4.alloc (.cells (fileCs g.kind g.seq g.issued g.base v4.1 v4.2.1 v4.2.2) 59)).heap[b]? = W.heap[b]?) := fun b q => (Below.heap_alloc _ _ _ (HF4.out.k b q).2.1).trans (HB4.out.block b (HFG.out.k b q).2.1)
  have hb5 : T + 1 ≤ (W4.alloc (.cells (fileCs g.kind g.seq g.issued g.base v4.1 v4.2.1 v4.2.2) 59)).heap.size := by simp; omega
  have hzk : (zs.length + 1) * 48 ≤ 140737488355328 := by omega
  clear HG4 HZC HF4 HFG
  go_wp2_with (at_builtin; refine wpList_app1 (α := ZF) rfl _ _ 43 rfl (T + 1) 59 zfCs Tryz.underlying43 Tryz.info59_c rfl (by decide) zfCs_size zfCs_one _ zs rfl HF5.out.own _ rfl (g, v4) HR5.out hzk (by unfold maxLen; omega) hb5 ?_; intro v6 W6 hown6 hsame6 hbel6 hat6; obtain ⟨a6, c6, e6⟩ := hown6.form; rw [show (zs ++ [(g, v4)]).length = zs.length + 1 by simp] at e6; subst e6; have hk6 := (hsame6 T ⟨by have := HF5.out.lt; omega, fun e => (by have := (HF5.out.own.block T e).1; omega)⟩).trans HF5.out.cell; have hc6 : W6.cell? ⟨T, 0, none⟩ = some (.slice v1 vn vc) := cells_all hk6 0; have hf6 : W6.frozen? ⟨T, 0, none⟩ = false := (by simp [World.frozen?, hk6]); have hl6 : T < W6.heap.size := blk_lt hk6; have HEND := hide (HF5.out.add (v' := (a6, zs.length + 1, c6)) HZ5.out hown6 hsame6 hbel6 hat6); clear hown6 hsame6 hbel6 hat6 hk6)
  go_end0
  exact ⟨rfl, ⟨v4, _, HEND.out.1⟩, fun b q => (HEND.out.2 b q).trans (HKK.out b q)⟩

set_option maxRecDepth 100000 in
set_option maxHeartbeats 2000000 in
theorem tamper62 (W0 W : World) (T B : Nat) (K : Nat → Prop) (zs : List ZF) (v : SV) (f g : File) (c : SV) (P : Value) (h : FgI W0 W T K zs v) (hf : W.heap[B]? = some (.cells (zfCs (f, c)) 59 (0, 0))) (hc : ChangesAt W (fun _ => True) (sv c) f.changes) (hl : f.changes.length ≤ 65536) (hgl : g.changes.length ≤ 65536) (hzl : zs.length ≤ 1000000) (hC : CIn W 62 #[P] f g) :
    Calls Tryz.prog 59 #[.func (.func 62) #[] #[P], .pointer (some ⟨B, 0, none⟩), .pointer (some ⟨T, 0, none⟩)] W fun e W' => e = .returned (.tuple #[]) ∧ (∃ c' v', FgI W0 W' T K (zs ++ [(g, c')]) v') ∧ ∀ b, K b → W'.heap[b]? = W.heap[b]? := by
  have HC := hide hC
  have HFG := hide h
  have hTW := h.lt
  have hBl := blk_lt hf
  have rB : rng W B 0 5 = some (fileCs f.kind f.seq f.issued f.base c.1 c.2.1 c.2.2) := rng_whole hf
  have cB : W.cell? ⟨B, 4, none⟩ = some (.slice c.1 c.2.1 c.2.2) := cells_all hf 4
  obtain ⟨ca, cc, cb, co, ce, l1, l2, l3, la, lc⟩ := hc.lt
  obtain ⟨c1, c2, c3⟩ := c
  injection ce with e1 e2 e3
  dsimp only at e1 e2 e3
  subst e1
  subst e2
  subst e3
  dsimp only at rB cB
  have HLA := hide la
  have HLC := hide lc
  have HL2 := hide l2
  obtain ⟨N, hN⟩ : ∃ N, N = f.changes.length := ⟨_, rfl⟩
  have HN := hide hN
  rw [← hN] at rB cB hl
  clear hC h hf hc la lc l1 l2 l3 hN
  go_enter Tryz.func59, Tryz.ntmps59
  go_upto_region 1 with fail
  have HB1 : Hid (Below W.heap.size W (W.alloc (.cells (fileCs f.kind f.seq f.issued f.base c1 N c3) 59))) := (Below.refl _ _).alloc (Nat.le_refl _) _
  have hk1 : (W.alloc (.cells (fileCs f.kind f.seq f.issued f.base c1 N c3) 59)).heap[W.heap.size]? = some (.cells (fileCs f.kind f.seq f.issued f.base c1 N c3) 59 (0, 0)) := heap_alloc_at _ _
  have hz1 : (W.alloc (.cells (fileCs f.kind f.seq f.issued f.base c1 N c3) 59)).heap.size = W.heap.size + 1 := by simp
  generalize W.alloc (.cells (fileCs f.kind f.seq f.issued f.base c1 N c3) 59) = W1 at *
  have cB1 : W1.cell? ⟨B, 4, none⟩ = some (.slice c1 N c3) := (HB1.out.cell (p := ⟨B, 4, none⟩) hBl).trans cB
  have HK1 := hide hk1
  clear rB cB hk1
  go_upto_region 2 with (at_builtin; refine wpList_appN (α := Change) rfl _ _ 57 rfl W1.heap.size 111 changeCs Tryz.underlying57 Tryz.info111 rfl (by decide) changeCs_size changeCs_one _ [] rfl (OwnR.nil _ _ _ _ _) c1 N c3 rfl f.changes HN.out HL2.out.2 (fun h => ⟨cb, co, (HLA.out (by rw [← HN.out]; exact h)).1, fun i hi => (rng_of_block (HB1.out.block _ (HLA.out (by rw [← HN.out]; exact h)).2.2) _ _).trans (HLC.out i hi)⟩) (by simp; omega) (by unfold maxLen; simp; omega) (Nat.le_refl _) ?_; intro v2 W2 hown2 hsame2 hbel2 hat2; rw [List.nil_append] at hown2; obtain ⟨a2, cap2, hv2⟩ := hown2.form; rw [← HN.out] at hv2; subst hv2; have hk2 := (hbel2.block _ (blk_lt HK1.out)).trans HK1.out; have hc2 : W2.cell? ⟨W.heap.size, 4, none⟩ = some (.slice c1 N c3) := cells_all hk2 4; have hf2 : W2.frozen? ⟨W.heap.size, 4, none⟩ = false := (by simp [World.frozen?, hk2]); have hl2 : W.heap.size < W2.heap.size := blk_lt hk2; have HK2 := hide hk2; have HO2 := hide hown2; have HB2 := hide hbel2; clear hown2 hsame2 hbel2 hat2 hk2)
  have HGA : Hid (GA (W2.setCell ⟨W.heap.size, 4, none⟩ (.slice a2 N cap2)) W.heap.size W1.heap.size f (a2, N, cap2)) := ⟨by rw [heap_set3 HK2.out]; rfl, HO2.out.mono (fun b hb => Below.heap_setCell _ _ _ _ (by have := (HO2.out.block b hb).1; show b ≠ W.heap.size; omega)), by omega⟩
  have HB3 : Hid (Below W.heap.size W (W2.setCell ⟨W.heap.size, 4, none⟩ (.slice a2 N cap2))) := (HB1.out.trans (HB2.out.mono (by omega))).setCell (p := ⟨W.heap.size, 4, none⟩) (Nat.le_refl _) _
  clear HK2 HO2 HB2 HK1 HB1 hc2 hf2 cB1 hl2
  generalize W2.setCell ⟨W.heap.size, 4, none⟩ (.slice a2 N cap2) = W3 at *
  have HCC := hide (HC.out W3 _ _ _ HB3.out (Nat.le_refl _) HGA.out)
  clear HC HGA
  change Hid (Calls _ _ #[.pointer (some ⟨W.heap.size, 0, none⟩), P] _ _) at HCC
  go_upto_region 3 with (go_at_call 62; refine HCC.out.mono ?_; rintro e W4 ⟨rfl, ⟨v4, hg4⟩, hb4⟩; have HG4 := hide hg4; have HB4 : Hid (Below W.heap.size W W4) := (HB3.out.trans hb4); clear hg4 hb4)
  clear HCC HB3
  have HF4 := hide (HFG.out.more (K' := K) HB4.out (fun b q => Or.inl q))
  have HZC : Hid (ChangesAt W4 (fun b => T < b ∧ b < W4.heap.size ∧ (sv v).ownBlock ≠ some b) (sv v4) g.changes) := by
    refine (HG4.out.own.rows changeCs_size (by decide) ?_).lt.mono (Same.refl _ _) (fun b q => ⟨by have := q.1; omega, q.2, fun e => ?_⟩)
    · omega
    · have := (HFG.out.own.block b e).2
      have := q.1
      omega
  have r4 : rng W4 W.heap.size 0 5 = some (fileCs g.kind g.seq g.issued g.base v4.1 v4.2.1 v4.2.2) := rng_whole HG4.out.top
  have hl4 := blk_lt HG4.out.top
  have t4 := cells_all HF4.out.cell 0
  simp only [List.getElem?_toArray, List.getElem?_cons_zero] at t4
  have hT4 := HF4.out.lt
  obtain ⟨v1, vn, vc⟩ := v
  replace t4 : W4.cell? ⟨T, 0, none⟩ = some (.slice v1 vn vc) := t4
  have HF5 := hide (HF4.out.more (W' := W4.alloc (.cells (fileCs g.kind g.seq g.issued g.base v4.1 v4.2.1 v4.2.2) 59)) (K' := K) ((Below.refl _ _).alloc (Nat.le_refl _) _) (fun b q => Or.inl q))
  have HR5 : Hid (rng (W4.alloc (.cells (fileCs g.kind g.seq g.issued g.base v4.1 v4.2.1 v4.2.2) 59)) W4.heap.size 0 5 = some (zfCs (g, v4))) := rng_whole (heap_alloc_at _ _)
  have HZ5 : Hid (ChangesAt (W4.alloc (.cells (fileCs g.kind g.seq g.issued g.base v4.1 v4.2.1 v4.2.2) 59)) (fun b => T < b ∧ b < (W4.alloc (.cells (fileCs g.kind g.seq g.issued g.base v4.1 v4.2.1 v4.2.2) 59)).heap.size ∧ (sv (v1, vn, vc)).ownBlock ≠ some b) (sv v4) g.changes) := RArr.mono HZC.out (fun b q => Below.heap_alloc _ _ _ q.2.1) (fun b q => ⟨q.1, by have := q.2.1; simp; omega, q.2.2⟩)
  have HKK : Hid (∀ b, K b → (W4.alloc (.cells (fileCs g.kind g.seq g.issued g.base v4.1 v4.2.1 v4.2.2) 59)).heap[b]? = W.heap[b]?) := fun b q => (Below.heap_alloc _ _ _ (HF4.out.k b q).2.1).trans (HB4.out.block b (HFG.out.k b q).2.1)
  have hb5 : T + 1 ≤ (W4.alloc (.cells (fileCs g.kind g.seq g.issued g.base v4.1 v4.2.1 v4.2.2) 59)).heap.size := by simp; omega
  have hzk : (zs.length + 1) * 48 ≤ 140737488355328 := by omega
  clear HG4 HZC HF4 HFG
  go_wp2_with (at_builtin; refine wpList_app1 (α := ZF) rfl _ _ 43 rfl (T + 1) 59 zfCs Tryz.underlying43 Tryz.info59_c rfl (by decide) zfCs_size zfCs_one _ zs rfl HF5.out.own _ rfl (g, v4) HR5.out hzk (by unfold maxLen; omega) hb5 ?_; intro v6 W6 hown6 hsame6 hbel6 hat6; obtain ⟨a6, c6, e6⟩ := hown6.form; rw [show (zs ++ [(g, v4)]).length = zs.length + 1 by simp] at e6; subst e6; have hk6 := (hsame6 T ⟨by have := HF5.out.lt; omega, fun e => (by have := (HF5.out.own.block T e).1; omega)⟩).trans HF5.out.cell; have hc6 : W6.cell? ⟨T, 0, none⟩ = some (.slice v1 vn vc) := cells_all hk6 0; have hf6 : W6.frozen? ⟨T, 0, none⟩ = false := (by simp [World.frozen?, hk6]); have hl6 : T < W6.heap.size := blk_lt hk6; have HEND := hide (HF5.out.add (v' := (a6, zs.length + 1, c6)) HZ5.out hown6 hsame6 hbel6 hat6); clear hown6 hsame6 hbel6 hat6 hk6)
  go_end0
  exact ⟨rfl, ⟨v4, _, HEND.out.1⟩, fun b q => (HEND.out.2 b q).trans (HKK.out b q)⟩

set_option maxRecDepth 100000 in
set_option maxHeartbeats 2000000 in
theorem tamper63 (W0 W : World) (T B : Nat) (K : Nat → Prop) (zs : List ZF) (v : SV) (f g : File) (c : SV) (P : Value) (h : FgI W0 W T K zs v) (hf : W.heap[B]? = some (.cells (zfCs (f, c)) 59 (0, 0))) (hc : ChangesAt W (fun _ => True) (sv c) f.changes) (hl : f.changes.length ≤ 65536) (hgl : g.changes.length ≤ 65536) (hzl : zs.length ≤ 1000000) (hC : CIn W 63 #[P] f g) :
    Calls Tryz.prog 59 #[.func (.func 63) #[] #[P], .pointer (some ⟨B, 0, none⟩), .pointer (some ⟨T, 0, none⟩)] W fun e W' => e = .returned (.tuple #[]) ∧ (∃ c' v', FgI W0 W' T K (zs ++ [(g, c')]) v') ∧ ∀ b, K b → W'.heap[b]? = W.heap[b]? := by
  have HC := hide hC
  have HFG := hide h
  have hTW := h.lt
  have hBl := blk_lt hf
  have rB : rng W B 0 5 = some (fileCs f.kind f.seq f.issued f.base c.1 c.2.1 c.2.2) := rng_whole hf
  have cB : W.cell? ⟨B, 4, none⟩ = some (.slice c.1 c.2.1 c.2.2) := cells_all hf 4
  obtain ⟨ca, cc, cb, co, ce, l1, l2, l3, la, lc⟩ := hc.lt
  obtain ⟨c1, c2, c3⟩ := c
  injection ce with e1 e2 e3
  dsimp only at e1 e2 e3
  subst e1
  subst e2
  subst e3
  dsimp only at rB cB
  have HLA := hide la
  have HLC := hide lc
  have HL2 := hide l2
  obtain ⟨N, hN⟩ : ∃ N, N = f.changes.length := ⟨_, rfl⟩
  have HN := hide hN
  rw [← hN] at rB cB hl
  clear hC h hf hc la lc l1 l2 l3 hN
  go_enter Tryz.func59, Tryz.ntmps59
  go_upto_region 1 with fail
  have HB1 : Hid (Below W.heap.size W (W.alloc (.cells (fileCs f.kind f.seq f.issued f.base c1 N c3) 59))) := (Below.refl _ _).alloc (Nat.le_refl _) _
  have hk1 : (W.alloc (.cells (fileCs f.kind f.seq f.issued f.base c1 N c3) 59)).heap[W.heap.size]? = some (.cells (fileCs f.kind f.seq f.issued f.base c1 N c3) 59 (0, 0)) := heap_alloc_at _ _
  have hz1 : (W.alloc (.cells (fileCs f.kind f.seq f.issued f.base c1 N c3) 59)).heap.size = W.heap.size + 1 := by simp
  generalize W.alloc (.cells (fileCs f.kind f.seq f.issued f.base c1 N c3) 59) = W1 at *
  have cB1 : W1.cell? ⟨B, 4, none⟩ = some (.slice c1 N c3) := (HB1.out.cell (p := ⟨B, 4, none⟩) hBl).trans cB
  have HK1 := hide hk1
  clear rB cB hk1
  go_upto_region 2 with (at_builtin; refine wpList_appN (α := Change) rfl _ _ 57 rfl W1.heap.size 111 changeCs Tryz.underlying57 Tryz.info111 rfl (by decide) changeCs_size changeCs_one _ [] rfl (OwnR.nil _ _ _ _ _) c1 N c3 rfl f.changes HN.out HL2.out.2 (fun h => ⟨cb, co, (HLA.out (by rw [← HN.out]; exact h)).1, fun i hi => (rng_of_block (HB1.out.block _ (HLA.out (by rw [← HN.out]; exact h)).2.2) _ _).trans (HLC.out i hi)⟩) (by simp; omega) (by unfold maxLen; simp; omega) (Nat.le_refl _) ?_; intro v2 W2 hown2 hsame2 hbel2 hat2; rw [List.nil_append] at hown2; obtain ⟨a2, cap2, hv2⟩ := hown2.form; rw [← HN.out] at hv2; subst hv2; have hk2 := (hbel2.block _ (blk_lt HK1.out)).trans HK1.out; have hc2 : W2.cell? ⟨W.heap.size, 4, none⟩ = some (.slice c1 N c3) := cells_all hk2 4; have hf2 : W2.frozen? ⟨W.heap.size, 4, none⟩ = false := (by simp [World.frozen?, hk2]); have hl2 : W.heap.size < W2.heap.size := blk_lt hk2; have HK2 := hide hk2; have HO2 := hide hown2; have HB2 := hide hbel2; clear hown2 hsame2 hbel2 hat2 hk2)
  have HGA : Hid (GA (W2.setCell ⟨W.heap.size, 4, none⟩ (.slice a2 N cap2)) W.heap.size W1.heap.size f (a2, N, cap2)) := ⟨by rw [heap_set3 HK2.out]; rfl, HO2.out.mono (fun b hb => Below.heap_setCell _ _ _ _ (by have := (HO2.out.block b hb).1; show b ≠ W.heap.size; omega)), by omega⟩
  have HB3 : Hid (Below W.heap.size W (W2.setCell ⟨W.heap.size, 4, none⟩ (.slice a2 N cap2))) := (HB1.out.trans (HB2.out.mono (by omega))).setCell (p := ⟨W.heap.size, 4, none⟩) (Nat.le_refl _) _
  clear HK2 HO2 HB2 HK1 HB1 hc2 hf2 cB1 hl2
  generalize W2.setCell ⟨W.heap.size, 4, none⟩ (.slice a2 N cap2) = W3 at *
  have HCC := hide (HC.out W3 _ _ _ HB3.out (Nat.le_refl _) HGA.out)
  clear HC HGA
  change Hid (Calls _ _ #[.pointer (some ⟨W.heap.size, 0, none⟩), P] _ _) at HCC
  go_upto_region 3 with (go_at_call 63; refine HCC.out.mono ?_; rintro e W4 ⟨rfl, ⟨v4, hg4⟩, hb4⟩; have HG4 := hide hg4; have HB4 : Hid (Below W.heap.size W W4) := (HB3.out.trans hb4); clear hg4 hb4)
  clear HCC HB3
  have HF4 := hide (HFG.out.more (K' := K) HB4.out (fun b q => Or.inl q))
  have HZC : Hid (ChangesAt W4 (fun b => T < b ∧ b < W4.heap.size ∧ (sv v).ownBlock ≠ some b) (sv v4) g.changes) := by
    refine (HG4.out.own.rows changeCs_size (by decide) ?_).lt.mono (Same.refl _ _) (fun b q => ⟨by have := q.1; omega, q.2, fun e => ?_⟩)
    · omega
    · have := (HFG.out.own.block b e).2
      have := q.1
      omega
  have r4 : rng W4 W.heap.size 0 5 = some (fileCs g.kind g.seq g.issued g.base v4.1 v4.2.1 v4.2.2) := rng_whole HG4.out.top
  have hl4 := blk_lt HG4.out.top
  have t4 := cells_all HF4.out.cell 0
  simp only [List.getElem?_toArray, List.getElem?_cons_zero] at t4
  have hT4 := HF4.out.lt
  obtain ⟨v1, vn, vc⟩ := v
  replace t4 : W4.cell? ⟨T, 0, none⟩ = some (.slice v1 vn vc) := t4
  have HF5 := hide (HF4.out.more (W' := W4.alloc (.cells (fileCs g.kind g.seq g.issued g.base v4.1 v4.2.1 v4.2.2) 59)) (K' := K) ((Below.refl _ _).alloc (Nat.le_refl _) _) (fun b q => Or.inl q))
  have HR5 : Hid (rng (W4.alloc (.cells (fileCs g.kind g.seq g.issued g.base v4.1 v4.2.1 v4.2.2) 59)) W4.heap.size 0 5 = some (zfCs (g, v4))) := rng_whole (heap_alloc_at _ _)
  have HZ5 : Hid (ChangesAt (W4.alloc (.cells (fileCs g.kind g.seq g.issued g.base v4.1 v4.2.1 v4.2.2) 59)) (fun b => T < b ∧ b < (W4.alloc (.cells (fileCs g.kind g.seq g.issued g.base v4.1 v4.2.1 v4.2.2) 59)).heap.size ∧ (sv (v1, vn, vc)).ownBlock ≠ some b) (sv v4) g.changes) := RArr.mono HZC.out (fun b q => Below.heap_alloc _ _ _ q.2.1) (fun b q => ⟨q.1, by have := q.2.1; simp; omega, q.2.2⟩)
  have HKK : Hid (∀ b, K b → (W4.alloc (.cells (fileCs g.kind g.seq g.issued g.base v4.1 v4.2.1 v4.2.2) 59)).heap[b]? = W.heap[b]?) := fun b q => (Below.heap_alloc _ _ _ (HF4.out.k b q).2.1).trans (HB4.out.block b (HFG.out.k b q).2.1)
  have hb5 : T + 1 ≤ (W4.alloc (.cells (fileCs g.kind g.seq g.issued g.base v4.1 v4.2.1 v4.2.2) 59)).heap.size := by simp; omega
  have hzk : (zs.length + 1) * 48 ≤ 140737488355328 := by omega
  clear HG4 HZC HF4 HFG
  go_wp2_with (at_builtin; refine wpList_app1 (α := ZF) rfl _ _ 43 rfl (T + 1) 59 zfCs Tryz.underlying43 Tryz.info59_c rfl (by decide) zfCs_size zfCs_one _ zs rfl HF5.out.own _ rfl (g, v4) HR5.out hzk (by unfold maxLen; omega) hb5 ?_; intro v6 W6 hown6 hsame6 hbel6 hat6; obtain ⟨a6, c6, e6⟩ := hown6.form; rw [show (zs ++ [(g, v4)]).length = zs.length + 1 by simp] at e6; subst e6; have hk6 := (hsame6 T ⟨by have := HF5.out.lt; omega, fun e => (by have := (HF5.out.own.block T e).1; omega)⟩).trans HF5.out.cell; have hc6 : W6.cell? ⟨T, 0, none⟩ = some (.slice v1 vn vc) := cells_all hk6 0; have hf6 : W6.frozen? ⟨T, 0, none⟩ = false := (by simp [World.frozen?, hk6]); have hl6 : T < W6.heap.size := blk_lt hk6; have HEND := hide (HF5.out.add (v' := (a6, zs.length + 1, c6)) HZ5.out hown6 hsame6 hbel6 hat6); clear hown6 hsame6 hbel6 hat6 hk6)
  go_end0
  exact ⟨rfl, ⟨v4, _, HEND.out.1⟩, fun b q => (HEND.out.2 b q).trans (HKK.out b q)⟩

set_option maxRecDepth 100000 in
set_option maxHeartbeats 2000000 in
theorem tamper64 (W0 W : World) (T B : Nat) (K : Nat → Prop) (zs : List ZF) (v : SV) (f g : File) (c : SV) (P : Value) (h : FgI W0 W T K zs v) (hf : W.heap[B]? = some (.cells (zfCs (f, c)) 59 (0, 0))) (hc : ChangesAt W (fun _ => True) (sv c) f.changes) (hl : f.changes.length ≤ 65536) (hgl : g.changes.length ≤ 65536) (hzl : zs.length ≤ 1000000) (hC : CIn W 64 #[P] f g) :
    Calls Tryz.prog 59 #[.func (.func 64) #[] #[P], .pointer (some ⟨B, 0, none⟩), .pointer (some ⟨T, 0, none⟩)] W fun e W' => e = .returned (.tuple #[]) ∧ (∃ c' v', FgI W0 W' T K (zs ++ [(g, c')]) v') ∧ ∀ b, K b → W'.heap[b]? = W.heap[b]? := by
  have HC := hide hC
  have HFG := hide h
  have hTW := h.lt
  have hBl := blk_lt hf
  have rB : rng W B 0 5 = some (fileCs f.kind f.seq f.issued f.base c.1 c.2.1 c.2.2) := rng_whole hf
  have cB : W.cell? ⟨B, 4, none⟩ = some (.slice c.1 c.2.1 c.2.2) := cells_all hf 4
  obtain ⟨ca, cc, cb, co, ce, l1, l2, l3, la, lc⟩ := hc.lt
  obtain ⟨c1, c2, c3⟩ := c
  injection ce with e1 e2 e3
  dsimp only at e1 e2 e3
  subst e1
  subst e2
  subst e3
  dsimp only at rB cB
  have HLA := hide la
  have HLC := hide lc
  have HL2 := hide l2
  obtain ⟨N, hN⟩ : ∃ N, N = f.changes.length := ⟨_, rfl⟩
  have HN := hide hN
  rw [← hN] at rB cB hl
  clear hC h hf hc la lc l1 l2 l3 hN
  go_enter Tryz.func59, Tryz.ntmps59
  go_upto_region 1 with fail
  have HB1 : Hid (Below W.heap.size W (W.alloc (.cells (fileCs f.kind f.seq f.issued f.base c1 N c3) 59))) := (Below.refl _ _).alloc (Nat.le_refl _) _
  have hk1 : (W.alloc (.cells (fileCs f.kind f.seq f.issued f.base c1 N c3) 59)).heap[W.heap.size]? = some (.cells (fileCs f.kind f.seq f.issued f.base c1 N c3) 59 (0, 0)) := heap_alloc_at _ _
  have hz1 : (W.alloc (.cells (fileCs f.kind f.seq f.issued f.base c1 N c3) 59)).heap.size = W.heap.size + 1 := by simp
  generalize W.alloc (.cells (fileCs f.kind f.seq f.issued f.base c1 N c3) 59) = W1 at *
  have cB1 : W1.cell? ⟨B, 4, none⟩ = some (.slice c1 N c3) := (HB1.out.cell (p := ⟨B, 4, none⟩) hBl).trans cB
  have HK1 := hide hk1
  clear rB cB hk1
  go_upto_region 2 with (at_builtin; refine wpList_appN (α := Change) rfl _ _ 57 rfl W1.heap.size 111 changeCs Tryz.underlying57 Tryz.info111 rfl (by decide) changeCs_size changeCs_one _ [] rfl (OwnR.nil _ _ _ _ _) c1 N c3 rfl f.changes HN.out HL2.out.2 (fun h => ⟨cb, co, (HLA.out (by rw [← HN.out]; exact h)).1, fun i hi => (rng_of_block (HB1.out.block _ (HLA.out (by rw [← HN.out]; exact h)).2.2) _ _).trans (HLC.out i hi)⟩) (by simp; omega) (by unfold maxLen; simp; omega) (Nat.le_refl _) ?_; intro v2 W2 hown2 hsame2 hbel2 hat2; rw [List.nil_append] at hown2; obtain ⟨a2, cap2, hv2⟩ := hown2.form; rw [← HN.out] at hv2; subst hv2; have hk2 := (hbel2.block _ (blk_lt HK1.out)).trans HK1.out; have hc2 : W2.cell? ⟨W.heap.size, 4, none⟩ = some (.slice c1 N c3) := cells_all hk2 4; have hf2 : W2.frozen? ⟨W.heap.size, 4, none⟩ = false := (by simp [World.frozen?, hk2]); have hl2 : W.heap.size < W2.heap.size := blk_lt hk2; have HK2 := hide hk2; have HO2 := hide hown2; have HB2 := hide hbel2; clear hown2 hsame2 hbel2 hat2 hk2)
  have HGA : Hid (GA (W2.setCell ⟨W.heap.size, 4, none⟩ (.slice a2 N cap2)) W.heap.size W1.heap.size f (a2, N, cap2)) := ⟨by rw [heap_set3 HK2.out]; rfl, HO2.out.mono (fun b hb => Below.heap_setCell _ _ _ _ (by have := (HO2.out.block b hb).1; show b ≠ W.heap.size; omega)), by omega⟩
  have HB3 : Hid (Below W.heap.size W (W2.setCell ⟨W.heap.size, 4, none⟩ (.slice a2 N cap2))) := (HB1.out.trans (HB2.out.mono (by omega))).setCell (p := ⟨W.heap.size, 4, none⟩) (Nat.le_refl _) _
  clear HK2 HO2 HB2 HK1 HB1 hc2 hf2 cB1 hl2
  generalize W2.setCell ⟨W.heap.size, 4, none⟩ (.slice a2 N cap2) = W3 at *
  have HCC := hide (HC.out W3 _ _ _ HB3.out (Nat.le_refl _) HGA.out)
  clear HC HGA
  change Hid (Calls _ _ #[.pointer (some ⟨W.heap.size, 0, none⟩), P] _ _) at HCC
  go_upto_region 3 with (go_at_call 64; refine HCC.out.mono ?_; rintro e W4 ⟨rfl, ⟨v4, hg4⟩, hb4⟩; have HG4 := hide hg4; have HB4 : Hid (Below W.heap.size W W4) := (HB3.out.trans hb4); clear hg4 hb4)
  clear HCC HB3
  have HF4 := hide (HFG.out.more (K' := K) HB4.out (fun b q => Or.inl q))
  have HZC : Hid (ChangesAt W4 (fun b => T < b ∧ b < W4.heap.size ∧ (sv v).ownBlock ≠ some b) (sv v4) g.changes) := by
    refine (HG4.out.own.rows changeCs_size (by decide) ?_).lt.mono (Same.refl _ _) (fun b q => ⟨by have := q.1; omega, q.2, fun e => ?_⟩)
    · omega
    · have := (HFG.out.own.block b e).2
      have := q.1
      omega
  have r4 : rng W4 W.heap.size 0 5 = some (fileCs g.kind g.seq g.issued g.base v4.1 v4.2.1 v4.2.2) := rng_whole HG4.out.top
  have hl4 := blk_lt HG4.out.top
  have t4 := cells_all HF4.out.cell 0
  simp only [List.getElem?_toArray, List.getElem?_cons_zero] at t4
  have hT4 := HF4.out.lt
  obtain ⟨v1, vn, vc⟩ := v
  replace t4 : W4.cell? ⟨T, 0, none⟩ = some (.slice v1 vn vc) := t4
  have HF5 := hide (HF4.out.more (W' := W4.alloc (.cells (fileCs g.kind g.seq g.issued g.base v4.1 v4.2.1 v4.2.2) 59)) (K' := K) ((Below.refl _ _).alloc (Nat.le_refl _) _) (fun b q => Or.inl q))
  have HR5 : Hid (rng (W4.alloc (.cells (fileCs g.kind g.seq g.issued g.base v4.1 v4.2.1 v4.2.2) 59)) W4.heap.size 0 5 = some (zfCs (g, v4))) := rng_whole (heap_alloc_at _ _)
  have HZ5 : Hid (ChangesAt (W4.alloc (.cells (fileCs g.kind g.seq g.issued g.base v4.1 v4.2.1 v4.2.2) 59)) (fun b => T < b ∧ b < (W4.alloc (.cells (fileCs g.kind g.seq g.issued g.base v4.1 v4.2.1 v4.2.2) 59)).heap.size ∧ (sv (v1, vn, vc)).ownBlock ≠ some b) (sv v4) g.changes) := RArr.mono HZC.out (fun b q => Below.heap_alloc _ _ _ q.2.1) (fun b q => ⟨q.1, by have := q.2.1; simp; omega, q.2.2⟩)
  have HKK : Hid (∀ b, K b → (W4.alloc (.cells (fileCs g.kind g.seq g.issued g.base v4.1 v4.2.1 v4.2.2) 59)).heap[b]? = W.heap[b]?) := fun b q => (Below.heap_alloc _ _ _ (HF4.out.k b q).2.1).trans (HB4.out.block b (HFG.out.k b q).2.1)
  have hb5 : T + 1 ≤ (W4.alloc (.cells (fileCs g.kind g.seq g.issued g.base v4.1 v4.2.1 v4.2.2) 59)).heap.size := by simp; omega
  have hzk : (zs.length + 1) * 48 ≤ 140737488355328 := by omega
  clear HG4 HZC HF4 HFG
  go_wp2_with (at_builtin; refine wpList_app1 (α := ZF) rfl _ _ 43 rfl (T + 1) 59 zfCs Tryz.underlying43 Tryz.info59_c rfl (by decide) zfCs_size zfCs_one _ zs rfl HF5.out.own _ rfl (g, v4) HR5.out hzk (by unfold maxLen; omega) hb5 ?_; intro v6 W6 hown6 hsame6 hbel6 hat6; obtain ⟨a6, c6, e6⟩ := hown6.form; rw [show (zs ++ [(g, v4)]).length = zs.length + 1 by simp] at e6; subst e6; have hk6 := (hsame6 T ⟨by have := HF5.out.lt; omega, fun e => (by have := (HF5.out.own.block T e).1; omega)⟩).trans HF5.out.cell; have hc6 : W6.cell? ⟨T, 0, none⟩ = some (.slice v1 vn vc) := cells_all hk6 0; have hf6 : W6.frozen? ⟨T, 0, none⟩ = false := (by simp [World.frozen?, hk6]); have hl6 : T < W6.heap.size := blk_lt hk6; have HEND := hide (HF5.out.add (v' := (a6, zs.length + 1, c6)) HZ5.out hown6 hsame6 hbel6 hat6); clear hown6 hsame6 hbel6 hat6 hk6)
  go_end0
  exact ⟨rfl, ⟨v4, _, HEND.out.1⟩, fun b q => (HEND.out.2 b q).trans (HKK.out b q)⟩

set_option maxRecDepth 100000 in
set_option maxHeartbeats 2000000 in
theorem tamper65 (W0 W : World) (T B : Nat) (K : Nat → Prop) (zs : List ZF) (v : SV) (f g : File) (c : SV) (P : Value) (h : FgI W0 W T K zs v) (hf : W.heap[B]? = some (.cells (zfCs (f, c)) 59 (0, 0))) (hc : ChangesAt W (fun _ => True) (sv c) f.changes) (hl : f.changes.length ≤ 65536) (hgl : g.changes.length ≤ 65536) (hzl : zs.length ≤ 1000000) (hC : CIn W 65 #[P] f g) :
    Calls Tryz.prog 59 #[.func (.func 65) #[] #[P], .pointer (some ⟨B, 0, none⟩), .pointer (some ⟨T, 0, none⟩)] W fun e W' => e = .returned (.tuple #[]) ∧ (∃ c' v', FgI W0 W' T K (zs ++ [(g, c')]) v') ∧ ∀ b, K b → W'.heap[b]? = W.heap[b]? := by
  have HC := hide hC
  have HFG := hide h
  have hTW := h.lt
  have hBl := blk_lt hf
  have rB : rng W B 0 5 = some (fileCs f.kind f.seq f.issued f.base c.1 c.2.1 c.2.2) := rng_whole hf
  have cB : W.cell? ⟨B, 4, none⟩ = some (.slice c.1 c.2.1 c.2.2) := cells_all hf 4
  obtain ⟨ca, cc, cb, co, ce, l1, l2, l3, la, lc⟩ := hc.lt
  obtain ⟨c1, c2, c3⟩ := c
  injection ce with e1 e2 e3
  dsimp only at e1 e2 e3
  subst e1
  subst e2
  subst e3
  dsimp only at rB cB
  have HLA := hide la
  have HLC := hide lc
  have HL2 := hide l2
  obtain ⟨N, hN⟩ : ∃ N, N = f.changes.length := ⟨_, rfl⟩
  have HN := hide hN
  rw [← hN] at rB cB hl
  clear hC h hf hc la lc l1 l2 l3 hN
  go_enter Tryz.func59, Tryz.ntmps59
  go_upto_region 1 with fail
  have HB1 : Hid (Below W.heap.size W (W.alloc (.cells (fileCs f.kind f.seq f.issued f.base c1 N c3) 59))) := (Below.refl _ _).alloc (Nat.le_refl _) _
  have hk1 : (W.alloc (.cells (fileCs f.kind f.seq f.issued f.base c1 N c3) 59)).heap[W.heap.size]? = some (.cells (fileCs f.kind f.seq f.issued f.base c1 N c3) 59 (0, 0)) := heap_alloc_at _ _
  have hz1 : (W.alloc (.cells (fileCs f.kind f.seq f.issued f.base c1 N c3) 59)).heap.size = W.heap.size + 1 := by simp
  generalize W.alloc (.cells (fileCs f.kind f.seq f.issued f.base c1 N c3) 59) = W1 at *
  have cB1 : W1.cell? ⟨B, 4, none⟩ = some (.slice c1 N c3) := (HB1.out.cell (p := ⟨B, 4, none⟩) hBl).trans cB
  have HK1 := hide hk1
  clear rB cB hk1
  go_upto_region 2 with (at_builtin; refine wpList_appN (α := Change) rfl _ _ 57 rfl W1.heap.size 111 changeCs Tryz.underlying57 Tryz.info111 rfl (by decide) changeCs_size changeCs_one _ [] rfl (OwnR.nil _ _ _ _ _) c1 N c3 rfl f.changes HN.out HL2.out.2 (fun h => ⟨cb, co, (HLA.out (by rw [← HN.out]; exact h)).1, fun i hi => (rng_of_block (HB1.out.block _ (HLA.out (by rw [← HN.out]; exact h)).2.2) _ _).trans (HLC.out i hi)⟩) (by simp; omega) (by unfold maxLen; simp; omega) (Nat.le_refl _) ?_; intro v2 W2 hown2 hsame2 hbel2 hat2; rw [List.nil_append] at hown2; obtain ⟨a2, cap2, hv2⟩ := hown2.form; rw [← HN.out] at hv2; subst hv2; have hk2 := (hbel2.block _ (blk_lt HK1.out)).trans HK1.out; have hc2 : W2.cell? ⟨W.heap.size, 4, none⟩ = some (.slice c1 N c3) := cells_all hk2 4; have hf2 : W2.frozen? ⟨W.heap.size, 4, none⟩ = false := (by simp [World.frozen?, hk2]); have hl2 : W.heap.size < W2.heap.size := blk_lt hk2; have HK2 := hide hk2; have HO2 := hide hown2; have HB2 := hide hbel2; clear hown2 hsame2 hbel2 hat2 hk2)
  have HGA : Hid (GA (W2.setCell ⟨W.heap.size, 4, none⟩ (.slice a2 N cap2)) W.heap.size W1.heap.size f (a2, N, cap2)) := ⟨by rw [heap_set3 HK2.out]; rfl, HO2.out.mono (fun b hb => Below.heap_setCell _ _ _ _ (by have := (HO2.out.block b hb).1; show b ≠ W.heap.size; omega)), by omega⟩
  have HB3 : Hid (Below W.heap.size W (W2.setCell ⟨W.heap.size, 4, none⟩ (.slice a2 N cap2))) := (HB1.out.trans (HB2.out.mono (by omega))).setCell (p := ⟨W.heap.size, 4, none⟩) (Nat.le_refl _) _
  clear HK2 HO2 HB2 HK1 HB1 hc2 hf2 cB1 hl2
  generalize W2.setCell ⟨W.heap.size, 4, none⟩ (.slice a2 N cap2) = W3 at *
  have HCC := hide (HC.out W3 _ _ _ HB3.out (Nat.le_refl _) HGA.out)
  clear HC HGA
  change Hid (Calls _ _ #[.pointer (some ⟨W.heap.size, 0, none⟩), P] _ _) at HCC
  go_upto_region 3 with (go_at_call 65; refine HCC.out.mono ?_; rintro e W4 ⟨rfl, ⟨v4, hg4⟩, hb4⟩; have HG4 := hide hg4; have HB4 : Hid (Below W.heap.size W W4) := (HB3.out.trans hb4); clear hg4 hb4)
  clear HCC HB3
  have HF4 := hide (HFG.out.more (K' := K) HB4.out (fun b q => Or.inl q))
  have HZC : Hid (ChangesAt W4 (fun b => T < b ∧ b < W4.heap.size ∧ (sv v).ownBlock ≠ some b) (sv v4) g.changes) := by
    refine (HG4.out.own.rows changeCs_size (by decide) ?_).lt.mono (Same.refl _ _) (fun b q => ⟨by have := q.1; omega, q.2, fun e => ?_⟩)
    · omega
    · have := (HFG.out.own.block b e).2
      have := q.1
      omega
  have r4 : rng W4 W.heap.size 0 5 = some (fileCs g.kind g.seq g.issued g.base v4.1 v4.2.1 v4.2.2) := rng_whole HG4.out.top
  have hl4 := blk_lt HG4.out.top
  have t4 := cells_all HF4.out.cell 0
  simp only [List.getElem?_toArray, List.getElem?_cons_zero] at t4
  have hT4 := HF4.out.lt
  obtain ⟨v1, vn, vc⟩ := v
  replace t4 : W4.cell? ⟨T, 0, none⟩ = some (.slice v1 vn vc) := t4
  have HF5 := hide (HF4.out.more (W' := W4.alloc (.cells (fileCs g.kind g.seq g.issued g.base v4.1 v4.2.1 v4.2.2) 59)) (K' := K) ((Below.refl _ _).alloc (Nat.le_refl _) _) (fun b q => Or.inl q))
  have HR5 : Hid (rng (W4.alloc (.cells (fileCs g.kind g.seq g.issued g.base v4.1 v4.2.1 v4.2.2) 59)) W4.heap.size 0 5 = some (zfCs (g, v4))) := rng_whole (heap_alloc_at _ _)
  have HZ5 : Hid (ChangesAt (W4.alloc (.cells (fileCs g.kind g.seq g.issued g.base v4.1 v4.2.1 v4.2.2) 59)) (fun b => T < b ∧ b < (W4.alloc (.cells (fileCs g.kind g.seq g.issued g.base v4.1 v4.2.1 v4.2.2) 59)).heap.size ∧ (sv (v1, vn, vc)).ownBlock ≠ some b) (sv v4) g.changes) := RArr.mono HZC.out (fun b q => Below.heap_alloc _ _ _ q.2.1) (fun b q => ⟨q.1, by have := q.2.1; simp; omega, q.2.2⟩)
  have HKK : Hid (∀ b, K b → (W4.alloc (.cells (fileCs g.kind g.seq g.issued g.base v4.1 v4.2.1 v4.2.2) 59)).heap[b]? = W.heap[b]?) := fun b q => (Below.heap_alloc _ _ _ (HF4.out.k b q).2.1).trans (HB4.out.block b (HFG.out.k b q).2.1)
  have hb5 : T + 1 ≤ (W4.alloc (.cells (fileCs g.kind g.seq g.issued g.base v4.1 v4.2.1 v4.2.2) 59)).heap.size := by simp; omega
  have hzk : (zs.length + 1) * 48 ≤ 140737488355328 := by omega
  clear HG4 HZC HF4 HFG
  go_wp2_with (at_builtin; refine wpList_app1 (α := ZF) rfl _ _ 43 rfl (T + 1) 59 zfCs Tryz.underlying43 Tryz.info59_c rfl (by decide) zfCs_size zfCs_one _ zs rfl HF5.out.own _ rfl (g, v4) HR5.out hzk (by unfold maxLen; omega) hb5 ?_; intro v6 W6 hown6 hsame6 hbel6 hat6; obtain ⟨a6, c6, e6⟩ := hown6.form; rw [show (zs ++ [(g, v4)]).length = zs.length + 1 by simp] at e6; subst e6; have hk6 := (hsame6 T ⟨by have := HF5.out.lt; omega, fun e => (by have := (HF5.out.own.block T e).1; omega)⟩).trans HF5.out.cell; have hc6 : W6.cell? ⟨T, 0, none⟩ = some (.slice v1 vn vc) := cells_all hk6 0; have hf6 : W6.frozen? ⟨T, 0, none⟩ = false := (by simp [World.frozen?, hk6]); have hl6 : T < W6.heap.size := blk_lt hk6; have HEND := hide (HF5.out.add (v' := (a6, zs.length + 1, c6)) HZ5.out hown6 hsame6 hbel6 hat6); clear hown6 hsame6 hbel6 hat6 hk6)
  go_end0
  exact ⟨rfl, ⟨v4, _, HEND.out.1⟩, fun b q => (HEND.out.2 b q).trans (HKK.out b q)⟩

set_option maxRecDepth 100000 in
set_option maxHeartbeats 2000000 in
theorem tamper66 (W0 W : World) (T B : Nat) (K : Nat → Prop) (zs : List ZF) (v : SV) (f g : File) (c : SV) (P : Value) (h : FgI W0 W T K zs v) (hf : W.heap[B]? = some (.cells (zfCs (f, c)) 59 (0, 0))) (hc : ChangesAt W (fun _ => True) (sv c) f.changes) (hl : f.changes.length ≤ 65536) (hgl : g.changes.length ≤ 65536) (hzl : zs.length ≤ 1000000) (hC : CIn W 66 #[P] f g) :
    Calls Tryz.prog 59 #[.func (.func 66) #[] #[P], .pointer (some ⟨B, 0, none⟩), .pointer (some ⟨T, 0, none⟩)] W fun e W' => e = .returned (.tuple #[]) ∧ (∃ c' v', FgI W0 W' T K (zs ++ [(g, c')]) v') ∧ ∀ b, K b → W'.heap[b]? = W.heap[b]? := by
  have HC := hide hC
  have HFG := hide h
  have hTW := h.lt
  have hBl := blk_lt hf
  have rB : rng W B 0 5 = some (fileCs f.kind f.seq f.issued f.base c.1 c.2.1 c.2.2) := rng_whole hf
  have cB : W.cell? ⟨B, 4, none⟩ = some (.slice c.1 c.2.1 c.2.2) := cells_all hf 4
  obtain ⟨ca, cc, cb, co, ce, l1, l2, l3, la, lc⟩ := hc.lt
  obtain ⟨c1, c2, c3⟩ := c
  injection ce with e1 e2 e3
  dsimp only at e1 e2 e3
  subst e1
  subst e2
  subst e3
  dsimp only at rB cB
  have HLA := hide la
  have HLC := hide lc
  have HL2 := hide l2
  obtain ⟨N, hN⟩ : ∃ N, N = f.changes.length := ⟨_, rfl⟩
  have HN := hide hN
  rw [← hN] at rB cB hl
  clear hC h hf hc la lc l1 l2 l3 hN
  go_enter Tryz.func59, Tryz.ntmps59
  go_upto_region 1 with fail
  have HB1 : Hid (Below W.heap.size W (W.alloc (.cells (fileCs f.kind f.seq f.issued f.base c1 N c3) 59))) := (Below.refl _ _).alloc (Nat.le_refl _) _
  have hk1 : (W.alloc (.cells (fileCs f.kind f.seq f.issued f.base c1 N c3) 59)).heap[W.heap.size]? = some (.cells (fileCs f.kind f.seq f.issued f.base c1 N c3) 59 (0, 0)) := heap_alloc_at _ _
  have hz1 : (W.alloc (.cells (fileCs f.kind f.seq f.issued f.base c1 N c3) 59)).heap.size = W.heap.size + 1 := by simp
  generalize W.alloc (.cells (fileCs f.kind f.seq f.issued f.base c1 N c3) 59) = W1 at *
  have cB1 : W1.cell? ⟨B, 4, none⟩ = some (.slice c1 N c3) := (HB1.out.cell (p := ⟨B, 4, none⟩) hBl).trans cB
  have HK1 := hide hk1
  clear rB cB hk1
  go_upto_region 2 with (at_builtin; refine wpList_appN (α := Change) rfl _ _ 57 rfl W1.heap.size 111 changeCs Tryz.underlying57 Tryz.info111 rfl (by decide) changeCs_size changeCs_one _ [] rfl (OwnR.nil _ _ _ _ _) c1 N c3 rfl f.changes HN.out HL2.out.2 (fun h => ⟨cb, co, (HLA.out (by rw [← HN.out]; exact h)).1, fun i hi => (rng_of_block (HB1.out.block _ (HLA.out (by rw [← HN.out]; exact h)).2.2) _ _).trans (HLC.out i hi)⟩) (by simp; omega) (by unfold maxLen; simp; omega) (Nat.le_refl _) ?_; intro v2 W2 hown2 hsame2 hbel2 hat2; rw [List.nil_append] at hown2; obtain ⟨a2, cap2, hv2⟩ := hown2.form; rw [← HN.out] at hv2; subst hv2; have hk2 := (hbel2.block _ (blk_lt HK1.out)).trans HK1.out; have hc2 : W2.cell? ⟨W.heap.size, 4, none⟩ = some (.slice c1 N c3) := cells_all hk2 4; have hf2 : W2.frozen? ⟨W.heap.size, 4, none⟩ = false := (by simp [World.frozen?, hk2]); have hl2 : W.heap.size < W2.heap.size := blk_lt hk2; have HK2 := hide hk2; have HO2 := hide hown2; have HB2 := hide hbel2; clear hown2 hsame2 hbel2 hat2 hk2)
  have HGA : Hid (GA (W2.setCell ⟨W.heap.size, 4, none⟩ (.slice a2 N cap2)) W.heap.size W1.heap.size f (a2, N, cap2)) := ⟨by rw [heap_set3 HK2.out]; rfl, HO2.out.mono (fun b hb => Below.heap_setCell _ _ _ _ (by have := (HO2.out.block b hb).1; show b ≠ W.heap.size; omega)), by omega⟩
  have HB3 : Hid (Below W.heap.size W (W2.setCell ⟨W.heap.size, 4, none⟩ (.slice a2 N cap2))) := (HB1.out.trans (HB2.out.mono (by omega))).setCell (p := ⟨W.heap.size, 4, none⟩) (Nat.le_refl _) _
  clear HK2 HO2 HB2 HK1 HB1 hc2 hf2 cB1 hl2
  generalize W2.setCell ⟨W.heap.size, 4, none⟩ (.slice a2 N cap2) = W3 at *
  have HCC := hide (HC.out W3 _ _ _ HB3.out (Nat.le_refl _) HGA.out)
  clear HC HGA
  change Hid (Calls _ _ #[.pointer (some ⟨W.heap.size, 0, none⟩), P] _ _) at HCC
  go_upto_region 3 with (go_at_call 66; refine HCC.out.mono ?_; rintro e W4 ⟨rfl, ⟨v4, hg4⟩, hb4⟩; have HG4 := hide hg4; have HB4 : Hid (Below W.heap.size W W4) := (HB3.out.trans hb4); clear hg4 hb4)
  clear HCC HB3
  have HF4 := hide (HFG.out.more (K' := K) HB4.out (fun b q => Or.inl q))
  have HZC : Hid (ChangesAt W4 (fun b => T < b ∧ b < W4.heap.size ∧ (sv v).ownBlock ≠ some b) (sv v4) g.changes) := by
    refine (HG4.out.own.rows changeCs_size (by decide) ?_).lt.mono (Same.refl _ _) (fun b q => ⟨by have := q.1; omega, q.2, fun e => ?_⟩)
    · omega
    · have := (HFG.out.own.block b e).2
      have := q.1
      omega
  have r4 : rng W4 W.heap.size 0 5 = some (fileCs g.kind g.seq g.issued g.base v4.1 v4.2.1 v4.2.2) := rng_whole HG4.out.top
  have hl4 := blk_lt HG4.out.top
  have t4 := cells_all HF4.out.cell 0
  simp only [List.getElem?_toArray, List.getElem?_cons_zero] at t4
  have hT4 := HF4.out.lt
  obtain ⟨v1, vn, vc⟩ := v
  replace t4 : W4.cell? ⟨T, 0, none⟩ = some (.slice v1 vn vc) := t4
  have HF5 := hide (HF4.out.more (W' := W4.alloc (.cells (fileCs g.kind g.seq g.issued g.base v4.1 v4.2.1 v4.2.2) 59)) (K' := K) ((Below.refl _ _).alloc (Nat.le_refl _) _) (fun b q => Or.inl q))
  have HR5 : Hid (rng (W4.alloc (.cells (fileCs g.kind g.seq g.issued g.base v4.1 v4.2.1 v4.2.2) 59)) W4.heap.size 0 5 = some (zfCs (g, v4))) := rng_whole (heap_alloc_at _ _)
  have HZ5 : Hid (ChangesAt (W4.alloc (.cells (fileCs g.kind g.seq g.issued g.base v4.1 v4.2.1 v4.2.2) 59)) (fun b => T < b ∧ b < (W4.alloc (.cells (fileCs g.kind g.seq g.issued g.base v4.1 v4.2.1 v4.2.2) 59)).heap.size ∧ (sv (v1, vn, vc)).ownBlock ≠ some b) (sv v4) g.changes) := RArr.mono HZC.out (fun b q => Below.heap_alloc _ _ _ q.2.1) (fun b q => ⟨q.1, by have := q.2.1; simp; omega, q.2.2⟩)
  have HKK : Hid (∀ b, K b → (W4.alloc (.cells (fileCs g.kind g.seq g.issued g.base v4.1 v4.2.1 v4.2.2) 59)).heap[b]? = W.heap[b]?) := fun b q => (Below.heap_alloc _ _ _ (HF4.out.k b q).2.1).trans (HB4.out.block b (HFG.out.k b q).2.1)
  have hb5 : T + 1 ≤ (W4.alloc (.cells (fileCs g.kind g.seq g.issued g.base v4.1 v4.2.1 v4.2.2) 59)).heap.size := by simp; omega
  have hzk : (zs.length + 1) * 48 ≤ 140737488355328 := by omega
  clear HG4 HZC HF4 HFG
  go_wp2_with (at_builtin; refine wpList_app1 (α := ZF) rfl _ _ 43 rfl (T + 1) 59 zfCs Tryz.underlying43 Tryz.info59_c rfl (by decide) zfCs_size zfCs_one _ zs rfl HF5.out.own _ rfl (g, v4) HR5.out hzk (by unfold maxLen; omega) hb5 ?_; intro v6 W6 hown6 hsame6 hbel6 hat6; obtain ⟨a6, c6, e6⟩ := hown6.form; rw [show (zs ++ [(g, v4)]).length = zs.length + 1 by simp] at e6; subst e6; have hk6 := (hsame6 T ⟨by have := HF5.out.lt; omega, fun e => (by have := (HF5.out.own.block T e).1; omega)⟩).trans HF5.out.cell; have hc6 : W6.cell? ⟨T, 0, none⟩ = some (.slice v1 vn vc) := cells_all hk6 0; have hf6 : W6.frozen? ⟨T, 0, none⟩ = false := (by simp [World.frozen?, hk6]); have hl6 : T < W6.heap.size := blk_lt hk6; have HEND := hide (HF5.out.add (v' := (a6, zs.length + 1, c6)) HZ5.out hown6 hsame6 hbel6 hat6); clear hown6 hsame6 hbel6 hat6 hk6)
  go_end0
  exact ⟨rfl, ⟨v4, _, HEND.out.1⟩, fun b q => (HEND.out.2 b q).trans (HKK.out b q)⟩

set_option maxRecDepth 100000 in
set_option maxHeartbeats 2000000 in
theorem tamper67 (W0 W : World) (T B : Nat) (K : Nat → Prop) (zs : List ZF) (v : SV) (f g : File) (c : SV) (P : Value) (h : FgI W0 W T K zs v) (hf : W.heap[B]? = some (.cells (zfCs (f, c)) 59 (0, 0))) (hc : ChangesAt W (fun _ => True) (sv c) f.changes) (hl : f.changes.length ≤ 65536) (hgl : g.changes.length ≤ 65536) (hzl : zs.length ≤ 1000000) (hC : CIn W 67 #[P] f g) :
    Calls Tryz.prog 59 #[.func (.func 67) #[] #[P], .pointer (some ⟨B, 0, none⟩), .pointer (some ⟨T, 0, none⟩)] W fun e W' => e = .returned (.tuple #[]) ∧ (∃ c' v', FgI W0 W' T K (zs ++ [(g, c')]) v') ∧ ∀ b, K b → W'.heap[b]? = W.heap[b]? := by
  have HC := hide hC
  have HFG := hide h
  have hTW := h.lt
  have hBl := blk_lt hf
  have rB : rng W B 0 5 = some (fileCs f.kind f.seq f.issued f.base c.1 c.2.1 c.2.2) := rng_whole hf
  have cB : W.cell? ⟨B, 4, none⟩ = some (.slice c.1 c.2.1 c.2.2) := cells_all hf 4
  obtain ⟨ca, cc, cb, co, ce, l1, l2, l3, la, lc⟩ := hc.lt
  obtain ⟨c1, c2, c3⟩ := c
  injection ce with e1 e2 e3
  dsimp only at e1 e2 e3
  subst e1
  subst e2
  subst e3
  dsimp only at rB cB
  have HLA := hide la
  have HLC := hide lc
  have HL2 := hide l2
  obtain ⟨N, hN⟩ : ∃ N, N = f.changes.length := ⟨_, rfl⟩
  have HN := hide hN
  rw [← hN] at rB cB hl
  clear hC h hf hc la lc l1 l2 l3 hN
  go_enter Tryz.func59, Tryz.ntmps59
  go_upto_region 1 with fail
  have HB1 : Hid (Below W.heap.size W (W.alloc (.cells (fileCs f.kind f.seq f.issued f.base c1 N c3) 59))) := (Below.refl _ _).alloc (Nat.le_refl _) _
  have hk1 : (W.alloc (.cells (fileCs f.kind f.seq f.issued f.base c1 N c3) 59)).heap[W.heap.size]? = some (.cells (fileCs f.kind f.seq f.issued f.base c1 N c3) 59 (0, 0)) := heap_alloc_at _ _
  have hz1 : (W.alloc (.cells (fileCs f.kind f.seq f.issued f.base c1 N c3) 59)).heap.size = W.heap.size + 1 := by simp
  generalize W.alloc (.cells (fileCs f.kind f.seq f.issued f.base c1 N c3) 59) = W1 at *
  have cB1 : W1.cell? ⟨B, 4, none⟩ = some (.slice c1 N c3) := (HB1.out.cell (p := ⟨B, 4, none⟩) hBl).trans cB
  have HK1 := hide hk1
  clear rB cB hk1
  go_upto_region 2 with (at_builtin; refine wpList_appN (α := Change) rfl _ _ 57 rfl W1.heap.size 111 changeCs Tryz.underlying57 Tryz.info111 rfl (by decide) changeCs_size changeCs_one _ [] rfl (OwnR.nil _ _ _ _ _) c1 N c3 rfl f.changes HN.out HL2.out.2 (fun h => ⟨cb, co, (HLA.out (by rw [← HN.out]; exact h)).1, fun i hi => (rng_of_block (HB1.out.block _ (HLA.out (by rw [← HN.out]; exact h)).2.2) _ _).trans (HLC.out i hi)⟩) (by simp; omega) (by unfold maxLen; simp; omega) (Nat.le_refl _) ?_; intro v2 W2 hown2 hsame2 hbel2 hat2; rw [List.nil_append] at hown2; obtain ⟨a2, cap2, hv2⟩ := hown2.form; rw [← HN.out] at hv2; subst hv2; have hk2 := (hbel2.block _ (blk_lt HK1.out)).trans HK1.out; have hc2 : W2.cell? ⟨W.heap.size, 4, none⟩ = some (.slice c1 N c3) := cells_all hk2 4; have hf2 : W2.frozen? ⟨W.heap.size, 4, none⟩ = false := (by simp [World.frozen?, hk2]); have hl2 : W.heap.size < W2.heap.size := blk_lt hk2; have HK2 := hide hk2; have HO2 := hide hown2; have HB2 := hide hbel2; clear hown2 hsame2 hbel2 hat2 hk2)
  have HGA : Hid (GA (W2.setCell ⟨W.heap.size, 4, none⟩ (.slice a2 N cap2)) W.heap.size W1.heap.size f (a2, N, cap2)) := ⟨by rw [heap_set3 HK2.out]; rfl, HO2.out.mono (fun b hb => Below.heap_setCell _ _ _ _ (by have := (HO2.out.block b hb).1; show b ≠ W.heap.size; omega)), by omega⟩
  have HB3 : Hid (Below W.heap.size W (W2.setCell ⟨W.heap.size, 4, none⟩ (.slice a2 N cap2))) := (HB1.out.trans (HB2.out.mono (by omega))).setCell (p := ⟨W.heap.size, 4, none⟩) (Nat.le_refl _) _
  clear HK2 HO2 HB2 HK1 HB1 hc2 hf2 cB1 hl2
  generalize W2.setCell ⟨W.heap.size, 4, none⟩ (.slice a2 N cap2) = W3 at *
  have HCC := hide (HC.out W3 _ _ _ HB3.out (Nat.le_refl _) HGA.out)
  clear HC HGA
  change Hid (Calls _ _ #[.pointer (some ⟨W.heap.size, 0, none⟩), P] _ _) at HCC
  go_upto_region 3 with (go_at_call 67; refine HCC.out.mono ?_; rintro e W4 ⟨rfl, ⟨v4, hg4⟩, hb4⟩; have HG4 := hide hg4; have HB4 : Hid (Below W.heap.size W W4) := (HB3.out.trans hb4); clear hg4 hb4)
  clear HCC HB3
  have HF4 := hide (HFG.out.more (K' := K) HB4.out (fun b q => Or.inl q))
  have HZC : Hid (ChangesAt W4 (fun b => T < b ∧ b < W4.heap.size ∧ (sv v).ownBlock ≠ some b) (sv v4) g.changes) := by
    refine (HG4.out.own.rows changeCs_size (by decide) ?_).lt.mono (Same.refl _ _) (fun b q => ⟨by have := q.1; omega, q.2, fun e => ?_⟩)
    · omega
    · have := (HFG.out.own.block b e).2
      have := q.1
      omega
  have r4 : rng W4 W.heap.size 0 5 = some (fileCs g.kind g.seq g.issued g.base v4.1 v4.2.1 v4.2.2) := rng_whole HG4.out.top
  have hl4 := blk_lt HG4.out.top
  have t4 := cells_all HF4.out.cell 0
  simp only [List.getElem?_toArray, List.getElem?_cons_zero] at t4
  have hT4 := HF4.out.lt
  obtain ⟨v1, vn, vc⟩ := v
  replace t4 : W4.cell? ⟨T, 0, none⟩ = some (.slice v1 vn vc) := t4
  have HF5 := hide (HF4.out.more (W' := W4.alloc (.cells (fileCs g.kind g.seq g.issued g.base v4.1 v4.2.1 v4.2.2) 59)) (K' := K) ((Below.refl _ _).alloc (Nat.le_refl _) _) (fun b q => Or.inl q))
  have HR5 : Hid (rng (W4.alloc (.cells (fileCs g.kind g.seq g.issued g.base v4.1 v4.2.1 v4.2.2) 59)) W4.heap.size 0 5 = some (zfCs (g, v4))) := rng_whole (heap_alloc_at _ _)
  have HZ5 : Hid (ChangesAt (W4.alloc (.cells (fileCs g.kind g.seq g.issued g.base v4.1 v4.2.1 v4.2.2) 59)) (fun b => T < b ∧ b < (W4.alloc (.cells (fileCs g.kind g.seq g.issued g.base v4.1 v4.2.1 v4.2.2) 59)).heap.size ∧ (sv (v1, vn, vc)).ownBlock ≠ some b) (sv v4) g.changes) := RArr.mono HZC.out (fun b q => Below.heap_alloc _ _ _ q.2.1) (fun b q => ⟨q.1, by have := q.2.1; simp; omega, q.2.2⟩)
  have HKK : Hid (∀ b, K b → (W4.alloc (.cells (fileCs g.kind g.seq g.issued g.base v4.1 v4.2.1 v4.2.2) 59)).heap[b]? = W.heap[b]?) := fun b q => (Below.heap_alloc _ _ _ (HF4.out.k b q).2.1).trans (HB4.out.block b (HFG.out.k b q).2.1)
  have hb5 : T + 1 ≤ (W4.alloc (.cells (fileCs g.kind g.seq g.issued g.base v4.1 v4.2.1 v4.2.2) 59)).heap.size := by simp; omega
  have hzk : (zs.length + 1) * 48 ≤ 140737488355328 := by omega
  clear HG4 HZC HF4 HFG
  go_wp2_with (at_builtin; refine wpList_app1 (α := ZF) rfl _ _ 43 rfl (T + 1) 59 zfCs Tryz.underlying43 Tryz.info59_c rfl (by decide) zfCs_size zfCs_one _ zs rfl HF5.out.own _ rfl (g, v4) HR5.out hzk (by unfold maxLen; omega) hb5 ?_; intro v6 W6 hown6 hsame6 hbel6 hat6; obtain ⟨a6, c6, e6⟩ := hown6.form; rw [show (zs ++ [(g, v4)]).length = zs.length + 1 by simp] at e6; subst e6; have hk6 := (hsame6 T ⟨by have := HF5.out.lt; omega, fun e => (by have := (HF5.out.own.block T e).1; omega)⟩).trans HF5.out.cell; have hc6 : W6.cell? ⟨T, 0, none⟩ = some (.slice v1 vn vc) := cells_all hk6 0; have hf6 : W6.frozen? ⟨T, 0, none⟩ = false := (by simp [World.frozen?, hk6]); have hl6 : T < W6.heap.size := blk_lt hk6; have HEND := hide (HF5.out.add (v' := (a6, zs.length + 1, c6)) HZ5.out hown6 hsame6 hbel6 hat6); clear hown6 hsame6 hbel6 hat6 hk6)
  go_end0
  exact ⟨rfl, ⟨v4, _, HEND.out.1⟩, fun b q => (HEND.out.2 b q).trans (HKK.out b q)⟩

set_option maxRecDepth 100000 in
set_option maxHeartbeats 2000000 in
theorem tamper68 (W0 W : World) (T B : Nat) (K : Nat → Prop) (zs : List ZF) (v : SV) (f g : File) (c : SV) (P : Value) (h : FgI W0 W T K zs v) (hf : W.heap[B]? = some (.cells (zfCs (f, c)) 59 (0, 0))) (hc : ChangesAt W (fun _ => True) (sv c) f.changes) (hl : f.changes.length ≤ 65536) (hgl : g.changes.length ≤ 65536) (hzl : zs.length ≤ 1000000) (hC : CIn W 68 #[P] f g) :
    Calls Tryz.prog 59 #[.func (.func 68) #[] #[P], .pointer (some ⟨B, 0, none⟩), .pointer (some ⟨T, 0, none⟩)] W fun e W' => e = .returned (.tuple #[]) ∧ (∃ c' v', FgI W0 W' T K (zs ++ [(g, c')]) v') ∧ ∀ b, K b → W'.heap[b]? = W.heap[b]? := by
  have HC := hide hC
  have HFG := hide h
  have hTW := h.lt
  have hBl := blk_lt hf
  have rB : rng W B 0 5 = some (fileCs f.kind f.seq f.issued f.base c.1 c.2.1 c.2.2) := rng_whole hf
  have cB : W.cell? ⟨B, 4, none⟩ = some (.slice c.1 c.2.1 c.2.2) := cells_all hf 4
  obtain ⟨ca, cc, cb, co, ce, l1, l2, l3, la, lc⟩ := hc.lt
  obtain ⟨c1, c2, c3⟩ := c
  injection ce with e1 e2 e3
  dsimp only at e1 e2 e3
  subst e1
  subst e2
  subst e3
  dsimp only at rB cB
  have HLA := hide la
  have HLC := hide lc
  have HL2 := hide l2
  obtain ⟨N, hN⟩ : ∃ N, N = f.changes.length := ⟨_, rfl⟩
  have HN := hide hN
  rw [← hN] at rB cB hl
  clear hC h hf hc la lc l1 l2 l3 hN
  go_enter Tryz.func59, Tryz.ntmps59
  go_upto_region 1 with fail
  have HB1 : Hid (Below W.heap.size W (W.alloc (.cells (fileCs f.kind f.seq f.issued f.base c1 N c3) 59))) := (Below.refl _ _).alloc (Nat.le_refl _) _
  have hk1 : (W.alloc (.cells (fileCs f.kind f.seq f.issued f.base c1 N c3) 59)).heap[W.heap.size]? = some (.cells (fileCs f.kind f.seq f.issued f.base c1 N c3) 59 (0, 0)) := heap_alloc_at _ _
  have hz1 : (W.alloc (.cells (fileCs f.kind f.seq f.issued f.base c1 N c3) 59)).heap.size = W.heap.size + 1 := by simp
  generalize W.alloc (.cells (fileCs f.kind f.seq f.issued f.base c1 N c3) 59) = W1 at *
  have cB1 : W1.cell? ⟨B, 4, none⟩ = some (.slice c1 N c3) := (HB1.out.cell (p := ⟨B, 4, none⟩) hBl).trans cB
  have HK1 := hide hk1
  clear rB cB hk1
  go_upto_region 2 with (at_builtin; refine wpList_appN (α := Change) rfl _ _ 57 rfl W1.heap.size 111 changeCs Tryz.underlying57 Tryz.info111 rfl (by decide) changeCs_size changeCs_one _ [] rfl (OwnR.nil _ _ _ _ _) c1 N c3 rfl f.changes HN.out HL2.out.2 (fun h => ⟨cb, co, (HLA.out (by rw [← HN.out]; exact h)).1, fun i hi => (rng_of_block (HB1.out.block _ (HLA.out (by rw [← HN.out]; exact h)).2.2) _ _).trans (HLC.out i hi)⟩) (by simp; omega) (by unfold maxLen; simp; omega) (Nat.le_refl _) ?_; intro v2 W2 hown2 hsame2 hbel2 hat2; rw [List.nil_append] at hown2; obtain ⟨a2, cap2, hv2⟩ := hown2.form; rw [← HN.out] at hv2; subst hv2; have hk2 := (hbel2.block _ (blk_lt HK1.out)).trans HK1.out; have hc2 : W2.cell? ⟨W.heap.size, 4, none⟩ = some (.slice c1 N c3) := cells_all hk2 4; have hf2 : W2.frozen? ⟨W.heap.size, 4, none⟩ = false := (by simp [World.frozen?, hk2]); have hl2 : W.heap.size < W2.heap.size := blk_lt hk2; have HK2 := hide hk2; have HO2 := hide hown2; have HB2 := hide hbel2; clear hown2 hsame2 hbel2 hat2 hk2)
  have HGA : Hid (GA (W2.setCell ⟨W.heap.size, 4, none⟩ (.slice a2 N cap2)) W.heap.size W1.heap.size f (a2, N, cap2)) := ⟨by rw [heap_set3 HK2.out]; rfl, HO2.out.mono (fun b hb => Below.heap_setCell _ _ _ _ (by have := (HO2.out.block b hb).1; show b ≠ W.heap.size; omega)), by omega⟩
  have HB3 : Hid (Below W.heap.size W (W2.setCell ⟨W.heap.size, 4, none⟩ (.slice a2 N cap2))) := (HB1.out.trans (HB2.out.mono (by omega))).setCell (p := ⟨W.heap.size, 4, none⟩) (Nat.le_refl _) _
  clear HK2 HO2 HB2 HK1 HB1 hc2 hf2 cB1 hl2
  generalize W2.setCell ⟨W.heap.size, 4, none⟩ (.slice a2 N cap2) = W3 at *
  have HCC := hide (HC.out W3 _ _ _ HB3.out (Nat.le_refl _) HGA.out)
  clear HC HGA
  change Hid (Calls _ _ #[.pointer (some ⟨W.heap.size, 0, none⟩), P] _ _) at HCC
  go_upto_region 3 with (go_at_call 68; refine HCC.out.mono ?_; rintro e W4 ⟨rfl, ⟨v4, hg4⟩, hb4⟩; have HG4 := hide hg4; have HB4 : Hid (Below W.heap.size W W4) := (HB3.out.trans hb4); clear hg4 hb4)
  clear HCC HB3
  have HF4 := hide (HFG.out.more (K' := K) HB4.out (fun b q => Or.inl q))
  have HZC : Hid (ChangesAt W4 (fun b => T < b ∧ b < W4.heap.size ∧ (sv v).ownBlock ≠ some b) (sv v4) g.changes) := by
    refine (HG4.out.own.rows changeCs_size (by decide) ?_).lt.mono (Same.refl _ _) (fun b q => ⟨by have := q.1; omega, q.2, fun e => ?_⟩)
    · omega
    · have := (HFG.out.own.block b e).2
      have := q.1
      omega
  have r4 : rng W4 W.heap.size 0 5 = some (fileCs g.kind g.seq g.issued g.base v4.1 v4.2.1 v4.2.2) := rng_whole HG4.out.top
  have hl4 := blk_lt HG4.out.top
  have t4 := cells_all HF4.out.cell 0
  simp only [List.getElem?_toArray, List.getElem?_cons_zero] at t4
  have hT4 := HF4.out.lt
  obtain ⟨v1, vn, vc⟩ := v
  replace t4 : W4.cell? ⟨T, 0, none⟩ = some (.slice v1 vn vc) := t4
  have HF5 := hide (HF4.out.more (W' := W4.alloc (.cells (fileCs g.kind g.seq g.issued g.base v4.1 v4.2.1 v4.2.2) 59)) (K' := K) ((Below.refl _ _).alloc (Nat.le_refl _) _) (fun b q => Or.inl q))
  have HR5 : Hid (rng (W4.alloc (.cells (fileCs g.kind g.seq g.issued g.base v4.1 v4.2.1 v4.2.2) 59)) W4.heap.size 0 5 = some (zfCs (g, v4))) := rng_whole (heap_alloc_at _ _)
  have HZ5 : Hid (ChangesAt (W4.alloc (.cells (fileCs g.kind g.seq g.issued g.base v4.1 v4.2.1 v4.2.2) 59)) (fun b => T < b ∧ b < (W4.alloc (.cells (fileCs g.kind g.seq g.issued g.base v4.1 v4.2.1 v4.2.2) 59)).heap.size ∧ (sv (v1, vn, vc)).ownBlock ≠ some b) (sv v4) g.changes) := RArr.mono HZC.out (fun b q => Below.heap_alloc _ _ _ q.2.1) (fun b q => ⟨q.1, by have := q.2.1; simp; omega, q.2.2⟩)
  have HKK : Hid (∀ b, K b → (W4.alloc (.cells (fileCs g.kind g.seq g.issued g.base v4.1 v4.2.1 v4.2.2) 59)).heap[b]? = W.heap[b]?) := fun b q => (Below.heap_alloc _ _ _ (HF4.out.k b q).2.1).trans (HB4.out.block b (HFG.out.k b q).2.1)
  have hb5 : T + 1 ≤ (W4.alloc (.cells (fileCs g.kind g.seq g.issued g.base v4.1 v4.2.1 v4.2.2) 59)).heap.size := by simp; omega
  have hzk : (zs.length + 1) * 48 ≤ 140737488355328 := by omega
  clear HG4 HZC HF4 HFG
  go_wp2_with (at_builtin; refine wpList_app1 (α := ZF) rfl _ _ 43 rfl (T + 1) 59 zfCs Tryz.underlying43 Tryz.info59_c rfl (by decide) zfCs_size zfCs_one _ zs rfl HF5.out.own _ rfl (g, v4) HR5.out hzk (by unfold maxLen; omega) hb5 ?_; intro v6 W6 hown6 hsame6 hbel6 hat6; obtain ⟨a6, c6, e6⟩ := hown6.form; rw [show (zs ++ [(g, v4)]).length = zs.length + 1 by simp] at e6; subst e6; have hk6 := (hsame6 T ⟨by have := HF5.out.lt; omega, fun e => (by have := (HF5.out.own.block T e).1; omega)⟩).trans HF5.out.cell; have hc6 : W6.cell? ⟨T, 0, none⟩ = some (.slice v1 vn vc) := cells_all hk6 0; have hf6 : W6.frozen? ⟨T, 0, none⟩ = false := (by simp [World.frozen?, hk6]); have hl6 : T < W6.heap.size := blk_lt hk6; have HEND := hide (HF5.out.add (v' := (a6, zs.length + 1, c6)) HZ5.out hown6 hsame6 hbel6 hat6); clear hown6 hsame6 hbel6 hat6 hk6)
  go_end0
  exact ⟨rfl, ⟨v4, _, HEND.out.1⟩, fun b q => (HEND.out.2 b q).trans (HKK.out b q)⟩

set_option maxRecDepth 100000 in
set_option maxHeartbeats 2000000 in
theorem tamper69 (W0 W : World) (T B : Nat) (K : Nat → Prop) (zs : List ZF) (v : SV) (f g : File) (c : SV) (P : Value) (h : FgI W0 W T K zs v) (hf : W.heap[B]? = some (.cells (zfCs (f, c)) 59 (0, 0))) (hc : ChangesAt W (fun _ => True) (sv c) f.changes) (hl : f.changes.length ≤ 65536) (hgl : g.changes.length ≤ 65536) (hzl : zs.length ≤ 1000000) (hC : CIn W 69 #[P] f g) :
    Calls Tryz.prog 59 #[.func (.func 69) #[] #[P], .pointer (some ⟨B, 0, none⟩), .pointer (some ⟨T, 0, none⟩)] W fun e W' => e = .returned (.tuple #[]) ∧ (∃ c' v', FgI W0 W' T K (zs ++ [(g, c')]) v') ∧ ∀ b, K b → W'.heap[b]? = W.heap[b]? := by
  have HC := hide hC
  have HFG := hide h
  have hTW := h.lt
  have hBl := blk_lt hf
  have rB : rng W B 0 5 = some (fileCs f.kind f.seq f.issued f.base c.1 c.2.1 c.2.2) := rng_whole hf
  have cB : W.cell? ⟨B, 4, none⟩ = some (.slice c.1 c.2.1 c.2.2) := cells_all hf 4
  obtain ⟨ca, cc, cb, co, ce, l1, l2, l3, la, lc⟩ := hc.lt
  obtain ⟨c1, c2, c3⟩ := c
  injection ce with e1 e2 e3
  dsimp only at e1 e2 e3
  subst e1
  subst e2
  subst e3
  dsimp only at rB cB
  have HLA := hide la
  have HLC := hide lc
  have HL2 := hide l2
  obtain ⟨N, hN⟩ : ∃ N, N = f.changes.length := ⟨_, rfl⟩
  have HN := hide hN
  rw [← hN] at rB cB hl
  clear hC h hf hc la lc l1 l2 l3 hN
  go_enter Tryz.func59, Tryz.ntmps59
  go_upto_region 1 with fail
  have HB1 : Hid (Below W.heap.size W (W.alloc (.cells (fileCs f.kind f.seq f.issued f.base c1 N c3) 59))) := (Below.refl _ _).alloc (Nat.le_refl _) _
  have hk1 : (W.alloc (.cells (fileCs f.kind f.seq f.issued f.base c1 N c3) 59)).heap[W.heap.size]? = some (.cells (fileCs f.kind f.seq f.issued f.base c1 N c3) 59 (0, 0)) := heap_alloc_at _ _
  have hz1 : (W.alloc (.cells (fileCs f.kind f.seq f.issued f.base c1 N c3) 59)).heap.size = W.heap.size + 1 := by simp
  generalize W.alloc (.cells (fileCs f.kind f.seq f.issued f.base c1 N c3) 59) = W1 at *
  have cB1 : W1.cell? ⟨B, 4, none⟩ = some (.slice c1 N c3) := (HB1.out.cell (p := ⟨B, 4, none⟩) hBl).trans cB
  have HK1 := hide hk1
  clear rB cB hk1
  go_upto_region 2 with (at_builtin; refine wpList_appN (α := Change) rfl _ _ 57 rfl W1.heap.size 111 changeCs Tryz.underlying57 Tryz.info111 rfl (by decide) changeCs_size changeCs_one _ [] rfl (OwnR.nil _ _ _ _ _) c1 N c3 rfl f.changes HN.out HL2.out.2 (fun h => ⟨cb, co, (HLA.out (by rw [← HN.out]; exact h)).1, fun i hi => (rng_of_block (HB1.out.block _ (HLA.out (by rw [← HN.out]; exact h)).2.2) _ _).trans (HLC.out i hi)⟩) (by simp; omega) (by unfold maxLen; simp; omega) (Nat.le_refl _) ?_; intro v2 W2 hown2 hsame2 hbel2 hat2; rw [List.nil_append] at hown2; obtain ⟨a2, cap2, hv2⟩ := hown2.form; rw [← HN.out] at hv2; subst hv2; have hk2 := (hbel2.block _ (blk_lt HK1.out)).trans HK1.out; have hc2 : W2.cell? ⟨W.heap.size, 4, none⟩ = some (.slice c1 N c3) := cells_all hk2 4; have hf2 : W2.frozen? ⟨W.heap.size, 4, none⟩ = false := (by simp [World.frozen?, hk2]); have hl2 : W.heap.size < W2.heap.size := blk_lt hk2; have HK2 := hide hk2; have HO2 := hide hown2; have HB2 := hide hbel2; clear hown2 hsame2 hbel2 hat2 hk2)
  have HGA : Hid (GA (W2.setCell ⟨W.heap.size, 4, none⟩ (.slice a2 N cap2)) W.heap.size W1.heap.size f (a2, N, cap2)) := ⟨by rw [heap_set3 HK2.out]; rfl, HO2.out.mono (fun b hb => Below.heap_setCell _ _ _ _ (by have := (HO2.out.block b hb).1; show b ≠ W.heap.size; omega)), by omega⟩
  have HB3 : Hid (Below W.heap.size W (W2.setCell ⟨W.heap.size, 4, none⟩ (.slice a2 N cap2))) := (HB1.out.trans (HB2.out.mono (by omega))).setCell (p := ⟨W.heap.size, 4, none⟩) (Nat.le_refl _) _
  clear HK2 HO2 HB2 HK1 HB1 hc2 hf2 cB1 hl2
  generalize W2.setCell ⟨W.heap.size, 4, none⟩ (.slice a2 N cap2) = W3 at *
  have HCC := hide (HC.out W3 _ _ _ HB3.out (Nat.le_refl _) HGA.out)
  clear HC HGA
  change Hid (Calls _ _ #[.pointer (some ⟨W.heap.size, 0, none⟩), P] _ _) at HCC
  go_upto_region 3 with (go_at_call 69; refine HCC.out.mono ?_; rintro e W4 ⟨rfl, ⟨v4, hg4⟩, hb4⟩; have HG4 := hide hg4; have HB4 : Hid (Below W.heap.size W W4) := (HB3.out.trans hb4); clear hg4 hb4)
  clear HCC HB3
  have HF4 := hide (HFG.out.more (K' := K) HB4.out (fun b q => Or.inl q))
  have HZC : Hid (ChangesAt W4 (fun b => T < b ∧ b < W4.heap.size ∧ (sv v).ownBlock ≠ some b) (sv v4) g.changes) := by
    refine (HG4.out.own.rows changeCs_size (by decide) ?_).lt.mono (Same.refl _ _) (fun b q => ⟨by have := q.1; omega, q.2, fun e => ?_⟩)
    · omega
    · have := (HFG.out.own.block b e).2
      have := q.1
      omega
  have r4 : rng W4 W.heap.size 0 5 = some (fileCs g.kind g.seq g.issued g.base v4.1 v4.2.1 v4.2.2) := rng_whole HG4.out.top
  have hl4 := blk_lt HG4.out.top
  have t4 := cells_all HF4.out.cell 0
  simp only [List.getElem?_toArray, List.getElem?_cons_zero] at t4
  have hT4 := HF4.out.lt
  obtain ⟨v1, vn, vc⟩ := v
  replace t4 : W4.cell? ⟨T, 0, none⟩ = some (.slice v1 vn vc) := t4
  have HF5 := hide (HF4.out.more (W' := W4.alloc (.cells (fileCs g.kind g.seq g.issued g.base v4.1 v4.2.1 v4.2.2) 59)) (K' := K) ((Below.refl _ _).alloc (Nat.le_refl _) _) (fun b q => Or.inl q))
  have HR5 : Hid (rng (W4.alloc (.cells (fileCs g.kind g.seq g.issued g.base v4.1 v4.2.1 v4.2.2) 59)) W4.heap.size 0 5 = some (zfCs (g, v4))) := rng_whole (heap_alloc_at _ _)
  have HZ5 : Hid (ChangesAt (W4.alloc (.cells (fileCs g.kind g.seq g.issued g.base v4.1 v4.2.1 v4.2.2) 59)) (fun b => T < b ∧ b < (W4.alloc (.cells (fileCs g.kind g.seq g.issued g.base v4.1 v4.2.1 v4.2.2) 59)).heap.size ∧ (sv (v1, vn, vc)).ownBlock ≠ some b) (sv v4) g.changes) := RArr.mono HZC.out (fun b q => Below.heap_alloc _ _ _ q.2.1) (fun b q => ⟨q.1, by have := q.2.1; simp; omega, q.2.2⟩)
  have HKK : Hid (∀ b, K b → (W4.alloc (.cells (fileCs g.kind g.seq g.issued g.base v4.1 v4.2.1 v4.2.2) 59)).heap[b]? = W.heap[b]?) := fun b q => (Below.heap_alloc _ _ _ (HF4.out.k b q).2.1).trans (HB4.out.block b (HFG.out.k b q).2.1)
  have hb5 : T + 1 ≤ (W4.alloc (.cells (fileCs g.kind g.seq g.issued g.base v4.1 v4.2.1 v4.2.2) 59)).heap.size := by simp; omega
  have hzk : (zs.length + 1) * 48 ≤ 140737488355328 := by omega
  clear HG4 HZC HF4 HFG
  go_wp2_with (at_builtin; refine wpList_app1 (α := ZF) rfl _ _ 43 rfl (T + 1) 59 zfCs Tryz.underlying43 Tryz.info59_c rfl (by decide) zfCs_size zfCs_one _ zs rfl HF5.out.own _ rfl (g, v4) HR5.out hzk (by unfold maxLen; omega) hb5 ?_; intro v6 W6 hown6 hsame6 hbel6 hat6; obtain ⟨a6, c6, e6⟩ := hown6.form; rw [show (zs ++ [(g, v4)]).length = zs.length + 1 by simp] at e6; subst e6; have hk6 := (hsame6 T ⟨by have := HF5.out.lt; omega, fun e => (by have := (HF5.out.own.block T e).1; omega)⟩).trans HF5.out.cell; have hc6 : W6.cell? ⟨T, 0, none⟩ = some (.slice v1 vn vc) := cells_all hk6 0; have hf6 : W6.frozen? ⟨T, 0, none⟩ = false := (by simp [World.frozen?, hk6]); have hl6 : T < W6.heap.size := blk_lt hk6; have HEND := hide (HF5.out.add (v' := (a6, zs.length + 1, c6)) HZ5.out hown6 hsame6 hbel6 hat6); clear hown6 hsame6 hbel6 hat6 hk6)
  go_end0
  exact ⟨rfl, ⟨v4, _, HEND.out.1⟩, fun b q => (HEND.out.2 b q).trans (HKK.out b q)⟩

set_option maxRecDepth 100000 in
set_option maxHeartbeats 2000000 in
theorem tamper70 (W0 W : World) (T B : Nat) (K : Nat → Prop) (zs : List ZF) (v : SV) (f g : File) (c : SV) (P : Value) (h : FgI W0 W T K zs v) (hf : W.heap[B]? = some (.cells (zfCs (f, c)) 59 (0, 0))) (hc : ChangesAt W (fun _ => True) (sv c) f.changes) (hl : f.changes.length ≤ 65536) (hgl : g.changes.length ≤ 65536) (hzl : zs.length ≤ 1000000) (hC : CIn W 70 #[P] f g) :
    Calls Tryz.prog 59 #[.func (.func 70) #[] #[P], .pointer (some ⟨B, 0, none⟩), .pointer (some ⟨T, 0, none⟩)] W fun e W' => e = .returned (.tuple #[]) ∧ (∃ c' v', FgI W0 W' T K (zs ++ [(g, c')]) v') ∧ ∀ b, K b → W'.heap[b]? = W.heap[b]? := by
  have HC := hide hC
  have HFG := hide h
  have hTW := h.lt
  have hBl := blk_lt hf
  have rB : rng W B 0 5 = some (fileCs f.kind f.seq f.issued f.base c.1 c.2.1 c.2.2) := rng_whole hf
  have cB : W.cell? ⟨B, 4, none⟩ = some (.slice c.1 c.2.1 c.2.2) := cells_all hf 4
  obtain ⟨ca, cc, cb, co, ce, l1, l2, l3, la, lc⟩ := hc.lt
  obtain ⟨c1, c2, c3⟩ := c
  injection ce with e1 e2 e3
  dsimp only at e1 e2 e3
  subst e1
  subst e2
  subst e3
  dsimp only at rB cB
  have HLA := hide la
  have HLC := hide lc
  have HL2 := hide l2
  obtain ⟨N, hN⟩ : ∃ N, N = f.changes.length := ⟨_, rfl⟩
  have HN := hide hN
  rw [← hN] at rB cB hl
  clear hC h hf hc la lc l1 l2 l3 hN
  go_enter Tryz.func59, Tryz.ntmps59
  go_upto_region 1 with fail
  have HB1 : Hid (Below W.heap.size W (W.alloc (.cells (fileCs f.kind f.seq f.issued f.base c1 N c3) 59))) := (Below.refl _ _).alloc (Nat.le_refl _) _
  have hk1 : (W.alloc (.cells (fileCs f.kind f.seq f.issued f.base c1 N c3) 59)).heap[W.heap.size]? = some (.cells (fileCs f.kind f.seq f.issued f.base c1 N c3) 59 (0, 0)) := heap_alloc_at _ _
  have hz1 : (W.alloc (.cells (fileCs f.kind f.seq f.issued f.base c1 N c3) 59)).heap.size = W.heap.size + 1 := by simp
  generalize W.alloc (.cells (fileCs f.kind f.seq f.issued f.base c1 N c3) 59) = W1 at *
  have cB1 : W1.cell? ⟨B, 4, none⟩ = some (.slice c1 N c3) := (HB1.out.cell (p := ⟨B, 4, none⟩) hBl).trans cB
  have HK1 := hide hk1
  clear rB cB hk1
  go_upto_region 2 with (at_builtin; refine wpList_appN (α := Change) rfl _ _ 57 rfl W1.heap.size 111 changeCs Tryz.underlying57 Tryz.info111 rfl (by decide) changeCs_size changeCs_one _ [] rfl (OwnR.nil _ _ _ _ _) c1 N c3 rfl f.changes HN.out HL2.out.2 (fun h => ⟨cb, co, (HLA.out (by rw [← HN.out]; exact h)).1, fun i hi => (rng_of_block (HB1.out.block _ (HLA.out (by rw [← HN.out]; exact h)).2.2) _ _).trans (HLC.out i hi)⟩) (by simp; omega) (by unfold maxLen; simp; omega) (Nat.le_refl _) ?_; intro v2 W2 hown2 hsame2 hbel2 hat2; rw [List.nil_append] at hown2; obtain ⟨a2, cap2, hv2⟩ := hown2.form; rw [← HN.out] at hv2; subst hv2; have hk2 := (hbel2.block _ (blk_lt HK1.out)).trans HK1.out; have hc2 : W2.cell? ⟨W.heap.size, 4, none⟩ = some (.slice c1 N c3) := cells_all hk2 4; have hf2 : W2.frozen? ⟨W.heap.size, 4, none⟩ = false := (by simp [World.frozen?, hk2]); have hl2 : W.heap.size < W2.heap.size := blk_lt hk2; have HK2 := hide hk2; have HO2 := hide hown2; have HB2 := hide hbel2; clear hown2 hsame2 hbel2 hat2 hk2)
  have HGA : Hid (GA (W2.setCell ⟨W.heap.size, 4, none⟩ (.slice a2 N cap2)) W.heap.size W1.heap.size f (a2, N, cap2)) := ⟨by rw [heap_set3 HK2.out]; rfl, HO2.out.mono (fun b hb => Below.heap_setCell _ _ _ _ (by have := (HO2.out.block b hb).1; show b ≠ W.heap.size; omega)), by omega⟩
  have HB3 : Hid (Below W.heap.size W (W2.setCell ⟨W.heap.size, 4, none⟩ (.slice a2 N cap2))) := (HB1.out.trans (HB2.out.mono (by omega))).setCell (p := ⟨W.heap.size, 4, none⟩) (Nat.le_refl _) _
  clear HK2 HO2 HB2 HK1 HB1 hc2 hf2 cB1 hl2
  generalize W2.setCell ⟨W.heap.size, 4, none⟩ (.slice a2 N cap2) = W3 at *
  have HCC := hide (HC.out W3 _ _ _ HB3.out (Nat.le_refl _) HGA.out)
  clear HC HGA
  change Hid (Calls _ _ #[.pointer (some ⟨W.heap.size, 0, none⟩), P] _ _) at HCC
  go_upto_region 3 with (go_at_call 70; refine HCC.out.mono ?_; rintro e W4 ⟨rfl, ⟨v4, hg4⟩, hb4⟩; have HG4 := hide hg4; have HB4 : Hid (Below W.heap.size W W4) := (HB3.out.trans hb4); clear hg4 hb4)
  clear HCC HB3
  have HF4 := hide (HFG.out.more (K' := K) HB4.out (fun b q => Or.inl q))
  have HZC : Hid (ChangesAt W4 (fun b => T < b ∧ b < W4.heap.size ∧ (sv v).ownBlock ≠ some b) (sv v4) g.changes) := by
    refine (HG4.out.own.rows changeCs_size (by decide) ?_).lt.mono (Same.refl _ _) (fun b q => ⟨by have := q.1; omega, q.2, fun e => ?_⟩)
    · omega
    · have := (HFG.out.own.block b e).2
      have := q.1
      omega
  have r4 : rng W4 W.heap.size 0 5 = some (fileCs g.kind g.seq g.issued g.base v4.1 v4.2.1 v4.2.2) := rng_whole HG4.out.top
  have hl4 := blk_lt HG4.out.top
  have t4 := cells_all HF4.out.cell 0
  simp only [List.getElem?_toArray, List.getElem?_cons_zero] at t4
  have hT4 := HF4.out.lt
  obtain ⟨v1, vn, vc⟩ := v
  replace t4 : W4.cell? ⟨T, 0, none⟩ = some (.slice v1 vn vc) := t4
  have HF5 := hide (HF4.out.more (W' := W4.alloc (.cells (fileCs g.kind g.seq g.issued g.base v4.1 v4.2.1 v4.2.2) 59)) (K' := K) ((Below.refl _ _).alloc (Nat.le_refl _) _) (fun b q => Or.inl q))
  have HR5 : Hid (rng (W4.alloc (.cells (fileCs g.kind g.seq g.issued g.base v4.1 v4.2.1 v4.2.2) 59)) W4.heap.size 0 5 = some (zfCs (g, v4))) := rng_whole (heap_alloc_at _ _)
  have HZ5 : Hid (ChangesAt (W4.alloc (.cells (fileCs g.kind g.seq g.issued g.base v4.1 v4.2.1 v4.2.2) 59)) (fun b => T < b ∧ b < (W4.alloc (.cells (fileCs g.kind g.seq g.issued g.base v4.1 v4.2.1 v4.2.2) 59)).heap.size ∧ (sv (v1, vn, vc)).ownBlock ≠ some b) (sv v4) g.changes) := RArr.mono HZC.out (fun b q => Below.heap_alloc _ _ _ q.2.1) (fun b q => ⟨q.1, by have := q.2.1; simp; omega, q.2.2⟩)
  have HKK : Hid (∀ b, K b → (W4.alloc (.cells (fileCs g.kind g.seq g.issued g.base v4.1 v4.2.1 v4.2.2) 59)).heap[b]? = W.heap[b]?) := fun b q => (Below.heap_alloc _ _ _ (HF4.out.k b q).2.1).trans (HB4.out.block b (HFG.out.k b q).2.1)
  have hb5 : T + 1 ≤ (W4.alloc (.cells (fileCs g.kind g.seq g.issued g.base v4.1 v4.2.1 v4.2.2) 59)).heap.size := by simp; omega
  have hzk : (zs.length + 1) * 48 ≤ 140737488355328 := by omega
  clear HG4 HZC HF4 HFG
  go_wp2_with (at_builtin; refine wpList_app1 (α := ZF) rfl _ _ 43 rfl (T + 1) 59 zfCs Tryz.underlying43 Tryz.info59_c rfl (by decide) zfCs_size zfCs_one _ zs rfl HF5.out.own _ rfl (g, v4) HR5.out hzk (by unfold maxLen; omega) hb5 ?_; intro v6 W6 hown6 hsame6 hbel6 hat6; obtain ⟨a6, c6, e6⟩ := hown6.form; rw [show (zs ++ [(g, v4)]).length = zs.length + 1 by simp] at e6; subst e6; have hk6 := (hsame6 T ⟨by have := HF5.out.lt; omega, fun e => (by have := (HF5.out.own.block T e).1; omega)⟩).trans HF5.out.cell; have hc6 : W6.cell? ⟨T, 0, none⟩ = some (.slice v1 vn vc) := cells_all hk6 0; have hf6 : W6.frozen? ⟨T, 0, none⟩ = false := (by simp [World.frozen?, hk6]); have hl6 : T < W6.heap.size := blk_lt hk6; have HEND := hide (HF5.out.add (v' := (a6, zs.length + 1, c6)) HZ5.out hown6 hsame6 hbel6 hat6); clear hown6 hsame6 hbel6 hat6 hk6)
  go_end0
  exact ⟨rfl, ⟨v4, _, HEND.out.1⟩, fun b q => (HEND.out.2 b q).trans (HKK.out b q)⟩
end Go.Proofs.Qxb6500666aGreatDoor
