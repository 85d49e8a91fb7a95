/- questions, walked: a list of readings. -/
import Derived.Test.Qxb6500666aGreatDoorDamQ
import Derived.Test.Qxb6500666aGreatDoorCraBits
import Derived.Test.Qxb6500666aGreatDoorMask
import Derived.BigQuiet
import Derived.Deep.CutBlock
namespace Go.Proofs.Qxb6500666aGreatDoor
open Go.RowKit

def bs3qS (a b c : Value) : Sem Value := Instr.buildSlice 22 3 #[(0, a), (1, b), (2, c)]
def bs4qS (a b c d : Value) : Sem Value := Instr.buildSlice 22 4 #[(0, a), (1, b), (2, c), (3, d)]
section
variable (ρ : Operand → Value) (dst : Option Tmp) (a b c d : Operand) (ty : TypeId) (pos : String) (after : Array Edge) (guard : Option (Nat × Bool))
theorem exec_bs3q : execOp ρ { dst, op := .buildSlice 22 3 #[(0, a), (1, b), (2, c)], type := ty, pos, after, guard } = (do pure (.value (← bs3qS (ρ a) (ρ b) (ρ c)))) := by simp [execOp, bs3qS]
theorem exec_bs4q : execOp ρ { dst, op := .buildSlice 22 4 #[(0, a), (1, b), (2, c), (3, d)], type := ty, pos, after, guard } = (do pure (.value (← bs4qS (ρ a) (ρ b) (ρ c) (ρ d)))) := by simp [execOp, bs4qS]
end
theorem run_bs3q (w : World) (r0 r1 r2 : Req) : (bs3qS (.agg (qCs r0)) (.agg (qCs r1)) (.agg (qCs r2))).run Tryz.prog w = .ok (.slice (some ⟨w.heap.size, 0, none⟩) 3 3) (w.alloc (.cells (flat qCs [r0, r1, r2]).toArray 61)) := by kernel_rfl
theorem run_bs4q (w : World) (r0 r1 r2 r3 : Req) : (bs4qS (.agg (qCs r0)) (.agg (qCs r1)) (.agg (qCs r2)) (.agg (qCs r3))).run Tryz.prog w = .ok (.slice (some ⟨w.heap.size, 0, none⟩) 4 4) (w.alloc (.cells (flat qCs [r0, r1, r2, r3]).toArray 61)) := by kernel_rfl
theorem lit_src (w : World) (xs : List Req) (hl : xs.length ≤ 1000) (hp : 0 < xs.length) : ∃ b off, (some ⟨w.heap.size, 0, none⟩ : Option Addr) = some ⟨b, off, none⟩ ∧ ∀ i (h : i < xs.length), rng (w.alloc (.cells (flat qCs xs).toArray 61)) b (off + i * 27) 27 = some (qCs xs[i]) := by
  have h := OwnR.lit (w := w) (base := w.heap.size) (e := 61) (size := 27) qCs_size xs (Nat.le_refl _) (by unfold maxLen; omega)
  obtain ⟨a, cap, b, off, e, h1, h2, h3, h4, h5⟩ := h.rows qCs_size (by decide) (by omega)
  injection e with e1 _ _
  exact ⟨b, off, by rw [e1]; exact (h4 hp).1, h5⟩

theorem Tryz.infoOpC : (Tryz.prog.info? 61).map (fun i => (i.zero, i.size, i.bytes)) = some (some (.agg (opA ⟨0, ⟨0, 0, 0, 0, 0, 0, 0, 0, 0, 0, 0, 0, 0, 0, 0, 0, []⟩, 0, 0, 0, [], ⟨0, 0, 0, 0, []⟩⟩ (.slice none 0 0) (.slice none 0 0) none 0 0)), 27, 208) := by kernel_rfl
/-- A question: a reading by the root user. -/
def IsQ (q : Req) : Prop := ∃ k i j, q = askReq k i j ∧ isRdg k = true ∧ U32 i ∧ U32 j
theorem isQ (k i j : Int) (hk : isRdg k = true) (hi : U32 i) (hj : U32 j) : IsQ (askReq k i j) := ⟨k, i, j, rfl, hk, hi, hj⟩
/-- The questions so far. -/
structure QA (W wr : World) (v : Value) (qs : List Req) (n : Nat) : Prop where
  own : OwnR wr W.heap.size 61 27 qCs v qs
  ok : ∀ q ∈ qs, IsQ q
  bel : Below W.heap.size W wr
  len : qs.length ≤ n
section
variable {W wr wr' : World} {v v' : Value} {qs : List Req} {n : Nat}
theorem QA.below (h : QA W wr v qs n) (hb : Below wr.heap.size wr wr') : QA W wr' v qs n := ⟨h.own.below hb (Nat.le_refl _), h.ok, h.bel.trans (hb.mono h.bel.size), h.len⟩
theorem QA.add (h : QA W wr v qs n) {ys : List Req} (hb : Below W.heap.size wr wr') (ho : OwnR wr' W.heap.size 61 27 qCs v' (qs ++ ys)) (hy : ∀ q ∈ ys, IsQ q) : QA W wr' v' (qs ++ ys) (n + ys.length) :=
  ⟨ho, fun q hq => (List.mem_append.1 hq).elim (h.ok q) (hy q), h.bel.trans hb, by rw [List.length_append]; have := h.len; omega⟩
theorem QA.up (h : QA W wr v qs n) {m : Nat} (hm : n ≤ m) : QA W wr v qs m := ⟨h.own, h.ok, h.bel, Nat.le_trans h.len hm⟩
end
attribute [local go_sem] ext_const Ext.cell Ext.frozen Ext.rng Ext.whole
attribute [local go_sem ↓] exec_ldOpz exec_stOpz exec_bs3q exec_bs4q exec_bsOpz
attribute [local go_sem] run_ldOpz run_stOpz run_bs3q run_bs4q run_bsOpz opA_size qCs_ones whole_alloc_lt whole_alloc_at whole_drew setRow_alloc_at setRow_alloc_lt rng_alloc_lt rng_alloc_at rng_drew rng_drewN

set_option maxRecDepth 100000 in
set_option maxHeartbeats 4000000 in
theorem questions_calls (W : World) (a : Option Addr) (b off n cap : Nat) (s : List Op) (files entries : Nat) (hf : files ≤ 65536) (he : entries ≤ 65536) (hn : n = s.length) (hn6 : n ≤ 65536)
    (hi : ∀ (w : World) (k : Int), 0 ≤ k → k < n → (Instr.indexAt 22 (.slice a n cap) (.int .i64 k)).run Tryz.prog w = .ok (.pointer (some ⟨b, off + k.toNat * 27, none⟩)) w) (hB : 0 < n → b < W.heap.size)
    (hC : ∀ k (h : k < s.length), ∃ lv dv ca cn cc, rng W b (off + k * 27) 27 = some (opA s[k] lv dv ca cn cc) ∧ s[k].req.Ok ∧ ones (opA s[k] lv dv ca cn cc) 27 = true) :
    Calls Tryz.prog 24 #[.slice a n cap, .int .u32 files, .int .u32 entries] W fun e w' => ∃ qv qs, e = .returned qv ∧ QA W w' qv qs 2000000 := by
  have HB := hide hB
  have HC := hide hC
  have Hn := hide hn
  clear hB hC hn
  go_enter Tryz.func24, Tryz.ntmps24
  have HBW : Hid (Below W.heap.size W W) := Below.refl _ _
  go_upto_region 2 with (go_at_call 76; refine (reading_calls _ _ _ _).mono ?_; rintro e Wn ⟨rfl, hbn⟩; have HBW := hide (Below.trans HBW.out (hbn.mono HBW.out.size)); clear hbn)
  have HQ0 : Hid (QA W (Wn.alloc (.cells (flat qCs [askReq 22 0 0, askReq 25 0 0, askReq 29 0 0, askReq 30 0 0]).toArray 61)) (.slice (some ⟨Wn.heap.size, 0, none⟩) 4 4) [askReq 22 0 0, askReq 25 0 0, askReq 29 0 0, askReq 30 0 0] 4) :=
    ⟨OwnR.lit qCs_size _ HBW.out.size (by unfold maxLen; simp), fun q hq => by
      simp only [List.mem_cons, List.not_mem_nil, or_false] at hq
      rcases hq with rfl | rfl | rfl | rfl
      · exact isQ 22 0 0 rfl u32z u32z
      · exact isQ 25 0 0 rfl u32z u32z
      · exact isQ 29 0 0 rfl u32z u32z
      · exact isQ 30 0 0 rfl u32z u32z, HBW.out.alloc HBW.out.size _, Nat.le_refl _⟩
  generalize Wn.alloc (.cells (flat qCs [askReq 22 0 0, askReq 25 0 0, askReq 29 0 0, askReq 30 0 0]).toArray 61) = W1 at *
  generalize [askReq 22 0 0, askReq 25 0 0, askReq 29 0 0, askReq 30 0 0] = qs0 at *
  clear HBW
  go_upto_region 3 with fail
  refine wp_loop_mask quL1 (fun g x wr => ∃ (v : Value) (k : Nat) (qs : List Req), k ≤ files + 2 ∧ g = files + 2 - k ∧ x = (v, .int .u32 k) ∧ Hid (QA W wr v qs (4 + 7 * k))) (files + 2) (_, .int .u32 0) ⟨_, 0, _, by omega, by omega, rfl, HQ0⟩ (by kernel_rfl) ?_
  clear HQ0
  intro gk1 x1 u1 wr hrel J1 K1 hJ1 hK1
  dsimp only [quL1, maskL_keep, maskL_any, maskL_is, maskL_nil]
  obtain ⟨v, k, qs, hk, rfl, rfl, HQ⟩ := hrel
  dsimp only
  by_cases hlt : k < files + 2
  · as_aux_lemma =>
    have HBW : Hid (Below wr.heap.size wr wr) := Below.refl _ _
    have hqn : qs.length ≤ 500000 := by have := HQ.out.len; omega
    have hku : U32 (k : Int) := ⟨by omega, by omega⟩
    go_upto_region 7 with (first
      | (go_at_call 76; refine (reading_calls _ _ _ _).mono ?_; rintro e Wn ⟨rfl, hbn⟩; have HBW := hide (Below.trans HBW.out (hbn.mono HBW.out.size)); clear hbn)
      | (at_builtin; have hq2 := HQ.out.below (HBW.out.alloc HBW.out.size (.cells (flat qCs [askReq 26 k 0, askReq 27 k 0, askReq 28 0 k]).toArray 61)); have hls := lit_src Wn [askReq 26 k 0, askReq 27 k 0, askReq 28 0 k] (by simp) (by simp); refine wpList_appN (α := Req) rfl _ _ 22 rfl W.heap.size 61 qCs Tryz.underlying22 Tryz.infoOpC rfl (by decide) qCs_size qCs_one _ qs rfl hq2.own (some ⟨Wn.heap.size, 0, none⟩) 3 3 rfl [askReq 26 k 0, askReq 27 k 0, askReq 28 0 k] rfl (fun h => by cases h) (fun _ => hls) (by omega) (by unfold maxLen; omega) hq2.bel.size ?_; intro v9 w9 hown9 hsame9 hbel9 hat9; have HQ9 := hide (hq2.add hbel9 hown9 (fun q hq => by simp only [List.mem_cons, List.not_mem_nil, or_false] at hq; rcases hq with rfl | rfl | rfl; exact isQ 26 k 0 rfl hku u32z; exact isQ 27 k 0 rfl hku u32z; exact isQ 28 0 k rfl u32z hku)); clear hq2 hls hown9 hsame9 hbel9 hat9))
    clear HQ HBW
    generalize qs ++ [askReq 26 k 0, askReq 27 k 0, askReq 28 0 k] = qs1 at *
    refine wp_loop_mask quL2 (fun g x wr => ∃ (v : Value) (l : Nat) (qs : List Req), k ≤ l ∧ l ≤ k + 4 ∧ g = k + 4 - l ∧ x = (v, .int .u32 l) ∧ Hid (QA W wr v qs (4 + 7 * k + 3 + (l - k)))) 4 (_, .int .u32 k) ⟨_, k, _, by omega, by omega, by omega, rfl, HQ9.out.up (by simp)⟩ (by kernel_rfl) ?_
    clear HQ9
    intro gk2 x2 u2 wr hrel J2 K2 hJ2 hK2
    dsimp only [quL2, maskL_keep, maskL_any, maskL_is, maskL_nil]
    obtain ⟨v2, l, qs2, hkl, hl4, rfl, rfl, HQ2⟩ := hrel
    dsimp only
    have hqn2 : qs2.length ≤ 500000 := by have := HQ2.out.len; omega
    have hlu : U32 (l : Int) := ⟨by omega, by omega⟩
    have HBW : Hid (Below wr.heap.size wr wr) := Below.refl _ _
    by_cases hlf : l ≤ files
    · by_cases hl3 : l < k + 4
      · as_aux_lemma =>
        go_wp2_with (first
          | (go_at_call 76; refine (reading_calls _ _ _ _).mono ?_; rintro e Wn ⟨rfl, hbn⟩; have HBW := hide (Below.trans HBW.out (hbn.mono HBW.out.size)); clear hbn)
          | (at_builtin; have hq2 := HQ2.out.below (HBW.out.alloc HBW.out.size (.cells (qCs (askReq 28 k l)) 61)); refine wpList_app1 (α := Req) rfl _ _ 22 rfl W.heap.size 61 qCs Tryz.underlying22 Tryz.infoOpC rfl (by decide) qCs_size qCs_one _ qs2 rfl hq2.own _ rfl (askReq 28 k l) (rng_whole (heap_alloc_at _ _)) (by omega) (by unfold maxLen; omega) hq2.bel.size ?_; intro v8 w8 hown8 hsame8 hbel8 hat8; have HQ8 := hide (hq2.add hbel8 hown8 (fun q hq => by rw [List.mem_singleton.1 hq]; exact isQ 28 k l rfl hku hlu)); clear hq2 hown8 hsame8 hbel8 hat8))
        refine Handed.intro (k + 4 - (l + 1)) (by omega) ?_
        exact hJ2.out _ (v8, .int .u32 ((l + 1 : Nat) : Int)) _ _ ⟨v8, l + 1, _, by omega, by omega, rfl, rfl, HQ8.out.up (by simp; omega)⟩ (by kernel_rfl)
      · as_aux_lemma =>
        go_wp2
        refine Handed.intro (files + 2 - (k + 1)) (by omega) ?_
        exact hJ1.out _ (v2, .int .u32 ((k + 1 : Nat) : Int)) _ _ ⟨v2, k + 1, _, by omega, rfl, rfl, HQ2.out.up (by omega)⟩ (by kernel_rfl)
    · as_aux_lemma =>
      go_wp2
      refine Handed.intro (files + 2 - (k + 1)) (by omega) ?_
      exact hJ1.out _ (v2, .int .u32 ((k + 1 : Nat) : Int)) _ _ ⟨v2, k + 1, _, by omega, rfl, rfl, HQ2.out.up (by omega)⟩ (by kernel_rfl)
  · as_aux_lemma =>
    have HQ1 : Hid (QA W wr v qs 500000) := HQ.out.up (by omega)
    go_upto_region 11 with fail
    clear hlt hk HQ
    refine wp_loop_mask quL3 (fun g x wr => ∃ (v : Value) (j : Nat) (qs : List Req), j ≤ entries + 2 ∧ g = entries + 2 - j ∧ x = (v, .int .u32 j) ∧ Hid (QA W wr v qs (500000 + j))) (entries + 2) (v, .int .u32 0) ⟨v, 0, qs, by omega, by omega, rfl, HQ1⟩ (by kernel_rfl) ?_
    clear HQ1
    intro gk3 x3 u3 wr hrel J3 K3 hJ3 hK3
    dsimp only [quL3, maskL_keep, maskL_any, maskL_is, maskL_nil]
    obtain ⟨v3, j, qs3, hj, rfl, rfl, HQ3⟩ := hrel
    dsimp only
    have hqn3 : qs3.length ≤ 600000 := by have := HQ3.out.len; omega
    by_cases hlt3 : j < entries + 2
    · as_aux_lemma =>
      have hju : U32 (j : Int) := ⟨by omega, by omega⟩
      have HBW : Hid (Below wr.heap.size wr wr) := Below.refl _ _
      go_wp2_with (first
        | (go_at_call 76; refine (reading_calls _ _ _ _).mono ?_; rintro e Wn ⟨rfl, hbn⟩; have HBW := hide (Below.trans HBW.out (hbn.mono HBW.out.size)); clear hbn)
        | (at_builtin; have hq2 := HQ3.out.below (HBW.out.alloc HBW.out.size (.cells (qCs (askReq 23 j 0)) 61)); refine wpList_app1 (α := Req) rfl _ _ 22 rfl W.heap.size 61 qCs Tryz.underlying22 Tryz.infoOpC rfl (by decide) qCs_size qCs_one _ qs3 rfl hq2.own _ rfl (askReq 23 j 0) (rng_whole (heap_alloc_at _ _)) (by omega) (by unfold maxLen; omega) hq2.bel.size ?_; intro v8 w8 hown8 hsame8 hbel8 hat8; have HQ8 := hide (hq2.add hbel8 hown8 (fun q hq => by rw [List.mem_singleton.1 hq]; exact isQ 23 j 0 rfl hju u32z)); clear hq2 hown8 hsame8 hbel8 hat8))
      refine Handed.intro (entries + 2 - (j + 1)) (by omega) ?_
      exact hJ3.out _ (v8, .int .u32 ((j + 1 : Nat) : Int)) _ _ ⟨v8, j + 1, _, by omega, rfl, rfl, HQ8.out.up (by simp; omega)⟩ (by kernel_rfl)
    · as_aux_lemma =>
      have HQ4 : Hid (QA W wr v3 qs3 600000) := HQ3.out.up (by omega)
      go_upto_region 15 with fail
      clear hlt3 hj HQ3
      refine wp_loop_mask quL4 (fun g x wr => ∃ (v : Value) (q : Nat) (qs : List Req), q ≤ n ∧ g = n - q ∧ x = (v, .int .i64 q) ∧ Hid (QA W wr v qs (600000 + 3 * q))) n (v3, .int .i64 0) ⟨v3, 0, qs3, by omega, by omega, rfl, HQ4⟩ (by kernel_rfl) ?_
      clear HQ4 hqn3
      intro gk4 x4 u4 wr hrel J4 K4 hJ4 hK4
      dsimp only [quL4, maskL_keep, maskL_any, maskL_is, maskL_nil]
      obtain ⟨v4, q, qs4, hq, rfl, rfl, HQ4⟩ := hrel
      dsimp only
      have hqn4 : qs4.length ≤ 900000 := by have := HQ4.out.len; omega
      by_cases hlt4 : q < n
      · as_aux_lemma =>
        have hqs : q < s.length := by rw [← Hn.out]; exact hlt4
        have hbb := HB.out (by omega)
        obtain ⟨lv, dv, ca, cn, cc, hcl, hro, hones⟩ := HC.out q hqs
        generalize s[q] = p at *
        have hcells : rng wr b (off + q * 27) 27 = some (opA p lv dv ca cn cc) := by rw [rng_of_block (HQ4.out.bel.block _ hbb)]; exact hcl
        have hbw : b < wr.heap.size := by have := HQ4.out.bel.size; omega
        clear hcl hbb hqs
        go_upto_region 17 with fail
        have hk1 : (wr.alloc (.cells (opA p lv dv ca cn cc) 61)).heap[wr.heap.size]? = some (.cells (opA p lv dv ca cn cc) 61 (0, 0)) := heap_alloc_at _ _
        have HQ5 := hide (HQ4.out.below ((Below.refl _ _).alloc (Nat.le_refl _) (.cells (opA p lv dv ca cn cc) 61)))
        generalize wr.alloc (.cells (opA p lv dv ca cn cc) 61) = U1 at *
        generalize wr.heap.size = D at *
        have c2 : U1.cell? ⟨D, 2, none⟩ = some (.int .u32 p.req.user) := cells_all hk1 2
        have c4 : U1.cell? ⟨D, 4, none⟩ = some (.int .u32 p.req.id) := cells_all hk1 4
        have c5 : U1.cell? ⟨D, 5, none⟩ = some (.int .u32 p.req.ref) := cells_all hk1 5
        have hdl := blk_lt hk1
        have HDR : Hid (Below U1.heap.size U1 U1.drew) := (Below.refl _ _).drew
        clear hk1 hcells hbw HQ4
        refine wp_region_mixT (U1.heap.size) [3, 7, 11, 14] (by kernel_rfl) ?_
        refine mixT_slots [0, 1, 2, 5, 6, 9, 10, 12, 13] (fuel := 10) rfl (by kernel_rfl) (by kernel_rfl) (fun d _ _ _ _ h => by cases d <;> exact h) ?_
        simp only [opersAt, List.getElem?_toArray, List.getElem?_cons_zero, List.getElem?_cons_succ]
        repeat (go_big_quiet_step (fail))
        refine wpQuiet_nil ?_
        refine mixT_reads [3, 7, 11, 14] (fuel := 6) rfl (by kernel_rfl) (by decide) (by kernel_rfl) (fun d _ _ _ _ h => by cases d <;> exact h) (ext_drew _ _) ?_
        simp only [opersAt, List.getElem?_toArray, List.getElem?_cons_zero, List.getElem?_cons_succ]
        repeat (go_big_quiet_step (fail))
        refine wpQuiet_nil ?_
        refine mixT_one (k := 4) (by kernel_rfl) rfl ?_
        go_wp2_with (go_at_call 76; refine (reading_calls _ _ _ _).mono ?_; rintro e Y1 ⟨rfl, hbn⟩; have HY1 : Hid (Below U1.heap.size U1 Y1) := (HDR.out.trans (hbn.mono HDR.out.size)); clear hbn)
        refine ⟨Or.inr (fun _ => ⟨⟨_, HY1.out⟩, rfl⟩), ?_⟩
        refine mixT_one (k := 8) (by kernel_rfl) rfl ?_
        go_wp2_with (go_at_call 76; refine (reading_calls _ _ _ _).mono ?_; rintro e Y2 ⟨rfl, hbn⟩; have HY2 : Hid (Below U1.heap.size U1 Y2) := (HY1.out.trans (hbn.mono HY1.out.size)); clear hbn)
        refine ⟨Or.inr (fun _ => ⟨⟨_, HY2.out⟩, rfl⟩), ?_⟩
        refine mixT_one (k := 15) (by kernel_rfl) rfl ?_
        go_wp2_with (go_at_call 76; refine (reading_calls _ _ _ _).mono ?_; rintro e Y3 ⟨rfl, hbn⟩; have HY3 : Hid (Below U1.heap.size U1 Y3) := (HY2.out.trans (hbn.mono HY2.out.size)); clear hbn)
        refine ⟨Or.inr (fun _ => ⟨⟨_, HY3.out⟩, rfl⟩), ?_⟩
        refine mixT_one (k := 16) (by kernel_rfl) rfl ?_
        go_wp2
        have HYA : Hid (Below U1.heap.size U1 (Y3.alloc (.cells (flat qCs [askReq 21 p.req.id 0, askReq 21 p.req.user 0, askReq 24 p.req.id p.req.ref]).toArray 61))) := HY3.out.alloc HY3.out.size _
        refine ⟨Or.inl (by kernel_rfl), ?_⟩
        have HQ6 := hide (HQ5.out.below HYA.out)
        have HLS := hide (lit_src Y3 [askReq 21 p.req.id 0, askReq 21 p.req.user 0, askReq 24 p.req.id p.req.ref] (by simp) (by simp))
        generalize Y3.alloc (.cells (flat qCs [askReq 21 p.req.id 0, askReq 21 p.req.user 0, askReq 24 p.req.id p.req.ref]).toArray 61) = Y4 at *
        refine mixT_one (k := 17) (by kernel_rfl) rfl ?_
        go_wp2_with (at_builtin; refine wpList_appN (α := Req) rfl _ _ 22 rfl W.heap.size 61 qCs Tryz.underlying22 Tryz.infoOpC rfl (by decide) qCs_size qCs_one _ qs4 rfl HQ6.out.own (some ⟨Y3.heap.size, 0, none⟩) 3 3 rfl [askReq 21 p.req.id 0, askReq 21 p.req.user 0, askReq 24 p.req.id p.req.ref] rfl (fun h => by cases h) (fun _ => HLS.out) (by omega) (by unfold maxLen; omega) HQ6.out.bel.size ?_; intro v9 w9 hown9 hsame9 hbel9 hat9; have HQ9 := hide (HQ6.out.add hbel9 hown9 (fun q hq => by simp only [List.mem_cons, List.not_mem_nil, or_false] at hq; rcases hq with rfl | rfl | rfl; exact isQ 21 p.req.id 0 rfl hro.id u32z; exact isQ 21 p.req.user 0 rfl hro.user u32z; exact isQ 24 p.req.id p.req.ref rfl hro.id hro.ref)); clear hown9 hsame9 hbel9 hat9)
        refine ⟨Or.inl (by kernel_rfl), ?_⟩
        refine mixT_one (k := 18) (by kernel_rfl) rfl ?_
        go_wp2
        refine ⟨Or.inl (by kernel_rfl), ?_⟩
        refine mixT_nil (by kernel_rfl) ?_
        go_wp2
        refine Handed.intro (n - (q + 1)) (by omega) ?_
        exact hJ4.out _ (v9, .int .i64 ((q + 1 : Nat) : Int)) _ _ ⟨v9, q + 1, _, by omega, rfl, rfl, HQ9.out.up (by simp; omega)⟩ (by kernel_rfl)
      · as_aux_lemma =>
        go_wp2
        go_ret
        exact ⟨_, _, rfl, HQ4.out.up (by omega)⟩
end Go.Proofs.Qxb6500666aGreatDoor
