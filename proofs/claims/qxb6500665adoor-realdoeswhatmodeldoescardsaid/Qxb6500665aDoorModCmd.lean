/- The abstract model made; defineAnalyte, walked. -/
import Derived.Test.Qxb6500665aDoorModSite
namespace Go.Proofs.Qxb6500665aDoor
open Go.RowKit Go.Proofs.Qxb6500665aDoor.Cal

def Tab0 : Tab := ⟨fun _ => none, fun _ => none, [], fun _ => false, fun _ => none⟩

section
variable {w w' : World} {M base N a p s u : Nat} {v : Value} {C : Nat → Prop} {T : Tab} {full : Bool}

theorem MAt.hlt (h : MAt w M base N a p s u v C T full) : ∀ b, MD M a p s u v C b → b < w.heap.size := by
  intro b hb
  obtain ⟨pf, h1, -⟩ := h.pan
  obtain ⟨mv, m1, -⟩ := h.vers
  rcases hb with hb | hb | hb
  · simp only [List.mem_cons, List.not_mem_nil, or_false] at hb
    rcases hb with rfl | rfl | rfl | rfl | rfl
    · exact (cell_six h.top).2.2.2.2.2.2.2
    · exact h.an.lt
    · exact h1.lt
    · exact h.site.lt
    · exact h.sub.lt
  · exact (m1.block b hb).2
  · exact (h.lt b hb).2

theorem MAt.bs (h : MAt w M base N a p s u v C T full) : base ≤ w.heap.size := by
  have h1 := (h.low M (by simp)).1
  have h2 := h.hlt M (Or.inl (by simp))
  omega

/-- It stands in every world that has only grown. -/
theorem MAt.ext (h : MAt w M base N a p s u v C T full) (hb : Below w.heap.size w w') : MAt w' M base N a p s u v C T full :=
  h.below (fun b hm => hb.block b (h.hlt b hm)) (fun b hx => hb.block b (Nat.lt_of_lt_of_le hx h.bs)) hb.size

theorem MCmd.after {w1 : World} {v' : Value} {C' : Nat → Prop} {T' : Tab} {full' : Bool} (h : MAt w M base N a p s u v C T full) (hb : Below w.heap.size w w1) {N' : Nat} (h1 : MCmd w1 w' M base N' a p s u v v' C C' T' full') : MCmd w w' M base N' a p s u v v' C C' T' full' := by
  have hz := hb.size
  refine ⟨h1.at', fun b hx hm => (h1.same b (by omega) hm).trans (hb.block b hx), (hb.mono h.bs).trans h1.below, fun b hx => ?_, ?_⟩
  · rcases h1.new b hx with h2 | h2
    · exact Or.inl h2
    · exact Or.inr (by omega)
  · rcases h1.newv with h2 | h2
    · exact Or.inl h2
    · exact Or.inr (fun b hx => by have := h2 b hx; omega)

/-- What stands when one of the model's blocks has been written. -/
theorem MAt.others (h : MAt w M base N a p s u v C T full) (x : Nat) (hx : x ∈ [M, a, p, s, u]) (hs : ∀ b, b < w.heap.size → b ≠ x → w'.heap[b]? = w.heap[b]?) :
    (∀ b ∈ [M, a, p, s, u], b ≠ x → w'.heap[b]? = w.heap[b]?) ∧ (∀ b, C b → w'.heap[b]? = w.heap[b]?) ∧ (∀ b, v.ownBlock = some b → w'.heap[b]? = w.heap[b]?) ∧ (∀ b, b < base → w'.heap[b]? = w.heap[b]?) := by
  have hl := h.low x hx
  refine ⟨fun b hb hne => hs b (h.hlt b (Or.inl hb)) hne, fun b hb => hs b (h.hlt b (Or.inr (Or.inr hb))) (fun e => hl.2.1 (e ▸ hb)), fun b hb => hs b (h.hlt b (Or.inr (Or.inl hb))) (fun e => hl.2.2 (e ▸ hb)), fun b hb => hs b (Nat.lt_of_lt_of_le hb h.bs) (fun e => by omega)⟩

theorem MAt.nds (h : MAt w M base N a p s u v C T full) : M ≠ a ∧ M ≠ p ∧ M ≠ s ∧ M ≠ u ∧ a ≠ p ∧ a ≠ s ∧ a ≠ u ∧ p ≠ s ∧ p ≠ u ∧ s ≠ u := by
  have hn := h.nd
  simp only [List.nodup_cons, List.mem_cons, List.not_mem_nil, or_false, not_or] at hn
  obtain ⟨⟨n1, n2, n3, n4⟩, ⟨n5, n6, n7⟩, ⟨n8, n9⟩, n10, -⟩ := hn
  exact ⟨n1, n2, n3, n4, n5, n6, n7, n8, n9, n10⟩

theorem MAt.putAn {f : Int → Option (Int × Int × Int)} (h : MAt w M base N a p s u v C T full) (hs : ∀ b, b < w.heap.size → b ≠ a → w'.heap[b]? = w.heap[b]?) (hm : MapU w' a (N + 1) anZ (fun k => (f k).map (anV k))) (hgb : Below base w w') :
    MCmd w w' M base (N + 1) a p s u v v C C { T with an := f } full := by
  obtain ⟨pf, h1, h2⟩ := h.pan
  obtain ⟨mv, m1, m2, m3, m4⟩ := h.vers
  obtain ⟨n1, n2, n3, n4, n5, n6, n7, n8, n9, n10⟩ := h.nds
  obtain ⟨o1, o2, o3, o4⟩ := h.others a (by simp) hs
  refine ⟨⟨(o1 M (by simp) n1).trans h.top, hm, ⟨pf, (h1.same (o1 p (by simp) n5.symm)).mono (Nat.le_succ _), fun k hk => ?_⟩, ⟨mv, m1.mono o3, m2, m3, fun x hx => (m4 x hx).mono (fun b hb => hb.elim (o4 b) (o2 b)) (fun _ h => h)⟩, (h.site.same (o1 s (by simp) n6.symm)).mono (Nat.le_succ _), (h.sub.same (o1 u (by simp) n7.symm)).mono (Nat.le_succ _), h.nd, h.low, h.own, fun b hb => ⟨(h.lt b hb).1, Nat.lt_of_lt_of_le (h.lt b hb).2 hgb.size⟩⟩, fun b hb hd => hs b hb (fun e => hd (Or.inl (by rw [e]; simp))), hgb, fun b hb => Or.inl hb, Or.inl rfl⟩
  rcases h2 k hk with h3 | ⟨ids, pv, h3, h4, h5⟩
  · exact Or.inl h3
  · exact Or.inr ⟨ids, pv, h3, h4, h5.mono o2 (fun _ h => h)⟩

theorem MAt.putSub {f : Int → Option (Int × Int)} (h : MAt w M base N a p s u v C T full) (hs : ∀ b, b < w.heap.size → b ≠ u → w'.heap[b]? = w.heap[b]?) (hm : MapU w' u (N + 1) suZ (fun k => (f k).map (suV k))) (hgb : Below base w w') :
    MCmd w w' M base (N + 1) a p s u v v C C { T with sub := f } full := by
  obtain ⟨pf, h1, h2⟩ := h.pan
  obtain ⟨mv, m1, m2, m3, m4⟩ := h.vers
  obtain ⟨n1, n2, n3, n4, n5, n6, n7, n8, n9, n10⟩ := h.nds
  obtain ⟨o1, o2, o3, o4⟩ := h.others u (by simp) hs
  refine ⟨⟨(o1 M (by simp) n4).trans h.top, (h.an.same (o1 a (by simp) n7)).mono (Nat.le_succ _), ⟨pf, (h1.same (o1 p (by simp) n9)).mono (Nat.le_succ _), fun k hk => ?_⟩, ⟨mv, m1.mono o3, m2, m3, fun x hx => (m4 x hx).mono (fun b hb => hb.elim (o4 b) (o2 b)) (fun _ h => h)⟩, (h.site.same (o1 s (by simp) n10)).mono (Nat.le_succ _), hm, h.nd, h.low, h.own, fun b hb => ⟨(h.lt b hb).1, Nat.lt_of_lt_of_le (h.lt b hb).2 hgb.size⟩⟩, fun b hb hd => hs b hb (fun e => hd (Or.inl (by rw [e]; simp))), hgb, fun b hb => Or.inl hb, Or.inl rfl⟩
  rcases h2 k hk with h3 | ⟨ids, pv, h3, h4, h5⟩
  · exact Or.inl h3
  · exact Or.inr ⟨ids, pv, h3, h4, h5.mono o2 (fun _ h => h)⟩

/-- A panel: its list has been laid into a new block g. -/
theorem MAt.putPan {id : Int} {ids : List Int} {pv : Value} {g : Nat} {pf : Int → Option Value} (h : MAt w M base N a p s u v C T full) (hs : ∀ b, b < w.heap.size → b ≠ p → w'.heap[b]? = w.heap[b]?) (hgb : Below base w w')
    (hpf : ∀ k, U32 k → (T.pan k = none ∧ pf k = none) ∨ ∃ ids pv, T.pan k = some ids ∧ pf k = some pv ∧ U32sAt w C pv ids)
    (hm : MapU w' p (N + 1) (.slice none 0 0) (upd pf id (some pv))) (hg : w.heap.size ≤ g) (hg' : g < w'.heap.size) (hv : U32sAt w' (· = g) pv ids) :
    MCmd w w' M base (N + 1) a p s u v v C (fun b => C b ∨ b = g) { T with pan := upd T.pan id (some ids) } full := by
  obtain ⟨mv, m1, m2, m3, m4⟩ := h.vers
  obtain ⟨n1, n2, n3, n4, n5, n6, n7, n8, n9, n10⟩ := h.nds
  obtain ⟨o1, o2, o3, o4⟩ := h.others p (by simp) hs
  have hng : ∀ b, MD M a p s u v C b → b ≠ g := fun b hb => by have := h.hlt b hb; omega
  have hbs := h.bs
  refine ⟨⟨(o1 M (by simp) n2).trans h.top, (h.an.same (o1 a (by simp) n5)).mono (Nat.le_succ _), ⟨_, hm, fun k hk => ?_⟩, ⟨mv, m1.mono o3, m2, m3, fun x hx => (m4 x hx).mono (fun b hb => hb.elim (o4 b) (o2 b)) (fun b hb => hb.elim Or.inl (fun h => Or.inr (Or.inl h)))⟩, (h.site.same (o1 s (by simp) n8.symm)).mono (Nat.le_succ _), (h.sub.same (o1 u (by simp) n9.symm)).mono (Nat.le_succ _), h.nd, fun b hb => ⟨(h.low b hb).1, fun hc => hc.elim (h.low b hb).2.1 (hng b (Or.inl hb)), (h.low b hb).2.2⟩, fun b hb hc => hc.elim (h.own b hb) (hng b (Or.inr (Or.inl hb))), fun b hb => ?_⟩, fun b hb hd => hs b hb (fun e => hd (Or.inl (by rw [e]; simp))), hgb, fun b hb => hb.elim Or.inl (fun e => Or.inr (by omega)), Or.inl rfl⟩
  · by_cases he : k = id
    · subst he
      exact Or.inr ⟨ids, pv, by simp [upd], by simp [upd], hv.mono (Same.refl _ _) (fun b hb => Or.inr hb)⟩
    · rcases hpf k hk with ⟨h3, h4⟩ | ⟨ids', pv', h3, h4, h5⟩
      · exact Or.inl ⟨by simp [upd, he, h3], by simp [upd, he, h4]⟩
      · exact Or.inr ⟨ids', pv', by simp [upd, he, h3], by simp [upd, he, h4], h5.mono o2 (fun b hb => Or.inl hb)⟩
  · rcases hb with hb | rfl
    · exact ⟨(h.lt b hb).1, Nat.lt_of_lt_of_le (h.lt b hb).2 hgb.size⟩
    · exact ⟨by omega, hg'⟩
end

theorem MapU.empty {w : World} {B : Nat} (z : Value) (h : w.heap[B]? = some (.map #[] 0)) : MapU w B 0 z (fun _ => none) :=
  ⟨.map [], ⟨#[], 0, h, ⟨by simp, MapKept.stamped_empty 0, by simp⟩, Nat.le_refl _, rfl⟩, fun _ _ => ⟨rfl, rfl⟩⟩

theorem heap5 (w : World) (o1 o2 o3 o4 o5 : Obj) : (((((w.alloc o1).alloc o2).alloc o3).alloc o4).alloc o5).heap[w.heap.size]? = some o1 ∧ (((((w.alloc o1).alloc o2).alloc o3).alloc o4).alloc o5).heap[w.heap.size + 1]? = some o2 ∧ (((((w.alloc o1).alloc o2).alloc o3).alloc o4).alloc o5).heap[w.heap.size + 2]? = some o3 ∧ (((((w.alloc o1).alloc o2).alloc o3).alloc o4).alloc o5).heap[w.heap.size + 3]? = some o4 ∧ (((((w.alloc o1).alloc o2).alloc o3).alloc o4).alloc o5).heap[w.heap.size + 4]? = some o5 := by
  have e1 := (MapKept.heap_alloc w o1).1
  have e2 := (MapKept.heap_alloc (w.alloc o1) o2).1
  have e3 := (MapKept.heap_alloc ((w.alloc o1).alloc o2) o3).1
  have e4 := (MapKept.heap_alloc (((w.alloc o1).alloc o2).alloc o3) o4).1
  have e5 := (MapKept.heap_alloc ((((w.alloc o1).alloc o2).alloc o3).alloc o4) o5).1
  simp only [World.size_alloc, Nat.add_assoc, Nat.reduceAdd] at e1 e2 e3 e4 e5
  refine ⟨?_, ?_, ?_, ?_, e5⟩
  · rw [Below.heap_alloc _ _ _ (by simp only [World.size_alloc]; omega), Below.heap_alloc _ _ _ (by simp only [World.size_alloc]; omega), Below.heap_alloc _ _ _ (by simp only [World.size_alloc]; omega), Below.heap_alloc _ _ _ (by simp only [World.size_alloc]; omega)]; exact e1
  · rw [Below.heap_alloc _ _ _ (by simp only [World.size_alloc]; omega), Below.heap_alloc _ _ _ (by simp only [World.size_alloc]; omega), Below.heap_alloc _ _ _ (by simp only [World.size_alloc]; omega)]; exact e2
  · rw [Below.heap_alloc _ _ _ (by simp only [World.size_alloc]; omega), Below.heap_alloc _ _ _ (by simp only [World.size_alloc]; omega)]; exact e3
  · rw [Below.heap_alloc _ _ _ (by simp only [World.size_alloc]; omega)]; exact e4

set_option maxRecDepth 100000 in
theorem new_m (w : World) : Calls Tryd.prog 7 #[] w fun e w' => e = .returned (.pointer (some ⟨w.heap.size + 4, 0, none⟩)) ∧
    MAt w' (w.heap.size + 4) w.heap.size 0 w.heap.size (w.heap.size + 1) (w.heap.size + 2) (w.heap.size + 3) (.slice none 0 0) (fun _ => False) Tab0 false ∧ Below w.heap.size w w' ∧ w'.heap.size = w.heap.size + 5 := by
  have hmm := @run_makeMap Tryd.prog
  go_enter Tryd.func7, Tryd.ntmps7
  go_wp2
  go_ret
  obtain ⟨h1, h2, h3, h4, h5⟩ := heap5 w (.map #[] 0) (.map #[] 0) (.map #[] 0) (.map #[] 0) (.cells #[.map (some w.heap.size), .map (some (w.heap.size + 1)), .slice none 0 0, .map (some (w.heap.size + 2)), .map (some (w.heap.size + 3)), .bool false] 70)
  refine ⟨rfl, ⟨h5, MapU.empty _ h1, ⟨_, MapU.empty _ h2, fun _ _ => Or.inl ⟨rfl, rfl⟩⟩, ⟨[], OwnR.nil _ _ _ _ _, rfl, fun k h => absurd h (by simp), fun x hx => by cases hx⟩, MapU.empty _ h3, MapU.empty _ h4, by simp, ?_, fun b hb => (fun h => h), fun b hb => hb.elim⟩, ?_, by simp⟩
  · intro b hb
    simp only [List.mem_cons, List.not_mem_nil, or_false] at hb
    exact ⟨by omega, (fun h => h), by simp [Value.ownBlock]⟩
  · exact ((((((Below.refl _ _).alloc (Nat.le_refl _) _).alloc (by simp only [World.size_alloc]; omega) _).alloc (by simp only [World.size_alloc]; omega) _).alloc (by simp only [World.size_alloc]; omega) _).alloc (by simp only [World.size_alloc]; omega) _)

def mAn (T : Tab) (full : Bool) (id l0 l1 l2 : Int) : Int := if id = 0 then 2 else if limBad [l0, l1, l2] then 5 else if (T.an id).isSome then 9 else if full then 21 else 0
def mAnT (T : Tab) (full : Bool) (id l0 l1 l2 : Int) : Tab := if mAn T full id l0 l1 l2 = 0 then { T with an := upd T.an id (some (l0, l1, l2)) } else T

theorem Tryd.mapAn : Tryd.prog.underlying 64 = some (.map 29 43) := by kernel_rfl
theorem Tryd.zeroAn (w : World) : (zeroValue 43).run Tryd.prog w = .ok anZ w := by kernel_rfl

attribute [local go_sem ↓] exec_stAnalyte
attribute [local go_sem] run_stAnalyte whole_alloc_lt whole_alloc_at whole_drew setRow_alloc_at setRow_alloc_lt setRow_drew ext_const Ext.cell Ext.frozen Ext.rng Ext.whole

set_option maxRecDepth 100000 in
set_option maxHeartbeats 2000000 in
theorem defineAnalyte_m (w : World) (M base N a p s u : Nat) (v : Value) (C : Nat → Prop) (T : Tab) (full : Bool) (id l0 l1 l2 : Int) (h : MAt w M base N a p s u v C T full) (hid : U32 id) (hN : N < 1000000000) :
    Calls Tryd.prog 34 #[.pointer (some ⟨M, 0, none⟩), .agg #[.int .u32 id, .int .i64 l0, .int .i64 l1, .int .i64 l2]] w fun e w' => SitePost w w' e M base (N + 1) a p s u v C full (mAn T full id l0 l1 l2) (mAnT T full id l0 l1 l2) := by
  obtain ⟨K, hK⟩ : ∃ K, K = mAn T full id l0 l1 l2 := ⟨_, rfl⟩
  obtain ⟨T', hT'⟩ : ∃ T', T' = mAnT T full id l0 l1 l2 := ⟨_, rfl⟩
  rw [← hK, ← hT']
  have HK := hide (And.intro hK hT')
  clear hK hT'
  obtain ⟨w1, hw1⟩ : ∃ w1, w1 = w.alloc (.cells #[.int .u32 id, .int .i64 l0, .int .i64 l1, .int .i64 l2] 43) := ⟨_, rfl⟩
  have hb1 : Below w.heap.size w w1 := by rw [hw1]; exact (Below.refl _ _).alloc (Nat.le_refl _) _
  have hs1 : w1.heap.size = w.heap.size + 1 := by rw [hw1]; simp
  have hX : w1.heap[w.heap.size]? = some (.cells #[.int .u32 id, .int .i64 l0, .int .i64 l1, .int .i64 l2] 43 (0, 0)) := by rw [hw1]; exact heap_alloc_at _ _
  have HW1 := hide hw1
  have x0 : w1.cell? ⟨w.heap.size, 0, none⟩ = some (.int .u32 id) := by rw [World.cell?, hX]; rfl
  have x1 : w1.cell? ⟨w.heap.size, 1, none⟩ = some (.int .i64 l0) := by rw [World.cell?, hX]; rfl
  have x2 : w1.cell? ⟨w.heap.size, 2, none⟩ = some (.int .i64 l1) := by rw [World.cell?, hX]; rfl
  have x3 : w1.cell? ⟨w.heap.size, 3, none⟩ = some (.int .i64 l2) := by rw [World.cell?, hX]; rfl
  have HM := hide h
  have HM1 := hide (h.ext hb1)
  have HB1 := hide hb1
  clear h hw1 hX hb1
  by_cases h0 : id = 0
  · have t0 : (id == 0) = true := by simp [h0]
    have HE : Hid (K = 2 ∧ T' = T) := by
      have e : mAn T full id l0 l1 l2 = 2 := by rw [mAn, if_pos h0]
      exact ⟨HK.out.1.trans e, HK.out.2.trans (by rw [mAnT, e, if_neg (by decide)])⟩
    clear h0
    go_enter Tryd.func34, Tryd.ntmps34
    go_upto_region 1 with fail
    rw [← HW1.out]
    go_wp2
    go_ret
    exact ret_site HE ⟨rfl, MCmd.after HM.out HB1.out (MCmd.refl HM1.out)⟩
  have t0 : (id == 0) = false := by simp [h0]
  have HK2 : Hid (K = (if limBad [l0, l1, l2] then 5 else if (T.an id).isSome then 9 else if full then 21 else 0) ∧ T' = if K = 0 then { T with an := upd T.an id (some (l0, l1, l2)) } else T) := by
    obtain ⟨e1, e2⟩ := HK.out
    refine ⟨?_, ?_⟩
    · rw [e1, mAn, if_neg h0]
    · rw [e2, mAnT, e1]
  clear HK h0
  go_enter Tryd.func34, Tryd.ntmps34
  go_upto_region 1 with fail
  rw [← HW1.out]
  go_upto_region 4 with fail
  go_loopw [14] (fun j wr => ∃ q : Nat, q ≤ 3 ∧ j = .int .i64 q ∧ w1 = wr ∧ Hid (∀ x ∈ [l0, l1, l2].take q, 0 ≤ x ∧ x ≤ 5256000)) (fun j _ => 3 - (intOf j).toNat)
  case atStart => exact ⟨0, by omega, rfl, rfl, by show ∀ x ∈ List.take 0 [l0, l1, l2], _; simp⟩
  case round =>
    obtain ⟨q, hq, rfl, rfl, HI⟩ := hrel
    by_cases hlt : q < 3
    · obtain ⟨x, pre, htk, htk1, hix, hmem⟩ : ∃ x pre, [l0, l1, l2].take q = pre ∧ [l0, l1, l2].take (q + 1) = pre ++ [x] ∧ (∀ W, (Instr.index 30 (.agg #[.int .i64 l0, .int .i64 l1, .int .i64 l2]) (.int .i64 (q : Int))).run Tryd.prog W = .ok (.int .i64 x) W) ∧ x ∈ [l0, l1, l2] := by
        rcases (show q = 0 ∨ q = 1 ∨ q = 2 by omega) with rfl | rfl | rfl
        · exact ⟨_, _, rfl, rfl, fun W => by kernel_rfl, by simp⟩
        · exact ⟨_, _, rfl, rfl, fun W => by kernel_rfl, by simp⟩
        · exact ⟨_, _, rfl, rfl, fun W => by kernel_rfl, by simp⟩
      have HT0 := hide htk
      have HT1 := hide htk1
      have HBAD : Hid ((x < 0 ∨ 5256000 < x) → K = 5 ∧ T' = T) := fun hx => by
        have hb : limBad [l0, l1, l2] = true := by
          unfold limBad
          rw [List.any_eq_true]
          exact ⟨x, hmem, by simp only [Bool.or_eq_true, decide_eq_true_eq]; exact hx⟩
        have e := HK2.out.1
        rw [if_pos hb] at e
        exact ⟨e, by rw [HK2.out.2, e, if_neg (by decide)]⟩
      clear htk htk1 hmem
      by_cases b1 : x < 0
      · have HE := hide (HBAD.out (Or.inl b1))
        go_wp2
        go_ret
        exact ret_site HE ⟨rfl, MCmd.after HM.out HB1.out (MCmd.refl HM1.out)⟩
      · by_cases b2 : 5256000 < x
        · have HE := hide (HBAD.out (Or.inr b2))
          go_wp2
          go_ret
          exact ret_site HE ⟨rfl, MCmd.after HM.out HB1.out (MCmd.refl HM1.out)⟩
        · go_wp2
          go_roundw
          case measure => simp [intOf]; omega
          case rel =>
            refine ⟨q + 1, by omega, by go_num, by first | rfl | trivial, ?_⟩
            show ∀ y ∈ [l0, l1, l2].take (q + 1), 0 ≤ y ∧ y ≤ 5256000
            rw [HT1.out]
            intro y hy
            rcases List.mem_append.1 hy with hy | hy
            · exact HI.out y (by rw [HT0.out]; exact hy)
            · rw [List.mem_singleton.1 hy]; omega
    · have hq3 : q = 3 := by omega
      subst hq3
      have HL : Hid (limBad [l0, l1, l2] = false) := by
        show _ = _
        unfold limBad
        rw [List.any_eq_false]
        intro x hx
        have := HI.out x (by simpa using hx)
        simp only [Bool.or_eq_true, decide_eq_true_eq]
        omega
      have HK3 : Hid (K = (if (T.an id).isSome then 9 else if full then 21 else 0) ∧ T' = if K = 0 then { T with an := upd T.an id (some (l0, l1, l2)) } else T) := ⟨by rw [HK2.out.1, HL.out]; rfl, HK2.out.2⟩
      clear HI HL HK2
      have hMl := HM.out.hlt M (Or.inl (by simp))
      obtain ⟨c0, -, -, -, -, c5, -, -⟩ := cell_six HM1.out.top
      have hlk : ∀ x : Ext w1.heap.size w1, (Instr.lookup 64 (.map (some a)) (.int .u32 id) true).run Tryd.prog x.world = .ok (.tuple #[((T.an id).map (anV id)).getD anZ, .bool ((T.an id).map (anV id)).isSome]) x.world := fun x => (HM1.out.ext x.below).an.look_ok Tryd.mapAn (Tryd.zeroAn x.world) hid
      go_upto_region 9 with fail
      cases hTa : T.an id with
      | some l =>
        rw [hTa] at hlk HK3
        have HE : Hid (K = 9 ∧ T' = T) := by
          have e := HK3.out.1
          simp only [Option.isSome_some, if_true] at e
          exact ⟨e, by rw [HK3.out.2, e, if_neg (by decide)]⟩
        simp only [Option.map_some, Option.getD_some, Option.isSome_some, anV] at hlk
        refine wp_region_mixT (w1.heap.size) [3, 5, 6] (by kernel_rfl) ?_
        refine mixT_slots [0, 1, 2, 4] (fuel := 9) rfl (by kernel_rfl) (by kernel_rfl) (fun d _ _ _ _ h => by cases d <;> exact h) ?_
        simp only [opersAt, List.getElem?_toArray, List.getElem?_cons_zero, List.getElem?_cons_succ]
        repeat (go_big_quiet_step (fail))
        refine wpQuiet_nil ?_
        refine mixT_reads [3, 5, 6] (fuel := 6) rfl (by kernel_rfl) (by decide) (by kernel_rfl) (fun d _ _ _ _ h => by cases d <;> exact h) (ext_drew _ _) ?_
        simp only [opersAt, List.getElem?_toArray, List.getElem?_cons_zero, List.getElem?_cons_succ]
        repeat (go_big_quiet_step (fail))
        refine wpQuiet_nil ?_
        refine mixT_slots [7, 8, 9] (fuel := 3) rfl (by kernel_rfl) (by kernel_rfl) (fun d _ _ _ _ h => by cases d <;> exact h) ?_
        simp only [opersAt, List.getElem?_toArray, List.getElem?_cons_zero, List.getElem?_cons_succ]
        repeat (go_big_quiet_step (fail))
        refine wpQuiet_nil ?_
        refine mixT_one (k := 10) (by kernel_rfl) rfl ?_
        go_wp2
        refine ⟨Or.inr (fun _ => ⟨⟨_, ((Below.refl _ _).alloc (Nat.le_refl _) _).drew⟩, rfl⟩), ?_⟩
        refine mixT_one (k := 11) (by kernel_rfl) rfl ?_
        go_wp2
        refine ⟨Or.inl (by kernel_rfl), ?_⟩
        refine mixT_one (k := 12) (by kernel_rfl) rfl ?_
        go_wp2
        refine ⟨Or.inr (fun h => h), ?_⟩
        refine mixT_nil (by kernel_rfl) ?_
        go_wp2
        go_ret
        have hb2 := ((Below.refl w1.heap.size w1).alloc (Nat.le_refl _) (.cells #[.int .u32 id, .int .i64 l.1, .int .i64 l.2.1, .int .i64 l.2.2] 43)).drew
        exact ret_site HE ⟨rfl, MCmd.after HM.out HB1.out (MCmd.after HM1.out hb2 (MCmd.refl (HM1.out.ext hb2)))⟩
      | none =>
        rw [hTa] at hlk HK3
        simp only [Option.map_none, Option.getD_none, Option.isSome_none, anZ] at hlk
        refine wp_region_mixT (w1.heap.size) [3, 5, 6] (by kernel_rfl) ?_
        refine mixT_slots [0, 1, 2, 4] (fuel := 9) rfl (by kernel_rfl) (by kernel_rfl) (fun d _ _ _ _ h => by cases d <;> exact h) ?_
        simp only [opersAt, List.getElem?_toArray, List.getElem?_cons_zero, List.getElem?_cons_succ]
        repeat (go_big_quiet_step (fail))
        refine wpQuiet_nil ?_
        refine mixT_reads [3, 5, 6] (fuel := 6) rfl (by kernel_rfl) (by decide) (by kernel_rfl) (fun d _ _ _ _ h => by cases d <;> exact h) (ext_drew _ _) ?_
        simp only [opersAt, List.getElem?_toArray, List.getElem?_cons_zero, List.getElem?_cons_succ]
        repeat (go_big_quiet_step (fail))
        refine wpQuiet_nil ?_
        refine mixT_slots [7, 8, 9] (fuel := 3) rfl (by kernel_rfl) (by kernel_rfl) (fun d _ _ _ _ h => by cases d <;> exact h) ?_
        simp only [opersAt, List.getElem?_toArray, List.getElem?_cons_zero, List.getElem?_cons_succ]
        repeat (go_big_quiet_step (fail))
        refine wpQuiet_nil ?_
        refine mixT_one (k := 10) (by kernel_rfl) rfl ?_
        go_wp2
        refine ⟨Or.inr (fun _ => ⟨⟨_, ((Below.refl _ _).alloc (Nat.le_refl _) _).drew⟩, rfl⟩), ?_⟩
        refine mixT_one (k := 11) (by kernel_rfl) rfl ?_
        go_wp2
        refine ⟨Or.inl (by kernel_rfl), ?_⟩
        refine mixT_one (k := 12) (by kernel_rfl) rfl ?_
        go_wp2
        refine ⟨Or.inr (fun h => h), ?_⟩
        refine mixT_nil (by kernel_rfl) ?_
        obtain ⟨w2, hw2⟩ : ∃ w2, w2 = (w1.alloc (.cells #[.int .u32 0, .int .i64 0, .int .i64 0, .int .i64 0] 43)).drew := ⟨_, rfl⟩
        have hb2 : Below w1.heap.size w1 w2 := by rw [hw2]; exact ((Below.refl _ _).alloc (Nat.le_refl _) _).drew
        rw [← hw2]
        have hs2 : w1.heap.size < w2.heap.size := by rw [hw2]; show _ < (w1.alloc _).heap.size; simp
        have HM2 := hide (HM1.out.ext hb2)
        obtain ⟨d0, -, -, -, -, d5, -, -⟩ := cell_six HM2.out.top
        have y0 : w2.cell? ⟨w.heap.size, 0, none⟩ = some (.int .u32 id) := (hb2.cell (p := ⟨w.heap.size, 0, none⟩) (by show w.heap.size < w1.heap.size; omega)).trans x0
        have y1 : w2.cell? ⟨w.heap.size, 1, none⟩ = some (.int .i64 l0) := (hb2.cell (p := ⟨w.heap.size, 1, none⟩) (by show w.heap.size < w1.heap.size; omega)).trans x1
        have y2 : w2.cell? ⟨w.heap.size, 2, none⟩ = some (.int .i64 l1) := (hb2.cell (p := ⟨w.heap.size, 2, none⟩) (by show w.heap.size < w1.heap.size; omega)).trans x2
        have y3 : w2.cell? ⟨w.heap.size, 3, none⟩ = some (.int .i64 l2) := (hb2.cell (p := ⟨w.heap.size, 3, none⟩) (by show w.heap.size < w1.heap.size; omega)).trans x3
        have HB2 := hide hb2
        have hss : w.heap.size < w2.heap.size := by omega
        have hMl2 : M < w2.heap.size := by omega
        clear hw2 hb2 hlk
        cases full with
        | true =>
          have HE : Hid (K = 21 ∧ T' = T) := by
            have e := HK3.out.1
            simp only [Option.isSome_none, Bool.false_eq_true, if_false, if_true] at e
            exact ⟨e, by rw [HK3.out.2, e, if_neg (by decide)]⟩
          go_wp2
          go_ret
          exact ret_site HE ⟨rfl, MCmd.after HM.out HB1.out (MCmd.after HM1.out HB2.out (MCmd.refl HM2.out))⟩
        | false =>
          have HE : Hid (K = 0 ∧ T' = { T with an := upd T.an id (some (l0, l1, l2)) }) := by
            have e := HK3.out.1
            simp only [Option.isSome_none, Bool.false_eq_true, if_false] at e
            exact ⟨e, by rw [HK3.out.2, e, if_pos rfl]⟩
          have HM3 := hide (HM2.out.ext (Below.refl _ _).drew)
          obtain ⟨w3, hup, hmu, hg⟩ := HM3.out.an.put Tryd.mapAn (show N < maxLen by unfold maxLen; omega) hid (anV id (l0, l1, l2))
          have hal := HM3.out.an.lt
          have hab := (HM3.out.low a (by simp)).1
          have HM4 := hide (HM3.out.putAn (f := upd T.an id (some (l0, l1, l2))) (fun b hb hne => hg.block b hb (by simpa using hne)) (by
            have e : upd (fun k => (T.an k).map (anV k)) id (some (anV id (l0, l1, l2))) = fun k => (upd T.an id (some (l0, l1, l2)) k).map (anV k) := by
              funext k
              unfold upd
              by_cases hk : k = id
              · simp [hk]
              · simp [hk]
            rw [e] at hmu
            exact hmu) ((Below.refl base _).grown hg (by have := HM3.out.bs; omega) (fun j hj => by cases hj; exact hab)))
          have HG := hide hg
          simp only [anV] at hup
          clear hg hmu hab hal
          go_upto_region 14 with fail
          refine wp_region_mixT (w2.heap.size) [3, 5, 6] (by kernel_rfl) ?_
          refine mixT_slots [0, 1, 2, 4] (fuel := 4) rfl (by kernel_rfl) (by kernel_rfl) (fun d _ _ _ _ h => by cases d <;> exact h) ?_
          simp only [opersAt, List.getElem?_toArray, List.getElem?_cons_zero, List.getElem?_cons_succ]
          repeat (go_big_quiet_step (fail))
          refine wpQuiet_nil ?_
          refine mixT_reads [3, 5, 6] (fuel := 1) rfl (by kernel_rfl) (by decide) (by kernel_rfl) (fun d _ _ _ _ h => by cases d <;> exact h) (ext_drew _ _) ?_
          simp only [opersAt, List.getElem?_toArray, List.getElem?_cons_zero, List.getElem?_cons_succ]
          repeat (go_big_quiet_step (fail))
          refine wpQuiet_nil ?_
          refine mixT_one (k := 7) (by kernel_rfl) rfl ?_
          go_wp2
          refine ⟨Or.inl (by kernel_rfl), ?_⟩
          refine mixT_nil (by kernel_rfl) ?_
          go_wp2
          go_ret
          exact ret_site HE ⟨rfl, MCmd.after HM.out HB1.out (MCmd.after HM1.out HB2.out (MCmd.after HM2.out (Below.refl _ _).drew HM4.out))⟩

end Go.Proofs.Qxb6500665aDoor
