/- The layers beneath: copied, walked. -/
import Derived.Test.Qxb6500666aGreatDoorLowFind3
import Derived.Test.Qxb6500666aGreatDoorMix4
namespace Go.Proofs.Qxb6500666aGreatDoor
open Go.RowKit

section
variable {P : Program} {ops : Array Oper} {Q : Exit → Act → World → Prop} {md : Region.Mode} {S : World → Prop} {R : List Nat}
theorem mixT_two {listed : Array Bool} {a : Act} {w : World} {fuel k k' : Nat} {o o' : Oper} (hr : Region.ready md ops listed = [k, k']) (ho : ops.toList[k]? = some o) (ho' : ops.toList[k']? = some o')
    (h : wpList P ops (Exit.then (fun a' w' => (fullT md ops R k = true ∨ (S w → S w')) ∧ wpMixT P md ops Q S R fuel (listed.setIfInBounds k true) a' w') Q) [o] a w)
    (h' : wpList P ops (Exit.then (fun a' w' => (fullT md ops R k' = true ∨ (S w → S w')) ∧ wpMixT P md ops Q S R fuel (listed.setIfInBounds k' true) a' w') Q) [o'] a w) : wpMixT P md ops Q S R (fuel + 1) listed a w :=
  ⟨fun e => absurd (hr ▸ e) (by simp), fun i hi => by
    rw [hr] at hi
    have : i = k ∨ i = k' := by simpa using hi
    rcases this with rfl | rfl
    · exact wpOp_list (by simpa using ho) h
    · exact wpOp_list (by simpa using ho') h'⟩
theorem mixT_three {listed : Array Bool} {a : Act} {w : World} {fuel k k' k2 : Nat} {o o' o2 : Oper} (hr : Region.ready md ops listed = [k, k', k2]) (ho : ops.toList[k]? = some o) (ho' : ops.toList[k']? = some o') (ho2 : ops.toList[k2]? = some o2)
    (h : wpList P ops (Exit.then (fun a' w' => (fullT md ops R k = true ∨ (S w → S w')) ∧ wpMixT P md ops Q S R fuel (listed.setIfInBounds k true) a' w') Q) [o] a w)
    (h' : wpList P ops (Exit.then (fun a' w' => (fullT md ops R k' = true ∨ (S w → S w')) ∧ wpMixT P md ops Q S R fuel (listed.setIfInBounds k' true) a' w') Q) [o'] a w)
    (h2 : wpList P ops (Exit.then (fun a' w' => (fullT md ops R k2 = true ∨ (S w → S w')) ∧ wpMixT P md ops Q S R fuel (listed.setIfInBounds k2 true) a' w') Q) [o2] a w) : wpMixT P md ops Q S R (fuel + 1) listed a w :=
  ⟨fun e => absurd (hr ▸ e) (by simp), fun i hi => by
    rw [hr] at hi
    have : i = k ∨ i = k' ∨ i = k2 := by simpa using hi
    rcases this with rfl | rfl | rfl
    · exact wpOp_list (by simpa using ho) h
    · exact wpOp_list (by simpa using ho') h'
    · exact wpOp_list (by simpa using ho2) h2⟩
end

theorem Tryz.info202 : (Tryz.prog.info? 202).map (fun i => (i.zero, i.size, i.bytes)) = some (some (.agg (kitCs ⟨0, 0⟩)), 2, 8) := by kernel_rfl
theorem Tryz.info94 : (Tryz.prog.info? 94).map (fun i => (i.zero, i.size, i.bytes)) = some (some (.agg (smpCs ⟨0, 0, 0, 0, 0, 0, 0, false⟩)), 8, 48) := by kernel_rfl
theorem Tryz.info92 : (Tryz.prog.info? 92).map (fun i => (i.zero, i.size, i.bytes)) = some (some (.agg (resCs ⟨0, 0, 0, 0, 0, false⟩)), 6, 40) := by kernel_rfl
theorem Tryz.info208 : (Tryz.prog.info? 208).map (fun i => (i.zero, i.size, i.bytes)) = some (some (.agg (qryCs ⟨0, 0, 0⟩)), 3, 12) := by kernel_rfl

theorem results_cell1 {P : Program} {fn : Func} {p : Tmp} {ty : TypeId} (h : fn.results = #[.cell p ty]) (tmps : Array Value) (w : World) (g : Nat) (t : TypeId) (cs : Array Value) (fr : Nat × Nat) (d : TypeDesc)
    (hp : tmps.getD p undef = .pointer (some ⟨g, 0, none⟩)) (hg : w.heap[g]? = some (.cells cs t fr))
    (hu : P.underlying ty = some d) (hd : (match d with | .struct _ | .array _ _ => true | _ => false) = true) (hi : (P.info? ty).map (·.size) = some cs.size) :
    (results fn tmps).run P w = .ok (.agg cs) w := by
  have hp' : tmps[p]?.getD undef = .pointer (some ⟨g, 0, none⟩) := by simpa using hp
  simp [results, h, hp', asAddr, run_loadVar_row w g t ty cs fr d hg hu hd hi]

theorem box2 (w : World) (c d : Array Value) (t u : TypeId) : ((w.alloc (.cells c t)).alloc (.cells d u)).heap[w.heap.size + 1]? = some (.cells d u (0, 0)) := by
  have := heap_alloc_at (w.alloc (.cells c t)) (.cells d u)
  simpa using this

attribute [local go_sem] ext_const Ext.cell Ext.frozen Ext.rng Ext.whole

set_option maxRecDepth 100000 in
set_option maxHeartbeats 1000000 in
theorem kitCopied_calls (w : World) (ok : Nat → Prop) (v : Value) (l : List Kit) (h : RArr w ok 2 kitCs v l) (hlen : l.length ≤ 1000000) :
    Calls Tryz.prog 240 #[.agg #[v]] w fun e w' => ∃ v', e = .returned (.agg #[v']) ∧ OwnR w' w.heap.size 202 2 kitCs v' l ∧ Below w.heap.size w w' := by
  obtain ⟨a, cap, b, off, rfl, hl, hm, hr, ha, hc⟩ := h.lt
  obtain ⟨n, hn⟩ : ∃ n, n = l.length := ⟨_, rfl⟩
  have Hn : Hid (n = l.length) := hn
  rw [← hn] at hl hr ha hlen ⊢
  have HNil : Hid (a = none → cap = 0) := hm.2
  have HSRC : Hid (∀ W, Below w.heap.size w W → 0 < n → ∃ b' off', a = some ⟨b', off', none⟩ ∧ ∀ i (h : i < l.length), rng W b' (off' + i * 2) 2 = some (kitCs l[i])) := fun W hW hp => ⟨b, off, (ha hp).1, fun i hi => by rw [rng_of_block (hW.block b (ha hp).2.2)]; exact hc i hi⟩
  clear ha hc hn hm hl h
  go_enter Tryz.func240, Tryz.ntmps240
  go_wp2_with (at_builtin; refine wpList_appN (α := Kit) rfl _ _ 33 rfl w.heap.size 202 kitCs Tryz.underlying33 Tryz.info202 rfl (by decide) kitCs_size kitCs_one _ [] rfl (OwnR.nil _ _ _ _ _) a n cap rfl l Hn.out HNil.out (HSRC.out _ (((Below.refl _ _).alloc (Nat.le_refl _) _).alloc (by simp) _)) (by simp only [List.length_nil]; omega) (by simp only [List.length_nil]; unfold maxLen; omega) (by simp only [World.size_alloc]; omega) ?_; intro v1 w1 hown1 hsame1 hbel1 hat1; obtain ⟨va, vcap, hv1⟩ := hown1.form; subst hv1; have hk1 := (hsame1 (w.heap.size + 1) ⟨by simp, fun e => by cases e⟩).trans (box2 w _ _ _ _); obtain ⟨c0, hf0, hl0⟩ := cell_one hk1)
  have hfin : (w1.setCell ⟨w.heap.size + 1, 0, none⟩ (.slice va ([] ++ l).length vcap)).heap[w.heap.size + 1]? = some (.cells #[.slice va ([] ++ l).length vcap] 35 (0, 0)) := heap_set3 hk1
  have hw : ∀ b, (Value.slice va ([] ++ l).length vcap).ownBlock = some b → (w1.setCell ⟨w.heap.size + 1, 0, none⟩ (.slice va ([] ++ l).length vcap)).heap[b]? = w1.heap[b]? := fun b hb => Below.heap_setCell _ _ _ _ (fun e => by
    have e' : b = w.heap.size + 1 := e
    rcases hat1 with h9 | h9
    · rw [h9] at hb; cases hb
    · rw [h9] at hb; injection hb with hb; simp only [World.size_alloc] at hb; omega)
  refine bodyPost_ret (results_cell1 Tryz.results240 _ _ (w.heap.size + 1) _ _ _ _ rfl hfin Tryz.underlying35 rfl (by kernel_rfl)) rfl ?_
  exact ⟨_, rfl, hown1.mono hw, ((((Below.refl _ _).alloc (Nat.le_refl _) _).alloc (by simp) _).trans hbel1).setCell (p := ⟨w.heap.size + 1, 0, none⟩) (by simp) _⟩

end Go.Proofs.Qxb6500666aGreatDoor
