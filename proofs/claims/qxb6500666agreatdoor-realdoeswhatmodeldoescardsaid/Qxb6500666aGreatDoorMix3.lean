/- Regions that draw: reads of memory ahead of a store that waits for them; reads of slots as they may come. -/
import Derived.Test.Qxb6500666aGreatDoorMix2
namespace Go.Proofs.Qxb6500666aGreatDoor
open Go.RowKit

section
variable {P : Program} {ops : Array Oper} {Q : Exit → Act → World → Prop} {md : Region.Mode} {S : World → Prop} {R R' : List Nat}

/-- Every operation keeps S, but those that wait for all of R. -/
def wpMixS (P : Program) (md : Region.Mode) (ops : Array Oper) (Q : Exit → Act → World → Prop) (S : World → Prop) (R : List Nat) : Nat → Array Bool → Act → World → Prop
  | 0, listed, a, w => Region.ready md ops listed = [] ∧ Q .normal a w
  | fuel + 1, listed, a, w =>
    (Region.ready md ops listed = [] → Q .normal a w) ∧
    ∀ i ∈ Region.ready md ops listed, wpOp P ops Q i (fun a' w' => (fullR md ops R i = true ∨ (S w → S w')) ∧ wpMixS P md ops Q S R fuel (listed.setIfInBounds i true) a' w') a w

theorem wpAny_of_mixS : ∀ (fuel : Nat) (listed : Array Bool) (a : Act) (w : World), wpMixS P md ops Q S R fuel listed a w → wpAny P md ops Q fuel listed a w
  | 0, _, _, _, h => h
  | fuel + 1, _, _, _, h => ⟨h.1, fun i hi => wpOp_mono (fun a' w' h' => wpAny_of_mixS fuel _ a' w' h'.2) (h.2 i hi)⟩

theorem wpMixS_first {T : World → Prop} {i : Nat} {oi : Oper} {v : Value} (hT : ∀ (listed : Array Bool) j w w', listed.getD i true = false → j ∈ Region.ready md ops listed → (fullR md ops R j = true ∨ (S w → S w')) → T w → T w') (hTS : ∀ w, T w → S w → S w) (hi : ops[i]? = some oi) (hsel : ∀ (j : Nat) (o : Oper) cs b, ops[j]? = some o → o.op ≠ .select cs b)
    (hQ : ∀ c a w, Q (.panic c) (a.put oi.dst v) w → Q (.panic c) a w) :
    ∀ (fuel : Nat) (listed : Array Bool) (a : Act) (w : World),
      (∀ j oj, ops[j]? = some oj → j ≠ i → listed.getD j true = false → (∀ e ∈ oj.after, Region.binds md e = true → e.on ≠ i) → oi.apart ops oj = true) →
      i ∈ Region.ready md ops listed → YieldsIf P ops T oi v a → T w →
      wpMixS P md ops Q S R fuel (listed.setIfInBounds i true) (a.put oi.dst v) w → wpMixS P md ops Q S R (fuel + 1) listed a w := by
  intro fuel
  induction fuel with
  | zero =>
    intro listed a w _ hr hy hS H
    refine ⟨fun h => (by rw [h] at hr; cases hr), fun j hj => ?_⟩
    by_cases hji : j = i
    · subst hji; exact hy.wpOp hi hS ⟨Or.inr (hTS w hS), H⟩
    · have := ready_mono hj hji
      rw [H.1] at this
      cases this
  | succ fuel ih =>
    intro listed a w hfree hr hy hS H
    refine ⟨fun h => (by rw [h] at hr; cases hr), fun j hj => ?_⟩
    by_cases hji : j = i
    · subst hji; exact hy.wpOp hi hS ⟨Or.inr (hTS w hS), H⟩
    · have h1 := H.2 j (ready_mono hj hji)
      obtain ⟨hjun, oj, hoj, hall⟩ := mem_ready.1 hj
      have hiun := (mem_ready.1 hr).1
      have hnot : ∀ e ∈ oj.after, Region.binds md e = true → e.on ≠ i := fun e he hb heq => by
        have h1 := hall e he hb
        have h0 := (mem_ready.1 hr).1
        rw [heq] at h1
        rcases Nat.lt_or_ge i listed.size with h' | h'
        · simp [h'] at h0 h1; rw [h0] at h1; cases h1
        · simp [Array.getElem?_eq_none h'] at h1
      have h2 := wpOp_putIf hoj (hfree j oj hoj hji hjun hnot) (fun cs b => hsel i oi cs b hi) (fun cs b => hsel j oj cs b hoj) hQ hy h1
      have hfree' : ∀ k ok, ops[k]? = some ok → k ≠ i → (listed.setIfInBounds j true).getD k true = false →
          (∀ e ∈ ok.after, Region.binds md e = true → e.on ≠ i) → oi.apart ops ok = true := fun k ok hk hki hun hno => by
        refine hfree k ok hk hki ?_ hno
        by_cases hjk : j = k
        · subst hjk; exact hjun
        · rw [getD_set_ne true hjk] at hun; exact hun
      refine wpOp_mono (fun a' w' h3 => ?_) h2
      have hSw : T w' := hT listed j w w' hiun hj h3.2.1 hS
      refine ⟨h3.2.1, ih (listed.setIfInBounds j true) a' w' hfree' (ready_mono hr (Ne.symm hji)) h3.1 hSw ?_⟩
      rw [Array.setIfInBounds_comm _ _ hji]
      exact h3.2.2

/-- Reads may be taken first: T is S for those of R, whatever holds for the others. -/
theorem wpMixS_pre {T : World → Prop} (hT : ∀ i ∈ R', ∀ (listed : Array Bool) j w w', listed.getD i true = false → j ∈ Region.ready md ops listed → (fullR md ops R j = true ∨ (S w → S w')) → T w → T w') (hs : Region.noSelect ops = true) (hQ : ∀ (d : Option Tmp) (v : Value) c a w, Q (.panic c) (a.put d v) w → Q (.panic c) a w) (fuel : Nat) : ∀ (l : List Nat) (listed : Array Bool) (a : Act) (w : World),
    (∀ k ∈ l, k ∈ R') → readsB md ops l listed = true → T w → wpQuiet P ops T (fun a' => wpMixS P md ops Q S R fuel (listAll l listed) a' w) (opersAt ops l) a → wpMixS P md ops Q S R (l.length + fuel) listed a w
  | [], listed, a, w, _, _, _, h => by simpa [opersAt, wpQuiet, listAll] using h
  | k :: l, listed, a, w, hR, hB, hS, h => by
    simp only [readsB, Bool.and_eq_true] at hB
    obtain ⟨⟨⟨hr1, hf⟩, hro⟩, hB'⟩ := hB
    cases h0 : ops[k]? with
    | none => rw [h0] at hro; simp at hro
    | some o =>
      rw [h0] at hro
      simp only [Option.map_some, Option.getD_some] at hro
      simp only [opersAt, h0] at h
      have key : ∃ v, YieldsIf P ops T o v a ∧ wpQuiet P ops T (fun a' => wpMixS P md ops Q S R fuel (listAll (k :: l) listed) a' w) (opersAt ops l) (a.put o.dst v) := by
        unfold wpQuiet at h
        by_cases hw : Region.wanted o (yielded ops a.tmps) = true
        · simp only [hw, if_true] at h
          exact yieldsIf_of_quiet hro hw h
        · simp only [hw] at h
          exact ⟨undef, Or.inr ⟨by simpa using hw, rfl⟩, h⟩
      obtain ⟨v, hy, hK⟩ := key
      rw [List.length_cons, show l.length + 1 + fuel = (l.length + fuel) + 1 by omega]
      exact wpMixS_first (hT k (hR k (List.mem_cons_self ..))) (fun _ _ h => h) h0 (Region.noSelect_spec hs) (fun c a w => hQ _ _ c a w) _ listed a w (Region.free_spec h0 hf) (by simpa using hr1) hy hS
        (wpMixS_pre hT hs hQ fuel l _ _ w (fun j hj => hR j (List.mem_cons_of_mem _ hj)) hB' hS hK)

theorem mixS_nil {listed : Array Bool} {a : Act} {w : World} {fuel : Nat} (hr : Region.ready md ops listed = []) (h : Q .normal a w) : wpMixS P md ops Q S R fuel listed a w := by
  cases fuel with
  | zero => exact ⟨hr, h⟩
  | succ f => exact ⟨fun _ => h, fun i hi => by rw [hr] at hi; cases hi⟩

theorem mixS_one {listed : Array Bool} {a : Act} {w : World} {fuel k : Nat} {o : Oper} (hr : Region.ready md ops listed = [k]) (ho : ops.toList[k]? = some o)
    (h : wpList P ops (Exit.then (fun a' w' => (fullR md ops R k = true ∨ (S w → S w')) ∧ wpMixS P md ops Q S R fuel (listed.setIfInBounds k true) a' w') Q) [o] a w) : wpMixS P md ops Q S R (fuel + 1) listed a w :=
  ⟨fun e => absurd (hr ▸ e) (by simp), fun i hi => by
    rw [hr] at hi
    have : i = k := by simpa using hi
    subst this
    exact wpOp_list (by simpa using ho) h⟩

/-- Reads of slots. -/
theorem mixS_slots {listed : Array Bool} {a : Act} {w : World} {n fuel : Nat} (l : List Nat) (hn : l.length + fuel = n)
    (hB : (Region.noSelect ops && readsB md ops l listed) = true) (hQ : ∀ (d : Option Tmp) (v : Value) c a w, Q (.panic c) (a.put d v) w → Q (.panic c) a w)
    (h : wpQuiet P ops (fun _ => True) (fun a' => wpMixS P md ops Q S R fuel (listAll l listed) a' w) (opersAt ops l) a) : wpMixS P md ops Q S R n listed a w := by
  simp only [Bool.and_eq_true] at hB
  subst hn
  exact wpMixS_pre (R' := l) (T := fun _ => True) (fun _ _ _ _ _ _ _ _ _ _ => trivial) hB.1 hQ fuel l listed a w (fun _ h => h) hB.2 trivial h

/-- Reads of memory. -/
theorem mixS_reads {listed : Array Bool} {a : Act} {w : World} {n fuel : Nat} (l : List Nat) (hn : l.length + fuel = n) (hl : ∀ k ∈ l, k ∈ R)
    (hB : (Region.noSelect ops && readsB md ops l listed) = true) (hQ : ∀ (d : Option Tmp) (v : Value) c a w, Q (.panic c) (a.put d v) w → Q (.panic c) a w) (hS : S w)
    (h : wpQuiet P ops S (fun a' => wpMixS P md ops Q S R fuel (listAll l listed) a' w) (opersAt ops l) a) : wpMixS P md ops Q S R n listed a w := by
  simp only [Bool.and_eq_true] at hB
  subst hn
  refine wpMixS_pre (R' := l) (T := S) (fun i hi listed j w w' hun hj hc hS => ?_) hB.1 hQ fuel l listed a w (fun _ h => h) hB.2 hS h
  rcases hc with hc | hc
  · rw [not_fullR (hl i hi) hun hj] at hc; cases hc
  · exact hc hS
end

theorem wp_region_mixS {P : Program} {id : Nat} {Q : Exit → Act → World → Prop} {a : Act} {w : World} {ops : Array Oper} (H : Nat) (R : List Nat) (hm : P.follows .mixedOrders = true)
    (h : wpMixS P .any ops Q (fun w' => ∃ x : Ext H w, w' = x.world) R ops.size (Array.replicate ops.size false) a w.drew) :
    (Code.region id ops true).wp P Q a w :=
  wp_region_any hm (wpAny_of_mixS (S := fun w' => ∃ x : Ext H w, w' = x.world) (R := R) _ _ _ _ h)

theorem ext_drew (H : Nat) (w : World) : ∃ x : Ext H w, w.drew = x.world := ⟨⟨w.drew, (Below.refl _ _).drew⟩, rfl⟩

end Go.Proofs.Qxb6500666aGreatDoor
