/- Regions that draw their order: chosen reads first, then what is left in whatever order it may come. -/
import Derived.Test.Qxb6500666aGreatDoorSeq
namespace Go.Proofs.Qxb6500666aGreatDoor
open Go.RowKit

/-- It waits for each of the reads. -/
def fullR (md : Region.Mode) (ops : Array Oper) (R : List Nat) (j : Nat) : Bool :=
  match ops[j]? with
  | some o => R.all fun i => o.after.any fun e => Region.binds md e && e.on == i
  | none => false

section
variable {P : Program} {ops : Array Oper} {Q : Exit → Act → World → Prop} {md : Region.Mode} {S : World → Prop} {R : List Nat}

/-- Whatever order is picked; S holds behind every operation but those that wait for all reads. -/
def wpMixR (P : Program) (md : Region.Mode) (ops : Array Oper) (Q : Exit → Act → World → Prop) (S : World → Prop) (R : List Nat) : Nat → Array Bool → Act → World → Prop
  | 0, listed, a, w => Region.ready md ops listed = [] ∧ Q .normal a w
  | fuel + 1, listed, a, w =>
    (Region.ready md ops listed = [] → Q .normal a w) ∧
    ∀ i ∈ Region.ready md ops listed, wpOp P ops Q i (fun a' w' => (fullR md ops R i = true ∨ S w') ∧ wpMixR P md ops Q S R fuel (listed.setIfInBounds i true) a' w') a w

theorem wpAny_of_mixR : ∀ (fuel : Nat) (listed : Array Bool) (a : Act) (w : World), wpMixR P md ops Q S R fuel listed a w → wpAny P md ops Q fuel listed a w
  | 0, _, _, _, h => h
  | fuel + 1, _, _, _, h => ⟨h.1, fun i hi => wpOp_mono (fun a' w' h' => wpAny_of_mixR fuel _ a' w' h'.2) (h.2 i hi)⟩

theorem not_fullR {i j : Nat} {listed : Array Bool} (him : i ∈ R) (hi : listed.getD i true = false) (hj : j ∈ Region.ready md ops listed) : fullR md ops R j = false := by
  obtain ⟨_, oj, hoj, hall⟩ := mem_ready.1 hj
  cases hf : fullR md ops R j with
  | false => rfl
  | true =>
    unfold fullR at hf
    simp only [hoj, List.all_eq_true] at hf
    have h1 := hf i him
    obtain ⟨e, he, hb⟩ := Array.any_eq_true'.1 h1
    simp only [Bool.and_eq_true, beq_iff_eq] at hb
    have h2 := hall e he hb.1
    rw [hb.2] at h2
    rcases Nat.lt_or_ge i listed.size with h' | h'
    · simp [h'] at hi h2; rw [hi] at h2; cases h2
    · simp [Array.getElem?_eq_none h'] at h2

theorem wpMixR_first {i : Nat} {oi : Oper} {v : Value} (him : i ∈ R) (hi : ops[i]? = some oi) (hsel : ∀ (j : Nat) (o : Oper) cs b, ops[j]? = some o → o.op ≠ .select cs b)
    (hQ : ∀ c a w, Q (.panic c) (a.put oi.dst v) w → Q (.panic c) a w) :
    ∀ (fuel : Nat) (listed : Array Bool) (a : Act) (w : World),
      (∀ j oj, ops[j]? = some oj → j ≠ i → listed.getD j true = false → (∀ e ∈ oj.after, Region.binds md e = true → e.on ≠ i) → oi.apart ops oj = true) →
      i ∈ Region.ready md ops listed → YieldsIf P ops S oi v a → S w →
      wpMixR P md ops Q S R fuel (listed.setIfInBounds i true) (a.put oi.dst v) w → wpMixR P md ops Q S R (fuel + 1) listed a w := by
  intro fuel
  induction fuel with
  | zero =>
    intro listed a w _ hr hy hS H
    refine ⟨fun h => (by rw [h] at hr; cases hr), fun j hj => ?_⟩
    by_cases hji : j = i
    · subst hji; exact hy.wpOp hi hS ⟨Or.inr hS, H⟩
    · have := ready_mono hj hji
      rw [H.1] at this
      cases this
  | succ fuel ih =>
    intro listed a w hfree hr hy hS H
    refine ⟨fun h => (by rw [h] at hr; cases hr), fun j hj => ?_⟩
    by_cases hji : j = i
    · subst hji; exact hy.wpOp hi hS ⟨Or.inr hS, H⟩
    · have h1 := H.2 j (ready_mono hj hji)
      obtain ⟨hjun, oj, hoj, hall⟩ := mem_ready.1 hj
      have hnf := not_fullR him (mem_ready.1 hr).1 hj
      have hnot : ∀ e ∈ oj.after, Region.binds md e = true → e.on ≠ i := fun e he hb heq => by
        have h1 := hall e he hb
        have h0 := (mem_ready.1 hr).1
        rw [heq] at h1
        rcases Nat.lt_or_ge i listed.size with h' | h'
        · simp [h'] at h0 h1; rw [h0] at h1; cases h1
        · simp [Array.getElem?_eq_none h'] at h1
      have h2 := wpOp_putIf hoj (hfree j oj hoj hji hjun hnot) (fun cs b => hsel i oi cs b hi) (fun cs b => hsel j oj cs b hoj) hQ hy h1
      have hfree' : ∀ k ok, ops[k]? = some ok → k ≠ i → (listed.setIfInBounds j true).getD k true = false →
          (∀ e ∈ ok.after, Region.binds md e = true → e.on ≠ i) → oi.apart ops ok = true := fun k ok hk hki hun hno => by
        refine hfree k ok hk hki ?_ hno
        by_cases hjk : j = k
        · subst hjk; exact hjun
        · rw [getD_set_ne true hjk] at hun; exact hun
      refine wpOp_mono (fun a' w' h3 => ?_) h2
      have hSw : S w' := by
        rcases h3.2.1 with h4 | h4
        · rw [hnf] at h4; cases h4
        · exact h4
      refine ⟨Or.inr hSw, ih (listed.setIfInBounds j true) a' w' hfree' (ready_mono hr (Ne.symm hji)) h3.1 hSw ?_⟩
      rw [Array.setIfInBounds_comm _ _ hji]
      exact h3.2.2

/-- The reads may be taken first, in the order given. -/
def readsB (md : Region.Mode) (ops : Array Oper) : List Nat → Array Bool → Bool
  | [], _ => true
  | k :: r, listed => (Region.ready md ops listed).contains k && Region.free md ops listed k && ((ops[k]?).map fun o => readOp o.op).getD false && readsB md ops r (listed.setIfInBounds k true)

def listAll : List Nat → Array Bool → Array Bool
  | [], l => l
  | k :: r, l => listAll r (l.setIfInBounds k true)

def opersAt (ops : Array Oper) : List Nat → List Oper
  | [] => []
  | k :: r => match ops[k]? with
    | some o => o :: opersAt ops r
    | none => []

theorem wpMixR_pre (hs : Region.noSelect ops = true) (hQ : ∀ (d : Option Tmp) (v : Value) c a w, Q (.panic c) (a.put d v) w → Q (.panic c) a w) (fuel : Nat) : ∀ (l : List Nat) (listed : Array Bool) (a : Act) (w : World),
    (∀ k ∈ l, k ∈ R) → readsB md ops l listed = true → S w → wpQuiet P ops S (fun a' => wpMixR P md ops Q S R fuel (listAll l listed) a' w) (opersAt ops l) a → wpMixR P md ops Q S R (l.length + fuel) listed a w
  | [], listed, a, w, _, _, _, h => by simpa [opersAt, wpQuiet, listAll] using h
  | k :: l, listed, a, w, hR, hB, hS, h => by
    simp only [readsB, Bool.and_eq_true] at hB
    obtain ⟨⟨⟨hr1, hf⟩, hro⟩, hB'⟩ := hB
    cases h0 : ops[k]? with
    | none => rw [h0] at hro; simp at hro
    | some o =>
      rw [h0] at hro
      simp only [Option.map_some, Option.getD_some] at hro
      simp only [opersAt, h0] at h
      have key : ∃ v, YieldsIf P ops S o v a ∧ wpQuiet P ops S (fun a' => wpMixR P md ops Q S R fuel (listAll (k :: l) listed) a' w) (opersAt ops l) (a.put o.dst v) := by
        unfold wpQuiet at h
        by_cases hw : Region.wanted o (yielded ops a.tmps) = true
        · simp only [hw, if_true] at h
          exact yieldsIf_of_quiet hro hw h
        · simp only [hw] at h
          exact ⟨undef, Or.inr ⟨by simpa using hw, rfl⟩, h⟩
      obtain ⟨v, hy, hK⟩ := key
      rw [List.length_cons, show l.length + 1 + fuel = (l.length + fuel) + 1 by omega]
      exact wpMixR_first (hR k (List.mem_cons_self ..)) h0 (Region.noSelect_spec hs) (fun c a w => hQ _ _ c a w) _ listed a w (Region.free_spec h0 hf) (by simpa using hr1) hy hS
        (wpMixR_pre hs hQ fuel l _ _ w (fun j hj => hR j (List.mem_cons_of_mem _ hj)) hB' hS hK)

theorem mixR_nil {listed : Array Bool} {a : Act} {w : World} {fuel : Nat} (hr : Region.ready md ops listed = []) (h : Q .normal a w) : wpMixR P md ops Q S R fuel listed a w := by
  cases fuel with
  | zero => exact ⟨hr, h⟩
  | succ f => exact ⟨fun _ => h, fun i hi => by rw [hr] at hi; cases hi⟩

/-- One operation, as a list of one: the walk's own tactics serve. -/
theorem wpOp_list {k : Nat} {o : Oper} {a : Act} {w : World} {K : Act → World → Prop} (ho : ops[k]? = some o) (h : wpList P ops (Exit.then K Q) [o] a w) : wpOp P ops Q k K a w := by
  unfold wpOp
  simp only [ho]
  unfold wpList at h
  split
  · rename_i hw
    simp only [hw, if_true] at h
    rcases h with h | ⟨h1, h2⟩
    · refine Or.inl ?_
      unfold Oper.wp at h ⊢
      generalize (execOp a.eval o).run P w = r at h ⊢
      cases r with
      | ok n w' =>
        cases n <;> simp only [Oper.upon] at h ⊢
        case value u => exact h
        case skip => exact h
        case defer d => exact h
        case enter f args => exact Calls.mono h fun e w'' he => by cases e <;> exact he
        case row row args => exact Rows.mono h fun u w'' he => he
      | halt x w' =>
        cases x <;> simp only [Oper.upon] at h ⊢
        case panic u => exact h
    · exact Or.inr ⟨h1, h2⟩
  · rename_i hw
    simp only [hw] at h
    exact h

/-- One operation is ready. -/
theorem mixR_one {listed : Array Bool} {a : Act} {w : World} {fuel k : Nat} {o : Oper} (hr : Region.ready md ops listed = [k]) (ho : ops.toList[k]? = some o)
    (h : wpList P ops (Exit.then (fun a' w' => (fullR md ops R k = true ∨ S w') ∧ wpMixR P md ops Q S R fuel (listed.setIfInBounds k true) a' w') Q) [o] a w) : wpMixR P md ops Q S R (fuel + 1) listed a w :=
  ⟨fun e => absurd (hr ▸ e) (by simp), fun i hi => by
    rw [hr] at hi
    have : i = k := by simpa using hi
    subst this
    exact wpOp_list (by simpa using ho) h⟩

/-- Two are ready. -/
theorem mixR_two {listed : Array Bool} {a : Act} {w : World} {fuel k k' : Nat} {o o' : Oper} (hr : Region.ready md ops listed = [k, k']) (ho : ops.toList[k]? = some o) (ho' : ops.toList[k']? = some o')
    (h : wpList P ops (Exit.then (fun a' w' => (fullR md ops R k = true ∨ S w') ∧ wpMixR P md ops Q S R fuel (listed.setIfInBounds k true) a' w') Q) [o] a w)
    (h' : wpList P ops (Exit.then (fun a' w' => (fullR md ops R k' = true ∨ S w') ∧ wpMixR P md ops Q S R fuel (listed.setIfInBounds k' true) a' w') Q) [o'] a w) : wpMixR P md ops Q S R (fuel + 1) listed a w :=
  ⟨fun e => absurd (hr ▸ e) (by simp), fun i hi => by
    rw [hr] at hi
    have : i = k ∨ i = k' := by simpa using hi
    rcases this with rfl | rfl
    · exact wpOp_list (by simpa using ho) h
    · exact wpOp_list (by simpa using ho') h'⟩
end

/-- A region that draws: the reads R in the class of worlds that are w below H, then the rest (n operations) as it may come. -/
theorem wp_region_mix {P : Program} {id : Nat} {Q : Exit → Act → World → Prop} {a : Act} {w : World} {ops : Array Oper} (H : Nat) (R : List Nat) (n : Nat) (hm : P.follows .mixedOrders = true) (hn : R.length + n = ops.size)
    (hB : (Region.noSelect ops && readsB .any ops R (Array.replicate ops.size false)) = true)
    (hQ : ∀ (d : Option Tmp) (v : Value) c a w, Q (.panic c) (a.put d v) w → Q (.panic c) a w)
    (h : wpQuiet P ops (fun w' => ∃ x : Ext H w, w' = x.world) (fun a' => wpMixR P .any ops Q (fun w' => ∃ x : Ext H w, w' = x.world) R n (listAll R (Array.replicate ops.size false)) a' w.drew) (opersAt ops R) a) :
    (Code.region id ops true).wp P Q a w := by
  simp only [Bool.and_eq_true] at hB
  refine wp_region_any hm (wpAny_of_mixR (S := fun w' => ∃ x : Ext H w, w' = x.world) (R := R) _ _ _ _ ?_)
  have := wpMixR_pre (md := .any) (S := fun w' => ∃ x : Ext H w, w' = x.world) (R := R) hB.1 hQ n R (Array.replicate ops.size false) a w.drew (fun _ h => h) hB.2 ⟨⟨w.drew, (Below.refl _ _).drew⟩, rfl⟩ h
  rw [hn] at this
  exact this

end Go.Proofs.Qxb6500666aGreatDoor
