/- As Mix3; an operation waits for the reads also where it waits for one that waits. -/
import Derived.Test.Qxb6500666aGreatDoorMix3
namespace Go.Proofs.Qxb6500666aGreatDoor
open Go.RowKit

section
variable {P : Program} {ops : Array Oper} {Q : Exit → Act → World → Prop} {md : Region.Mode} {S : World → Prop} {R R' : List Nat}

/-- Operation j waits for i, at one step or more. -/
def before (md : Region.Mode) (ops : Array Oper) : Nat → Nat → Nat → Bool
  | 0, _, _ => false
  | f + 1, j, i => match ops[j]? with
    | some o => o.after.any fun e => Region.binds md e && (e.on == i || before md ops f e.on i)
    | none => false
def fullT (md : Region.Mode) (ops : Array Oper) (R : List Nat) (j : Nat) : Bool := R.all fun i => before md ops 12 j i

/-- All for which j waits are listed. -/
def PL (md : Region.Mode) (ops : Array Oper) (listed : Array Bool) (j : Nat) : Prop := ∀ o, ops[j]? = some o → ∀ e ∈ o.after, Region.binds md e = true → listed.getD e.on false = true
def Closed (md : Region.Mode) (ops : Array Oper) (listed : Array Bool) : Prop := ∀ k, listed.getD k false = true → PL md ops listed k

theorem PL.before {listed : Array Bool} (hc : Closed md ops listed) : ∀ (f j i : Nat), PL md ops listed j → before md ops f j i = true → listed.getD i false = true
  | 0, _, _, _, h => by cases h
  | f + 1, j, i, hp, h => by
    unfold Go.Proofs.Qxb6500666aGreatDoor.before at h
    cases ho : ops[j]? with
    | none => rw [ho] at h; cases h
    | some o =>
      rw [ho] at h
      simp only at h
      obtain ⟨e, he, hb⟩ := Array.any_eq_true'.1 h
      simp only [Bool.and_eq_true, Bool.or_eq_true, beq_iff_eq] at hb
      have h1 := hp o ho e he hb.1
      rcases hb.2 with h2 | h2
      · rw [← h2]; exact h1
      · exact PL.before hc f e.on i (hc e.on h1) h2

theorem PL.mono {listed : Array Bool} {j k : Nat} (h : PL md ops listed j) : PL md ops (listed.setIfInBounds k true) j := fun o ho e he hb => by
  have h1 := h o ho e he hb
  by_cases hk : k = e.on
  · have h2 : e.on < listed.size := by
      apply Classical.byContradiction
      intro hn
      simp [Array.getElem?_eq_none (Nat.le_of_not_lt hn)] at h1
    simp [hk, h2]
  · simpa [Array.getElem?_setIfInBounds, hk] using h1

theorem pl_of_ready {listed : Array Bool} {j : Nat} (h : j ∈ Region.ready md ops listed) : PL md ops listed j := fun o ho e he hb => by
  obtain ⟨_, o', ho', hall⟩ := mem_ready.1 h
  rw [ho] at ho'
  cases ho'
  have := hall e he hb
  simpa using this

theorem Closed.list {listed : Array Bool} {j : Nat} (hc : Closed md ops listed) (h : j ∈ Region.ready md ops listed) : Closed md ops (listed.setIfInBounds j true) := fun k hk => by
  by_cases hkj : j = k
  · subst hkj; exact (pl_of_ready h).mono
  · refine (hc k ?_).mono
    simpa [Array.getElem?_setIfInBounds, hkj] using hk

theorem closed_none (n : Nat) : Closed md ops (Array.replicate n false) := fun k hk => by
  rcases Nat.lt_or_ge k n with h | h
  · simp [h] at hk
  · simp [Nat.not_lt.2 h] at hk

theorem not_fullT {i j : Nat} {listed : Array Bool} (hc : Closed md ops listed) (him : i ∈ R) (hi : listed.getD i true = false) (hj : j ∈ Region.ready md ops listed) : fullT md ops R j = false := by
  cases hf : fullT md ops R j with
  | false => rfl
  | true =>
    have h1 := PL.before hc 12 j i (pl_of_ready hj) (List.all_eq_true.1 hf i him)
    rcases Nat.lt_or_ge i listed.size with h' | h'
    · simp [h'] at hi h1; rw [hi] at h1; cases h1
    · simp [Array.getElem?_eq_none h'] at h1

def closedB (md : Region.Mode) (ops : Array Oper) (listed : Array Bool) : Bool := (List.range ops.size).all fun k => !(listed.getD k false) || (match ops[k]? with
  | some o => o.after.all fun e => !(Region.binds md e) || listed.getD e.on false
  | none => true)
theorem closed_of_B {listed : Array Bool} (h : closedB md ops listed = true) : Closed md ops listed := fun k hk o ho e he hb => by
  have hkl : k < ops.size := (Array.getElem?_eq_some_iff.1 ho).1
  have h1 := List.all_eq_true.1 h k (List.mem_range.2 hkl)
  rw [hk, ho] at h1
  simp only [Bool.not_true, Bool.false_or] at h1
  have h2 := Array.all_eq_true'.1 h1 e he
  rw [hb] at h2
  simpa using h2

/-- Every operation keeps S, but those that wait for all of R. -/
def wpMixT (P : Program) (md : Region.Mode) (ops : Array Oper) (Q : Exit → Act → World → Prop) (S : World → Prop) (R : List Nat) : Nat → Array Bool → Act → World → Prop
  | 0, listed, a, w => Region.ready md ops listed = [] ∧ Q .normal a w
  | fuel + 1, listed, a, w =>
    (Region.ready md ops listed = [] → Q .normal a w) ∧
    ∀ i ∈ Region.ready md ops listed, wpOp P ops Q i (fun a' w' => (fullT md ops R i = true ∨ (S w → S w')) ∧ wpMixT P md ops Q S R fuel (listed.setIfInBounds i true) a' w') a w

theorem wpAny_of_mixT : ∀ (fuel : Nat) (listed : Array Bool) (a : Act) (w : World), wpMixT P md ops Q S R fuel listed a w → wpAny P md ops Q fuel listed a w
  | 0, _, _, _, h => h
  | fuel + 1, _, _, _, h => ⟨h.1, fun i hi => wpOp_mono (fun a' w' h' => wpAny_of_mixT fuel _ a' w' h'.2) (h.2 i hi)⟩

theorem wpMixT_first {T : World → Prop} {i : Nat} {oi : Oper} {v : Value} (hT : ∀ (listed : Array Bool) j w w', Closed md ops listed → listed.getD i true = false → j ∈ Region.ready md ops listed → (fullT md ops R j = true ∨ (S w → S w')) → T w → T w') (hTS : ∀ w, T w → S w → S w) (hi : ops[i]? = some oi) (hsel : ∀ (j : Nat) (o : Oper) cs b, ops[j]? = some o → o.op ≠ .select cs b)
    (hQ : ∀ c a w, Q (.panic c) (a.put oi.dst v) w → Q (.panic c) a w) :
    ∀ (fuel : Nat) (listed : Array Bool) (a : Act) (w : World), Closed md ops listed →
      (∀ j oj, ops[j]? = some oj → j ≠ i → listed.getD j true = false → (∀ e ∈ oj.after, Region.binds md e = true → e.on ≠ i) → oi.apart ops oj = true) →
      i ∈ Region.ready md ops listed → YieldsIf P ops T oi v a → T w →
      wpMixT P md ops Q S R fuel (listed.setIfInBounds i true) (a.put oi.dst v) w → wpMixT P md ops Q S R (fuel + 1) listed a w := by
  intro fuel
  induction fuel with
  | zero =>
    intro listed a w _ _ hr hy hS H
    refine ⟨fun h => (by rw [h] at hr; cases hr), fun j hj => ?_⟩
    by_cases hji : j = i
    · subst hji; exact hy.wpOp hi hS ⟨Or.inr (hTS w hS), H⟩
    · have := ready_mono hj hji
      rw [H.1] at this
      cases this
  | succ fuel ih =>
    intro listed a w hcl hfree hr hy hS H
    refine ⟨fun h => (by rw [h] at hr; cases hr), fun j hj => ?_⟩
    by_cases hji : j = i
    · subst hji; exact hy.wpOp hi hS ⟨Or.inr (hTS w hS), H⟩
    · have h1 := H.2 j (ready_mono hj hji)
      obtain ⟨hjun, oj, hoj, hall⟩ := mem_ready.1 hj
      have hiun := (mem_ready.1 hr).1
      have hnot : ∀ e ∈ oj.after, Region.binds md e = true → e.on ≠ i := fun e he hb heq => by
        have h1 := hall e he hb
        have h0 := (mem_ready.1 hr).1
        rw [heq] at h1
        rcases Nat.lt_or_ge i listed.size with h' | h'
        · simp [h'] at h0 h1; rw [h0] at h1; cases h1
        · simp [Array.getElem?_eq_none h'] at h1
      have h2 := wpOp_putIf hoj (hfree j oj hoj hji hjun hnot) (fun cs b => hsel i oi cs b hi) (fun cs b => hsel j oj cs b hoj) hQ hy h1
      have hfree' : ∀ k ok, ops[k]? = some ok → k ≠ i → (listed.setIfInBounds j true).getD k true = false →
          (∀ e ∈ ok.after, Region.binds md e = true → e.on ≠ i) → oi.apart ops ok = true := fun k ok hk hki hun hno => by
        refine hfree k ok hk hki ?_ hno
        by_cases hjk : j = k
        · subst hjk; exact hjun
        · rw [getD_set_ne true hjk] at hun; exact hun
      refine wpOp_mono (fun a' w' h3 => ?_) h2
      have hSw : T w' := hT listed j w w' hcl hiun hj h3.2.1 hS
      refine ⟨h3.2.1, ih (listed.setIfInBounds j true) a' w' (hcl.list hj) hfree' (ready_mono hr (Ne.symm hji)) h3.1 hSw ?_⟩
      rw [Array.setIfInBounds_comm _ _ hji]
      exact h3.2.2

/-- Reads may be taken first: T is S for those of R, whatever holds for the others. -/
theorem wpMixT_pre {T : World → Prop} (hT : ∀ i ∈ R', ∀ (listed : Array Bool) j w w', Closed md ops listed → listed.getD i true = false → j ∈ Region.ready md ops listed → (fullT md ops R j = true ∨ (S w → S w')) → T w → T w') (hs : Region.noSelect ops = true) (hQ : ∀ (d : Option Tmp) (v : Value) c a w, Q (.panic c) (a.put d v) w → Q (.panic c) a w) (fuel : Nat) : ∀ (l : List Nat) (listed : Array Bool) (a : Act) (w : World), Closed md ops listed →
    (∀ k ∈ l, k ∈ R') → readsB md ops l listed = true → T w → wpQuiet P ops T (fun a' => wpMixT P md ops Q S R fuel (listAll l listed) a' w) (opersAt ops l) a → wpMixT P md ops Q S R (l.length + fuel) listed a w
  | [], listed, a, w, _, _, _, _, h => by simpa [opersAt, wpQuiet, listAll] using h
  | k :: l, listed, a, w, hcl, hR, hB, hS, h => by
    simp only [readsB, Bool.and_eq_true] at hB
    obtain ⟨⟨⟨hr1, hf⟩, hro⟩, hB'⟩ := hB
    cases h0 : ops[k]? with
    | none => rw [h0] at hro; simp at hro
    | some o =>
      rw [h0] at hro
      simp only [Option.map_some, Option.getD_some] at hro
      simp only [opersAt, h0] at h
      have key : ∃ v, YieldsIf P ops T o v a ∧ wpQuiet P ops T (fun a' => wpMixT P md ops Q S R fuel (listAll (k :: l) listed) a' w) (opersAt ops l) (a.put o.dst v) := by
        unfold wpQuiet at h
        by_cases hw : Region.wanted o (yielded ops a.tmps) = true
        · simp only [hw, if_true] at h
          exact yieldsIf_of_quiet hro hw h
        · simp only [hw] at h
          exact ⟨undef, Or.inr ⟨by simpa using hw, rfl⟩, h⟩
      obtain ⟨v, hy, hK⟩ := key
      rw [List.length_cons, show l.length + 1 + fuel = (l.length + fuel) + 1 by omega]
      exact wpMixT_first (hT k (hR k (List.mem_cons_self ..))) (fun _ _ h => h) h0 (Region.noSelect_spec hs) (fun c a w => hQ _ _ c a w) _ listed a w hcl (Region.free_spec h0 hf) (by simpa using hr1) hy hS
        (wpMixT_pre hT hs hQ fuel l _ _ w (hcl.list (by simpa using hr1)) (fun j hj => hR j (List.mem_cons_of_mem _ hj)) hB' hS hK)

theorem mixT_nil {listed : Array Bool} {a : Act} {w : World} {fuel : Nat} (hr : Region.ready md ops listed = []) (h : Q .normal a w) : wpMixT P md ops Q S R fuel listed a w := by
  cases fuel with
  | zero => exact ⟨hr, h⟩
  | succ f => exact ⟨fun _ => h, fun i hi => by rw [hr] at hi; cases hi⟩

theorem mixT_one {listed : Array Bool} {a : Act} {w : World} {fuel k : Nat} {o : Oper} (hr : Region.ready md ops listed = [k]) (ho : ops.toList[k]? = some o)
    (h : wpList P ops (Exit.then (fun a' w' => (fullT md ops R k = true ∨ (S w → S w')) ∧ wpMixT P md ops Q S R fuel (listed.setIfInBounds k true) a' w') Q) [o] a w) : wpMixT P md ops Q S R (fuel + 1) listed a w :=
  ⟨fun e => absurd (hr ▸ e) (by simp), fun i hi => by
    rw [hr] at hi
    have : i = k := by simpa using hi
    subst this
    exact wpOp_list (by simpa using ho) h⟩

/-- Reads of slots. -/
theorem mixT_slots {listed : Array Bool} {a : Act} {w : World} {n fuel : Nat} (l : List Nat) (hn : l.length + fuel = n) (hcl : closedB md ops listed = true)
    (hB : (Region.noSelect ops && readsB md ops l listed) = true) (hQ : ∀ (d : Option Tmp) (v : Value) c a w, Q (.panic c) (a.put d v) w → Q (.panic c) a w)
    (h : wpQuiet P ops (fun _ => True) (fun a' => wpMixT P md ops Q S R fuel (listAll l listed) a' w) (opersAt ops l) a) : wpMixT P md ops Q S R n listed a w := by
  simp only [Bool.and_eq_true] at hB
  subst hn
  exact wpMixT_pre (R' := l) (T := fun _ => True) (fun _ _ _ _ _ _ _ _ _ _ _ => trivial) hB.1 hQ fuel l listed a w (closed_of_B hcl) (fun _ h => h) hB.2 trivial h

/-- Reads of memory. -/
theorem mixT_reads {listed : Array Bool} {a : Act} {w : World} {n fuel : Nat} (l : List Nat) (hn : l.length + fuel = n) (hcl : closedB md ops listed = true) (hl : ∀ k ∈ l, k ∈ R)
    (hB : (Region.noSelect ops && readsB md ops l listed) = true) (hQ : ∀ (d : Option Tmp) (v : Value) c a w, Q (.panic c) (a.put d v) w → Q (.panic c) a w) (hS : S w)
    (h : wpQuiet P ops S (fun a' => wpMixT P md ops Q S R fuel (listAll l listed) a' w) (opersAt ops l) a) : wpMixT P md ops Q S R n listed a w := by
  simp only [Bool.and_eq_true] at hB
  subst hn
  refine wpMixT_pre (R' := l) (T := S) (fun i hi listed j w w' hcc hun hj hc hS => ?_) hB.1 hQ fuel l listed a w (closed_of_B hcl) (fun _ h => h) hB.2 hS h
  rcases hc with hc | hc
  · rw [not_fullT hcc (hl i hi) hun hj] at hc; cases hc
  · exact hc hS
end

theorem wp_region_mixT {P : Program} {id : Nat} {Q : Exit → Act → World → Prop} {a : Act} {w : World} {ops : Array Oper} (H : Nat) (R : List Nat) (hm : P.follows .mixedOrders = true)
    (h : wpMixT P .any ops Q (fun w' => ∃ x : Ext H w, w' = x.world) R ops.size (Array.replicate ops.size false) a w.drew) :
    (Code.region id ops true).wp P Q a w :=
  wp_region_any hm (wpAny_of_mixT (S := fun w' => ∃ x : Ext H w, w' = x.world) (R := R) _ _ _ _ h)

end Go.Proofs.Qxb6500666aGreatDoor
