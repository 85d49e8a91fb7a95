/- Regions that draw their order: reads first, then operations that can come up in one order alone. -/
import Derived.Test.Qxb6500666aGreatDoorExt
import Derived.OrdersHeld
namespace Go.Proofs.Qxb6500666aGreatDoor
open Go.RowKit

/-- Operations that yield a value and call no Go function. -/
def readOp : Op → Bool
  | .move _ | .assign _ | .pick .. | .load .. | .binOp .. | .unOp .. | .convert .. | .fieldAddr .. | .field .. | .indexAddr .. | .index .. | .extract .. | .build .. | .lookup .. | .makeInterface .. | .slice .. | .typeAssert .. | .nilCheck _ | .makeFunc .. => true
  | .call { callee := .builtin .len, .. } => true
  | _ => false

theorem bind_value {P : Program} {s : Sem Value} {w : World} {n : Next} {w' : World} (h : (do pure (Next.value (← s)) : Sem Next).run P w = .ok n w') : ∃ v, n = .value v := by
  rw [Sem.run_bind] at h
  cases hs : s.run P w with
  | ok v w1 => rw [hs] at h; simp at h; exact ⟨v, h.1.symm⟩
  | halt x w1 => rw [hs] at h; simp [Result.andThen] at h

theorem readOp_value {o : Oper} (hr : readOp o.op = true) {ρ : Operand → Value} {P : Program} {w w' : World} {n : Next} (h : (execOp ρ o).run P w = .ok n w') : ∃ v, n = .value v := by
  obtain ⟨dst, op, ty, pos, after, guard⟩ := o
  simp only at hr
  cases op <;> simp only [readOp, Bool.false_eq_true] at hr
  case move x => simp [execOp] at h; exact ⟨_, h.1.symm⟩
  case assign x => simp [execOp] at h; exact ⟨_, h.1.symm⟩
  case pick c a b =>
    simp only [execOp] at h
    rw [Sem.run_bind] at h
    cases hs : (asBool (ρ c)).run P w with
    | ok v w1 => rw [hs] at h; simp at h; exact ⟨_, h.1.symm⟩
    | halt x w1 => rw [hs] at h; simp [Result.andThen] at h
  case load => exact bind_value h
  case binOp => exact bind_value h
  case unOp => exact bind_value h
  case convert => exact bind_value h
  case fieldAddr => exact bind_value h
  case field => exact bind_value h
  case indexAddr => exact bind_value h
  case index => exact bind_value h
  case extract => exact bind_value h
  case build => exact bind_value h
  case lookup => exact bind_value h
  case makeInterface => exact bind_value h
  case slice => exact bind_value h
  case typeAssert => exact bind_value h
  case makeFunc => exact bind_value h
  case nilCheck x =>
    simp only [execOp] at h
    split at h
    · simp [runtimePanic] at h
    · simp [runtimePanic] at h
    · simp [runtimePanic] at h
    · split at h
      · simp [runtimePanic] at h
      · rename_i t u hf
        rw [Sem.run_bind] at h
        cases hp : (program).run P w with
        | ok p w1 =>
          rw [hp] at h
          simp only [Result.andThen_ok] at h
          rw [Sem.run_bind] at h
          generalize (nilAhead _ _ _ _).run P w1 = r at h
          cases r with
          | ok b w2 =>
            simp only [Result.andThen_ok] at h
            split at h
            · simp [unsupported] at h
            · simp at h; exact ⟨_, h.1.symm⟩
          | halt x w2 => simp [Result.andThen] at h
        | halt x w1 => rw [hp] at h; simp [Result.andThen] at h
      · simp at h; exact ⟨_, h.1.symm⟩
    · simp at h; exact ⟨_, h.1.symm⟩
  case call c =>
    obtain ⟨callee, args, ats⟩ := c
    cases callee with
    | value f => simp at hr
    | invoke r name => simp at hr
    | builtin b =>
      cases b <;> first | exact bind_value h | simp at hr

/-- It waits for each of the first m. -/
def full (md : Region.Mode) (ops : Array Oper) (m j : Nat) : Bool :=
  match ops[j]? with
  | some o => (List.range m).all fun i => o.after.any fun e => Region.binds md e && e.on == i
  | none => false

section
variable {P : Program} {ops : Array Oper} {Q : Exit → Act → World → Prop} {md : Region.Mode} {S : World → Prop} {m : Nat}

/-- Whatever order is picked; S holds behind every operation but those that wait for all reads. -/
def wpMix (P : Program) (md : Region.Mode) (ops : Array Oper) (Q : Exit → Act → World → Prop) (S : World → Prop) (m : Nat) : Nat → Array Bool → Act → World → Prop
  | 0, listed, a, w => Region.ready md ops listed = [] ∧ Q .normal a w
  | fuel + 1, listed, a, w =>
    (Region.ready md ops listed = [] → Q .normal a w) ∧
    ∀ i ∈ Region.ready md ops listed, wpOp P ops Q i (fun a' w' => (full md ops m i = true ∨ S w') ∧ wpMix P md ops Q S m fuel (listed.setIfInBounds i true) a' w') a w

theorem wpAny_of_mix : ∀ (fuel : Nat) (listed : Array Bool) (a : Act) (w : World), wpMix P md ops Q S m fuel listed a w → wpAny P md ops Q fuel listed a w
  | 0, _, _, _, h => h
  | fuel + 1, _, _, _, h => ⟨h.1, fun i hi => wpOp_mono (fun a' w' h' => wpAny_of_mix fuel _ a' w' h'.2) (h.2 i hi)⟩

theorem not_full {i j : Nat} {listed : Array Bool} (him : i < m) (hi : listed.getD i true = false) (hj : j ∈ Region.ready md ops listed) : full md ops m j = false := by
  obtain ⟨_, oj, hoj, hall⟩ := mem_ready.1 hj
  cases hf : full md ops m j with
  | false => rfl
  | true =>
    unfold full at hf
    simp only [hoj, List.all_eq_true, List.mem_range] at hf
    have h1 := hf i him
    obtain ⟨e, he, hb⟩ := Array.any_eq_true'.1 h1
    simp only [Bool.and_eq_true, beq_iff_eq] at hb
    have h2 := hall e he hb.1
    rw [hb.2] at h2
    rcases Nat.lt_or_ge i listed.size with h' | h'
    · simp [h'] at hi h2; rw [hi] at h2; cases h2
    · simp [Array.getElem?_eq_none h'] at h2

theorem wpMix_first {i : Nat} {oi : Oper} {v : Value} (him : i < m) (hi : ops[i]? = some oi) (hsel : ∀ (j : Nat) (o : Oper) cs b, ops[j]? = some o → o.op ≠ .select cs b)
    (hQ : ∀ c a w, Q (.panic c) (a.put oi.dst v) w → Q (.panic c) a w) :
    ∀ (fuel : Nat) (listed : Array Bool) (a : Act) (w : World),
      (∀ j oj, ops[j]? = some oj → j ≠ i → listed.getD j true = false → (∀ e ∈ oj.after, Region.binds md e = true → e.on ≠ i) → oi.apart ops oj = true) →
      i ∈ Region.ready md ops listed → YieldsIf P ops S oi v a → S w →
      wpMix P md ops Q S m fuel (listed.setIfInBounds i true) (a.put oi.dst v) w → wpMix P md ops Q S m (fuel + 1) listed a w := by
  intro fuel
  induction fuel with
  | zero =>
    intro listed a w _ hr hy hS H
    refine ⟨fun h => (by rw [h] at hr; cases hr), fun j hj => ?_⟩
    by_cases hji : j = i
    · subst hji; exact hy.wpOp hi hS ⟨Or.inr hS, H⟩
    · have := ready_mono hj hji
      rw [H.1] at this
      cases this
  | succ fuel ih =>
    intro listed a w hfree hr hy hS H
    refine ⟨fun h => (by rw [h] at hr; cases hr), fun j hj => ?_⟩
    by_cases hji : j = i
    · subst hji; exact hy.wpOp hi hS ⟨Or.inr hS, H⟩
    · have h1 := H.2 j (ready_mono hj hji)
      obtain ⟨hjun, oj, hoj, hall⟩ := mem_ready.1 hj
      have hnf := not_full him (mem_ready.1 hr).1 hj
      have hnot : ∀ e ∈ oj.after, Region.binds md e = true → e.on ≠ i := fun e he hb heq => by
        have h1 := hall e he hb
        have h0 := (mem_ready.1 hr).1
        rw [heq] at h1
        rcases Nat.lt_or_ge i listed.size with h' | h'
        · simp [h'] at h0 h1; rw [h0] at h1; cases h1
        · simp [Array.getElem?_eq_none h'] at h1
      have h2 := wpOp_putIf hoj (hfree j oj hoj hji hjun hnot) (fun cs b => hsel i oi cs b hi) (fun cs b => hsel j oj cs b hoj) hQ hy h1
      have hfree' : ∀ k ok, ops[k]? = some ok → k ≠ i → (listed.setIfInBounds j true).getD k true = false →
          (∀ e ∈ ok.after, Region.binds md e = true → e.on ≠ i) → oi.apart ops ok = true := fun k ok hk hki hun hno => by
        refine hfree k ok hk hki ?_ hno
        by_cases hjk : j = k
        · subst hjk; exact hjun
        · rw [getD_set_ne true hjk] at hun; exact hun
      refine wpOp_mono (fun a' w' h3 => ?_) h2
      have hSw : S w' := by
        rcases h3.2.1 with h4 | h4
        · rw [hnf] at h4; cases h4
        · exact h4
      refine ⟨Or.inr hSw, ih (listed.setIfInBounds j true) a' w' hfree' (ready_mono hr (Ne.symm hji)) h3.1 hSw ?_⟩
      rw [Array.setIfInBounds_comm _ _ hji]
      exact h3.2.2

/-- The tail: one operation at a time. -/
def wpSeq (P : Program) (md : Region.Mode) (ops : Array Oper) (Q : Exit → Act → World → Prop) (S : World → Prop) (m : Nat) : List Oper → Nat → Act → World → Prop
  | [], _, a, w => Q .normal a w
  | _ :: rest, k, a, w => wpOp P ops Q k (fun a' w' => (full md ops m k = true ∨ S w') ∧ wpSeq P md ops Q S m rest (k + 1) a' w') a w

theorem seq_nil {k : Nat} {a : Act} {w : World} (h : Q .normal a w) : wpSeq P md ops Q S m [] k a w := h

/-- One step of the tail, as a list of one operation: the walk's own tactics serve. -/
theorem seq_step {k : Nat} {o : Oper} {rest : List Oper} {a : Act} {w : World} (ho : ops[k]? = some o)
    (h : wpList P ops (Exit.then (fun a' w' => (full md ops m k = true ∨ S w') ∧ wpSeq P md ops Q S m rest (k + 1) a' w') Q) [o] a w) : wpSeq P md ops Q S m (o :: rest) k a w := by
  unfold wpSeq wpOp
  simp only [ho]
  unfold wpList at h
  split
  · rename_i hw
    simp only [hw, if_true] at h
    rcases h with h | ⟨h1, h2⟩
    · refine Or.inl ?_
      unfold Oper.wp at h ⊢
      generalize (execOp a.eval o).run P w = r at h ⊢
      cases r with
      | ok n w' =>
        cases n <;> simp only [Oper.upon] at h ⊢
        case value u => exact h
        case skip => exact h
        case defer d => exact h
        case enter f args => exact Calls.mono h fun e w'' he => by cases e <;> exact he
        case row row args => exact Rows.mono h fun u w'' he => he
      | halt x w' =>
        cases x <;> simp only [Oper.upon] at h ⊢
        case panic u => exact h
    · exact Or.inr ⟨h1, h2⟩
  · rename_i hw
    simp only [hw] at h
    exact h

/-- The check: the first m are reads that may be taken first, in the text's order; each of the rest comes up alone. -/
def seqFrom (md : Region.Mode) (ops : Array Oper) (m : Nat) : Nat → Nat → Array Bool → Bool
  | 0, _, listed => (Region.ready md ops listed).isEmpty
  | n + 1, k, listed =>
    (if k < m then (Region.ready md ops listed).contains k && Region.free md ops listed k && ((ops[k]?).map fun o => readOp o.op).getD false
     else (Region.ready md ops listed) == [k]) && seqFrom md ops m n (k + 1) (listed.setIfInBounds k true)

def seqB (md : Region.Mode) (ops : Array Oper) (m : Nat) : Bool := Region.noSelect ops && seqFrom md ops m ops.size 0 (Array.replicate ops.size false)

theorem wpMix_tail : ∀ (l : List Oper) (k : Nat) (listed : Array Bool) (a : Act) (w : World), (∀ j, l[j]? = ops[k + j]?) → m ≤ k → seqFrom md ops m l.length k listed = true →
    wpSeq P md ops Q S m l k a w → wpMix P md ops Q S m l.length listed a w
  | [], _, _, _, _, _, _, hB, h => ⟨by simpa [seqFrom] using hB, h⟩
  | o :: l, k, listed, a, w, hl, hk, hB, h => by
    have h0 : ops[k]? = some o := by simpa using (hl 0).symm
    simp only [List.length_cons, seqFrom, Bool.and_eq_true] at hB
    obtain ⟨hr, hB'⟩ := hB
    rw [if_neg (by omega)] at hr
    have hr' : Region.ready md ops listed = [k] := by simpa using hr
    show wpMix P md ops Q S m (l.length + 1) listed a w
    refine ⟨fun he => absurd (hr' ▸ he) (by simp), fun i hi => ?_⟩
    rw [hr'] at hi
    have hik : i = k := by simpa using hi
    subst hik
    exact wpOp_mono (fun a' w' h' => ⟨h'.1, wpMix_tail l (i + 1) _ a' w' (fun j => by have := hl (j + 1); simpa [Nat.add_assoc, Nat.add_comm 1 j] using this) (by omega) hB' h'.2⟩) h

theorem yieldsIf_of_quiet {o : Oper} {a : Act} {K : Act → Prop} (hr : readOp o.op = true) (hw : Region.wanted o (yielded ops a.tmps) = true) (h : o.quiet P a S K) : ∃ v, YieldsIf P ops S o v a ∧ K (a.put o.dst v) := by
  obtain ⟨v, h1, h2⟩ := h
  refine ⟨v, Or.inl ⟨hw, fun w hS => ?_⟩, h2⟩
  have h3 := h1 w hS
  unfold Oper.quietAt at h3
  cases hrun : (execOp a.eval o).run P w with
  | ok n w' =>
    obtain ⟨u, rfl⟩ := readOp_value hr hrun
    rw [hrun] at h3
    simp only [Oper.quietUpon] at h3
    rw [h3.1, h3.2]
  | halt x w' => rw [hrun] at h3; simp [Oper.quietUpon] at h3

theorem wpMix_pre (hs : Region.noSelect ops = true) (hQ : ∀ (d : Option Tmp) (v : Value) c a w, Q (.panic c) (a.put d v) w → Q (.panic c) a w) : ∀ (l post : List Oper) (k : Nat) (listed : Array Bool) (a : Act) (w : World), (∀ j, (l ++ post)[j]? = ops[k + j]?) → k + l.length = m →
    seqFrom md ops m (l ++ post).length k listed = true → S w → wpQuiet P ops S (fun a' => wpSeq P md ops Q S m post m a' w) l a → wpMix P md ops Q S m (l ++ post).length listed a w
  | [], post, k, listed, a, w, hl, hk, hB, _, h => by
    have : k = m := by simpa using hk
    subst this
    exact wpMix_tail post k listed a w hl (Nat.le_refl _) hB h
  | o :: l, post, k, listed, a, w, hl, hk, hB, hS, h => by
    have h0 : ops[k]? = some o := by simpa using (hl 0).symm
    have hkm : k < m := by simp at hk; omega
    simp only [List.cons_append, List.length_cons, seqFrom, Bool.and_eq_true] at hB
    obtain ⟨hr, hB'⟩ := hB
    rw [if_pos hkm] at hr
    simp only [Bool.and_eq_true, h0, Option.map_some, Option.getD_some] at hr
    obtain ⟨⟨hr1, hf⟩, hro⟩ := hr
    have key : ∃ v, YieldsIf P ops S o v a ∧ wpQuiet P ops S (fun a' => wpSeq P md ops Q S m post m a' w) l (a.put o.dst v) := by
      unfold wpQuiet at h
      by_cases hw : Region.wanted o (yielded ops a.tmps) = true
      · simp only [hw, if_true] at h
        exact yieldsIf_of_quiet hro hw h
      · simp only [hw] at h
        exact ⟨undef, Or.inr ⟨by simpa using hw, rfl⟩, h⟩
    obtain ⟨v, hy, hK⟩ := key
    exact wpMix_first hkm h0 (Region.noSelect_spec hs) (fun c a w => hQ _ _ c a w) _ listed a w (Region.free_spec h0 hf) (by simpa using hr1) hy hS
      (wpMix_pre hs hQ l post (k + 1) _ _ w (fun j => by have := hl (j + 1); simpa [Nat.add_assoc, Nat.add_comm 1 j] using this) (by simp at hk; omega) hB' hS hK)
end

/-- A region that draws: m reads in the class of worlds that are w below H, then a tail in one order. -/
theorem wp_region_seq {P : Program} {id : Nat} {Q : Exit → Act → World → Prop} {a : Act} {w : World} {pre post : List Oper} (H : Nat) (hm : P.follows .mixedOrders = true) (hB : seqB .any (pre ++ post).toArray pre.length = true)
    (hQ : ∀ (d : Option Tmp) (v : Value) c a w, Q (.panic c) (a.put d v) w → Q (.panic c) a w)
    (h : wpQuiet P (pre ++ post).toArray (fun w' => ∃ x : Ext H w, w' = x.world) (fun a' => wpSeq P .any (pre ++ post).toArray Q (fun w' => ∃ x : Ext H w, w' = x.world) pre.length post pre.length a' w.drew) pre a) :
    (Code.region id (pre ++ post).toArray true).wp P Q a w := by
  simp only [seqB, Bool.and_eq_true] at hB
  refine wp_region_any hm (wpAny_of_mix (S := fun w' => ∃ x : Ext H w, w' = x.world) (m := pre.length) _ _ _ _ ?_)
  have := wpMix_pre (md := .any) (S := fun w' => ∃ x : Ext H w, w' = x.world) (m := pre.length) hB.1 hQ pre post 0 (Array.replicate (pre ++ post).toArray.size false) a w.drew (by simp) (by simp) (by simpa using hB.2) ⟨⟨w.drew, (Below.refl _ _).drew⟩, rfl⟩ h
  simpa using this

/-- The same, the number of reads given. -/
theorem wp_region_seqN {P : Program} {id : Nat} {Q : Exit → Act → World → Prop} {a : Act} {w : World} {l : List Oper} (H m : Nat) (hml : m ≤ l.length) (hm : P.follows .mixedOrders = true) (hB : seqB .any l.toArray m = true)
    (hQ : ∀ (d : Option Tmp) (v : Value) c a w, Q (.panic c) (a.put d v) w → Q (.panic c) a w)
    (h : wpQuiet P l.toArray (fun w' => ∃ x : Ext H w, w' = x.world) (fun a' => wpSeq P .any l.toArray Q (fun w' => ∃ x : Ext H w, w' = x.world) m (l.drop m) m a' w.drew) (l.take m) a) :
    (Code.region id l.toArray true).wp P Q a w := by
  have e : (l.take m ++ l.drop m) = l := List.take_append_drop m l
  have hlen : (l.take m).length = m := by rw [List.length_take]; omega
  have := wp_region_seq (P := P) (id := id) (Q := Q) (a := a) (w := w) (pre := l.take m) (post := l.drop m) H hm (by rw [e, hlen]; exact hB) hQ (by rw [e, hlen]; exact h)
  rw [e] at this
  exact this

end Go.Proofs.Qxb6500666aGreatDoor
