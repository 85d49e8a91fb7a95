/- A store whose pairs stand in another order answers as before. Plain. -/
import Derived.Test.Qxb6500666aGreatDoorScanL
import Derived.Test.Qxb6500666aGreatDoorFilR
import Derived.Test.Qxb6500666aGreatDoorExecX
namespace Go.Proofs.Qxb6500666aGreatDoor
open Go.RowKit

/-- Two lists of pairs read alike. -/
structure PsEq (ps ps' : List KV) : Prop where
  get : ∀ k, getB ps' k = getB ps k
  scan : ∀ f t, scanB ps' f t (ps'.length + 1) none = scanB ps f t (ps.length + 1) none
theorem getB_of {ps : List KV} (h : KN ps) {p : KV} (hp : p ∈ ps) : getB ps p.1 = some p.2 := by
  induction ps with
  | nil => cases hp
  | cons q r ih =>
    have hn : KN (q :: r) := h
    unfold KN at hn
    rw [List.map_cons, List.nodup_cons] at hn
    unfold getB
    rcases List.mem_cons.1 hp with rfl | hp
    · rw [if_pos rfl]
    · rw [if_neg (fun e => hn.1 (by rw [e]; exact List.mem_map_of_mem hp))]
      exact ih hn.2 hp
theorem ltB_unique : ∀ {l1 l2 : List KV}, l1.Pairwise (fun p q => ltB p.1 q.1 = true) → l2.Pairwise (fun p q => ltB p.1 q.1 = true) → (∀ x, x ∈ l1 ↔ x ∈ l2) → l1 = l2
  | [], [], _, _, _ => rfl
  | [], y :: r, _, _, h => by have := (h y).2 (List.mem_cons_self ..); cases this
  | x :: r, [], _, _, h => by have := (h x).1 (List.mem_cons_self ..); cases this
  | x :: r1, y :: r2, h1, h2, h => by
    have h1' := List.pairwise_cons.1 h1
    have h2' := List.pairwise_cons.1 h2
    have no : ∀ z : KV, ¬ ltB z.1 z.1 = true := fun z e => by rw [ltB_irrefl] at e; cases e
    have hxy : x = y := by
      rcases List.mem_cons.1 ((h x).1 (List.mem_cons_self ..)) with h3 | h3
      · exact h3
      · rcases List.mem_cons.1 ((h y).2 (List.mem_cons_self ..)) with h4 | h4
        · exact h4.symm
        · exact absurd (ltB_trans (h2'.1 x h3) (h1'.1 y h4)) (no y)
    subst hxy
    rw [ltB_unique h1'.2 h2'.2 (fun z => ⟨fun hz => ?_, fun hz => ?_⟩)]
    · rcases List.mem_cons.1 ((h z).1 (List.mem_cons_of_mem _ hz)) with h3 | h3
      · subst h3; exact absurd (h1'.1 z hz) (no z)
      · exact h3
    · rcases List.mem_cons.1 ((h z).2 (List.mem_cons_of_mem _ hz)) with h3 | h3
      · subst h3; exact absurd (h2'.1 z hz) (no z)
      · exact h3
theorem PsEq.perm {ps ps' : List KV} (h : KN ps) (h' : KN ps') (hm : ∀ p, p ∈ ps' ↔ p ∈ ps) : PsEq ps ps' := by
  have hget : ∀ k, getB ps' k = getB ps k := fun k => by
    cases hg : getB ps k with
    | some v =>
      have := getB_of h' ((hm _).2 (getB_in hg))
      exact this
    | none =>
      cases hg' : getB ps' k with
      | none => rfl
      | some v =>
        have := getB_of h ((hm _).1 (getB_in hg'))
        rw [show ((k, v) : KV).1 = k from rfl, hg] at this
        cases this
  refine ⟨hget, fun f t => ?_⟩
  obtain ⟨a1, a2, a3⟩ := scanB_spec ps' f t (ps'.length + 1) none (leftC_le _ _ _ _)
  obtain ⟨b1, b2, b3⟩ := scanB_spec ps f t (ps.length + 1) none (leftC_le _ _ _ _)
  refine ltB_unique a1 b1 (fun x => ⟨fun hx => ?_, fun hx => ?_⟩)
  · obtain ⟨c1, c2, c3⟩ := a2 x hx
    obtain ⟨y, hy, he⟩ := b3 x ((hm x).1 c1) c2
    obtain ⟨d1, d2, d3⟩ := b2 y hy
    rw [← hget, he, c3] at d3
    injection d3 with d3
    have : y = x := Prod.ext he d3.symm
    rw [← this]
    exact hy
  · obtain ⟨c1, c2, c3⟩ := b2 x hx
    obtain ⟨y, hy, he⟩ := a3 x ((hm x).2 c1) c2
    obtain ⟨d1, d2, d3⟩ := a2 y hy
    rw [hget, he, c3] at d3
    injection d3 with d3
    have : y = x := Prod.ext he d3.symm
    rw [← this]
    exact hy
theorem KN.rev {ps : List KV} (h : KN ps) : KN ps.reverse := by
  unfold KN at h ⊢
  rw [List.map_reverse]
  exact List.pairwise_reverse.2 (List.Pairwise.imp (fun h e => h e.symm) h)
theorem PsEq.rev {ps : List KV} (h : KN ps) : PsEq ps ps.reverse := PsEq.perm h h.rev (fun _ => List.mem_reverse)

section
variable {ps ps' : List KV}
theorem PsEq.stat (h : PsEq ps ps') : statR ps' = statR ps := by unfold statR; rw [h.get]
theorem PsEq.hdr (h : PsEq ps ps') (s : Int) : hdrR ps' s = hdrR ps s := by unfold hdrR; rw [h.get]
theorem PsEq.acc (h : PsEq ps ps') (u : Int) : accR ps' u = accR ps u := by unfold accR; rw [h.get]
theorem PsEq.chg (h : PsEq ps ps') (f l : Int) : chgR ps' f l = chgR ps f l := by unfold chgR; rw [h.get]
theorem PsEq.ent (h : PsEq ps ps') (s : Int) : entR ps' s = entR ps s := by unfold entR; rw [h.get]
theorem PsEq.auth (h : PsEq ps ps') (u k : Int) : authR ps' u k = authR ps u k := by unfold authR; rw [h.acc]
theorem PsEq.relS (h : PsEq ps ps') : relAdd ps' = relAdd ps := by
  funext acc p
  unfold relAdd relStep
  simp only [h.chg]
theorem PsEq.rel (h : PsEq ps ps') : relR ps' = relR ps := by unfold relR relL; rw [h.scan, h.relS]
theorem PsEq.pend (h : PsEq ps ps') (L : Low) : pendR ps' L = pendR ps L := by unfold pendR; rw [h.rel]
theorem PsEq.linesGo (h : PsEq ps ps') (s : Int) : ∀ (n i : Nat) (acc : List Change), linesGo ps' s n i acc = linesGo ps s n i acc
  | 0, _, _ => rfl
  | n + 1, i, acc => by
    unfold Go.Proofs.Qxb6500666aGreatDoor.linesGo
    rw [h.chg]
    split
    · rfl
    · exact h.linesGo s n _ _
theorem PsEq.lines (h : PsEq ps ps') (x : Hdr) : linesR ps' x = linesR ps x := by unfold linesR; rw [h.linesGo]
theorem PsEq.rbGo (h : PsEq ps ps') : ∀ (k n : Nat) (rows : List Row), rbGo ps' k n rows = rbGo ps k n rows
  | 0, _, _ => rfl
  | k + 1, n, rows => by
    unfold Go.Proofs.Qxb6500666aGreatDoor.rbGo
    rw [h.hdr]
    split
    · rfl
    · split
      · exact h.rbGo k _ _
      · rw [h.lines]
        split
        · rfl
        · split
          · rfl
          · exact h.rbGo k _ _
theorem PsEq.rb (h : PsEq ps ps') (s : Int) : rbR ps' s = rbR ps s := by unfold rbR; rw [h.rbGo]
theorem PsEq.file (h : PsEq ps ps') (s : Int) : fileR ps' s = fileR ps s := by
  unfold fileR
  rw [h.hdr]
  split
  · rfl
  · rw [h.lines, h.rb]
theorem PsEq.fb (h : PsEq ps ps') (s : Int) : fbR ps' s = fbR ps s := by unfold fbR; rw [h.file]
theorem PsEq.recn (h : PsEq ps ps') (e l : Int) : recR ps' e l = recR ps e l := by
  unfold recR fromR
  rw [h.hdr l, h.hdr e, h.rb e, h.rb l]
theorem PsEq.trGo (h : PsEq ps ps') : ∀ (k n : Nat) (acc : List Ent), trGo ps' k n acc = trGo ps k n acc
  | 0, _, _ => rfl
  | k + 1, n, acc => by
    unfold Go.Proofs.Qxb6500666aGreatDoor.trGo
    rw [h.ent]
    split
    · rfl
    · exact h.trGo k _ _
theorem PsEq.trail (h : PsEq ps ps') : trailR ps' = trailR ps := by
  unfold trailR
  rw [h.stat]
  split
  · rfl
  · exact h.trGo _ _ _
/-- A permitted reading answers as before. -/
theorem PsEq.rdX (h : PsEq ps ps') (rn kn : Nat → ByteArray) (w w' : World) (L : Low) (r : Req) : rdX rn kn w w' ps' L r = rdX rn kn w w' ps L r := by
  unfold Go.Proofs.Qxb6500666aGreatDoor.rdX rd21X rd22X rd23X rd25X rd26X rd27X rd28X rd30X reconX trailX
  rw [h.acc, h.stat, h.ent, h.pend, h.hdr, h.fb, h.recn, h.trail]
end
end Go.Proofs.Qxb6500666aGreatDoor
