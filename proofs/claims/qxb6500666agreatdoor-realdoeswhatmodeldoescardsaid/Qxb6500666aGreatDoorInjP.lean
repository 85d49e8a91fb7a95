/- The texts tell their values apart. Plain. -/
import Derived.Test.Qxb6500666aGreatDoorMTrP
namespace Go.Proofs.Qxb6500666aGreatDoor
open Go.RowKit
theorem map_inj_on {α β : Type} {f : α → β} : ∀ {l l' : List α}, l.map f = l'.map f → (∀ x ∈ l, ∀ y ∈ l', f x = f y → x = y) → l = l'
  | [], [], _, _ => rfl
  | [], _ :: _, h, _ => by simp at h
  | _ :: _, [], h, _ => by simp at h
  | x :: l, y :: l', h, k => by
    simp only [List.map_cons, List.cons.injEq] at h
    rw [k x (List.mem_cons_self ..) y (List.mem_cons_self ..) h.1, map_inj_on h.2 (fun a ha b hb => k a (List.mem_cons_of_mem _ ha) b (List.mem_cons_of_mem _ hb))]
theorem lines_inj {A A' t t' : List Int} {xs ys : List (List Int)} (h : A :: (xs ++ [t, []]) = A' :: (ys ++ [t', []])) : A = A' ∧ xs = ys := by
  injection h with h1 h2
  exact ⟨h1, (List.append_inj' h2 rfl).1⟩
theorem file_inj {k s i b k' s' i' b' : Int} {cs cs' : List Change} (h : fileText k s i b cs = fileText k' s' i' b' cs') (hF : FileOk k s i b cs) (hF' : FileOk k' s' i' b' cs') : k = k' ∧ s = s' ∧ i = i' ∧ b = b' ∧ cs = cs' := by
  have h1 := congrArg (splitB 10) h
  rw [text_lines hF, text_lines hF'] at h1
  obtain ⟨hA, hL⟩ := lines_inj h1
  have h2 := congrArg (splitB 124) hA
  rw [head_fields hF.1, head_fields hF'.1] at h2
  simp only [headParts, List.cons.injEq, and_true, true_and] at h2
  obtain ⟨e1, e2, e3, e4, -⟩ := h2
  refine ⟨e1, dec_inj e2, dec_inj e3, dec_inj e4, map_inj_on hL fun c hc c' hc' e => ?_⟩
  obtain ⟨q, hq, rfl⟩ := List.getElem_of_mem hc
  obtain ⟨q', hq', rfl⟩ := List.getElem_of_mem hc'
  have h3 := congrArg (splitB 124) e
  rw [row_fields (hF.2.2.2 q hq).1, row_fields (hF'.2.2.2 q' hq').1] at h3
  generalize cs[q] = c at *
  generalize cs'[q'] = c' at *
  obtain ⟨a, r0, r1, r2, r3, r4, r5, r6, r7, r8, r9, ra, rb, rc⟩ := c
  obtain ⟨a', q0, q1, q2, q3, q4, q5, q6, q7, q8, q9, qa, qb, qc⟩ := c'
  simp only [rowParts, List.cons.injEq, and_true] at h3
  obtain ⟨e0, f0, f1, f2, f3, f4, f5, f6, f7, f8, f9, fa, fb, fc⟩ := h3
  rw [e0, dec_inj f0, dec_inj f1, dec_inj f2, dec_inj f3, dec_inj f4, dec_inj f5, dec_inj f6, dec_inj f7, dec_inj f8, dec_inj f9, dec_inj fa, dec_inj fb, dec_inj fc]
theorem rep_inj {ea la ea' la' : Int} {ds ds' : List Diff} (h : repText ea la ds = repText ea' la' ds') (hF : rpC ea la ds = 0) (hF' : rpC ea' la' ds' = 0) : ea = ea' ∧ la = la' ∧ ds = ds' := by
  have h1 := congrArg (splitB 10) h
  rw [rep_lines hF, rep_lines hF'] at h1
  obtain ⟨hA, hL⟩ := lines_inj h1
  have h2 := congrArg (splitB 124) hA
  rw [rhead_fields, rhead_fields] at h2
  simp only [rhParts, List.cons.injEq, and_true, true_and] at h2
  obtain ⟨e2, e3, -⟩ := h2
  refine ⟨dec_inj e2, dec_inj e3, map_inj_on hL fun c hc c' hc' e => ?_⟩
  have h3 := congrArg (splitB 124) e
  rw [dif_fields ((rep_vd hF).2.2 _ hc), dif_fields ((rep_vd hF').2.2 _ hc')] at h3
  obtain ⟨a, r0, r1, r2, r3⟩ := c
  obtain ⟨a', q0, q1, q2, q3⟩ := c'
  simp only [difParts, List.cons.injEq, and_true] at h3
  obtain ⟨e0, f0, f1, f2, f3⟩ := h3
  rw [e0, dec_inj f0, dec_inj f1, dec_inj f2, dec_inj f3]
theorem tv_inj {rn kn : Nat → ByteArray} (hg : NmG rn kn) {bs : List Int} {xs ys : List Ent} (h : Tv rn kn bs xs) (h' : Tv rn kn bs ys) : xs = ys := by
  have h1 := h.lines hg
  rw [h'.lines hg] at h1
  obtain ⟨-, hL⟩ := lines_inj h1
  refine (map_inj_on hL fun y hy x hx e => ?_).symm
  have h3 := congrArg (splitB 124) e
  obtain ⟨q, hq, rfl⟩ := List.getElem_of_mem hy
  obtain ⟨p, hp, rfl⟩ := List.getElem_of_mem hx
  rw [ent_fields hg (h'.ev q hq), ent_fields hg (h.ev p hp)] at h3
  injection h3 with _ h3
  exact ent_inj hg (h'.ok _ hy).role (h'.ok _ hy).req.kind (h'.ok _ hy).list (h.ev p hp) (h.ok _ hx).list h3
theorem flat_len {α : Type} {g : α → List Int} {m : Nat} : ∀ {l : List α}, (∀ x ∈ l, m ≤ (g x).length) → m * l.length ≤ (flatL g l).length
  | [], _ => Nat.zero_le _
  | x :: l, h => by
    show m * (l.length + 1) ≤ (g x ++ flatL g l).length
    have h1 := h x (List.mem_cons_self ..)
    have h2 := flat_len (l := l) (fun y hy => h y (List.mem_cons_of_mem _ hy))
    rw [List.length_append, Nat.mul_add]
    omega
theorem tailT_len : ∀ {ps : List (List Int)}, (∀ p ∈ ps, p ≠ []) → 2 * ps.length ≤ (tailT ps).length
  | [], _ => Nat.le_refl _
  | p :: r, h => by
    show 2 * (r.length + 1) ≤ (124 :: (p ++ tailT r)).length
    have h1 : 0 < p.length := List.length_pos_iff.2 (h p (List.mem_cons_self ..))
    have h2 := tailT_len (ps := r) (fun q hq => h q (List.mem_cons_of_mem _ hq))
    simp only [List.length_cons, List.length_append]
    omega
theorem trail_len (bs : List Int) (n : Int) : bs.length ≤ (trailText bs n).length := by
  unfold trailText
  simp only [List.length_append]
  omega
theorem file_len (k s i b : Int) (cs : List Change) : cs.length ≤ (fileText k s i b cs).length := by
  have h1 := flat_len (g := rowText) (m := 1) (l := cs) (fun c _ => by unfold rowText; simp)
  have h2 := trail_len (bodyText k s i b cs) cs.length
  unfold fileText
  have h3 : (linesText cs).length ≤ (bodyText k s i b cs).length := by unfold bodyText; rw [List.length_append]; omega
  have h4 : (linesText cs).length = (flatL rowText cs).length := rfl
  omega
theorem rep_len (ea la : Int) (ds : List Diff) : ds.length ≤ (repText ea la ds).length := by
  have h1 := flat_len (g := repLine) (m := 1) (l := ds) (fun c _ => by unfold repLine; simp)
  have h2 := trail_len (repHead ea la ds.length ++ flatL repLine ds) ds.length
  unfold repText
  have h3 : (flatL repLine ds).length ≤ (repHead ea la ds.length ++ flatL repLine ds).length := by rw [List.length_append]; omega
  omega
theorem tv_len {rn kn : Nat → ByteArray} (hg : NmG rn kn) {bs : List Int} {xs : List Ent} (h : Tv rn kn bs xs) : 40 * xs.length ≤ bs.length := by
  have h1 := flat_len (g := trLine rn kn) (m := 40) (l := xs) (fun x hx => by
    obtain ⟨q, hq, rfl⟩ := List.getElem_of_mem hx
    have h3 := ent_parts_ok hg (h.ev q hq)
    have h4 := tailT_len (ps := entParts rn kn xs[q]) (fun p hp => (h3 p (List.mem_cons_of_mem _ hp)).1)
    have h5 : (entParts rn kn xs[q]).length = 20 := rfl
    rw [trLine_parts, entL, List.length_append, List.length_append]
    omega)
  have h2 := trail_len (trHead xs.length ++ flatL (trLine rn kn) xs) xs.length
  rw [List.length_append] at h2
  rw [h.tx, trText]
  omega
end Go.Proofs.Qxb6500666aGreatDoor
