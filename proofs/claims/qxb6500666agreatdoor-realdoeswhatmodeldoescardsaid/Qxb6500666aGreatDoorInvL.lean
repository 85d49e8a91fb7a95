/- What the commands keep of the layers beneath (plain). -/
import Derived.Test.Qxb6500666aGreatDoorInv
namespace Go.Proofs.Qxb6500666aGreatDoor

structure PI (n : Nat) (T : Pr) : Prop where
  a : T.ana.length ≤ n
  v : T.ver.length ≤ n
  s : T.site.length ≤ n
  u : T.sub.length ≤ n
  ok : ∀ x ∈ T.sub, x.Ok
structure MI (n : Nat) (T : Sm) : Prop where
  a : T.ss.length ≤ n
  b : T.rs.length ≤ n
  c : T.qs.length ≤ n
  ok : ∀ x ∈ T.ss, x.Ok ∧ (0 ≤ x.collected ∧ x.collected ≤ 157785119) ∧ 0 ≤ x.received ∧ x.received ≤ 157785119
  rk : ∀ x ∈ T.rs, x.Ok ∧ 0 ≤ x.tested ∧ x.tested ≤ 157785119
structure LI (n : Nat) (L : Low) : Prop where
  pr : PI n L.pr
  kit : L.kit.length ≤ n
  sm : MI n L.sm
theorem PI.up {n : Nat} {T : Pr} (h : PI n T) : PI (n + 1) T := ⟨by have := h.a; omega, by have := h.v; omega, by have := h.s; omega, by have := h.u; omega, h.ok⟩
theorem MI.up {n : Nat} {T : Sm} (h : MI n T) : MI (n + 1) T := ⟨by have := h.a; omega, by have := h.b; omega, by have := h.c; omega, h.ok, h.rk⟩
theorem LI.up {n : Nat} {L : Low} (h : LI n L) : LI (n + 1) L := ⟨h.pr.up, by have := h.kit; omega, h.sm.up⟩
theorem ite_p {α : Type} {P : α → Prop} {c : Prop} [Decidable c] {a b : α} (h1 : P a) (h2 : P b) : P (if c then a else b) := by
  split
  · exact h1
  · exact h2
theorem defineP_i {n : Nat} {T : Pr} (h : PI n T) (id l0 l1 l2 : Int) : PI (n + 1) (defineP T id l0 l1 l2).1 := by
  unfold defineP
  repeat' split
  all_goals first | exact h.up | exact ⟨by have := h.a; simp; omega, h.up.v, h.up.s, h.up.u, h.ok⟩
theorem addSiteP_i {n : Nat} {T : Pr} (h : PI n T) (id : Int) : PI (n + 1) (addSiteP T id).1 := by
  unfold addSiteP
  repeat' split
  all_goals first | exact h.up | exact ⟨h.up.a, h.up.v, by have := h.s; simp; omega, h.up.u, h.ok⟩
theorem enrolP_i {n : Nat} {T : Pr} (h : PI n T) {id site : Int} (h1 : U32 id) (h2 : U32 site) : PI (n + 1) (enrolP T id site).1 := by
  unfold enrolP
  repeat' split
  all_goals first
    | exact h.up
    | exact ⟨h.up.a, h.up.v, h.up.s, by have := h.u; simp; omega, fun x hx => by
        rcases List.mem_append.1 hx with hx | hx
        · exact h.ok x hx
        · rw [List.mem_singleton.1 hx]; exact ⟨h1, h2⟩⟩
theorem amendP_i {n : Nat} {T : Pr} (h : PI n T) (eff : Int) (vis : List Int) : PI (n + 1) (amendP T eff vis).1 := by
  unfold amendP
  repeat' split
  all_goals first | exact h.up | exact ⟨h.up.a, by have := h.v; simp; omega, h.up.s, h.up.u, h.ok⟩
theorem buildP_i {n : Nat} {l : List Kit} (h : l.length ≤ n) (id : Int) : (buildP l id).1.length ≤ n + 1 := by
  unfold buildP
  repeat' split
  all_goals simp
  all_goals omega
theorem shipK_i {n : Nat} {L : Low} (h : L.kit.length ≤ n) (id site : Int) : (shipK L id site).1.length ≤ n + 1 := by
  unfold shipK shipP shipL
  repeat' split
  all_goals simp
  all_goals omega
theorem upAt_len {α : Type} (l : List α) (q : Int) (f : α → α) : (upAt l q f).length = l.length := by
  unfold upAt
  split <;> simp
theorem upAt_all {α : Type} {P : α → Prop} {l : List α} {q : Int} {f : α → α} (h : ∀ x ∈ l, P x) (hf : ∀ x, P x → P (f x)) : ∀ x ∈ upAt l q f, P x := by
  unfold upAt
  split
  · rename_i y hy
    intro x hx
    rcases List.mem_or_eq_of_mem_set hx with hx | rfl
    · exact h x hx
    · exact hf y (h y (List.mem_of_getElem? hy))
  · exact h
theorem inCal_iff {m : Int} (h : inCal m = true) : 0 ≤ m ∧ m ≤ 157785119 := by
  unfold inCal at h
  simpa using h
theorem i64cal {m : Int} (h : 0 ≤ m ∧ m ≤ 157785119) : I64 m := ⟨by omega, by omega⟩
theorem accession_i {n : Nat} {T : Sm} (h : MI n T) {x : Smp} (hx : x.Ok) : MI (n + 1) (accession T x).1 := by
  unfold accession
  split
  · exact h.up
  · split
    · exact h.up
    · split
      · exact h.up
      · rename_i hc
        split
        · exact h.up
        · refine ⟨by have := h.a; simp; omega, h.up.b, h.up.c, fun y hy => ?_, h.rk⟩
          rcases List.mem_append.1 hy with hy | hy
          · exact h.ok y hy
          · rw [List.mem_singleton.1 hy]
            simp at hc
            exact ⟨⟨hx.id, hx.kit, hx.subject, hx.visit, hx.cls, hx.collected, hx.received⟩, inCal_iff hc.1, inCal_iff hc.2⟩
theorem excursion_i {n : Nat} {T : Sm} (h : MI n T) (id : Int) : MI (n + 1) (excursion T id).1 := by
  unfold excursion
  repeat' split
  all_goals first
    | exact h.up
    | exact ⟨by rw [upAt_len]; exact h.up.a, h.up.b, h.up.c, upAt_all h.ok (fun x hx => ⟨⟨hx.1.id, hx.1.kit, hx.1.subject, hx.1.visit, hx.1.cls, hx.1.collected, hx.1.received⟩, hx.2⟩), h.rk⟩
theorem collection_i {n : Nat} {T : Sm} (h : MI n T) (id at' : Int) : MI (n + 1) (collection T id at').1 := by
  unfold collection
  split
  · exact h.up
  · rename_i hc
    split
    · exact h.up
    · have hc' : inCal at' = true := by simpa using hc
      exact ⟨by rw [upAt_len]; exact h.up.a, h.up.b, h.up.c, upAt_all h.ok (fun x hx => ⟨⟨hx.1.id, hx.1.kit, hx.1.subject, hx.1.visit, hx.1.cls, i64cal (inCal_iff hc'), hx.1.received⟩, inCal_iff hc', hx.2.2⟩), h.rk⟩
theorem enterR_i {n : Nat} {T : Sm} (h : MI n T) {s a v t : Int} (h1 : U32 s) (h2 : U32 a) (h3 : I64 v) : MI (n + 1) (enterR T s a v t).1 := by
  unfold enterR
  split
  · exact h.up
  · split
    · exact h.up
    · rename_i hc
      split
      · exact h.up
      · split
        · exact h.up
        · have hc' : inCal t = true := by simpa using hc
          refine ⟨h.up.a, by have := h.b; simp; omega, h.up.c, h.ok, fun y hy => ?_⟩
          rcases List.mem_append.1 hy with hy | hy
          · exact h.rk y hy
          · rw [List.mem_singleton.1 hy]
            exact ⟨⟨h1, h2, (show U32 (1 : Int) from ⟨by decide, by decide⟩), h3, i64cal (inCal_iff hc')⟩, inCal_iff hc'⟩
theorem correctR_i {n : Nat} {T : Sm} (h : MI n T) {s a v : Int} (h3 : I64 v) : MI (n + 1) (correctR T s a v).1 := by
  unfold correctR
  repeat' split
  all_goals first
    | exact h.up
    | exact ⟨h.up.a, by rw [upAt_len]; exact h.up.b, h.up.c, h.ok, upAt_all h.rk (fun x hx => ⟨⟨hx.1.sample, hx.1.analyte, by show U32 ((x.version + 1) % 4294967296); unfold U32; omega, h3, hx.1.tested⟩, hx.2⟩)⟩
theorem withdrawR_i {n : Nat} {T : Sm} (h : MI n T) (s a : Int) : MI (n + 1) (withdrawR T s a).1 := by
  unfold withdrawR
  repeat' split
  all_goals first
    | exact h.up
    | exact ⟨h.up.a, by rw [upAt_len]; exact h.up.b, h.up.c, h.ok, upAt_all h.rk (fun x hx => ⟨⟨hx.1.sample, hx.1.analyte, hx.1.version, hx.1.value, hx.1.tested⟩, hx.2⟩)⟩
theorem raiseQ_i {n : Nat} {T : Sm} (h : MI n T) (id s : Int) : MI (n + 1) (raiseQ T id s).1 := by
  unfold raiseQ
  repeat' split
  all_goals first | exact h.up | exact ⟨h.up.a, h.up.b, by have := h.c; simp; omega, h.ok, h.rk⟩
theorem moveQ_i {n : Nat} {T : Sm} (h : MI n T) (id a b : Int) : MI (n + 1) (moveQ T id a b).1 := by
  unfold moveQ
  repeat' split
  all_goals first | exact h.up | exact ⟨h.up.a, h.up.b, by rw [upAt_len]; exact h.up.c, h.ok, h.rk⟩
def LIR (n : Nat) (R : HR) : Prop := LI (n + 1) R.low
theorem handR_i {n : Nat} {ps : List KV} {L : Low} {s : Stat} {r : Req} (h : LI n L) (hr : r.Ok) : LI (n + 1) (handR ps L s r).low := by
  show LIR n (handR ps L s r)
  unfold handR
  have z : ∀ (c : Int) (st : Stat) (i : Int) (ws : List WR), LIR n ⟨c, st, i, ws, L⟩ := fun _ _ _ _ => h.up
  refine ite_p (P := LIR n) (z _ _ _ _) (ite_p (P := LIR n) (z _ _ _ _) ?_)
  refine ite_p (P := LIR n) ⟨defineP_i h.pr _ _ _ _, h.up.kit, h.up.sm⟩ (ite_p (P := LIR n) ⟨amendP_i h.pr _ _, h.up.kit, h.up.sm⟩ (ite_p (P := LIR n) ⟨addSiteP_i h.pr _, h.up.kit, h.up.sm⟩ (ite_p (P := LIR n) ⟨enrolP_i h.pr hr.id hr.ref, h.up.kit, h.up.sm⟩ ?_)))
  refine ite_p (P := LIR n) ⟨h.up.pr, buildP_i h.kit _, h.up.sm⟩ (ite_p (P := LIR n) ⟨h.up.pr, shipK_i h.kit _ _, h.up.sm⟩ ?_)
  refine ite_p (P := LIR n) ⟨h.up.pr, h.up.kit, accession_i h.sm ⟨hr.id, hr.kit, hr.subject, hr.visit, hr.cls, hr.time, hr.till⟩⟩ (ite_p (P := LIR n) ⟨h.up.pr, h.up.kit, excursion_i h.sm _⟩ (ite_p (P := LIR n) ⟨h.up.pr, h.up.kit, collection_i h.sm _ _⟩ (ite_p (P := LIR n) ⟨h.up.pr, h.up.kit, enterR_i h.sm hr.id hr.ref hr.value⟩ ?_)))
  refine ite_p (P := LIR n) ⟨h.up.pr, h.up.kit, correctR_i h.sm hr.value⟩ (ite_p (P := LIR n) ⟨h.up.pr, h.up.kit, withdrawR_i h.sm _ _⟩ (ite_p (P := LIR n) ⟨h.up.pr, h.up.kit, raiseQ_i h.sm _ _⟩ ?_))
  exact ite_p (P := LIR n) ⟨h.up.pr, h.up.kit, moveQ_i h.sm _ _ _⟩ (ite_p (P := LIR n) ⟨h.up.pr, h.up.kit, moveQ_i h.sm _ _ _⟩ (ite_p (P := LIR n) ⟨h.up.pr, h.up.kit, moveQ_i h.sm _ _ _⟩ (ite_p (P := LIR n) (z _ _ _ _) (z _ _ _ _))))

end Go.Proofs.Qxb6500666aGreatDoor
