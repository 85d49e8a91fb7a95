/- What every step keeps: the whole (plain). -/
import Derived.Test.Qxb6500666aGreatDoorInvL
import Derived.Test.Qxb6500666aGreatDoorStepP
namespace Go.Proofs.Qxb6500666aGreatDoor

theorem relL_ok {ps : List KV} (hps : PsOk ps) : ∀ {l : List KV} {acc : Option (List Row)} {rows : List Row}, (∀ a, acc = some a → ∀ r ∈ a, r.Ok) → l.foldl (relAdd ps) acc = some rows → ∀ r ∈ rows, r.Ok
  | [], acc, rows, h, hl => h rows hl
  | x :: r, acc, rows, h, hl => by
    refine relL_ok hps (l := r) (acc := relAdd ps acc x) ?_ hl
    intro a ha
    unfold relAdd at ha
    split at ha
    · cases ha
    · rename_i b
      split at ha
      · cases ha
      · rename_i row hrow
        injection ha with ha
        subst ha
        intro y hy
        rcases List.mem_append.1 hy with hy | hy
        · exact h b rfl y hy
        · rw [List.mem_singleton.1 hy]
          unfold relStep at hrow
          split at hrow
          · cases hrow
          · split at hrow
            · cases hrow
            · split at hrow
              · cases hrow
              · rename_i c hc
                split at hrow
                · cases hrow
                · split at hrow
                  · cases hrow
                  · split at hrow
                    · cases hrow
                    · injection hrow with hrow
                      exact hrow ▸ (chgR_ok hps hc).row
theorem relR_ok {ps : List KV} (hps : PsOk ps) {rows : List Row} (h : relR ps = some rows) : ∀ r ∈ rows, r.Ok :=
  relL_ok hps (acc := some []) (fun a ha => by injection ha with ha; subst ha; intro r hr; cases hr) h
theorem siteV_u32 {l : List Sbj} {id : Int} (h : ∀ x ∈ l, x.Ok) : U32 (siteV l id) := by
  unfold siteV sbjGet
  cases hf : l.find? (fun x => x.id == id) with
  | none => exact u32z
  | some y => exact (h y (List.mem_of_find?_eq_some hf)).site
theorem rowOf_ok {n : Nat} {L : Low} (h : LI n L) (hn : n ≤ 1000000) {s : Smp} {r : Res} (hs : s ∈ L.sm.ss) (hr : r ∈ L.sm.rs) : (rowOf L s r).Ok := by
  have h1 := (h.sm.ok s hs).1
  have h2 := (h.sm.rk r hr).1
  have h3 := inForceN_le L.pr.ver s.collected L.pr.ver.length
  have h4 := h.pr.v
  exact ⟨h1.id, h2.analyte, h2.version, h2.value, h1.subject, siteV_u32 h.pr.ok, h1.visit, ⟨h3.1, by show inForceN _ _ _ ≤ _; omega⟩, h1.kit, h1.cls, h1.collected, h1.received, h2.tested⟩
theorem eligGo_ok {n : Nat} {L : Low} (h : LI n L) (hn : n ≤ 1000000) : ∀ {rs : List Res} {acc out : List Row}, (∀ x ∈ rs, x ∈ L.sm.rs) → (∀ x ∈ acc, x.Ok) → eligGo L rs acc = some out → ∀ x ∈ out, x.Ok
  | [], acc, out, _, ha, ho => by injection ho with ho; exact ho ▸ ha
  | r :: rs, acc, out, hm, ha, ho => by
    unfold eligGo at ho
    split at ho
    · cases ho
    · rename_i s hs
      split at ho
      · exact eligGo_ok h hn (fun x hx => hm x (by simp [hx])) ha ho
      · split at ho
        · refine eligGo_ok h hn (fun x hx => hm x (by simp [hx])) (fun x hx => ?_) ho
          rcases List.mem_append.1 hx with hx | hx
          · exact ha x hx
          · rw [List.mem_singleton.1 hx]
            exact rowOf_ok h hn (smpGet_mem hs) (hm r (by simp))
        · cases ho
theorem sink_mem {α : Type} (lt : α → α → Bool) : ∀ (j : Nat) (xs : List α), ∀ x ∈ sink lt j xs, x ∈ xs
  | 0, _, _, h => h
  | j + 1, xs, x, h => by
    unfold sink at h
    split at h
    · rename_i a b ha hb
      split at h
      · have h1 := sink_mem lt j _ x h
        rcases List.mem_or_eq_of_mem_set h1 with h2 | rfl
        · rcases List.mem_or_eq_of_mem_set h2 with h3 | rfl
          · exact h3
          · exact List.mem_of_getElem? hb
        · exact List.mem_of_getElem? ha
      · exact h
    · exact h
theorem sortFrom_mem {α : Type} (lt : α → α → Bool) : ∀ (c i : Nat) (xs : List α), ∀ x ∈ sortFrom lt c i xs, x ∈ xs
  | 0, _, _, _, h => h
  | c + 1, i, xs, x, h => sink_mem lt i xs x (sortFrom_mem lt c (i + 1) (sink lt i xs) x h)
theorem sortL_mem {α : Type} (lt : α → α → Bool) (xs : List α) : ∀ x ∈ sortL lt xs, x ∈ xs := fun x h => sortFrom_mem lt _ _ xs x h
theorem eligR_ok {n : Nat} {L : Low} (h : LI n L) (hn : n ≤ 1000000) {out : List Row} (ho : eligR L = some out) : ∀ x ∈ out, x.Ok := by
  unfold eligR at ho
  cases he : eligGo L L.sm.rs [] with
  | none => rw [he] at ho; cases ho
  | some rows =>
    rw [he] at ho
    injection ho with ho
    subst ho
    intro x hx
    exact eligGo_ok h hn (fun _ h => h) (fun _ h => by cases h) he x (sortL_mem _ _ x hx)
theorem differ_ok {b a : List Row} (hb : ∀ r ∈ b, r.Ok) (ha : ∀ r ∈ a, r.Ok) : ∀ c ∈ differ b a, c.Ok := by
  intro c hc
  obtain ⟨p, hp1, hp2⟩ := mem_flatL hc
  obtain ⟨k1, k2⟩ := pairs_all (P := Row.Ok) _ b a hb ha p hp1
  obtain ⟨x, y⟩ := p
  cases x with
  | none =>
    cases y with
    | none => simp [lineOf] at hp2
    | some y =>
      obtain rfl := List.mem_singleton.1 hp2
      exact ⟨u8c 78 (by decide), k2 y rfl⟩
  | some x =>
    cases y with
    | none =>
      obtain rfl := List.mem_singleton.1 hp2
      exact ⟨u8c 87 (by decide), k1 x rfl⟩
    | some y =>
      have hp2 : c ∈ (if y.eqB x then [] else [(⟨67, y⟩ : Change)]) := hp2
      split at hp2
      · cases hp2
      · obtain rfl := List.mem_singleton.1 hp2
        exact ⟨u8c 67 (by decide), k2 y rfl⟩
theorem pendR_ok {n : Nat} {ps : List KV} {L : Low} (hps : PsOk ps) (h : LI n L) (hn : n ≤ 1000000) {cs : List Change} (hc : pendR ps L = some cs) : ∀ c ∈ cs, c.Ok := by
  unfold pendR at hc
  split at hc
  · cases hc
  · rename_i b hb
    split at hc
    · cases hc
    · rename_i a ha
      injection hc with hc
      subst hc
      exact differ_ok (relR_ok hps hb) (eligR_ok h hn ha)

/-- What holds behind n steps. -/
structure Inv (n : Nat) (s : ST) : Prop where
  pk : PsOk s.ps
  plen : s.ps.length ≤ 43 * n
  off : 0 ≤ s.off ∧ s.off ≤ n
  lar : s.lar ≤ 3000
  low : LI n s.low
theorem Inv.po {n : Nat} {s : ST} (h : Inv n s) (hn : n ≤ 65536) : PO s.ps s.low :=
  ⟨h.pk, by have := h.plen; omega, ⟨⟨by have := h.low.pr.a; omega, by have := h.low.pr.v; omega, by have := h.low.pr.s; omega, by have := h.low.pr.u; omega⟩, by have := h.low.kit; omega, ⟨by have := h.low.sm.a; omega, by have := h.low.sm.b; omega, by have := h.low.sm.c; omega⟩⟩, ⟨fun x hx => (h.low.sm.ok x hx).2, fun x hx => (h.low.sm.rk x hx).2, by have := h.low.pr.v; omega⟩, fun _ hc => pendR_ok h.pk h.low (by omega) hc, fun _ hc => relR_ok h.pk hc⟩
theorem Inv.up {n : Nat} {s : ST} (h : Inv n s) : Inv (n + 1) s := ⟨h.pk, by have := h.plen; omega, ⟨h.off.1, by have := h.off.2; omega⟩, h.lar, h.low.up⟩
theorem larN_le {lar : Int} {ws : List WR} (h1 : lar ≤ 3000) (h2 : sizeW ws ≤ 3000) : larN lar ws ≤ 3000 := by
  unfold larN
  split
  · omega
  · exact h1
theorem Inv.cmd {n : Nat} {s : ST} (h : Inv n s) {r : Req} (hr : r.Ok) (role : Int) : Inv (n + 1) ⟨(cmdR s.ps s.full s.off s.lar s.low r role).ps, s.full, (cmdR s.ps s.full s.off s.lar s.low r role).off, (cmdR s.ps s.full s.off s.lar s.low r role).lar, (cmdR s.ps s.full s.off s.lar s.low r role).low⟩ := by
  have hu := h.up
  have hx : Inv (n + 1) ⟨s.ps, s.full, s.off, s.lar, s.low⟩ := hu
  unfold cmdR
  split
  · exact hx
  · rename_i st hst
    split
    · exact hx
    · split
      · exact hx
      · split
        · exact hx
        · rename_i hl
          unfold cmdH
          split
          · have hz := wsAll_size (role := role) (handR_size s.ps s.low st r) (show r.list.length ≤ 12 by omega)
            have hw := wsAll_ok (r := r) (role := role) (handR_ws s.ps s.low st r)
            have hi := handR_i (ps := s.ps) (s := st) h.low hr
            have ha := applyW_ok h.pk hw
            have hla := larN_le (ws := wsAll (handR s.ps s.low st r) r role) h.lar hz.1
            have ho : 0 ≤ s.off + 1 ∧ s.off + 1 ≤ ((n + 1 : Nat) : Int) := ⟨by have := h.off.1; omega, by have := h.off.2; omega⟩
            unfold endR
            split
            · exact ⟨h.pk, hu.plen, ho, hla, h.low.up⟩
            · exact ⟨ha.1, by have := ha.2; have := h.plen; have := hz.2; show (applyW _ _).length ≤ _; omega, ho, hla, hi⟩
          · exact hx
theorem Inv.step {n : Nat} {s : ST} (h : Inv n s) {o : Op} (hr : o.req.Ok) : Inv (n + 1) (stepR s o) := by
  have hu := h.up
  unfold stepR
  split
  · unfold exR
    split
    · exact hu
    · split
      · exact hu
      · split
        · exact hu
        · exact h.cmd hr _
  · split
    · exact ⟨hu.pk, hu.plen, hu.off, hu.lar, hu.low⟩
    · exact hu
def low0 : Low := ⟨⟨[], [], [], []⟩, [], ⟨[], [], []⟩⟩
def st0 : ST := ⟨[], false, 0, 0, low0⟩
theorem Inv.zero : Inv 0 st0 := ⟨fun _ h => by (cases h), Nat.le_refl _, ⟨by decide, by decide⟩, by decide, ⟨⟨Nat.le_refl _, Nat.le_refl _, Nat.le_refl _, Nat.le_refl _, fun _ h => by (cases h)⟩, Nat.le_refl _, ⟨Nat.le_refl _, Nat.le_refl _, Nat.le_refl _, fun _ h => by (cases h), fun _ h => by (cases h)⟩⟩⟩
noncomputable def stAt (s : List Op) (q : Nat) : ST := (s.take q).foldl stepR st0
theorem stAt_succ {s : List Op} {q : Nat} (h : q < s.length) : stAt s (q + 1) = stepR (stAt s q) s[q] := by
  unfold stAt
  rw [List.take_succ_eq_append_getElem h, List.foldl_append]
  rfl

end Go.Proofs.Qxb6500666aGreatDoor
