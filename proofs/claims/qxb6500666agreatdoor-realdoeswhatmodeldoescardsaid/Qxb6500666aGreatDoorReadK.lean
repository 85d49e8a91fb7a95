/- The whole system's state in memory. -/
import Derived.Test.Qxb6500666aGreatDoorRead
import Derived.Test.Qxb6500666aGreatDoorFileB
import Derived.Test.Qxb6500666aGreatDoorPend
import Derived.Test.Qxb6500666aGreatDoorEligib
import Derived.Test.Qxb6500666aGreatDoorRecon
import Derived.Test.Qxb6500666aGreatDoorRep3
import Derived.Test.Qxb6500666aGreatDoorRTrail2
namespace Go.Proofs.Qxb6500666aGreatDoor
open Go.RowKit
structure SysSt (w : World) (Y S LB : Nat) (A ok : Nat → Prop) (ps : List KV) (full : Bool) (x : LV) (L : Low) : Prop where
  sys : SysAt w Y S LB
  st : StoreAt w S A ps full
  pk : PsOk ps
  lb : w.heap[LB]? = some (.cells (lvCs x) 83 (0, 0))
  low : LowAt w ok x L
  small : L.Small
  times : L.Times
  plen : ps.length ≤ 4000000
theorem SysSt.below {w W : World} {Y S LB : Nat} {A ok : Nat → Prop} {ps : List KV} {full : Bool} {x : LV} {L : Low} (h : SysSt w Y S LB A ok ps full x L) (hb : Below w.heap.size w W) : SysSt W Y S LB A ok ps full x L :=
  ⟨(hb.block _ (blk_lt h.sys)).trans h.sys, h.st.below hb, h.pk, (hb.block _ (blk_lt h.lb)).trans h.lb, h.low.below hb, h.small, h.times, h.plen⟩
theorem sys_cells {w : World} {Y S LB : Nat} (h : SysAt w Y S LB) : w.cell? ⟨Y, 0, none⟩ = some (.pointer (some ⟨S, 0, none⟩)) ∧ w.cell? ⟨Y, 1, none⟩ = some (.pointer (some ⟨LB, 0, none⟩)) := ⟨cells_all h 0, cells_all h 1⟩
def optX {α : Type} : Option α → Except Int α
  | none => .error 28
  | some x => .ok x
def eligX (L : Low) (s a : Int) : Except Int (Rsp → Prop) := if (eligibR L s a).2 = 0 then .ok fun x => x = { rsp0 with holds := (eligibR L s a).1 } else .error (eligibR L s a).2
/-- What the reading of a reconciliation answers. -/
noncomputable def reconX (w w' : World) (ps : List KV) (e l : Int) : Except Int (Rsp → Prop) := match recR ps e l with
  | .error c => .error c
  | .ok ds => match repR e l ds with
    | .error c => .error c
    | .ok t => .ok fun x => ∃ a n c a' n' c', x = { rsp0 with diffs := (a, n, c), bytes := (a', n', c') } ∧ OwnR w' w.heap.size 166 5 diffCs (.slice a n c) ds ∧ OwnR w' w.heap.size 5 1 byteCs (.slice a' n' c') t
/-- What the reading of the trail answers. -/
noncomputable def trailX (rn kn : Nat → ByteArray) (w w' : World) (ps : List KV) : Except Int (Rsp → Prop) := match trailR ps with
  | none => .error 28
  | some l => match rtR rn kn l with
    | .error c => .error c
    | .ok t => .ok fun x => ∃ a n c, x = { rsp0 with bytes := (a, n, c) } ∧ OwnR w' w.heap.size 5 1 byteCs (.slice a n c) t
theorem pairs_le : ∀ (f : Nat) (bs ts : List Row), (pairs f bs ts).length ≤ f
  | 0, _, _ => by simp [pairs]
  | f + 1, [], [] => by simp [pairs]
  | f + 1, [], a :: ts => by have := pairs_le f [] ts; simp [pairs]; omega
  | f + 1, b :: bs, [] => by have := pairs_le f bs []; simp [pairs]; omega
  | f + 1, b :: bs, a :: ts => by
    unfold pairs
    split
    · have := pairs_le f bs (a :: ts); simp; omega
    · split
      · have := pairs_le f (b :: bs) ts; simp; omega
      · have := pairs_le f bs ts; simp; omega
theorem pairs_all {P : Row → Prop} : ∀ (f : Nat) (bs ts : List Row), (∀ r ∈ bs, P r) → (∀ r ∈ ts, P r) → ∀ p ∈ pairs f bs ts, (∀ b, p.1 = some b → P b) ∧ (∀ a, p.2 = some a → P a)
  | 0, _, _, _, _, p, hp => by simp [pairs] at hp
  | f + 1, [], [], _, _, p, hp => by simp [pairs] at hp
  | f + 1, [], a :: ts, h1, h2, p, hp => by
    rcases List.mem_cons.1 hp with rfl | hp
    · exact ⟨fun _ hb => (nomatch hb), fun x hx => by injection hx with hx; exact hx ▸ h2 _ (by simp)⟩
    · exact pairs_all f [] ts h1 (fun r hr => h2 r (by simp [hr])) p hp
  | f + 1, b :: bs, [], h1, h2, p, hp => by
    rcases List.mem_cons.1 hp with rfl | hp
    · exact ⟨fun x hx => by injection hx with hx; exact hx ▸ h1 _ (by simp), fun _ hx => (nomatch hx)⟩
    · exact pairs_all f bs [] (fun r hr => h1 r (by simp [hr])) h2 p hp
  | f + 1, b :: bs, a :: ts, h1, h2, p, hp => by
    unfold pairs at hp
    split at hp
    · rcases List.mem_cons.1 hp with rfl | hp
      · exact ⟨fun x hx => by injection hx with hx; exact hx ▸ h1 _ (by simp), fun _ hx => (nomatch hx)⟩
      · exact pairs_all f bs (a :: ts) (fun r hr => h1 r (by simp [hr])) h2 p hp
    · split at hp
      · rcases List.mem_cons.1 hp with rfl | hp
        · exact ⟨fun _ hb => (nomatch hb), fun x hx => by injection hx with hx; exact hx ▸ h2 _ (by simp)⟩
        · exact pairs_all f (b :: bs) ts h1 (fun r hr => h2 r (by simp [hr])) p hp
      · rcases List.mem_cons.1 hp with rfl | hp
        · exact ⟨fun x hx => by injection hx with hx; exact hx ▸ h1 _ (by simp), fun x hx => by injection hx with hx; exact hx ▸ h2 _ (by simp)⟩
        · exact pairs_all f bs ts (fun r hr => h1 r (by simp [hr])) (fun r hr => h2 r (by simp [hr])) p hp
theorem mem_flatL {α β : Type} {f : α → List β} {y : β} : ∀ {l : List α}, y ∈ flatL f l → ∃ x ∈ l, y ∈ f x
  | x :: r, h => by
    rcases List.mem_append.1 h with h | h
    · exact ⟨x, by simp, h⟩
    · obtain ⟨z, hz, hy⟩ := mem_flatL h
      exact ⟨z, by simp [hz], hy⟩
theorem flatL_le {α β : Type} {f : α → List β} (h : ∀ x, (f x).length ≤ 1) : ∀ l : List α, (flatL f l).length ≤ l.length
  | [] => by simp [flatL]
  | x :: r => by have := flatL_le h r; have := h x; simp [flatL]; omega
theorem u32z : U32 0 := ⟨by decide, by decide⟩
theorem recR_some {ps : List KV} {e l : Int} {ds : List Diff} (hR : recR ps e l = .ok ds) : ∃ b a, rbR ps e = some b ∧ rbR ps l = some a ∧ ds = reconcile b a := by
  unfold recR at hR
  split at hR
  · cases hR
  · split at hR
    · cases hR
    · split at hR
      · cases hR
      · split at hR
        · cases hR
        · split at hR
          · cases hR
          · split at hR
            · cases hR
            · rename_i b hb
              split at hR
              · cases hR
              · rename_i a ha
                injection hR with hR
                exact ⟨b, a, hb, ha, hR.symm⟩
theorem recR_len {ps : List KV} {e l : Int} {ds : List Diff} (hk : PsOk ps) (hp : ps.length ≤ 4000000) (he : U32 e) (hl : U32 l) (hR : recR ps e l = .ok ds) : ds.length ≤ 200000000 := by
  obtain ⟨b, t, h1, h2, rfl⟩ := recR_some hR
  have k1 := rbR_len hk hp he h1
  have k2 := rbR_len hk hp hl h2
  have k3 := flatL_le (f := diffOf) (fun x => diffOf_len x) (pairsOf b t)
  have k4 := pairs_le (b.length + t.length) b t
  unfold reconcile
  unfold pairsOf at k3 ⊢
  omega
theorem recR_ok {ps : List KV} {e l : Int} {ds : List Diff} (hp : PsOk ps) (hR : recR ps e l = .ok ds) : ∀ d ∈ ds, d.Ok := by
  obtain ⟨b, t, h1, h2, rfl⟩ := recR_some hR
  intro d hd
  obtain ⟨p, hp1, hp2⟩ := mem_flatL hd
  obtain ⟨k1, k2⟩ := pairs_all (P := Row.Ok) _ b t (rbR_ok hp h1) (rbR_ok hp h2) p hp1
  obtain ⟨x, y⟩ := p
  cases x with
  | none =>
    cases y with
    | none => simp [diffOf] at hp2
    | some y =>
      obtain rfl := List.mem_singleton.1 hp2
      have := k2 y rfl
      exact ⟨u8c 78 (by decide), this.sample, this.analyte, u32z, this.version⟩
  | some x =>
    have h3 := k1 x rfl
    cases y with
    | none =>
      obtain rfl := List.mem_singleton.1 hp2
      exact ⟨u8c 87 (by decide), h3.sample, h3.analyte, h3.version, u32z⟩
    | some y =>
      have h4 := k2 y rfl
      have hp2 : d ∈ (if y.eqB x then [] else [(⟨67, y.sample, y.analyte, x.version, y.version⟩ : Diff)]) := hp2
      split at hp2
      · cases hp2
      · obtain rfl := List.mem_singleton.1 hp2
        exact ⟨u8c 67 (by decide), h4.sample, h4.analyte, h3.version, h4.version⟩

end Go.Proofs.Qxb6500666aGreatDoor
