/- DamagedStoreIsSurvived: plain. What the steps keep, whatever the records hold. -/
import Derived.Test.Qxb6500666aGreatDoorRefP
import Derived.Test.Qxb6500666aGreatDoorAsk
namespace Go.Proofs.Qxb6500666aGreatDoor
open Go.RowKit

theorem key1B_ne (t a : Int) : key1B t a ≠ [] := fun e => by have := key1B_head t a; rw [e] at this; cases this
theorem key2B_ne (t a b : Int) : key2B t a b ≠ [] := fun e => by have := key2B_head t a b; rw [e] at this; cases this
theorem key0B_ne (t : Int) : key0B t ≠ [] := fun e => by have := key0B_head t; rw [e] at this; cases this
/-- Every write names a key. -/
def WsK (ws : List WR) : Prop := ∀ x ∈ ws, x.1.1 ≠ []
theorem wsK_nil : WsK [] := fun _ h => by cases h
theorem wsK_cons {x : WR} {ws : List WR} (h : x.1.1 ≠ []) (k : WsK ws) : WsK (x :: ws) := fun y hy => by
  rcases List.mem_cons.1 hy with rfl | hy
  · exact h
  · exact k y hy
theorem wsK_app {a b : List WR} (h : WsK a) (k : WsK b) : WsK (a ++ b) := fun y hy => by
  rcases List.mem_append.1 hy with hy | hy
  · exact h y hy
  · exact k y hy
theorem incW_k (seq : Int) : ∀ (i : Nat) (cs : List Change), WsK (incW seq i cs)
  | _, [] => wsK_nil
  | i, c :: cs => wsK_cons (key2B_ne _ _ _) (wsK_cons (by
      unfold ptrW
      split
      · exact key2B_ne _ _ _
      · exact key2B_ne _ _ _) (incW_k seq (i + 1) cs))
theorem incR_k (ps : List KV) (L : Low) (now : Int) (s : Stat) : WsK (incR ps L now s 0).2.2.2 := by
  unfold incR
  split
  · exact wsK_nil
  · split
    · exact wsK_cons (key1B_ne _ _) (incW_k _ _ _)
    · exact wsK_nil
theorem cumR_k (ps : List KV) (L : Low) (now : Int) (s : Stat) : WsK (cumR ps L now s 0).2.2.2 := by
  unfold cumR
  split
  · exact wsK_nil
  · split
    · exact wsK_nil
    · split
      · exact wsK_nil
      · split
        · exact wsK_cons (key1B_ne _ _) wsK_nil
        · exact wsK_nil
theorem addUser_k (ps : List KV) (r : Req) : WsK (addUserR ps r).2 := by
  unfold addUserR
  repeat' split
  all_goals first | exact wsK_nil | exact wsK_cons (key1B_ne _ _) wsK_nil
theorem revoke_k (ps : List KV) (r : Req) : WsK (revokeR ps r).2 := by
  unfold revokeR
  repeat' split
  all_goals first | exact wsK_nil | exact wsK_cons (key1B_ne _ _) wsK_nil
def WsKR (R : HR) : Prop := WsK R.ws
theorem ite_wk {c : Prop} [Decidable c] {a b : HR} (h1 : WsKR a) (h2 : WsKR b) : WsKR (if c then a else b) := by
  split
  · exact h1
  · exact h2
theorem handR_k (ps : List KV) (L : Low) (s : Stat) (r : Req) : WsK (handR ps L s r).ws := by
  show WsKR (handR ps L s r)
  unfold handR
  have z : ∀ (c : Int) (l : Low), WsKR ⟨c, s, 0, [], l⟩ := fun _ _ => wsK_nil
  refine ite_wk (addUser_k ps r) (ite_wk (revoke_k ps r) ?_)
  iterate 16 refine ite_wk (z _ _) ?_
  exact ite_wk (incR_k _ _ _ _) (cumR_k _ _ _ _)
theorem wsAll_k {R : HR} {r : Req} {role : Int} (h : WsK R.ws) : WsK (wsAll R r role) :=
  wsK_app (wsK_app h (wsK_cons (key1B_ne _ _) wsK_nil)) (wsK_cons (key0B_ne _) wsK_nil)
theorem sizeW_mem : ∀ {ws : List WR} {x : WR}, x ∈ ws → x.1.2.length ≤ sizeW ws
  | y :: r, x, h => by
    unfold sizeW
    rcases List.mem_cons.1 h with rfl | h
    · omega
    · have := sizeW_mem h
      omega
/-- Every record has a key, and is short. -/
def DV (ps : List KV) : Prop := ∀ p ∈ ps, p.1 ≠ [] ∧ p.2.length ≤ 3000
theorem DV.put {ps : List KV} {x : WR} (h : DV ps) (hx : x.1.1 ≠ [] ∧ x.1.2.length ≤ 3000) : DV (putW ps x) := by
  have hr := rmB_sub (ps := ps) (k := x.1.1)
  unfold putW
  intro p hp
  rcases List.mem_append.1 hp with hp | hp
  · exact h p (hr.2 p hp)
  · split at hp
    · cases hp
    · rw [List.mem_singleton.1 hp]
      exact hx
theorem DV.apply : ∀ {ws : List WR} {ps : List KV}, DV ps → (∀ x ∈ ws, x.1.1 ≠ [] ∧ x.1.2.length ≤ 3000) → DV (applyW ps ws)
  | [], ps, h, _ => h
  | x :: r, ps, h, hw => DV.apply (ws := r) (h.put (hw x (by simp))) (fun y hy => hw y (by simp [hy]))
theorem DV.cmd {ps : List KV} {full : Bool} {off lar : Int} {L : Low} {r : Req} {role : Int} (h : DV ps) : DV (cmdR ps full off lar L r role).ps := by
  unfold cmdR
  split
  · exact h
  · rename_i st hst
    split
    · exact h
    · split
      · exact h
      · split
        · exact h
        · unfold cmdH
          split
          · have hz := wsAll_size (role := role) (handR_size ps L st r) (show r.list.length ≤ 12 by omega)
            have hk := wsAll_k (r := r) (role := role) (handR_k ps L st r)
            unfold endR
            split
            · exact h
            · exact h.apply fun x hx => ⟨hk x hx, Nat.le_trans (sizeW_mem hx) hz.1⟩
          · exact h
theorem DV.step {t : ST} {o : Op} (h : DV t.ps) : DV (stepR t o).ps := by
  unfold stepR
  split
  · unfold exR
    split
    · exact h
    · split
      · exact h
      · split
        · exact h
        · exact h.cmd
  · split <;> exact h
theorem dv_all (s : List Op) : ∀ q, q ≤ s.length → DV (stAt s q).ps
  | 0, _ => fun _ h => by cases h
  | q + 1, hq => by
    rw [stAt_succ (by omega)]
    exact (dv_all s q (by omega)).step

/-- What a step keeps: n bounds the records, m the offers. -/
structure DI (n m : Nat) (s : ST) : Prop where
  pk : PsOk s.ps
  plen : s.ps.length ≤ 43 * n
  off : 0 ≤ s.off ∧ s.off ≤ m
  low : LI n s.low
theorem DI.po {n m : Nat} {s : ST} (h : DI n m s) (hn : n ≤ 66000) : PO s.ps s.low :=
  ⟨h.pk, by have := h.plen; omega, ⟨⟨by have := h.low.pr.a; omega, by have := h.low.pr.v; omega, by have := h.low.pr.s; omega, by have := h.low.pr.u; omega⟩, by have := h.low.kit; omega, ⟨by have := h.low.sm.a; omega, by have := h.low.sm.b; omega, by have := h.low.sm.c; omega⟩⟩, ⟨fun x hx => (h.low.sm.ok x hx).2, fun x hx => (h.low.sm.rk x hx).2, by have := h.low.pr.v; omega⟩, fun _ hc => pendR_ok h.pk h.low (by omega) hc, fun _ hc => relR_ok h.pk hc⟩
theorem DI.up {n m : Nat} {s : ST} (h : DI n m s) : DI (n + 1) (m + 1) s := ⟨h.pk, by have := h.plen; omega, ⟨h.off.1, by have := h.off.2; omega⟩, h.low.up⟩
theorem DI.mono {n m n' m' : Nat} {s : ST} (h : DI n m s) (hm : m ≤ m') (hn : n = n') : DI n' m' s := ⟨h.pk, by have := h.plen; omega, ⟨h.off.1, by have := h.off.2; omega⟩, hn ▸ h.low⟩
theorem DI.cmd {n m : Nat} {s : ST} (h : DI n m s) {r : Req} (hr : r.Ok) (role : Int) : DI (n + 1) (m + 1) ⟨(cmdR s.ps s.full s.off s.lar s.low r role).ps, s.full, (cmdR s.ps s.full s.off s.lar s.low r role).off, (cmdR s.ps s.full s.off s.lar s.low r role).lar, (cmdR s.ps s.full s.off s.lar s.low r role).low⟩ := by
  have hu := h.up
  have hx : DI (n + 1) (m + 1) ⟨s.ps, s.full, s.off, s.lar, s.low⟩ := hu
  unfold cmdR
  split
  · exact hx
  · rename_i st hst
    split
    · exact hx
    · split
      · exact hx
      · split
        · exact hx
        · rename_i hl
          unfold cmdH
          split
          · have hz := wsAll_size (role := role) (handR_size s.ps s.low st r) (show r.list.length ≤ 12 by omega)
            have hw := wsAll_ok (r := r) (role := role) (handR_ws s.ps s.low st r)
            have hi := handR_i (ps := s.ps) (s := st) h.low hr
            have ha := applyW_ok h.pk hw
            have ho : 0 ≤ s.off + 1 ∧ s.off + 1 ≤ ((m + 1 : Nat) : Int) := ⟨by have := h.off.1; omega, by have := h.off.2; omega⟩
            unfold endR
            split
            · exact ⟨h.pk, hu.plen, ho, h.low.up⟩
            · exact ⟨ha.1, by have := ha.2; have := h.plen; have := hz.2; show (applyW _ _).length ≤ _; omega, ho, hi⟩
          · exact hx
theorem DI.step {n m : Nat} {s : ST} (h : DI n m s) {o : Op} (hr : o.req.Ok) : DI (n + 1) (m + 1) (stepR s o) := by
  have hu := h.up
  unfold stepR
  split
  · unfold exR
    split
    · exact hu
    · split
      · exact hu
      · split
        · exact hu
        · exact h.cmd hr _
  · split
    · exact ⟨hu.pk, hu.plen, hu.off, hu.low⟩
    · exact hu
theorem Inv.di {n : Nat} {s : ST} (h : Inv n s) : DI n n s := ⟨h.pk, h.plen, h.off, h.low⟩
/-- A reading changes nothing. -/
theorem stepR_rd {t : ST} {o : Op} (hk : o.kind = 1) (hr : isRdg o.req.kind = true) : stepR t o = t := by
  obtain ⟨c, hc⟩ := exR_rdg (ps := t.ps) (full := t.full) (off := t.off) (lar := t.lar) (L := t.low) hr
  unfold stepR
  rw [if_pos hk, hc]

end Go.Proofs.Qxb6500666aGreatDoor
