/- The entries behind any script: how many they may be. Plain. -/
import Derived.Test.Qxb6500666aGreatDoorAudP
import Derived.Test.Qxb6500666aGreatDoorRcnP
import Derived.Test.Qxb6500666aGreatDoorAskB
namespace Go.Proofs.Qxb6500666aGreatDoor
open Go.RowKit
theorem ai_all {s : List Op} (hr : ∀ k (hk : k < s.length), s[k].req.Ok ∧ ∀ x ∈ s[k].req.list, U32 x) (hl : s.length ≤ 65536) : ∀ q, q ≤ s.length → ∃ es, AI (stAt s q).ps es ∧ es.length ≤ q
  | 0, _ => ⟨[], AI.start, Nat.le_refl _⟩
  | q + 1, hq => by
    obtain ⟨es, h1, h2⟩ := ai_all hr hl q (by omega)
    rw [stAt_succ (by omega)]
    by_cases ha : AccS (stAt s q) s[q]
    · obtain ⟨role, -, h3⟩ := h1.cmd (full := (stAt s q).full) (off := (stAt s q).off) (lar := (stAt s q).lar) (L := (stAt s q).low) (hr q (by omega)).1 (hr q (by omega)).2 (by omega) ha.2.1 ha.2.2
      rw [stepR_one ha.1]
      exact ⟨_, h3, by simp; omega⟩
    · rw [(stepR_not ha).1]
      exact ⟨es, h1, by omega⟩
/-- What the status answers: both counts are small. -/
theorem ask_small {rn kn : Nat → ByteArray} {w w' : World} {ps : List KV} {full : Bool} {off lar : Int} {L : Low} {x : Rsp} {es : List Ent} (h : AI ps es) (hx : RspP rn kn w w' ps full off lar L (askReq 22 0 0) x) : ∃ f e : Nat, x.st.transfers = f ∧ x.st.entries = e ∧ f ≤ es.length ∧ e ≤ es.length := by
  have h1 := hx.1 rfl 1 rfl
  have e : rdX rn kn w w' ps L (askReq 22 0 0) = rd22X ps := by unfold rdX; simp [askReq]
  rw [e] at h1
  unfold rd22X at h1
  obtain ⟨s, hs, t1, t2, t3, -⟩ := h.st
  rw [hs] at h1
  have h1 : x = { rsp0 with st := s } := h1
  rw [h1]
  exact ⟨s.transfers.toNat, es.length, by show s.transfers = _; omega, t1, by omega, Nat.le_refl _⟩
end Go.Proofs.Qxb6500666aGreatDoor
