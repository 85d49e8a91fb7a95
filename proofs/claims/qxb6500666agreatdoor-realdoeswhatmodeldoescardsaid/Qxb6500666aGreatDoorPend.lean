/- pending, walked. -/
import Derived.Test.Qxb6500666aGreatDoorRel
import Derived.Test.Qxb6500666aGreatDoorDifferWalk
namespace Go.Proofs.Qxb6500666aGreatDoor
open Go.RowKit

noncomputable def pendR (ps : List KV) (L : Low) : Option (List Change) := match relR ps with
  | none => none
  | some b => match eligR L with
    | none => none
    | some a => some (differ b a)
theorem eligGo_len {L : Low} : ∀ {rs : List Res} {acc out : List Row}, eligGo L rs acc = some out → out.length ≤ acc.length + rs.length
  | [], acc, out, h => by injection h with h; subst h; simp
  | r :: rs, acc, out, h => by
    simp only [eligGo] at h
    split at h
    · cases h
    · split at h
      · have := eligGo_len h; simp; omega
      · split at h
        · have := eligGo_len h; simp at this ⊢; omega
        · cases h
theorem sortFrom_len {α : Type} (lt : α → α → Bool) : ∀ (c i : Nat) (xs : List α), (sortFrom lt c i xs).length = xs.length
  | 0, _, _ => rfl
  | c + 1, i, xs => by rw [sortFrom_step, sortFrom_len lt c, sink_len]
theorem sortL_len {α : Type} (lt : α → α → Bool) (xs : List α) : (sortL lt xs).length = xs.length := sortFrom_len lt _ _ _
theorem eligR_len {L : Low} {out : List Row} (h : eligR L = some out) : out.length ≤ L.sm.rs.length := by
  unfold eligR at h
  cases hg : eligGo L L.sm.rs [] with
  | none => rw [hg] at h; cases h
  | some o =>
    rw [hg] at h
    injection h with h
    subst h
    have := eligGo_len hg
    simpa [sortL_len] using this
theorem relR_len {ps : List KV} {out : List Row} (h : relR ps = some out) : out.length ≤ ps.length + 1 := by
  obtain ⟨a, ha, hl⟩ := relL_len h
  injection ha with ha
  subst ha
  have := scanB_len ps (key0B 114) (key0B 115) (ps.length + 1) none
  simp at hl
  omega

set_option maxRecDepth 100000 in
set_option maxHeartbeats 2000000 in
theorem pending_calls (w : World) (Y S LB LC o : Nat) (A ok : Nat → Prop) (ps : List KV) (full : Bool) (x : LV) (L : Low) (hY : SysAt w Y S LB) (hS : StoreAt w S A ps full) (hps : PsOk ps) (hpl : ps.length ≤ 99999998) (hL : LBlk w LC o x) (hlow : LowAt w ok x L) (hl : L.Small) (ht : L.Times) (hel : L.sm.rs.length ≤ 100000000) :
    Calls Tryz.prog 173 #[.pointer (some ⟨Y, 0, none⟩), .pointer (some ⟨LC, o, none⟩)] w fun e w' => OwnRes w w' 111 14 changeCs e 28 (pendR ps L) := by
  obtain ⟨R, hR⟩ : ∃ R, R = pendR ps L := ⟨_, rfl⟩
  rw [← hR]
  have HR := hide hR
  have HL := hide hL
  have HLOW := hide hlow
  have hLl := hL.lt
  have HREL := hide (released_calls w Y S LB A ps full hY hS hps (by omega))
  clear hR hL hlow
  cases h1 : relR ps with
  | none =>
    have HE : Hid (R = none) := HR.out.trans (by simp [pendR, h1])
    go_enter Tryz.func173, Tryz.ntmps173
    go_wp2_with (go_at_call 222; refine HREL.out.mono ?_; rintro e w1 hp; rw [h1] at hp; obtain ⟨rfl, hb1⟩ := hp; simp only [errV, show ¬ ((28 : Int) = 0) by decide, if_false])
    go_ret2
    exact own_none HE hb1 (by decide)
  | some bs =>
    have hbl := relR_len h1
    cases h2 : eligR L with
    | none =>
      have HE : Hid (R = none) := HR.out.trans (by simp [pendR, h1, h2])
      go_enter Tryz.func173, Tryz.ntmps173
      go_upto_region 4 with (go_at_call 222; refine HREL.out.mono ?_; rintro e w1 hp; rw [h1] at hp; obtain ⟨v, rfl, ho1, hb1⟩ := hp)
      have hz1 := hb1.size
      go_wp2_with (go_at_call 223; refine (eligible_calls _ LC o ok x L (HL.out.below hb1 hLl) (HLOW.out.below hb1) hl ht).mono ?_; rintro e w2 hp; rw [h2] at hp; obtain ⟨rfl, hb2⟩ := hp; simp only [errV, show ¬ ((28 : Int) = 0) by decide, if_false])
      go_ret2
      exact own_none HE (hb1.trans (hb2.mono hz1)) (by decide)
    | some es =>
      have hal := eligR_len h2
      have HE : Hid (R = some (differ bs es)) := HR.out.trans (by simp [pendR, h1, h2])
      go_enter Tryz.func173, Tryz.ntmps173
      go_upto_region 4 with (go_at_call 222; refine HREL.out.mono ?_; rintro e w1 hp; rw [h1] at hp; obtain ⟨v, rfl, ho1, hb1⟩ := hp)
      have hz1 := hb1.size
      have HO1 := hide ho1
      clear ho1
      go_upto_region 7 with (go_at_call 223; refine (eligible_calls _ LC o ok x L (HL.out.below hb1 hLl) (HLOW.out.below hb1) hl ht).mono ?_; rintro e w2 hp; rw [h2] at hp; obtain ⟨v2, rfl, ho2, hb2⟩ := hp)
      have hz2 := hb2.size
      have HB2 : Hid (RowsAt w2 (w.heap.size ≤ ·) v bs) := (RArr.below (HO1.out.rows rowCs_size (by decide) (by omega)) hb2)
      have HA2 : Hid (RowsAt w2 (w1.heap.size ≤ ·) v2 es) := ho2.rows rowCs_size (by decide) (by omega)
      clear HO1 ho2
      go_wp2_with (go_at_call 224; refine (differ_calls _ _ _ v v2 bs es HB2.out HA2.out (by omega) (by omega)).mono ?_; rintro e w3 ⟨v3, rfl, ho3, hb3⟩)
      go_ret2
      rw [HE.out]
      exact ⟨_, rfl, ho3.lower (by omega), hb1.trans ((hb2.mono hz1).trans (hb3.mono (by omega)))⟩

end Go.Proofs.Qxb6500666aGreatDoor
