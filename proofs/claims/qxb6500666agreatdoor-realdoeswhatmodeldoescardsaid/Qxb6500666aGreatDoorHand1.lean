/- The handlers that only turn the layers beneath, walked. -/
import Derived.Test.Qxb6500666aGreatDoorDraft
namespace Go.Proofs.Qxb6500666aGreatDoor
open Go.RowKit

/-- Behind a handler: the draft's layers, and all else as before. -/
structure HPost (w w' : World) (D : Nat) (ok : Nat → Prop) (r : Req) (lv : Value) (s : Stat) (wv : Value) (iss : Int) (e : Ending) (L' : Low) (c : Int) : Prop where
  ret : e = .returned (errV c)
  low : ∃ x', DraftAt w' D r lv s x' wv iss ∧ LowAt w' ok x' L'
  kept : Kept w w' D

theorem DraftAt.below {w w' : World} {D : Nat} {r : Req} {lv : Value} {s : Stat} {x : LV} {wv : Value} {iss : Int} (h : DraftAt w D r lv s x wv iss) (hb : Below w.heap.size w w') : DraftAt w' D r lv s x wv iss := (hb.block _ h.lt).trans h

/-- settle at the end of a handler. -/
theorem HPost.ofPr {w V w' : World} {D : Nat} {ok : Nat → Prop} {r : Req} {lv : Value} {s : Stat} {x : LV} {wv : Value} {iss : Int} {L : Low} {R : Pr × Int} {y0 y1 y2 y3 : Value} (hlow : LowAt w ok x L) (hokD : ∀ b, ok b → b ≠ D) (hb : Below w.heap.size w V) (hD : D < w.heap.size) (hpr : PrAt V ok y0 y1 y2 y3 R.1) (hR : R.2 ≠ 0 → R.1 = L.pr)
    (hd : DraftAt w' D r lv s (if R.2 = 0 then { x with p0 := y0, p1 := y1, p2 := y2, p3 := y3 } else x) wv iss) (ho : ∀ b, b < V.heap.size → b ≠ D → w'.heap[b]? = V.heap[b]?) (hbl : Below D V w') : HPost w w' D ok r lv s wv iss (.returned (errV R.2)) { L with pr := R.1 } R.2 := by
  have h1 := hb.size
  refine ⟨rfl, ⟨_, hd, ?_⟩, ⟨(hb.mono (by omega)).trans hbl, fun b hb' => (ho b (by have := hb'.1; omega) hb'.2).trans (hb.block b hb'.1)⟩⟩
  have hl2 : LowAt w' ok x L := hlow.lt.mono (fun b hb' => (ho b (by have := hb'.2; omega) (hokD b hb'.1)).trans (hb.block b hb'.2)) (fun _ hb' => hb'.1)
  have hp2 : PrAt w' ok y0 y1 y2 y3 R.1 := hpr.lt.mono (fun b hb' => ho b hb'.2 (hokD b hb'.1)) (fun _ hb' => hb'.1)
  by_cases h0 : R.2 = 0
  · rw [if_pos h0]
    exact ⟨hp2, hl2.kit, hl2.sm⟩
  · rw [if_neg h0]
    exact ⟨hR h0 ▸ hl2.pr, hl2.kit, hl2.sm⟩
theorem HPost.ofKt {w V w' : World} {D : Nat} {ok : Nat → Prop} {r : Req} {lv : Value} {s : Stat} {x : LV} {wv : Value} {iss : Int} {L : Low} {R : List Kit × Int} {y0 : Value} (hlow : LowAt w ok x L) (hokD : ∀ b, ok b → b ≠ D) (hb : Below w.heap.size w V) (hD : D < w.heap.size) (hpr : RArr V ok 2 kitCs y0 R.1) (hR : R.2 ≠ 0 → R.1 = L.kit)
    (hd : DraftAt w' D r lv s (if R.2 = 0 then { x with k := y0 } else x) wv iss) (ho : ∀ b, b < V.heap.size → b ≠ D → w'.heap[b]? = V.heap[b]?) (hbl : Below D V w') : HPost w w' D ok r lv s wv iss (.returned (errV R.2)) { L with kit := R.1 } R.2 := by
  have h1 := hb.size
  refine ⟨rfl, ⟨_, hd, ?_⟩, ⟨(hb.mono (by omega)).trans hbl, fun b hb' => (ho b (by have := hb'.1; omega) hb'.2).trans (hb.block b hb'.1)⟩⟩
  have hl2 : LowAt w' ok x L := hlow.lt.mono (fun b hb' => (ho b (by have := hb'.2; omega) (hokD b hb'.1)).trans (hb.block b hb'.2)) (fun _ hb' => hb'.1)
  have hp2 : RArr w' ok 2 kitCs y0 R.1 := hpr.lt.mono (fun b hb' => ho b hb'.2 (hokD b hb'.1)) (fun _ hb' => hb'.1)
  by_cases h0 : R.2 = 0
  · rw [if_pos h0]
    exact ⟨hl2.pr, hp2, hl2.sm⟩
  · rw [if_neg h0]
    exact ⟨hl2.pr, hR h0 ▸ hl2.kit, hl2.sm⟩
theorem HPost.ofSm {w V w' : World} {D : Nat} {ok : Nat → Prop} {r : Req} {lv : Value} {s : Stat} {x : LV} {wv : Value} {iss : Int} {L : Low} {R : Sm × Int} {y0 y1 y2 : Value} (hlow : LowAt w ok x L) (hokD : ∀ b, ok b → b ≠ D) (hb : Below w.heap.size w V) (hD : D < w.heap.size) (hpr : SmAt V ok y0 y1 y2 R.1) (hR : R.2 ≠ 0 → R.1 = L.sm)
    (hd : DraftAt w' D r lv s (if R.2 = 0 then { x with s1 := y0, s2 := y1, s3 := y2 } else x) wv iss) (ho : ∀ b, b < V.heap.size → b ≠ D → w'.heap[b]? = V.heap[b]?) (hbl : Below D V w') : HPost w w' D ok r lv s wv iss (.returned (errV R.2)) { L with sm := R.1 } R.2 := by
  have h1 := hb.size
  refine ⟨rfl, ⟨_, hd, ?_⟩, ⟨(hb.mono (by omega)).trans hbl, fun b hb' => (ho b (by have := hb'.1; omega) hb'.2).trans (hb.block b hb'.1)⟩⟩
  have hl2 : LowAt w' ok x L := hlow.lt.mono (fun b hb' => (ho b (by have := hb'.2; omega) (hokD b hb'.1)).trans (hb.block b hb'.2)) (fun _ hb' => hb'.1)
  have hp2 : SmAt w' ok y0 y1 y2 R.1 := hpr.lt.mono (fun b hb' => ho b hb'.2 (hokD b hb'.1)) (fun _ hb' => hb'.1)
  by_cases h0 : R.2 = 0
  · rw [if_pos h0]
    exact ⟨hl2.pr, hl2.kit, hp2⟩
  · rw [if_neg h0]
    exact ⟨hl2.pr, hl2.kit, hR h0 ▸ hl2.sm⟩

theorem HPost.after {w w0 w' : World} {D : Nat} {ok : Nat → Prop} {r : Req} {lv : Value} {s : Stat} {wv : Value} {iss : Int} {e : Ending} {L' : Low} {c : Int} (h : HPost w0 w' D ok r lv s wv iss e L' c) (hb : Below w.heap.size w w0) (hD : D ≤ w.heap.size) : HPost w w' D ok r lv s wv iss e L' c :=
  ⟨h.ret, h.low, (Kept.of_below hb hD).trans h.kept⟩
def shipK (L : Low) (id site : Int) : List Kit × Int := if L.pr.site.any (fun x => x == site) then shipP L.kit id site else (L.kit, 18)
theorem define_low (T : Pr) (id l0 l1 l2 : Int) : (defineP T id l0 l1 l2).2 ≠ 0 → (defineP T id l0 l1 l2).1 = T := by
  unfold defineP
  repeat' split
  all_goals simp
theorem site_low (T : Pr) (id : Int) : (addSiteP T id).2 ≠ 0 → (addSiteP T id).1 = T := by
  unfold addSiteP
  repeat' split
  all_goals simp
theorem enrol_low (T : Pr) (id s : Int) : (enrolP T id s).2 ≠ 0 → (enrolP T id s).1 = T := by
  unfold enrolP
  repeat' split
  all_goals simp
theorem build_low (T : List Kit) (id : Int) : (buildP T id).2 ≠ 0 → (buildP T id).1 = T := by
  unfold buildP
  repeat' split
  all_goals simp
theorem ship_low (T : List Kit) (id s : Int) : (shipP T id s).2 ≠ 0 → (shipP T id s).1 = T := by
  unfold shipP
  repeat' split
  all_goals simp
theorem exc_low (T : Sm) (id : Int) : (excursion T id).2 ≠ 0 → (excursion T id).1 = T := by
  unfold excursion
  repeat' split
  all_goals simp
theorem coll_low (T : Sm) (id m : Int) : (collection T id m).2 ≠ 0 → (collection T id m).1 = T := by
  unfold collection
  repeat' split
  all_goals simp
theorem enter_low (T : Sm) (a b c d : Int) : (enterR T a b c d).2 ≠ 0 → (enterR T a b c d).1 = T := by
  unfold enterR
  repeat' split
  all_goals simp
theorem corr_low (T : Sm) (a b c : Int) : (correctR T a b c).2 ≠ 0 → (correctR T a b c).1 = T := by
  unfold correctR
  repeat' split
  all_goals simp
theorem wd_low (T : Sm) (a b : Int) : (withdrawR T a b).2 ≠ 0 → (withdrawR T a b).1 = T := by
  unfold withdrawR
  repeat' split
  all_goals simp
theorem raise_low (T : Sm) (a b : Int) : (raiseQ T a b).2 ≠ 0 → (raiseQ T a b).1 = T := by
  unfold raiseQ
  repeat' split
  all_goals simp
theorem move_low (T : Sm) (a b c : Int) : (moveQ T a b c).2 ≠ 0 → (moveQ T a b c).1 = T := by
  unfold moveQ
  repeat' split
  all_goals simp
theorem acc_low (T : Sm) (x : Smp) : (accession T x).2 ≠ 0 → (accession T x).1 = T := by
  unfold accession
  repeat' split
  all_goals simp
theorem amend_low (T : Pr) (m : Int) (v : List Int) : (amendP T m v).2 ≠ 0 → (amendP T m v).1 = T := by
  unfold amendP
  repeat' split
  all_goals simp

end Go.Proofs.Qxb6500666aGreatDoor
