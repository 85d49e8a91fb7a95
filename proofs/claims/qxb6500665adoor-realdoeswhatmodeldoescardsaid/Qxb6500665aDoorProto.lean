/- The protocol layer's reads. -/
import Derived.Test.Qxb6500665aDoorApplyWalk
import Derived.Test.Qxb6500665aDoorMix2
import Derived.Test.Qxb6500665aDoorDecVer
import Derived.Test.Qxb6500665aDoorAnaWalk
namespace Go.Proofs.Qxb6500665aDoor
open Go.RowKit

/-- The handle at block P over the store at S. -/
structure PAt (w : World) (P S : Nat) (A : Nat → Prop) (ps : List KV) (full : Bool) : Prop where
  proto : w.heap[P]? = some (.cells #[.pointer (some ⟨S, 0, none⟩)] 124 (0, 0))
  store : StoreAt w S A ps full

theorem PAt.below {w w' : World} {P S : Nat} {A : Nat → Prop} {ps : List KV} {full : Bool} (h : PAt w P S A ps full) (hb : Below w.heap.size w w') : PAt w' P S A ps full :=
  ⟨(hb.block P (cell_one h.proto).2.2).trans h.proto, h.store.below hb⟩

attribute [local go_sem] ext_const Ext.cell Ext.frozen Ext.rng Ext.whole

theorem OwnR.bytes {w : World} {base : Nat} {v : Value} {bs : List Int} (h : OwnR w base 5 1 byteCs v bs) (hl : bs.length ≤ 1000000) : BytesAt w (base ≤ ·) v bs := h.rows byteCs_size (by decide) (by omega)

theorem keyB_len (t i : Int) : (keyB t i).length = 5 := by simp [keyB, d256_len]

set_option maxRecDepth 100000 in
set_option maxHeartbeats 2000000 in
theorem has_calls (w : World) (P S : Nat) (A : Nat → Prop) (ps : List KV) (full : Bool) (tag id : Int) (h : PAt w P S A ps full) (h1 : 0 ≤ tag ∧ tag ≤ 255) (h2 : U32 id) :
    Calls Tryd.prog 47 #[.pointer (some ⟨P, 0, none⟩), .int .u8 tag, .int .u32 id] w fun e w' => e = .returned (.bool (getB ps (keyB tag id)).isSome) ∧ Below w.heap.size w w' := by
  obtain ⟨p0, pf, hPl⟩ := cell_one h.proto
  obtain ⟨O, hO⟩ : ∃ O, O = getB ps (keyB tag id) := ⟨_, rfl⟩
  have HO := hide hO
  rw [← hO]
  clear hO
  go_enter Tryd.func47, Tryd.ntmps47
  go_upto_region 1 with fail
  refine wp_region_mix2 w.heap.size [0, 1, 2, 3, 4, 5, 8, 9, 10, 11, 12] [0, 1, 2, 3, 4, 5] 7 (by kernel_rfl) rfl (by decide) (by kernel_rfl) (fun d _ _ _ _ h => by cases d <;> exact h) ?_
  simp only [opersAt, List.getElem?_toArray, List.getElem?_cons_zero, List.getElem?_cons_succ]
  repeat (go_big_quiet_step (fail))
  refine wpQuiet_nil ?_
  refine mixR_one (k := 6) (by kernel_rfl) rfl ?_
  go_wp2_with (go_at_call 49; refine (key_calls w.drew tag id h1 h2).mono ?_; rintro e w1 ⟨kv, rfl, hown, hb1⟩)
  have hbw1 : Below w.heap.size w w1 := ((Below.refl _ _).drew).trans hb1
  refine ⟨Or.inr ⟨⟨_, hbw1⟩, rfl⟩, ?_⟩
  refine mixR_one (k := 7) (by kernel_rfl) rfl ?_
  have HK := hide (hown.bytes (by rw [keyB_len]; omega))
  have HS := hide ((h.below hbw1).store)
  clear hown
  go_wp2_with (go_at_call 62; refine (get_calls w1 S A _ ps full kv _ HS.out HK.out).mono ?_; rintro e w2 ⟨hgot, hb2⟩; rw [← HO.out] at hgot; obtain ⟨rv, rb, hrv, hrb⟩ : ∃ rv rb, e = .returned (.tuple #[rv, .bool rb]) ∧ rb = O.isSome := (by cases O with | none => exact ⟨_, _, hgot, rfl⟩ | some x => (obtain ⟨v, hv, -⟩ := hgot; exact ⟨_, _, hv, rfl⟩)); subst hrv)
  have hbw2 : Below w.heap.size w w2 := hbw1.trans (hb2.mono hbw1.size)
  refine ⟨Or.inr ⟨⟨_, hbw2⟩, rfl⟩, ?_⟩
  refine mixR_reads [8, 9, 10, 11, 12] (fuel := 0) rfl (by decide) (by kernel_rfl) (fun d _ _ _ _ h => by cases d <;> exact h) ⟨⟨_, hbw2⟩, rfl⟩ ?_
  simp only [opersAt, List.getElem?_toArray, List.getElem?_cons_zero, List.getElem?_cons_succ]
  repeat (go_big_quiet_step (fail))
  refine wpQuiet_nil ?_
  refine mixR_nil (by kernel_rfl) ?_
  go_wp2
  go_ret
  exact ⟨by rw [← hrb]; rfl, hbw2⟩

end Go.Proofs.Qxb6500665aDoor
