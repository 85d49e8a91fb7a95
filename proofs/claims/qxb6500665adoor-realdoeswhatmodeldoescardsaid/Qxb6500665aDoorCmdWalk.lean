/- The commands: AddSite, Enrol, walked. -/
import Derived.Test.Qxb6500665aDoorVersWalk
import Derived.Test.Qxb6500665aDoorListWalk
import Derived.Test.Qxb6500665aDoorMix4
namespace Go.Proofs.Qxb6500665aDoor
open Go.RowKit Go.Proofs.Qxb6500665aDoor.Cal

/-- Behind a command: all but the store's block is as it was; the store holds ps. -/
structure Cmd (w w' : World) (S : Nat) (A : Nat → Prop) (ps : List KV) (full : Bool) : Prop where
  kept : Kept w w' S
  store : StoreAt w' S (Anew w A w') ps full

theorem Cmd.of_below {w w' : World} {P S : Nat} {A : Nat → Prop} {ps : List KV} {full : Bool} (h : PAt w P S A ps full) (hb : Below w.heap.size w w') : Cmd w w' S A ps full := by
  have hS := h.store.size
  refine ⟨Kept.of_below hb (by omega), ?_⟩
  have h1 := h.store.below hb
  obtain ⟨pv, h2, h3⟩ := h1.ex
  exact ⟨⟨pv, h2, h3.mono (Same.refl _ _) (fun b hb => Or.inl hb)⟩, fun h => h.elim h1.out (fun h => by omega), fun b hb => hb.elim (h1.lt b) (fun h => h.2)⟩

/-- Behind a commit that a call has made in a world that has grown. -/
theorem Cmd.of_commit {w w1 w2 : World} {S : Nat} {A : Nat → Prop} {ps ps' : List KV} {full : Bool} (hst : StoreAt w S A ps full) (hb : Below w.heap.size w w1) (hk : Kept w1 w2 S) (hs : StoreAt w2 S (Anew w1 A w2) ps' full) : Cmd w w2 S A ps' full := by
  have hS := hst.size
  have hsz := hb.size
  refine ⟨(Kept.of_below hb (by omega)).trans hk, ?_⟩
  obtain ⟨pv, h2, h3⟩ := hs.ex
  refine ⟨⟨pv, h2, h3.mono (Same.refl _ _) (fun b hb => hb.elim Or.inl (fun h => Or.inr ⟨by omega, h.2⟩))⟩, fun h => h.elim hst.out (fun h => by omega), fun b hb => hb.elim (fun h => ?_) (fun h => h.2)⟩
  exact hs.lt b (Or.inl h)

/-- A batch of one write, just built. -/
theorem writes_one {w : World} {base : Nat} {ka va : Option Addr} {kn kc vn vc : Nat} {kb vb : List Int} (hk : BytesAt w (base ≤ ·) (.slice ka kn kc) kb) (hv : BytesAt w (base ≤ ·) (.slice va vn vc) vb) (hb : base ≤ w.heap.size) :
    WritesAt (w.alloc (.cells #[.slice ka kn kc, .slice va vn vc, .bool false] 130)) (base ≤ ·) (.slice (some ⟨w.heap.size, 0, none⟩) 1 1) [(kb, vb)] := by
  refine ⟨[(((ka, kn, kc), (va, vn, vc)), (kb, vb))], ⟨_, 1, w.heap.size, 0, rfl, Nat.le_refl _, ⟨by unfold maxLen; omega, fun h => by cases h⟩, by simp, fun _ => ⟨rfl, hb⟩, fun i hi => ?_⟩, rfl, fun z hz => ?_⟩
  · have h0 : i = 0 := by simpa using hi
    subst h0
    rw [rng_alloc_at _ _ _ _ _ _ _ rfl]
    rfl
  · rw [List.mem_singleton.1 hz]
    have hbl : Below w.heap.size w (w.alloc (.cells #[.slice ka kn kc, .slice va vn vc, .bool false] 130)) := (Below.refl _ _).alloc (Nat.le_refl _) _
    exact ⟨hk.below hbl, hv.below hbl⟩

theorem OwnR.sform {w : World} {base : Nat} {v : Value} {bs : List Int} (h : OwnR w base 5 1 byteCs v bs) : ∃ a n c, v = .slice a n c := by
  obtain ⟨a, c, rfl⟩ := h.form; exact ⟨_, _, _, rfl⟩

def siteErr (ps : List KV) (full : Bool) (id : Int) : Int := if id = 0 then 2 else if (getB ps (keyB 115 id)).isSome then 9 else if full then 21 else 0

/-- Behind a command that may have been refused. -/
def cmdPs (k : Int) (ps : List KV) (ws : List KV) : List KV := if k = 0 then applyB ps ws else ps

attribute [local go_sem] ext_const Ext.cell Ext.frozen Ext.rng Ext.whole

set_option maxRecDepth 100000 in
set_option maxHeartbeats 2000000 in
theorem addSite_calls (w : World) (P S : Nat) (A : Nat → Prop) (ps : List KV) (full : Bool) (id : Int) (h : PAt w P S A ps full) (hid : U32 id) (hps : ps.length ≤ 900000) :
    Calls Tryd.prog 19 #[.pointer (some ⟨P, 0, none⟩), .int .u32 id] w fun e w' => e = .returned (errOr (siteErr ps full id)) ∧ Cmd w w' S A (cmdPs (siteErr ps full id) ps [(keyB 115 id, [])]) full := by
  have HP := hide h
  have hSl := h.store.size
  unfold siteErr
  by_cases h0 : id = 0
  · subst h0
    have HC := hide (Cmd.of_below h (Below.refl _ _))
    clear h
    go_enter Tryd.func19, Tryd.ntmps19
    go_wp2
    go_ret
    exact ⟨rfl, HC.out⟩
  · have hb0 : (id == 0) = false := by simp [h0]
    rw [if_neg h0]
    have HHAS := hide (has_calls w P S A ps full 115 id h (by decide) hid)
    clear h h0
    cases hg : (getB ps (keyB 115 id)).isSome with
    | true =>
      rw [hg] at HHAS
      go_enter Tryd.func19, Tryd.ntmps19
      go_wp2_with (go_at_call 47; refine HHAS.out.mono ?_; rintro e w1 ⟨rfl, hb1⟩)
      go_ret
      exact ⟨rfl, Cmd.of_below HP.out hb1⟩
    | false =>
      rw [hg] at HHAS
      cases full with
      | true =>
        go_enter Tryd.func19, Tryd.ntmps19
        go_upto_region 5 with (go_at_call 47; refine HHAS.out.mono ?_; rintro e w1 ⟨rfl, hb1⟩)
        go_wp2_with (first
          | (go_at_call 49; refine (key_calls _ 115 id (by decide) hid).mono ?_; rintro e w2 ⟨kv, rfl, hown, hb2⟩; have hbw2 : Below w.heap.size w w2 := hb1.trans (hb2.mono hb1.size); obtain ⟨ka, kn, kc, rfl⟩ := hown.sform; have hbw3 : Below w.heap.size w (w2.alloc (.cells #[.slice ka kn kc, .slice none 0 0, .bool false] 130)) := hbw2.alloc hbw2.size _; have HP3 := hide (HP.out.below hbw3))
          | (go_at_call 48; refine (commit_full _ P S A ps _ HP3.out).mono ?_; rintro e w4 ⟨rfl, rfl⟩))
        go_ret
        exact ⟨rfl, Cmd.of_below HP.out hbw3⟩
      | false =>
        go_enter Tryd.func19, Tryd.ntmps19
        go_upto_region 5 with (go_at_call 47; refine HHAS.out.mono ?_; rintro e w1 ⟨rfl, hb1⟩)
        go_wp2_with (first
          | (go_at_call 49; refine (key_calls _ 115 id (by decide) hid).mono ?_; rintro e w2 ⟨kv, rfl, hown, hb2⟩; have hbw2 : Below w.heap.size w w2 := hb1.trans (hb2.mono hb1.size); obtain ⟨ka, kn, kc, rfl⟩ := hown.sform; have hbw3 : Below w.heap.size w (w2.alloc (.cells #[.slice ka kn kc, .slice none 0 0, .bool false] 130)) := hbw2.alloc hbw2.size _; have HP3 := hide (HP.out.below hbw3); have HWR := hide (writes_one ((hown.lower hb1.size).bytes (by rw [keyB_len]; omega)) (BytesAt.nil _ _) hbw2.size))
          | (go_at_call 48; refine (commit_calls _ P S A _ ps _ _ HP3.out HWR.out (fun b hb => by have h9 : w.heap.size ≤ b := hb; omega) (by simp; omega)).mono ?_; rintro e w4 ⟨rfl, hk4, hs4⟩))
        go_ret
        exact ⟨rfl, Cmd.of_commit HP.out.store hbw3 hk4 hs4⟩

end Go.Proofs.Qxb6500665aDoor
