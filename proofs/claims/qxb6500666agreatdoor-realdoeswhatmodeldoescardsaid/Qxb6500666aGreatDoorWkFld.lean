/- The fields of a line of every kind: spoil, letter, expect, number, id, any, fail. -/
import Derived.Test.Qxb6500666aGreatDoorWkInt
import Derived.Test.Qxb6500666aGreatDoorFieldsWalk
import Derived.Test.Qxb6500666aGreatDoorReadWalk
namespace Go.Proofs.Qxb6500666aGreatDoor
open Go.RowKit

def spf (f t : Int) : Int := if (f == 0) then t else f
/-- Parts that can be handed out. -/
structure PsL (ps : List (List Int)) : Prop where
  len : ps.length ≤ 1000
  each : ∀ p ∈ ps, p.length ≤ 140737488355328
def Flt (f : Int) : Prop := 0 ≤ f ∧ f ≤ 8
theorem spf_flt {f t : Int} (h : Flt f) (k : Flt t) : Flt (spf f t) := by unfold spf; split; exact k; exact h

set_option maxRecDepth 100000 in
theorem spoil_any (w : World) (g b : Nat) (ps : List (List Int)) (k f t : Int) (h : FieldsAt w g b ps k f) :
    Calls Tryz.prog 155 #[.pointer (some ⟨g, 0, none⟩), .int .u8 t] w fun e w' => e = .returned (.tuple #[]) ∧ FieldsAt w' g b ps k (spf f t) ∧ Upd g w w' := by
  have HF := hide h
  obtain ⟨pv, vals, hg, hr, hvl, hv, hb, hbl⟩ := h
  obtain ⟨c0, c1, c2, cf, hgl⟩ := cell3 hg
  clear hr hvl hv
  cases t0 : (f == 0) with
  | true =>
    have HE : Hid (spf f t = t) := by show _ = _; unfold spf; rw [t0]; rfl
    rw [HE.out]
    go_enter Tryz.func155, Tryz.ntmps155
    go_wp2
    go_end0
    refine ⟨rfl, HF.out.upd (Upd.cell _ _ _) (fun pv hp => ?_), Upd.cell _ _ _⟩
    have := heap_set3 (j := 2) (v := .int .u8 t) hp
    simpa using this
  | false =>
    have HE : Hid (spf f t = f) := by show _ = _; unfold spf; rw [t0]; rfl
    rw [HE.out]
    go_enter Tryz.func155, Tryz.ntmps155
    go_wp2
    go_end0
    exact ⟨rfl, HF.out, Upd.refl _ _⟩

def ltrV (p : List Int) : Int := match p with | [x] => x | _ => 0
def ltrF (f : Int) (p : List Int) : Int := if (((p.length : Nat) : Int) != 1) then spf f 3 else f

set_option maxRecDepth 100000 in
set_option maxHeartbeats 1000000 in
theorem letter_any (w : World) (g b : Nat) (ps : List (List Int)) (k : Nat) (f : Int) (h : FieldsAt w g b ps k f) (hk : k < ps.length) (hp : PsL ps) :
    Calls Tryz.prog 105 #[.pointer (some ⟨g, 0, none⟩)] w fun e w' => e = .returned (.int .u8 (ltrV ps[k])) ∧ FieldsAt w' g b ps ((k + 1 : Nat) : Int) (ltrF f ps[k]) ∧ Upd g w w' := by
  have hpl := hp.each _ (List.getElem_mem hk)
  obtain ⟨R, hR⟩ : ∃ R, R = ltrV ps[k] := ⟨_, rfl⟩
  obtain ⟨F, hF⟩ : ∃ F, F = ltrF f ps[k] := ⟨_, rfl⟩
  rw [← hR, ← hF]
  have HR := hide hR
  have HFF := hide hF
  clear hR hF
  go_enter Tryz.func105, Tryz.ntmps105
  go_upto_region 2 with (go_at_call 156; refine (take_calls _ g b ps k f h hk hp.len hpl).mono ?_; rintro e w1 ⟨o, c, rfl, hB, hF, hU⟩)
  have HFD := hide hF
  have HU := hide hU
  have HB := hide hB
  clear hF hU hB h
  generalize ps[k] = p at *
  obtain ⟨n, hn⟩ : ∃ n, n = p.length := ⟨_, rfl⟩
  have HN := hide hn
  rw [← hn]
  clear hn
  cases t0 : ((n : Int) != 1) with
  | true =>
    have h1 : ¬ n = 1 := by intro e; rw [e] at t0; simp at t0
    have HE : Hid (R = 0) := HR.out.trans (by
      match p, HN with
      | [], _ => rfl
      | [x], HN => exact absurd HN.out h1
      | _ :: _ :: _, _ => rfl)
    have HE2 : Hid (F = spf f 3) := HFF.out.trans (by unfold ltrF; rw [← HN.out, t0]; rfl)
    go_wp2_with (go_at_call 155; refine (spoil_any _ g b ps _ f 3 HFD.out).mono ?_; rintro e w2 ⟨rfl, hF2, hU2⟩)
    go_ret
    rw [HE.out, HE2.out]
    exact ⟨rfl, hF2, HU.out.trans hU2⟩
  | false =>
    have h1 : n = 1 := by simp at t0; omega
    subst h1
    have HE2 : Hid (F = f) := HFF.out.trans (by unfold ltrF; rw [← HN.out]; rfl)
    obtain ⟨x, hx⟩ : ∃ x, p = [x] := by
      match p, HN with
      | [], HN => exact absurd HN.out (by decide)
      | [x], _ => exact ⟨x, rfl⟩
      | _ :: _ :: _, HN => exact absurd HN.out (by simp)
    subst hx
    obtain ⟨a1, cap1, b1, off1, hv, -, -, -, -, ha, hc⟩ := HB.out.parts 1 rfl
    injection hv with hv1 hv2 hv3
    have e1 := (ha (by decide)).1
    rw [← hv1] at e1
    injection e1 with e1
    injection e1 with e1 e2
    subst e1 e2
    have c0 := hc 0 (by simp)
    simp only [List.getElem_cons_zero, Nat.add_zero] at c0
    have HE : Hid (R = x) := HR.out
    clear ha hc hv1 hv2 hv3
    go_wp2
    go_ret
    rw [HE.out, HE2.out]
    exact ⟨rfl, HFD.out, HU.out⟩

set_option maxRecDepth 100000 in
set_option maxHeartbeats 1000000 in
theorem expect_any (w : World) (g b : Nat) (ps : List (List Int)) (k : Nat) (f x : Int) (h : FieldsAt w g b ps k f) (hk : k < ps.length) (hp : PsL ps) :
    Calls Tryz.prog 104 #[.pointer (some ⟨g, 0, none⟩), .int .u8 x] w fun e w' => e = .returned (.tuple #[]) ∧ FieldsAt w' g b ps ((k + 1 : Nat) : Int) (if (ltrV ps[k] != x) then spf (ltrF f ps[k]) 3 else ltrF f ps[k]) ∧ Upd g w w' := by
  cases t0 : (ltrV ps[k] != x) with
  | true =>
    go_enter Tryz.func104, Tryz.ntmps104
    go_wp2_with (first | (go_at_call 105; refine (letter_any _ g b ps k f h hk hp).mono ?_; rintro e w1 ⟨rfl, hF, hU⟩) | (go_at_call 155; refine (spoil_any _ g b ps _ _ 3 hF).mono ?_; rintro e w2 ⟨rfl, hF2, hU2⟩))
    go_end0
    exact ⟨rfl, hF2, hU.trans hU2⟩
  | false =>
    go_enter Tryz.func104, Tryz.ntmps104
    go_wp2_with (go_at_call 105; refine (letter_any _ g b ps k f h hk hp).mono ?_; rintro e w1 ⟨rfl, hF, hU⟩)
    go_end0
    exact ⟨rfl, hF, hU⟩

theorem bytesAt_cells {w : World} {ok : Nat → Prop} {b o c : Nat} {p : List Int} (h : BytesAt w ok (.slice (some ⟨b, o, none⟩) p.length c) p) : ∀ t (ht : t < p.length), w.cell? ⟨b, o + t, none⟩ = some (.int .u8 p[t]) := by
  obtain ⟨a1, cap1, b1, off1, hv, -, -, -, -, ha, hc⟩ := h.parts _ rfl
  intro t ht
  injection hv with hv1 hv2 hv3
  have e1 := (ha (by omega)).1
  rw [← hv1] at e1
  injection e1 with e1
  injection e1 with e1 e2
  subst e1 e2
  exact hc t ht
theorem parseInt_any' (w : World) (b off n cap : Nat) (p : List Int) (hn : p.length = n) (hnl : n ≤ 140737488355328) (hc : ∀ t (h : t < p.length), w.cell? ⟨b, off + t, none⟩ = some (.int .u8 p[t])) :
    Calls Tryz.prog 157 #[.slice (some ⟨b, off, none⟩) n cap] w fun e w' => ∃ x er, e = .returned (.tuple #[.int .i64 x, er]) ∧ I64 x ∧ (er = .nilIface ∨ ∃ t u, er = .iface t u) ∧ w = w' := by
  refine (parseInt_any w b off n cap p hn hnl hc).mono ?_
  rintro e w' ⟨⟨x, hx, h | ⟨t, v, h⟩⟩, rfl⟩
  · exact ⟨x, _, h, hx, Or.inl rfl, rfl⟩
  · exact ⟨x, _, h, hx, Or.inr ⟨_, _, rfl⟩, rfl⟩

/-- Some number, with some fault. -/
def NumAns (w w' : World) (g b : Nat) (ps : List (List Int)) (k : Nat) (f lo hi : Int) (e : Ending) : Prop := ∃ x f', e = .returned (.int .i64 x) ∧ (lo ≤ x ∧ x ≤ hi) ∧ (f' = f ∨ f' = spf f 4) ∧ FieldsAt w' g b ps ((k + 1 : Nat) : Int) f' ∧ Upd g w w'

set_option maxRecDepth 100000 in
set_option maxHeartbeats 1000000 in
theorem number_any (w : World) (g b : Nat) (ps : List (List Int)) (k : Nat) (f lo hi : Int) (h : FieldsAt w g b ps k f) (hk : k < ps.length) (hp : PsL ps) (hz : lo ≤ 0 ∧ 0 ≤ hi) :
    Calls Tryz.prog 109 #[.pointer (some ⟨g, 0, none⟩), .int .i64 lo, .int .i64 hi] w fun e w' => NumAns w w' g b ps k f lo hi e := by
  have hpl := hp.each _ (List.getElem_mem hk)
  go_enter Tryz.func109, Tryz.ntmps109
  go_upto_region 1 with fail
  go_cut [7, 8] (fun v er W => ∃ x : Int, v = .int .i64 x ∧ I64 x ∧ (er = .nilIface ∨ ∃ t u, er = .iface t u) ∧ Hid (FieldsAt W g b ps ((k + 1 : Nat) : Int) f) ∧ Hid (Upd g w W))
  case first =>
    go_wp2_with (first
      | (go_at_call 156; refine (take_calls _ g b ps k f h hk hp.len hpl).mono ?_; rintro e w1 ⟨o, c, rfl, hB, hF, hU⟩; have HBC := hide (bytesAt_cells hB); have HFD := hide hF; have HU := hide hU; clear hB hF hU)
      | (go_at_call 157; refine (parseInt_any' _ b o _ c ps[k] rfl hpl HBC.out).mono ?_; rintro e w2 ⟨x, er, rfl, hx, her, rfl⟩))
    go_meet
    case rel => exact ⟨x, rfl, hx, her, HFD, HU⟩
  case rest =>
    obtain ⟨x, rfl, hx, her, HF, HU⟩ := hcut
    have HSP : Hid (∀ W, FieldsAt W g b ps ((k + 1 : Nat) : Int) f → Calls Tryz.prog 155 #[.pointer (some ⟨g, 0, none⟩), .int .u8 4] W fun e w' => e = .returned (.tuple #[]) ∧ FieldsAt w' g b ps ((k + 1 : Nat) : Int) (spf f 4) ∧ Upd g W w') := fun W hW => spoil_any W g b ps _ f 4 hW
    clear h
    rcases her with rfl | ⟨tt, uu, rfl⟩
    · cases t1 : decide (x < lo) with
      | true =>
        have t1' := of_decide_eq_true t1
        go_wp2_with (go_at_call 155; refine (HSP.out _ HF.out).mono ?_; rintro e w2 ⟨rfl, hF2, hU2⟩)
        go_ret
        exact ⟨0, _, rfl, hz, Or.inr rfl, hF2, HU.out.trans hU2⟩
      | false =>
        have t1' := of_decide_eq_false t1
        cases t2 : decide (hi < x) with
        | true =>
          have t2' := of_decide_eq_true t2
          go_wp2_with (go_at_call 155; refine (HSP.out _ HF.out).mono ?_; rintro e w2 ⟨rfl, hF2, hU2⟩)
          go_ret
          exact ⟨0, _, rfl, hz, Or.inr rfl, hF2, HU.out.trans hU2⟩
        | false =>
          have t2' := of_decide_eq_false t2
          go_wp2
          go_ret
          exact ⟨x, f, rfl, ⟨by omega, by omega⟩, Or.inl rfl, HF.out, HU.out⟩
    · go_wp2_with (go_at_call 155; refine (HSP.out _ HF.out).mono ?_; rintro e w2 ⟨rfl, hF2, hU2⟩)
      go_ret
      exact ⟨0, _, rfl, hz, Or.inr rfl, hF2, HU.out.trans hU2⟩

def IdAns (w w' : World) (g b : Nat) (ps : List (List Int)) (k : Nat) (f : Int) (e : Ending) : Prop := ∃ x f', e = .returned (.int .u32 x) ∧ U32 x ∧ (f' = f ∨ f' = spf f 4) ∧ FieldsAt w' g b ps ((k + 1 : Nat) : Int) f' ∧ Upd g w w'
def AnyAns (w w' : World) (g b : Nat) (ps : List (List Int)) (k : Nat) (f : Int) (e : Ending) : Prop := ∃ x f', e = .returned (.int .i64 x) ∧ I64 x ∧ (f' = f ∨ f' = spf f 4) ∧ FieldsAt w' g b ps ((k + 1 : Nat) : Int) f' ∧ Upd g w w'

set_option maxRecDepth 100000 in
theorem id_any (w : World) (g b : Nat) (ps : List (List Int)) (k : Nat) (f : Int) (h : FieldsAt w g b ps k f) (hk : k < ps.length) (hp : PsL ps) :
    Calls Tryz.prog 106 #[.pointer (some ⟨g, 0, none⟩)] w fun e w' => IdAns w w' g b ps k f e := by
  go_enter Tryz.func106, Tryz.ntmps106
  go_wp2_with (go_at_call 109; refine (number_any _ g b ps k f 0 4294967295 h hk hp ⟨by decide, by decide⟩).mono ?_; rintro e w1 ⟨x, f', rfl, ⟨hx1, hx2⟩, hf, hF, hU⟩)
  go_ret
  exact ⟨x, f', rfl, ⟨hx1, hx2⟩, hf, hF, hU⟩

set_option maxRecDepth 100000 in
theorem any_any (w : World) (g b : Nat) (ps : List (List Int)) (k : Nat) (f : Int) (h : FieldsAt w g b ps k f) (hk : k < ps.length) (hp : PsL ps) :
    Calls Tryz.prog 107 #[.pointer (some ⟨g, 0, none⟩)] w fun e w' => AnyAns w w' g b ps k f e := by
  go_enter Tryz.func107, Tryz.ntmps107
  go_wp2_with (go_at_call 109; refine (number_any _ g b ps k f (-9223372036854775808) 9223372036854775807 h hk hp ⟨by decide, by decide⟩).mono ?_; rintro e w1 ⟨x, f', rfl, ⟨hx1, hx2⟩, hf, hF, hU⟩)
  go_ret
  exact ⟨x, f', rfl, ⟨hx1, hx2⟩, hf, hF, hU⟩

/-- An error that says where a text stopped. -/
def PErr (w : World) (E : Nat) : Prop := ∃ l f, w.heap[E]? = some (.cells #[.int .i64 l, .int .u8 f] 243 (0, 0)) ∧ (1 ≤ l ∧ l ≤ 9223372036854775807) ∧ (1 ≤ f ∧ f ≤ 8)

set_option maxRecDepth 100000 in
theorem fail_any (w : World) (R : Nat) (dv : Value) (pos line f : Int) (h : ReaderAt w R dv pos line) (hl : 1 ≤ line ∧ line ≤ 9223372036854775807) (hf : 1 ≤ f ∧ f ≤ 8) :
    Calls Tryz.prog 108 #[.pointer (some ⟨R, 0, none⟩), .int .u8 f] w fun e w' => ∃ E, e = .returned (.iface 241 (.pointer (some ⟨E, 0, none⟩))) ∧ w.heap.size ≤ E ∧ PErr w' E ∧ Below w.heap.size w w' := by
  obtain ⟨c0, c1, c2, cf, hgl⟩ := cell3 h
  go_enter Tryz.func108, Tryz.ntmps108
  go_wp2
  go_ret
  exact ⟨_, rfl, Nat.le_refl _, ⟨line, f, heap_alloc_at _ _, hl, hf⟩, (Below.refl _ _).alloc (Nat.le_refl _) _⟩

end Go.Proofs.Qxb6500666aGreatDoor
