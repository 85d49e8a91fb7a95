/- The fields of a line, exact: what is read without a fault is what stands there. -/
import Derived.Test.Qxb6500666aGreatDoorXInt
import Derived.Test.Qxb6500666aGreatDoorWkParse
namespace Go.Proofs.Qxb6500666aGreatDoor
open Go.RowKit

theorem bytesAt_cap {w : World} {ok : Nat → Prop} {a : Option Addr} {n c : Nat} {bs : List Int} (h : BytesAt w ok (.slice a n c) bs) : n ≤ c ∧ c ≤ maxLen ∧ bs.length = n := by
  obtain ⟨a', cap, b, off, e, h1, h2, h3, h4, h5⟩ := h
  injection e with e1 e2 e3
  subst e3
  exact ⟨by omega, h2.1, e2.symm⟩
/-- Some number; without a new fault it is the one that stands there. -/
def NumX (w w' : World) (g b : Nat) (ps : List (List Int)) (k : Nat) (f lo hi : Int) (e : Ending) : Prop := ∃ x f', e = .returned (.int .i64 x) ∧ (lo ≤ x ∧ x ≤ hi) ∧ ((f' = f ∧ ps[k]? = some (dec x)) ∨ f' = spf f 4) ∧ FieldsAt w' g b ps ((k + 1 : Nat) : Int) f' ∧ Upd g w w'

set_option maxRecDepth 100000 in
set_option maxHeartbeats 1000000 in
theorem number_x (w : World) (g b : Nat) (ps : List (List Int)) (k : Nat) (f lo hi : Int) (h : FieldsAt w g b ps k f) (hk : k < ps.length) (hp : PsL ps) (hz : lo ≤ 0 ∧ 0 ≤ hi) (hB : ∀ p ∈ ps, ByteL p) :
    Calls Tryz.prog 109 #[.pointer (some ⟨g, 0, none⟩), .int .i64 lo, .int .i64 hi] w fun e w' => NumX w w' g b ps k f lo hi e := by
  have hpl := hp.each _ (List.getElem_mem hk)
  have HBL := hide (hB _ (List.getElem_mem hk))
  have HPK : Hid (ps[k]? = some ps[k]) := List.getElem?_eq_getElem hk
  clear hB
  go_enter Tryz.func109, Tryz.ntmps109
  go_upto_region 1 with fail
  go_cut [7, 8] (fun v er W => ∃ x : Int, v = .int .i64 x ∧ I64 x ∧ Hid ((er = .nilIface ∧ ps[k]? = some (dec x)) ∨ ∃ t u, er = .iface t u) ∧ Hid (FieldsAt W g b ps ((k + 1 : Nat) : Int) f) ∧ Hid (Upd g w W))
  case first =>
    go_wp2_with (first
      | (go_at_call 156; refine (take_calls _ g b ps k f h hk hp.len hpl).mono ?_; rintro e w1 ⟨o, c, rfl, hB, hF, hU⟩; have HCP := hide (bytesAt_cap hB); have HBC := hide (bytesAt_cells hB); have HFD := hide hF; have HU := hide hU; clear hB hF hU)
      | (go_at_call 157; refine (parseInt_x _ b o _ c ps[k] rfl ⟨HCP.out.1, HCP.out.2.1⟩ hpl HBC.out HBL.out).mono ?_; rintro e w2 ⟨x, er, rfl, hx, her, rfl⟩))
    go_meet
    case rel =>
      refine ⟨x, rfl, hx, ?_, HFD, HU⟩
      rcases her with ⟨h1, h2⟩ | ⟨h1, -⟩
      · exact Or.inl ⟨h1, by rw [HPK.out, h2]⟩
      · exact Or.inr h1
  case rest =>
    obtain ⟨x, rfl, hx, her, HF, HU⟩ := hcut
    have HSP : Hid (∀ W, FieldsAt W g b ps ((k + 1 : Nat) : Int) f → Calls Tryz.prog 155 #[.pointer (some ⟨g, 0, none⟩), .int .u8 4] W fun e w' => e = .returned (.tuple #[]) ∧ FieldsAt w' g b ps ((k + 1 : Nat) : Int) (spf f 4) ∧ Upd g W w') := fun W hW => spoil_any W g b ps _ f 4 hW
    clear h
    rcases her.out with ⟨rfl, he⟩ | ⟨tt, uu, rfl⟩
    · have HE := hide he
      clear he her
      cases t1 : decide (x < lo) with
      | true =>
        have t1' := of_decide_eq_true t1
        go_wp2_with (go_at_call 155; refine (HSP.out _ HF.out).mono ?_; rintro e w2 ⟨rfl, hF2, hU2⟩)
        go_ret
        exact ⟨0, _, rfl, hz, Or.inr rfl, hF2, HU.out.trans hU2⟩
      | false =>
        have t1' := of_decide_eq_false t1
        cases t2 : decide (hi < x) with
        | true =>
          have t2' := of_decide_eq_true t2
          go_wp2_with (go_at_call 155; refine (HSP.out _ HF.out).mono ?_; rintro e w2 ⟨rfl, hF2, hU2⟩)
          go_ret
          exact ⟨0, _, rfl, hz, Or.inr rfl, hF2, HU.out.trans hU2⟩
        | false =>
          have t2' := of_decide_eq_false t2
          go_wp2
          go_ret
          exact ⟨x, f, rfl, ⟨by omega, by omega⟩, Or.inl ⟨rfl, HE.out⟩, HF.out, HU.out⟩
    · clear her
      go_wp2_with (go_at_call 155; refine (HSP.out _ HF.out).mono ?_; rintro e w2 ⟨rfl, hF2, hU2⟩)
      go_ret
      exact ⟨0, _, rfl, hz, Or.inr rfl, hF2, HU.out.trans hU2⟩

def IdX (w w' : World) (g b : Nat) (ps : List (List Int)) (k : Nat) (f : Int) (e : Ending) : Prop := ∃ x f', e = .returned (.int .u32 x) ∧ U32 x ∧ ((f' = f ∧ ps[k]? = some (dec x)) ∨ f' = spf f 4) ∧ FieldsAt w' g b ps ((k + 1 : Nat) : Int) f' ∧ Upd g w w'
def AnyX (w w' : World) (g b : Nat) (ps : List (List Int)) (k : Nat) (f : Int) (e : Ending) : Prop := ∃ x f', e = .returned (.int .i64 x) ∧ I64 x ∧ ((f' = f ∧ ps[k]? = some (dec x)) ∨ f' = spf f 4) ∧ FieldsAt w' g b ps ((k + 1 : Nat) : Int) f' ∧ Upd g w w'

set_option maxRecDepth 100000 in
theorem id_x (w : World) (g b : Nat) (ps : List (List Int)) (k : Nat) (f : Int) (h : FieldsAt w g b ps k f) (hk : k < ps.length) (hp : PsL ps) (hB : ∀ p ∈ ps, ByteL p) :
    Calls Tryz.prog 106 #[.pointer (some ⟨g, 0, none⟩)] w fun e w' => IdX w w' g b ps k f e := by
  go_enter Tryz.func106, Tryz.ntmps106
  go_wp2_with (go_at_call 109; refine (number_x _ g b ps k f 0 4294967295 h hk hp ⟨by decide, by decide⟩ hB).mono ?_; rintro e w1 ⟨x, f', rfl, ⟨hx1, hx2⟩, hf, hF, hU⟩; have HF' := hide hf; clear hf)
  go_ret
  exact ⟨x, f', rfl, ⟨hx1, hx2⟩, HF'.out, hF, hU⟩

set_option maxRecDepth 100000 in
theorem any_x (w : World) (g b : Nat) (ps : List (List Int)) (k : Nat) (f : Int) (h : FieldsAt w g b ps k f) (hk : k < ps.length) (hp : PsL ps) (hB : ∀ p ∈ ps, ByteL p) :
    Calls Tryz.prog 107 #[.pointer (some ⟨g, 0, none⟩)] w fun e w' => AnyX w w' g b ps k f e := by
  go_enter Tryz.func107, Tryz.ntmps107
  go_wp2_with (go_at_call 109; refine (number_x _ g b ps k f (-9223372036854775808) 9223372036854775807 h hk hp ⟨by decide, by decide⟩ hB).mono ?_; rintro e w1 ⟨x, f', rfl, ⟨hx1, hx2⟩, hf, hF, hU⟩; have HF' := hide hf; clear hf)
  go_ret
  exact ⟨x, f', rfl, ⟨hx1, hx2⟩, HF'.out, hF, hU⟩

/-- The fields so far, and what stands in them if there was no fault. -/
structure Fsx (w0 w : World) (g b : Nat) (ps : List (List Int)) (k : Nat) (f : Int) (ts : List (List Int)) : Prop where
  st : Fst w0 w g b ps k f
  ex : f = 0 → ps.take k = ts
  by' : ∀ p ∈ ps, ByteL p
section
variable {w0 w w' : World} {g b : Nat} {ps ts : List (List Int)} {k : Nat} {f : Int}
theorem Fsx.fl (h : Fsx w0 w g b ps k f ts) : FieldsAt w g b ps (k : Int) f := h.st.fl
theorem Fsx.flt (h : Fsx w0 w g b ps k f ts) : Flt f := h.st.flt
theorem Fsx.upn (h : Fsx w0 w g b ps k f ts) : Upn g w0 w := h.st.upn
theorem Fsx.blw (h : Fsx w0 w g b ps k f ts) : Below g w0 w := h.st.blw
theorem Fsx.fault (h : Fsx w0 w g b ps k f ts) : w.cell? ⟨g, 2, none⟩ = some (.int .u8 f) ∧ g < w.heap.size := h.st.fault
theorem Fsx.grow (h : Fsx w0 w g b ps k f ts) (hb : Below w.heap.size w w') : Fsx w0 w' g b ps k f ts := ⟨h.st.grow hb, h.ex, h.by'⟩
theorem Fsx.again (h : Fsx w0 w g b ps k f ts) : Fsx w w g b ps k f ts := ⟨h.st.again, h.ex, h.by'⟩
theorem Fsx.comp {k' : Nat} {f' : Int} {ts' : List (List Int)} (h : Fsx w0 w g b ps k f ts) (q : Fsx w w' g b ps k' f' ts') : Fsx w0 w' g b ps k' f' ts' := ⟨h.st.comp q.st, q.ex, q.by'⟩
theorem Fsx.step (h : Fsx w0 w g b ps k f ts) {f' : Int} {t : List Int} (hF : FieldsAt w' g b ps ((k + 1 : Nat) : Int) f') (hf : Flt f') (hU : Upd g w w') (he : f' = 0 → f = 0 ∧ ps[k]? = some t) : Fsx w0 w' g b ps (k + 1) f' (ts ++ [t]) := by
  refine ⟨h.st.next hF hf hU, fun e => ?_, h.by'⟩
  obtain ⟨h1, h2⟩ := he e
  rw [List.take_add_one, h.ex h1, h2]
  rfl
theorem spf_zero {f t : Int} (ht : t ≠ 0) : spf f t ≠ 0 := by
  unfold spf
  split
  · exact ht
  · rename_i h
    simpa using h
theorem ltrF_zero {f : Int} {p : List Int} (h : ltrF f p = 0) : f = 0 ∧ p = [ltrV p] := by
  unfold ltrF at h
  split at h
  · exact absurd h (spf_zero (by decide))
  · rename_i h1
    refine ⟨h, ?_⟩
    have : p.length = 1 := by simp at h1; omega
    obtain ⟨x, rfl⟩ := List.length_eq_one_iff.1 this
    rfl
theorem num_zero {f f' x : Int} (h : (f' = f ∧ ps[k]? = some (dec x)) ∨ f' = spf f 4) (e : f' = 0) : f = 0 ∧ ps[k]? = some (dec x) := by
  rcases h with ⟨h1, h2⟩ | h
  · exact ⟨h1 ▸ e, h2⟩
  · rw [h] at e; exact absurd e (spf_zero (by decide))
theorem num_flt {f f' x : Int} (hf : Flt f) (h : (f' = f ∧ ps[k]? = some (dec x)) ∨ f' = spf f 4) : Flt f' := by
  rcases h with ⟨h1, -⟩ | h
  · rw [h1]; exact hf
  · rw [h]; exact spf_flt hf flt4
theorem ltrV_u8 {p : List Int} (h : ByteL p) : U8 (ltrV p) := by
  unfold ltrV
  split
  · have := h _ (List.mem_cons_self ..)
    exact ⟨this.1, this.2⟩
  · exact ⟨by decide, by decide⟩
theorem expect_wx (w : World) (x : Int) (h : Fsx w0 w g b ps k f ts) (hk : k < ps.length) (hp : PsL ps) :
    Calls Tryz.prog 104 #[.pointer (some ⟨g, 0, none⟩), .int .u8 x] w fun e w' => ∃ f', e = .returned (.tuple #[]) ∧ Hid (Fsx w0 w' g b ps (k + 1) f' (ts ++ [[x]])) :=
  (expect_any w g b ps k f x h.fl hk hp).mono fun _ _ ⟨h1, h2, h3⟩ => ⟨_, h1, h.step h2 (by split; exact spf_flt (ltrF_flt h.flt) flt3; exact ltrF_flt h.flt) h3 (fun e => by
    split at e
    · exact absurd e (spf_zero (by decide))
    · rename_i h4
      obtain ⟨h5, h6⟩ := ltrF_zero e
      refine ⟨h5, ?_⟩
      have h7 : ltrV ps[k] = x := by simpa using h4
      rw [List.getElem?_eq_getElem hk, h6, h7])⟩
theorem letter_wx (w : World) (h : Fsx w0 w g b ps k f ts) (hk : k < ps.length) (hp : PsL ps) :
    Calls Tryz.prog 105 #[.pointer (some ⟨g, 0, none⟩)] w fun e w' => ∃ x f', e = .returned (.int .u8 x) ∧ Hid (U8 x) ∧ Hid (Fsx w0 w' g b ps (k + 1) f' (ts ++ [[x]])) ∧ Hid (w'.heap.size = w.heap.size) :=
  (letter_any w g b ps k f h.fl hk hp).mono fun _ _ ⟨h1, h2, h3⟩ => ⟨_, _, h1, ltrV_u8 (h.by' _ (List.getElem_mem hk)), h.step h2 (ltrF_flt h.flt) h3 (fun e => by
    obtain ⟨h5, h6⟩ := ltrF_zero e
    exact ⟨h5, by rw [List.getElem?_eq_getElem hk]; exact congrArg some h6⟩), h3.size⟩
theorem id_wx (w : World) (h : Fsx w0 w g b ps k f ts) (hk : k < ps.length) (hp : PsL ps) :
    Calls Tryz.prog 106 #[.pointer (some ⟨g, 0, none⟩)] w fun e w' => ∃ x f', e = .returned (.int .u32 x) ∧ Hid (U32 x) ∧ Hid (Fsx w0 w' g b ps (k + 1) f' (ts ++ [dec x])) ∧ Hid (w'.heap.size = w.heap.size) :=
  (id_x w g b ps k f h.fl hk hp h.by').mono fun _ _ ⟨x, f', h1, h2, h3, h4, h5⟩ => ⟨x, f', h1, h2, h.step h4 (num_flt h.flt h3) h5 (num_zero h3), h5.size⟩
theorem any_wx (w : World) (h : Fsx w0 w g b ps k f ts) (hk : k < ps.length) (hp : PsL ps) :
    Calls Tryz.prog 107 #[.pointer (some ⟨g, 0, none⟩)] w fun e w' => ∃ x f', e = .returned (.int .i64 x) ∧ Hid (I64 x) ∧ Hid (Fsx w0 w' g b ps (k + 1) f' (ts ++ [dec x])) ∧ Hid (w'.heap.size = w.heap.size) :=
  (any_x w g b ps k f h.fl hk hp h.by').mono fun _ _ ⟨x, f', h1, h2, h3, h4, h5⟩ => ⟨x, f', h1, h2, h.step h4 (num_flt h.flt h3) h5 (num_zero h3), h5.size⟩
theorem byte_wx (w : World) (h : Fsx w0 w g b ps k f ts) (hk : k < ps.length) (hp : PsL ps) :
    Calls Tryz.prog 109 #[.pointer (some ⟨g, 0, none⟩), .int .i64 0, .int .i64 255] w fun e w' => ∃ x f', e = .returned (.int .i64 x) ∧ (0 ≤ x ∧ x ≤ 255) ∧ Hid (Fsx w0 w' g b ps (k + 1) f' (ts ++ [dec x])) ∧ Hid (w'.heap.size = w.heap.size) :=
  (number_x w g b ps k f 0 255 h.fl hk hp ⟨by decide, by decide⟩ h.by').mono fun _ _ ⟨x, f', h1, h2, h3, h4, h5⟩ => ⟨x, f', h1, h2, h.step h4 (num_flt h.flt h3) h5 (num_zero h3), h5.size⟩
end
/-- The text of a line: its fields with bars between them, and the newline. -/
def lineB (ps : List (List Int)) : List Int := (catT ps).dropLast ++ [10]
theorem lineB_of {ps : List (List Int)} {line : List Int} (h : catT ps = line ++ [124]) : lineB ps = line ++ [10] := by
  unfold lineB
  rw [h, List.dropLast_concat]
/-- The text up to the end of a line that was read. -/
theorem take_line {data line : List Int} {pos : Nat} {ps : List (List Int)} (hline : data.drop pos = line ++ 10 :: data.drop (pos + line.length + 1)) (hcat : catT ps = line ++ [124]) : data.take (pos + line.length + 1) = data.take pos ++ lineB ps := by
  rw [lineB_of hcat, show pos + line.length + 1 = pos + (line.length + 1) by omega, List.take_add, hline]
  congr 1
  rw [List.take_append, List.take_of_length_le (by omega), show line.length + 1 - line.length = 1 by omega]
  rfl
/-- Fields of bytes. -/
theorem cat_bytes {line : List Int} : ∀ {ps : List (List Int)}, catT ps = line ++ [124] → ByteL line → ∀ p ∈ ps, ByteL p := by
  have key : ∀ (ps : List (List Int)) (l : List Int), catT ps = l → (∀ d ∈ l, 0 ≤ d ∧ d ≤ 255) → ∀ p ∈ ps, ByteL p := by
    intro ps
    induction ps with
    | nil => intro l _ _ p hp; cases hp
    | cons q r ih =>
      intro l h hl p hp
      have h : q ++ 124 :: catT r = l := h
      rcases List.mem_cons.1 hp with rfl | hp
      · exact fun d hd => hl d (by rw [← h]; exact List.mem_append_left _ hd)
      · exact ih _ rfl (fun d hd => hl d (by rw [← h]; exact List.mem_append_right _ (List.mem_cons_of_mem _ hd))) p hp
  intro ps h hl
  exact key ps _ h (fun d hd => by
    rcases List.mem_append.1 hd with hd | hd
    · exact hl d hd
    · rw [List.mem_singleton.1 hd]; omega)
end Go.Proofs.Qxb6500666aGreatDoor
