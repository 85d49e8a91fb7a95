/- The six parsers, both ways: whether a string is a rendering, and of what. -/
import Derived.Test.Qxb6500666aGreatDoorInjP
import Derived.Test.Qxb6500666aGreatDoorXTrail
import Derived.Test.Qxb6500666aGreatDoorMPtr
import Derived.Test.Qxb6500666aGreatDoorMPrp
import Derived.Test.Qxb6500666aGreatDoorPrsY
import Derived.Test.Qxb6500666aGreatDoorRepY
import Derived.Test.Qxb6500666aGreatDoorSameF
import Derived.Test.Qxb6500666aGreatDoorSameP
namespace Go.Proofs.Qxb6500666aGreatDoor
open Go.RowKit
theorem trail_pos (bs : List Int) (n : Int) : 0 < (trailText bs n).length := by
  unfold trailText
  simp only [List.length_append, List.length_cons, List.length_nil]
  omega
/-- Whether bs renders a file, and which. -/
structure PFt (bs : List Int) (t : Bool) (k s i bb : Int) (cs : List Change) : Prop where
  yes : t = true → FileOk k s i bb cs ∧ U32 s ∧ I64 i ∧ U32 bb ∧ (∀ c ∈ cs, c.Ok) ∧ bs = fileText k s i bb cs
  no : t = false → ∀ k s i bb cs, FileOk k s i bb cs → U32 s → I64 i → U32 bb → (∀ c ∈ cs, Change.Ok c) → bs ≠ fileText k s i bb cs
theorem ft_pick (bs : List Int) : ∃ t k s i bb cs, PFt bs t k s i bb cs := by
  by_cases h : ∃ k s i bb cs, FileOk k s i bb cs ∧ U32 s ∧ I64 i ∧ U32 bb ∧ (∀ c ∈ cs, Change.Ok c) ∧ bs = fileText k s i bb cs
  · obtain ⟨k, s, i, bb, cs, h⟩ := h
    exact ⟨true, k, s, i, bb, cs, (fun _ => h), (fun e => by cases e)⟩
  · exact ⟨false, 0, 0, 0, 0, [], (fun e => by cases e), fun _ k s i bb cs h1 h2 h3 h4 h5 h6 => h ⟨k, s, i, bb, cs, h1, h2, h3, h4, h5, h6⟩⟩
structure PRt (bs : List Int) (t : Bool) (ea la : Int) (ds : List Diff) : Prop where
  yes : t = true → rpC ea la ds = 0 ∧ U32 ea ∧ U32 la ∧ (∀ d ∈ ds, d.Ok) ∧ bs = repText ea la ds
  no : t = false → ∀ ea la ds, rpC ea la ds = 0 → U32 ea → U32 la → (∀ d ∈ ds, Diff.Ok d) → bs ≠ repText ea la ds
theorem rt_pick (bs : List Int) : ∃ t ea la ds, PRt bs t ea la ds := by
  by_cases h : ∃ ea la ds, rpC ea la ds = 0 ∧ U32 ea ∧ U32 la ∧ (∀ d ∈ ds, Diff.Ok d) ∧ bs = repText ea la ds
  · obtain ⟨ea, la, ds, h⟩ := h
    exact ⟨true, ea, la, ds, (fun _ => h), (fun e => by cases e)⟩
  · exact ⟨false, 0, 0, [], (fun e => by cases e), fun _ ea la ds h1 h2 h3 h4 h5 => h ⟨ea, la, ds, h1, h2, h3, h4, h5⟩⟩
structure PTt (rn kn : Nat → ByteArray) (bs : List Int) (t : Bool) (xs : List Ent) : Prop where
  yes : t = true → Tv rn kn bs xs
  no : t = false → ∀ xs, ¬ Tv rn kn bs xs
theorem tt_pick (rn kn : Nat → ByteArray) (bs : List Int) : ∃ t xs, PTt rn kn bs t xs := by
  by_cases h : ∃ xs, Tv rn kn bs xs
  · obtain ⟨xs, h⟩ := h
    exact ⟨true, xs, (fun _ => h), (fun e => by cases e)⟩
  · exact ⟨false, [], (fun e => by cases e), fun _ xs h1 => h ⟨xs, h1⟩⟩
/-- A rejection, or a file in new memory. -/
def PFr (W w' : World) (t : Bool) (k s i bb : Int) (cs : List Change) (fc : Array Value) (ev : Value) : Prop :=
  (t = false ∧ fc = zFile ∧ ∃ E, ev = .iface 241 (.pointer (some ⟨E, 0, none⟩)) ∧ PErr w' E) ∨ (t = true ∧ ev = .nilIface ∧ ∃ a cap, fc = fileCs k s i bb a cs.length cap ∧ ChangesAt w' (W.heap.size ≤ ·) (.slice a cs.length cap) cs)
def PFm (W w' : World) (t : Bool) (k s i bb : Int) (cs : List Change) (fc : Array Value) (cv : Value) : Prop :=
  (t = false ∧ fc = zFile ∧ cv = .int .u8 29) ∨ (t = true ∧ cv = .int .u8 0 ∧ ∃ a cap, fc = fileCs k s i bb a cs.length cap ∧ ChangesAt w' (W.heap.size ≤ ·) (.slice a cs.length cap) cs)
theorem data_at {w : World} {ok : Nat → Prop} {v : Value} {bs : List Int} (h : BytesAt w ok v bs) (h0 : 0 < bs.length) : ∃ b off cap, v = .slice (some ⟨b, off, none⟩) bs.length cap ∧ DataAt w b off bs.length cap bs := by
  obtain ⟨a, cap, b, off, rfl, hl, hm, hr, ha, hc⟩ := h.lt
  obtain ⟨rfl, -, hb⟩ := ha h0
  exact ⟨b, off, cap, rfl, hb, ⟨hl, hm.1⟩, rfl, hr, fun t ht => by have := (rng_cell (hc t ht)).2 0 (by decide); simpa [byteCs] using this⟩
theorem parse_both (w : World) (ok : Nat → Prop) (v : Value) (bs : List Int) (h : BytesAt w ok v bs) (hB : ByteL bs) (hl : bs.length ≤ 100000000) {t : Bool} {k s i bb : Int} {cs : List Change} (hT : PFt bs t k s i bb cs) :
    Calls Tryz.prog 33 #[v] w fun e w' => ∃ fc ev, e = .returned (.tuple #[.agg fc, ev]) ∧ Hid (PFr w w' t k s i bb cs fc ev) ∧ Hid (Below w.heap.size w w') := by
  cases t with
  | true =>
    obtain ⟨hF, hs, hi, hb, hc, ht⟩ := hT.yes rfl
    have hlen := file_len k s i bb cs
    rw [← ht] at hlen
    have h0 : 0 < bs.length := by rw [ht, fileText]; exact trail_pos _ _
    obtain ⟨b, off, cap, rfl, hD⟩ := data_at h h0
    have hk : U8 k := by rcases hF.1 with e | e <;> (rw [e]; exact ⟨by decide, by decide⟩)
    have hD2 : DataAt w b off bs.length cap (fileText k s i bb cs) := by rw [← ht]; exact hD
    refine (parse_y w b off bs.length cap k s i bb cs hD2 hF hk hs hi hb hc (by omega)).mono ?_
    rintro e w' ⟨a, cap', h1, h2, h3⟩
    exact ⟨_, _, h1, Or.inr ⟨rfl, rfl, a, cap', rfl, h2⟩, h3⟩
  | false =>
    refine (parse_x w ok v bs h (by omega) hB).mono fun e w' hx => ?_
    cases hx with
    | bad E he hE hp hb => exact ⟨_, _, he, Or.inl ⟨rfl, rfl, E, rfl, hp⟩, hb⟩
    | good k s i bb a cap cs he hF hs hi hbb hok hch hb htx => exact absurd htx (hT.no rfl k s i bb cs hF hs hi hbb hok)
theorem mparse_both (w : World) (ok : Nat → Prop) (v : Value) (bs : List Int) (h : BytesAt w ok v bs) (hB : ByteL bs) (hl : bs.length ≤ 100000000) {t : Bool} {k s i bb : Int} {cs : List Change} (hT : PFt bs t k s i bb cs) :
    Calls Tryz.prog 82 #[v] w fun e w' => ∃ fc ev, e = .returned (.tuple #[.agg fc, ev]) ∧ Hid (PFm w w' t k s i bb cs fc ev) ∧ Hid (Below w.heap.size w w') := by
  refine (mparse_calls w ok v bs h hB (by omega)).mono fun e w' hx => ?_
  cases t with
  | true =>
    obtain ⟨hF, hs, hi, hb, hc, ht⟩ := hT.yes rfl
    cases hx with
    | bad he hno hb' => exact absurd ht (hno k s i bb cs hF hs hi hb hc)
    | good k' s' i' bb' a cap cs' he hF' hs' hi' hbb' hok' hch hb' htx =>
      obtain ⟨rfl, rfl, rfl, rfl, rfl⟩ := file_inj (ht.symm.trans htx) hF hF'
      exact ⟨_, _, he, Or.inr ⟨rfl, rfl, a, cap, rfl, hch⟩, hb'⟩
  | false =>
    cases hx with
    | bad he hno hb' => exact ⟨_, _, he, Or.inl ⟨rfl, rfl, rfl⟩, hb'⟩
    | good k' s' i' bb' a cap cs' he hF' hs' hi' hbb' hok' hch hb' htx => exact absurd htx (hT.no rfl k' s' i' bb' cs' hF' hs' hi' hbb' hok')
def PTr (W w' : World) (t : Bool) (xs : List Ent) (tv ev : Value) : Prop :=
  (t = false ∧ tv = .slice none 0 0 ∧ ∃ E, ev = .iface 241 (.pointer (some ⟨E, 0, none⟩)) ∧ PErr w' E) ∨ (t = true ∧ ev = .nilIface ∧ ∃ a cap zs, tv = .slice a zs.length cap ∧ RArr w' (W.heap.size ≤ ·) 20 zeCs (.slice a zs.length cap) zs ∧ ZipE w' (W.heap.size ≤ ·) zs ∧ zs.map (·.1) = xs)
def PTm (W w' : World) (t : Bool) (xs : List Ent) (tv cv : Value) : Prop :=
  (t = false ∧ tv = .slice none 0 0 ∧ cv = .int .u8 29) ∨ (t = true ∧ cv = .int .u8 0 ∧ ∃ a cap zs, tv = .slice a zs.length cap ∧ RArr w' (W.heap.size ≤ ·) 20 zeCs (.slice a zs.length cap) zs ∧ ZipE w' (W.heap.size ≤ ·) zs ∧ zs.map (·.1) = xs)
theorem parseTrail_both (w : World) (ok : Nat → Prop) (rn kn ft : Nat → ByteArray) (v : Value) (bs : List Int) (h : BytesAt w ok v bs) (hB : ByteL bs) (hl : bs.length ≤ 100000000) (hnm : NmAt w rn kn ft) (hg : NmG rn kn) {t : Bool} {xs : List Ent} (hT : PTt rn kn bs t xs) :
    Calls Tryz.prog 80 #[v] w fun e w' => ∃ tv ev, e = .returned (.tuple #[tv, ev]) ∧ Hid (PTr w w' t xs tv ev) ∧ Hid (Below w.heap.size w w') := by
  refine (parseTrail_x w rn kn ft ok v bs h (by omega) hnm hnm.lt hg hB).mono fun e w' hx => ?_
  cases t with
  | true =>
    cases hx with
    | bad E he hE hp hb hno => exact absurd (hT.yes rfl) (hno xs)
    | good a cap zs he hr hz ht hb => exact ⟨_, _, he, Or.inr ⟨rfl, rfl, a, cap, zs, rfl, hr, hz, tv_inj hg ht (hT.yes rfl)⟩, hb⟩
  | false =>
    cases hx with
    | bad E he hE hp hb hno => exact ⟨_, _, he, Or.inl ⟨rfl, rfl, E, rfl, hp⟩, hb⟩
    | good a cap zs he hr hz ht hb => exact absurd ht (hT.no rfl _)
theorem mparseTrail_both (w : World) (ok : Nat → Prop) (rn kn ft : Nat → ByteArray) (v : Value) (bs : List Int) (h : BytesAt w ok v bs) (hB : ByteL bs) (hl : bs.length ≤ 100000000) (hnm : NmAt w rn kn ft) (hg : NmG rn kn) {t : Bool} {xs : List Ent} (hT : PTt rn kn bs t xs) :
    Calls Tryz.prog 87 #[v] w fun e w' => ∃ tv ev, e = .returned (.tuple #[tv, ev]) ∧ Hid (PTm w w' t xs tv ev) ∧ Hid (Below w.heap.size w w') := by
  refine (mparseTrail_calls w ok rn kn ft v bs h hB (by omega) hnm hg).mono fun e w' hx => ?_
  cases t with
  | true =>
    cases hx with
    | bad he hno hb => exact absurd (hT.yes rfl) (hno xs)
    | good a cap zs he hr hz ht hb => exact ⟨_, _, he, Or.inr ⟨rfl, rfl, a, cap, zs, rfl, hr, hz, tv_inj hg ht (hT.yes rfl)⟩, hb⟩
  | false =>
    cases hx with
    | bad he hno hb => exact ⟨_, _, he, Or.inl ⟨rfl, rfl, rfl⟩, hb⟩
    | good a cap zs he hr hz ht hb => exact absurd ht (hT.no rfl _)
def PRr (W w' : World) (t : Bool) (ea la : Int) (ds : List Diff) (v1 v2 dv ev : Value) : Prop :=
  (t = false ∧ v1 = .int .u32 0 ∧ v2 = .int .u32 0 ∧ dv = .slice none 0 0 ∧ ∃ E, ev = .iface 241 (.pointer (some ⟨E, 0, none⟩)) ∧ PErr w' E) ∨ (t = true ∧ v1 = .int .u32 ea ∧ v2 = .int .u32 la ∧ ev = .nilIface ∧ ∃ a cap, dv = .slice a ds.length cap ∧ RArr w' (W.heap.size ≤ ·) 5 diffCs (.slice a ds.length cap) ds)
def PRm (W w' : World) (t : Bool) (ea la : Int) (ds : List Diff) (v1 v2 dv cv : Value) : Prop :=
  (t = false ∧ v1 = .int .u32 0 ∧ v2 = .int .u32 0 ∧ dv = .slice none 0 0 ∧ cv = .int .u8 29) ∨ (t = true ∧ v1 = .int .u32 ea ∧ v2 = .int .u32 la ∧ cv = .int .u8 0 ∧ ∃ a cap, dv = .slice a ds.length cap ∧ RArr w' (W.heap.size ≤ ·) 5 diffCs (.slice a ds.length cap) ds)
theorem parseReport_both (w : World) (ok : Nat → Prop) (v : Value) (bs : List Int) (h : BytesAt w ok v bs) (hB : ByteL bs) (hl : bs.length ≤ 100000000) {t : Bool} {ea la : Int} {ds : List Diff} (hT : PRt bs t ea la ds) :
    Calls Tryz.prog 73 #[v] w fun e w' => ∃ v1 v2 dv ev, e = .returned (.tuple #[v1, v2, dv, ev]) ∧ Hid (PRr w w' t ea la ds v1 v2 dv ev) ∧ Hid (Below w.heap.size w w') := by
  cases t with
  | true =>
    obtain ⟨hF, h1, h2, hc, ht⟩ := hT.yes rfl
    have hlen := rep_len ea la ds
    rw [← ht] at hlen
    have h0 : 0 < bs.length := by rw [ht, repText]; exact trail_pos _ _
    obtain ⟨b, off, cap, rfl, hD⟩ := data_at h h0
    have hD2 : DataAt w b off bs.length cap (repText ea la ds) := by rw [← ht]; exact hD
    refine (parseReport_y w b off bs.length cap ea la ds hD2 hF h1 h2 hc (by omega)).mono ?_
    rintro e w' ⟨dv, e1, e2, e3⟩
    obtain ⟨a, cap', hf⟩ := e2.form
    subst hf
    exact ⟨_, _, _, _, e1, Or.inr ⟨rfl, rfl, rfl, rfl, a, cap', rfl, e2.rows diffCs_size (by decide) (by omega)⟩, e3⟩
  | false =>
    refine (parseReport_x w ok v bs h (by omega) hB).mono fun e w' hx => ?_
    cases hx with
    | bad E he hE hp hb => exact ⟨_, _, _, _, he, Or.inl ⟨rfl, rfl, rfl, rfl, E, rfl, hp⟩, hb⟩
    | good ea la a cap ds he hF hea hla hok hR hb htx => exact absurd htx (hT.no rfl ea la ds hF hea hla hok)
theorem mparseReport_both (w : World) (ok : Nat → Prop) (v : Value) (bs : List Int) (h : BytesAt w ok v bs) (hB : ByteL bs) (hl : bs.length ≤ 100000000) {t : Bool} {ea la : Int} {ds : List Diff} (hT : PRt bs t ea la ds) :
    Calls Tryz.prog 120 #[v] w fun e w' => ∃ v1 v2 dv ev, e = .returned (.tuple #[v1, v2, dv, ev]) ∧ Hid (PRm w w' t ea la ds v1 v2 dv ev) ∧ Hid (Below w.heap.size w w') := by
  refine (mparseReport_calls w ok v bs h hB (by omega)).mono fun e w' hx => ?_
  cases t with
  | true =>
    obtain ⟨hF, h1, h2, hc, ht⟩ := hT.yes rfl
    cases hx with
    | bad he hno hb => exact absurd ht (hno ea la ds hF h1 h2 hc)
    | good ea' la' a cap ds' he hF' hea hla hok hR hb htx =>
      obtain ⟨rfl, rfl, rfl⟩ := rep_inj (ht.symm.trans htx) hF hF'
      exact ⟨_, _, _, _, he, Or.inr ⟨rfl, rfl, rfl, rfl, a, cap, rfl, hR⟩, hb⟩
  | false =>
    cases hx with
    | bad he hno hb => exact ⟨_, _, _, _, he, Or.inl ⟨rfl, rfl, rfl, rfl, rfl⟩, hb⟩
    | good ea' la' a cap ds' he hF' hea hla hok hR hb htx => exact absurd htx (hT.no rfl ea' la' ds' hF' hea hla hok)
end Go.Proofs.Qxb6500666aGreatDoor
