/- A step of the bench with its whole answer: data. -/
import Derived.Test.Qxb6500666aGreatDoorStX
import Derived.Test.Qxb6500666aGreatDoorXAll
import Derived.Test.Qxb6500666aGreatDoorDmgX
import Derived.Test.Qxb6500666aGreatDoorMdV
import Derived.Test.Qxb6500666aGreatDoorTextLen
namespace Go.Proofs.Qxb6500666aGreatDoor
open Go.RowKit

/-- What the bench's step answers, exactly. -/
structure AnsQ (rn kn : Nat → ByteArray) (w w' : World) (t : ST) (o : Op) (a : AnsR) : Prop where
  k1 : o.kind = 1 → ∃ x, a = { ans0 with resp := x } ∧ RspP rn kn w w' t.ps t.full t.off t.lar t.low o.req x
  k23 : o.kind = 2 ∨ o.kind = 3 → a = ans0
  k4 : o.kind = 4 → ParA w w' (pkF o.data) a
  k5 : o.kind = 5 → (∀ c, fbR t.ps o.seq = .error c → a = { ans0 with code := c }) ∧ ∀ bs, fbR t.ps o.seq = .ok bs → ParA w w' (pkF (dmgP bs o.mode o.num o.data)) a
  k6 : o.kind = 6 → RenA w w' o.file a
  k7 : o.kind = 7 → ∀ l bs, trailR t.ps = some l → rtR rn kn l = .ok bs → TrlA w w' (pkT rn kn (dmgP bs o.mode o.num o.data)) a
  kd : (o.kind ≠ 1 ∧ o.kind ≠ 2 ∧ o.kind ≠ 3 ∧ o.kind ≠ 4 ∧ o.kind ≠ 5 ∧ o.kind ≠ 6 ∧ o.kind ≠ 7) → a = { ans0 with code := 1 }
/-- The texts that a step may damage are not long. -/
structure TxOk (rn kn : Nat → ByteArray) (ps : List KV) (o : Op) : Prop where
  f : ∀ bs, fbR ps o.seq = .ok bs → bs.length ≤ 90000000 ∧ ByteL bs
  l : ∃ l bs, trailR ps = some l ∧ rtR rn kn l = .ok bs ∧ bs.length ≤ 90000000 ∧ ByteL bs
  d : ByteL o.data
def StY (w w' : World) (Bn Y S LB base : Nat) (pv : Value) (A ok : Nat → Prop) (e : Ending) (s : ST) (RP : AnsR → Prop) : Prop :=
  ∃ Y' pv' A' ok' zs' x' ans, BN w' Bn Y' S LB base pv' A' ok' zs' s.full s.off s.lar x' s.low ∧ zs'.map (·.2) = s.ps ∧ e = .returned (.agg (ansCs ans)) ∧ StF w w' Bn Y S LB base pv A ok Y' pv' A' ok' ∧ RP ans
theorem StY.same {w w' : World} {Bn Y S LB base : Nat} {pv : Value} {A ok : Nat → Prop} {zs : List ZP} {full : Bool} {off lar : Int} {x : LV} {L : Low} {ans : AnsR} {s : ST} {RP : AnsR → Prop} (h : BN w Bn Y S LB base pv A ok zs full off lar x L) (hb : Below w.heap.size w w') (hs : s = ⟨zs.map (·.2), full, off, lar, L⟩) (hp : RP ans) : StY w w' Bn Y S LB base pv A ok (.returned (.agg (ansCs ans))) s RP := by
  subst hs
  exact ⟨Y, pv, A, ok, zs, x, ans, h.below hb, rfl, rfl, ⟨fun b p _ _ _ _ => hb.block b p, hb.mono (by have := h.bs.bs; have := blk_lt h.bs.lb; omega), Or.inl rfl, Nw.refl _ _, Nw.refl _ _, Or.inl rfl⟩, hp⟩
/-- What Parse hands back, in one form. -/
def ParF (w w' : World) (p : PkF) (k s i bb : Int) (fa : Option Addr) (fn fc : Nat) (ec : Int) : Prop :=
  (p.t = false ∧ k = 0 ∧ s = 0 ∧ i = 0 ∧ bb = 0 ∧ fa = none ∧ fn = 0 ∧ fc = 0 ∧ ec = 29) ∨ (p.t = true ∧ k = p.k ∧ s = p.s ∧ i = p.i ∧ bb = p.bb ∧ fn = p.cs.length ∧ ec = 0 ∧ ChangesAt w' (w.heap.size ≤ ·) (.slice fa p.cs.length fc) p.cs)
theorem ParF.ans {w W1 W3 w' : World} {p : PkF} {k s i bb : Int} {fa : Option Addr} {fn fc : Nat} {ec : Int} (h : ParF W1 W3 p k s i bb fa fn fc ec) (hz : w.heap.size ≤ W1.heap.size) (hs : ∀ b, W1.heap.size ≤ b → b < W3.heap.size → w'.heap[b]? = W3.heap[b]?) : ParA w w' p { { ans0 with fk := k, fs := s, fi := i, fb := bb, fc := (fa, fn, fc) } with code := ec } := by
  rcases h with ⟨ht, rfl, rfl, rfl, rfl, rfl, rfl, rfl, rfl⟩ | ⟨ht, rfl, rfl, rfl, rfl, rfl, rfl, hc⟩
  · exact Or.inl ⟨ht, rfl⟩
  · exact Or.inr ⟨ht, fa, fc, rfl, hc.lt.mono (fun b q => hs b q.1 q.2) (fun b q => by omega)⟩
theorem parse_q (w : World) (ok : Nat → Prop) (v : Value) (bs : List Int) (h : BytesAt w ok v bs) (hB : ByteL bs) (hl : bs.length ≤ 100000000) :
    Calls Tryz.prog 33 #[v] w fun e w' => ∃ k s i bb fa fn fc ev ec, e = .returned (.tuple #[.agg (fileCs k s i bb fa fn fc), ev]) ∧ ErrN w w' ev ec ∧ ParF w w' (pkF bs) k s i bb fa fn fc ec ∧ Below w.heap.size w w' := by
  have hT := pkF_is bs
  cases ht : (pkF bs).t with
  | true =>
    obtain ⟨hF, hs, hi, hb, hc, htx⟩ := hT.yes ht
    have hlen := file_len (pkF bs).k (pkF bs).s (pkF bs).i (pkF bs).bb (pkF bs).cs
    rw [← htx] at hlen
    have h0 : 0 < bs.length := by rw [htx, fileText]; exact trail_pos _ _
    obtain ⟨b, off, cap, rfl, hD⟩ := data_at h h0
    have hk : U8 (pkF bs).k := by rcases hF.1 with e | e <;> (rw [e]; exact ⟨by decide, by decide⟩)
    have hD2 : DataAt w b off bs.length cap (fileText (pkF bs).k (pkF bs).s (pkF bs).i (pkF bs).bb (pkF bs).cs) := by rw [← htx]; exact hD
    refine (parse_y w b off bs.length cap _ _ _ _ _ hD2 hF hk hs hi hb hc (by omega)).mono ?_
    rintro e w' ⟨a, cap', h1, h2, h3⟩
    exact ⟨_, _, _, _, a, _, cap', _, 0, h1, ⟨.nil, fun E q => by cases q⟩, Or.inr ⟨ht, rfl, rfl, rfl, rfl, rfl, rfl, h2⟩, h3⟩
  | false =>
    refine (parse_x w ok v bs h (by omega) hB).mono fun e w' hx => ?_
    cases hx with
    | bad E he hE hp hb => exact ⟨0, 0, 0, 0, none, 0, 0, _, 29, he, ⟨ErrV.ofPErr hp, fun E' q => by injection q with q1 q2; injection q2 with q2; injection q2 with q2; injection q2 with q2; omega⟩, Or.inl ⟨ht, rfl, rfl, rfl, rfl, rfl, rfl, rfl, rfl⟩, hb⟩
    | good k s i bb a cap cs he hF hs hi hbb hok hch hb htx => exact absurd htx (hT.no ht k s i bb cs hF hs hi hbb hok)
/-- What ParseTrail hands back, in one form. -/
def TrlF (w w' : World) (p : PkT) (fa : Option Addr) (fn fc : Nat) (ec : Int) : Prop :=
  (p.t = false ∧ fa = none ∧ fn = 0 ∧ fc = 0 ∧ ec = 29) ∨ (p.t = true ∧ ec = 0 ∧ ∃ zs : List ZE, fn = zs.length ∧ RArr w' (w.heap.size ≤ ·) 20 zeCs (.slice fa zs.length fc) zs ∧ ZipE w' (w.heap.size ≤ ·) zs ∧ zs.map (·.1) = p.xs)
theorem TrlF.ans {w W1 W3 w' : World} {p : PkT} {fa : Option Addr} {fn fc : Nat} {ec : Int} (h : TrlF W1 W3 p fa fn fc ec) (hz : w.heap.size ≤ W1.heap.size) (hs : ∀ b, W1.heap.size ≤ b → b < W3.heap.size → w'.heap[b]? = W3.heap[b]?) : TrlA w w' p { { ans0 with trail := (fa, fn, fc) } with code := ec } := by
  rcases h with ⟨ht, rfl, rfl, rfl, rfl⟩ | ⟨ht, rfl, zs, rfl, hr, hzp, hm⟩
  · exact Or.inl ⟨ht, rfl⟩
  · exact Or.inr ⟨ht, fa, fc, zs, rfl, hr.lt.mono (fun b q => hs b q.1 q.2) (fun b q => by omega), fun z hz' => (RArr.lt (hzp z hz')).mono (fun b q => hs b q.1 q.2) (fun b q => by omega), hm⟩
theorem parseTrail_q (w : World) (ok : Nat → Prop) (rn kn ft : Nat → ByteArray) (v : Value) (bs : List Int) (h : BytesAt w ok v bs) (hB : ByteL bs) (hl : bs.length ≤ 100000000) (hnm : NmAt w rn kn ft) (hg : NmG rn kn) :
    Calls Tryz.prog 80 #[v] w fun e w' => ∃ fa fn fc ev ec, e = .returned (.tuple #[.slice fa fn fc, ev]) ∧ ErrN w w' ev ec ∧ TrlF w w' (pkT rn kn bs) fa fn fc ec ∧ Below w.heap.size w w' := by
  have hT := pkT_is rn kn bs
  refine (parseTrail_x w rn kn ft ok v bs h (by omega) hnm hnm.lt hg hB).mono fun e w' hx => ?_
  cases hx with
  | bad E he hE hp hb hno =>
    refine ⟨none, 0, 0, _, 29, he, ⟨ErrV.ofPErr hp, fun E' q => by injection q with q1 q2; injection q2 with q2; injection q2 with q2; injection q2 with q2; omega⟩, ?_, hb⟩
    cases ht : (pkT rn kn bs).t with
    | true => exact absurd (hT.yes ht) (hno _)
    | false => exact Or.inl ⟨ht, rfl, rfl, rfl, rfl⟩
  | good a cap zs he hr hz htv hb =>
    refine ⟨a, zs.length, cap, _, 0, he, ⟨.nil, fun E q => by cases q⟩, ?_, hb⟩
    cases ht : (pkT rn kn bs).t with
    | true => exact Or.inr ⟨ht, rfl, zs, rfl, hr, hz, tv_inj hg htv (hT.yes ht)⟩
    | false => exact absurd htv (hT.no ht _)
end Go.Proofs.Qxb6500666aGreatDoor
