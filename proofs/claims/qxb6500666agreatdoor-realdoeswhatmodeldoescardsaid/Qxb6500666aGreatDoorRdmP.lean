/- Both sides answer alike. Plain. -/
import Derived.Test.Qxb6500666aGreatDoorMdJ
import Derived.Test.Qxb6500666aGreatDoorStY
import Derived.Test.Qxb6500666aGreatDoorRcnP
import Derived.Test.Qxb6500666aGreatDoorEligP
namespace Go.Proofs.Qxb6500666aGreatDoor
open Go.RowKit

/-- No entry bears the number 0. -/
theorem noE0_step {t : ST} {o : Op} {es : List Ent} (h : AI t.ps es) (hl : es.length ≤ 1000000) (h0 : getB t.ps (key1B 97 0) = none) : getB (stepR t o).ps (key1B 97 0) = none := by
  by_cases ha : AccS t o
  · obtain ⟨k1, hk, hc⟩ := ha
    rw [stepR_one k1]
    dsimp only
    obtain ⟨role, s, ha, hs, hnow, -, hl12, h5, -, -, e⟩ := exR_acc hk hc
    rw [e]
    dsimp only
    obtain ⟨s0, t1, t2, -⟩ := h.st
    rw [hs] at t1
    injection t1 with t1
    subst t1
    have hnoa := handR_noa t.ps t.low s o.req
    have hent := handR_entries t.ps t.low s o.req
    generalize handR t.ps t.low s o.req = R at *
    have hE : (stNext R.st o.req.now).entries = (es.length : Int) + 1 := by
      unfold stNext
      dsimp only
      rw [hent, t2]
      omega
    rw [getB_apply _ h.kn, last_a R hnoa o.req role 0 _ ⟨by decide, by decide⟩ (by rw [hE]; exact ⟨by omega, by omega⟩), hE, if_neg (by omega)]
    exact h0
  · rw [(stepR_not ha).1]
    exact h0
theorem noE0_all {s : List Op} (hr : ∀ k (hk : k < s.length), s[k].req.Ok) (hids : ∀ k (hk : k < s.length), ∀ y ∈ s[k].req.list, U32 y) (hl : s.length ≤ 65536) : ∀ q, q ≤ s.length → getB (stAt s q).ps (key1B 97 0) = none
  | 0, _ => rfl
  | q + 1, hq => by
    rw [stAt_succ (by omega)]
    obtain ⟨rows, htj⟩ := ti_all hr hids hl q (by omega)
    exact noE0_step htj.ai (by have := htj.al; omega) (noE0_all hr hids hl q (by omega))

/-- Two responses that read alike. -/
structure RspA (W : World) (x y : Rsp) : Prop where
  same : y = { x with el := y.el, chg := y.chg, bytes := y.bytes, diffs := y.diffs, held := y.held }
  el : RArr W (fun _ => True) 1 u32Cs (sv x.el) x.en.req.list ∧ RArr W (fun _ => True) 1 u32Cs (sv y.el) x.en.req.list
  chg : ∃ l, ChangesAt W (fun _ => True) (sv x.chg) l ∧ ChangesAt W (fun _ => True) (sv y.chg) l
  bys : ∃ l, BytesAt W (fun _ => True) (sv x.bytes) l ∧ BytesAt W (fun _ => True) (sv y.bytes) l
  dif : ∃ l, RArr W (fun _ => True) 5 diffCs (sv x.diffs) l ∧ RArr W (fun _ => True) 5 diffCs (sv y.diffs) l
  hel : ∃ l, RArr W (fun _ => True) 3 heldCs (sv x.held) l ∧ RArr W (fun _ => True) 3 heldCs (sv y.held) l
theorem nilA {α : Type} (W : World) (sz : Nat) (f : α → Array Value) : RArr W (fun _ => True) sz f (sv noS) [] := RArr.nil _ _ _ _
theorem RArr.all {α : Type} {W : World} {ok : Nat → Prop} {sz : Nat} {f : α → Array Value} {v : Value} {l : List α} (h : RArr W ok sz f v l) : RArr W (fun _ => True) sz f v l := h.mono (Same.refl _ _) (fun _ _ => trivial)
theorem RspA.of0 {W : World} {x : Rsp} (h1 : x.el = noS) (h2 : x.en.req.list = []) (h3 : x.chg = noS) (h4 : x.bytes = noS) (h5 : x.diffs = noS) (h6 : x.held = noS) : RspA W x x := by
  refine ⟨rfl, ?_, ⟨[], ?_⟩, ⟨[], ?_⟩, ⟨[], ?_⟩, ⟨[], ?_⟩⟩
  · rw [h1, h2]; exact ⟨nilA _ _ _, nilA _ _ _⟩
  · rw [h3]; exact ⟨nilA _ _ _, nilA _ _ _⟩
  · rw [h4]; exact ⟨nilA _ _ _, nilA _ _ _⟩
  · rw [h5]; exact ⟨nilA _ _ _, nilA _ _ _⟩
  · rw [h6]; exact ⟨nilA _ _ _, nilA _ _ _⟩
theorem RspA.ofE {W : World} {x y : Rsp} {p : Rsp} (hx : x = p) (hy : y = p) (h1 : p.el = noS) (h2 : p.en.req.list = []) (h3 : p.chg = noS) (h4 : p.bytes = noS) (h5 : p.diffs = noS) (h6 : p.held = noS) : RspA W x y := by
  rw [hx, hy]
  exact RspA.of0 h1 h2 h3 h4 h5 h6
/-- Two answers to a reading that agree. -/
def RdA (W : World) (R1 R2 : Except Int (Rsp → Prop)) : Prop := (∃ c, R1 = .error c ∧ R2 = .error c) ∨ ∃ p1 p2, R1 = .ok p1 ∧ R2 = .ok p2 ∧ ∀ x y, p1 x → p2 y → RspA W x y
theorem RdA.rsp {W : World} {R1 R2 : Except Int (Rsp → Prop)} {x y : Rsp} (h : RdA W R1 R2) (hx : RV R1 x) (hy : RV R2 y) : RspA W x y := by
  rcases h with ⟨c, rfl, rfl⟩ | ⟨p1, p2, rfl, rfl, h⟩
  · exact RspA.ofE hx hy rfl rfl rfl rfl rfl rfl
  · exact h x y hx hy
section
variable {q : Nat} {t : ST} {m : Mod} {rows : List Row} {r : Req} {rn kn : Nat → ByteArray} {ok : Nat → Prop} {W0 W1 W : World}
theorem rd21_a (h : TJ q t m rows) (hr : r.Ok) : RdA W (rd21X t.ps r) (rdM21 m r) := by
  unfold rd21X rdM21
  rw [h.us _ hr.id]
  rcases mUser m r.id with ⟨ro, k, ac⟩
  cases k with
  | false => exact Or.inl ⟨17, rfl, rfl⟩
  | true => exact Or.inr ⟨_, _, rfl, rfl, fun x y hx hy => RspA.ofE hx hy rfl rfl rfl rfl rfl rfl⟩
theorem rd22_a (h : TJ q t m rows) : RdA W (rd22X t.ps) (rdM22 m) := by
  unfold rd22X rdM22
  rw [h.st]
  exact Or.inr ⟨_, _, rfl, rfl, fun x y hx hy => RspA.ofE hx hy rfl rfl rfl rfl rfl rfl⟩
theorem rd23_a (h : TJ q t m rows) (hr : r.Ok) (h0 : getB t.ps (key1B 97 0) = none) : RdA W (rd23X W0 W t.ps r) (rdM23 ok W m r) := by
  unfold rd23X rdM23
  by_cases hn : r.id = 0 ∨ (m.au.length : Int) < r.id
  · rw [if_pos hn]
    have e : entR t.ps r.id = .error 24 := by
      unfold entR
      rcases hn with e | e
      · rw [e, h0]
      · rw [h.ai.no _ hr.id e]
    rw [e]
    exact Or.inl ⟨24, rfl, rfl⟩
  · rw [if_neg hn]
    have hid := hr.id.1
    obtain ⟨i, hi⟩ : ∃ i : Nat, r.id = (i : Int) + 1 := ⟨(r.id - 1).toNat, by omega⟩
    have hil : i < m.au.length := by omega
    have e := h.ai.ent i hil
    rw [← hi] at e
    rw [e]
    refine Or.inr ⟨_, _, rfl, rfl, ?_⟩
    rintro x y ⟨a, n, c, rfl, hx⟩ ⟨s, hs, a', n', c', rfl, hy⟩
    rw [show (r.id - 1).toNat = i by omega, List.getElem?_eq_getElem hil] at hs
    injection hs with hs
    subst hs
    exact ⟨rfl, ⟨RArr.all hx, RArr.all hy⟩, ⟨[], nilA _ _ _, nilA _ _ _⟩, ⟨[], nilA _ _ _, nilA _ _ _⟩, ⟨[], nilA _ _ _, nilA _ _ _⟩, ⟨[], nilA _ _ _, nilA _ _ _⟩⟩
theorem rd24_a (h : TJ q t m rows) (hu : SU t.low.sm) : RdA W (rd24X t.low r) (rdM24 m r) := by
  unfold rd24X eligX rdM24 eligibR
  rw [h.low]
  cases hy : resGet t.low.sm r.id r.ref with
  | none => exact Or.inl ⟨21, rfl, rfl⟩
  | some y =>
    have h1 := resGet_mem hy
    have h2 := (resGet_key hy).1
    obtain ⟨s, hs⟩ := hu.smp h1
    rw [h2] at hs
    rw [hs]
    exact Or.inr ⟨_, _, rfl, rfl, fun x y hx hy => RspA.ofE hx hy rfl rfl rfl rfl rfl rfl⟩
theorem rd25_a (h : TJ q t m rows) (hq : q ≤ 65536) (hi : Inv q t) (hu : SU t.low.sm) (hv : VI q t.low) : RdA W (rd25X W0 W t.ps t.low) (rdM25 W1 W m) := by
  unfold rd25X rdM25
  obtain ⟨E, hE⟩ := eligR_some hv hi.low hu
  have hfl := h.fl
  have hp : pendR t.ps t.low = some (differ rows E) := by
    unfold pendR
    rw [h.fi.relR (by omega), hE]
  have hm : mPend m = differ rows E := mPend_eq h.fi (by rw [h.low]; exact hu) (by rw [h.low]; exact hE)
  rw [hp, hm]
  have hl : (differ rows E).length ≤ 140737488355328 := by
    obtain ⟨vf, lf, hci⟩ := h.ci
    have h1 := differ_len rows E
    have h2 := eligR_len hE
    have h3 := hci.rowsLen
    have h4 := hi.low.sm.b
    omega
  refine Or.inr ⟨_, _, rfl, rfl, ?_⟩
  rintro x y ⟨a, n, c, rfl, hx⟩ ⟨a', n', c', rfl, hy⟩
  exact ⟨rfl, ⟨nilA _ _ _, nilA _ _ _⟩, ⟨_, RArr.all (hx.rows changeCs_size (by decide) hl), RArr.all (hy.rows changeCs_size (by decide) hl)⟩, ⟨[], nilA _ _ _, nilA _ _ _⟩, ⟨[], nilA _ _ _, nilA _ _ _⟩, ⟨[], nilA _ _ _, nilA _ _ _⟩⟩
/-- The header and the bytes of file number seq on both sides. -/
theorem hdr_tie (h : TJ q t m rows) (hq : q ≤ 65536) {seq : Int} (hs : U32 seq) : (mIss m seq = none ∧ hdrR t.ps seq = .error 23 ∧ fbR t.ps seq = .error 23) ∨ ∃ f, mIss m seq = some f ∧ f ∈ m.fs ∧ hdrR t.ps seq = .ok (hdrM f) ∧ fbR t.ps seq = .ok (txt f) := by
  have hfl := h.fl
  cases hf : mIss m seq with
  | none =>
    have hn : seq = 0 ∨ (m.fs.length : Int) < seq := by
      by_cases hn : seq = 0 ∨ (m.fs.length : Int) < seq
      · exact hn
      · have h0 := hs.1
        obtain ⟨i, hi⟩ : ∃ i : Nat, seq = (i : Int) + 1 := ⟨(seq - 1).toNat, by omega⟩
        have hil : i < m.fs.length := by omega
        rw [hi, mIss_of hil] at hf
        cases hf
    exact Or.inl ⟨rfl, h.fi.hdrNo hs hn, h.fi.fbNo hs hn⟩
  | some f =>
    obtain ⟨i, hi, rfl, rfl⟩ := mIss_at hs hf
    exact Or.inr ⟨_, rfl, List.getElem_mem hi, h.fi.hdrR (by omega) hi, h.fi.fbR (by omega) hi⟩
theorem txt_len (h : MInv m) {f : File} (hf : f ∈ m.fs) : (txt f).length ≤ 90000000 ∧ ByteL (txt f) := by
  obtain ⟨f1, f2, f3, f4, f5⟩ := h.file f hf
  exact fileText_le f1 f2 f3 f4 f5 (h.cl f hf)
theorem rd26_a (h : TJ q t m rows) (hq : q ≤ 65536) (hr : r.Ok) : RdA W (rd26X t.ps r) (rdM26 m r) := by
  unfold rd26X rdM26
  rcases hdr_tie h hq hr.id with ⟨e1, e2, -⟩ | ⟨f, e1, -, e2, -⟩
  · rw [e1, e2]
    exact Or.inl ⟨23, rfl, rfl⟩
  · rw [e1, e2]
    exact Or.inr ⟨_, _, rfl, rfl, fun x y hx hy => RspA.ofE hx hy rfl rfl rfl rfl rfl rfl⟩
theorem bytesA {l : List Int} (hl : l.length ≤ 90000000) {a a' : Option Addr} {n c n' c' : Nat} (hx : OwnR W W0.heap.size 5 1 byteCs (.slice a n c) l) (hy : BytesAt W ok (.slice a' n' c') l) : RspA W { rsp0 with bytes := (a, n, c) } { rsp0 with bytes := (a', n', c') } :=
  ⟨rfl, ⟨nilA _ _ _, nilA _ _ _⟩, ⟨[], nilA _ _ _, nilA _ _ _⟩, ⟨l, RArr.all (hx.rows byteCs_size (by decide) (by omega)), RArr.all hy⟩, ⟨[], nilA _ _ _, nilA _ _ _⟩, ⟨[], nilA _ _ _, nilA _ _ _⟩⟩
theorem rd27_a (h : TJ q t m rows) (hq : q ≤ 65536) (hr : r.Ok) (hm : MInv m) : RdA W (rd27X W0 W t.ps r) (rdM27 W1 W m r) := by
  unfold rd27X rdM27
  rcases hdr_tie h hq hr.id with ⟨e1, -, e2⟩ | ⟨f, e1, hf, -, e2⟩
  · rw [e1, e2]
    exact Or.inl ⟨23, rfl, rfl⟩
  · rw [e1, e2]
    refine Or.inr ⟨_, _, rfl, rfl, ?_⟩
    rintro x y ⟨a, n, c, rfl, hx⟩ ⟨a', n', c', rfl, hy⟩
    exact bytesA (txt_len hm hf).1 hx hy
theorem rbR_f (h : TJ q t m rows) (hq : q ≤ 65536) {seq : Int} {f : File} (hs : U32 seq) (hf : mIss m seq = some f) (hk : f.kind = 67) : rbR t.ps seq = some (rowsF f) := by
  obtain ⟨i, hi, rfl, rfl⟩ := mIss_at hs hf
  rw [h.fi.rbR (by have := h.fl; omega) (by omega)]
  exact rowsF_cum h.fi hi hk
theorem rd28_a (h : TJ q t m rows) (hq : q ≤ 65536) (hr : r.Ok) (hm : MInv m) : RdA W (rd28X W0 W t.ps r) (rdM28 W1 W m r) := by
  unfold rd28X reconX rdM28
  rcases hdr_tie h hq hr.ref with ⟨e1, e2, -⟩ | ⟨fl, e1, hfl, e2, -⟩
  · have e : recR t.ps r.id r.ref = .error 23 := by unfold recR; rw [e2]
    rw [e, e1]
    exact Or.inl ⟨23, rfl, rfl⟩
  · have hfr : (mFrom m r.id = none ∧ fromR t.ps r.id = .error 23) ∨ ∃ fe hd, mFrom m r.id = some fe ∧ fromR t.ps r.id = .ok hd ∧ hd.kind = fe.kind ∧ fe.changes.length ≤ 65536 ∧ (fe.kind = 67 → rbR t.ps r.id = some (rowsF fe)) := by
      unfold mFrom fromR
      by_cases h0 : r.id = 0
      · rw [if_pos h0, if_neg (by simp [h0])]
        exact Or.inr ⟨_, _, rfl, rfl, rfl, Nat.zero_le _, fun _ => by rw [h0]; exact rbR_zero _⟩
      · rw [if_neg h0, if_pos (by simp [h0])]
        rcases hdr_tie h hq hr.id with ⟨g1, g2, -⟩ | ⟨fe, g1, hfe, g2, -⟩
        · exact Or.inl ⟨g1, g2⟩
        · exact Or.inr ⟨fe, _, g1, g2, rfl, hm.cl _ hfe, fun hk => rbR_f h hq hr.id g1 hk⟩
    rcases hfr with ⟨f1, f2⟩ | ⟨fe, hd, f1, f2, f3, f4, f5⟩
    · have e : recR t.ps r.id r.ref = .error 23 := by unfold recR; rw [e2]; dsimp only; rw [f2]
      rw [e, e1, f1]
      exact Or.inl ⟨23, rfl, rfl⟩
    · rw [e1, f1]
      dsimp only
      have e0 : recR t.ps r.id r.ref = if (fe.kind != 67) then .error 26 else if (fl.kind != 67) then .error 26 else if decide (r.ref ≤ r.id) then .error 16 else match rbR t.ps r.id with
        | none => .error 28
        | some b => match rbR t.ps r.ref with
          | none => .error 28
          | some a => .ok (reconcile b a) := by
        unfold recR
        rw [e2]
        dsimp only
        rw [f2]
        dsimp only
        rw [f3]
        rfl
      rw [e0]
      by_cases k1 : fe.kind = 67
      · have b1 : (fe.kind != 67) = false := by simp [k1]
        by_cases k2 : fl.kind = 67
        · have b2 : (fl.kind != 67) = false := by simp [k2]
          rw [b1, b2]
          by_cases k3 : r.ref ≤ r.id
          · simp only [k3, decide_true, Bool.false_eq_true, if_false, if_true, Bool.or_false]
            exact Or.inl ⟨16, rfl, rfl⟩
          · simp only [k3, decide_false, Bool.false_eq_true, if_false, Bool.or_false]
            rw [f5 k1, rbR_f h hq hr.ref e1 k2]
            dsimp only
            have r1 := FR.from h hr.id f1
            have r2 := FR.iss h hr.ref e1
            obtain ⟨hc, hd'⟩ := hm.rep _ _ hr.id hr.ref fe fl f1 e1 k1 k2 (by omega)
            have e : mDiffs (fe.changes.map (·.row)) (fl.changes.map (·.row)) = reconcile (rowsF fe) (rowsF fl) := mDiffs_eq r1.rise r2.rise
            rw [e] at hc hd' ⊢
            have hl := reconcile_len (rowsF fe) (rowsF fl)
            have hl1 : (rowsF fe).length = fe.changes.length := by simp [rowsF]
            have hl2 : (rowsF fl).length = fl.changes.length := by simp [rowsF]
            have hl3 := hm.cl _ hfl
            have hlt := repText_len hr.id hr.ref hd' (by omega)
            have e9 : repR r.id r.ref (reconcile (rowsF fe) (rowsF fl)) = .ok (repText r.id r.ref (reconcile (rowsF fe) (rowsF fl))) := by unfold repR; rw [if_pos hc]
            rw [e9]
            refine Or.inr ⟨_, _, rfl, rfl, ?_⟩
            rintro x y ⟨a, n, c, a2, n2, c2, rfl, hx, hx2⟩ ⟨a', n', c', a2', n2', c2', rfl, hy, hy2⟩
            exact ⟨rfl, ⟨nilA _ _ _, nilA _ _ _⟩, ⟨[], nilA _ _ _, nilA _ _ _⟩, ⟨_, RArr.all (hx2.rows byteCs_size (by decide) (by omega)), RArr.all hy2⟩, ⟨_, RArr.all (hx.rows diffCs_size (by decide) (by omega)), RArr.all hy⟩, ⟨[], nilA _ _ _, nilA _ _ _⟩⟩
        · have b2 : (fl.kind != 67) = true := by simp [k2]
          rw [b1, b2]
          exact Or.inl ⟨26, rfl, rfl⟩
      · have b1 : (fe.kind != 67) = true := by simp [k1]
        rw [b1]
        exact Or.inl ⟨26, rfl, rfl⟩
theorem rd30_a (h : TJ q t m rows) (hq : q ≤ 65536) (hrn : ∀ k, (rn k).size ≤ 64) (hkn : ∀ k, (kn k).size ≤ 64) : RdA W (rd30X rn kn W0 W t.ps) (rdM30 rn kn W1 W m) := by
  unfold rd30X rdM30 trailX
  rw [h.ai.trail]
  have e : rtR rn kn m.au = .ok (trText rn kn m.au) := by unfold rtR; rw [h.tr]; rfl
  have hl := trText_len hrn hkn h.eo (by have := h.al; omega) e
  dsimp only
  rw [e, h.tr]
  refine Or.inr ⟨_, _, rfl, rfl, ?_⟩
  rintro x y ⟨a, n, c, rfl, hx⟩ ⟨a', n', c', rfl, hy⟩
  exact bytesA hl.1 hx hy
end
/-- Two lists in strict order with the same members are one. -/
theorem strict_one {α : Type} {R : α → α → Prop} (asy : ∀ a b, R a b → R b a → False) : ∀ (l1 l2 : List α), l1.Pairwise R → l2.Pairwise R → (∀ x, x ∈ l1 ↔ x ∈ l2) → l1 = l2
  | [], [], _, _, _ => rfl
  | [], b :: l2, _, _, h => by have := (h b).2 (by simp); cases this
  | a :: l1, [], _, _, h => by have := (h a).1 (by simp); cases this
  | a :: l1, b :: l2, h1, h2, h => by
    obtain ⟨p1, p2⟩ := List.pairwise_cons.1 h1
    obtain ⟨q1, q2⟩ := List.pairwise_cons.1 h2
    have hab : a = b := by
      rcases List.mem_cons.1 ((h a).1 (by simp)) with e | e
      · exact e
      · rcases List.mem_cons.1 ((h b).2 (by simp)) with e' | e'
        · exact e'.symm
        · exact (asy _ _ (q1 a e) (p1 b e')).elim
    subst hab
    rw [strict_one asy l1 l2 p2 q2 fun x => ⟨fun hx => ?_, fun hx => ?_⟩]
    · rcases List.mem_cons.1 ((h x).1 (by simp [hx])) with e | e
      · subst e; exact (asy _ _ (p1 _ hx) (p1 _ hx)).elim
      · exact e
    · rcases List.mem_cons.1 ((h x).2 (by simp [hx])) with e | e
      · subst e; exact (asy _ _ (q1 _ hx) (q1 _ hx)).elim
      · exact e
def hLt (a b : HeldR) : Prop := a.sample < b.sample ∨ (a.sample = b.sample ∧ a.analyte < b.analyte)
theorem hLt_asy (a b : HeldR) (h1 : hLt a b) (h2 : hLt b a) : False := by unfold hLt at *; omega
theorem heldLt_iff {a b : HeldR} : heldLt a b = true ↔ hLt a b := by
  unfold heldLt hLt
  simp
theorem heldLt_false {a b : HeldR} : heldLt a b = false ↔ ¬ hLt a b := by
  rw [← heldLt_iff]
  simp
theorem filterMap_pw {α β : Type} {R : α → α → Prop} {S : β → β → Prop} (g : α → Option β) (hg : ∀ a a' b b', R a a' → g a = some b → g a' = some b' → S b b') : ∀ {l : List α}, l.Pairwise R → (l.filterMap g).Pairwise S
  | [], _ => List.Pairwise.nil
  | a :: l, h => by
    obtain ⟨h1, h2⟩ := List.pairwise_cons.1 h
    have ih := filterMap_pw g hg h2
    cases e : g a with
    | none => rw [List.filterMap_cons_none e]; exact ih
    | some b =>
      rw [List.filterMap_cons_some e]
      refine List.pairwise_cons.2 ⟨fun b' hb' => ?_, ih⟩
      obtain ⟨a', ha', e'⟩ := List.mem_filterMap.1 hb'
      exact hg a a' b b' (h1 a' ha') e e'
theorem mHeldOf_key {L : Low} {k : Row} {y : HeldR} (h : mHeldOf L k = some y) : y.sample = k.sample ∧ y.analyte = k.analyte := by
  unfold mHeldOf at h
  split at h
  · split at h
    · cases h
    · injection h with h
      rw [← h]
      exact ⟨rfl, rfl⟩
  · cases h
theorem keyL_apart {L : Low} (h : SU L.sm) : Apart (mKeyL L) := by
  unfold Apart mKeyL
  refine List.pairwise_map.2 ((List.pairwise_map.1 h.nd).imp fun {a b} k e => k ?_)
  simp only [resKey, Prod.mk.injEq]
  exact e
theorem mHeldOf_res {L : Low} (h : SU L.sm) {r : Res} (hr : r ∈ L.sm.rs) : mHeldOf L { zeroRow with sample := r.sample, analyte := r.analyte } = heldOf L r := by
  unfold mHeldOf heldOf
  rw [show resGet L.sm ({ zeroRow with sample := r.sample, analyte := r.analyte } : Row).sample ({ zeroRow with sample := r.sample, analyte := r.analyte } : Row).analyte = some r from h.get hr]
  obtain ⟨s, hs⟩ := h.smp hr
  rw [show smpGet L.sm ({ zeroRow with sample := r.sample, analyte := r.analyte } : Row).sample = some s from hs]
  dsimp only
  by_cases hz : holdsOf L s r = 0
  · rw [if_pos hz, if_neg (by simp [hz])]
  · rw [if_neg hz, if_pos (by simp [hz])]
theorem mHeld_eq {L : Low} (h : SU L.sm) : mHeld L = heldL L := by
  refine strict_one hLt_asy _ _ ?_ ?_ fun x => ?_
  · exact filterMap_pw (mHeldOf L) (fun a a' b b' k e e' => by
      have h1 := mHeldOf_key e
      have h2 := mHeldOf_key e'
      unfold keyLt at k
      unfold hLt
      omega) (ordK_rise (keyL_apart h))
  · show (sortL heldLt (L.sm.rs.filterMap (heldOf L))).Pairwise hLt
    have h1 := sortL_so heldLt (fun a b k => heldLt_false.2 fun k2 => hLt_asy a b (heldLt_iff.1 k) k2) (fun a b c k1 k2 => by
      rw [heldLt_false] at *
      unfold hLt at *
      omega) (L.sm.rs.filterMap (heldOf L))
    have h0 : (L.sm.rs.filterMap (heldOf L)).Pairwise fun a b => ¬ (a.sample = b.sample ∧ a.analyte = b.analyte) := by
      refine filterMap_pw (R := fun a b => resKey a ≠ resKey b) (heldOf L) (fun a a' b b' k e e' => ?_) (List.pairwise_map.1 h.nd)
      have h1 := heldOf_key e
      have h2 := heldOf_key e'
      intro q
      refine k ?_
      simp only [resKey, Prod.mk.injEq]
      omega
    have h2 : (sortL heldLt (L.sm.rs.filterMap (heldOf L))).Pairwise fun a b => ¬ (a.sample = b.sample ∧ a.analyte = b.analyte) := ((sortL_perm heldLt _).pairwise_iff (fun k e => k ⟨e.1.symm, e.2.symm⟩)).2 h0
    refine (h1.and h2).imp fun {a b} q => ?_
    have q1 := heldLt_false.1 q.1
    have q2 := q.2
    unfold hLt at *
    omega
  · unfold mHeld heldL
    rw [(sortL_perm heldLt _).mem_iff, List.mem_filterMap, List.mem_filterMap]
    constructor
    · rintro ⟨k, hk, e⟩
      rw [(ordK_perm _).mem_iff] at hk
      obtain ⟨r, hr, rfl⟩ := List.mem_map.1 hk
      exact ⟨r, hr, (mHeldOf_res h hr).symm.trans e⟩
    · rintro ⟨r, hr, e⟩
      exact ⟨_, (ordK_perm _).mem_iff.2 (List.mem_map.2 ⟨r, hr, rfl⟩), (mHeldOf_res h hr).trans e⟩
section
variable {q : Nat} {t : ST} {m : Mod} {rows : List Row} {r : Req} {rn kn : Nat → ByteArray} {ok : Nat → Prop} {W0 W1 W : World}
theorem rd29_a (h : TJ q t m rows) (hq : q ≤ 65536) (hi : Inv q t) (hu : SU t.low.sm) : RdA W (rd29X W0 W t.low) (rdM29 W1 W m) := by
  unfold rd29X rdM29
  rw [heldRs_eq hu, h.low, mHeld_eq hu]
  have hl : (heldL t.low).length ≤ 140737488355328 := by
    have h1 := heldL_len t.low
    have h4 := hi.low.sm.b
    omega
  refine Or.inr ⟨_, _, rfl, rfl, ?_⟩
  rintro x y ⟨a, n, c, rfl, hx⟩ ⟨a', n', c', rfl, hy⟩
  exact ⟨rfl, ⟨nilA _ _ _, nilA _ _ _⟩, ⟨[], nilA _ _ _, nilA _ _ _⟩, ⟨[], nilA _ _ _, nilA _ _ _⟩, ⟨[], nilA _ _ _, nilA _ _ _⟩, ⟨_, RArr.all (hx.rows heldCs_size (by decide) hl), RArr.all (hy.rows heldCs_size (by decide) hl)⟩⟩
/-- What is known on both sides between two steps. -/
structure TQ (rn kn : Nat → ByteArray) (q : Nat) (t : ST) (m : Mod) (rows : List Row) : Prop where
  tj : TJ q t m rows
  hq : q ≤ 65536
  inv : Inv q t
  su : SU t.low.sm
  vi : VI q t.low
  e0 : getB t.ps (key1B 97 0) = none
  mi : MInv m
  rs : ∀ k, (rn k).size ≤ 64
  ks : ∀ k, (kn k).size ≤ 64
theorem TQ.reads (h : TQ rn kn q t m rows) (hr : r.Ok) : RdA W (rdX rn kn W0 W t.ps t.low r) (rdM rn kn ok W1 W m r) := by
  unfold rdX rdM
  by_cases e1 : r.kind = 21
  · rw [if_pos e1, if_pos e1]; exact rd21_a h.tj hr
  rw [if_neg e1, if_neg e1]
  by_cases e2 : r.kind = 22
  · rw [if_pos e2, if_pos e2]; exact rd22_a h.tj
  rw [if_neg e2, if_neg e2]
  by_cases e3 : r.kind = 23
  · rw [if_pos e3, if_pos e3]; exact rd23_a h.tj hr h.e0
  rw [if_neg e3, if_neg e3]
  by_cases e4 : r.kind = 24
  · rw [if_pos e4, if_pos e4]; exact rd24_a h.tj h.su
  rw [if_neg e4, if_neg e4]
  by_cases e5 : r.kind = 25
  · rw [if_pos e5, if_pos e5]; exact rd25_a h.tj h.hq h.inv h.su h.vi
  rw [if_neg e5, if_neg e5]
  by_cases e6 : r.kind = 26
  · rw [if_pos e6, if_pos e6]; exact rd26_a h.tj h.hq hr
  rw [if_neg e6, if_neg e6]
  by_cases e7 : r.kind = 27
  · rw [if_pos e7, if_pos e7]; exact rd27_a h.tj h.hq hr h.mi
  rw [if_neg e7, if_neg e7]
  by_cases e8 : r.kind = 28
  · rw [if_pos e8, if_pos e8]; exact rd28_a h.tj h.hq hr h.mi
  rw [if_neg e8, if_neg e8]
  by_cases e9 : r.kind = 29
  · rw [if_pos e9, if_pos e9]; exact rd29_a h.tj h.hq h.inv h.su
  rw [if_neg e9, if_neg e9]
  exact rd30_a h.tj h.hq h.rs h.ks
theorem TQ.rsp (h : TQ rn kn q t m rows) (hr : r.Ok) {x y : Rsp} (hx : RspP rn kn W0 W t.ps t.full t.off t.lar t.low r x) (hy : RspM rn kn ok W1 W m r y) : RspA W x y := by
  have ha := auth_tie h.tj (u := r.user) (k := r.kind) hr.user
  by_cases hm : mReads m r
  · obtain ⟨m1, m2, m3, m4⟩ := hm
    rw [m2, m3, m4] at ha
    exact (h.reads hr).rsp (hx.1 m1 _ ha) (hy.1 ⟨m1, m2, m3, m4⟩)
  · have hn : isRdg r.kind = false ∨ ∃ c, authR t.ps r.user r.kind = .error c := by
      cases k0 : isRdg r.kind with
      | false => exact Or.inl rfl
      | true =>
        refine Or.inr ?_
        cases k1 : (mUser m r.user).2.1 with
        | false => rw [k1] at ha; exact ⟨3, ha⟩
        | true =>
          cases k2 : (mUser m r.user).2.2 with
          | false => rw [k1, k2] at ha; exact ⟨3, ha⟩
          | true =>
            cases k3 : mayP (mUser m r.user).1 r.kind with
            | false => rw [k1, k2, k3] at ha; exact ⟨4, ha⟩
            | true => exact absurd ⟨k0, k1, k2, k3⟩ hm
    obtain ⟨t1, t2, -⟩ := ex_tie h.tj h.hq h.inv h.su h.vi hr
    have e1 := hx.2 hn
    have e2 := hy.2 hm
    rw [t1, t2] at e1
    exact RspA.ofE e1 e2 rfl rfl rfl rfl rfl rfl
end
/-- Two answers that read alike. -/
structure AnsA (W : World) (a b : AnsR) : Prop where
  rsp : RspA W a.resp b.resp
  same : b.code = a.code ∧ b.fk = a.fk ∧ b.fs = a.fs ∧ b.fi = a.fi ∧ b.fb = a.fb
  fc : ∃ l, ChangesAt W (fun _ => True) (sv a.fc) l ∧ ChangesAt W (fun _ => True) (sv b.fc) l
  bys : ∃ l, BytesAt W (fun _ => True) (sv a.bytes) l ∧ BytesAt W (fun _ => True) (sv b.bytes) l
  tr : ∃ zs ys : List ZE, RArr W (fun _ => True) 20 zeCs (sv a.trail) zs ∧ RArr W (fun _ => True) 20 zeCs (sv b.trail) ys ∧ ZipE W (fun _ => True) zs ∧ ZipE W (fun _ => True) ys ∧ zs.map (·.1) = ys.map (·.1)
theorem trNil (W : World) {a b : AnsR} (h1 : a.trail = noS) (h2 : b.trail = noS) : ∃ zs ys : List ZE, RArr W (fun _ => True) 20 zeCs (sv a.trail) zs ∧ RArr W (fun _ => True) 20 zeCs (sv b.trail) ys ∧ ZipE W (fun _ => True) zs ∧ ZipE W (fun _ => True) ys ∧ zs.map (·.1) = ys.map (·.1) := by
  rw [h1, h2]
  exact ⟨[], [], nilA _ _ _, nilA _ _ _, (fun _ h => by cases h), (fun _ h => by cases h), rfl⟩
theorem AnsA.of0 {W : World} {a : AnsR} (h0 : RspA W a.resp a.resp) (h1 : a.fc = noS) (h2 : a.bytes = noS) (h3 : a.trail = noS) : AnsA W a a := by
  refine ⟨h0, ⟨rfl, rfl, rfl, rfl, rfl⟩, ⟨[], ?_⟩, ⟨[], ?_⟩, trNil W h3 h3⟩
  · rw [h1]; exact ⟨nilA _ _ _, nilA _ _ _⟩
  · rw [h2]; exact ⟨nilA _ _ _, nilA _ _ _⟩
theorem AnsA.code {W : World} {a b : AnsR} {c : Int} (ha : a = { ans0 with code := c }) (hb : b = { ans0 with code := c }) : AnsA W a b := by
  rw [ha, hb]
  exact AnsA.of0 (RspA.of0 rfl rfl rfl rfl rfl rfl) rfl rfl rfl
theorem AnsA.par {W0 W1 W : World} {p : PkF} {a b : AnsR} (ha : ParA W0 W p a) (hb : ParA W1 W p b) : AnsA W a b := by
  rcases ha with ⟨t1, ha⟩ | ⟨t1, ad, cap, rfl, h1⟩
  · rcases hb with ⟨t2, hb⟩ | ⟨t2, -⟩
    · exact AnsA.code ha hb
    · rw [t1] at t2; cases t2
  · rcases hb with ⟨t2, -⟩ | ⟨t2, ad', cap', rfl, h2⟩
    · rw [t1] at t2; cases t2
    · exact ⟨RspA.of0 rfl rfl rfl rfl rfl rfl, ⟨rfl, rfl, rfl, rfl, rfl⟩, ⟨p.cs, RArr.all h1, RArr.all h2⟩, ⟨[], nilA _ _ _, nilA _ _ _⟩, trNil W rfl rfl⟩
theorem AnsA.trl {W0 W1 W : World} {p : PkT} {a b : AnsR} (ha : TrlA W0 W p a) (hb : TrlA W1 W p b) : AnsA W a b := by
  rcases ha with ⟨t1, ha⟩ | ⟨t1, ad, cap, zs, rfl, h1, h2, h3⟩
  · rcases hb with ⟨t2, hb⟩ | ⟨t2, -⟩
    · exact AnsA.code ha hb
    · rw [t1] at t2; cases t2
  · rcases hb with ⟨t2, -⟩ | ⟨t2, ad', cap', ys, rfl, k1, k2, k3⟩
    · rw [t1] at t2; cases t2
    · exact ⟨RspA.of0 rfl rfl rfl rfl rfl rfl, ⟨rfl, rfl, rfl, rfl, rfl⟩, ⟨[], nilA _ _ _, nilA _ _ _⟩, ⟨[], nilA _ _ _, nilA _ _ _⟩, ⟨zs, ys, RArr.all h1, RArr.all k1, fun z hz => RArr.all (h2 z hz), fun z hz => RArr.all (k2 z hz), h3.trans k3.symm⟩⟩
theorem AnsA.ren {W0 W1 W : World} {f : FileD} {a b : AnsR} (ha : RenA W0 W f a) (hb : RenA W1 W f b) : AnsA W a b := by
  by_cases hf : FileOk f.kind f.seq f.issued f.base f.changes
  · obtain ⟨ad, n, c, rfl, h1⟩ := ha.1 hf
    obtain ⟨ad', n', c', rfl, h2⟩ := hb.1 hf
    exact ⟨RspA.of0 rfl rfl rfl rfl rfl rfl, ⟨rfl, rfl, rfl, rfl, rfl⟩, ⟨[], nilA _ _ _, nilA _ _ _⟩, ⟨_, RArr.all h1, RArr.all h2⟩, trNil W rfl rfl⟩
  · exact AnsA.code (ha.2 hf) (hb.2 hf)
theorem ParA.keep {W0 W1 W : World} {p : PkF} {a : AnsR} (h : ParA W0 W1 p a) (hs : ∀ b, W0.heap.size ≤ b → b < W1.heap.size → W.heap[b]? = W1.heap[b]?) : ParA W0 W p a := by
  rcases h with h | ⟨t, ad, cap, e, hc⟩
  · exact Or.inl h
  · exact Or.inr ⟨t, ad, cap, e, (RArr.lt hc).mono (fun b q => hs b q.1 q.2) (fun b q => q.1)⟩
theorem TrlA.keep {W0 W1 W : World} {p : PkT} {a : AnsR} (h : TrlA W0 W1 p a) (hs : ∀ b, W0.heap.size ≤ b → b < W1.heap.size → W.heap[b]? = W1.heap[b]?) : TrlA W0 W p a := by
  rcases h with h | ⟨t, ad, cap, zs, e, h1, h2, h3⟩
  · exact Or.inl h
  · exact Or.inr ⟨t, ad, cap, zs, e, (RArr.lt h1).mono (fun b q => hs b q.1 q.2) (fun b q => q.1), fun z hz => (RArr.lt (h2 z hz)).mono (fun b q => hs b q.1 q.2) (fun b q => q.1), h3⟩
theorem RenA.keep {W0 W1 W : World} {f : FileD} {a : AnsR} (h : RenA W0 W1 f a) (hs : ∀ b, W0.heap.size ≤ b → b < W1.heap.size → W.heap[b]? = W1.heap[b]?) : RenA W0 W f a :=
  ⟨fun k => by
    obtain ⟨ad, n, c, e, h1⟩ := h.1 k
    exact ⟨ad, n, c, e, (RArr.lt h1).mono (fun b q => hs b q.1 q.2) (fun b q => q.1)⟩, h.2⟩
theorem AnsQ.keep {rn kn : Nat → ByteArray} {W0 W1 W : World} {t : ST} {o : Op} {a : AnsR} (h : AnsQ rn kn W0 W1 t o a) (hs : ∀ b, W0.heap.size ≤ b → b < W1.heap.size → W.heap[b]? = W1.heap[b]?) : AnsQ rn kn W0 W t o a :=
  ⟨fun k => by
    obtain ⟨x, e, hx⟩ := h.k1 k
    exact ⟨x, e, hx.keep (Nat.le_refl _) hs⟩, h.k23, fun k => (h.k4 k).keep hs, fun k => ⟨(h.k5 k).1, fun bs e => ((h.k5 k).2 bs e).keep hs⟩, fun k => (h.k6 k).keep hs, fun k l bs e1 e2 => (h.k7 k l bs e1 e2).keep hs, h.kd⟩
section
variable {q : Nat} {t : ST} {m : Mod} {rows : List Row} {o : Op} {rn kn : Nat → ByteArray} {ok : Nat → Prop} {W0 W1 W : World}
theorem TQ.tx (h : TQ rn kn q t m rows) (hs : U32 o.seq) (hd : ByteL o.data) : TxOk rn kn t.ps o := by
  have e : rtR rn kn m.au = .ok (trText rn kn m.au) := by unfold rtR; rw [h.tj.tr]; rfl
  have hl := trText_len h.rs h.ks h.tj.eo (by have := h.tj.al; have := h.hq; omega) e
  refine ⟨fun bs hb => ?_, ⟨_, _, h.tj.ai.trail, e, hl.1, hl.2⟩, hd⟩
  rcases hdr_tie h.tj h.hq hs with ⟨-, -, e2⟩ | ⟨f, -, hf, -, e2⟩
  · rw [e2] at hb; cases hb
  · rw [e2] at hb
    injection hb with hb
    rw [← hb]
    exact txt_len h.mi hf
theorem TQ.ans (h : TQ rn kn q t m rows) (hr : o.req.Ok) (hs : U32 o.seq) {a b : AnsR} (ha : AnsQ rn kn W0 W t o a) (hb : AnsM rn kn ok W1 W m o b) : AnsA W a b := by
  by_cases k1 : o.kind = 1
  · obtain ⟨x, rfl, hx⟩ := ha.k1 k1
    obtain ⟨y, rfl, hy⟩ := hb.k1 k1
    exact ⟨h.rsp hr hx hy, ⟨rfl, rfl, rfl, rfl, rfl⟩, ⟨[], nilA _ _ _, nilA _ _ _⟩, ⟨[], nilA _ _ _, nilA _ _ _⟩, trNil W rfl rfl⟩
  by_cases k2 : o.kind = 2 ∨ o.kind = 3
  · rw [ha.k23 k2, hb.k23 k2]
    exact AnsA.of0 (RspA.of0 rfl rfl rfl rfl rfl rfl) rfl rfl rfl
  by_cases k4 : o.kind = 4
  · exact AnsA.par (ha.k4 k4) (hb.k4 k4)
  by_cases k5 : o.kind = 5
  · obtain ⟨a1, a2⟩ := ha.k5 k5
    obtain ⟨b1, b2⟩ := hb.k5 k5
    rcases hdr_tie h.tj h.hq hs with ⟨e1, -, e2⟩ | ⟨f, e1, hf, -, e2⟩
    · exact AnsA.code (a1 _ e2) (b1 e1)
    · exact AnsA.par (a2 _ e2) (b2 _ e1)
  by_cases k6 : o.kind = 6
  · exact AnsA.ren (ha.k6 k6) (hb.k6 k6)
  by_cases k7 : o.kind = 7
  · have e : rtR rn kn m.au = .ok (trText rn kn m.au) := by unfold rtR; rw [h.tj.tr]; rfl
    have e2 : trT rn kn m = trText rn kn m.au := by unfold trT; rw [h.tj.tr]; rfl
    have hb7 := hb.k7 k7
    rw [e2] at hb7
    exact AnsA.trl (ha.k7 k7 _ _ h.tj.ai.trail e) hb7
  have kd : o.kind ≠ 1 ∧ o.kind ≠ 2 ∧ o.kind ≠ 3 ∧ o.kind ≠ 4 ∧ o.kind ≠ 5 ∧ o.kind ≠ 6 ∧ o.kind ≠ 7 := by omega
  exact AnsA.code (ha.kd kd) (hb.kd kd)
end
end Go.Proofs.Qxb6500666aGreatDoor
