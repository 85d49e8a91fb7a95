/- One step, exactly: on the real side and on the model. -/
import Derived.Test.Qxb6500665aDoorBoth
namespace Go.Proofs.Qxb6500665aDoor
open Go.RowKit Go.Proofs.Qxb6500665aDoor.Cal

theorem Bn.keep {w w' : World} {B S : Nat} {A : Nat → Prop} {T : Tab} {full : Bool} {N : Nat} (h : Bn w B S A T full N) (hs : ∀ b, b < w.heap.size → (A b ∨ b = S ∨ b = B) → w'.heap[b]? = w.heap[b]?) (hz : w.heap.size ≤ w'.heap.size) : Bn w' B S A T full N := by
  obtain ⟨⟨P, ps, hb, hr, hl, hA⟩, hne, hout⟩ := h
  have hBl : B < w.heap.size := (cell_two hb.bench).2.2.2
  have hst := hb.at'.store
  refine ⟨⟨P, ps, ⟨(hs B hBl (Or.inr (Or.inr rfl))).trans hb.bench, ⟨(hs P (hst.lt P hA) (Or.inl hA)).trans hb.at'.proto, hst.mono (fun b hb' => ?_) hz⟩⟩, hr, hl, hA⟩, hne, hout⟩
  rcases hb' with hb' | rfl
  · exact hs b (hst.lt b hb') (Or.inl hb')
  · exact hs _ hst.size (Or.inr (Or.inl rfl))
theorem Bn.lt {w : World} {B S : Nat} {A : Nat → Prop} {T : Tab} {full : Bool} {N : Nat} (h : Bn w B S A T full N) : (∀ b, A b → b < w.heap.size) ∧ B < w.heap.size ∧ S < w.heap.size ∧ ¬ A S := by
  obtain ⟨⟨P, ps, hb, hr, hl, hA⟩, hne, hout⟩ := h
  exact ⟨hb.at'.store.lt, (cell_two hb.bench).2.2.2, hb.at'.store.size, hb.at'.store.out⟩
theorem Bn.vlen {w : World} {B S : Nat} {A : Nat → Prop} {T : Tab} {full : Bool} {N : Nat} (h : Bn w B S A T full N) : T.vers.length ≤ 1000000 := by
  obtain ⟨⟨P, ps, hb, hr, hl, hA⟩, hne, hout⟩ := h
  exact hr.vers.len

/-- What a step of the real side leaves, exactly. -/
structure StepX (w w' : World) (e : Ending) (B S B0 : Nat) (A : Nat → Prop) (X : PA) (T' : Tab) (full' : Bool) (N : Nat) : Prop where
  ex : ∃ x : Ans, e = .returned (.agg (ansCs x)) ∧ ARead w' (w.heap.size ≤ ·) x X
  bn : Bn w' B S (Anew w A w') T' full' N
  same : ∀ b, b < w.heap.size → b ≠ S → b ≠ B → w'.heap[b]? = w.heap[b]?
  below : Below B0 w w'

theorem StepX.of_post {w w' : World} {e : Ending} {B S P B0 : Nat} {A : Nat → Prop} {T' : Tab} {ps ps' : List KV} {full full' : Bool} {N : Nat} {a : Ans} {X : PA} (h : BAt w B P S A ps full) (hne : B ≠ S) (hout : ¬ A B) (hAP : A P) (hB : B0 ≤ S) (hp : StepPost w w' e S B P A ps' full' a) (hx : ARead w' (w.heap.size ≤ ·) a X) (hr : Rep ps' T') (hl : ps'.length ≤ N) : StepX w w' e B S B0 A X T' full' N := by
  have hBl : B < w.heap.size := (cell_two h.bench).2.2.2
  have hPl := h.at'.store.lt P hAP
  refine ⟨⟨a, hp.ret, hx⟩, ⟨⟨P, ps', ⟨hp.bench.trans h.bench, ⟨?_, hp.cmd.store⟩⟩, hr, hl, Or.inl hAP⟩, hne, fun hA => hA.elim hout (fun hA => by omega)⟩, fun b hb h1 _ => hp.cmd.kept.same b ⟨hb, h1⟩, hp.cmd.kept.below.mono hB⟩
  rw [hp.cmd.kept.same P ⟨hPl, fun e => h.at'.store.out (e ▸ hAP)⟩]
  exact h.at'.proto

theorem u32s_nil (w : World) (ok : Nat → Prop) : U32sAt w ok (.slice none 0 0) [] := RArr.nil _ _ _ _

/-- An answer of numbers only. -/
theorem aread_ints {w : World} {ok : Nat → Prop} {a : Ans} {X : PA} (h : a.code = X.code ∧ a.num = X.num ∧ a.p0 = X.p0 ∧ a.p1 = X.p1 ∧ a.p2 = X.p2 ∧ a.p3 = X.p3 ∧ a.v0 = X.v0 ∧ a.v1 = X.v1 ∧ a.a0 = X.a0 ∧ a.a1 = X.a1 ∧ a.a2 = X.a2 ∧ a.a3 = X.a3 ∧ a.s0 = X.s0 ∧ a.s1 = X.s1 ∧ a.s2 = X.s2) (h1 : a.list = (none, 0, 0)) (h2 : X.list = []) (h3 : a.vis = (none, 0, 0)) (h4 : X.vis = []) : ARead w ok a X :=
  ⟨by rw [h1, h2]; exact u32s_nil _ _, by rw [h3, h4]; exact visits_nil _ _, h⟩

theorem stepA_1 {T : Tab} {full : Bool} {o : Op} (hk : o.kind = 1) : stepA T full o = { code := mAn T full o.id o.l0 o.l1 o.l2 } := by
  unfold stepA
  rw [if_pos hk]
theorem stepA_2 {T : Tab} {full : Bool} {o : Op} (hk : o.kind = 2) : stepA T full o = { code := mPan T full o.id o.list } := by
  unfold stepA
  rw [if_neg (by omega), if_pos hk]
theorem stepA_3 {T : Tab} {full : Bool} {o : Op} (hk : o.kind = 3) : stepA T full o = { code := mAm T full o.minute o.visits, num := amNum (mAm T full o.minute o.visits) T.vers.length } := by
  unfold stepA
  rw [if_neg (by omega), if_neg (by omega), if_pos hk]
theorem stepA_4 {T : Tab} {full : Bool} {o : Op} (hk : o.kind = 4) : stepA T full o = { code := mSite T full o.id } := by
  unfold stepA
  rw [if_neg (by omega), if_neg (by omega), if_neg (by omega), if_pos hk]
theorem stepA_5 {T : Tab} {full : Bool} {o : Op} (hk : o.kind = 5) : stepA T full o = { code := mEnr T full o.id o.ref o.minute } := by
  unfold stepA
  rw [if_neg (by omega), if_neg (by omega), if_neg (by omega), if_neg (by omega), if_pos hk]
theorem stepA_6 {T : Tab} {full : Bool} {o : Op} (hk : o.kind = 6) : stepA T full o = { code := (clsR T o.id o.ref o.minute).code, p0 := (clsR T o.id o.ref o.minute).num, p1 := (clsR T o.id o.ref o.minute).cls, p2 := (clsR T o.id o.ref o.minute).opens, p3 := (clsR T o.id o.ref o.minute).closes } := by
  unfold stepA
  rw [if_neg (by omega), if_neg (by omega), if_neg (by omega), if_neg (by omega), if_neg (by omega), if_pos hk]
theorem stepA_7 {T : Tab} {full : Bool} {o : Op} (hk : o.kind = 7) : stepA T full o = { code := (verAtR T o.minute).1, v0 := (verAtR T o.minute).2.1, v1 := (verAtR T o.minute).2.2.1, vis := (verAtR T o.minute).2.2.2 } := by
  unfold stepA
  rw [if_neg (by omega), if_neg (by omega), if_neg (by omega), if_neg (by omega), if_neg (by omega), if_neg (by omega), if_pos hk]
theorem stepA_8 {T : Tab} {full : Bool} {o : Op} (hk : o.kind = 8) : stepA T full o = { code := (verR T o.id).1, v0 := (verR T o.id).2.1, v1 := (verR T o.id).2.2.1, vis := (verR T o.id).2.2.2 } := by
  unfold stepA
  rw [if_neg (by omega), if_neg (by omega), if_neg (by omega), if_neg (by omega), if_neg (by omega), if_neg (by omega), if_neg (by omega), if_pos hk]
theorem stepA_9 {T : Tab} {full : Bool} {o : Op} (hk : o.kind = 9) : stepA T full o = { code := (anR T o.id).1, a0 := (anR T o.id).2.1, a1 := (anR T o.id).2.2.1, a2 := (anR T o.id).2.2.2.1, a3 := (anR T o.id).2.2.2.2 } := by
  unfold stepA
  rw [if_neg (by omega), if_neg (by omega), if_neg (by omega), if_neg (by omega), if_neg (by omega), if_neg (by omega), if_neg (by omega), if_neg (by omega), if_pos hk]
theorem stepA_10 {T : Tab} {full : Bool} {o : Op} (hk : o.kind = 10) : stepA T full o = { code := (panR T o.id).1, list := (panR T o.id).2.2 } := by
  unfold stepA
  rw [if_neg (by omega), if_neg (by omega), if_neg (by omega), if_neg (by omega), if_neg (by omega), if_neg (by omega), if_neg (by omega), if_neg (by omega), if_neg (by omega), if_pos hk]
theorem stepA_11 {T : Tab} {full : Bool} {o : Op} (hk : o.kind = 11) : stepA T full o = { code := (subR T o.id).1, s0 := (subR T o.id).2.1, s1 := (subR T o.id).2.2.1, s2 := (subR T o.id).2.2.2 } := by
  unfold stepA
  rw [if_neg (by omega), if_neg (by omega), if_neg (by omega), if_neg (by omega), if_neg (by omega), if_neg (by omega), if_neg (by omega), if_neg (by omega), if_neg (by omega), if_neg (by omega), if_pos hk]
theorem stepA_12 {T : Tab} {full : Bool} {o : Op} (hk : o.kind = 12) : stepA T full o = { code := (limR T o.id (if 255 < o.ref then 0 else o.ref)).1, num := (limR T o.id (if 255 < o.ref then 0 else o.ref)).2 } := by
  unfold stepA
  rw [if_neg (by omega), if_neg (by omega), if_neg (by omega), if_neg (by omega), if_neg (by omega), if_neg (by omega), if_neg (by omega), if_neg (by omega), if_neg (by omega), if_neg (by omega), if_neg (by omega), if_pos hk]
theorem stepA_13 {T : Tab} {full : Bool} {o : Op} (hk : o.kind = 13) : stepA T full o = { code := (mtsR T o.ref o.minute).1, list := (mtsR T o.ref o.minute).2 } := by
  unfold stepA
  rw [if_neg (by omega), if_neg (by omega), if_neg (by omega), if_neg (by omega), if_neg (by omega), if_neg (by omega), if_neg (by omega), if_neg (by omega), if_neg (by omega), if_neg (by omega), if_neg (by omega), if_neg (by omega), if_pos hk]
theorem stepA_14 {T : Tab} {full : Bool} {o : Op} (hk : o.kind = 14) : stepA T full o = { list := ascOf (fun x => U32 x ∧ T.site x = true) } := by
  unfold stepA
  rw [if_neg (by omega), if_neg (by omega), if_neg (by omega), if_neg (by omega), if_neg (by omega), if_neg (by omega), if_neg (by omega), if_neg (by omega), if_neg (by omega), if_neg (by omega), if_neg (by omega), if_neg (by omega), if_neg (by omega), if_pos hk]
theorem stepA_15 {T : Tab} {full : Bool} {o : Op} (hk : o.kind = 15) : stepA T full o = { list := ascOf (fun x => U32 x ∧ ∃ l, T.sub x = some l ∧ (o.ref = 0 ∨ l.1 = o.ref)) } := by
  unfold stepA
  rw [if_neg (by omega), if_neg (by omega), if_neg (by omega), if_neg (by omega), if_neg (by omega), if_neg (by omega), if_neg (by omega), if_neg (by omega), if_neg (by omega), if_neg (by omega), if_neg (by omega), if_neg (by omega), if_neg (by omega), if_neg (by omega), if_pos hk]
theorem stepA_16 {T : Tab} {full : Bool} {o : Op} (hk : o.kind = 16) : stepA T full o = { code := (dayR o.minute).1, num := (dayR o.minute).2 } := by
  unfold stepA
  rw [if_neg (by omega), if_neg (by omega), if_neg (by omega), if_neg (by omega), if_neg (by omega), if_neg (by omega), if_neg (by omega), if_neg (by omega), if_neg (by omega), if_neg (by omega), if_neg (by omega), if_neg (by omega), if_neg (by omega), if_neg (by omega), if_neg (by omega), if_pos hk]
theorem stepA_17 {T : Tab} {full : Bool} {o : Op} (hk : o.kind = 17) : stepA T full o = { code := (addR o.minute o.delta).1, num := (addR o.minute o.delta).2 } := by
  unfold stepA
  rw [if_neg (by omega), if_neg (by omega), if_neg (by omega), if_neg (by omega), if_neg (by omega), if_neg (by omega), if_neg (by omega), if_neg (by omega), if_neg (by omega), if_neg (by omega), if_neg (by omega), if_neg (by omega), if_neg (by omega), if_neg (by omega), if_neg (by omega), if_neg (by omega), if_pos hk]
theorem stepA_18 {T : Tab} {full : Bool} {o : Op} (hk : o.kind = 18) : stepA T full o = {} := by
  unfold stepA
  rw [if_neg (by omega), if_neg (by omega), if_neg (by omega), if_neg (by omega), if_neg (by omega), if_neg (by omega), if_neg (by omega), if_neg (by omega), if_neg (by omega), if_neg (by omega), if_neg (by omega), if_neg (by omega), if_neg (by omega), if_neg (by omega), if_neg (by omega), if_neg (by omega), if_neg (by omega), if_pos hk]
theorem stepA_19 {T : Tab} {full : Bool} {o : Op} (hk : o.kind = 19) : stepA T full o = {} := by
  unfold stepA
  rw [if_neg (by omega), if_neg (by omega), if_neg (by omega), if_neg (by omega), if_neg (by omega), if_neg (by omega), if_neg (by omega), if_neg (by omega), if_neg (by omega), if_neg (by omega), if_neg (by omega), if_neg (by omega), if_neg (by omega), if_neg (by omega), if_neg (by omega), if_neg (by omega), if_neg (by omega), if_neg (by omega), if_pos hk]
theorem stepA_default {T : Tab} {full : Bool} {o : Op} (h : o.kind < 1 ∨ 19 < o.kind) : stepA T full o = { code := 1 } := by
  unfold stepA
  iterate 19 rw [if_neg (by omega)]

/-- A step of the real side, whatever its kind. -/
theorem step_x (w : World) (B S B0 : Nat) (A ok : Nat → Prop) (T : Tab) (full : Bool) (N : Nat) (o : Op) (la va : Option Addr) (ln lc vn vc : Nat) (h : Bn w B S A T full N) (hT : TOk T) (hN : N ≤ 800000) (hB : B0 ≤ S) (hBB : B0 ≤ B) (hTl : T.vers.length ≤ 800000) (ho : o.Ok) (hl : U32sAt w ok (.slice la ln lc) o.list) (hv : VisitsAt w ok (.slice va vn vc) o.visits) :
    Calls Tryd.prog 9 #[.pointer (some ⟨B, 0, none⟩), .agg (opCs o (.slice la ln lc) (.slice va vn vc))] w fun e w' => StepX w w' e B S B0 A (stepA T full o) (stepT T full o) (stepF full o) (if o.kind ≤ 5 then N + 2 else N) := by
  obtain ⟨⟨P, ps, hb, hr, hpl, hAP⟩, hne, hout⟩ := h
  have hps : ps.length ≤ 900000 := by omega
  have q : ∀ {e w' a X} {T' : Tab} {ps' full' N'}, StepPost w w' e S B P A ps' full' a → ARead w' (w.heap.size ≤ ·) a X → Rep ps' T' → ps'.length ≤ N' → StepX w w' e B S B0 A X T' full' N' := fun h1 h2 h3 h4 => StepX.of_post hb hne hout hAP hB h1 h2 h3 h4
  have ql : ∀ {e w' a X}, StepPost w w' e S B P A ps full a → ARead w' (w.heap.size ≤ ·) a X → stepA T full o = X → (o.kind < 1 ∨ 5 < o.kind) → o.kind ≠ 18 → StepX w w' e B S B0 A (stepA T full o) (stepT T full o) (stepF full o) (if o.kind ≤ 5 then N + 2 else N) := fun h1 h2 h3 h4 h5 => by
    rw [h3, stepT_query h4, stepF_other h5]
    exact q h1 h2 hr (by split <;> omega)
  by_cases hk : o.kind < 1 ∨ 19 < o.kind
  · exact (step_default w B P S A ps full o la va ln lc vn vc hb hk).mono fun e w' h1 => ql h1 (aread_ints (by simp) rfl rfl rfl rfl) (stepA_default hk) (by omega) (by omega)
  rcases (show o.kind = 1 ∨ o.kind = 2 ∨ o.kind = 3 ∨ o.kind = 4 ∨ o.kind = 5 ∨ o.kind = 6 ∨ o.kind = 7 ∨ o.kind = 8 ∨ o.kind = 9 ∨ o.kind = 10 ∨ o.kind = 11 ∨ o.kind = 12 ∨ o.kind = 13 ∨ o.kind = 14 ∨ o.kind = 15 ∨ o.kind = 16 ∨ o.kind = 17 ∨ o.kind = 18 ∨ o.kind = 19 by omega) with k | k | k | k | k | k | k | k | k | k | k | k | k | k | k | k | k | k | k
  · refine (step_1 w B P S A ps full o la va ln lc vn vc hb hne hps k ho.id ho.l0 ho.l1 ho.l2).mono fun e w' h1 => ?_
    rw [anErr_eq hr ho.id] at h1
    have hT : stepT T full o = mAnT T full o.id o.l0 o.l1 o.l2 := by rw [stepT, if_pos k]
    rw [stepA_1 k, hT, stepF_other (by omega), if_pos (by omega)]
    unfold mAnT
    by_cases hz : mAn T full o.id o.l0 o.l1 o.l2 = 0
    · rw [cmdPs_yes hz] at h1
      rw [if_pos hz]
      exact q h1 (aread_ints (by simp) rfl rfl rfl rfl) (hr.addAn ho.id ho.l0 ho.l1 ho.l2) (by have := putB_len ps (keyB 97 o.id, anaB o.l0 o.l1 o.l2); show (putB ps _).length ≤ _; omega)
    · rw [cmdPs_no hz] at h1
      rw [if_neg hz]
      exact q h1 (aread_ints (by simp) rfl rfl rfl rfl) hr (by omega)
  · refine (step_2 w B P S A ps full o la va ln lc vn vc hb hne hps k ok ho.id hl ho.list).mono fun e w' h1 => ?_
    rw [panErr_eq hr ho.id ho.list] at h1
    have hT : stepT T full o = mPanT T full o.id o.list := by rw [stepT, if_neg (by omega), if_pos k]
    rw [stepA_2 k, hT, stepF_other (by omega), if_pos (by omega)]
    unfold mPanT
    by_cases hz : mPan T full o.id o.list = 0
    · rw [cmdPs_yes hz] at h1
      rw [if_pos hz]
      obtain ⟨a1, a2⟩ := panErr_zero ((panErr_eq hr ho.id ho.list).trans hz)
      exact q h1 (aread_ints (by simp) rfl rfl rfl rfl) (hr.addPan ho.id a1 a2 ho.list) (by have := putB_len ps (keyB 112 o.id, idsB o.list); show (putB ps _).length ≤ _; omega)
    · rw [cmdPs_no hz] at h1
      rw [if_neg hz]
      exact q h1 (aread_ints (by simp) rfl rfl rfl rfl) hr (by omega)
  · refine (step_3 w B P S A ps full o la va ln lc vn vc hb hne hps T.vers hr.vers ok k hv ho.visits).mono fun e w' h1 => ?_
    have he := amErr_eq hr (full := full) (eff := o.minute) ho.visits
    have hT : stepT T full o = mAmT T full o.minute o.visits := by rw [stepT, if_neg (by omega), if_neg (by omega), if_pos k]
    rw [stepA_3 k, hT, stepF_other (by omega), if_pos (by omega)]
    unfold mAmT
    by_cases hz : amErr ps T.vers full o.minute o.visits = 0
    · rw [cmdPs_yes hz, he] at h1
      rw [if_pos (he.symm.trans hz)]
      obtain ⟨a1, a2, a3, a4, a5, a6, a7⟩ := amErr_zero hz
      have hso : ∀ x ∈ sortV o.visits, x ∈ o.visits := fun x hx => (sortL_perm ltV o.visits).mem_iff.1 hx
      have hvo : VerOk (o.minute, sortV o.visits) := ⟨ho.minute, fun x hx => ho.visits x (hso x hx), fun x hx => (visErr_ok (a4 x (hso x hx))).2.2.2.2.2.2.2, by show (sortL ltV o.visits).length ≤ 12; rw [(sortL_perm ltV o.visits).length_eq]; exact a3⟩
      exact q h1 (aread_ints (by simp) rfl rfl rfl rfl) (hr.amend (by omega) hvo a4) (by have := applyB_len (amWs T.vers o.minute o.visits) ps; have e2 : (amWs T.vers o.minute o.visits).length = 2 := rfl; omega)
    · rw [cmdPs_no hz, he] at h1
      rw [if_neg (fun h => hz (he.trans h))]
      exact q h1 (aread_ints (by simp) rfl rfl rfl rfl) hr (by omega)
  · refine (step_4 w B P S A ps full o la va ln lc vn vc hb hne hps k ho.id).mono fun e w' h1 => ?_
    rw [siteErr_eq hr ho.id] at h1
    have hT : stepT T full o = mSiteT T full o.id := by rw [stepT, if_neg (by omega), if_neg (by omega), if_neg (by omega), if_pos k]
    rw [stepA_4 k, hT, stepF_other (by omega), if_pos (by omega)]
    unfold mSiteT
    by_cases hz : mSite T full o.id = 0
    · rw [cmdPs_yes hz] at h1
      rw [if_pos hz]
      exact q h1 (aread_ints (by simp) rfl rfl rfl rfl) (hr.addSite ho.id) (by have := putB_len ps (keyB 115 o.id, []); show (putB ps _).length ≤ _; omega)
    · rw [cmdPs_no hz] at h1
      rw [if_neg hz]
      exact q h1 (aread_ints (by simp) rfl rfl rfl rfl) hr (by omega)
  · refine (step_5 w B P S A ps full o la va ln lc vn vc hb hne hps k T.vers hr.vers ho.id ho.ref ho.minute).mono fun e w' h1 => ?_
    have he := enrErr_eq hr (full := full) (id := o.id) (site := o.ref) (anchor := o.minute) ho.id ho.ref
    have hT : stepT T full o = mEnrT T full o.id o.ref o.minute := by rw [stepT, if_neg (by omega), if_neg (by omega), if_neg (by omega), if_neg (by omega), if_pos k]
    rw [stepA_5 k, hT, stepF_other (by omega), if_pos (by omega)]
    unfold mEnrT
    by_cases hz : enrErr ps T.vers full o.id o.ref o.minute = 0
    · rw [cmdPs_yes hz, he] at h1
      rw [if_pos (he.symm.trans hz)]
      obtain ⟨a1, a2, a3⟩ := enrErr_zero hz
      exact q h1 (aread_ints (by simp) rfl rfl rfl rfl) (hr.addSub ho.id ho.ref a1 a2) (by have := putB_len ps (keyB 117 o.id, subB o.ref o.minute); show (putB ps _).length ≤ _; omega)
    · rw [cmdPs_no hz, he] at h1
      rw [if_neg (fun h => hz (he.trans h))]
      exact q h1 (aread_ints (by simp) rfl rfl rfl rfl) hr (by omega)
  · exact (step_6 w B P S A ps full o la va ln lc vn vc hb T hr k ho.id).mono fun e w' h1 => ql h1 (aread_ints (by simp) rfl rfl rfl rfl) (stepA_6 k) (by omega) (by omega)
  · exact (step_7 w B P S A ps full o la va ln lc vn vc hb T hr k).mono fun e w' ⟨s, h1, h2⟩ => ql h1 ⟨u32s_nil _ _, h2, by simp⟩ (stepA_7 k) (by omega) (by omega)
  · exact (step_8 w B P S A ps full o la va ln lc vn vc hb T hr k ho.id).mono fun e w' ⟨s, h1, h2⟩ => ql h1 ⟨u32s_nil _ _, h2, by simp⟩ (stepA_8 k) (by omega) (by omega)
  · exact (step_9 w B P S A ps full o la va ln lc vn vc hb T hr k ho.id).mono fun e w' h1 => ql h1 (aread_ints (by simp) rfl rfl rfl rfl) (stepA_9 k) (by omega) (by omega)
  · exact (step_10 w B P S A ps full o la va ln lc vn vc hb T hr k ho.id).mono fun e w' ⟨s, h1, h2⟩ => ql h1 ⟨h2, visits_nil _ _, by simp⟩ (stepA_10 k) (by omega) (by omega)
  · exact (step_11 w B P S A ps full o la va ln lc vn vc hb T hr k ho.id).mono fun e w' h1 => ql h1 (aread_ints (by simp) rfl rfl rfl rfl) (stepA_11 k) (by omega) (by omega)
  · have hA : stepA T full o = { code := (limR T o.id (if 255 < o.ref then 0 else o.ref)).1, num := (limR T o.id (if 255 < o.ref then 0 else o.ref)).2 } := stepA_12 k
    by_cases hre : o.ref ≤ 255
    · rw [if_neg (by omega)] at hA
      exact (step_12a w B P S A ps full o la va ln lc vn vc hb T hr k ho.id ⟨ho.ref.1, hre⟩).mono fun e w' h1 => ql h1 (aread_ints (by simp) rfl rfl rfl rfl) hA (by omega) (by omega)
    · rw [if_pos (by omega)] at hA
      exact (step_12b w B P S A ps full o la va ln lc vn vc hb T hr k ho.id ⟨by omega, ho.ref.2⟩).mono fun e w' h1 => ql h1 (aread_ints (by simp) rfl rfl rfl rfl) hA (by omega) (by omega)
  · refine (step_13 w B P S A ps full o la va ln lc vn vc hb T hr k).mono fun e w' ⟨s, h1, h2⟩ => ?_
    rw [(tsR_eq hT o.ref o.minute).1] at h1 h2
    exact ql h1 ⟨h2, visits_nil _ _, by simp⟩ (stepA_13 k) (by omega) (by omega)
  · refine (step_14 w B P S A ps full o la va ln lc vn vc hb T hr hps k).mono fun e w' ⟨s, h1, h2⟩ => ?_
    rw [← ascOf_eq (sitesOf_strict hr) (sitesOf_mem hr)] at h2
    exact ql h1 ⟨h2, visits_nil _ _, by simp⟩ (stepA_14 k) (by omega) (by omega)
  · refine (step_15 w B P S A ps full o la va ln lc vn vc hb T hr k hps).mono fun e w' ⟨s, h1, h2⟩ => ?_
    rw [← ascOf_eq (subsOf_strict hr o.ref) (subsOf_mem hr o.ref)] at h2
    exact ql h1 ⟨h2, visits_nil _ _, by simp⟩ (stepA_15 k) (by omega) (by omega)
  · exact (step_16 w B P S A ps full o la va ln lc vn vc hb k).mono fun e w' h1 => ql h1 (aread_ints (by simp) rfl rfl rfl rfl) (stepA_16 k) (by omega) (by omega)
  · exact (step_17 w B P S A ps full o la va ln lc vn vc hb k).mono fun e w' h1 => ql h1 (aread_ints (by simp) rfl rfl rfl rfl) (stepA_17 k) (by omega) (by omega)
  · refine (step_18 w B P S A ps full o la va ln lc vn vc hb hne k).mono fun e w' h1 => ?_
    have hF : stepF full o = (o.ref == 1) := by rw [stepF, if_pos k]; rfl
    rw [stepA_18 k, stepT_query (by omega), hF, if_neg (by omega)]
    exact q h1 (aread_ints (by simp) rfl rfl rfl rfl) hr (by omega)
  · refine (step_19 w B P S A ps full o la va ln lc vn vc hb hne hout k).mono ?_
    rintro e w' ⟨h1, h2, h3, h4, h5⟩
    rw [stepA_19 k, stepT_query (by omega), stepF_other (by omega), if_neg (by omega)]
    have hBl : B < w.heap.size := (cell_two hb.bench).2.2.2
    have hPl : w.heap.size + 3 < w'.heap.size := (cell_one h2.at'.proto).2.2
    refine ⟨⟨{}, h1, aread_ints (by simp) rfl rfl rfl rfl⟩, ⟨⟨w.heap.size + 3, ps, ⟨h2.bench, ⟨h2.at'.proto, ?_⟩⟩, hr, by omega, Or.inr ⟨by omega, hPl⟩⟩, hne, fun hA => hA.elim hout (fun hA => by omega)⟩, fun b hb' h6 h7 => h3 b hb' h7, h4.mono hBB⟩
    obtain ⟨pv, z1, z2⟩ := h2.at'.store.ex
    have hSl := hb.at'.store.size
    exact ⟨⟨pv, z1, z2.mono (Same.refl _ _) (fun b hx => Or.inl hx)⟩, fun hA => hA.elim h2.at'.store.out (fun hA => by omega), fun b hx => hx.elim (h2.at'.store.lt b) (fun hx => hx.2)⟩

/-- A step of the model, whatever its kind. -/
theorem mstep_x (w : World) (M base N a p s u : Nat) (v : Value) (C : Nat → Prop) (ok : Nat → Prop) (T : Tab) (full : Bool) (o : Op) (la va : Option Addr) (ln lc vn vc : Nat) (h : MAt w M base N a p s u v C T full) (hT : TOk T) (hN : N ≤ 5000000) (hvl : T.vers.length ≤ 1000000) (ho : o.Ok) (hl : U32sAt w ok (.slice la ln lc) o.list) (hv : VisitsAt w (· < base) (.slice va vn vc) o.visits) :
    Calls Tryd.prog 10 #[.pointer (some ⟨M, 0, none⟩), .agg (opCs o (.slice la ln lc) (.slice va vn vc))] w fun e w' => MSPost w w' e M base (N + 1) a p s u v C (stepA T full o) (stepT T full o) (stepF full o) := by
  have ql : ∀ {e w' X}, MSPost w w' e M base (N + 1) a p s u v C X T full → stepA T full o = X → (o.kind < 1 ∨ 5 < o.kind) → o.kind ≠ 18 → MSPost w w' e M base (N + 1) a p s u v C (stepA T full o) (stepT T full o) (stepF full o) := fun h1 h2 h3 h4 => by
    rw [h2, stepT_query h3, stepF_other h4]
    exact h1
  by_cases hk : o.kind < 1 ∨ 19 < o.kind
  · exact (mstep_default w M base N a p s u v C T full o la va ln lc vn vc h hk).mono fun e w' h1 => ql h1 (stepA_default hk) (by omega) (by omega)
  rcases (show o.kind = 1 ∨ o.kind = 2 ∨ o.kind = 3 ∨ o.kind = 4 ∨ o.kind = 5 ∨ o.kind = 6 ∨ o.kind = 7 ∨ o.kind = 8 ∨ o.kind = 9 ∨ o.kind = 10 ∨ o.kind = 11 ∨ o.kind = 12 ∨ o.kind = 13 ∨ o.kind = 14 ∨ o.kind = 15 ∨ o.kind = 16 ∨ o.kind = 17 ∨ o.kind = 18 ∨ o.kind = 19 by omega) with k | k | k | k | k | k | k | k | k | k | k | k | k | k | k | k | k | k | k
  · refine (mstep_1 w M base N a p s u v C T full o la va ln lc vn vc h ho.id (by omega) k).mono fun e w' h1 => ?_
    have hT : stepT T full o = mAnT T full o.id o.l0 o.l1 o.l2 := by rw [stepT, if_pos k]
    rw [stepA_1 k, hT, stepF_other (by omega)]
    exact h1
  · refine (mstep_2 w M base N a p s u v C T full o la va ln lc vn vc h ok ho.id hl ho.list (by omega) k).mono fun e w' h1 => ?_
    have hT : stepT T full o = mPanT T full o.id o.list := by rw [stepT, if_neg (by omega), if_pos k]
    rw [stepA_2 k, hT, stepF_other (by omega)]
    exact h1
  · refine (mstep_3 w M base N a p s u v C T full o la va ln lc vn vc h hv ho.visits hvl k).mono fun e w' h1 => ?_
    have hT : stepT T full o = mAmT T full o.minute o.visits := by rw [stepT, if_neg (by omega), if_neg (by omega), if_pos k]
    rw [stepA_3 k, hT, stepF_other (by omega)]
    exact h1
  · refine (mstep_4 w M base N a p s u v C T full o la va ln lc vn vc h ho.id (by omega) k).mono fun e w' h1 => ?_
    have hT : stepT T full o = mSiteT T full o.id := by rw [stepT, if_neg (by omega), if_neg (by omega), if_neg (by omega), if_pos k]
    rw [stepA_4 k, hT, stepF_other (by omega)]
    exact h1
  · refine (mstep_5 w M base N a p s u v C T full o la va ln lc vn vc h ho.id ho.ref hT.asc hvl (by omega) k).mono fun e w' h1 => ?_
    have hT : stepT T full o = mEnrT T full o.id o.ref o.minute := by rw [stepT, if_neg (by omega), if_neg (by omega), if_neg (by omega), if_neg (by omega), if_pos k]
    rw [stepA_5 k, hT, stepF_other (by omega)]
    exact h1
  · exact (mstep_6 w M base N a p s u v C T full o la va ln lc vn vc h ho.id hT.asc hvl hT.nd hT.tg hT.vb hT.len hT.sub k).mono fun e w' h1 => ql h1 (stepA_6 k) (by omega) (by omega)
  · exact (mstep_7 w M base N a p s u v C T full o la va ln lc vn vc h hT.asc hvl k).mono fun e w' h1 => ql h1 (stepA_7 k) (by omega) (by omega)
  · exact (mstep_8 w M base N a p s u v C T full o la va ln lc vn vc h ho.id hvl k).mono fun e w' h1 => ql h1 (stepA_8 k) (by omega) (by omega)
  · exact (mstep_9 w M base N a p s u v C T full o la va ln lc vn vc h ho.id k).mono fun e w' h1 => ql h1 (stepA_9 k) (by omega) (by omega)
  · exact (mstep_10 w M base N a p s u v C T full o la va ln lc vn vc h ho.id k).mono fun e w' h1 => ql h1 (stepA_10 k) (by omega) (by omega)
  · exact (mstep_11 w M base N a p s u v C T full o la va ln lc vn vc h ho.id k).mono fun e w' h1 => ql h1 (stepA_11 k) (by omega) (by omega)
  · exact (mstep_12 w M base N a p s u v C T full o la va ln lc vn vc h ho.id ho.ref k).mono fun e w' h1 => ql h1 (stepA_12 k) (by omega) (by omega)
  · exact (mstep_13 w M base N a p s u v C T full o la va ln lc vn vc h hT.asc hvl hT.kn hT.pl hT.len hT.pan (by have := (tsR_eq hT o.ref o.minute).2; omega) k).mono fun e w' h1 => ql h1 (stepA_13 k) (by omega) (by omega)
  · refine (mstep_14 w M base N a p s u v C T full o la va ln lc vn vc h hN k).mono fun e w' ⟨L, l1, l2, l3, h1⟩ => ?_
    rw [← ascOf_eq l2 l1] at h1
    exact ql h1 (stepA_14 k) (by omega) (by omega)
  · refine (mstep_15 w M base N a p s u v C T full o la va ln lc vn vc h hN k).mono fun e w' ⟨L, l1, l2, l3, h1⟩ => ?_
    rw [← ascOf_eq l2 l1] at h1
    exact ql h1 (stepA_15 k) (by omega) (by omega)
  · exact (mstep_16 w M base N a p s u v C T full o la va ln lc vn vc h k).mono fun e w' h1 => ql h1 (stepA_16 k) (by omega) (by omega)
  · exact (mstep_17 w M base N a p s u v C T full o la va ln lc vn vc h ho.delta k).mono fun e w' h1 => ql h1 (stepA_17 k) (by omega) (by omega)
  · refine (mstep_18 w M base N a p s u v C T full o la va ln lc vn vc h k).mono fun e w' h1 => ?_
    have hF : stepF full o = decide (o.ref = 1) := by rw [stepF, if_pos k]
    rw [stepA_18 k, stepT_query (by omega), hF]
    exact h1
  · exact (mstep_19 w M base N a p s u v C T full o la va ln lc vn vc h k).mono fun e w' h1 => ql h1 (stepA_19 k) (by omega) (by omega)

end Go.Proofs.Qxb6500665aDoor
