/- The model's lists of rows are the real layer's. Plain. -/
import Derived.Test.Qxb6500666aGreatDoorMdD
import Derived.Test.Qxb6500666aGreatDoorTieA
namespace Go.Proofs.Qxb6500666aGreatDoor
open Go.RowKit
theorem mfind_look (rows : List Row) (r : Row) : mfind rows r = mlook rows r.sample r.analyte := rfl
theorem apart_perm {l l' : List Row} (h : Apart l) (p : l'.Perm l) : Apart l' := (p.pairwise_iff (fun k e => k ⟨e.1.symm, e.2.symm⟩)).2 h
theorem insK_rise {out : List Row} {r : Row} (h : Rise out) (hr : ∀ y ∈ out, ¬ (y.sample = r.sample ∧ y.analyte = r.analyte)) : Rise (insK out r) := by
  unfold insK
  have hs := List.takeWhile_append_dropWhile (p := (befB · r)) (l := out)
  have h' : Rise (out.takeWhile (befB · r) ++ out.dropWhile (befB · r)) := by rw [hs]; exact h
  obtain ⟨p1, p2, p3⟩ := rise_parts h'
  have t1 : ∀ x ∈ out.takeWhile (befB · r), keyLt x r := fun x hx => (befB_lt x r).1 (List.all_eq_true.1 List.all_takeWhile x hx)
  have t2 : ∀ x ∈ out.dropWhile (befB · r), keyLt r x := by
    intro x hx
    have hd : ∃ y t, out.dropWhile (befB · r) = y :: t ∧ befB y r = false := by
      cases e : out.dropWhile (befB · r) with
      | nil => rw [e] at hx; cases hx
      | cons y t =>
        refine ⟨y, t, rfl, ?_⟩
        have := List.head?_dropWhile_not (p := (befB · r)) (l := out)
        rw [e] at this
        simpa using this
    obtain ⟨y, t, e, hy⟩ := hd
    have hy0 : y ∈ out := by rw [← hs, e]; simp
    have hry : keyLt r y := by
      have h1 : ¬ keyLt y r := fun k => by rw [(befB_lt y r).2 k] at hy; cases hy
      have h2 := hr y hy0
      unfold keyLt at *
      omega
    rw [e] at hx p2
    rcases List.mem_cons.1 hx with rfl | hx
    · exact hry
    · exact keyLt_trans hry ((List.pairwise_cons.1 p2).1 x hx)
  refine List.pairwise_append.2 ⟨p1, List.pairwise_cons.2 ⟨t2, p2⟩, fun x hx y hy => ?_⟩
  rcases List.mem_cons.1 hy with rfl | hy
  · exact t1 x hx
  · exact p3 x hx y hy
theorem foldIns_rise : ∀ (l out : List Row), Rise out → Apart (l ++ out) → Rise (l.foldl insK out)
  | [], out, h, _ => h
  | r :: l, out, h, ha => by
    have h1 := List.pairwise_cons.1 ha
    refine foldIns_rise l _ (insK_rise h fun y hy e => (h1.1 y (List.mem_append_right _ hy)) ⟨e.1.symm, e.2.symm⟩) ?_
    refine apart_perm ha ?_
    have p1 : (l ++ insK out r).Perm (l ++ r :: out) := (insK_perm out r).append_left l
    exact p1.trans List.perm_middle
theorem ordK_rise {l : List Row} (h : Apart l) : Rise (ordK l) := foldIns_rise l [] List.Pairwise.nil (by rw [List.append_nil]; exact h)
theorem ordK_eq {l r : List Row} (h : Apart l) (hr : Rise r) (hm : ∀ x, x ∈ l ↔ x ∈ r) : ordK l = r := rise_unique (ordK_rise h) hr fun x => by rw [(ordK_perm l).mem_iff, hm]
theorem apart_mem {l : List Row} (h : Apart l) {x : Row} : x ∈ l ↔ mlook l x.sample x.analyte = some x := by
  constructor
  · intro hx
    induction l with
    | nil => cases hx
    | cons y l ih =>
      have h1 := List.pairwise_cons.1 h
      rw [mlook_cons]
      rcases List.mem_cons.1 hx with rfl | hx
      · rw [if_pos (atK_true.2 ⟨rfl, rfl⟩)]
      · rw [if_neg (by rw [Bool.not_eq_true, atK_false]; exact h1.1 x hx)]
        exact ih h1.2 hx
  · exact fun h => (mlook_mem h).1
theorem ordK_look {l r : List Row} (h : Apart l) (hr : Rise r) (hm : ∀ s a, mlook l s a = mlook r s a) : ordK l = r :=
  ordK_eq h hr fun x => by rw [apart_mem h, apart_mem (apart_of_rise hr), hm]
theorem mKeys_apart {A B : List Row} (h1 : Rise A) (h2 : Rise B) : Apart (mKeys A B) := by
  unfold mKeys
  refine List.pairwise_append.2 ⟨apart_of_rise h1, List.Pairwise.filter _ (apart_of_rise h2), fun x hx y hy e => ?_⟩
  have hy2 := (List.mem_filter.1 hy).2
  rw [mfind_look, ← e.1, ← e.2, mlook_self h1 hx] at hy2
  cases hy2
theorem keys_pairs {A B : List Row} (h1 : Rise A) (h2 : Rise B) : ordK (mKeys A B) = (pairs (A.length + B.length) A B).map kOf := by
  obtain ⟨p1, p2⟩ := pairs_keys _ A B (Nat.le_refl _) h1 h2
  refine ordK_eq (mKeys_apart h1 h2) p1 fun x => ?_
  rw [p2]
  unfold mKeys
  rw [List.mem_append, List.mem_filter, mfind_look, Option.isNone_iff_eq_none]
theorem eqB_symm (a b : Row) : a.eqB b = b.eqB a := by
  cases h : b.eqB a with
  | true => rw [(Row.eqB_iff b a).1 h]; exact eqB_refl _
  | false => rw [eqB_false] at h ⊢; exact fun e => h e.symm
theorem mChg_line (x y : Option Row) : mChg2 x y = lineOf (x, y) := by
  cases x <;> cases y <;> simp only [mChg2, lineOf]
  rw [eqB_symm]
/-- What the model finds pending is what the real layer finds. -/
theorem mPendOf_eq {A B : List Row} (h1 : Rise A) (h2 : Rise B) : mPendOf A B = differ A B := by
  unfold mPendOf differ
  rw [keys_pairs h1 h2]
  unfold pairsOf
  rw [flat_keys h1 h2]
  congr 1
  funext k
  rw [mChg, mfind_look, mfind_look, mChg_line]
theorem mDif_line {A B : List Row} (k : Row) : mDif A B k = diffOf (mlook A k.sample k.analyte, mlook B k.sample k.analyte) := by
  unfold mDif mDif2
  rw [mfind_look, mfind_look]
  cases h1 : mlook A k.sample k.analyte with
  | none =>
    cases h2 : mlook B k.sample k.analyte with
    | none => rfl
    | some b => simp only [diffOf, (mlook_mem h2).2.1, (mlook_mem h2).2.2]
  | some a =>
    cases h2 : mlook B k.sample k.analyte with
    | none => simp only [diffOf, (mlook_mem h1).2.1, (mlook_mem h1).2.2]
    | some b =>
      simp only [diffOf, (mlook_mem h2).2.1, (mlook_mem h2).2.2]
      rw [eqB_symm]
theorem mDiffs_eq {A B : List Row} (h1 : Rise A) (h2 : Rise B) : mDiffs A B = reconcile A B := by
  unfold mDiffs reconcile
  rw [keys_pairs h1 h2]
  unfold pairsOf
  rw [flat_keys h1 h2]
  congr 1
  funext k
  exact mDif_line k
/-! The eligible rows. -/
theorem elgOf_key {L : Low} {r : Res} {y : Row} (h : elgOf L r = some y) : y.sample = r.sample ∧ y.analyte = r.analyte := by
  unfold elgOf at h
  split at h
  · cases h
  · split at h
    · injection h with h; subst h; exact ⟨rfl, rfl⟩
    · cases h
theorem elgs_apart {L : Low} (hu : SU L.sm) : Apart (elgs L) := by
  have key : ∀ rs : List Res, (rs.map resKey).Nodup → Apart (rs.filterMap (elgOf L)) := by
    intro rs
    induction rs with
    | nil => intro _; exact List.Pairwise.nil
    | cons r rs ih =>
      intro hn
      rw [List.map_cons, List.nodup_cons] at hn
      rw [List.filterMap_cons]
      cases e : elgOf L r with
      | none => exact ih hn.2
      | some y =>
        refine List.pairwise_cons.2 ⟨fun z hz k => ?_, ih hn.2⟩
        obtain ⟨r', hr', e'⟩ := List.mem_filterMap.1 hz
        have k1 := elgOf_key e
        have k2 := elgOf_key e'
        exact hn.1 (List.mem_map.2 ⟨r', hr', by simp only [resKey, Prod.mk.injEq]; omega⟩)
  exact key _ hu.nd
theorem rowM_of {L : Low} {s : Smp} {r : Res} (h : smpGet L.sm r.sample = some s) : rowM L s r = rowOf L s r := by
  unfold rowM rowOf
  rw [smpGet_id h]
theorem mEliB_eq {L : Low} (hu : SU L.sm) {E : List Row} (hE : eligR L = some E) : mEliB L = E := by
  obtain ⟨h1, h2, h3⟩ := eligR_spec hu hE
  refine ordK_eq (elgs_apart hu) h1 fun x => ?_
  unfold elgs
  rw [List.mem_filterMap]
  constructor
  · rintro ⟨r, hr, e⟩
    unfold elgOf at e
    cases hs : smpGet L.sm r.sample with
    | none => rw [hs] at e; cases e
    | some s =>
      rw [hs] at e
      simp only at e
      split at e
      · rename_i h0
        injection e with e
        rw [← e, rowM_of hs]
        exact h3 r hr s hs (by simpa using h0)
      · cases e
  · intro hx
    obtain ⟨r, hr, s, hs, h0, e, -⟩ := h2 x hx
    refine ⟨r, hr, ?_⟩
    unfold elgOf
    rw [hs]
    simp only [h0, beq_self_eq_true, if_true]
    rw [rowM_of hs, e]
/-! The released rows. -/
theorem mrlStep_eq (m : List Row) (c : Change) : mrlStep m c = if c.action = 87 then mdel m c.row.sample c.row.analyte else mput m c.row := by
  unfold mrlStep
  split
  · rw [List.append_nil]; rfl
  · rfl
theorem mrlFold_look : ∀ (cs : List Change) (m : List Row), Apart m → CApart cs → Apart (cs.foldl mrlStep m) ∧ (∀ s a, (∀ c ∈ cs, ¬ (c.row.sample = s ∧ c.row.analyte = a)) → mlook (cs.foldl mrlStep m) s a = mlook m s a) ∧ (∀ c ∈ cs, mlook (cs.foldl mrlStep m) c.row.sample c.row.analyte = if c.action = 87 then none else some c.row)
  | [], m, h, _ => ⟨h, fun _ _ _ => rfl, fun _ h => by cases h⟩
  | c :: cs, m, h, hc => by
    have h1 := List.pairwise_cons.1 hc
    have ha : Apart (mrlStep m c) := by rw [mrlStep_eq]; split; exact apart_del h _ _; exact apart_put h _
    obtain ⟨i1, i2, i3⟩ := mrlFold_look cs (mrlStep m c) ha h1.2
    refine ⟨i1, fun s a hn => ?_, fun x hx => ?_⟩
    · rw [List.foldl_cons, i2 s a (fun x hx => hn x (List.mem_cons_of_mem _ hx)), mrlStep_eq]
      have hne := hn c (List.mem_cons_self ..)
      split
      · exact mlook_del_other _ _ _ _ _ (fun e => hne ⟨e.1.symm, e.2.symm⟩)
      · exact mlook_put_other _ _ _ _ (fun e => hne ⟨e.1.symm, e.2.symm⟩)
    · rw [List.foldl_cons]
      rcases List.mem_cons.1 hx with rfl | hx
      · rw [i2 _ _ (fun y hy e => h1.1 y hy ⟨e.1.symm, e.2.symm⟩), mrlStep_eq]
        split
        · exact mlook_del_same _ _ _
        · exact mlook_put_same _ _
      · exact i3 x hx
theorem mrl_look {ps : List KV} {fs : List File} {rows : List Row} (h : FI ps fs rows) : ∀ n, n ≤ fs.length → ∃ rs, relOf (fs.take n) = some rs ∧ Rise rs ∧ Apart (mrl fs n) ∧ ∀ s a, mlook (mrl fs n) s a = mlook rs s a
  | 0, _ => ⟨[], rfl, List.Pairwise.nil, List.Pairwise.nil, fun _ _ => rfl⟩
  | n + 1, hn => by
    obtain ⟨rs, h1, h2, h3, h4⟩ := mrl_look h n (by omega)
    have hlt : n < fs.length := by omega
    obtain ⟨rs', h5⟩ := h.pre (n + 1)
    have e1 : relOf (fs.take (n + 1)) = relF (some rs) fs[n] := by
      rw [List.take_succ_eq_append_getElem hlt, relOf_snoc, h1]
    have e2 : mrl fs (n + 1) = mrlFile (mrl fs n) fs[n] := by
      unfold mrl
      rw [List.take_succ_eq_append_getElem hlt, List.foldl_append]
      rfl
    rw [e1] at h5 ⊢
    rw [e2]
    unfold relF at h5 ⊢
    unfold mrlFile
    by_cases hk : fs[n].kind = 73
    · simp only [if_pos hk] at h5 ⊢
      obtain ⟨a1, a2, a3, a4⟩ := applyF_look h2 h5
      obtain ⟨b1, b2, b3⟩ := mrlFold_look fs[n].changes (mrl fs n) h3 (capart_of_rise a2)
      refine ⟨rs', h5, a1, b1, fun s a => ?_⟩
      by_cases hx : ∃ c ∈ fs[n].changes, c.row.sample = s ∧ c.row.analyte = a
      · obtain ⟨c, hc, rfl, rfl⟩ := hx
        rw [b3 c hc, a4 c hc]
      · have hx' : ∀ c ∈ fs[n].changes, ¬ (c.row.sample = s ∧ c.row.analyte = a) := fun c hc e => hx ⟨c, hc, e⟩
        rw [b2 s a hx', a3 s a hx', h4]
    · simp only [if_neg hk] at h5 ⊢
      exact ⟨rs, rfl, h2, h3, h4⟩
theorem mRelA_eq {ps : List KV} {m : Mod} {rows : List Row} (h : FI ps m.fs rows) : mRelA m = rows := by
  obtain ⟨rs, h1, h2, h3, h4⟩ := mrl_look h m.fs.length (Nat.le_refl _)
  rw [List.take_length, h.rel] at h1
  injection h1 with h1
  subst h1
  exact ordK_look h3 h2 h4
theorem mrl_len {ps : List KV} {m : Mod} {rows : List Row} (h : FI ps m.fs rows) : (mrl m.fs m.fs.length).length = rows.length := by
  rw [← mRelA_eq h]
  unfold mRelA
  rw [ordK_len]
theorem mPend_eq {ps : List KV} {m : Mod} {rows E : List Row} (h : FI ps m.fs rows) (hu : SU m.low.sm) (hE : eligR m.low = some E) : mPend m = differ rows E := by
  unfold mPend
  rw [mRelA_eq h, mEliB_eq hu hE]
  exact mPendOf_eq h.rise (eligR_spec hu hE).1
end Go.Proofs.Qxb6500666aGreatDoor
