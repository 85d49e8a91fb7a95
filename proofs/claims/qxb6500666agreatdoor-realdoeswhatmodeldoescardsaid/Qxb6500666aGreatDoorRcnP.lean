/- The report on two cumulative files. Plain. -/
import Derived.Test.Qxb6500666aGreatDoorCorQ
import Derived.Test.Qxb6500666aGreatDoorRepP
import Derived.Test.Qxb6500666aGreatDoorMapN
namespace Go.Proofs.Qxb6500666aGreatDoor
open Go.RowKit

/-- Rows of the one list that the other has not, or has otherwise. -/
def offA (ts : List Row) (r : Row) : Bool := match mlook ts r.sample r.analyte with
  | none => true
  | some y => !(y.eqB r)
def offB (bs : List Row) (r : Row) : Bool := (mlook bs r.sample r.analyte).isNone
theorem filter_off {l : List Row} {P Q : Row → Bool} (h : ∀ r ∈ l, P r = Q r) : (l.filter P).length = (l.filter Q).length := by rw [List.filter_congr h]
theorem count_pairs : ∀ (f : Nat) (bs ts : List Row), bs.length + ts.length ≤ f → Rise bs → Rise ts → (flatL diffOf (pairs f bs ts)).length = (bs.filter (offA ts)).length + (ts.filter (offB bs)).length
  | f, [], [], _, _, _ => by rw [pairs_nil]; rfl
  | 0, _ :: _, _, hf, _, _ => by simp at hf
  | 0, [], _ :: _, hf, _, _ => by simp at hf
  | f + 1, [], a :: ts, hf, h1, h2 => by
    have h2' := List.pairwise_cons.1 h2
    rw [pairs_right _ _ _ (by simp at hf; omega), ← pairs_fuel f (f + 1) [] ts (by simp at hf ⊢; omega) (by simp at hf ⊢; omega)]
    have ih := count_pairs f [] ts (by simp at hf ⊢; omega) h1 h2'.2
    show (diffOf (none, some a) ++ _).length = _
    rw [List.length_append, ih, List.filter_cons, if_pos (show offB [] a = true from rfl)]
    simp [diffOf]
    omega
  | f + 1, b :: bs, [], hf, h1, h2 => by
    have h1' := List.pairwise_cons.1 h1
    rw [pairs_left _ _ _ (by simp at hf; omega), ← pairs_fuel f (f + 1) bs [] (by simp at hf ⊢; omega) (by simp at hf ⊢; omega)]
    have ih := count_pairs f bs [] (by simp at hf ⊢; omega) h1'.2 h2
    show (diffOf (some b, none) ++ _).length = _
    rw [List.length_append, ih, List.filter_cons, if_pos (show offA [] b = true from rfl)]
    simp [diffOf]
    omega
  | f + 1, b :: bs, a :: ts, hf, h1, h2 => by
    have h1' := List.pairwise_cons.1 h1
    have h2' := List.pairwise_cons.1 h2
    have hfl : bs.length + ts.length + 1 ≤ f := by simp at hf; omega
    rcases cmpK_cases b a with hc | hc | hc
    · have hlt := cmpK_neg.1 (show cmpK b a < 0 by omega)
      have hall : ∀ r ∈ a :: ts, keyLt b r := fun r hr => by
        rcases List.mem_cons.1 hr with rfl | hr
        · exact hlt
        · exact keyLt_trans hlt (h2'.1 r hr)
      rw [pairs_less _ _ _ _ _ (by omega) (by omega), ← pairs_fuel f (f + 1) bs (a :: ts) (by simp; omega) (by simp; omega)]
      have ih := count_pairs f bs (a :: ts) (by simp; omega) h1'.2 h2
      show (diffOf (some b, none) ++ _).length = _
      have e1 : offA (a :: ts) b = true := by
        unfold offA
        rw [mlook_none (fun r hr => by have := hall r hr; unfold keyLt at this; omega)]
      have e2 : ((a :: ts).filter (offB (b :: bs))).length = ((a :: ts).filter (offB bs)).length := filter_off fun r hr => by
        unfold offB
        rw [mlook_cons b, atK_false.2 (by have := hall r hr; unfold keyLt at this; omega)]
        rfl
      rw [List.length_append, ih, List.filter_cons (x := b), if_pos e1, e2]
      simp [diffOf]
      omega
    · have hk0 := cmpK_zero.1 hc
      rw [pairs_same _ _ _ _ _ (by omega) hc, ← pairs_fuel f (f + 1) bs ts (by omega) (by omega)]
      have ih := count_pairs f bs ts (by omega) h1'.2 h2'.2
      show (diffOf (some b, some a) ++ _).length = _
      have e1 : (bs.filter (offA (a :: ts))).length = (bs.filter (offA ts)).length := filter_off fun r hr => by
        unfold offA
        rw [mlook_cons a, atK_false.2 (by have := h1'.1 r hr; unfold keyLt at this; omega)]
        rfl
      have e2 : (ts.filter (offB (b :: bs))).length = (ts.filter (offB bs)).length := filter_off fun r hr => by
        unfold offB
        rw [mlook_cons b, atK_false.2 (by have := h2'.1 r hr; unfold keyLt at this; omega)]
        rfl
      have e3 : offA (a :: ts) b = !(a.eqB b) := by
        unfold offA
        rw [mlook_cons, atK_true.2 ⟨hk0.1.symm, hk0.2.symm⟩]
        rfl
      have e4 : offB (b :: bs) a = false := by
        unfold offB
        rw [mlook_cons, atK_true.2 ⟨hk0.1, hk0.2⟩]
        rfl
      have e5 : (diffOf (some b, some a)).length = if a.eqB b then 0 else 1 := by
        show (if a.eqB b then ([] : List Diff) else [⟨67, a.sample, a.analyte, b.version, a.version⟩]).length = _
        split <;> rfl
      have e6 : ((b :: bs).filter (offA (a :: ts))).length = (bs.filter (offA ts)).length + if a.eqB b then 0 else 1 := by
        rw [List.filter_cons (x := b), e3]
        cases a.eqB b
        · rw [if_pos (by decide), List.length_cons, e1, if_neg (by decide)]
        · rw [if_neg (by decide), e1, if_pos rfl]; omega
      have e7 : ((a :: ts).filter (offB (b :: bs))).length = (ts.filter (offB bs)).length := by
        rw [List.filter_cons (x := a), e4, if_neg (by decide), e2]
      rw [List.length_append, ih, e5, e6, e7]
      omega
    · have hlt := cmpK_pos.1 (show 0 < cmpK b a by omega)
      have hall : ∀ r ∈ b :: bs, keyLt a r := fun r hr => by
        rcases List.mem_cons.1 hr with rfl | hr
        · exact hlt
        · exact keyLt_trans hlt (h1'.1 r hr)
      rw [pairs_more _ _ _ _ _ (by omega) (by omega), ← pairs_fuel f (f + 1) (b :: bs) ts (by simp; omega) (by simp; omega)]
      have ih := count_pairs f (b :: bs) ts (by simp; omega) h1 h2'.2
      show (diffOf (none, some a) ++ _).length = _
      have e1 : offB (b :: bs) a = true := by
        unfold offB
        rw [mlook_none (fun r hr => by have := hall r hr; unfold keyLt at this; omega)]
        rfl
      have e2 : ((b :: bs).filter (offA (a :: ts))).length = ((b :: bs).filter (offA ts)).length := filter_off fun r hr => by
        unfold offA
        rw [mlook_cons a, atK_false.2 (by have := hall r hr; unfold keyLt at this; omega)]
        rfl
      rw [List.length_append, ih, List.filter_cons (x := a), if_pos e1, e2]
      simp [diffOf]
      omega
theorem count_rec {bs ts : List Row} (h1 : Rise bs) (h2 : Rise ts) : (reconcile bs ts).length = (bs.filter (offA ts)).length + (ts.filter (offB bs)).length := count_pairs _ _ _ (Nat.le_refl _) h1 h2

/-- What the law wants of a line. -/
def actD (x y : Option Row) : Int := match x, y with
  | some b, some a => if b.eqB a then 0 else 67
  | some _, none => 87
  | none, some _ => 78
  | none, none => 0
theorem eqB_comm (a b : Row) : a.eqB b = b.eqB a := by
  rw [Bool.eq_iff_iff, Row.eqB_iff, Row.eqB_iff]
  exact ⟨fun h => h.symm, fun h => h.symm⟩
def rowD (x : Option Row) : Row := x.getD zeroRow
theorem want_rec {bs ts : List Row} (h1 : Rise bs) (h2 : Rise ts) {d : Diff} (hd : d ∈ reconcile bs ts) : d = ⟨actD (mlook bs d.sample d.analyte) (mlook ts d.sample d.analyte), d.sample, d.analyte, (rowD (mlook bs d.sample d.analyte)).version, (rowD (mlook ts d.sample d.analyte)).version⟩ ∧ d.action ≠ 0 := by
  obtain ⟨p, hp1, hp2⟩ := mem_flatL hd
  obtain ⟨s, a, rfl, -⟩ := pairs_look _ bs ts (Nat.le_refl _) h1 h2 p hp1
  cases hx : mlook bs s a with
  | none =>
    cases hy : mlook ts s a with
    | none => rw [hx, hy] at hp2; simp [diffOf] at hp2
    | some y =>
      rw [hx, hy] at hp2
      obtain rfl := List.mem_singleton.1 hp2
      obtain ⟨-, e1, e2⟩ := mlook_mem hy
      dsimp only
      rw [e1, e2, hx, hy]
      exact ⟨rfl, by decide⟩
  | some x =>
    obtain ⟨-, e3, e4⟩ := mlook_mem hx
    cases hy : mlook ts s a with
    | none =>
      rw [hx, hy] at hp2
      obtain rfl := List.mem_singleton.1 hp2
      dsimp only
      rw [e3, e4, hx, hy]
      exact ⟨rfl, by decide⟩
    | some y =>
      rw [hx, hy] at hp2
      unfold diffOf at hp2
      dsimp only at hp2
      split at hp2
      · cases hp2
      · rename_i hne
        obtain rfl := List.mem_singleton.1 hp2
        obtain ⟨-, e1, e2⟩ := mlook_mem hy
        dsimp only
        rw [e1, e2, hx, hy]
        refine ⟨?_, by decide⟩
        unfold actD
        dsimp only
        rw [if_neg (by rw [eqB_comm]; exact hne)]
        rfl
theorem rise_rec {bs ts : List Row} (h1 : Rise bs) (h2 : Rise ts) : (reconcile bs ts).Pairwise fun x y => kbB x y = true := by
  obtain ⟨hl, hm⟩ := reconcile_match h1 h2
  obtain ⟨-, hr, -, -⟩ := applyF_look h1 (apply_differ h1 h2)
  rw [List.pairwise_iff_getElem]
  intro i j hi hj hij
  have m1 := hm i hi (by omega)
  have m2 := hm j hj (by omega)
  have hk : keyLt (differ bs ts)[i].row (differ bs ts)[j].row := (List.pairwise_iff_getElem.1 (List.pairwise_map.1 hr)) i j (by omega) (by omega) hij
  unfold kbB
  rw [m1.sample, m2.sample, m1.analyte, m2.analyte]
  unfold keyLt at hk
  by_cases c : (differ bs ts)[i].row.sample < (differ bs ts)[j].row.sample
  · simp [c]
  · have c2 : (differ bs ts)[i].row.sample = (differ bs ts)[j].row.sample := by omega
    have c3 : (differ bs ts)[i].row.analyte < (differ bs ts)[j].row.analyte := by omega
    simp [c2, c3]
theorem vd_rec {bs ts : List Row} (h1 : Rise bs) (h2 : Rise ts) (v1 : ∀ r ∈ bs, RowOk r ∧ r.Ok) (v2 : ∀ r ∈ ts, RowOk r ∧ r.Ok) {d : Diff} (hd : d ∈ reconcile bs ts) : vdB d = true := by
  obtain ⟨p, hp1, hp2⟩ := mem_flatL hd
  obtain ⟨s, a, rfl, -⟩ := pairs_look _ bs ts (Nat.le_refl _) h1 h2 p hp1
  have key : ∀ r : Row, RowOk r ∧ r.Ok → ¬ r.sample = 0 ∧ ¬ r.analyte = 0 ∧ 0 < r.version := fun r h => by
    have hv := h.2.version
    have hi := h.1.1
    unfold U32 at hv
    unfold IdsOk at hi
    refine ⟨hi.1, hi.2.1, by omega⟩
  cases hx : mlook bs s a with
  | none =>
    cases hy : mlook ts s a with
    | none => rw [hx, hy] at hp2; simp [diffOf] at hp2
    | some y =>
      rw [hx, hy] at hp2
      obtain rfl := List.mem_singleton.1 hp2
      obtain ⟨e0, e1, e2⟩ := mlook_mem hy
      obtain ⟨k1, k2, k3⟩ := key y (v2 y e0)
      simp [vdB, k1, k2, k3]
  | some x =>
    obtain ⟨e5, e3, e4⟩ := mlook_mem hx
    obtain ⟨k4, k5, k6⟩ := key x (v1 x e5)
    cases hy : mlook ts s a with
    | none =>
      rw [hx, hy] at hp2
      obtain rfl := List.mem_singleton.1 hp2
      simp [vdB, k4, k5, k6]
    | some y =>
      rw [hx, hy] at hp2
      obtain ⟨e0, e1, e2⟩ := mlook_mem hy
      obtain ⟨k1, k2, k3⟩ := key y (v2 y e0)
      unfold diffOf at hp2
      dsimp only at hp2
      split at hp2
      · cases hp2
      · obtain rfl := List.mem_singleton.1 hp2
        simp [vdB, k1, k2, k3, k6]
theorem rpB_of : ∀ {ds : List Diff} {p : Option Diff}, (∀ d ∈ ds, vdB d = true) → (ds.Pairwise fun x y => kbB x y = true) → (∀ x, p = some x → ∀ d ∈ ds, kbB x d = true) → rpB p ds = true
  | [], p, _, _, _ => rfl
  | d :: ds, p, h1, h2, h3 => by
    have h2' := List.pairwise_cons.1 h2
    have ih := rpB_of (ds := ds) (p := some d) (fun x hx => h1 x (List.mem_cons_of_mem _ hx)) h2'.2 (fun x e y hy => by injection e with e; subst e; exact h2'.1 y hy)
    unfold rpB
    rw [if_neg (by simp [h1 d (List.mem_cons_self ..)])]
    cases p with
    | none => exact ih
    | some x =>
      dsimp only
      rw [if_neg (by simp [h3 x rfl d (List.mem_cons_self ..)])]
      exact ih
theorem rpC_rec {ea la : Int} (hlt : ea < la) {bs ts : List Row} (h1 : Rise bs) (h2 : Rise ts) (v1 : ∀ r ∈ bs, RowOk r ∧ r.Ok) (v2 : ∀ r ∈ ts, RowOk r ∧ r.Ok) : rpC ea la (reconcile bs ts) = 0 := by
  unfold rpC
  rw [if_neg (by simpa using hlt), if_pos (rpB_of (fun d hd => vd_rec h1 h2 v1 v2 hd) (rise_rec h1 h2) (fun x e => by cases e))]

theorem ci_all {s : List Op} (hr : ∀ k (hk : k < s.length), s[k].req.Ok) (hl : s.length ≤ 65536) : ∀ q, q ≤ s.length → ∃ fs rows vf lf, CI (stAt s q) fs rows vf lf ∧ fs.length ≤ q
  | 0, _ => ⟨[], [], _, _, CI.start, Nat.le_refl _⟩
  | q + 1, hq => by
    obtain ⟨fs, rows, vf, lf, h1, h2⟩ := ci_all hr hl q (by omega)
    obtain ⟨k1, k2⟩ := h1.step (t := stAt s q) (o := s[q]) (q := q) (by omega) h2 (inv_all hr q (by omega)) (su_all s q (by omega)) (vi_all s hl q (by omega))
    rw [stAt_succ (by omega)]
    by_cases ha : AccS (stAt s q) s[q]
    · obtain ⟨fs', rows', j1, j2, -⟩ := k2 ha
      exact ⟨fs', rows', _, _, j1, j2⟩
    · exact ⟨fs, rows, vf, lf, k1 ha, by omega⟩
/-- What lies at number i of the law's list of files; number nought is no file, without rows. -/
def file0 : File := ⟨67, 0, 0, 0, []⟩
def rowsF (f : File) : List Row := f.changes.map (·.row)
structure FR (f : File) : Prop where
  rise : Rise (rowsF f)
  ok : ∀ r ∈ rowsF f, RowOk r ∧ r.Ok
theorem FR.zero : FR file0 := ⟨List.Pairwise.nil, fun _ h => (by cases h)⟩
theorem rowsF_cum {ps : List KV} {fs : List File} {rows : List Row} (h : FI ps fs rows) {i : Nat} (hi : i < fs.length) (hk : fs[i].kind = 67) : relOf (fs.take i) = some (rowsF fs[i]) := by
  obtain ⟨rs, h1, h2⟩ := h.cum i hi hk
  rw [h1]
  unfold rowsF
  rw [h2]
  simp [asCur, List.map_map, Function.comp_def]
theorem rise_lines {k : Int} {cs : List Change} (h : ∀ q (h : q < cs.length), LineOk k cs q h) : Rise (cs.map (·.row)) := by
  unfold Rise
  rw [List.pairwise_map, List.pairwise_iff_getElem]
  intro i j hi hj hij
  obtain ⟨d, rfl⟩ : ∃ d, j = i + 1 + d := ⟨j - (i + 1), by omega⟩
  have one : ∀ q (h1 : q < cs.length) (h2 : q + 1 < cs.length), keyLt cs[q].row cs[q + 1].row := fun q h1 h2 => by
    have := (h (q + 1) h2).2.2
    rw [prevAt_succ _ _ h1] at this
    exact prevBad_false.1 this
  clear hij
  induction d with
  | zero => exact one i hi hj
  | succ d ih => exact keyLt_trans (ih (by omega)) (one (i + 1 + d) (by omega) hj)
theorem FR.of {ps : List KV} {fs : List File} {rows : List Row} (h : FI ps fs rows) {i : Nat} (hi : i < fs.length) : FR fs[i] := by
  refine ⟨rise_lines (h.fok _ (List.getElem_mem hi)).2.2.2, fun r hr => ?_⟩
  obtain ⟨c, hc, rfl⟩ := List.mem_map.1 hr
  obtain ⟨j, hj, rfl⟩ := List.getElem_of_mem hc
  exact ⟨(h.line hi hj).2, (h.cok _ (List.getElem_mem hi) _ hc).row⟩
theorem rbR_zero (ps : List KV) : rbR ps 0 = some [] := rfl
/-- Which pairs of files get no report. -/
def badP (fs : List File) (i j : Nat) : Prop := j = 0 ∨ ((file0 :: fs)[i]?).map (·.kind) ≠ some 67 ∨ ((file0 :: fs)[j]?).map (·.kind) ≠ some 67 ∨ j ≤ i
theorem rec_bad {ps : List KV} {fs : List File} {rows : List Row} (h : FI ps fs rows) (hl : fs.length ≤ 1000000) {i j : Nat} (hi : i ≤ fs.length) (hj : j ≤ fs.length) (hb : badP fs i j) : ∃ c, c ≠ 0 ∧ recR ps (i : Int) (j : Int) = .error c := by
  unfold recR
  cases j with
  | zero =>
    rw [show ((0 : Nat) : Int) = 0 from rfl, h.hdrNo u32z (Or.inl rfl)]
    exact ⟨23, by decide, rfl⟩
  | succ j =>
    have hj' : j < fs.length := by omega
    rw [show ((j + 1 : Nat) : Int) = (j : Int) + 1 from rfl, h.hdrR hl hj']
    dsimp only
    have hfrom : ∃ hd : Hdr, fromR ps (i : Int) = .ok hd ∧ ((file0 :: fs)[i]?).map (·.kind) = some hd.kind := by
      cases i with
      | zero => exact ⟨cumHdr, rfl, rfl⟩
      | succ i =>
        have hi' : i < fs.length := by omega
        refine ⟨_, by unfold fromR; rw [if_pos (by simp; omega), show ((i + 1 : Nat) : Int) = (i : Int) + 1 from rfl]; exact h.hdrR hl hi', ?_⟩
        rw [List.getElem?_cons_succ, List.getElem?_eq_getElem hi']
        rfl
    obtain ⟨hd, e1, e2⟩ := hfrom
    rw [e1]
    dsimp only
    by_cases c1 : hd.kind = 67
    · rw [if_neg (by simp [c1])]
      by_cases c2 : fs[j].kind = 67
      · rw [if_neg (by simp [hdrOf, c2])]
        have c3 : j + 1 ≤ i := by
          rcases hb with hb | hb | hb | hb
          · omega
          · rw [e2, c1] at hb; exact absurd rfl hb
          · rw [List.getElem?_cons_succ, List.getElem?_eq_getElem hj'] at hb
            simp [c2] at hb
          · exact hb
        rw [if_pos (by simp; omega)]
        exact ⟨16, by decide, rfl⟩
      · rw [if_pos (by simpa [hdrOf] using c2)]
        exact ⟨26, by decide, rfl⟩
    · rw [if_pos (by simpa using c1)]
      exact ⟨26, by decide, rfl⟩
theorem rec_good {ps : List KV} {fs : List File} {rows : List Row} (h : FI ps fs rows) (hl : fs.length ≤ 1000000) {i j : Nat} (hi : i < (file0 :: fs).length) (hj : j < (file0 :: fs).length) (hb : ¬ badP fs i j) : i < j ∧ recR ps (i : Int) (j : Int) = .ok (reconcile (rowsF (file0 :: fs)[i]) (rowsF (file0 :: fs)[j])) := by
  have hn : j ≠ 0 ∧ (file0 :: fs)[i].kind = 67 ∧ (file0 :: fs)[j].kind = 67 ∧ i < j := by
    unfold badP at hb
    rw [List.getElem?_eq_getElem hi, List.getElem?_eq_getElem hj] at hb
    simp only [Option.map_some, ne_eq, Option.some.injEq] at hb
    refine ⟨fun e => hb (Or.inl e), Decidable.byContradiction fun e => hb (Or.inr (Or.inl e)), Decidable.byContradiction fun e => hb (Or.inr (Or.inr (Or.inl e))), ?_⟩
    rcases Nat.lt_or_ge i j with e | e
    · exact e
    · exact absurd (Or.inr (Or.inr (Or.inr e))) hb
  obtain ⟨h0, k1, k2, hlt⟩ := hn
  refine ⟨hlt, ?_⟩
  have hrb : ∀ q (hq : q < (file0 :: fs).length), (file0 :: fs)[q].kind = 67 → rbR ps (q : Int) = some (rowsF (file0 :: fs)[q]) := fun q hq k => by
    cases q with
    | zero => rfl
    | succ q =>
      have hq' : q < fs.length := by simpa using hq
      rw [show ((q + 1 : Nat) : Int) = (q : Int) + 1 from rfl, h.rbR hl (Nat.le_of_lt hq')]
      exact rowsF_cum h hq' k
  have r1 := hrb i hi k1
  have r2 := hrb j hj k2
  cases j with
  | zero => exact absurd rfl h0
  | succ j =>
    have hj' : j < fs.length := by simpa using hj
    have k2' : fs[j].kind = 67 := k2
    have hfrom : ∃ hd : Hdr, fromR ps (i : Int) = .ok hd ∧ hd.kind = 67 := by
      cases i with
      | zero => exact ⟨cumHdr, rfl, rfl⟩
      | succ i =>
        have hi' : i < fs.length := by omega
        exact ⟨_, by unfold fromR; rw [if_pos (by simp; omega), show ((i + 1 : Nat) : Int) = (i : Int) + 1 from rfl]; exact h.hdrR hl hi', k1⟩
    obtain ⟨hd, e1, e2⟩ := hfrom
    unfold recR
    rw [r1, r2, show ((j + 1 : Nat) : Int) = (j : Int) + 1 from rfl, h.hdrR hl hj', e1]
    dsimp only
    rw [if_neg (by simp [e2]), if_neg (by simp [hdrOf, k2']), if_neg (by simp; omega)]

theorem root_may28 (ps : List KV) : authR ps 1 28 = .ok 1 := by kernel_rfl
section
variable {rn kn : Nat → ByteArray} {w w' : World} {ps : List KV} {full : Bool} {off lar : Int} {L : Low} {x : Rsp} {fs : List File} {rows : List Row} {i j : Nat}
theorem ask_rec (hx : RspP rn kn w w' ps full off lar L (askReq 28 i j) x) : RV (reconX w w' ps i j) x := by
  have h1 := hx.1 rfl 1 (root_may28 ps)
  have e : rdX rn kn w w' ps L (askReq 28 i j) = rd28X w w' ps (askReq 28 i j) := by unfold rdX; simp [askReq]
  rw [e] at h1
  exact h1
theorem ask_bad (hx : RspP rn kn w w' ps full off lar L (askReq 28 i j) x) (h : FI ps fs rows) (hl : fs.length ≤ 1000000) (hi : i ≤ fs.length) (hj : j ≤ fs.length) (hb : badP fs i j) : ∃ c, c ≠ 0 ∧ x = { rsp0 with code := c } := by
  have h1 := ask_rec hx
  obtain ⟨c, hc, e⟩ := rec_bad h hl hi hj hb
  unfold reconX at h1
  rw [e] at h1
  exact ⟨c, hc, h1⟩
theorem ask_good (hx : RspP rn kn w w' ps full off lar L (askReq 28 i j) x) (h : FI ps fs rows) (hl : fs.length ≤ 1000000) (hi : i < (file0 :: fs).length) (hj : j < (file0 :: fs).length) (hb : ¬ badP fs i j) (hr : ∀ f ∈ file0 :: fs, FR f) :
    i < j ∧ rpC i j (reconcile (rowsF (file0 :: fs)[i]) (rowsF (file0 :: fs)[j])) = 0 ∧ ∃ a n c a' n' c', x = { rsp0 with diffs := (a, n, c), bytes := (a', n', c') } ∧ OwnR w' w.heap.size 166 5 diffCs (.slice a n c) (reconcile (rowsF (file0 :: fs)[i]) (rowsF (file0 :: fs)[j])) ∧ OwnR w' w.heap.size 5 1 byteCs (.slice a' n' c') (repText i j (reconcile (rowsF (file0 :: fs)[i]) (rowsF (file0 :: fs)[j]))) := by
  have h1 := ask_rec hx
  obtain ⟨hlt, e⟩ := rec_good h hl hi hj hb
  have f1 := hr _ (List.getElem_mem hi)
  have f2 := hr _ (List.getElem_mem hj)
  have hc := rpC_rec (ea := (i : Int)) (la := (j : Int)) (by omega) f1.rise f2.rise f1.ok f2.ok
  refine ⟨hlt, hc, ?_⟩
  unfold reconX at h1
  rw [e] at h1
  dsimp only at h1
  unfold repR at h1
  rw [if_pos hc] at h1
  exact h1
end
/-- A rising list of rows, put into a map row by row. -/
theorem mput_new {m : List Row} {r : Row} (h : ∀ q ∈ m, ¬ (q.sample = r.sample ∧ q.analyte = r.analyte)) : mput m r = m ++ [r] := by
  unfold mput mdel
  rw [List.filter_eq_self.2 fun q hq => by rw [atK_false.2 (h q hq)]; rfl]
theorem mput_take {l : List Row} (h : Rise l) {q : Nat} (hq : q < l.length) : mput (l.take q) l[q] = l.take (q + 1) := by
  rw [mput_new, List.take_succ_eq_append_getElem hq]
  intro x hx
  obtain ⟨i, hi, rfl⟩ := List.getElem_of_mem hx
  have hi' : i < q := by simp at hi; omega
  have := (List.pairwise_iff_getElem.1 h) i q (by omega) hq hi'
  rw [List.getElem_take]
  unfold keyLt at this
  omega

end Go.Proofs.Qxb6500666aGreatDoor
