/- CorrectionGivesNewRowVersion: plain. What is pending, and what is issued, shows the last form. -/
import Derived.Test.Qxb6500666aGreatDoorCorP
namespace Go.Proofs.Qxb6500666aGreatDoor
open Go.RowKit

theorem pairs_len : ∀ (f : Nat) (bs ts : List Row), (pairs f bs ts).length ≤ f
  | 0, _, _ => by simp [pairs]
  | f + 1, [], [] => by simp [pairs]
  | f + 1, [], a :: ts => by simp only [pairs, List.length_cons]; have := pairs_len f [] ts; omega
  | f + 1, b :: bs, [] => by simp only [pairs, List.length_cons]; have := pairs_len f bs []; omega
  | f + 1, b :: bs, a :: ts => by
    simp only [pairs]
    have h1 := pairs_len f bs (a :: ts)
    have h2 := pairs_len f (b :: bs) ts
    have h3 := pairs_len f bs ts
    split
    · simp only [List.length_cons]; omega
    · split <;> simp only [List.length_cons] <;> omega
theorem differ_len (bs ts : List Row) : (differ bs ts).length ≤ bs.length + ts.length := Nat.le_trans (flatL_len lineOf_len _) (pairs_len _ _ _)
theorem reconcile_len (bs ts : List Row) : (reconcile bs ts).length ≤ bs.length + ts.length := Nat.le_trans (flatL_len diffOf_len _) (pairs_len _ _ _)
/-- What the law keeps, beside the files on record. -/
structure CI (t : ST) (fs : List File) (rows : List Row) (vf lf : Int → Int → Option Int) : Prop where
  fi : FI t.ps fs rows
  ver : ∀ y ∈ rows, ∃ r ∈ t.low.sm.rs, r.sample = y.sample ∧ r.analyte = y.analyte ∧ y.version ≤ r.version
  cv : CV t.low.sm.rs vf lf
  cl : ∀ f ∈ fs, f.changes.length ≤ 65536
theorem CI.start : CI st0 [] [] (fun _ _ => none) (fun _ _ => none) := ⟨FI.start, fun _ h => (by cases h), fun _ h => (by cases h), fun _ h => (by cases h)⟩
theorem rise_keys {rows : List Row} (h : Rise rows) : (rows.map fun r : Row => (r.sample, r.analyte)).Nodup := List.pairwise_map.2 (h.imp fun {a b} k e => by
  injection e with e1 e2
  unfold keyLt at k
  omega)
theorem CI.rowsLen {t : ST} {fs : List File} {rows : List Row} {vf lf : Int → Int → Option Int} (h : CI t fs rows vf lf) : rows.length ≤ t.low.sm.rs.length := by
  have := nodup_le (rows.map fun r : Row => (r.sample, r.analyte)) (t.low.sm.rs.map resKey) (rise_keys h.fi.rise) (fun k hk => by
    obtain ⟨y, hy, rfl⟩ := List.mem_map.1 hk
    obtain ⟨r, hr, e1, e2, -⟩ := h.ver y hy
    exact List.mem_map.2 ⟨r, hr, by simp [resKey, e1, e2]⟩)
  simpa using this
/-- The lines that lead to the eligible rows show eligible rows, but for withdrawals. -/
theorem differ_elig {rows E : List Row} (h1 : Rise rows) (h2 : Rise E) {c : Change} (hc : c ∈ differ rows E) (ha : c.action ≠ 87) : c.row ∈ E := by
  obtain ⟨-, -, -, h4⟩ := applyF_look h1 (apply_differ h1 h2)
  have := h4 c hc
  rw [if_neg ha] at this
  exact (mlook_mem this).1
/-- A row that is eligible and is not released so shows among the lines, and no other line has its key. -/
theorem differ_shows {rows E : List Row} (h1 : Rise rows) (h2 : Rise E) {e : Row} (he : e ∈ E) (hn : mlook rows e.sample e.analyte ≠ some e) : (∃ c ∈ differ rows E, c.row.sample = e.sample ∧ c.row.analyte = e.analyte) ∧ ∀ c ∈ differ rows E, c.row.sample = e.sample ∧ c.row.analyte = e.analyte → c.action ≠ 87 ∧ c.row = e := by
  obtain ⟨-, -, h3, h4⟩ := applyF_look h1 (apply_differ h1 h2)
  have hm := mlook_self h2 he
  refine ⟨?_, fun c hc q => ?_⟩
  · apply Classical.byContradiction
    intro hno
    have := h3 e.sample e.analyte (fun c hc q => hno ⟨c, hc, q⟩)
    rw [hm] at this
    exact hn this.symm
  · have := h4 c hc
    rw [q.1, q.2, hm] at this
    split at this
    · cases this
    · rename_i h87
      injection this with this
      exact ⟨h87, this.symm⟩
theorem elig_cv {L : Low} {vf lf : Int → Int → Option Int} (hcv : CV L.sm.rs vf lf) (hu : SU L.sm) {E : List Row} (hE : eligR L = some E) {y : Row} (hy : y ∈ E) : ∃ r ∈ L.sm.rs, r.sample = y.sample ∧ r.analyte = y.analyte ∧ r.version = y.version ∧ vf y.sample y.analyte = some y.version ∧ lf y.sample y.analyte = some y.value := by
  obtain ⟨r, hr, s, hs, -, rfl, -⟩ := (eligR_spec hu hE).2.1 y hy
  have hid := smpGet_id hs
  have := hcv r hr
  refine ⟨r, hr, hid.symm, rfl, rfl, ?_⟩
  show vf s.id r.analyte = some r.version ∧ lf s.id r.analyte = some r.value
  rw [hid]
  exact this
theorem CI.step {q : Nat} {t : ST} {o : Op} {fs : List File} {rows : List Row} {vf lf : Int → Int → Option Int} (h : CI t fs rows vf lf) (hq : q ≤ 65536) (hfl : fs.length ≤ q) (hi : Inv q t) (hu : SU t.low.sm) (hv : VI q t.low) :
    (¬ AccS t o → CI (stepR t o) fs rows vf lf) ∧ (AccS t o → ∃ fs' rows', CI (stepR t o) fs' rows' (corV o.req vf) (corL o.req lf) ∧ fs'.length ≤ q + 1 ∧ FStep t.low o.req (exR t.ps t.full t.off t.lar t.low o.req).iss fs rows fs' rows' (stepR t o).low) := by
  constructor
  · intro ha
    obtain ⟨e1, e2⟩ := stepR_not ha
    exact ⟨by rw [e1]; exact h.fi, by rw [e2]; exact h.ver, by rw [e2]; exact h.cv, h.cl⟩
  · intro ha
    obtain ⟨fs', rows', k1, k2, k3, -⟩ := h.fi.step (o := o) (by omega) hu (hi.po (by omega))
    have hst := k3 ha
    obtain ⟨s, hs, hc, hlow, hiss⟩ := ha.low
    obtain ⟨r1, r2, -⟩ := res_step (n := q) (by omega) (ps := t.ps) (s := s) (r := o.req) hu hv hc h.cv
    rw [← hlow] at r1 r2
    have hrs : t.low.sm.rs.length ≤ 65536 := by have := hi.low.sm.b; omega
    refine ⟨fs', rows', ⟨k1, ?_, r1, ?_⟩, by omega, hst⟩
    · have old : ∀ y ∈ rows, ∃ r ∈ (stepR t o).low.sm.rs, r.sample = y.sample ∧ r.analyte = y.analyte ∧ y.version ≤ r.version := fun y hy => by
        obtain ⟨r, hr, e1, e2, e3⟩ := h.ver y hy
        obtain ⟨r', hr', f1, f2, f3⟩ := r2 r hr
        exact ⟨r', hr', by omega, by omega, by omega⟩
      rcases hst with ⟨-, -, -, e, -⟩ | ⟨-, eL, -, E, hE, -, hap⟩ | ⟨-, -, -, -, -, e⟩
      · rw [e]; exact old
      · intro y hy
        obtain ⟨rE, -, -⟩ := eligR_spec hu hE
        obtain ⟨a1, -, a3, a4⟩ := applyF_look h.fi.rise hap
        have hm := mlook_self a1 hy
        by_cases hex : ∃ c ∈ (differ rows E).take 20, c.row.sample = y.sample ∧ c.row.analyte = y.analyte
        · obtain ⟨c, hc', e1, e2⟩ := hex
          have h87 := a4 c hc'
          rw [e1, e2, hm] at h87
          split at h87
          · cases h87
          · rename_i hn
            injection h87 with h87
            have hE' := differ_elig h.fi.rise rE (List.mem_of_mem_take hc') hn
            rw [← h87] at hE'
            obtain ⟨r, hr, f1, f2, f3, -⟩ := elig_cv h.cv hu hE hE'
            rw [eL]
            exact ⟨r, hr, f1, f2, by omega⟩
        · rw [a3 _ _ (fun c hc' q => hex ⟨c, hc', q⟩)] at hm
          exact old y (mlook_mem hm).1
      · rw [e]; exact old
    · intro f hf
      rcases hst with ⟨-, -, e, -, -⟩ | ⟨-, -, -, E, -, e, -⟩ | ⟨-, -, -, -, e, -⟩
      · rw [e] at hf; exact h.cl f hf
      · rw [e] at hf
        rcases mem_snoc hf with q' | q'
        · exact h.cl f q'
        · rw [q']; dsimp only; rw [List.length_take]; omega
      · rw [e] at hf
        rcases mem_snoc hf with q' | q'
        · exact h.cl f q'
        · rw [q']
          have := h.rowsLen
          show (asCur rows).length ≤ 65536
          simp only [asCur, List.length_map]
          omega
/-- The lines of an issued file show each result's last form. -/
theorem issued_cv {t : ST} {o : Op} {fs fs' : List File} {rows rows' : List Row} {vf lf : Int → Int → Option Int} {iss : Int} {L' : Low} (h : CI t fs rows vf lf) (hu : SU t.low.sm) (hst : FStep t.low o.req iss fs rows fs' rows' L') (hk : o.req.kind = 19 ∨ o.req.kind = 20) :
    iss = (fs.length : Int) + 1 ∧ corV o.req vf = vf ∧ corL o.req lf = lf ∧ ∃ f, fs' = fs ++ [f] ∧ ∀ c ∈ f.changes, c.action ≠ 87 → vf c.row.sample c.row.analyte = some c.row.version ∧ lf c.row.sample c.row.analyte = some c.row.value := by
  have e1 : corV o.req vf = vf := by unfold corV; rw [if_neg (by omega), if_neg (by omega)]
  have e2 : corL o.req lf = lf := by unfold corL; rw [if_neg (by omega), if_neg (by omega)]
  rcases hst with ⟨k1, k2, -⟩ | ⟨-, -, hi, E, hE, e, -⟩ | ⟨-, -, hi, hE, e, -⟩
  · omega
  · refine ⟨hi, e1, e2, _, e, fun c hc ha => ?_⟩
    obtain ⟨rE, -, -⟩ := eligR_spec hu hE
    have hc : c ∈ (differ rows E).take 20 := hc
    obtain ⟨r, -, -, -, -, f1⟩ := elig_cv h.cv hu hE (differ_elig h.fi.rise rE (List.mem_of_mem_take hc) ha)
    exact f1
  · refine ⟨hi, e1, e2, _, e, fun c hc ha => ?_⟩
    obtain ⟨y, hy, rfl⟩ := List.mem_map.1 (show c ∈ asCur rows from hc)
    obtain ⟨r, -, -, -, -, f1⟩ := elig_cv h.cv hu hE hy
    exact f1
/-- What the law makes of the pending lines. -/
def awB (s a v l : Int) (b : Bool) (c : Change) : Bool := if c.row.sample = s ∧ c.row.analyte = a then (c.action != 87 && c.row.version == v && c.row.value == l) else b
theorem aw_true {s a v l : Int} : ∀ (cs : List Change) (b : Bool), (∀ c ∈ cs, c.row.sample = s ∧ c.row.analyte = a → (c.action != 87 && c.row.version == v && c.row.value == l) = true) → (b = true ∨ ∃ c ∈ cs, c.row.sample = s ∧ c.row.analyte = a) → cs.foldl (awB s a v l) b = true
  | [], b, _, h => by
    rcases h with h | ⟨c, hc, -⟩
    · exact h
    · cases hc
  | c :: cs, b, hg, h => by
    rw [List.foldl_cons]
    refine aw_true cs _ (fun d hd => hg d (List.mem_cons_of_mem _ hd)) ?_
    by_cases hk : c.row.sample = s ∧ c.row.analyte = a
    · left
      unfold awB
      rw [if_pos hk]
      exact hg c (List.mem_cons_self ..) hk
    · rcases h with h | ⟨d, hd, hdk⟩
      · left
        unfold awB
        rw [if_neg hk]
        exact h
      · right
        rcases List.mem_cons.1 hd with e | hd
        · rw [e] at hdk; exact absurd hdk hk
        · exact ⟨d, hd, hdk⟩
/-- Behind an accepted correction that nothing holds back, the result's line is awaited. -/
theorem corr_awaited {q : Nat} {t : ST} {o : Op} {fs : List File} {rows : List Row} {vf lf : Int → Int → Option Int} (h : CI t fs rows vf lf) (hq : q ≤ 65536) (hi : Inv q t) (hi' : Inv (q + 1) (stepR t o)) (hu : SU t.low.sm) (hu' : SU (stepR t o).low.sm) (hv : VI q t.low) (hv' : VI (q + 1) (stepR t o).low) (ha : AccS t o) (hk : o.req.kind = 13) (hfl : fs.length ≤ q) :
    ∃ x s E, resGet (stepR t o).low.sm o.req.id o.req.ref = some x ∧ smpGet (stepR t o).low.sm o.req.id = some s ∧ pendR (stepR t o).ps (stepR t o).low = some (differ rows E) ∧ corV o.req vf o.req.id o.req.ref = some x.version ∧ corL o.req lf o.req.id o.req.ref = some x.value ∧ (differ rows E).length ≤ 262144 ∧
      (holdsOf (stepR t o).low s x = 0 → (differ rows E).foldl (awB o.req.id o.req.ref x.version x.value) false = true) := by
  obtain ⟨sst, hs, hc, hlow, hiss⟩ := ha.low
  obtain ⟨r1, r2, r3⟩ := res_step (n := q) (by omega) (ps := t.ps) (s := sst) (r := o.req) hu hv hc h.cv
  rw [← hlow] at r1 r2 r3
  obtain ⟨x0, hx0, x, hx, e1, e2, e3, e4, e5⟩ := r3 hk
  obtain ⟨fs', rows', k1, k2, k3, -⟩ := h.fi.step (o := o) (by omega) hu (hi.po (by omega))
  have hrw : rows' = rows := by
    rcases k3 ha with ⟨-, -, -, e, -⟩ | ⟨k, -⟩ | ⟨k, -⟩
    · exact e
    · omega
    · omega
  subst hrw
  obtain ⟨E, hE⟩ := eligR_some hv' hi'.low hu'
  obtain ⟨rE, hE1, hE2⟩ := eligR_spec hu' hE
  have hg := hu'.get hx
  rw [e3, e4] at hg
  obtain ⟨s, hs'⟩ := hu'.smp hx
  have hcv := r1 x hx
  rw [e3, e4] at hcv
  refine ⟨x, s, E, hg, by rw [← e3]; exact hs', ?_, hcv.1, hcv.2, ?_, fun h0 => ?_⟩
  · unfold pendR
    rw [k1.relR (by omega), hE]
  · have b1 := differ_len rows' E
    have b2 := h.rowsLen
    have b3 := eligR_len hE
    have b4 := hi.low.sm.b
    have b5 := hi'.low.sm.b
    omega
  · have hrow := hE2 x hx s hs' h0
    have hid := smpGet_id hs'
    have hn : mlook rows' (rowOf (stepR t o).low s x).sample (rowOf (stepR t o).low s x).analyte ≠ some (rowOf (stepR t o).low s x) := fun hm => by
      obtain ⟨m1, -, -⟩ := mlook_mem hm
      obtain ⟨r, hr, f1, f2, f3⟩ := h.ver _ m1
      have f1 : r.sample = s.id := f1
      have f2 : r.analyte = x.analyte := f2
      have f3 : x.version ≤ r.version := f3
      have hsame : r = x0 := by
        have g1 := hu.get hr
        have g2 := hu.get hx0
        rw [f1, f2, hid, e3, e4] at g1
        rw [e1, e2, g1] at g2
        injection g2
      rw [hsame] at f3
      omega
    obtain ⟨d1, d2⟩ := differ_shows k1.rise rE hrow hn
    have es : (rowOf (stepR t o).low s x).sample = o.req.id := by show s.id = _; rw [hid]; exact e3
    have ea : (rowOf (stepR t o).low s x).analyte = o.req.ref := e4
    rw [es, ea] at d1 d2
    refine aw_true _ _ (fun c hc' hck => ?_) (Or.inr d1)
    obtain ⟨g1, g2⟩ := d2 c hc' hck
    rw [g2]
    simp [rowOf, g1]

end Go.Proofs.Qxb6500666aGreatDoor
