/- The queries over the set-up, each in one. -/
import Derived.Test.Qxb6500665aDoorStep
namespace Go.Proofs.Qxb6500665aDoor
open Go.RowKit Go.Proofs.Qxb6500665aDoor.Cal

section
variable {w : World} {P S : Nat} {A : Nat → Prop} {ps : List KV} {full : Bool} {T : Tab}

def anR (T : Tab) (id : Int) : Int × Int × Int × Int × Int := match T.an id with
  | none => (14, 0, 0, 0, 0)
  | some l => (0, id, l.1, l.2.1, l.2.2)
theorem analyte_q (h : PAt w P S A ps full) (hr : Rep ps T) (id : Int) (hid : U32 id) :
    Calls Tryd.prog 24 #[.pointer (some ⟨P, 0, none⟩), .int .u32 id] w fun e w' => e = .returned (.tuple #[.agg #[.int .u32 (anR T id).2.1, .int .i64 (anR T id).2.2.1, .int .i64 (anR T id).2.2.2.1, .int .i64 (anR T id).2.2.2.2], errOr (anR T id).1]) ∧ Below w.heap.size w w' := by
  have hg := hr.an id hid
  unfold anR
  cases ht : T.an id with
  | none => rw [ht] at hg; exact analyte_none w P S A ps full id h hid hg
  | some l =>
    rw [ht] at hg
    obtain ⟨a, b, c⟩ := hr.anok id l ht
    exact analyte_some w P S A ps full id l.1 l.2.1 l.2.2 h hid hg a b c

def subR (T : Tab) (id : Int) : Int × Int × Int × Int := match T.sub id with
  | none => (17, 0, 0, 0)
  | some s => (0, id, s.1, s.2)
theorem subject_q (h : PAt w P S A ps full) (hr : Rep ps T) (id : Int) (hid : U32 id) :
    Calls Tryd.prog 26 #[.pointer (some ⟨P, 0, none⟩), .int .u32 id] w fun e w' => e = .returned (.tuple #[.agg #[.int .u32 (subR T id).2.1, .int .u32 (subR T id).2.2.1, .int .i64 (subR T id).2.2.2], errOr (subR T id).1]) ∧ Below w.heap.size w w' := by
  have hg := hr.sub id hid
  unfold subR
  cases ht : T.sub id with
  | none => rw [ht] at hg; exact subject_none w P S A ps full id h hid hg
  | some s =>
    rw [ht] at hg
    obtain ⟨a, b, c⟩ := hr.subok id s ht
    exact subject_some w P S A ps full id s.1 s.2 h hid hg a ⟨by omega, by omega⟩

def panR (T : Tab) (id : Int) : Int × Int × List Int := match T.pan id with
  | none => (15, 0, [])
  | some l => (0, id, l)
theorem panel_q (h : PAt w P S A ps full) (hr : Rep ps T) (id : Int) (hid : U32 id) :
    Calls Tryd.prog 25 #[.pointer (some ⟨P, 0, none⟩), .int .u32 id] w fun e w' => ∃ iv, e = .returned (.tuple #[.agg #[.int .u32 (panR T id).2.1, iv], errOr (panR T id).1]) ∧ U32sAt w' (w.heap.size ≤ ·) iv (panR T id).2.2 ∧ Below w.heap.size w w' := by
  have hg := hr.pan.get id hid
  unfold panR
  cases ht : T.pan id with
  | none =>
    rw [ht] at hg
    refine (panel_none w P S A ps full id h hid hg).mono ?_
    rintro e w' ⟨rfl, hb⟩
    exact ⟨_, rfl, RArr.nil _ _ _ _, hb⟩
  | some l =>
    rw [ht] at hg
    obtain ⟨a, b, c⟩ := hr.pan.ok id l ht
    exact panel_some w P S A ps full id l h hid hg c b

def verR (T : Tab) (id : Int) : Int × Int × Int × List Visit := match verOf T.vers id with
  | none => (18, 0, 0, [])
  | some v => (0, id, v.1, v.2)
theorem verOf_mem {vers : List Ver} {id : Int} {v : Ver} (h : verOf vers id = some v) : v ∈ vers := by
  unfold verOf at h
  split at h
  · exact List.mem_of_getElem? h
  · cases h
theorem visits_nil (w : World) (ok : Nat → Prop) : VisitsAt w ok (.slice none 0 0) [] := ⟨[], RArr.nil _ _ _ _, rfl, fun z hz => by cases hz⟩
theorem version_q (h : PAt w P S A ps full) (hr : Rep ps T) (id : Int) (hid : U32 id) :
    Calls Tryd.prog 23 #[.pointer (some ⟨P, 0, none⟩), .int .u32 id] w fun e w' => ∃ iv, e = .returned (.tuple #[.agg #[.int .u32 (verR T id).2.1, .int .i64 (verR T id).2.2.1, iv], errOr (verR T id).1]) ∧ VisitsAt w' (w.heap.size ≤ ·) iv (verR T id).2.2.2 ∧ Below w.heap.size w w' := by
  have hg := hr.verall id hid
  unfold verR
  cases ht : verOf T.vers id with
  | none =>
    rw [ht] at hg
    refine (version_none w P S A ps full id h hid hg).mono ?_
    rintro e w' ⟨rfl, hb⟩
    exact ⟨_, rfl, visits_nil _ _, hb⟩
  | some v =>
    rw [ht] at hg
    have hv := hr.vers.ok v (verOf_mem ht)
    exact version_some w P S A ps full id v.1 v.2 h hid hg hv.eff hv.vis hv.pan hv.len

def verAtR (T : Tab) (m : Int) : Int × Int × Int × List Visit :=
  if m < 0 ∨ 157785119 < m then (3, 0, 0, []) else match inF T.vers m with
  | none => (20, 0, 0, [])
  | some k => (0, (k : Int) + 1, (T.vers[k]?.getD (0, [])).1, (T.vers[k]?.getD (0, [])).2)
theorem versionAt_q (h : PAt w P S A ps full) (hr : Rep ps T) (m : Int) :
    Calls Tryd.prog 22 #[.pointer (some ⟨P, 0, none⟩), .int .i64 m] w fun e w' => ∃ iv, e = .returned (.tuple #[.agg #[.int .u32 (verAtR T m).2.1, .int .i64 (verAtR T m).2.2.1, iv], errOr (verAtR T m).1]) ∧ VisitsAt w' (w.heap.size ≤ ·) iv (verAtR T m).2.2.2 ∧ Below w.heap.size w w' := by
  unfold verAtR
  by_cases hm : m < 0 ∨ 157785119 < m
  · rw [if_pos hm]
    refine (versionAt_bad w P m hm).mono ?_
    rintro e w' ⟨rfl, hb⟩
    exact ⟨_, rfl, visits_nil _ _, hb⟩
  · rw [if_neg hm]
    refine (versionAt_calls w P S A ps full T.vers m h hr.vers (by omega) (by omega)).mono ?_
    rintro e w' ⟨hres, hb⟩
    cases hi : inF T.vers m with
    | none =>
      rw [hi] at hres
      exact ⟨_, hres, visits_nil _ _, hb⟩
    | some k =>
      rw [hi] at hres
      obtain ⟨hk, iv, rfl, hv⟩ := hres
      refine ⟨iv, ?_, ?_, hb⟩
      · simp only [List.getElem?_eq_getElem hk]; rfl
      · simp only [List.getElem?_eq_getElem hk]; exact hv

def clsR (T : Tab) (sid vid m : Int) : Pl :=
  if m < 0 ∨ 157785119 < m then noPl 3 else match T.sub sid with
  | none => noPl 17
  | some s => match inF T.vers m with
    | none => noPl 20
    | some k => clsT ((k : Int) + 1) (s.2 / 1440) (m / 1440) vid (T.vers[k]?.getD (0, [])).2
theorem classify_q (h : PAt w P S A ps full) (hr : Rep ps T) (sid vid m : Int) (hs : U32 sid) :
    Calls Tryd.prog 21 #[.pointer (some ⟨P, 0, none⟩), .int .u32 sid, .int .u32 vid, .int .i64 m] w fun e w' => ClPost w w' e (clsR T sid vid m) := by
  unfold clsR
  by_cases hm : m < 0 ∨ 157785119 < m
  · rw [if_pos hm]; exact classify_bad w P sid vid m hm
  · rw [if_neg hm]
    have hg := hr.sub sid hs
    cases ht : T.sub sid with
    | none => rw [ht] at hg; exact classify_nosub w P S A ps full sid vid m h (by omega) (by omega) hs hg
    | some s =>
      rw [ht] at hg
      obtain ⟨a, b, c⟩ := hr.subok sid s ht
      cases hi : inF T.vers m with
      | none => exact classify_nover w P S A ps full T.vers sid vid m s.1 s.2 h hr.vers (by omega) (by omega) hs hg a ⟨by omega, by omega⟩ hi
      | some k =>
        have hk := inFrom_lt hi
        simp only [List.getElem?_eq_getElem hk]
        exact classify_main w P S A ps full T.vers sid vid m s.1 s.2 k hk h hr.vers (by omega) (by omega) hs hg a ⟨b, c⟩ hi (fun v hv => VB.of_ok (hr.vb _ (List.getElem_mem hk) v hv))

theorem classify_q' (h : PAt w P S A ps full) (hr : Rep ps T) (sid vid m : Int) (hs : U32 sid) :
    Calls Tryd.prog 21 #[.pointer (some ⟨P, 0, none⟩), .int .u32 sid, .int .u32 vid, .int .i64 m] w fun e w' => e = .returned (.tuple #[.agg #[.int .u32 (clsR T sid vid m).num, .int .u8 (clsR T sid vid m).cls, .int .i64 (clsR T sid vid m).opens, .int .i64 (clsR T sid vid m).closes], errOr (clsR T sid vid m).code]) ∧ Below w.heap.size w w' := classify_q h hr sid vid m hs

def limR (T : Tab) (id c : Int) : Int × Int := if c < 1 ∨ 3 < c then (6, 0) else match T.an id with
  | none => (14, 0)
  | some l => (0, if c = 1 then l.1 else if c = 2 then l.2.1 else l.2.2)
theorem limit_q (h : PAt w P S A ps full) (hr : Rep ps T) (id c : Int) (hid : U32 id) :
    Calls Tryd.prog 27 #[.pointer (some ⟨P, 0, none⟩), .int .u32 id, .int .u8 c] w fun e w' => e = .returned (.tuple #[.int .i64 (limR T id c).2, errOr (limR T id c).1]) ∧ Below w.heap.size w w' := by
  unfold limR
  by_cases hc : c < 1 ∨ 3 < c
  · rw [if_pos hc]; exact limit_bad w P id c hc
  · rw [if_neg hc]
    have hg := hr.an id hid
    cases ht : T.an id with
    | none => rw [ht] at hg; exact limit_none w P S A ps full id c h (by omega) (by omega) hid hg
    | some l =>
      rw [ht] at hg
      obtain ⟨a, b, c'⟩ := hr.anok id l ht
      exact limit_some w P S A ps full id c l.1 l.2.1 l.2.2 h (by omega) (by omega) hid hg a b c'

def tsR (T : Tab) (vid m : Int) : Int × List Int :=
  if m < 0 ∨ 157785119 < m then (3, []) else match inF T.vers m with
  | none => (20, [])
  | some k => tsT T.pan vid (T.vers[k]?.getD (0, [])).2
theorem visErr_panels {v : Visit} (h : visErr v = 0) : 0 < v.panels.length := by
  unfold visErr at h
  split at h
  · cases h
  · split at h
    · cases h
    · split at h
      · cases h
      · unfold listErr at h
        split at h
        · cases h
        · omega
theorem tests_q (h : PAt w P S A ps full) (hr : Rep ps T) (vid m : Int) :
    Calls Tryd.prog 28 #[.pointer (some ⟨P, 0, none⟩), .int .u32 vid, .int .i64 m] w fun e w' => TsPost w w' e (tsR T vid m) := by
  unfold tsR
  by_cases hm : m < 0 ∨ 157785119 < m
  · rw [if_pos hm]; exact tests_bad w P vid m hm
  · rw [if_neg hm]
    cases hi : inF T.vers m with
    | none => exact tests_nover w P S A ps full T.vers vid m h hr.vers (by omega) (by omega) hi
    | some k =>
      have hk := inFrom_lt hi
      simp only [List.getElem?_eq_getElem hk]
      exact tests_main w P S A ps full T.vers T.pan vid m k hk h hr.vers hr.pan (by omega) (by omega) hi (fun v hv => visErr_panels (hr.vb _ (List.getElem_mem hk) v hv))

def dayR (m : Int) : Int × Int := if m < 0 ∨ 157785119 < m then (3, 0) else (0, m / 1440)
theorem dayOf_q (m : Int) : Calls Tryd.prog 31 #[.int .i64 m] w fun e w' => e = .returned (.tuple #[.int .i64 (dayR m).2, errOr (dayR m).1]) ∧ w = w' := by
  unfold dayR
  by_cases hm : m < 0 ∨ 157785119 < m
  · rw [if_pos hm]; exact dayOf_bad m w hm
  · rw [if_neg hm]; exact dayOf_ok m w (by omega) (by omega)

def addR (m d : Int) : Int × Int := if m < 0 ∨ 109572 < m then (3, 0) else if 109572 < m + d ∨ m + d < 0 then (4, 0) else (0, m + d)
theorem addDays_q (m d : Int) : Calls Tryd.prog 32 #[.int .i64 m, .int .i64 d] w fun e w' => e = .returned (.tuple #[.int .i64 (addR m d).2, errOr (addR m d).1]) ∧ w = w' := by
  unfold addR
  by_cases hm : m < 0 ∨ 109572 < m
  · rw [if_pos hm]; exact addDays_bad m d w hm
  · rw [if_neg hm]
    by_cases hd : 109572 < m + d ∨ m + d < 0
    · rw [if_pos hd]; exact addDays_over m d w (by omega) (by omega) hd
    · rw [if_neg hd]; exact addDays_ok m d w (by omega) (by omega) (by omega) (by omega)
theorem own_u32s {W : World} {base : Nat} {v : Value} {l : List Int} (h : OwnR W base 29 1 u32Cs v l) (hl : l.length ≤ 140737488355328) : U32sAt W (base ≤ ·) v l := h.rows u32Cs_size (by decide) hl

theorem gath_len {pan : Int → Option (List Int)} (hp : ∀ id ids, pan id = some ids → ids.length ≤ 8) : ∀ {xs all}, gath pan xs = some all → all.length ≤ 8 * xs.length
  | [], all, h => by cases h; simp
  | x :: r, all, h => by
    simp only [gath] at h
    cases h1 : pan x with
    | none => rw [h1] at h; cases h
    | some a =>
      cases h2 : gath pan r with
      | none => rw [h1, h2] at h; cases h
      | some b =>
        rw [h1, h2] at h
        cases h
        have h3 := hp x a h1
        have h4 := gath_len hp h2
        simp only [List.length_append, List.length_cons]
        omega
theorem tsT_len {pan : Int → Option (List Int)} (hp : ∀ id ids, pan id = some ids → ids.length ≤ 8) (visit : Int) : ∀ {vs : List Visit}, (∀ v ∈ vs, v.panels.length ≤ 6) → (tsT pan visit vs).2.length ≤ 48
  | [], _ => by simp [tsT]
  | v :: r, h => by
    simp only [tsT]
    split
    · unfold tsList
      cases hg : gath pan v.panels with
      | none => simp
      | some all =>
        have h1 := gath_len hp hg
        have h2 := h v (List.mem_cons_self ..)
        have h3 := (ddN_len (sortL ltN all) (sortL ltN all).length (Nat.le_refl _)).1
        have h4 := (sortL_perm ltN all).length_eq
        simp only [ddup]
        omega
    · exact tsT_len hp visit (fun x hx => h x (List.mem_cons_of_mem _ hx))

theorem tests_q' (h : PAt w P S A ps full) (hr : Rep ps T) (vid m : Int) :
    Calls Tryd.prog 28 #[.pointer (some ⟨P, 0, none⟩), .int .u32 vid, .int .i64 m] w fun e w' => ∃ lv, e = .returned (.tuple #[lv, errOr (tsR T vid m).1]) ∧ U32sAt w' (w.heap.size ≤ ·) lv (tsR T vid m).2 ∧ Below w.heap.size w w' := by
  refine (tests_q h hr vid m).mono ?_
  rintro e w' ⟨lv, rfl, ho, hb⟩
  refine ⟨lv, rfl, own_u32s ho ?_, hb⟩
  have hl : (tsR T vid m).2.length ≤ 48 := by
    unfold tsR
    split
    · simp
    · split
      · simp
      · rename_i k hi
        have hk := inFrom_lt hi
        simp only [List.getElem?_eq_getElem hk]
        exact tsT_len (fun id ids hx => (hr.pan.ok id ids hx).2.1) vid (hr.vers.ok _ (List.getElem_mem hk)).pan
  omega

theorem flat_len1 {sel : KV → List Int} (hs : ∀ p, (sel p).length ≤ 1) (l : List KV) : (l.flatMap sel).length ≤ l.length := by
  induction l with
  | nil => simp
  | cons p r ih => simp only [List.flatMap_cons, List.length_append, List.length_cons]; have := hs p; omega

theorem sites_q (h : PAt w P S A ps full) (hr : Rep ps T) (hps : ps.length ≤ 900000) :
    Calls Tryd.prog 29 #[.pointer (some ⟨P, 0, none⟩)] w fun e w' => ∃ iv, e = .returned (.tuple #[iv, errOr 0]) ∧ U32sAt w' (w.heap.size ≤ ·) iv (sitesOf ps) ∧ Below w.heap.size w w' := by
  refine (sites_calls w P S A ps full h hr.keys (by omega)).mono ?_
  rintro e w' ⟨iv, rfl, ho, hb⟩
  refine ⟨iv, rfl, own_u32s ho ?_, hb⟩
  have h1 := flat_len1 (sel := fun p => [idOf p.1]) (fun _ => by simp) (scanB ps [115] [116] (ps.length + 1) none)
  have h2 := scanB_len ps [115] [116] (ps.length + 1) none
  unfold sitesOf
  omega

theorem subjects_q (h : PAt w P S A ps full) (hr : Rep ps T) (site : Int) (hps : ps.length ≤ 900000) :
    Calls Tryd.prog 30 #[.pointer (some ⟨P, 0, none⟩), .int .u32 site] w fun e w' => ∃ iv, e = .returned (.tuple #[iv, errOr 0]) ∧ U32sAt w' (w.heap.size ≤ ·) iv (subsOf ps site) ∧ Below w.heap.size w w' := by
  refine (subjects_calls w P S A ps full site h hr.keys hr.subs (by omega)).mono ?_
  rintro e w' ⟨iv, rfl, ho, hb⟩
  refine ⟨iv, rfl, own_u32s ho ?_, hb⟩
  have h1 := flat_len1 (selSub_len site) (scanB ps [117] [118] (ps.length + 1) none)
  have h2 := scanB_len ps [117] [118] (ps.length + 1) none
  unfold subsOf
  omega
end

end Go.Proofs.Qxb6500665aDoor
