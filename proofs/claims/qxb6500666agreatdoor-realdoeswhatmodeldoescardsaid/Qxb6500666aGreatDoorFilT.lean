/- The files on record behind any step. Plain. -/
import Derived.Test.Qxb6500666aGreatDoorFilS
namespace Go.Proofs.Qxb6500666aGreatDoor
open Go.RowKit

theorem differ_nil {a b : List Row} (ha : Rise a) (hb : Rise b) (h : differ a b = []) : a = b := by
  have := apply_differ ha hb
  rw [h] at this
  simpa [applyF, applyGo] using this
theorem incW_keys (seq : Int) : ∀ (cs : List Change) (i : Nat), (∀ c ∈ cs, c.Ok) → ∀ x ∈ incW seq i cs, x.1.1.head? = some 114 → ∃ a b, U32 a ∧ U32 b ∧ x.1.1 = key2B 114 a b
  | [], _, _, x, hx, _ => by cases hx
  | c :: cs, i, ho, x, hx, q => by
    unfold incW at hx
    rcases List.mem_cons.mp hx with e | hx
    · exfalso
      rw [e] at q
      have q : (key2B 99 _ _).head? = some 114 := q
      rw [key2B_head] at q
      injection q with q; omega
    · rcases List.mem_cons.mp hx with e | hx
      · have hc := (ho c (List.mem_cons_self ..)).row
        refine ⟨_, _, hc.sample, hc.analyte, ?_⟩
        rw [e]; unfold ptrW; split <;> rfl
      · exact incW_keys seq cs (i + 1) (fun d hd => ho d (List.mem_cons_of_mem _ hd)) x hx q
theorem incR_acc {ps : List KV} {L : Low} {now : Int} {s : Stat} (h : (incR ps L now s 0).1 = 0) : ∃ all, pendR ps L = some all ∧ FileOk 73 ((s.transfers + 1) % 4294967296) now s.lastCum (all.take 20) ∧ incR ps L now s 0 = (0, { s with transfers := (s.transfers + 1) % 4294967296 }, (s.transfers + 1) % 4294967296, ((key1B 104 ((s.transfers + 1) % 4294967296), hdrB (hdrOf 73 ((s.transfers + 1) % 4294967296) now s.lastCum (all.take 20))), false) :: incW ((s.transfers + 1) % 4294967296) 0 (all.take 20)) := by
  cases hall : pendR ps L with
  | none =>
    unfold incR at h
    rw [hall] at h
    have h : (28 : Int) = 0 := h
    omega
  | some all =>
    unfold incR at h ⊢
    rw [hall] at h ⊢
    dsimp only at h ⊢
    by_cases hF : FileOk 73 ((s.transfers + 1) % 4294967296) now s.lastCum (all.take 20)
    · exact ⟨all, rfl, hF, by rw [if_pos hF]⟩
    · rw [if_neg hF] at h
      have h : (28 : Int) = 0 := h
      omega
theorem cumR_acc {ps : List KV} {L : Low} {now : Int} {s : Stat} (h : (cumR ps L now s 0).1 = 0) : ∃ rows, pendR ps L = some [] ∧ relR ps = some rows ∧ FileOk 67 ((s.transfers + 1) % 4294967296) now s.lastCum (asCur rows) ∧ cumR ps L now s 0 = (0, { s with transfers := (s.transfers + 1) % 4294967296, lastCum := (s.transfers + 1) % 4294967296 }, (s.transfers + 1) % 4294967296, [((key1B 104 ((s.transfers + 1) % 4294967296), hdrB (hdrOf 67 ((s.transfers + 1) % 4294967296) now s.lastCum (asCur rows))), false)]) := by
  cases hall : pendR ps L with
  | none =>
    unfold cumR at h
    rw [hall] at h
    have h : (28 : Int) = 0 := h
    omega
  | some all =>
    unfold cumR at h ⊢
    rw [hall] at h ⊢
    dsimp only at h ⊢
    by_cases hz : 0 < all.length
    · rw [if_pos hz] at h
      have h : (25 : Int) = 0 := h
      omega
    · have hall0 : all = [] := List.eq_nil_of_length_eq_zero (by omega)
      rw [if_neg hz] at h ⊢
      cases hrel : relR ps with
      | none =>
        rw [hrel] at h
        have h : (28 : Int) = 0 := h
        omega
      | some rows =>
        rw [hrel] at h
        dsimp only at h ⊢
        by_cases hF : FileOk 67 ((s.transfers + 1) % 4294967296) now s.lastCum (asCur rows)
        · exact ⟨rows, by rw [hall0], rfl, hF, by rw [if_pos hF]⟩
        · rw [if_neg hF] at h
          have h : (28 : Int) = 0 := h
          omega
theorem ite_kp {c : Prop} [Decidable c] {a b : HR} {P : HR → Prop} (h1 : c → P a) (h2 : ¬ c → P b) : P (if c then a else b) := by
  split
  · rename_i h; exact h1 h
  · rename_i h; exact h2 h
theorem onlyU_nil : OnlyU [] := fun _ h => by cases h
theorem addUserR_u (ps : List KV) (r : Req) : OnlyU (addUserR ps r).2 := by
  unfold addUserR
  repeat' split
  all_goals first
    | exact onlyU_nil
    | exact fun x hx => by rw [List.mem_singleton.mp hx]; rfl
theorem revokeR_u (ps : List KV) (r : Req) : OnlyU (revokeR ps r).2 := by
  unfold revokeR
  repeat' split
  all_goals first
    | exact onlyU_nil
    | exact fun x hx => by rw [List.mem_singleton.mp hx]; rfl
theorem handR_other {ps : List KV} {L : Low} {s : Stat} {r : Req} (h1 : r.kind ≠ 19) (hk : isCmd r.kind = true) (h2 : r.kind ≠ 20) : (handR ps L s r).st = s ∧ OnlyU (handR ps L s r).ws ∧ (handR ps L s r).iss = 0 := by
  unfold handR
  refine ite_kp (P := fun R => R.st = s ∧ OnlyU R.ws ∧ R.iss = 0) (fun _ => ⟨rfl, addUserR_u ps r, rfl⟩) (fun n1 => ite_kp (P := fun R => R.st = s ∧ OnlyU R.ws ∧ R.iss = 0) (fun _ => ⟨rfl, revokeR_u ps r, rfl⟩) (fun n2 => ?_))
  iterate 16 refine ite_kp (P := fun R => R.st = s ∧ OnlyU R.ws ∧ R.iss = 0) (fun _ => ⟨rfl, onlyU_nil, rfl⟩) (fun _ => ?_)
  refine ite_kp (P := fun R => R.st = s ∧ OnlyU R.ws ∧ R.iss = 0) (fun e => absurd e h1) (fun _ => ?_)
  exfalso
  unfold isCmd at hk
  simp at hk
  omega
/-- What an accepted command does to the files. -/
def FStep (L : Low) (r : Req) (iss : Int) (fs : List File) (rows : List Row) (fs' : List File) (rows' : List Row) (L' : Low) : Prop :=
  (r.kind ≠ 19 ∧ r.kind ≠ 20 ∧ fs' = fs ∧ rows' = rows ∧ iss = 0) ∨
  (r.kind = 19 ∧ L' = L ∧ iss = (fs.length : Int) + 1 ∧ ∃ E, eligR L = some E ∧ fs' = fs ++ [⟨73, (fs.length : Int) + 1, r.now, cumOf fs, (differ rows E).take 20⟩] ∧ applyF rows ((differ rows E).take 20) = some rows') ∨
  (r.kind = 20 ∧ L' = L ∧ iss = (fs.length : Int) + 1 ∧ eligR L = some rows ∧ fs' = fs ++ [⟨67, (fs.length : Int) + 1, r.now, cumOf fs, asCur rows⟩] ∧ rows' = rows)
theorem FI.cmd {ps : List KV} {fs : List File} {rows : List Row} {full : Bool} {off lar : Int} {L : Low} {r : Req} (h : FI ps fs rows) (hl : fs.length ≤ 900000) (hu : SU L.sm) (hp : PO ps L) (hk : isCmd r.kind = true) (hc : (exR ps full off lar L r).c = 0) :
    ∃ fs' rows', FI (exR ps full off lar L r).ps fs' rows' ∧ FStep L r (exR ps full off lar L r).iss fs rows fs' rows' (exR ps full off lar L r).low := by
  obtain ⟨role, s, ha, hs, hnow, hmin, -, h5, -, -, e⟩ := exR_acc hk hc
  rw [e]
  dsimp only
  clear hc e
  obtain ⟨s0, t1, t2, t3, t4⟩ := h.st
  rw [hs] at t1
  injection t1 with t1
  subst t1
  have hmod : (s.transfers + 1) % 4294967296 = (fs.length : Int) + 1 := by rw [t2]; omega
  by_cases k19 : r.kind = 19
  · have e : handR ps L s r = ⟨(incR ps L r.now s 0).1, (incR ps L r.now s 0).2.1, (incR ps L r.now s 0).2.2.1, (incR ps L r.now s 0).2.2.2, L⟩ := by unfold handR; simp [k19]
    rw [e] at h5
    obtain ⟨all, hall, hF, hinc⟩ := incR_acc h5
    rw [hmod] at hF hinc
    rw [hinc] at e
    dsimp only at e
    obtain ⟨E, hE, hd⟩ : ∃ E, eligR L = some E ∧ all = differ rows E := by
      unfold pendR at hall
      rw [h.relR (by omega)] at hall
      dsimp only at hall
      split at hall
      · cases hall
      · rename_i E hE
        injection hall with hall
        exact ⟨E, hE, hall.symm⟩
    obtain ⟨rE, -, -⟩ := eligR_spec hu hE
    have hap := apply_differ h.rise rE
    rw [← hd] at hap
    obtain ⟨rows', hr'⟩ := applyF_take 20 hap
    obtain ⟨a1, a2, a3, a4⟩ := applyF_look h.rise hr'
    have hco : ∀ c ∈ all.take 20, c.Ok := fun c hc => hp.hco all hall c (List.mem_of_mem_take hc)
    have hcr : ∀ c ∈ all.take 20, c.row.Ok := fun c hc => (hco c hc).row
    have hlen : (all.take 20).length ≤ 20 := by rw [List.length_take]; omega
    have hA := capart_of_rise a2
    have hrok : ∀ y ∈ rows', y.Ok := applyGo_ok (T := Row.Ok) _ none rows [] rows' h.rok (fun _ q => by cases q) hcr hr'
    rw [e]
    refine ⟨fs ++ [⟨73, (fs.length : Int) + 1, r.now, cumOf fs, all.take 20⟩], rows', ?_, Or.inr (Or.inl ⟨k19, rfl, rfl, E, hE, by rw [hd], by rw [← hd]; exact hr'⟩)⟩
    refine h.issue (f := ⟨73, (fs.length : Int) + 1, r.now, cumOf fs, all.take 20⟩) (ls := incW ((fs.length : Int) + 1) 0 (all.take 20)) hl _ r role hs hnow hmin ⟨rfl, rfl, rfl⟩ (by rw [← t3]; exact hF) hco ?_ ⟨by rw [t3], incW_heads _ _ _⟩ ?_ ?_ hr' (fun q => absurd (show (73 : Int) = 67 from q) (by decide)) a1 hrok ?_ ?_ (incW_keys _ _ _ hco)
    · simp
    · intro q j hq hj hne d
      rw [lastW_99 ⟨by omega, by omega⟩ _ 0 (by omega) q j d hq hj, dif_neg (fun x => hne x.1)]
    · intro _ j hj d
      have hj : j < (all.take 20).length := hj
      rw [lastW_99 ⟨by omega, by omega⟩ _ 0 (by omega) _ j d ⟨by omega, by omega⟩ (by omega), dif_pos ⟨rfl, Nat.zero_le _, by simpa using hj⟩]
      rfl
    · intro x a hx ha' hm
      by_cases hex : ∃ c ∈ all.take 20, c.row.sample = x ∧ c.row.analyte = a
      · obtain ⟨c, hc, rfl, rfl⟩ := hex
        obtain ⟨j, hj, rfl⟩ := List.mem_iff_getElem.1 hc
        rw [lastW_114 _ 0 _ hcr hA j hj]
        have h87 := a4 _ hc
        rw [hm] at h87
        split at h87
        · rename_i q; rw [if_pos q]
        · cases h87
      · have hno : ∀ c ∈ all.take 20, ¬ (c.row.sample = x ∧ c.row.analyte = a) := fun c hc q => hex ⟨c, hc, q⟩
        rw [lastW_114n _ 0 x a _ hx ha' hcr hno]
        rw [a3 x a hno] at hm
        exact h.ptr0 x a hx ha' hm
    · intro y hy
      have hyo := hrok y hy
      have hm := mlook_self a1 hy
      by_cases hex : ∃ c ∈ all.take 20, c.row.sample = y.sample ∧ c.row.analyte = y.analyte
      · obtain ⟨c, hc, e1, e2⟩ := hex
        obtain ⟨j, hj, rfl⟩ := List.mem_iff_getElem.1 hc
        have h87 := a4 _ hc
        rw [e1, e2, hm] at h87
        split at h87
        · cases h87
        · rename_i q
          injection h87 with h87
          refine Or.inr ⟨rfl, j, hj, h87.symm, q, fun d => ?_⟩
          have := lastW_114 (seq := (fs.length : Int) + 1) (all.take 20) 0 d hcr hA j hj
          rw [e1, e2, if_neg q, Nat.zero_add] at this
          exact this
      · have hno : ∀ c ∈ all.take 20, ¬ (c.row.sample = y.sample ∧ c.row.analyte = y.analyte) := fun c hc q => hex ⟨c, hc, q⟩
        rw [a3 _ _ hno] at hm
        exact Or.inl ⟨(mlook_mem hm).1, fun d => lastW_114n _ 0 _ _ _ hyo.sample hyo.analyte hcr hno⟩
  · by_cases k20 : r.kind = 20
    · have e : handR ps L s r = ⟨(cumR ps L r.now s 0).1, (cumR ps L r.now s 0).2.1, (cumR ps L r.now s 0).2.2.1, (cumR ps L r.now s 0).2.2.2, L⟩ := by unfold handR; simp [k20]
      rw [e] at h5
      obtain ⟨rows0, hpend, hrel, hF, hcum⟩ := cumR_acc h5
      rw [h.relR (by omega)] at hrel
      injection hrel with hrel
      subst hrel
      rw [hmod] at hF hcum
      rw [hcum] at e
      dsimp only at e
      obtain ⟨E, hE, hd⟩ : ∃ E, eligR L = some E ∧ differ rows E = [] := by
        unfold pendR at hpend
        rw [h.relR (by omega)] at hpend
        dsimp only at hpend
        split at hpend
        · cases hpend
        · rename_i E hE
          injection hpend with hpend
          exact ⟨E, hE, hpend⟩
      obtain ⟨rE, -, -⟩ := eligR_spec hu hE
      have hEq := differ_nil h.rise rE hd
      subst hEq
      rw [e]
      refine ⟨fs ++ [⟨67, (fs.length : Int) + 1, r.now, cumOf fs, asCur rows⟩], rows, ?_, Or.inr (Or.inr ⟨k20, rfl, rfl, hE, rfl, rfl⟩)⟩
      refine h.issue (f := ⟨67, (fs.length : Int) + 1, r.now, cumOf fs, asCur rows⟩) (ls := []) hl _ r role hs hnow hmin ⟨rfl, rfl, rfl⟩ (by rw [← t3]; exact hF) (fun c hc => ?_) ?_ ⟨by rw [t3], fun _ q => by cases q⟩ (fun _ _ _ _ _ _ => rfl) (fun q => absurd (show (67 : Int) = 73 from q) (by decide)) ?_ (fun _ => rfl) h.rise h.rok (fun x a hx ha' hm => h.ptr0 x a hx ha' hm) (fun y hy => Or.inl ⟨hy, fun _ => rfl⟩) (fun _ q => by cases q)
      · obtain ⟨y, hy, rfl⟩ := List.mem_map.1 hc
        exact ⟨(⟨by decide, by decide⟩ : U8 82), h.rok y hy⟩
      · simp
      · unfold relF
        simp
    · obtain ⟨o1, o2, o3⟩ := handR_other (ps := ps) (L := L) (s := s) k19 hk k20
      exact ⟨fs, rows, h.same (by omega) _ r role hs o2 o1 hnow hmin, Or.inl ⟨k19, k20, rfl, rfl, o3⟩⟩

end Go.Proofs.Qxb6500666aGreatDoor
