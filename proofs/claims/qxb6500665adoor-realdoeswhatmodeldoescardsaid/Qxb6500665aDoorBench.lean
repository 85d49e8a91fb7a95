/- One step of the script, whatever its kind. -/
import Derived.Test.Qxb6500665aDoorStepPanel
import Derived.Test.Qxb6500665aDoorStepWalk
namespace Go.Proofs.Qxb6500665aDoor
open Go.RowKit Go.Proofs.Qxb6500665aDoor.Cal

/-- The bench over the set-up T; all blocks but B and S are among A. -/
structure Bn (w : World) (B S : Nat) (A : Nat → Prop) (T : Tab) (full : Bool) (N : Nat) : Prop where
  ex : ∃ P ps, BAt w B P S A ps full ∧ Rep ps T ∧ ps.length ≤ N ∧ A P
  ne : B ≠ S
  out : ¬ A B

structure Op.Ok (o : Op) : Prop where
  kind : U8 o.kind
  id : U32 o.id
  ref : U32 o.ref
  minute : I64 o.minute
  delta : I64 o.delta
  l0 : I64 o.l0
  l1 : I64 o.l1
  l2 : I64 o.l2
  list : ∀ x ∈ o.list, U32 x
  visits : ∀ v ∈ o.visits, v.Ok

/-- What an accepted step has done to versions and subjects. -/
structure Rel (T : Tab) (o : Op) (T' : Tab) (code num : Int) : Prop where
  am : o.kind = 3 → code = 0 → T'.vers = T.vers ++ [(o.minute, sortV o.visits)] ∧ num = (T.vers.length : Int) + 1 ∧ T'.sub = T.sub ∧ (∀ v ∈ o.visits, visErr v = 0) ∧ (o.visits.map (·.id)).Nodup ∧ laps (sortV o.visits) = false ∧ 0 ≤ o.minute ∧ o.minute ≤ 157785119 ∧ (T.vers.length ≠ 0 → lastEff T.vers < o.minute)
  en : o.kind = 5 → code = 0 → T'.vers = T.vers ∧ T'.sub = upd T.sub o.id (some (o.ref, o.minute)) ∧ T.sub o.id = none ∧ 0 ≤ o.minute ∧ o.minute ≤ 157785119
  other : (o.kind ≠ 3 ∧ o.kind ≠ 5) ∨ code ≠ 0 → T'.vers = T.vers ∧ T'.sub = T.sub

/-- What a step leaves, whatever its kind. -/
structure StepAll (w w' : World) (e : Ending) (B S B0 : Nat) (A : Nat → Prop) (T : Tab) (o : Op) (N : Nat) : Prop where
  ex : ∃ (a : Ans) (T' : Tab) (full' : Bool), e = .returned (.agg (ansCs a)) ∧ Rel T o T' a.code a.num ∧ Bn w' B S (Anew w A w') T' full' (N + 2)
  same : ∀ b, b < w.heap.size → b ≠ S → b ≠ B → w'.heap[b]? = w.heap[b]?
  below : Below B0 w w'

theorem rel_same (T : Tab) (o : Op) {code num : Int} (h : (o.kind ≠ 3 ∧ o.kind ≠ 5) ∨ code ≠ 0) : Rel T o T code num :=
  ⟨fun h1 h2 => by rcases h with h | h; exact absurd h1 h.1; exact absurd h2 h, fun h1 h2 => by rcases h with h | h; exact absurd h1 h.2; exact absurd h2 h, fun _ => ⟨rfl, rfl⟩⟩

/-- From a step's own post. -/
theorem StepAll.of_post {w w' : World} {e : Ending} {B S P B0 : Nat} {A : Nat → Prop} {T T' : Tab} {ps ps' : List KV} {full full' : Bool} {o : Op} {N : Nat} {a : Ans} (h : BAt w B P S A ps full) (hne : B ≠ S) (hout : ¬ A B) (hAP : A P) (hB : B0 ≤ S) (hp : StepPost w w' e S B P A ps' full' a) (hr : Rep ps' T') (hrel : Rel T o T' a.code a.num) (hl : ps'.length ≤ N + 2) : StepAll w w' e B S B0 A T o N := by
  have hBl : B < w.heap.size := (cell_two h.bench).2.2.2
  have hPl := h.at'.store.lt P hAP
  refine ⟨⟨a, T', full', hp.ret, hrel, ⟨⟨P, ps', ⟨hp.bench.trans h.bench, ⟨?_, hp.cmd.store⟩⟩, hr, hl, Or.inl hAP⟩, hne, fun hA => hA.elim hout (fun hA => by omega)⟩⟩, fun b hb h1 _ => hp.cmd.kept.same b ⟨hb, h1⟩, hp.cmd.kept.below.mono hB⟩
  rw [hp.cmd.kept.same P ⟨hPl, fun e => h.at'.store.out (e ▸ hAP)⟩]
  exact h.at'.proto

theorem cmdPs_no {k : Int} {ps ws : List KV} (h : k ≠ 0) : cmdPs k ps ws = ps := if_neg h
theorem cmdPs_yes {k : Int} {ps ws : List KV} (h : k = 0) : cmdPs k ps ws = applyB ps ws := if_pos h

theorem firstErr_all : ∀ {vs : List Visit}, firstErr vs = 0 → ∀ v ∈ vs, visErr v = 0
  | [], _, v, hv => by cases hv
  | x :: r, h, v, hv => by
    simp only [firstErr] at h
    by_cases hx : visErr x = 0
    · rw [if_pos hx] at h
      rcases List.mem_cons.1 hv with rfl | hv
      · exact hx
      · exact firstErr_all h v hv
    · rw [if_neg hx] at h; exact absurd h hx

theorem amErr_zero {ps : List KV} {vers : List Ver} {full : Bool} {eff : Int} {vs : List Visit} (h : amErr ps vers full eff vs = 0) :
    0 ≤ eff ∧ eff ≤ 157785119 ∧ vs.length ≤ 12 ∧ (∀ v ∈ vs, visErr v = 0) ∧ (vs.map (·.id)).Nodup ∧ laps (sortV vs) = false ∧ (vers.length ≠ 0 → lastEff vers < eff) := by
  unfold amErr at h
  split at h
  · cases h
  · rename_i h1
    split at h
    · cases h
    · rename_i h2
      split at h
      · rename_i h3; exact absurd h h3
      · rename_i h3
        split at h
        · rename_i h4; exact absurd h h4
        · rename_i h4
          split at h
          · cases h
          · rename_i h5
            split at h
            · cases h
            · split at h
              · cases h
              · rename_i h7
                refine ⟨by omega, by omega, by omega, ?_, ?_, by simpa using h5, fun hn => by omega⟩
                · exact firstErr_all (by simpa using h3)
                · have h4' : listErr (vs.map (·.id)) 12 = 0 := by simpa using h4
                  unfold listErr at h4'
                  split at h4'
                  · cases h4'
                  · split at h4'
                    · assumption
                    · cases h4'

theorem enrErr_zero {ps : List KV} {vers : List Ver} {full : Bool} {id site anchor : Int} (h : enrErr ps vers full id site anchor = 0) : 0 ≤ anchor ∧ anchor ≤ 157785119 ∧ (getB ps (keyB 117 id)).isSome = false := by
  unfold enrErr at h
  split at h
  · cases h
  · split at h
    · cases h
    · rename_i h2
      split at h
      · cases h
      · rename_i h3
        exact ⟨by omega, by omega, by simpa using h3⟩

theorem listErr_zero {ids : List Int} {most : Nat} (h : listErr ids most = 0) : 0 < ids.length ∧ ids.length ≤ most := by
  unfold listErr at h
  split at h
  · cases h
  · omega

theorem panErr_zero {ps : List KV} {full : Bool} {id : Int} {ids : List Int} (h : panErr ps full id ids = 0) : 0 < ids.length ∧ ids.length ≤ 8 := by
  unfold panErr at h
  split at h
  · cases h
  · split at h
    · rename_i h2; exact absurd h h2
    · rename_i h2; exact listErr_zero (by simpa using h2)

/-- A step, whatever its kind. -/
theorem step_all (w : World) (B S B0 : Nat) (A ok : Nat → Prop) (T : Tab) (full : Bool) (N : Nat) (o : Op) (la va : Option Addr) (ln lc vn vc : Nat) (h : Bn w B S A T full N) (hN : N ≤ 800000) (hB : B0 ≤ S) (hBB : B0 ≤ B) (hTl : T.vers.length ≤ 800000) (ho : o.Ok) (hl : U32sAt w ok (.slice la ln lc) o.list) (hv : VisitsAt w ok (.slice va vn vc) o.visits) :
    Calls Tryd.prog 9 #[.pointer (some ⟨B, 0, none⟩), .agg (opCs o (.slice la ln lc) (.slice va vn vc))] w fun e w' => StepAll w w' e B S B0 A T o N := by
  obtain ⟨⟨P, ps, hb, hr, hpl, hAP⟩, hne, hout⟩ := h
  have hps : ps.length ≤ 900000 := by omega
  have q : ∀ {e w' a} {T' : Tab} {ps' full'}, StepPost w w' e S B P A ps' full' a → Rep ps' T' → Rel T o T' a.code a.num → ps'.length ≤ N + 2 → StepAll w w' e B S B0 A T o N := fun h1 h2 h3 h4 => StepAll.of_post hb hne hout hAP hB h1 h2 h3 h4
  have ql : ∀ {e w' a}, StepPost w w' e S B P A ps full a → (o.kind ≠ 3 ∧ o.kind ≠ 5) → StepAll w w' e B S B0 A T o N := fun h1 h2 => q h1 hr (rel_same T o (Or.inl h2)) (by omega)
  by_cases hk : o.kind < 1 ∨ 19 < o.kind
  · exact (step_default w B P S A ps full o la va ln lc vn vc hb hk).mono fun e w' h1 => ql h1 (by omega)
  rcases (show o.kind = 1 ∨ o.kind = 2 ∨ o.kind = 3 ∨ o.kind = 4 ∨ o.kind = 5 ∨ o.kind = 6 ∨ o.kind = 7 ∨ o.kind = 8 ∨ o.kind = 9 ∨ o.kind = 10 ∨ o.kind = 11 ∨ o.kind = 12 ∨ o.kind = 13 ∨ o.kind = 14 ∨ o.kind = 15 ∨ o.kind = 16 ∨ o.kind = 17 ∨ o.kind = 18 ∨ o.kind = 19 by omega) with k | k | k | k | k | k | k | k | k | k | k | k | k | k | k | k | k | k | k
  · refine (step_1 w B P S A ps full o la va ln lc vn vc hb hne hps k ho.id ho.l0 ho.l1 ho.l2).mono fun e w' h1 => ?_
    by_cases hz : anErr ps full o.id o.l0 o.l1 o.l2 = 0
    · rw [cmdPs_yes hz] at h1
      exact q h1 (hr.addAn ho.id ho.l0 ho.l1 ho.l2) ⟨fun h => by omega, fun h => by omega, fun _ => ⟨rfl, rfl⟩⟩ (by have := putB_len ps (keyB 97 o.id, anaB o.l0 o.l1 o.l2); show (putB ps _).length ≤ _; omega)
    · rw [cmdPs_no hz] at h1; exact ql h1 (by omega)
  · refine (step_2 w B P S A ps full o la va ln lc vn vc hb hne hps k ok ho.id hl ho.list).mono fun e w' h1 => ?_
    by_cases hz : panErr ps full o.id o.list = 0
    · rw [cmdPs_yes hz] at h1
      obtain ⟨a1, a2⟩ := panErr_zero hz
      exact q h1 (hr.addPan ho.id a1 a2 ho.list) ⟨fun h => by omega, fun h => by omega, fun _ => ⟨rfl, rfl⟩⟩ (by have := putB_len ps (keyB 112 o.id, idsB o.list); show (putB ps _).length ≤ _; omega)
    · rw [cmdPs_no hz] at h1; exact ql h1 (by omega)
  · refine (step_3 w B P S A ps full o la va ln lc vn vc hb hne hps T.vers hr.vers ok k hv ho.visits).mono fun e w' h1 => ?_
    by_cases hz : amErr ps T.vers full o.minute o.visits = 0
    · rw [cmdPs_yes hz] at h1
      obtain ⟨a1, a2, a3, a4, a5, a6, a7⟩ := amErr_zero hz
      have hso : ∀ x ∈ sortV o.visits, x ∈ o.visits := fun x hx => (sortL_perm ltV o.visits).mem_iff.1 hx
      have hvo : VerOk (o.minute, sortV o.visits) := ⟨ho.minute, fun x hx => ho.visits x (hso x hx), fun x hx => (visErr_ok (a4 x (hso x hx))).2.2.2.2.2.2.2, by show (sortL ltV o.visits).length ≤ 12; rw [(sortL_perm ltV o.visits).length_eq]; exact a3⟩
      refine q h1 (hr.amend (by omega) hvo a4) ⟨fun _ _ => ⟨rfl, ?_, rfl, a4, a5, a6, a1, a2, a7⟩, fun h => by omega, fun h => ?_⟩ (by have := applyB_len (amWs T.vers o.minute o.visits) ps; have e2 : (amWs T.vers o.minute o.visits).length = 2 := rfl; omega)
      · show amNum _ _ = _; rw [hz]; rfl
      · rcases h with h | h
        · exact absurd k h.1
        · exact absurd hz h
    · rw [cmdPs_no hz] at h1; exact q h1 hr (rel_same T o (Or.inr hz)) (by omega)
  · refine (step_4 w B P S A ps full o la va ln lc vn vc hb hne hps k ho.id).mono fun e w' h1 => ?_
    by_cases hz : siteErr ps full o.id = 0
    · rw [cmdPs_yes hz] at h1
      exact q h1 (hr.addSite ho.id) ⟨fun h => by omega, fun h => by omega, fun _ => ⟨rfl, rfl⟩⟩ (by have := putB_len ps (keyB 115 o.id, []); show (putB ps _).length ≤ _; omega)
    · rw [cmdPs_no hz] at h1; exact ql h1 (by omega)
  · refine (step_5 w B P S A ps full o la va ln lc vn vc hb hne hps k T.vers hr.vers ho.id ho.ref ho.minute).mono fun e w' h1 => ?_
    by_cases hz : enrErr ps T.vers full o.id o.ref o.minute = 0
    · rw [cmdPs_yes hz] at h1
      obtain ⟨a1, a2, a3⟩ := enrErr_zero hz
      have hn : T.sub o.id = none := by
        rw [hr.sub o.id ho.id] at a3
        cases ht : T.sub o.id with
        | none => rfl
        | some s => rw [ht] at a3; cases a3
      refine q h1 (hr.addSub ho.id ho.ref a1 a2) ⟨fun h => by omega, fun _ _ => ⟨rfl, rfl, hn, a1, a2⟩, fun h => ?_⟩ (by have := putB_len ps (keyB 117 o.id, subB o.ref o.minute); show (putB ps _).length ≤ _; omega)
      rcases h with h | h
      · exact absurd k h.2
      · exact absurd hz h
    · rw [cmdPs_no hz] at h1; exact q h1 hr (rel_same T o (Or.inr hz)) (by omega)
  · exact (step_6 w B P S A ps full o la va ln lc vn vc hb T hr k ho.id).mono fun e w' h1 => ql h1 (by omega)
  · exact (step_7 w B P S A ps full o la va ln lc vn vc hb T hr k).mono fun e w' ⟨s, h1, _⟩ => ql h1 (by omega)
  · exact (step_8 w B P S A ps full o la va ln lc vn vc hb T hr k ho.id).mono fun e w' ⟨s, h1, _⟩ => ql h1 (by omega)
  · exact (step_9 w B P S A ps full o la va ln lc vn vc hb T hr k ho.id).mono fun e w' h1 => ql h1 (by omega)
  · exact (step_10 w B P S A ps full o la va ln lc vn vc hb T hr k ho.id).mono fun e w' ⟨s, h1, _⟩ => ql h1 (by omega)
  · exact (step_11 w B P S A ps full o la va ln lc vn vc hb T hr k ho.id).mono fun e w' h1 => ql h1 (by omega)
  · by_cases hre : o.ref ≤ 255
    · exact (step_12a w B P S A ps full o la va ln lc vn vc hb T hr k ho.id ⟨ho.ref.1, hre⟩).mono fun e w' h1 => ql h1 (by omega)
    · exact (step_12b w B P S A ps full o la va ln lc vn vc hb T hr k ho.id ⟨by omega, ho.ref.2⟩).mono fun e w' h1 => ql h1 (by omega)
  · exact (step_13 w B P S A ps full o la va ln lc vn vc hb T hr k).mono fun e w' ⟨s, h1, _⟩ => ql h1 (by omega)
  · exact (step_14 w B P S A ps full o la va ln lc vn vc hb T hr hps k).mono fun e w' ⟨s, h1, _⟩ => ql h1 (by omega)
  · exact (step_15 w B P S A ps full o la va ln lc vn vc hb T hr k hps).mono fun e w' ⟨s, h1, _⟩ => ql h1 (by omega)
  · exact (step_16 w B P S A ps full o la va ln lc vn vc hb k).mono fun e w' h1 => ql h1 (by omega)
  · exact (step_17 w B P S A ps full o la va ln lc vn vc hb k).mono fun e w' h1 => ql h1 (by omega)
  · exact (step_18 w B P S A ps full o la va ln lc vn vc hb hne k).mono fun e w' h1 => q h1 hr (rel_same T o (Or.inl (by omega))) (by omega)
  · refine (step_19 w B P S A ps full o la va ln lc vn vc hb hne hout k).mono ?_
    rintro e w' ⟨h1, h2, h3, h4, h5⟩
    have hBl : B < w.heap.size := (cell_two hb.bench).2.2.2
    have hPl : w.heap.size + 3 < w'.heap.size := (cell_one h2.at'.proto).2.2
    refine ⟨⟨{}, T, full, h1, rel_same T o (Or.inl (by omega)), ⟨⟨w.heap.size + 3, ps, ⟨h2.bench, ⟨h2.at'.proto, ?_⟩⟩, hr, by omega, Or.inr ⟨by omega, hPl⟩⟩, hne, fun hA => hA.elim hout (fun hA => by omega)⟩⟩, fun b hb' h6 h7 => h3 b hb' h7, h4.mono hBB⟩
    obtain ⟨pv, z1, z2⟩ := h2.at'.store.ex
    have hSl := hb.at'.store.size
    exact ⟨⟨pv, z1, z2.mono (Same.refl _ _) (fun b hx => Or.inl hx)⟩, fun hA => hA.elim h2.at'.store.out (fun hA => by omega), fun b hx => hx.elim (h2.at'.store.lt b) (fun hx => hx.2)⟩

end Go.Proofs.Qxb6500665aDoor
