/- What the layers beneath keep: valid facts; so every eligible row is a valid one. Plain. -/
import Derived.Test.Qxb6500666aGreatDoorFilR
import Derived.Test.Qxb6500666aGreatDoorHoldP
namespace Go.Proofs.Qxb6500666aGreatDoor
open Go.RowKit

structure VP (T : Pr) : Prop where
  site : ∀ x ∈ T.site, x ≠ 0
  sub : ∀ x ∈ T.sub, x.id ≠ 0 ∧ x.site ≠ 0
  ver : ∀ v ∈ T.ver, ∀ y ∈ v.2, y ≠ 0
structure VS (n : Nat) (T : Sm) : Prop where
  ss : ∀ x ∈ T.ss, x.id ≠ 0 ∧ 1 ≤ x.cls ∧ x.cls ≤ 3
  rs : ∀ x ∈ T.rs, x.analyte ≠ 0 ∧ 1 ≤ x.version ∧ x.version ≤ n
structure VI (n : Nat) (L : Low) : Prop where
  pr : VP L.pr
  kit : ∀ x ∈ L.kit, x.id ≠ 0
  sm : VS n L.sm
theorem VS.up {n : Nat} {T : Sm} (h : VS n T) : VS (n + 1) T := ⟨h.ss, fun x hx => by have := h.rs x hx; omega⟩
theorem VI.up {n : Nat} {L : Low} (h : VI n L) : VI (n + 1) L := ⟨h.pr, h.kit, h.sm.up⟩
theorem VI.start : VI 0 low0 := ⟨⟨fun _ h => (by cases h), fun _ h => (by cases h), fun _ h => (by cases h)⟩, fun _ h => (by cases h), ⟨fun _ h => (by cases h), fun _ h => (by cases h)⟩⟩
theorem mem_snoc {α : Type} {l : List α} {a x : α} (h : x ∈ l ++ [a]) : x ∈ l ∨ x = a := by simpa using h
theorem defineP_v {T : Pr} (h : VP T) (id l0 l1 l2 : Int) : VP (defineP T id l0 l1 l2).1 := by
  unfold defineP
  repeat' split
  all_goals first | exact h | exact ⟨h.site, h.sub, h.ver⟩
theorem addSiteP_v {T : Pr} (h : VP T) (id : Int) : VP (addSiteP T id).1 := by
  unfold addSiteP
  split
  · exact h
  · rename_i h0
    split
    · exact h
    · exact ⟨fun x hx => (mem_snoc hx).elim (h.site x) (fun e => by rw [e]; simpa using h0), h.sub, h.ver⟩
theorem enrolP_v {T : Pr} (h : VP T) (id site : Int) : VP (enrolP T id site).1 := by
  unfold enrolP
  split
  · exact h
  · rename_i h0
    split
    · exact h
    · split
      · exact h
      · rename_i h2
        refine ⟨h.site, fun x hx => (mem_snoc hx).elim (h.sub x) (fun e => ?_), h.ver⟩
        rw [e]
        refine ⟨by simpa using h0, ?_⟩
        have h2 : T.site.any (fun x => x == site) = true := by simpa using h2
        obtain ⟨y, y1, y2⟩ := List.any_eq_true.1 h2
        have := h.site y y1
        have e2 : y = site := by simpa using y2
        rw [← e2]
        exact this
theorem amScan_nz : ∀ {vis seen : List Int}, amScan seen vis = 0 → ∀ y ∈ vis, y ≠ 0
  | [], _, _, y, hy => by cases hy
  | x :: r, seen, h, y, hy => by
    simp only [amScan] at h
    split at h
    · omega
    · rename_i h0
      split at h
      · omega
      · rcases List.mem_cons.1 hy with rfl | hy
        · simpa using h0
        · exact amScan_nz h y hy
theorem amendP_vp {T : Pr} (h : VP T) (eff : Int) (vis : List Int) : VP (amendP T eff vis).1 := by
  unfold amendP
  split
  · exact h
  · split
    · exact h
    · split
      · exact h
      · rename_i h2
        have h2 : amScan [] vis = 0 := by simpa using h2
        have hx : VP { T with ver := T.ver ++ [(eff, vis)] } := ⟨h.site, h.sub, fun v hv => (mem_snoc hv).elim (h.ver v) (fun e => by rw [e]; exact amScan_nz h2)⟩
        exact ite_p (P := fun R : Pr × Int => VP R.1) h hx
theorem buildP_v {l : List Kit} (h : ∀ x ∈ l, x.id ≠ 0) (id : Int) : ∀ x ∈ (buildP l id).1, x.id ≠ 0 := by
  unfold buildP
  split
  · exact h
  · rename_i h0
    split
    · exact h
    · exact fun x hx => (mem_snoc hx).elim (h x) (fun e => by rw [e]; simpa using h0)
theorem shipK_v {L : Low} (h : ∀ x ∈ L.kit, x.id ≠ 0) (id site : Int) : ∀ x ∈ (shipK L id site).1, x.id ≠ 0 := by
  unfold shipK shipP
  repeat' split
  all_goals first
    | exact h
    | (intro x hx
       unfold shipL at hx
       obtain ⟨y, hy, rfl⟩ := List.mem_map.1 hx
       split
       · exact h y hy
       · exact h y hy)
theorem upAt_mem {α : Type} {l : List α} {q : Int} {f : α → α} {x : α} (h : x ∈ upAt l q f) : x ∈ l ∨ ∃ y ∈ l, x = f y := by
  unfold upAt at h
  split at h
  · rename_i y hy
    rcases List.mem_or_eq_of_mem_set h with h | h
    · exact Or.inl h
    · exact Or.inr ⟨y, List.mem_of_getElem? hy, h⟩
  · exact Or.inl h
theorem accession_v {n : Nat} {T : Sm} (h : VS n T) (x : Smp) : VS (n + 1) (accession T x).1 := by
  unfold accession
  split
  · exact h.up
  · rename_i h0
    split
    · exact h.up
    · rename_i h1
      split
      · exact h.up
      · split
        · exact h.up
        · refine ⟨fun y hy => (mem_snoc hy).elim (h.ss y) (fun e => ?_), h.up.rs⟩
          rw [e]
          simp only [Bool.or_eq_true, decide_eq_true_eq, not_or, Int.not_lt] at h1
          exact ⟨by simpa using h0, by dsimp only; omega, by dsimp only; omega⟩
theorem excursion_v {n : Nat} {T : Sm} (h : VS n T) (id : Int) : VS (n + 1) (excursion T id).1 := by
  unfold excursion
  repeat' split
  all_goals first
    | exact h.up
    | (refine ⟨fun y hy => ?_, h.up.rs⟩
       rcases upAt_mem hy with q | ⟨z, z1, rfl⟩
       · exact h.ss y q
       · exact h.ss z z1)
theorem collection_v {n : Nat} {T : Sm} (h : VS n T) (id at' : Int) : VS (n + 1) (collection T id at').1 := by
  unfold collection
  repeat' split
  all_goals first
    | exact h.up
    | (refine ⟨fun y hy => ?_, h.up.rs⟩
       rcases upAt_mem hy with q | ⟨z, z1, rfl⟩
       · exact h.ss y q
       · exact h.ss z z1)
theorem enterR_v {n : Nat} {T : Sm} (h : VS n T) (s a v t : Int) : VS (n + 1) (enterR T s a v t).1 := by
  unfold enterR
  split
  · exact h.up
  · rename_i h0
    repeat' split
    all_goals first
      | exact h.up
      | exact ⟨h.ss, fun y hy => (mem_snoc hy).elim (h.up.rs y) (fun e => by rw [e]; exact ⟨by simpa using h0, Int.le_refl _, by show (1 : Int) ≤ ((n + 1 : Nat) : Int); omega⟩)⟩
theorem correctR_v {n : Nat} (hn : n ≤ 1000000) {T : Sm} (h : VS n T) (s a v : Int) : VS (n + 1) (correctR T s a v).1 := by
  unfold correctR
  repeat' split
  all_goals first
    | exact h.up
    | (refine ⟨h.ss, fun y hy => ?_⟩
       rcases upAt_mem hy with q | ⟨z, z1, rfl⟩
       · exact h.up.rs y q
       · have := h.rs z z1
         exact ⟨this.1, by dsimp only; omega, by dsimp only; omega⟩)
theorem withdrawR_v {n : Nat} {T : Sm} (h : VS n T) (s a : Int) : VS (n + 1) (withdrawR T s a).1 := by
  unfold withdrawR
  repeat' split
  all_goals first
    | exact h.up
    | (refine ⟨h.ss, fun y hy => ?_⟩
       rcases upAt_mem hy with q | ⟨z, z1, rfl⟩
       · exact h.up.rs y q
       · exact h.up.rs z z1)
theorem raiseQ_v {n : Nat} {T : Sm} (h : VS n T) (id s : Int) : VS (n + 1) (raiseQ T id s).1 := by
  unfold raiseQ
  repeat' split
  all_goals exact ⟨h.ss, h.up.rs⟩
theorem moveQ_v {n : Nat} {T : Sm} (h : VS n T) (id a b : Int) : VS (n + 1) (moveQ T id a b).1 := by
  unfold moveQ
  repeat' split
  all_goals exact ⟨h.ss, h.up.rs⟩
theorem handR_vi {n : Nat} (hn : n ≤ 1000000) {ps : List KV} {L : Low} {s : Stat} {r : Req} (h : VI n L) : VI (n + 1) (handR ps L s r).low := by
  unfold handR
  let P : HR → Prop := fun R => VI (n + 1) R.low
  have z : ∀ (c : Int) (st : Stat) (i : Int) (ws : List WR), P ⟨c, st, i, ws, L⟩ := fun _ _ _ _ => h.up
  have pr : ∀ (c : Int) (st : Stat) (i : Int) (ws : List WR) (T : Pr), VP T → P ⟨c, st, i, ws, { L with pr := T }⟩ := fun _ _ _ _ _ hT => ⟨hT, h.kit, h.sm.up⟩
  have kt : ∀ (c : Int) (st : Stat) (i : Int) (ws : List WR) (T : List Kit), (∀ x ∈ T, x.id ≠ 0) → P ⟨c, st, i, ws, { L with kit := T }⟩ := fun _ _ _ _ _ hT => ⟨h.pr, hT, h.sm.up⟩
  have sm : ∀ (c : Int) (st : Stat) (i : Int) (ws : List WR) (T : Sm), VS (n + 1) T → P ⟨c, st, i, ws, { L with sm := T }⟩ := fun _ _ _ _ _ hT => ⟨h.pr, h.kit, hT⟩
  show P _
  refine ite_p (P := P) (z _ _ _ _) (ite_p (P := P) (z _ _ _ _) ?_)
  refine ite_p (P := P) (pr _ _ _ _ _ (defineP_v h.pr _ _ _ _)) (ite_p (P := P) (pr _ _ _ _ _ (amendP_vp h.pr _ _)) (ite_p (P := P) (pr _ _ _ _ _ (addSiteP_v h.pr _)) (ite_p (P := P) (pr _ _ _ _ _ (enrolP_v h.pr _ _)) ?_)))
  refine ite_p (P := P) (kt _ _ _ _ _ (buildP_v h.kit _)) (ite_p (P := P) (kt _ _ _ _ _ (shipK_v h.kit _ _)) ?_)
  refine ite_p (P := P) (sm _ _ _ _ _ (accession_v h.sm _)) (ite_p (P := P) (sm _ _ _ _ _ (excursion_v h.sm _)) (ite_p (P := P) (sm _ _ _ _ _ (collection_v h.sm _ _)) (ite_p (P := P) (sm _ _ _ _ _ (enterR_v h.sm _ _ _ _)) ?_)))
  refine ite_p (P := P) (sm _ _ _ _ _ (correctR_v hn h.sm _ _ _)) (ite_p (P := P) (sm _ _ _ _ _ (withdrawR_v h.sm _ _)) (ite_p (P := P) (sm _ _ _ _ _ (raiseQ_v h.sm _ _)) ?_))
  exact ite_p (P := P) (sm _ _ _ _ _ (moveQ_v h.sm _ _ _)) (ite_p (P := P) (sm _ _ _ _ _ (moveQ_v h.sm _ _ _)) (ite_p (P := P) (sm _ _ _ _ _ (moveQ_v h.sm _ _ _)) (ite_p (P := P) (z _ _ _ _) (z _ _ _ _))))
/-- An accepted command's new layers are the handler's. -/
theorem AccS.low {t : ST} {o : Op} (h : AccS t o) : ∃ s, statR t.ps = .ok s ∧ (handR t.ps t.low s o.req).c = 0 ∧ (stepR t o).low = (handR t.ps t.low s o.req).low ∧ (exR t.ps t.full t.off t.lar t.low o.req).iss = (handR t.ps t.low s o.req).iss := by
  obtain ⟨role, s, -, hs, -, -, -, h5, -, -, e⟩ := exR_acc h.2.1 h.2.2
  rw [stepR_one h.1, e]
  exact ⟨s, hs, h5, rfl, rfl⟩
theorem VI.step {n : Nat} (hn : n ≤ 1000000) {t : ST} {o : Op} (h : VI n t.low) : VI (n + 1) (stepR t o).low := by
  by_cases ha : AccS t o
  · obtain ⟨s, -, -, e, -⟩ := ha.low
    rw [e]
    exact handR_vi hn h
  · rw [(stepR_not ha).2]
    exact h.up
theorem vi_all (s : List Op) (hl : s.length ≤ 65536) : ∀ q, q ≤ s.length → VI q (stAt s q).low
  | 0, _ => VI.start
  | q + 1, hq => by
    rw [stAt_succ (by omega)]
    exact (vi_all s hl q (by omega)).step (by omega)

/-! Nothing holds a result back. -/
def holdZ : Bool := tf.all fun b1 => tf.all fun b2 => tf.all fun b3 => tf.all fun b4 => tf.all fun b6 => tf.all fun df => tf.all fun b7 => tf.all fun b8 => tf.all fun b9 => tf.all fun b10 => (holdB b1 b2 b3 b4 b6 df b7 b8 b9 b10 == 0) == (!b1 && !b2 && !b3 && !b4 && !b6 && df && !b7 && !b8 && !b9 && !b10)
set_option maxRecDepth 100000 in
theorem holdZ_ok : holdZ = true := by kernel_rfl
theorem holdB_zero {b1 b2 b3 b4 b6 df b7 b8 b9 b10 : Bool} : holdB b1 b2 b3 b4 b6 df b7 b8 b9 b10 = 0 ↔ (b1 = false ∧ b2 = false ∧ b3 = false ∧ b4 = false ∧ b6 = false ∧ df = true ∧ b7 = false ∧ b8 = false ∧ b9 = false ∧ b10 = false) := by
  have h := holdZ_ok
  unfold holdZ at h
  have g := fun {p : Bool → Bool} (hh : tf.all p = true) (b : Bool) => List.all_eq_true.1 hh b (tf_mem b)
  have h := g (g (g (g (g (g (g (g (g (g h b1) b2) b3) b4) b6) df) b7) b8) b9) b10
  have h := beq_iff_eq.1 h
  constructor
  · intro e
    rw [e] at h
    simpa [and_assoc] using h.symm
  · rintro ⟨rfl, rfl, rfl, rfl, rfl, rfl, rfl, rfl, rfl, rfl⟩
    simpa using h
theorem holds_zero {L : Low} {s : Smp} {r : Res} (h : holdsOf L s r = 0) : r.wd = false ∧ (∃ x, sbjGet L.pr.sub s.subject = some x) ∧ (∃ k, kitGet L.kit s.kit = some k ∧ k.site = siteV L.pr.sub s.subject) ∧ hasVisit L.pr.ver (inForce L.pr.ver s.collected) s.visit = true ∧ (s.collected ≤ s.received ∧ s.received ≤ r.tested) ∧ (∃ m, limGet L.pr.ana r.analyte s.cls = some m ∧ s.received - s.collected ≤ m ∧ r.tested - s.collected ≤ m) ∧ s.exc = false ∧ unsettledB L.sm.qs s.id = false := by
  have e : holdsOf L s r = holdB r.wd (! (sbjGet L.pr.sub s.subject).isSome) (! (kitGet L.kit s.kit).isSome || ! (sbjGet L.pr.sub s.subject).isSome || (kitD L.kit s.kit).site != siteV L.pr.sub s.subject)
      (! hasVisit L.pr.ver (inForce L.pr.ver s.collected) s.visit) (decide (s.received < s.collected) || decide (r.tested < s.received)) (limGet L.pr.ana r.analyte s.cls).isSome
      (decide ((limGet L.pr.ana r.analyte s.cls).getD 0 < s.received - s.collected) && (limGet L.pr.ana r.analyte s.cls).isSome) (decide ((limGet L.pr.ana r.analyte s.cls).getD 0 < r.tested - s.collected) && (limGet L.pr.ana r.analyte s.cls).isSome) s.exc (unsettledB L.sm.qs s.id) := by
    unfold holdsOf holdB
    cases limGet L.pr.ana r.analyte s.cls <;> simp
  rw [e] at h
  obtain ⟨h1, h2, h3, h4, h5, h6, h7, h8, h9, h10⟩ := holdB_zero.1 h
  simp only [Bool.or_eq_false_iff, Bool.not_eq_false', decide_eq_false_iff_not, Int.not_lt, Option.isSome_iff_exists] at h2 h3 h4 h5 h6
  obtain ⟨m, hm⟩ := h6
  rw [hm] at h7 h8
  simp only [Option.getD_some, Option.isSome_some, Bool.and_true, decide_eq_false_iff_not, Int.not_lt] at h7 h8
  obtain ⟨k, hk⟩ := h3.1.1
  refine ⟨h1, h2, ⟨k, hk, ?_⟩, h4, h5, ⟨m, hm, h7, h8⟩, h9, h10⟩
  have := h3.2
  unfold kitD at this
  rw [hk] at this
  simpa using this
theorem inForceN_nn (vs : List Vsn) (m : Int) : ∀ q, 0 ≤ inForceN vs m q
  | 0 => Int.le_refl _
  | q + 1 => by
    unfold inForceN
    split
    · omega
    · exact inForceN_nn vs m q
/-- An eligible row is a valid one. -/
theorem row_valid {n k : Nat} {L : Low} (hv : VI n L) (hl : LI k L) {s : Smp} {r : Res} (hs : s ∈ L.sm.ss) (hr : r ∈ L.sm.rs) (h : holdsOf L s r = 0) : rowOkB (rowOf L s r) = true := by
  obtain ⟨-, ⟨x, hx⟩, ⟨kt, hk, -⟩, hvis, ht, -, -, -⟩ := holds_zero h
  have hss := hv.sm.ss s hs
  have hrs := hv.sm.rs r hr
  have hsub := hv.pr.sub x (List.mem_of_find?_eq_some hx)
  have hxi : x.id = s.subject := by simpa using List.find?_some hx
  have hki := hv.kit kt (List.mem_of_find?_eq_some hk)
  have hkk : kt.id = s.kit := by simpa using List.find?_some hk
  have hsite : siteV L.pr.sub s.subject = x.site := by unfold siteV; rw [hx]; rfl
  have hso := hl.sm.ok s hs
  have hro := hl.sm.rk r hr
  have hnn := inForceN_nn L.pr.ver s.collected L.pr.ver.length
  unfold hasVisit at hvis
  split at hvis
  · cases hvis
  · rename_i hn0
    obtain ⟨y, y1, y2⟩ := List.any_eq_true.1 hvis
    have hy : y = s.visit := by simpa using y2
    have hp0 : inForce L.pr.ver s.collected ≠ 0 := fun e => hn0 (Or.inl e)
    have hidx : (inForce L.pr.ver s.collected - 1).toNat < L.pr.ver.length := by
      have : 0 ≤ inForce L.pr.ver s.collected := hnn
      have : ¬ (L.pr.ver.length : Int) < inForce L.pr.ver s.collected := fun e => hn0 (Or.inr e)
      omega
    rw [List.getElem?_eq_getElem hidx, Option.getD_some] at y1
    have hvn := hv.pr.ver _ (List.getElem_mem hidx) y y1
    rw [hy] at hvn
    unfold rowOkB rowOf
    simp only [Bool.and_eq_true, bne_iff_ne, decide_eq_true_eq, hsite]
    refine ⟨⟨⟨⟨⟨⟨⟨⟨⟨⟨⟨⟨⟨hss.1, hrs.1⟩, by omega⟩, by rw [← hxi]; exact hsub.1⟩, hsub.2⟩, hvn⟩, hp0⟩, by rw [← hkk]; exact hki⟩, hss.2.1⟩, hss.2.2⟩, hso.2.1.1⟩, ht.1⟩, ht.2⟩, hro.2.2⟩
theorem eligGo_some {n k : Nat} {L : Low} (hv : VI n L) (hl : LI k L) (hu : SU L.sm) : ∀ (rs : List Res) (acc : List Row), (∀ r ∈ rs, r ∈ L.sm.rs) → ∃ out, eligGo L rs acc = some out
  | [], acc, _ => ⟨acc, rfl⟩
  | r :: rs, acc, h => by
    have hr := h r (List.mem_cons_self ..)
    obtain ⟨s, hs⟩ := hu.smp hr
    have h' := fun x hx => h x (List.mem_cons_of_mem _ hx)
    simp only [eligGo, hs]
    split
    · exact eligGo_some hv hl hu rs acc h'
    · rename_i h0
      have h0 : holdsOf L s r = 0 := by simpa using h0
      rw [if_pos (row_valid hv hl (smpGet_mem hs) hr h0)]
      exact eligGo_some hv hl hu rs _ h'
theorem eligR_some {n k : Nat} {L : Low} (hv : VI n L) (hl : LI k L) (hu : SU L.sm) : ∃ a, eligR L = some a := by
  obtain ⟨out, h⟩ := eligGo_some hv hl hu L.sm.rs [] (fun _ h => h)
  unfold eligR
  rw [h]
  exact ⟨_, rfl⟩

end Go.Proofs.Qxb6500666aGreatDoor
