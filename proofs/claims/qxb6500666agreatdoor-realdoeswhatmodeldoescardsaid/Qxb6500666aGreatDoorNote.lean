/- note: who has which role behind a step. -/
import Derived.Test.Qxb6500666aGreatDoorRoles
namespace Go.Proofs.Qxb6500666aGreatDoor
open Go.RowKit Go.ChangeMaps

def noteRo (ro : Int → Option Int) (o : Op) (acc : Bool) : Int → Option Int := if (acc && o.req.kind == 1) then upd ro o.req.id (some o.req.role) else ro
def noteAc (ac : Int → Option Bool) (o : Op) (acc : Bool) : Int → Option Bool := if (acc && o.req.kind == 1) then upd ac o.req.id (some true) else if (acc && o.req.kind == 2) then upd ac o.req.id (some false) else ac
/-- A world that differs in two blocks alone. -/
structure Ex2 (w : World) (M1 M2 : Nat) where
  world : World
  same : ∀ b, b ≠ M1 → b ≠ M2 → world.heap[b]? = w.heap[b]?
theorem Ex2.cell {w : World} {M1 M2 : Nat} (x : Ex2 w M1 M2) (b o : Nat) (s : Option Nat) (h1 : b ≠ M1) (h2 : b ≠ M2) : x.world.cell? ⟨b, o, s⟩ = w.cell? ⟨b, o, s⟩ := by
  unfold World.cell?
  rw [x.same b h1 h2]
theorem ex2_const {w : World} {M1 M2 : Nat} (p : Prop) : (∀ _ : Ex2 w M1 M2, p) = p := propext ⟨fun h => h ⟨w, fun _ _ _ => rfl⟩, fun h _ => h⟩
theorem wp_region_mixE {P : Program} {id : Nat} {Q : Exit → Act → World → Prop} {a : Act} {w : World} {ops : Array Oper} (M1 M2 : Nat) (R : List Nat) (hm : P.follows .mixedOrders = true)
    (h : wpMixT P .any ops Q (fun w' => ∃ x : Ex2 w M1 M2, w' = x.world) R ops.size (Array.replicate ops.size false) a w.drew) :
    (Code.region id ops true).wp P Q a w :=
  wp_region_any hm (wpAny_of_mixT (S := fun w' => ∃ x : Ex2 w M1 M2, w' = x.world) (R := R) _ _ _ _ h)
theorem ex2_drew (w : World) (M1 M2 : Nat) : ∃ x : Ex2 w M1 M2, w.drew = x.world := ⟨⟨w.drew, fun _ _ _ => rfl⟩, rfl⟩
theorem ex2_set {w W : World} {M1 M2 : Nat} (h : ∃ x : Ex2 w M1 M2, W = x.world) {B : Nat} (hB : B = M1 ∨ B = M2) (o : Obj) : ∃ x : Ex2 w M1 M2, setBlock W B o = x.world := by
  obtain ⟨x, rfl⟩ := h
  refine ⟨⟨setBlock x.world B o, fun b h1 h2 => ?_⟩, rfl⟩
  rw [show (setBlock x.world B o).heap[b]? = x.world.heap[b]? from by
    unfold setBlock
    exact Array.getElem?_setIfInBounds_ne (by rcases hB with rfl | rfl <;> (intro e; omega))]
  exact x.same b h1 h2
theorem setBlock_at {w : World} {B : Nat} (h : B < w.heap.size) (o : Obj) : (setBlock w B o).heap[B]? = some o := by simp [setBlock, h]
theorem setBlock_ne {w : World} {B b : Nat} (h : b ≠ B) (o : Obj) : (setBlock w B o).heap[b]? = w.heap[b]? := Array.getElem?_setIfInBounds_ne (fun e => h e.symm)
theorem setBlock_sz (w : World) (B : Nat) (o : Obj) : (setBlock w B o).heap.size = w.heap.size := by simp [setBlock]
/-- What note leaves. -/
structure NoteP (w w' : World) (Rb M1 M2 n : Nat) (ro : Int → Option Int) (ac : Int → Option Bool) : Prop where
  at' : RoAt w' Rb M1 M2 n ro ac
  fr : ∀ b, b < w.heap.size → b ≠ M1 → b ≠ M2 → w'.heap[b]? = w.heap[b]?
  sz : w.heap.size ≤ w'.heap.size
  bel : ∀ B, B ≤ M1 → B ≤ M2 → B ≤ w.heap.size → Below B w w'
attribute [local go_sem] ex2_const Ex2.cell
attribute [local go_sem ↓] exec_ldOpz exec_stOpz exec_ldAns exec_stAns
attribute [local go_sem] run_ldOpz run_stOpz opA_size run_ldAns run_stAns ansCs_size ansCs_ones whole_alloc_lt whole_alloc_at whole_drew setRow_alloc_at setRow_alloc_lt rng_alloc_lt rng_alloc_at rng_drew rng_drewN

set_option maxRecDepth 100000 in
set_option maxHeartbeats 4000000 in
theorem note_calls (w : World) (Rb M1 M2 n : Nat) (ro : Int → Option Int) (ac : Int → Option Bool) (o : Op) (lv dv : Value) (ca : Option Addr) (cn cc : Nat) (a : AnsR) (h : RoAt w Rb M1 M2 n ro ac) (hn : n ≤ 1000000) (ho : o.req.Ok) :
    Calls Tryz.prog 35 #[.pointer (some ⟨Rb, 0, none⟩), .agg (opA o lv dv ca cn cc), .agg (ansCs a)] w fun e w' => e = .returned (.tuple #[]) ∧ NoteP w w' Rb M1 M2 (n + 1) (noteRo ro o (accP o a.resp)) (noteAc ac o (accP o a.resp)) := by
  obtain ⟨acc, hacc⟩ : ∃ b, accP o a.resp = b := ⟨_, rfl⟩
  rw [hacc]
  have HB0 : Hid (Below w.heap.size w ((w.alloc (.cells (opA o lv dv ca cn cc) 61)).alloc (.cells (ansCs a) 77))) := ((Below.refl _ _).alloc (Nat.le_refl _) _).alloc (by simp) _
  have e0 : ((w.alloc (.cells (opA o lv dv ca cn cc) 61)).alloc (.cells (ansCs a) 77)).heap[w.heap.size]? = some (.cells (opA o lv dv ca cn cc) 61 (0, 0)) := (Below.heap_alloc _ _ _ (by simp)).trans (heap_alloc_at _ _)
  have e1 : ((w.alloc (.cells (opA o lv dv ca cn cc) 61)).alloc (.cells (ansCs a) 77)).heap[w.heap.size + 1]? = some (.cells (ansCs a) 77 (0, 0)) := box2 w _ _ _ _
  have H := hide h
  have HO := hide ho
  have hRl := blk_lt h.top
  clear h ho
  go_enter Tryz.func35, Tryz.ntmps35
  go_upto_region 1 with fail
  generalize ((w.alloc (.cells (opA o lv dv ca cn cc) 61)).alloc (.cells (ansCs a) 77)) = W0 at *
  have r0 : rng W0 w.heap.size 0 27 = some (opA o lv dv ca cn cc) := rng_whole e0
  have r1 : rng W0 (w.heap.size + 1) 0 48 = some (ansCs a) := rng_whole e1
  have hzz := blk_lt e1
  cases acc with
  | false =>
    go_wp2_with (go_at_call 31; refine (accepted_calls _ o lv dv ca cn cc a).mono ?_; rintro e W1 ⟨rfl, hb⟩; rw [hacc]; have HB1 := hide (HB0.out.trans (hb.mono HB0.out.size)); have hz1 := hb.size; have E0 : Hid (W1.heap[w.heap.size]? = some (.cells (opA o lv dv ca cn cc) 61 (0, 0))) := (hb.block _ (by omega)).trans e0; clear hb)
    refine bodyPost_ret (v := .tuple #[]) (by simp [results, Tryz.results35]) rfl ⟨rfl, ?_⟩
    have hs := HB1.out.size
    exact ⟨⟨(HB1.out.block _ hRl).trans H.out.top, (H.out.m1.same (HB1.out.block _ H.out.m1.lt)).mono (by omega), (H.out.m2.same (HB1.out.block _ H.out.m2.lt)).mono (by omega), H.out.ne⟩, fun b hb _ _ => HB1.out.block b hb, hs, fun B _ _ h3 => HB1.out.mono h3⟩
  | true =>
    go_upto_region 2 with (go_at_call 31; refine (accepted_calls _ o lv dv ca cn cc a).mono ?_; rintro e W1 ⟨rfl, hb⟩; rw [hacc]; have HB1 := hide (HB0.out.trans (hb.mono HB0.out.size)); have hz1 := hb.size; have E0 : Hid (W1.heap[w.heap.size]? = some (.cells (opA o lv dv ca cn cc) 61 (0, 0))) := (hb.block _ (by omega)).trans e0; clear hb)
    have k1 := cells_all E0.out 1
    have k4 := cells_all E0.out 4
    have k9 := cells_all E0.out 9
    simp only [opA, List.getElem?_toArray, List.getElem?_cons_zero, List.getElem?_cons_succ] at k1 k4 k9
    have H1 : Hid (RoAt W1 Rb M1 M2 n ro ac) := ⟨(HB1.out.block _ hRl).trans H.out.top, H.out.m1.same (HB1.out.block _ H.out.m1.lt), H.out.m2.same (HB1.out.block _ H.out.m2.lt), H.out.ne⟩
    have hR1 : Rb < W1.heap.size := blk_lt H1.out.top
    have c0 : W1.cell? ⟨Rb, 0, none⟩ = some (.map (some M1)) := cells_all H1.out.top 0
    have c1 : W1.cell? ⟨Rb, 1, none⟩ = some (.map (some M2)) := cells_all H1.out.top 1
    have hid := HO.out.id
    have hml1 := H.out.m1.lt
    have hml2 := H.out.m2.lt
    obtain ⟨n1, n2, n3⟩ := H.out.ne
    have n4 : w.heap.size ≠ M1 := by omega
    have n5 : w.heap.size ≠ M2 := by omega
    clear e0 e1 r0 r1
    by_cases q1 : o.req.kind = 1
    · have t1 : (o.req.kind == 1) = true := by simp [q1]
      have HN : Hid (noteRo ro o true = upd ro o.req.id (some o.req.role) ∧ noteAc ac o true = upd ac o.req.id (some true)) := ⟨by simp [noteRo, t1], by simp [noteAc, t1]⟩
      have hm1 := H1.out.m1
      have hm2 := H1.out.m2
      obtain ⟨v1, s1, p1, hme1, hes1⟩ := (hm1.same (w' := W1.drew) rfl).entry Tryz.mapRole Tryz.zeroRole (show n < maxLen by unfold maxLen; omega) hid
      go_upto_region 4 with fail
      refine wp_region_mixE M1 M2 [3, 6, 10, 13, 16] (by kernel_rfl) ?_
      refine mixT_slots [0, 1, 2, 4, 5, 7, 8, 9, 11, 12, 14, 15] (fuel := 11) rfl (by kernel_rfl) (by kernel_rfl) (fun d _ _ _ _ h => by cases d <;> exact h) ?_
      simp only [opersAt, List.getElem?_toArray, List.getElem?_cons_zero, List.getElem?_cons_succ]
      repeat (go_big_quiet_step (fail))
      refine wpQuiet_nil ?_
      refine mixT_reads [3, 6, 10, 13, 16] (fuel := 6) rfl (by kernel_rfl) (by decide) (by kernel_rfl) (fun d _ _ _ _ h => by cases d <;> exact h) (ex2_drew _ _ _) ?_
      simp only [opersAt, List.getElem?_toArray, List.getElem?_cons_zero, List.getElem?_cons_succ]
      repeat (go_big_quiet_step (fail))
      refine wpQuiet_nil ?_
      have hz1a : M1 < W1.heap.size := hm1.lt
      have hz2a : M2 < W1.heap.size := hm2.lt
      obtain ⟨p1', hst1, hMU1⟩ := hes1 (.int .u8 o.req.role)
      have hst1' := hst1 (setBlock W1.drew M1 p1) (setBlock_at hz1a _)
      simp only [goInt] at hst1'
      refine mixT_one (k := 17) (by kernel_rfl) rfl ?_
      go_wp2
      refine ⟨Or.inr (fun q => ex2_set q (Or.inl rfl) _), ?_⟩
      refine mixT_slots [18] (fuel := 4) rfl (by kernel_rfl) (by kernel_rfl) (fun d _ _ _ _ h => by cases d <;> exact h) ?_
      simp only [opersAt, List.getElem?_toArray, List.getElem?_cons_zero, List.getElem?_cons_succ]
      repeat (go_big_quiet_step (fail))
      refine wpQuiet_nil ?_
      refine mixT_one (k := 19) (by kernel_rfl) rfl ?_
      go_wp2
      refine ⟨Or.inr (fun q => ex2_set q (Or.inl rfl) _), ?_⟩
      have HM1 : Hid (∀ W : World, W.heap[M1]? = some p1' → MapU W M1 (n + 1) (.int .u8 0) (fun k => (upd ro o.req.id (some o.req.role) k).map (Value.int .u8))) := fun W q => by
        have := hMU1 W q
        rwa [upd_map] at this
      obtain ⟨W2, hW2⟩ : ∃ W2, W2 = setBlock (setBlock W1.drew M1 p1) M1 p1' := ⟨_, rfl⟩
      rw [← hW2]
      have HW2 : Hid ((∀ b, b ≠ M1 → W2.heap[b]? = W1.heap[b]?) ∧ W2.heap[M1]? = some p1' ∧ W2.heap.size = W1.heap.size) := ⟨fun b hb => by rw [hW2]; exact (setBlock_ne hb _).trans (setBlock_ne hb _), by rw [hW2]; exact setBlock_at (by rw [setBlock_sz]; exact hz1a) _, by rw [hW2, setBlock_sz, setBlock_sz]; rfl⟩
      have HX2 : Hid (∀ B, B ≤ M1 → Below B W1 W2) := fun B hB => by
        rw [hW2]
        exact ⟨rfl, rfl, rfl, by rw [setBlock_sz, setBlock_sz]; exact Nat.le_refl _, fun k hk => (setBlock_ne (by omega) _).trans (setBlock_ne (by omega) _)⟩
      obtain ⟨v2, s2, p2, hme2, hes2⟩ := (hm2.same (w' := W2) (HW2.out.1 M2 (fun e => n3 e.symm))).entry Tryz.mapActive Tryz.zeroBoolz (show n < maxLen by unfold maxLen; omega) hid
      obtain ⟨p2', hst2, hMU2⟩ := hes2 (.bool true)
      have hz2b : M2 < W2.heap.size := by rw [HW2.out.2.2]; exact hz2a
      have hst2' := hst2 (setBlock W2 M2 p2) (setBlock_at hz2b _)
      simp only [goInt] at hst2'
      clear hW2 hme1 hes1 hst1 hst1' hMU1
      refine mixT_one (k := 20) (by kernel_rfl) rfl ?_
      go_wp2
      refine ⟨Or.inr (fun q => ex2_set q (Or.inr rfl) _), ?_⟩
      refine mixT_slots [21] (fuel := 1) rfl (by kernel_rfl) (by kernel_rfl) (fun d _ _ _ _ h => by cases d <;> exact h) ?_
      simp only [opersAt, List.getElem?_toArray, List.getElem?_cons_zero, List.getElem?_cons_succ]
      repeat (go_big_quiet_step (fail))
      refine wpQuiet_nil ?_
      refine mixT_one (k := 22) (by kernel_rfl) rfl ?_
      go_wp2
      refine ⟨Or.inr (fun q => ex2_set q (Or.inr rfl) _), ?_⟩
      refine mixT_nil (by kernel_rfl) ?_
      go_wp2
      refine bodyPost_end (v := .tuple #[]) (by simp [results, Tryz.results35]) rfl ⟨rfl, ?_⟩
      rw [HN.out.1, HN.out.2]
      have hne : ∀ b, b ≠ M1 → b ≠ M2 → (setBlock (setBlock W2 M2 p2) M2 p2').heap[b]? = W1.heap[b]? := fun b h1 h2 => (setBlock_ne h2 _).trans ((setBlock_ne h2 _).trans (HW2.out.1 b h1))
      have hbb : ∀ B, B ≤ M1 → B ≤ M2 → Below B W1 (setBlock (setBlock W2 M2 p2) M2 p2') := fun B h1 h2 => (HX2.out B h1).trans ⟨rfl, rfl, rfl, by rw [setBlock_sz, setBlock_sz]; exact Nat.le_refl _, fun k hk => (setBlock_ne (by omega) _).trans (setBlock_ne (by omega) _)⟩
      have hs := HB1.out.size
      refine ⟨⟨(hne Rb n1 n2).trans H1.out.top, HM1.out _ ((setBlock_ne n3 _).trans ((setBlock_ne n3 _).trans HW2.out.2.1)), ?_, H1.out.ne⟩, fun b hb h1 h2 => (hne b h1 h2).trans (HB1.out.block b hb), by rw [setBlock_sz, setBlock_sz, HW2.out.2.2]; exact hs, fun B h1 h2 h3 => (HB1.out.mono h3).trans (hbb B h1 h2)⟩
      have := hMU2 _ (setBlock_at (show M2 < (setBlock W2 M2 p2).heap.size by rw [setBlock_sz]; exact hz2b) p2')
      rwa [upd_map] at this
    · have t1 : (o.req.kind == 1) = false := by simpa using q1
      by_cases q2 : o.req.kind = 2
      · have t2 : (o.req.kind == 2) = true := by simp [q2]
        have hm2 := H1.out.m2
        obtain ⟨w5, hup, hmu, hg⟩ := (hm2.same (w' := W1.drew) rfl).put Tryz.mapActive (show n < maxLen by unfold maxLen; omega) hid (.bool false)
        go_upto_region 6 with fail
        refine wp_region_mixE M1 M2 [3, 6] (by kernel_rfl) ?_
        refine mixT_slots [0, 1, 2, 4, 5] (fuel := 3) rfl (by kernel_rfl) (by kernel_rfl) (fun d _ _ _ _ h => by cases d <;> exact h) ?_
        simp only [opersAt, List.getElem?_toArray, List.getElem?_cons_zero, List.getElem?_cons_succ]
        repeat (go_big_quiet_step (fail))
        refine wpQuiet_nil ?_
        refine mixT_reads [3, 6] (fuel := 1) rfl (by kernel_rfl) (by decide) (by kernel_rfl) (fun d _ _ _ _ h => by cases d <;> exact h) (ex2_drew _ _ _) ?_
        simp only [opersAt, List.getElem?_toArray, List.getElem?_cons_zero, List.getElem?_cons_succ]
        repeat (go_big_quiet_step (fail))
        refine wpQuiet_nil ?_
        refine mixT_one (k := 7) (by kernel_rfl) rfl ?_
        go_wp2
        refine ⟨Or.inl (by kernel_rfl), ?_⟩
        refine mixT_nil (by kernel_rfl) ?_
        go_wp2
        refine bodyPost_end (v := .tuple #[]) (by simp [results, Tryz.results35]) rfl ⟨rfl, ?_⟩
        rw [show noteRo ro o true = ro by simp [noteRo, t1], show noteAc ac o true = upd ac o.req.id (some false) by simp [noteAc, t1, t2]]
        have hs := HB1.out.size
        have hne : ∀ b, b < W1.heap.size → b ≠ M2 → w5.heap[b]? = W1.heap[b]? := fun b h1 h2 => hg.block b h1 (by simpa using h2)
        have hsz : W1.heap.size ≤ w5.heap.size := hg.size
        rw [upd_map] at hmu
        refine ⟨⟨(hne Rb hR1 n2).trans H1.out.top, (H1.out.m1.same (hne M1 H1.out.m1.lt n3)).mono (by omega), hmu, H1.out.ne⟩, fun b hb h1 h2 => (hne b (by omega) h2).trans (HB1.out.block b hb), by omega, fun B h1 h2 h3 => (HB1.out.mono h3).trans ?_⟩
        exact ((Below.refl B W1).drew).grown hg (show B ≤ W1.heap.size by omega) (fun j hj => by cases hj; exact h2)
      · have t2 : (o.req.kind == 2) = false := by simpa using q2
        go_wp2
        refine bodyPost_end (v := .tuple #[]) (by simp [results, Tryz.results35]) rfl ⟨rfl, ?_⟩
        rw [show noteRo ro o true = ro by simp [noteRo, t1], show noteAc ac o true = ac by simp [noteAc, t1, t2]]
        exact ⟨⟨H1.out.top, H1.out.m1.mono (by omega), H1.out.m2.mono (by omega), H1.out.ne⟩, fun b hb _ _ => HB1.out.block b hb, HB1.out.size, fun B _ _ h3 => HB1.out.mono h3⟩

end Go.Proofs.Qxb6500666aGreatDoor
