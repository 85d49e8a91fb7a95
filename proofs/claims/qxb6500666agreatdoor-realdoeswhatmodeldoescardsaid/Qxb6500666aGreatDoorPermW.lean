/- PermissionComesFirst, walked. (Made by tools/mk_permw.py.) -/
import Derived.Test.Qxb6500666aGreatDoorPermP
import Derived.BigQuiet
namespace Go.Proofs.Qxb6500666aGreatDoor
open Go.RowKit

/-- The law's own blocks. -/
def PK (Rb M1 M2 : Nat) (g : Nat) : Prop := g = Rb ∨ g = M1 ∨ g = M2
structure PQ (w W : World) (Rb M1 M2 n : Nat) (t : ST) (ro : Int → Option Int) (ac : Int → Option Bool) : Prop where
  bx : BX w W (PK Rb M1 M2) t
  ra : RoAt W Rb M1 M2 n ro ac
  ui : UI t.ps ro ac
def PQE (w W : World) (Rb M1 M2 n : Nat) (t : ST) : Prop := ∃ ro ac, PQ w W Rb M1 M2 n t ro ac
theorem RoAt.below {w w' : World} {Rb M1 M2 n : Nat} {ro : Int → Option Int} {ac : Int → Option Bool} (h : RoAt w Rb M1 M2 n ro ac) (hb : Below w.heap.size w w') : RoAt w' Rb M1 M2 n ro ac :=
  h.same fun b q => hb.block b (q.elim (fun e => e ▸ blk_lt h.top) (fun q => q.elim (fun e => e ▸ h.m1.lt) (fun e => e ▸ h.m2.lt)))
theorem PQ.note {w W W' : World} {Rb M1 M2 n : Nat} {t : ST} {ro : Int → Option Int} {ac : Int → Option Bool} (hb : BX w W (PK Rb M1 M2) t) (hu : UI t.ps ro ac) (hn : NoteP W W' Rb M1 M2 n ro ac) (h1 : w.heap.size ≤ M1) (h2 : w.heap.size ≤ M2) : PQE w W' Rb M1 M2 n t :=
  ⟨ro, ac, hb.mine (fun b hb hk => hn.fr b hb (fun e => hk (Or.inr (Or.inl e))) (fun e => hk (Or.inr (Or.inr e)))) hn.sz (hb.blw.trans (hn.bel w.heap.size h1 h2 hb.blw.size)), hn.at', hu⟩
theorem below_same {w w' : World} {n : Nat} (h : Below w.heap.size w w') : Below w.heap.size w (w'.drewN n) := below_drewN h n
theorem look_b {o : Option Bool} (h : o ≠ some true) : (o.map Value.bool).getD (.bool false) = .bool false := by
  cases o with
  | none => rfl
  | some b => cases b with
    | false => rfl
    | true => exact absurd rfl h
theorem look_r (o : Option Int) : (o.map (Value.int .u8)).getD (.int .u8 0) = .int .u8 (o.getD 0) := by cases o <;> rfl
attribute [local go_sem] ext_const Ext.cell Ext.frozen Ext.rng Ext.whole
attribute [local go_sem ↓] exec_ldOpz exec_stOpz exec_ldAns exec_stAns exec_ldReq exec_stReq
attribute [local go_sem] run_ldOpz run_stOpz opA_size run_ldAns run_stAns ansCs_size ansCs_ones run_ldReq run_stReq reqA_size whole_alloc_lt whole_alloc_at whole_drew setRow_alloc_at setRow_alloc_lt rng_alloc_lt rng_alloc_at rng_drew rng_drewN

set_option maxRecDepth 100000 in
set_option maxHeartbeats 8000000 in
theorem perm_walk (w : World) (v : Value) (s : List Op) (rn kn ft : Nat → ByteArray) (okg : Nat → Prop) (h : Script w (· < w.heap.size) v s) (hgl : Gl w w.heap.size rn kn ft okg) :
    Calls Tryz.prog 7 #[v] w fun e w' => e = .returned (.bool true) ∧ Below w.heap.size w w' := by
  have HSm := hide (small_calls w _ v s h)
  have HGL := hide (fun W (hb : Below w.heap.size w W) => hgl.same hb (Nat.le_refl _))
  have HNB := hide (newBench_calls w)
  obtain ⟨a, cap, b, off, rfl, hl, hm, hr, ha, hc⟩ := h
  obtain ⟨n, hn⟩ : ∃ n, n = s.length := ⟨_, rfl⟩
  have Hn : Hid (n = s.length) := hn
  rw [← hn] at hl hr ha HSm ⊢
  have hi := run_indexAt_arr (P := Tryz.prog) (cap := cap) Tryz.underlying22 Tryz.size61 (fun h => (ha h).1)
  have HB : Hid (0 < n → b < w.heap.size) := fun h => (ha h).2
  by_cases hsm : total s ≤ 65536
  · have HC : Hid (∀ k (h : k < s.length), ∃ lv dv ca cn cc, rng w b (off + k * 27) 27 = some (opA s[k] lv dv ca cn cc) ∧ OpIn w (· < w.heap.size) s[k] lv dv ca cn cc ∧ ones (opA s[k] lv dv ca cn cc) 27 = true) := fun k h => by
      obtain ⟨cs, hlen, hE, hcell⟩ := hc k h
      have ht := total_le h hsm
      obtain ⟨lv, dv, ca, cn, cc, e, hO, h1⟩ := opIn_of hE ht.2.1 ht.2.2
      refine ⟨lv, dv, ca, cn, cc, ?_, hO, h1⟩
      rw [← e]
      have hl27 : cs.length = 27 := by have := congrArg Array.size e; simpa [opA] using this
      have := rng_of_cells (w := w) (b := b) (off := off + k * 27) (by omega) hcell
      rw [hl27] at this
      exact this
    have HIV : Hid (∀ q, q ≤ s.length → Inv q (stAt s q)) := inv_all (fun k hk => by
      obtain ⟨_, _, _, _, _, _, h1, _⟩ := HC.out k hk
      exact h1.req)
    have hn2 : n ≤ 65536 := by have := hsm; unfold total at this; omega
    have hd : decide (total s ≤ 65536) = true := by simpa using hsm
    rw [hd] at HSm
    clear hd hsm ha hc hn hgl
    go_enter Tryz.func7, Tryz.ntmps7
    go_upto_region 3 with (go_at_call 18; refine HSm.out.mono ?_; rintro e w1 ⟨rfl, rfl⟩)
    go_upto_region 4 with (first | (go_at_call 19; refine HNB.out.mono ?_; rintro e W0 ⟨rfl, hbn, hb0⟩) | (go_at_call 34; refine (newRoles_calls _).mono ?_; rintro e W1 ⟨Rb, M1, M2, rfl, hro, hb1, l1, l2, l3, l4⟩))
    have hz0 := hb0.size
    have HQ0 : Hid (PQE w W1 Rb M1 M2 (0 + 1) (stAt s 0)) := ⟨ro0, ac0, (BX.start hbn hb0).more hb1 (fun g q => Or.inr (by
      rcases q with rfl | rfl | rfl
      · exact ⟨l1, l4⟩
      · exact ⟨l2, hro.m1.lt⟩
      · exact ⟨l3, hro.m2.lt⟩)), hro, UI.start⟩
    have HLO : Hid (w.heap.size ≤ Rb ∧ w.heap.size ≤ M1 ∧ w.heap.size ≤ M2) := ⟨by omega, by omega, by omega⟩
    clear hbn hb0 hb1 hro l1 l2 l3 l4 hz0 HSm HNB
    go_upto_region 5 with fail
    go_loopg [19] n (fun g j wr => ∃ q : Nat, q ≤ n ∧ g = n - q ∧ j = .int .i64 q ∧ Hid (PQE w wr Rb M1 M2 (q + 1) (stAt s q)))
    case atStart => exact ⟨0, by omega, by omega, rfl, HQ0⟩
    clear HQ0
    case round =>
      obtain ⟨q, hq, rfl, rfl, HQ⟩ := hrel
      by_cases hlt : q < n
      · have hqs : q < s.length := by rw [← Hn.out]; exact hlt
        have hbb := HB.out (by omega)
        obtain ⟨lv, dv, ca, cn, cc, hcl, hO, hones⟩ := HC.out q hqs
        have HIQ := hide (HIV.out q (by omega))
        have HSQ := hide (stAt_succ hqs)
        generalize s[q] = p at *
        obtain ⟨ro, ac, hpq⟩ := HQ.out
        have HPQ := hide hpq
        clear hpq HQ
        generalize stAt s q = t at *
        have hcells : rng wr b (off + q * 27) 27 = some (opA p lv dv ca cn cc) := by rw [rng_of_block (HPQ.out.bx.blw.block _ hbb)]; exact hcl
        have hbw : b < wr.heap.size := by have := HPQ.out.bx.blw.size; omega
        have HOI := hide hO
        have HRQ := hide hO.req
        clear hO hcl
        go_upto_region 7 with fail
        have HQ1 : Hid (BX w (wr.alloc (.cells (opA p lv dv ca cn cc) 61)) (fun g => PK Rb M1 M2 g ∨ g = wr.heap.size) t) := HPQ.out.bx.more ((Below.refl _ _).alloc (Nat.le_refl _) _) (fun g q => by
          rcases q with q | rfl
          · exact Or.inl q
          · exact Or.inr ⟨Nat.le_refl _, by simp⟩)
        have HR1 : Hid (RoAt (wr.alloc (.cells (opA p lv dv ca cn cc) 61)) Rb M1 M2 (q + 1) ro ac) := HPQ.out.ra.below ((Below.refl _ _).alloc (Nat.le_refl _) _)
        have hk1 : (wr.alloc (.cells (opA p lv dv ca cn cc) 61)).heap[wr.heap.size]? = some (.cells (opA p lv dv ca cn cc) 61 (0, 0)) := heap_alloc_at _ _
        have hz1 : wr.heap.size < (wr.alloc (.cells (opA p lv dv ca cn cc) 61)).heap.size := by simp
        have HUI := hide HPQ.out.ui
        generalize wr.alloc (.cells (opA p lv dv ca cn cc) 61) = W1 at *
        generalize wr.heap.size = D at *
        have hr1 : rng W1 D 0 27 = some (opA p lv dv ca cn cc) := rng_whole hk1
        have HK1 := hide hk1
        obtain ⟨Y, pv, b1, b2⟩ := HQ1.out.tops
        have e1 := cells_all b1 0
        have e2 := cells_all b2 2
        simp only [List.getElem?_toArray, List.getElem?_cons_zero, List.getElem?_cons_succ] at e1 e2
        have z1 := blk_lt b1
        have z2 := blk_lt b2
        have HST := hide (HQ1.out.step (HIQ.out.po (by omega)) (HOI.out.below HQ1.out.blw) (HGL.out _ HQ1.out.blw) ⟨HIQ.out.off.1, by have := HIQ.out.off.2; omega⟩)
        clear b1 b2 hk1
        go_upto_region 9 with (go_at_call 21; refine HST.out.mono ?_; rintro e W2 ⟨ans, rfl, hq2, hf2, ha2⟩; have HQ2 := hide hq2; have HF2 := hide hf2; have HA2 := hide ha2; clear hq2 hf2 ha2)
        clear e1 e2 z1 z2 hr1 HST
        have HQ3 : Hid (BX w (W2.alloc (.cells (ansCs ans) 77)) (PK Rb M1 M2) (stepR t p)) := HQ2.out.more ((Below.refl _ _).alloc (Nat.le_refl _) _) (fun g q => Or.inl (Or.inl q))
        have HR3 : Hid (RoAt (W2.alloc (.cells (ansCs ans) 77)) Rb M1 M2 (q + 1) ro ac) := (HR1.out.same (fun g q => HF2.out g (Or.inl q))).below ((Below.refl _ _).alloc (Nat.le_refl _) _)
        have k2 : W2.heap[D]? = some (.cells (opA p lv dv ca cn cc) 61 (0, 0)) := (HF2.out D (Or.inr rfl)).trans HK1.out
        have hz2 := blk_lt k2
        have k3 : (W2.alloc (.cells (ansCs ans) 77)).heap[D]? = some (.cells (opA p lv dv ca cn cc) 61 (0, 0)) := (Below.heap_alloc _ _ _ hz2).trans k2
        have k4 : (W2.alloc (.cells (ansCs ans) 77)).heap[W2.heap.size]? = some (.cells (ansCs ans) 77 (0, 0)) := heap_alloc_at _ _
        clear k2 HK1
        generalize W2.alloc (.cells (ansCs ans) 77) = W3 at *
        generalize W2.heap.size = D3 at *
        have hz3 := blk_lt k3
        have hz4 := blk_lt k4
        have HU3 := hide (HUI.out.step HRQ.out HA2.out)
        have HBW3 := hide (HGL.out _ HQ3.out.blw)
        have HFIN : Hid (∀ W W', Below W3.heap.size W3 W → NoteP W W' Rb M1 M2 (q + 1 + 1) (noteRo ro p (accP p ans.resp)) (noteAc ac p (accP p ans.resp)) → PQE w W' Rb M1 M2 (q + 1 + 1) (stAt s (q + 1))) := fun W W' hb hN => by
          rw [HSQ.out]
          exact PQ.note (HQ3.out.below hb) HU3.out hN HLO.out.2.1 HLO.out.2.2
        have HNT : Hid (∀ W, Below W3.heap.size W3 W → Calls Tryz.prog 35 #[.pointer (some ⟨Rb, 0, none⟩), .agg (opA p lv dv ca cn cc), .agg (ansCs ans)] W fun e w' => e = .returned (.tuple #[]) ∧ NoteP W w' Rb M1 M2 (q + 1 + 1) (noteRo ro p (accP p ans.resp)) (noteAc ac p (accP p ans.resp))) := fun W hb => note_calls W Rb M1 M2 (q + 1) ro ac p lv dv ca cn cc ans (HR3.out.below hb) (by omega) HRQ.out
        have r3 : rng W3 D 0 27 = some (opA p lv dv ca cn cc) := rng_whole k3
        have r4 : rng W3 D3 0 48 = some (ansCs ans) := rng_whole k4
        have e0 := cells_all k3 0
        simp only [opA, List.getElem?_toArray, List.getElem?_cons_zero] at e0
        by_cases hk : p.kind = 1
        · have HPF := hide (perm_first HUI.out HRQ.out HA2.out hk)
          rw [hk] at e0
          have r5 : rng W3 D 1 17 = some (reqA p.req lv) := by unfold rng; rw [k3]; rfl
          have ho17 : ones (reqA p.req lv) 17 = true := by
            obtain ⟨la, lc, _, _, e, _⟩ := HOI.out.list
            rw [e]
            rfl
          go_upto_region 12 with fail
          have HB4 : Hid (Below W3.heap.size W3 (W3.alloc (.cells (reqA p.req lv) 53))) := (Below.refl _ _).alloc (Nat.le_refl _) _
          have k5 : (W3.alloc (.cells (reqA p.req lv) 53)).heap[W3.heap.size]? = some (.cells (reqA p.req lv) 53 (0, 0)) := heap_alloc_at _ _
          have k3 := (HB4.out.block _ hz3).trans k3
          have k4 := (HB4.out.block _ hz4).trans k4
          have hz4b : W3.heap.size ≤ (W3.alloc (.cells (reqA p.req lv) 53)).heap.size := HB4.out.size
          clear r3 r4 r5 e0
          generalize W3.alloc (.cells (reqA p.req lv) 53) = W4 at *
          have r3 : rng W4 D 0 27 = some (opA p lv dv ca cn cc) := rng_whole k3
          have r4 : rng W4 D3 0 48 = some (ansCs ans) := rng_whole k4
          have e3 := cells_all k5 0
          have e4 := cells_all k5 1
          have e5 := cells_all k4 0
          simp only [reqA, ansCs, List.getElem?_toArray, List.getElem?_cons_zero, List.getElem?_cons_succ] at e3 e4 e5
          obtain ⟨Y, pv, b1, b2⟩ := (HQ3.out.below HB4.out).tops
          have e1 := cells_all b1 0
          have e2 := cells_all b2 2
          simp only [List.getElem?_toArray, List.getElem?_cons_zero, List.getElem?_cons_succ] at e1 e2
          have HR4 := hide (HR3.out.below HB4.out)
          have e6 := cells_all HR4.out.top 0
          have e7 := cells_all HR4.out.top 1
          simp only [List.getElem?_toArray, List.getElem?_cons_zero, List.getElem?_cons_succ] at e6 e7
          have hlA : ∀ m, (Instr.lookup 121 (.map (some M2)) (.int .u32 p.req.user) false).run Tryz.prog (W4.drewN m) = .ok (((ac p.req.user).map Value.bool).getD (.bool false)) (W4.drewN m) := fun m => (HR4.out.m2.same (w' := W4.drewN m) rfl).look Tryz.mapActive (Tryz.zeroBoolz _) HRQ.out.user
          have hlR : ∀ m, (Instr.lookup 120 (.map (some M1)) (.int .u32 p.req.user) false).run Tryz.prog (W4.drewN m) = .ok (.int .u8 ((ro p.req.user).getD 0)) (W4.drewN m) := fun m => by
            rw [← look_r]
            exact (HR4.out.m1.same (w' := W4.drewN m) rfl).look Tryz.mapRole (Tryz.zeroRole _) HRQ.out.user
          have HMY := hide (fun m => may_calls (W4.drewN m) okg ((ro p.req.user).getD 0) p.req.kind (HBW3.out.same (below_drewN HB4.out m) HQ3.out.blw.size).gr HRQ.out.kind)
          clear b1 b2 k3 k4 k5
          obtain ⟨rl, hrl⟩ : ∃ rl, (ro p.req.user).getD 0 = rl := ⟨_, rfl⟩
          rw [hrl] at hlR HMY
          have HRL := hide hrl
          clear hrl
          cases c1 : isCmd p.req.kind with
          | true =>
            as_aux_lemma =>
            obtain ⟨b2, c2⟩ : ∃ b, isRdg p.req.kind = b := ⟨_, rfl⟩
            have HWT : Hid ((ac p.req.user ≠ some true → wantP ro ac p.req = 3) ∧ (ac p.req.user = some true → mayP rl p.req.kind = true → wantP ro ac p.req = 0) ∧ (ac p.req.user = some true → mayP rl p.req.kind = false → wantP ro ac p.req = 4)) := ⟨fun q1 => (by unfold wantP; rw [c1, c2]; simp [q1]), fun q1 q2 => (by unfold wantP; rw [c1, c2, HRL.out]; simp [q1, q2]), fun q1 q2 => (by unfold wantP; rw [c1, c2, HRL.out]; simp [q1, q2])⟩
            by_cases hac : ac p.req.user = some true
            · rw [hac] at hlA
              simp only [Option.map_some, Option.getD_some] at hlA
              cases hmy : mayP rl p.req.kind with
              | true =>
                rw [hmy] at HMY
                have hpc := HPF.out.2 (HWT.out.2.1 hac hmy)
                have f2 : (ans.resp.code == 2) = false := by simpa using hpc.1
                have f3 : (ans.resp.code == 3) = false := by simpa using hpc.2.1
                have f4 : (ans.resp.code == 4) = false := by simpa using hpc.2.2
                go_upto_region 14 with (go_at_call 26; refine (isCmd_calls _ _).mono ?_; rintro e w1 ⟨rfl, hw1⟩; rw [hw1, c1]; clear hw1)
                go_quiet (fail)
                have x1 : (W4.drewN nq).cell? ⟨w.heap.size + 2, 0, none⟩ = some (.pointer (some ⟨w.heap.size, 0, none⟩)) := e1
                have x2 : (W4.drewN nq).cell? ⟨w.heap.size, 2, none⟩ = some (.int .i64 _) := e2
                have x3 : (W4.drewN nq).cell? ⟨W3.heap.size, 0, none⟩ = some (.int .u8 p.req.kind) := e3
                have x4 : (W4.drewN nq).cell? ⟨W3.heap.size, 1, none⟩ = some (.int .u32 p.req.user) := e4
                have x5 : (W4.drewN nq).cell? ⟨D3, 0, none⟩ = some (.int .u8 _) := e5
                have x6 : (W4.drewN nq).cell? ⟨Rb, 0, none⟩ = some (.map (some M1)) := e6
                have x7 : rng (W4.drewN nq) D 0 27 = some (opA p lv dv ca cn cc) := r3
                have x8 : rng (W4.drewN nq) D3 0 48 = some (ansCs ans) := r4
                have hlR5 : ∀ m, (Instr.lookup 120 (.map (some M1)) (.int .u32 p.req.user) false).run Tryz.prog ((W4.drewN nq).drewN m) = .ok (.int .u8 rl) ((W4.drewN nq).drewN m) := fun m => by rw [World.drewN_drewN]; exact hlR _
                have HMY5 : Hid (∀ m, Calls Tryz.prog 40 #[.int .u8 rl, .int .u8 p.req.kind] ((W4.drewN nq).drewN m) fun e w' => e = .returned (.bool true) ∧ w' = (W4.drewN nq).drewN m) := fun m => by rw [World.drewN_drewN]; exact HMY.out _
                have HB5 : Hid (Below W3.heap.size W3 (W4.drewN nq)) := below_drewN HB4.out nq
                clear e1 e2 e3 e4 e5 e6 e7 r3 r4 hlA hlR HMY HR4
                generalize W4.drewN nq = W5 at *
                go_upto_region 16 with fail
                go_quiet ((go_at_call 40; refine Calls.quiet_of_same (HMY5.out _)))
                go_wp2_with (go_at_call 35; refine (HNT.out _ (by first | exact HB4.out | exact below_drewN HB4.out _ | exact below_drewN HB5.out _)).mono ?_; rintro e W6 ⟨rfl, hN⟩; have HE := hide (HFIN.out _ _ (by first | exact HB4.out | exact below_drewN HB4.out _ | exact below_drewN HB5.out _) hN); clear hN)
                go_roundg (n - (q + 1))
                case measure => omega
                case rel => exact ⟨q + 1, by omega, rfl, by go_num, HE⟩
              | false =>
                rw [hmy] at HMY
                obtain ⟨hcd, hof⟩ := HPF.out.1 (by rw [HWT.out.2.2 hac hmy]; decide)
                rw [HWT.out.2.2 hac hmy] at hcd
                rw [hcd] at e5
                rw [hof] at e2
                go_upto_region 14 with (go_at_call 26; refine (isCmd_calls _ _).mono ?_; rintro e w1 ⟨rfl, hw1⟩; rw [hw1, c1]; clear hw1)
                go_quiet (fail)
                have x1 : (W4.drewN nq).cell? ⟨w.heap.size + 2, 0, none⟩ = some (.pointer (some ⟨w.heap.size, 0, none⟩)) := e1
                have x2 : (W4.drewN nq).cell? ⟨w.heap.size, 2, none⟩ = some (.int .i64 _) := e2
                have x3 : (W4.drewN nq).cell? ⟨W3.heap.size, 0, none⟩ = some (.int .u8 p.req.kind) := e3
                have x4 : (W4.drewN nq).cell? ⟨W3.heap.size, 1, none⟩ = some (.int .u32 p.req.user) := e4
                have x5 : (W4.drewN nq).cell? ⟨D3, 0, none⟩ = some (.int .u8 _) := e5
                have x6 : (W4.drewN nq).cell? ⟨Rb, 0, none⟩ = some (.map (some M1)) := e6
                have x7 : rng (W4.drewN nq) D 0 27 = some (opA p lv dv ca cn cc) := r3
                have x8 : rng (W4.drewN nq) D3 0 48 = some (ansCs ans) := r4
                have hlR5 : ∀ m, (Instr.lookup 120 (.map (some M1)) (.int .u32 p.req.user) false).run Tryz.prog ((W4.drewN nq).drewN m) = .ok (.int .u8 rl) ((W4.drewN nq).drewN m) := fun m => by rw [World.drewN_drewN]; exact hlR _
                have HMY5 : Hid (∀ m, Calls Tryz.prog 40 #[.int .u8 rl, .int .u8 p.req.kind] ((W4.drewN nq).drewN m) fun e w' => e = .returned (.bool false) ∧ w' = (W4.drewN nq).drewN m) := fun m => by rw [World.drewN_drewN]; exact HMY.out _
                have HB5 : Hid (Below W3.heap.size W3 (W4.drewN nq)) := below_drewN HB4.out nq
                clear e1 e2 e3 e4 e5 e6 e7 r3 r4 hlA hlR HMY HR4
                generalize W4.drewN nq = W5 at *
                go_upto_region 16 with fail
                go_quiet ((go_at_call 40; refine Calls.quiet_of_same (HMY5.out _)))
                go_wp2_with (go_at_call 35; refine (HNT.out _ (by first | exact HB4.out | exact below_drewN HB4.out _ | exact below_drewN HB5.out _)).mono ?_; rintro e W6 ⟨rfl, hN⟩; have HE := hide (HFIN.out _ _ (by first | exact HB4.out | exact below_drewN HB4.out _ | exact below_drewN HB5.out _) hN); clear hN)
                go_roundg (n - (q + 1))
                case measure => omega
                case rel => exact ⟨q + 1, by omega, rfl, by go_num, HE⟩
            · have hla : ∀ m, (Instr.lookup 121 (.map (some M2)) (.int .u32 p.req.user) false).run Tryz.prog (W4.drewN m) = .ok (.bool false) (W4.drewN m) := fun m => by
                rw [← look_b hac]
                exact hlA m
              clear hlA
              obtain ⟨hcd, hof⟩ := HPF.out.1 (by rw [HWT.out.1 hac]; decide)
              rw [HWT.out.1 hac] at hcd
              rw [hcd] at e5
              rw [hof] at e2
              go_upto_region 14 with (go_at_call 26; refine (isCmd_calls _ _).mono ?_; rintro e w1 ⟨rfl, hw1⟩; rw [hw1, c1]; clear hw1)
              go_quiet (fail)
              go_wp2_with (go_at_call 35; refine (HNT.out _ (by first | exact HB4.out | exact below_drewN HB4.out _ | exact below_drewN HB5.out _)).mono ?_; rintro e W6 ⟨rfl, hN⟩; have HE := hide (HFIN.out _ _ (by first | exact HB4.out | exact below_drewN HB4.out _ | exact below_drewN HB5.out _) hN); clear hN)
              go_roundg (n - (q + 1))
              case measure => omega
              case rel => exact ⟨q + 1, by omega, rfl, by go_num, HE⟩
          | false =>
            cases c2 : isRdg p.req.kind with
            | true =>
              as_aux_lemma =>
              have HWT : Hid ((ac p.req.user ≠ some true → wantP ro ac p.req = 3) ∧ (ac p.req.user = some true → mayP rl p.req.kind = true → wantP ro ac p.req = 0) ∧ (ac p.req.user = some true → mayP rl p.req.kind = false → wantP ro ac p.req = 4)) := ⟨fun q1 => (by unfold wantP; rw [c1, c2]; simp [q1]), fun q1 q2 => (by unfold wantP; rw [c1, c2, HRL.out]; simp [q1, q2]), fun q1 q2 => (by unfold wantP; rw [c1, c2, HRL.out]; simp [q1, q2])⟩
              by_cases hac : ac p.req.user = some true
              · rw [hac] at hlA
                simp only [Option.map_some, Option.getD_some] at hlA
                cases hmy : mayP rl p.req.kind with
                | true =>
                  rw [hmy] at HMY
                  have hpc := HPF.out.2 (HWT.out.2.1 hac hmy)
                  have f2 : (ans.resp.code == 2) = false := by simpa using hpc.1
                  have f3 : (ans.resp.code == 3) = false := by simpa using hpc.2.1
                  have f4 : (ans.resp.code == 4) = false := by simpa using hpc.2.2
                  go_upto_region 14 with (first | (go_at_call 26; refine (isCmd_calls _ _).mono ?_; rintro e w1 ⟨rfl, hw1⟩; rw [hw1, c1]; clear hw1) | (go_at_call 39; refine (isRdg_calls _ _).mono ?_; rintro e w1 ⟨rfl, hw1⟩; rw [hw1, c2]; clear hw1))
                  go_quiet (fail)
                  have x1 : (W4.drewN nq).cell? ⟨w.heap.size + 2, 0, none⟩ = some (.pointer (some ⟨w.heap.size, 0, none⟩)) := e1
                  have x2 : (W4.drewN nq).cell? ⟨w.heap.size, 2, none⟩ = some (.int .i64 _) := e2
                  have x3 : (W4.drewN nq).cell? ⟨W3.heap.size, 0, none⟩ = some (.int .u8 p.req.kind) := e3
                  have x4 : (W4.drewN nq).cell? ⟨W3.heap.size, 1, none⟩ = some (.int .u32 p.req.user) := e4
                  have x5 : (W4.drewN nq).cell? ⟨D3, 0, none⟩ = some (.int .u8 _) := e5
                  have x6 : (W4.drewN nq).cell? ⟨Rb, 0, none⟩ = some (.map (some M1)) := e6
                  have x7 : rng (W4.drewN nq) D 0 27 = some (opA p lv dv ca cn cc) := r3
                  have x8 : rng (W4.drewN nq) D3 0 48 = some (ansCs ans) := r4
                  have hlR5 : ∀ m, (Instr.lookup 120 (.map (some M1)) (.int .u32 p.req.user) false).run Tryz.prog ((W4.drewN nq).drewN m) = .ok (.int .u8 rl) ((W4.drewN nq).drewN m) := fun m => by rw [World.drewN_drewN]; exact hlR _
                  have HMY5 : Hid (∀ m, Calls Tryz.prog 40 #[.int .u8 rl, .int .u8 p.req.kind] ((W4.drewN nq).drewN m) fun e w' => e = .returned (.bool true) ∧ w' = (W4.drewN nq).drewN m) := fun m => by rw [World.drewN_drewN]; exact HMY.out _
                  have HB5 : Hid (Below W3.heap.size W3 (W4.drewN nq)) := below_drewN HB4.out nq
                  clear e1 e2 e3 e4 e5 e6 e7 r3 r4 hlA hlR HMY HR4
                  generalize W4.drewN nq = W5 at *
                  go_upto_region 16 with fail
                  go_quiet ((go_at_call 40; refine Calls.quiet_of_same (HMY5.out _)))
                  go_wp2_with (go_at_call 35; refine (HNT.out _ (by first | exact HB4.out | exact below_drewN HB4.out _ | exact below_drewN HB5.out _)).mono ?_; rintro e W6 ⟨rfl, hN⟩; have HE := hide (HFIN.out _ _ (by first | exact HB4.out | exact below_drewN HB4.out _ | exact below_drewN HB5.out _) hN); clear hN)
                  go_roundg (n - (q + 1))
                  case measure => omega
                  case rel => exact ⟨q + 1, by omega, rfl, by go_num, HE⟩
                | false =>
                  rw [hmy] at HMY
                  obtain ⟨hcd, hof⟩ := HPF.out.1 (by rw [HWT.out.2.2 hac hmy]; decide)
                  rw [HWT.out.2.2 hac hmy] at hcd
                  rw [hcd] at e5
                  rw [hof] at e2
                  go_upto_region 14 with (first | (go_at_call 26; refine (isCmd_calls _ _).mono ?_; rintro e w1 ⟨rfl, hw1⟩; rw [hw1, c1]; clear hw1) | (go_at_call 39; refine (isRdg_calls _ _).mono ?_; rintro e w1 ⟨rfl, hw1⟩; rw [hw1, c2]; clear hw1))
                  go_quiet (fail)
                  have x1 : (W4.drewN nq).cell? ⟨w.heap.size + 2, 0, none⟩ = some (.pointer (some ⟨w.heap.size, 0, none⟩)) := e1
                  have x2 : (W4.drewN nq).cell? ⟨w.heap.size, 2, none⟩ = some (.int .i64 _) := e2
                  have x3 : (W4.drewN nq).cell? ⟨W3.heap.size, 0, none⟩ = some (.int .u8 p.req.kind) := e3
                  have x4 : (W4.drewN nq).cell? ⟨W3.heap.size, 1, none⟩ = some (.int .u32 p.req.user) := e4
                  have x5 : (W4.drewN nq).cell? ⟨D3, 0, none⟩ = some (.int .u8 _) := e5
                  have x6 : (W4.drewN nq).cell? ⟨Rb, 0, none⟩ = some (.map (some M1)) := e6
                  have x7 : rng (W4.drewN nq) D 0 27 = some (opA p lv dv ca cn cc) := r3
                  have x8 : rng (W4.drewN nq) D3 0 48 = some (ansCs ans) := r4
                  have hlR5 : ∀ m, (Instr.lookup 120 (.map (some M1)) (.int .u32 p.req.user) false).run Tryz.prog ((W4.drewN nq).drewN m) = .ok (.int .u8 rl) ((W4.drewN nq).drewN m) := fun m => by rw [World.drewN_drewN]; exact hlR _
                  have HMY5 : Hid (∀ m, Calls Tryz.prog 40 #[.int .u8 rl, .int .u8 p.req.kind] ((W4.drewN nq).drewN m) fun e w' => e = .returned (.bool false) ∧ w' = (W4.drewN nq).drewN m) := fun m => by rw [World.drewN_drewN]; exact HMY.out _
                  have HB5 : Hid (Below W3.heap.size W3 (W4.drewN nq)) := below_drewN HB4.out nq
                  clear e1 e2 e3 e4 e5 e6 e7 r3 r4 hlA hlR HMY HR4
                  generalize W4.drewN nq = W5 at *
                  go_upto_region 16 with fail
                  go_quiet ((go_at_call 40; refine Calls.quiet_of_same (HMY5.out _)))
                  go_wp2_with (go_at_call 35; refine (HNT.out _ (by first | exact HB4.out | exact below_drewN HB4.out _ | exact below_drewN HB5.out _)).mono ?_; rintro e W6 ⟨rfl, hN⟩; have HE := hide (HFIN.out _ _ (by first | exact HB4.out | exact below_drewN HB4.out _ | exact below_drewN HB5.out _) hN); clear hN)
                  go_roundg (n - (q + 1))
                  case measure => omega
                  case rel => exact ⟨q + 1, by omega, rfl, by go_num, HE⟩
              · have hla : ∀ m, (Instr.lookup 121 (.map (some M2)) (.int .u32 p.req.user) false).run Tryz.prog (W4.drewN m) = .ok (.bool false) (W4.drewN m) := fun m => by
                  rw [← look_b hac]
                  exact hlA m
                clear hlA
                obtain ⟨hcd, hof⟩ := HPF.out.1 (by rw [HWT.out.1 hac]; decide)
                rw [HWT.out.1 hac] at hcd
                rw [hcd] at e5
                rw [hof] at e2
                go_upto_region 14 with (first | (go_at_call 26; refine (isCmd_calls _ _).mono ?_; rintro e w1 ⟨rfl, hw1⟩; rw [hw1, c1]; clear hw1) | (go_at_call 39; refine (isRdg_calls _ _).mono ?_; rintro e w1 ⟨rfl, hw1⟩; rw [hw1, c2]; clear hw1))
                go_quiet (fail)
                go_wp2_with (go_at_call 35; refine (HNT.out _ (by first | exact HB4.out | exact below_drewN HB4.out _ | exact below_drewN HB5.out _)).mono ?_; rintro e W6 ⟨rfl, hN⟩; have HE := hide (HFIN.out _ _ (by first | exact HB4.out | exact below_drewN HB4.out _ | exact below_drewN HB5.out _) hN); clear hN)
                go_roundg (n - (q + 1))
                case measure => omega
                case rel => exact ⟨q + 1, by omega, rfl, by go_num, HE⟩
            | false =>
              as_aux_lemma =>
              have hw : wantP ro ac p.req = 2 := by unfold wantP; rw [c1, c2]; rfl
              obtain ⟨hcd, hof⟩ := HPF.out.1 (by rw [hw]; decide)
              rw [hw] at hcd
              rw [hcd] at e5
              rw [hof] at e2
              go_wp2_with (first | (go_at_call 26; refine (isCmd_calls _ _).mono ?_; rintro e w1 ⟨rfl, hw1⟩; rw [hw1, c1]; clear hw1) | (go_at_call 39; refine (isRdg_calls _ _).mono ?_; rintro e w1 ⟨rfl, hw1⟩; rw [hw1, c2]; clear hw1) | (go_at_call 35; refine (HNT.out _ (by first | exact HB4.out | exact below_drewN HB4.out _ | exact below_drewN HB5.out _)).mono ?_; rintro e W6 ⟨rfl, hN⟩; have HE := hide (HFIN.out _ _ (by first | exact HB4.out | exact below_drewN HB4.out _ | exact below_drewN HB5.out _) hN); clear hN))
              go_roundg (n - (q + 1))
              case measure => omega
              case rel => exact ⟨q + 1, by omega, rfl, by go_num, HE⟩
        · have e0f : (p.kind == 1) = false := by simpa using hk
          go_wp2_with (go_at_call 35; refine (HNT.out _ (Below.refl _ _)).mono ?_; rintro e W6 ⟨rfl, hN⟩; have HE := hide (HFIN.out _ _ (Below.refl _ _) hN); clear hN)
          go_roundg (n - (q + 1))
          case measure => omega
          case rel => exact ⟨q + 1, by omega, rfl, by go_num, HE⟩
      · obtain rfl : q = n := by omega
        obtain ⟨ro, ac, hpq⟩ := HQ.out
        have HBW := hide hpq.bx.blw
        clear hpq
        go_wp2
        go_ret
        exact ⟨by first | rfl | simp, HBW.out⟩
  · have hd : decide (total s ≤ 65536) = false := by simpa using hsm
    rw [hd] at HSm
    clear hd hsm ha hc hn hgl HNB
    go_enter Tryz.func7, Tryz.ntmps7
    go_wp2_with (go_at_call 18; refine HSm.out.mono ?_; rintro e w1 ⟨rfl, rfl⟩)
    go_ret
    exact ⟨rfl, Below.refl _ _⟩

end Go.Proofs.Qxb6500666aGreatDoor
