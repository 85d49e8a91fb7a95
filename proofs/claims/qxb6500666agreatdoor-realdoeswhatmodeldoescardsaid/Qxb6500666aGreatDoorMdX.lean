/- The model's Execute. (Made by tools/mk_mex.py.) -/
import Derived.Test.Qxb6500666aGreatDoorMdU
import Derived.Test.Qxb6500666aGreatDoorMdW
import Derived.Test.Qxb6500666aGreatDoorCmd
namespace Go.Proofs.Qxb6500666aGreatDoor
open Go.RowKit
/-- What Execute finds. -/
structure ExI (rn kn ft : Nat → ByteArray) (okg : Nat → Prop) (w : World) (M : Nat) (ok : Nat → Prop) (v : MV) (m : Mod) (r : Req) (lv : Value) : Prop where
  at' : MAt w M ok v m
  nok : ∀ b, ok b → b ≠ M
  new : ∀ b, w.heap.size ≤ b → ok b
  vis : RArr w ok 1 u32Cs lv r.list
  inv : MInv m
  req : r.Ok
  nm : NmAt w rn kn ft
  gr : GrAt w okg
/-- What Execute answers. -/
def RspM (rn kn : Nat → ByteArray) (ok : Nat → Prop) (w w' : World) (m : Mod) (r : Req) (x : Rsp) : Prop :=
  (mReads m r → RV (rdM rn kn ok w w' m r) x) ∧ (¬ mReads m r → x = { rsp0 with code := (mEx m r).c, issued := (mEx m r).iss })
def ExM (rn kn : Nat → ByteArray) (w w' : World) (M : Nat) (ok : Nat → Prop) (m : Mod) (r : Req) (e : Ending) : Prop :=
  (∃ v', MAt w' M ok v' (mEx m r).m) ∧ But M w w' ∧ ∃ x, e = .returned (.agg (respCs x)) ∧ RspM rn kn (fun b => ok b ∧ b < w.heap.size) w w' m r x
/-- Execute's own blocks. -/
structure EB (w W : World) (q : Array Value) : Prop where
  rq : W.heap[w.heap.size]? = some (.cells q 53 (0, 0))
  rs : W.heap[w.heap.size + 1]? = some (.cells (respCs rsp0) 75 (0, 0))
  blw : Below w.heap.size w W
theorem EB.start (w : World) (q : Array Value) : EB w ((w.alloc (.cells q 53)).alloc (.cells (respCs rsp0) 75)) q :=
  ⟨(Below.heap_alloc _ _ _ (by simp)).trans (heap_alloc_at _ _), box2 w _ _ _ _, ((Below.refl _ _).alloc (Nat.le_refl _) _).alloc (by simp) _⟩
theorem EB.next {w W W' : World} {q : Array Value} (h : EB w W q) (hb : Below (w.heap.size + 2) W W') : EB w W' q :=
  ⟨(hb.block _ (by omega)).trans h.rq, (hb.block _ (by omega)).trans h.rs, h.blw.trans (hb.mono (by omega))⟩
theorem EB.z {w W : World} {q : Array Value} (h : EB w W q) : w.heap.size + 2 ≤ W.heap.size := by have := blk_lt h.rs; omega
theorem EB.facts {w W : World} {q : Array Value} (h : EB w W q) : whole W (w.heap.size + 1) 40 = true ∧ (∀ j, W.cell? ⟨w.heap.size, j, none⟩ = q[j]?) ∧ w.heap.size + 1 < W.heap.size :=
  ⟨whole_blk h.rs, fun j => cells_all h.rq j, blk_lt h.rs⟩
theorem EB.fin {w W : World} {q : Array Value} {y : Rsp} (h : EB w W q) : (W.setRow (w.heap.size + 1) (respCs y)).heap[w.heap.size + 1]? = some (.cells (respCs y) 75 (0, 0)) ∧ Below w.heap.size w (W.setRow (w.heap.size + 1) (respCs y)) :=
  ⟨heap_setRow_at h.rs, h.blw.trans ⟨rfl, rfl, rfl, by simp, fun k hk => setRow_other _ _ _ _ (by omega)⟩⟩
/-- A refusal. -/
theorem ExM.refuse {rn kn : Nat → ByteArray} {w w' : World} {M : Nat} {ok : Nat → Prop} {v : MV} {m : Mod} {r : Req} {c : Int} (h : MAt w M ok v m) (hb : Below w.heap.size w w') (hr : ¬ mReads m r) (hx : mEx m r = ⟨m, 0, c⟩) : ExM rn kn w w' M ok m r (.returned (.agg (respCs { rsp0 with code := c }))) := by
  refine ⟨⟨v, ?_⟩, But.of hb (Nat.le_of_lt (blk_lt h.top)), _, rfl, fun k => absurd k hr, fun _ => ?_⟩
  · rw [hx]; exact h.below hb
  · rw [hx]; rfl
theorem Tryz.size45_m (w : World) : (sizeOf 45).run Tryz.prog w = .ok 12 w := by kernel_rfl
section
variable (ρ : Operand → Value) (dst : Option Tmp) (x y : Operand) (ty : TypeId) (pos : String) (after : Array Edge) (guard : Option (Nat × Bool))
theorem exec_ldMod : execOp ρ { dst, op := .load 45 x, type := ty, pos, after, guard } = (do pure (.value (← ldS 45 (ρ x)))) := rfl
theorem exec_stMod : execOp ρ { dst, op := .store 45 x y, type := ty, pos, after, guard } = (do stS 45 (ρ x) (ρ y); pure .skip) := rfl
end
theorem run_ldMod (w : World) (b off : Nat) : (ldS 45 (.pointer (some ⟨b, off, none⟩))).run Tryz.prog w = match rng w b off 12 with | some cs => .ok (.agg cs) w | none => (Instr.loadAt 45 (.pointer (some ⟨b, off, none⟩))).run Tryz.prog w :=
  run_ldS Tryz.underlying45 Tryz.size45_m w b off
theorem run_stMod (w : World) (b : Nat) (cs : Array Value) : (stS 45 (.pointer (some ⟨b, 0, none⟩)) (.agg cs)).run Tryz.prog w = if whole w b 12 = true ∧ ones cs 12 = true then .ok () (w.setRow b cs) else (Instr.storeAt 45 (.pointer (some ⟨b, 0, none⟩)) (.agg cs)).run Tryz.prog w := run_stS Tryz.size45_m w b cs
theorem LowAt.ones {W : World} {ok : Nat → Prop} {x : LV} {L : Low} (h : LowAt W ok x L) : ∀ u ∈ (lvCs x).toList, u.oneCell' = true := by
  obtain ⟨_, _, _, _, e0, -⟩ := h.pr.a
  obtain ⟨_, ⟨_, _, _, _, e1, -⟩, -⟩ := h.pr.v
  obtain ⟨_, _, _, _, e2, -⟩ := h.pr.s
  obtain ⟨_, _, _, _, e3, -⟩ := h.pr.u
  obtain ⟨_, _, _, _, e4, -⟩ := h.kit
  obtain ⟨_, _, _, _, e5, -⟩ := h.sm.a
  obtain ⟨_, _, _, _, e6, -⟩ := h.sm.b
  obtain ⟨_, _, _, _, e7, -⟩ := h.sm.c
  intro u hu
  simp only [lvCs, List.mem_cons, List.not_mem_nil, or_false] at hu
  rcases hu with rfl | rfl | rfl | rfl | rfl | rfl | rfl | rfl
  · rw [e0]; rfl
  · rw [e1]; rfl
  · rw [e2]; rfl
  · rw [e3]; rfl
  · rw [e4]; rfl
  · rw [e5]; rfl
  · rw [e6]; rfl
  · rw [e7]; rfl
theorem mvCs_ones {v : MV} {full : Bool} (h : ∀ u ∈ (lvCs v.x).toList, u.oneCell' = true) : ones (mvCs v full) 12 = true := by
  have h0 := h v.x.p0 (by simp [lvCs])
  have h1 := h v.x.p1 (by simp [lvCs])
  have h2 := h v.x.p2 (by simp [lvCs])
  have h3 := h v.x.p3 (by simp [lvCs])
  have h4 := h v.x.k (by simp [lvCs])
  have h5 := h v.x.s1 (by simp [lvCs])
  have h6 := h v.x.s2 (by simp [lvCs])
  have h7 := h v.x.s3 (by simp [lvCs])
  have hs : ∀ s : SV, (sv s).oneCell' = true := fun _ => rfl
  have hb : (Value.bool full).oneCell' = true := rfl
  simp [ones, mvCs, h0, h1, h2, h3, h4, h5, h6, h7, hs, hb]
theorem run_fldSt3 (w : World) (s : Stat) : (fldS 65 3 (.agg (statCs s))).run Tryz.prog w = .ok (.int .i64 s.lastMin) w := by kernel_rfl
attribute [local go_sem] ext_const Ext.cell Ext.frozen Ext.rng Ext.whole
attribute [local go_sem ↓] exec_ldRsp exec_stRsp exec_bdRsp exec_ldReq exec_ldEnt exec_stEnt exec_bdEnt4 exec_bsEnt exec_fldSt exec_ldMod exec_stMod
attribute [local go_sem] run_ldRsp run_stRsp run_bdRsp0 run_bdRsp1 respCs_ones run_ldReq run_ldEnt run_stEnt run_bdEnt4 run_bsEnt entA_size reqA_size run_fldSt3 run_ldMod run_stMod whole_alloc_lt whole_alloc_at whole_drew setRow_alloc_at setRow_alloc_lt setRow_drew rng_alloc_lt rng_alloc_at rng_drew rng_drewN rng_setCell_other whole_setCell_other

set_option maxRecDepth 100000 in
set_option maxHeartbeats 16000000 in
theorem mExec_calls (rn kn ft : Nat → ByteArray) (okg : Nat → Prop) (w : World) (M : Nat) (ok : Nat → Prop) (v : MV) (m : Mod) (r : Req) (lv : Value) (h : ExI rn kn ft okg w M ok v m r lv) :
    Calls Tryz.prog 81 #[.pointer (some ⟨M, 0, none⟩), .agg (reqA r lv)] w fun e w' => ExM rn kn w w' M ok m r e := by
  have HH := hide h
  clear h
  go_enter Tryz.func81, Tryz.ntmps81
  go_upto_region 1 with fail
  have H0 := hide (EB.start w (reqA r lv))
  change Code.wp _ _ _ _ ((w.alloc (.cells (reqA r lv) 53)).alloc (.cells (respCs rsp0) 75))
  generalize ((w.alloc (.cells (reqA r lv) 53)).alloc (.cells (respCs rsp0) 75)) = W0 at *
  obtain ⟨-, hq, hz⟩ := H0.out.facts
  have q0 := hq 0
  have q1 := hq 1
  simp only [reqA, List.getElem?_toArray, List.getElem?_cons_zero, List.getElem?_cons_succ] at q0 q1
  clear hq
  cases c1 : isCmd r.kind with
  | true =>
    as_aux_lemma =>
    have c2 : isRdg r.kind = false := by unfold isCmd at c1; unfold isRdg; simp at c1 ⊢; omega
    have hz2 := H0.out.z
    have HU := hide (mUser_calls W0 M ok v m r.user (HH.out.at'.below H0.out.blw))
    have HCR : Hid ((! isCmd r.kind && ! isRdg r.kind) = false) := by show _ = _; rw [c1, c2]; rfl
    rcases hU : mUser m r.user with ⟨ro, kn', ac⟩
    rw [hU] at HU
    have HUS := hide hU
    clear hU
    cases kn' with
    | false =>
      have HX : Hid (mEx m r = ⟨m, 0, 3⟩) := mEx_u3 HCR.out HUS.out
      have HNR : Hid (¬ mReads m r) := mReads_not HUS.out (Or.inr (Or.inl rfl))
      clear HCR HUS
      go_upto_region 5 with (first | (go_at_call 26; refine (isCmd_calls _ _).mono ?_; rintro e w1 ⟨rfl, hw1⟩; obtain rfl := hw1.symm; rw [c1]) | (go_at_call 39; refine (isRdg_calls _ _).mono ?_; rintro e w1 ⟨rfl, hw1⟩; obtain rfl := hw1.symm; rw [c2]) | (go_at_call 144; refine HU.out.mono ?_; rintro e W1 ⟨rfl, hb1⟩; unfold usrAns; have H1 := hide (H0.out.next (hb1.mono hz2)); have p0 := H1.out.facts.2.1 0; simp only [reqA, List.getElem?_toArray, List.getElem?_cons_zero] at p0; have zp := H1.out.facts.2.2; clear q0 q1) | (go_at_call 40; refine (may_calls _ okg ro r.kind (HH.out.gr.below H1.out.blw) HH.out.req.kind).mono ?_; rintro e w9 ⟨rfl, hw9⟩; obtain rfl := hw9.symm; rw [tm]))
      obtain ⟨h1, -, -⟩ := H1.out.facts
      go_wp2
      obtain ⟨f1, f2⟩ := H1.out.fin (y := { rsp0 with code := 3 })
      refine bodyPost_ret (results_cell1 Tryz.results81 _ _ (w.heap.size + 1) _ _ _ _ rfl f1 Tryz.underlying75 rfl (by kernel_rfl)) rfl ?_
      exact ExM.refuse HH.out.at' f2 (HNR.out) (HX.out)
    | true =>
      cases ac with
      | false =>
        have HX : Hid (mEx m r = ⟨m, 0, 3⟩) := mEx_u3' HCR.out HUS.out
        have HNR : Hid (¬ mReads m r) := mReads_not HUS.out (Or.inr (Or.inr (Or.inl rfl)))
        clear HCR HUS
        go_upto_region 5 with (first | (go_at_call 26; refine (isCmd_calls _ _).mono ?_; rintro e w1 ⟨rfl, hw1⟩; obtain rfl := hw1.symm; rw [c1]) | (go_at_call 39; refine (isRdg_calls _ _).mono ?_; rintro e w1 ⟨rfl, hw1⟩; obtain rfl := hw1.symm; rw [c2]) | (go_at_call 144; refine HU.out.mono ?_; rintro e W1 ⟨rfl, hb1⟩; unfold usrAns; have H1 := hide (H0.out.next (hb1.mono hz2)); have p0 := H1.out.facts.2.1 0; simp only [reqA, List.getElem?_toArray, List.getElem?_cons_zero] at p0; have zp := H1.out.facts.2.2; clear q0 q1) | (go_at_call 40; refine (may_calls _ okg ro r.kind (HH.out.gr.below H1.out.blw) HH.out.req.kind).mono ?_; rintro e w9 ⟨rfl, hw9⟩; obtain rfl := hw9.symm; rw [tm]))
        obtain ⟨h1, -, -⟩ := H1.out.facts
        go_wp2
        obtain ⟨f1, f2⟩ := H1.out.fin (y := { rsp0 with code := 3 })
        refine bodyPost_ret (results_cell1 Tryz.results81 _ _ (w.heap.size + 1) _ _ _ _ rfl f1 Tryz.underlying75 rfl (by kernel_rfl)) rfl ?_
        exact ExM.refuse HH.out.at' f2 (HNR.out) (HX.out)
      | true =>
        cases tm : mayP ro r.kind with
        | false =>
          have HX : Hid (mEx m r = ⟨m, 0, 4⟩) := mEx_u4 HCR.out HUS.out tm
          have HNR : Hid (¬ mReads m r) := mReads_not HUS.out (Or.inr (Or.inr (Or.inr tm)))
          clear HCR HUS
          go_upto_region 7 with (first | (go_at_call 26; refine (isCmd_calls _ _).mono ?_; rintro e w1 ⟨rfl, hw1⟩; obtain rfl := hw1.symm; rw [c1]) | (go_at_call 39; refine (isRdg_calls _ _).mono ?_; rintro e w1 ⟨rfl, hw1⟩; obtain rfl := hw1.symm; rw [c2]) | (go_at_call 144; refine HU.out.mono ?_; rintro e W1 ⟨rfl, hb1⟩; unfold usrAns; have H1 := hide (H0.out.next (hb1.mono hz2)); have p0 := H1.out.facts.2.1 0; simp only [reqA, List.getElem?_toArray, List.getElem?_cons_zero] at p0; have zp := H1.out.facts.2.2; clear q0 q1) | (go_at_call 40; refine (may_calls _ okg ro r.kind (HH.out.gr.below H1.out.blw) HH.out.req.kind).mono ?_; rintro e w9 ⟨rfl, hw9⟩; obtain rfl := hw9.symm; rw [tm]))
          obtain ⟨h1, -, -⟩ := H1.out.facts
          go_wp2
          obtain ⟨f1, f2⟩ := H1.out.fin (y := { rsp0 with code := 4 })
          refine bodyPost_ret (results_cell1 Tryz.results81 _ _ (w.heap.size + 1) _ _ _ _ rfl f1 Tryz.underlying75 rfl (by kernel_rfl)) rfl ?_
          exact ExM.refuse HH.out.at' f2 (HNR.out) (HX.out)
        | true =>
          have HNR : Hid (¬ mReads m r) := mReads_not HUS.out (Or.inl c2)
          have HEX : Hid (mEx m r = mCmd m r ro) := mEx_cmd c1 HUS.out tm
          clear HCR HUS
          go_upto_region 10 with (first | (go_at_call 26; refine (isCmd_calls _ _).mono ?_; rintro e w1 ⟨rfl, hw1⟩; obtain rfl := hw1.symm; rw [c1]) | (go_at_call 39; refine (isRdg_calls _ _).mono ?_; rintro e w1 ⟨rfl, hw1⟩; obtain rfl := hw1.symm; rw [c2]) | (go_at_call 144; refine HU.out.mono ?_; rintro e W1 ⟨rfl, hb1⟩; unfold usrAns; have H1 := hide (H0.out.next (hb1.mono hz2)); have p0 := H1.out.facts.2.1 0; simp only [reqA, List.getElem?_toArray, List.getElem?_cons_zero] at p0; have zp := H1.out.facts.2.2; clear q0 q1) | (go_at_call 40; refine (may_calls _ okg ro r.kind (HH.out.gr.below H1.out.blw) HH.out.req.kind).mono ?_; rintro e w9 ⟨rfl, hw9⟩; obtain rfl := hw9.symm; rw [tm]))
          have HM1 := hide (HH.out.at'.below H1.out.blw)
          have zz1 := H1.out.z
          have p2 := H1.out.facts.2.1 2
          simp only [reqA, List.getElem?_toArray, List.getElem?_cons_zero, List.getElem?_cons_succ] at p2
          clear hb1 HU p0 H0
          cases d1 : decide (r.now < 0) with
          | true =>
            go_upto_region 11 with fail
            obtain ⟨h1, -, -⟩ := H1.out.facts
            go_wp2
            obtain ⟨f1, f2⟩ := H1.out.fin (y := { rsp0 with code := 5 })
            refine bodyPost_ret (results_cell1 Tryz.results81 _ _ (w.heap.size + 1) _ _ _ _ rfl f1 Tryz.underlying75 rfl (by kernel_rfl)) rfl ?_
            exact ExM.refuse HH.out.at' f2 (HNR.out) (HEX.out.trans (mCmd_5 (by simpa using d1)))
          | false =>
            have HN1 : Hid (0 ≤ r.now) := (by simpa using d1 : 0 ≤ r.now)
            cases d2 : decide (157785119 < r.now) with
            | true =>
              go_upto_region 11 with fail
              obtain ⟨h1, -, -⟩ := H1.out.facts
              go_wp2
              obtain ⟨f1, f2⟩ := H1.out.fin (y := { rsp0 with code := 5 })
              refine bodyPost_ret (results_cell1 Tryz.results81 _ _ (w.heap.size + 1) _ _ _ _ rfl f1 Tryz.underlying75 rfl (by kernel_rfl)) rfl ?_
              exact ExM.refuse HH.out.at' f2 (HNR.out) (HEX.out.trans (mCmd_5' (by simpa using d2)))
            | false =>
              have HN2 : Hid (r.now ≤ 157785119) := (by simpa using d2 : r.now ≤ 157785119)
              go_upto_region 12 with fail
              have hzq : w.heap.size < W1.heap.size := by omega
              have zM1 := blk_lt HM1.out.top
              have HST : Hid (∀ V, Below W1.heap.size W1 V → Calls Tryz.prog 23 #[.pointer (some ⟨M, 0, none⟩)] V fun e w' => e = .returned (.agg (statCs (mStat m))) ∧ Below V.heap.size V w') := fun V hb => mStat_calls V M ok v m (HM1.out.below hb) (by have := HH.out.inv.fl; omega) (by have := HH.out.inv.al; omega)
              obtain ⟨st, hst⟩ : ∃ st, mStat m = st := ⟨_, rfl⟩
              rw [hst] at HST
              have HSE := hide hst
              clear hst
              go_cut [64] (fun bv W => bv = .bool (decide (r.now < st.lastMin)) ∧ Hid (Below W1.heap.size W1 W))
              case first =>
                as_aux_lemma =>
                refine wp_region_mixT (W1.heap.size) [1] (by kernel_rfl) ?_
                refine mixT_slots [0, 2] (fuel := 4) rfl (by kernel_rfl) (by kernel_rfl) (fun d _ _ _ _ h => by cases d <;> exact h) ?_
                simp only [opersAt, List.getElem?_toArray, List.getElem?_cons_zero, List.getElem?_cons_succ]
                repeat (go_big_quiet_step (fail))
                refine wpQuiet_nil ?_
                refine mixT_reads [1] (fuel := 3) rfl (by kernel_rfl) (by decide) (by kernel_rfl) (fun d _ _ _ _ h => by cases d <;> exact h) (ext_drew _ _) ?_
                simp only [opersAt, List.getElem?_toArray, List.getElem?_cons_zero, List.getElem?_cons_succ]
                repeat (go_big_quiet_step (fail))
                refine wpQuiet_nil ?_
                refine mixT_one (k := 3) (by kernel_rfl) rfl ?_
                go_wp2_with (go_at_call 23; refine (HST.out _ (Below.refl _ _).drew).mono ?_; rintro e w2 ⟨rfl, hb2⟩)
                have hv2 : Below W1.heap.size W1 w2 := (Below.refl _ _).drew.trans hb2
                refine ⟨Or.inr (by intros; exact ⟨⟨_, hv2⟩, rfl⟩), ?_⟩
                refine mixT_slots [4, 5] (fuel := 0) rfl (by kernel_rfl) (by kernel_rfl) (fun d _ _ _ _ h => by cases d <;> exact h) ?_
                simp only [opersAt, List.getElem?_toArray, List.getElem?_cons_zero, List.getElem?_cons_succ]
                repeat (go_big_quiet_step (fail))
                refine wpQuiet_nil ?_
                refine mixT_nil (by kernel_rfl) ?_
                go_wp2
                go_meet
                case rel => exact ⟨rfl, (Below.refl _ _).drew.trans hb2⟩
              case rest =>
              obtain ⟨rfl, HB3⟩ := hcut
              generalize wc = W3 at *
              have H3 := hide (H1.out.next (HB3.out.mono zz1))
              have zz3 := H3.out.z
              clear HST p2 H1 HM1 HB3 zM1 zp zz1 hzq
              cases d3 : decide (r.now < st.lastMin) with
              | true =>
                go_upto_region 13 with fail
                obtain ⟨h1, -, -⟩ := H3.out.facts
                go_wp2
                obtain ⟨f1, f2⟩ := H3.out.fin (y := { rsp0 with code := 6 })
                refine bodyPost_ret (results_cell1 Tryz.results81 _ _ (w.heap.size + 1) _ _ _ _ rfl f1 Tryz.underlying75 rfl (by kernel_rfl)) rfl ?_
                exact ExM.refuse HH.out.at' f2 (HNR.out) (HEX.out.trans (mCmd_6 HN1.out HN2.out (by rw [HSE.out]; simpa using d3)))
              | false =>
                have HN3 : Hid ((mStat m).lastMin ≤ r.now) := (by rw [HSE.out]; simpa using d3 : (mStat m).lastMin ≤ r.now)
                obtain ⟨la, ln, lc, rfl, hls⟩ := Src.of HH.out.vis
                have HLL : Hid (ln = r.list.length) := hls.len
                clear hls
                have p16 := H3.out.facts.2.1 16
                simp only [reqA, List.getElem?_toArray, List.getElem?_cons_zero, List.getElem?_cons_succ] at p16
                have zp3 := H3.out.facts.2.2
                cases d4 : decide ((12 : Int) < (ln : Int)) with
                | true =>
                  go_upto_region 15 with fail
                  obtain ⟨h1, -, -⟩ := H3.out.facts
                  go_wp2
                  obtain ⟨f1, f2⟩ := H3.out.fin (y := { rsp0 with code := 14 })
                  refine bodyPost_ret (results_cell1 Tryz.results81 _ _ (w.heap.size + 1) _ _ _ _ rfl f1 Tryz.underlying75 rfl (by kernel_rfl)) rfl ?_
                  exact ExM.refuse HH.out.at' f2 (HNR.out) (HEX.out.trans (mCmd_14 HN1.out HN2.out HN3.out (by have h4 : (12 : Int) < (ln : Int) := (by simpa using d4); rw [← HLL.out]; omega)))
                | false =>
                  have HN4 : Hid (r.list.length ≤ 12) := (by have h4 : (ln : Int) ≤ 12 := (by simpa using d4); rw [← HLL.out]; omega : r.list.length ≤ 12)
                  have HM3 := hide (HH.out.at'.below H3.out.blw)
                  have rM : rng W3 M 0 12 = some (mvCs v m.full) := rng_whole HM3.out.top
                  have zM3 := blk_lt HM3.out.top
                  have zM := blk_lt HH.out.at'.top
                  have HON : Hid (ones (mvCs v m.full) 12 = true) := mvCs_ones HH.out.at'.inn.low.ones
                  have hon := HON.out
                  go_upto_region 17 with fail
                  have hbN : Below W3.heap.size W3 (W3.alloc (.cells (mvCs v m.full) 45)) := (Below.refl _ _).alloc (Nat.le_refl _) _
                  have hkN : (W3.alloc (.cells (mvCs v m.full) 45)).heap[W3.heap.size]? = some (.cells (mvCs v m.full) 45 (0, 0)) := heap_alloc_at _ _
                  have hzN : (W3.alloc (.cells (mvCs v m.full) 45)).heap.size = W3.heap.size + 1 := World.size_alloc _ _
                  clear hon rM
                  generalize W3.alloc (.cells (mvCs v m.full) 45) = W4 at *
                  have H4 := hide (H3.out.next (hbN.mono zz3))
                  have HZN := hide hzN
                  have zN4 : W3.heap.size < W4.heap.size := by omega
                  generalize W3.heap.size = N at *
                  have HCX : Hid (ChX W4 N (fun b => ok b ∧ (b < w.heap.size ∨ N < b)) (fun b => ok b) v m r (.slice la ln lc)) := by
                    have hw4 := H4.out.blw
                    refine ⟨⟨hkN, MIn.mono HH.out.at'.inn.lt (fun b q => hw4.block b q.2) (fun b q => ⟨q.1, Or.inl q.2⟩)⟩, fun b hb => by rcases hb.2 with h | h <;> omega, fun b hb => ⟨HH.out.new b (by have := hw4.size; omega), Or.inr (by omega)⟩, RArr.below HH.out.vis hw4, HH.out.req, HH.out.inv.small, HH.out.inv.times, HH.out.inv.su, (by have := HH.out.inv.fl; omega), (by have := HH.out.inv.al; omega), (by have := HH.out.inv.ul; omega), HH.out.inv.cl, HH.out.inv.rl⟩
                  have HCH := hide (mch_calls W4 N _ _ v m r (.slice la ln lc) HCX.out c1)
                  have rq4 : rng W4 w.heap.size 0 17 = some (reqA r (.slice la ln lc)) := rng_whole H4.out.rq
                  have zq4 := H4.out.facts.2.2
                  clear hkN hbN hzN HM3 p16 zM3
                  rcases hcr : mChange m r with ⟨m1, iss, cc⟩
                  rw [hcr] at HCH
                  have HCC := hide hcr
                  clear hcr
                  go_upto_region 18 with (go_at_call 146; refine HCH.out.mono ?_; rintro e W5 ⟨rfl, hm5, hbt5⟩)
                  have hb45 : Below N W4 W5 := hbt5.bel
                  have H5 := hide (H4.out.next (hb45.mono (by omega)))
                  have HM5 := hide hm5
                  have hz45 := hbt5.size
                  clear HCH rq4 zq4 hm5 hbt5 hb45 HCX
                  cases d5 : (cc == 0) with
                  | false =>
                    have hcn : cc ≠ 0 := by simpa using d5
                    have HEX2 : Hid (mEx m r = ⟨m, 0, cc⟩) := HEX.out.trans (mCmd_c HN1.out HN2.out HN3.out HN4.out HCC.out hcn)
                    go_upto_region 19 with fail
                    obtain ⟨h1, -, -⟩ := H5.out.facts
                    go_wp2
                    obtain ⟨f1, f2⟩ := H5.out.fin (y := { rsp0 with code := cc })
                    refine bodyPost_ret (results_cell1 Tryz.results81 _ _ (w.heap.size + 1) _ _ _ _ rfl f1 Tryz.underlying75 rfl (by kernel_rfl)) rfl ?_
                    exact ExM.refuse HH.out.at' f2 (HNR.out) (HEX2.out)
                  | true =>
                    have hc0 : cc = 0 := by simpa using d5
                    subst hc0
                    have HA5 := hide (HH.out.at'.below H5.out.blw)
                    have f11 : W5.cell? ⟨M, 11, none⟩ = some (.bool m.full) := cells_all HA5.out.top 11
                    have zM5 := blk_lt HA5.out.top
                    cases d6 : m.full with
                    | true =>
                      rw [d6] at f11
                      go_upto_region 21 with fail
                      obtain ⟨h1, -, -⟩ := H5.out.facts
                      go_wp2
                      obtain ⟨f1, f2⟩ := H5.out.fin (y := { rsp0 with code := 27 })
                      refine bodyPost_ret (results_cell1 Tryz.results81 _ _ (w.heap.size + 1) _ _ _ _ rfl f1 Tryz.underlying75 rfl (by kernel_rfl)) rfl ?_
                      exact ExM.refuse HH.out.at' f2 (HNR.out) (HEX.out.trans (mCmd_27 HN1.out HN2.out HN3.out HN4.out HCC.out d6))
                    | false =>
                      rw [d6] at f11
                      have HEX2 : Hid (mEx m r = ⟨{ m1 with au := m.au ++ [⟨(m.au.length + 1 : Nat), ro, iss, r⟩] }, iss, 0⟩) := HEX.out.trans (mCmd_ok HN1.out HN2.out HN3.out HN4.out HCC.out d6)
                      clear HEX HN1 HN2 HN3 HN4 HCC HSE
                      go_upto_region 22 with fail
                      clear f11
                      obtain ⟨zs, hz1, hz2', hz3⟩ := HH.out.at'.inn.au
                      obtain ⟨aa, ca, ab, aoff, hva, hla, hma, hra, haa, hca⟩ := RArr.lt hz1
                      obtain ⟨na, hna⟩ : ∃ na, na = zs.length := ⟨_, rfl⟩
                      have hal : m.au.length = na := by rw [← hz3, List.length_map, hna]
                      rw [← hna] at hva hla haa
                      have HNA := hide hna
                      have HAL := hide hal
                      have HZ1 := hide hz1
                      have HZ2 := hide hz2'
                      have HZ3 := hide hz3
                      have hnb : na ≤ 100000 := by have := HH.out.inv.al; omega
                      have HSRC : Hid (∀ V, Below w.heap.size w V → (aa = none → ca = 0) ∧ (0 < na → ∃ b off, aa = some ⟨b, off, none⟩ ∧ ∀ i (h : i < zs.length), rng V b (off + i * 20) 20 = some (zeCs zs[i]))) := fun V hb => ⟨hma.2, fun hp => ⟨ab, aoff, (haa hp).1, fun i hi => (rng_of_block (hb.block _ (haa hp).2.2) _ _).trans (hca i hi)⟩⟩
                      have f9 : W5.cell? ⟨M, 9, none⟩ = some (.slice aa na ca) := by rw [← hva]; exact cells_all HA5.out.top 9
                      have rq5 : rng W5 w.heap.size 0 17 = some (reqA r (.slice la ln lc)) := rng_whole H5.out.rq
                      have zq5 := H5.out.facts.2.2
                      have hzq : w.heap.size < W5.heap.size := by omega
                      have hk1 : ((na : Int) + 1) % 4294967296 = (na : Int) + 1 := by omega
                      clear hz1 hz2' hz3 hva hla hma hra haa hca hna hal
                      go_cut [11] (fun pv W => ∃ F, pv = .pointer (some ⟨F, 0, none⟩) ∧ Hid (W5.heap.size ≤ F) ∧ Hid (W.heap[F]? = some (.cells (entA ⟨((na : Int) + 1), ro, iss, r⟩ (.slice la ln lc)) 67 (0, 0))) ∧ Hid (Below W5.heap.size W5 W))
                      case first =>
                        as_aux_lemma =>
                        refine wp_region_mixT (W5.heap.size) [3, 9] (by kernel_rfl) ?_
                        refine mixT_slots [0, 1, 2, 7, 8] (fuel := 8) rfl (by kernel_rfl) (by kernel_rfl) (fun d _ _ _ _ h => by cases d <;> exact h) ?_
                        simp only [opersAt, List.getElem?_toArray, List.getElem?_cons_zero, List.getElem?_cons_succ]
                        repeat (go_big_quiet_step (fail))
                        refine wpQuiet_nil ?_
                        refine mixT_reads [3, 9] (fuel := 6) rfl (by kernel_rfl) (by decide) (by kernel_rfl) (fun d _ _ _ _ h => by cases d <;> exact h) (ext_drew _ _) ?_
                        simp only [opersAt, List.getElem?_toArray, List.getElem?_cons_zero, List.getElem?_cons_succ]
                        repeat (go_big_quiet_step (fail))
                        refine wpQuiet_nil ?_
                        refine mixT_slots [4, 5, 6, 10] (fuel := 2) rfl (by kernel_rfl) (by kernel_rfl) (fun d _ _ _ _ h => by cases d <;> exact h) ?_
                        simp only [opersAt, List.getElem?_toArray, List.getElem?_cons_zero, List.getElem?_cons_succ]
                        repeat (go_big_quiet_step (fail))
                        refine wpQuiet_nil ?_
                        refine mixT_one (k := 11) (by kernel_rfl) rfl ?_
                        go_wp2
                        have hv2 : Below W5.heap.size W5 (W5.alloc (.cells (entA zeroEnt (.slice none 0 0)) 67)).drew := ((Below.refl _ _).alloc (Nat.le_refl _) _).drew
                        refine ⟨Or.inr (by intros; exact ⟨⟨_, hv2⟩, rfl⟩), ?_⟩
                        refine mixT_one (k := 12) (by kernel_rfl) rfl ?_
                        go_wp2
                        refine ⟨Or.inl (by kernel_rfl), ?_⟩
                        refine mixT_nil (by kernel_rfl) ?_
                        go_wp2
                        go_meet
                        case rel => exact ⟨_, rfl, Nat.le_refl _, heap_alloc_at _ _, ((Below.refl _ _).alloc (Nat.le_refl _) _).drew⟩
                      case rest =>
                      as_aux_lemma =>
                      obtain ⟨F, rfl, HFL, HFB, HB6⟩ := hcut
                      generalize wc = W at *
                      have H6 := hide (H5.out.next (HB6.out.mono (by omega)))
                      have HA6 := hide (HH.out.at'.below H6.out.blw)
                      have f9 : W.cell? ⟨M, 9, none⟩ = some (.slice aa na ca) := (HB6.out.cell (p := ⟨M, 9, none⟩) zM5).trans f9
                      have zM6 := blk_lt HA6.out.top
                      have rF : rng W F 0 20 = some (entA ⟨((na : Int) + 1), ro, iss, r⟩ (.slice la ln lc)) := rng_whole HFB.out
                      have zF := blk_lt HFB.out
                      have hzW := HB6.out.size
                      obtain ⟨v5, hm5⟩ := HM5.out
                      have HN6 := hide (hm5.below HB6.out)
                      have zN6 := blk_lt HN6.out.top
                      have hzw6 := H6.out.blw.size
                      clear HM5 hm5 rq5 zq5
                      go_upto_region 23 with fail
                      go_cut [] (fun V => ∃ y : SV, Hid (V.heap[N]? = some (.cells (mvCs { v5 with a := y } m1.full) 45 (0, 0))) ∧ Hid (OwnR V W.heap.size 67 20 zeCs (sv y) (zs ++ [(⟨((na + 1 : Nat) : Int), ro, iss, r⟩, (la, ln, lc))])) ∧ Hid (But N W V))
                      case first =>
                        as_aux_lemma =>
                        have HB6D : Hid (Below w.heap.size w W.drew) := H6.out.blw.drew
                        have HWN : Hid (∀ V (y : SV), Below W.heap.size W V → OwnR V W.heap.size 67 20 zeCs (sv y) (zs ++ [(⟨((na + 1 : Nat) : Int), ro, iss, r⟩, (la, ln, lc))]) → (V.setCell ⟨N, 9, none⟩ (sv y)).heap[N]? = some (.cells (mvCs { v5 with a := y } m1.full) 45 (0, 0)) ∧ OwnR (V.setCell ⟨N, 9, none⟩ (sv y)) W.heap.size 67 20 zeCs (sv y) (zs ++ [(⟨((na + 1 : Nat) : Int), ro, iss, r⟩, (la, ln, lc))]) ∧ But N W (V.setCell ⟨N, 9, none⟩ (sv y))) := fun V y hb ho => ⟨heap_setM ((hb.block _ zN6).trans HN6.out.top) rfl, ho.mono fun b hb2 => Below.heap_setCell _ _ _ _ (fun e => by have := (ho.block b hb2).1; simp at e; omega), (But.of hb (Nat.le_of_lt zN6)).trans (But.set _ _)⟩
                        refine wp_region_mixT (W.heap.size) [3, 5] (by kernel_rfl) ?_
                        refine mixT_slots [0, 1, 2] (fuel := 7) rfl (by kernel_rfl) (by kernel_rfl) (fun d _ _ _ _ h => by cases d <;> exact h) ?_
                        simp only [opersAt, List.getElem?_toArray, List.getElem?_cons_zero, List.getElem?_cons_succ]
                        repeat (go_big_quiet_step (fail))
                        refine wpQuiet_nil ?_
                        refine mixT_reads [3, 5] (fuel := 5) rfl (by kernel_rfl) (by decide) (by kernel_rfl) (fun d _ _ _ _ h => by cases d <;> exact h) (ext_drew _ _) ?_
                        simp only [opersAt, List.getElem?_toArray, List.getElem?_cons_zero, List.getElem?_cons_succ]
                        repeat (go_big_quiet_step (fail))
                        refine wpQuiet_nil ?_
                        refine mixT_two (k := 4) (k' := 6) (by kernel_rfl) rfl rfl ?_ ?_
                        · go_wp2_with (at_builtin; refine wpList_appN (α := ZE) rfl _ _ 42 rfl W.heap.size 67 zeCs Tryz.underlying42 Tryz.info67_z rfl (by decide) zeCs_size zeCs_one (.slice none 0 0) [] rfl (OwnR.nil _ _ _ _ _) aa na ca rfl zs HNA.out (HSRC.out _ HB6D.out).1 (HSRC.out _ HB6D.out).2 (by simp; omega) (by simp; unfold maxLen; omega) (Nat.le_refl _) ?_; intro v7 w7 hown7 hsame7 hbel7 hat7; rw [List.nil_append] at hown7; obtain ⟨a7, c7, hv7⟩ := hown7.form; rw [← HNA.out] at hv7; subst hv7)
                          have hbw : Below W.heap.size W w7 := (Below.refl _ _).drew.trans hbel7
                          refine ⟨Or.inr (by intros; exact ⟨⟨_, hbw⟩, rfl⟩), ?_⟩
                          have HO7 := hide hown7
                          have HB7 := hide hbw
                          have hz7 := hbw.size
                          clear hown7 hsame7 hbel7 hat7 hbw
                          refine mixT_one (k := 6) (by kernel_rfl) rfl ?_
                          go_wp2
                          have HBA : Hid (Below W.heap.size W (w7.alloc (.cells (entA ⟨((na : Int) + 1), ro, iss, r⟩ (.slice la ln lc)) 67))) := HB7.out.alloc hz7 _
                          refine ⟨Or.inr (by intros; exact ⟨⟨_, HBA.out⟩, rfl⟩), ?_⟩
                          refine mixT_one (k := 7) (by kernel_rfl) rfl ?_
                          go_wp2_with (at_builtin; refine wpList_app1 (α := ZE) rfl _ _ 42 rfl W.heap.size 67 zeCs Tryz.underlying42 Tryz.info67_z rfl (by decide) zeCs_size zeCs_one (.slice a7 na c7) zs rfl (OwnR.below HO7.out ((Below.refl _ _).alloc (Nat.le_refl _) _) (Nat.le_refl _)) _ rfl (⟨((na + 1 : Nat) : Int), ro, iss, r⟩, (la, ln, lc)) (rng_whole (heap_alloc_at _ _)) (by rw [← HNA.out]; omega) (by rw [← HNA.out]; unfold maxLen; omega) (by simp only [World.size_alloc]; omega) ?_; intro v8 w8 hown8 hsame8 hbel8 hat8; obtain ⟨a8, c8, hv8⟩ := hown8.form; rw [List.length_append, ← HNA.out, List.length_singleton] at hv8; subst hv8)
                          have hbw8 : Below W.heap.size W w8 := HBA.out.trans hbel8
                          refine ⟨Or.inl (by kernel_rfl), ?_⟩
                          have HN8 := hide (HN6.out.below hbw8)
                          have d9 := cells_all HN8.out.top 9
                          have e9 : w8.cell? ⟨N, 9, none⟩ = some (sv v5.a) := d9
                          have g9 := HN8.out.fz 9
                          have zN8 := blk_lt HN8.out.top
                          have HW := hide (HWN.out w8 (a8, na + 1, c8) hbw8 hown8)
                          clear hown8 hsame8 hbel8 hat8 hbw8 d9
                          refine mixT_one (k := 8) (by kernel_rfl) rfl ?_
                          go_wp2
                          refine ⟨Or.inl (by kernel_rfl), ?_⟩
                          refine mixT_one (k := 9) (by kernel_rfl) rfl ?_
                          go_wp2
                          refine ⟨Or.inl (by kernel_rfl), ?_⟩
                          refine mixT_nil (by kernel_rfl) ?_
                          go_wp2
                          go_meet
                          case rel => exact ⟨(a8, na + 1, c8), HW.out.1, HW.out.2.1, HW.out.2.2⟩
                        · go_wp2
                          have HBA : Hid (Below W.heap.size W (W.alloc (.cells (entA ⟨((na : Int) + 1), ro, iss, r⟩ (.slice la ln lc)) 67)).drew) := ((Below.refl _ _).alloc (Nat.le_refl _) _).drew
                          have HKA : Hid (rng (W.alloc (.cells (entA ⟨((na : Int) + 1), ro, iss, r⟩ (.slice la ln lc)) 67)).drew W.heap.size 0 20 = some (entA ⟨((na : Int) + 1), ro, iss, r⟩ (.slice la ln lc))) := rng_whole (heap_alloc_at W _)
                          refine ⟨Or.inr (by intros; exact ⟨⟨_, HBA.out⟩, rfl⟩), ?_⟩
                          have HWA : Hid (Below w.heap.size w (W.alloc (.cells (entA ⟨((na : Int) + 1), ro, iss, r⟩ (.slice la ln lc)) 67)).drew) := H6.out.blw.trans (HBA.out.mono hzw6)
                          have hza : (W.alloc (.cells (entA ⟨((na : Int) + 1), ro, iss, r⟩ (.slice la ln lc)) 67)).drew.heap.size = W.heap.size + 1 := World.size_alloc _ _
                          generalize (W.alloc (.cells (entA ⟨((na : Int) + 1), ro, iss, r⟩ (.slice la ln lc)) 67)).drew = WA at *
                          refine mixT_one (k := 4) (by kernel_rfl) rfl ?_
                          go_wp2_with (at_builtin; refine wpList_appN (α := ZE) rfl _ _ 42 rfl WA.heap.size 67 zeCs Tryz.underlying42 Tryz.info67_z rfl (by decide) zeCs_size zeCs_one (.slice none 0 0) [] rfl (OwnR.nil _ _ _ _ _) aa na ca rfl zs HNA.out (HSRC.out _ HWA.out).1 (HSRC.out _ HWA.out).2 (by simp; omega) (by simp; unfold maxLen; omega) (Nat.le_refl _) ?_; intro v7 w7 hown7 hsame7 hbel7 hat7; rw [List.nil_append] at hown7; obtain ⟨a7, c7, hv7⟩ := hown7.form; rw [← HNA.out] at hv7; subst hv7)
                          have hbw : Below W.heap.size W w7 := HBA.out.trans (hbel7.mono (by omega))
                          refine ⟨Or.inr (by intros; exact ⟨⟨_, hbw⟩, rfl⟩), ?_⟩
                          have HO7 := hide (hown7.baseLe (show W.heap.size ≤ WA.heap.size by omega))
                          have HB7 := hide hbw
                          have HK7 : Hid (rng w7 W.heap.size 0 20 = some (entA ⟨((na : Int) + 1), ro, iss, r⟩ (.slice la ln lc))) := (rng_of_block (hbel7.block _ (by omega)) _ _).trans HKA.out
                          have hz7 := hbw.size
                          clear hown7 hsame7 hbel7 hat7 hbw
                          refine mixT_one (k := 7) (by kernel_rfl) rfl ?_
                          go_wp2_with (at_builtin; refine wpList_app1 (α := ZE) rfl _ _ 42 rfl W.heap.size 67 zeCs Tryz.underlying42 Tryz.info67_z rfl (by decide) zeCs_size zeCs_one (.slice a7 na c7) zs rfl HO7.out _ rfl (⟨((na + 1 : Nat) : Int), ro, iss, r⟩, (la, ln, lc)) HK7.out (by rw [← HNA.out]; omega) (by rw [← HNA.out]; unfold maxLen; omega) hz7 ?_; intro v8 w8 hown8 hsame8 hbel8 hat8; obtain ⟨a8, c8, hv8⟩ := hown8.form; rw [List.length_append, ← HNA.out, List.length_singleton] at hv8; subst hv8)
                          have hbw8 : Below W.heap.size W w8 := HB7.out.trans hbel8
                          refine ⟨Or.inl (by kernel_rfl), ?_⟩
                          have HN8 := hide (HN6.out.below hbw8)
                          have d9 := cells_all HN8.out.top 9
                          have e9 : w8.cell? ⟨N, 9, none⟩ = some (sv v5.a) := d9
                          have g9 := HN8.out.fz 9
                          have zN8 := blk_lt HN8.out.top
                          have HW := hide (HWN.out w8 (a8, na + 1, c8) hbw8 hown8)
                          clear hown8 hsame8 hbel8 hat8 hbw8 d9
                          refine mixT_one (k := 8) (by kernel_rfl) rfl ?_
                          go_wp2
                          refine ⟨Or.inl (by kernel_rfl), ?_⟩
                          refine mixT_one (k := 9) (by kernel_rfl) rfl ?_
                          go_wp2
                          refine ⟨Or.inl (by kernel_rfl), ?_⟩
                          refine mixT_nil (by kernel_rfl) ?_
                          go_wp2
                          go_meet
                          case rel => exact ⟨(a8, na + 1, c8), HW.out.1, HW.out.2.1, HW.out.2.2⟩
                      case rest =>
                      as_aux_lemma =>
                      obtain ⟨y, HKN, HOY, HBV⟩ := hcut
                      generalize wc = V at *
                      have rN : rng V N 0 12 = some (mvCs { v5 with a := y } m1.full) := rng_whole HKN.out
                      have zN := blk_lt HKN.out
                      have HKM : Hid (V.heap[M]? = some (.cells (mvCs v m.full) 45 (0, 0))) := (HBV.out.fr M zM6 (by omega)).trans HA6.out.top
                      have hwM : whole V M 12 = true := whole_blk HKM.out
                      have zMV := blk_lt HKM.out
                      have hon : ones (mvCs { v5 with a := y } m1.full) 12 = true := mvCs_ones HN6.out.inn.low.ones
                      have HRS : Hid (V.heap[w.heap.size + 1]? = some (.cells (respCs rsp0) 75 (0, 0))) := (HBV.out.fr _ (blk_lt H6.out.rs) (by omega)).trans H6.out.rs
                      have hwV : Below w.heap.size w V := H6.out.blw.trans (HBV.out.bel.mono (by omega))
                      have HWV := hide hwV
                      clear hwV rF zF f9
                      go_upto_region 25 with fail
                      have hrs2 : (V.setRow M (mvCs { v5 with a := y } m1.full)).heap[w.heap.size + 1]? = some (.cells (respCs rsp0) 75 (0, 0)) := (setRow_other _ _ _ _ (by omega)).trans HRS.out
                      have HTOP := hide (heap_setRow_at (ds := mvCs { v5 with a := y } m1.full) HKM.out)
                      have HFR : Hid (∀ b, b ≠ M → (V.setRow M (mvCs { v5 with a := y } m1.full)).heap[b]? = V.heap[b]?) := fun b hb => setRow_other _ _ _ _ hb
                      have HBL : Hid (Below M V (V.setRow M (mvCs { v5 with a := y } m1.full))) := ⟨rfl, rfl, rfl, by simp, fun k hk => setRow_other _ _ _ _ (by omega)⟩
                      clear rN hwM hon zN zMV
                      generalize V.setRow M (mvCs { v5 with a := y } m1.full) = V2 at *
                      have h1 : whole V2 (w.heap.size + 1) 40 = true := whole_blk hrs2
                      have hz1 := blk_lt hrs2
                      have HFI := hide (heap_setRow_at (ds := respCs { rsp0 with issued := iss }) hrs2)
                      clear hrs2
                      go_wp2
                      refine bodyPost_ret (results_cell1 Tryz.results81 _ _ (w.heap.size + 1) _ _ _ _ rfl HFI.out Tryz.underlying75 rfl (by kernel_rfl)) rfl ?_
                      have hfr : ∀ b, b ≠ M → b ≠ w.heap.size + 1 → (V2.setRow (w.heap.size + 1) (respCs { rsp0 with issued := iss })).heap[b]? = V.heap[b]? := fun b h1 h2 => (setRow_other _ _ _ _ h2).trans (HFR.out b h1)
                      have hbut : But M w (V2.setRow (w.heap.size + 1) (respCs { rsp0 with issued := iss })) := ⟨(HWV.out.mono (by omega)).trans (HBL.out.trans ⟨rfl, rfl, rfl, by simp, fun k hk => setRow_other _ _ _ _ (by omega)⟩), fun b hb hn => (hfr b hn (by omega)).trans (HWV.out.block b hb)⟩
                      have hin : MIn (V2.setRow (w.heap.size + 1) (respCs { rsp0 with issued := iss })) ok v5 m1 := HN6.out.inn.lt.mono (fun b q => by
                        have hbM := HH.out.nok b q.1.1
                        have hbN : b ≠ N := by rcases q.1.2 with h | h <;> omega
                        exact (hfr b hbM (by rcases q.1.2 with h | h <;> omega)).trans (HBV.out.fr b q.2 hbN)) (fun b q => q.1.1)
                      have hrw : ∀ {v' : Value} {l : List Int}, U32sAt w ok v' l → U32sAt (V2.setRow (w.heap.size + 1) (respCs { rsp0 with issued := iss })) ok v' l := fun h => RArr.mono h.lt (fun b q => hbut.fr b q.2 (HH.out.nok b q.1)) (fun b q => q.1)
                      refine ⟨⟨{ v5 with a := y }, ?_⟩, hbut, _, rfl, fun k => absurd k HNR.out, fun _ => ?_⟩
                      · rw [HEX2.out]
                        refine ⟨(setRow_other _ _ _ _ (by omega)).trans HTOP.out, hin.low, hin.us, ⟨zs ++ [(⟨((na + 1 : Nat) : Int), ro, iss, r⟩, (la, ln, lc))], ?_, ?_, ?_⟩, hin.fs⟩
                        · have := HOY.out.rows zeCs_size (by decide) (by rw [List.length_append, ← HNA.out]; simp; omega)
                          exact this.lt.mono (fun b q => hfr b (by omega) (by omega)) (fun b q => HH.out.new b (by omega))
                        · intro z hz
                          rcases List.mem_append.1 hz with hz | hz
                          · exact hrw (HZ2.out z hz)
                          · simp only [List.mem_singleton] at hz
                            subst hz
                            exact hrw HH.out.vis
                        · rw [List.map_append, HZ3.out, HAL.out]
                          rfl
                      · rw [HEX2.out]
                        rfl


  | false =>
    cases c2 : isRdg r.kind with
    | true =>
      as_aux_lemma =>
      have hz2 := H0.out.z
      have HU := hide (mUser_calls W0 M ok v m r.user (HH.out.at'.below H0.out.blw))
      have HCR : Hid ((! isCmd r.kind && ! isRdg r.kind) = false) := by show _ = _; rw [c1, c2]; rfl
      rcases hU : mUser m r.user with ⟨ro, kn', ac⟩
      rw [hU] at HU
      have HUS := hide hU
      clear hU
      cases kn' with
      | false =>
        have HX : Hid (mEx m r = ⟨m, 0, 3⟩) := mEx_u3 HCR.out HUS.out
        have HNR : Hid (¬ mReads m r) := mReads_not HUS.out (Or.inr (Or.inl rfl))
        clear HCR HUS
        go_upto_region 5 with (first | (go_at_call 26; refine (isCmd_calls _ _).mono ?_; rintro e w1 ⟨rfl, hw1⟩; obtain rfl := hw1.symm; rw [c1]) | (go_at_call 39; refine (isRdg_calls _ _).mono ?_; rintro e w1 ⟨rfl, hw1⟩; obtain rfl := hw1.symm; rw [c2]) | (go_at_call 144; refine HU.out.mono ?_; rintro e W1 ⟨rfl, hb1⟩; unfold usrAns; have H1 := hide (H0.out.next (hb1.mono hz2)); have p0 := H1.out.facts.2.1 0; simp only [reqA, List.getElem?_toArray, List.getElem?_cons_zero] at p0; have zp := H1.out.facts.2.2; clear q0 q1) | (go_at_call 40; refine (may_calls _ okg ro r.kind (HH.out.gr.below H1.out.blw) HH.out.req.kind).mono ?_; rintro e w9 ⟨rfl, hw9⟩; obtain rfl := hw9.symm; rw [tm]))
        obtain ⟨h1, -, -⟩ := H1.out.facts
        go_wp2
        obtain ⟨f1, f2⟩ := H1.out.fin (y := { rsp0 with code := 3 })
        refine bodyPost_ret (results_cell1 Tryz.results81 _ _ (w.heap.size + 1) _ _ _ _ rfl f1 Tryz.underlying75 rfl (by kernel_rfl)) rfl ?_
        exact ExM.refuse HH.out.at' f2 (HNR.out) (HX.out)
      | true =>
        cases ac with
        | false =>
          have HX : Hid (mEx m r = ⟨m, 0, 3⟩) := mEx_u3' HCR.out HUS.out
          have HNR : Hid (¬ mReads m r) := mReads_not HUS.out (Or.inr (Or.inr (Or.inl rfl)))
          clear HCR HUS
          go_upto_region 5 with (first | (go_at_call 26; refine (isCmd_calls _ _).mono ?_; rintro e w1 ⟨rfl, hw1⟩; obtain rfl := hw1.symm; rw [c1]) | (go_at_call 39; refine (isRdg_calls _ _).mono ?_; rintro e w1 ⟨rfl, hw1⟩; obtain rfl := hw1.symm; rw [c2]) | (go_at_call 144; refine HU.out.mono ?_; rintro e W1 ⟨rfl, hb1⟩; unfold usrAns; have H1 := hide (H0.out.next (hb1.mono hz2)); have p0 := H1.out.facts.2.1 0; simp only [reqA, List.getElem?_toArray, List.getElem?_cons_zero] at p0; have zp := H1.out.facts.2.2; clear q0 q1) | (go_at_call 40; refine (may_calls _ okg ro r.kind (HH.out.gr.below H1.out.blw) HH.out.req.kind).mono ?_; rintro e w9 ⟨rfl, hw9⟩; obtain rfl := hw9.symm; rw [tm]))
          obtain ⟨h1, -, -⟩ := H1.out.facts
          go_wp2
          obtain ⟨f1, f2⟩ := H1.out.fin (y := { rsp0 with code := 3 })
          refine bodyPost_ret (results_cell1 Tryz.results81 _ _ (w.heap.size + 1) _ _ _ _ rfl f1 Tryz.underlying75 rfl (by kernel_rfl)) rfl ?_
          exact ExM.refuse HH.out.at' f2 (HNR.out) (HX.out)
        | true =>
          cases tm : mayP ro r.kind with
          | false =>
            have HX : Hid (mEx m r = ⟨m, 0, 4⟩) := mEx_u4 HCR.out HUS.out tm
            have HNR : Hid (¬ mReads m r) := mReads_not HUS.out (Or.inr (Or.inr (Or.inr tm)))
            clear HCR HUS
            go_upto_region 7 with (first | (go_at_call 26; refine (isCmd_calls _ _).mono ?_; rintro e w1 ⟨rfl, hw1⟩; obtain rfl := hw1.symm; rw [c1]) | (go_at_call 39; refine (isRdg_calls _ _).mono ?_; rintro e w1 ⟨rfl, hw1⟩; obtain rfl := hw1.symm; rw [c2]) | (go_at_call 144; refine HU.out.mono ?_; rintro e W1 ⟨rfl, hb1⟩; unfold usrAns; have H1 := hide (H0.out.next (hb1.mono hz2)); have p0 := H1.out.facts.2.1 0; simp only [reqA, List.getElem?_toArray, List.getElem?_cons_zero] at p0; have zp := H1.out.facts.2.2; clear q0 q1) | (go_at_call 40; refine (may_calls _ okg ro r.kind (HH.out.gr.below H1.out.blw) HH.out.req.kind).mono ?_; rintro e w9 ⟨rfl, hw9⟩; obtain rfl := hw9.symm; rw [tm]))
            obtain ⟨h1, -, -⟩ := H1.out.facts
            go_wp2
            obtain ⟨f1, f2⟩ := H1.out.fin (y := { rsp0 with code := 4 })
            refine bodyPost_ret (results_cell1 Tryz.results81 _ _ (w.heap.size + 1) _ _ _ _ rfl f1 Tryz.underlying75 rfl (by kernel_rfl)) rfl ?_
            exact ExM.refuse HH.out.at' f2 (HNR.out) (HX.out)
          | true =>
            have HEX : Hid (mEx m r = ⟨m, 0, 0⟩) := mEx_rd c2 HUS.out tm
            have HMR : Hid (mReads m r) := ⟨c2, by rw [HUS.out], by rw [HUS.out], by rw [HUS.out]; exact tm⟩
            clear HCR HUS
            go_upto_region 9 with (first | (go_at_call 26; refine (isCmd_calls _ _).mono ?_; rintro e w1 ⟨rfl, hw1⟩; obtain rfl := hw1.symm; rw [c1]) | (go_at_call 39; refine (isRdg_calls _ _).mono ?_; rintro e w1 ⟨rfl, hw1⟩; obtain rfl := hw1.symm; rw [c2]) | (go_at_call 144; refine HU.out.mono ?_; rintro e W1 ⟨rfl, hb1⟩; unfold usrAns; have H1 := hide (H0.out.next (hb1.mono hz2)); have p0 := H1.out.facts.2.1 0; simp only [reqA, List.getElem?_toArray, List.getElem?_cons_zero] at p0; have zp := H1.out.facts.2.2; clear q0 q1) | (go_at_call 40; refine (may_calls _ okg ro r.kind (HH.out.gr.below H1.out.blw) HH.out.req.kind).mono ?_; rintro e w9 ⟨rfl, hw9⟩; obtain rfl := hw9.symm; rw [tm]))
            have HM1 := hide (HH.out.at'.below H1.out.blw)
            have HRI : Hid (RdI rn kn ft W1 M (fun b => ok b ∧ b < w.heap.size) v m r) := ⟨⟨HM1.out.top, HH.out.at'.inn.lt.below H1.out.blw⟩, HH.out.req, HH.out.inv.small, HH.out.inv.times, HH.out.inv.su, (by have := HH.out.inv.fl; omega), (by have := HH.out.inv.al; omega), HH.out.inv.cl, HH.out.inv.rl, HH.out.inv.file, HH.out.inv.ents, HH.out.inv.rep r.id r.ref HH.out.req.id HH.out.req.ref, HH.out.nm.below H1.out.blw⟩
            have HRD := hide (mrd_calls rn kn ft W1 M _ v m r lv HRI.out c2)
            have rq1 : rng W1 w.heap.size 0 17 = some (reqA r lv) := rng_whole H1.out.rq
            have zq1 := H1.out.facts.2.2
            have zz1 := H1.out.z
            clear hb1 HU p0 H0
            go_wp2_with (go_at_call 145; refine HRD.out.mono ?_; rintro e W2 ⟨⟨x, rfl, hx⟩, hb2⟩; have H2 := hide (H1.out.next (hb2.mono zz1)); have h1 := H2.out.facts.1; have HX := hide hx; have HB2 := hide hb2; clear hx hb2)
            obtain ⟨f1, f2⟩ := H2.out.fin (y := x)
            refine bodyPost_ret (results_cell1 Tryz.results81 _ _ (w.heap.size + 1) _ _ _ _ rfl f1 Tryz.underlying75 rfl (by kernel_rfl)) rfl ?_
            have hex : mEx m r = ⟨m, 0, 0⟩ := HEX.out
            refine ⟨⟨v, ?_⟩, But.of f2 (Nat.le_of_lt (blk_lt HH.out.at'.top)), x, rfl, fun _ => ?_, fun k => absurd HMR.out k⟩
            · rw [hex]; exact HH.out.at'.below f2
            · exact rdM_keep (by omega) (fun b hb hl => setRow_other _ _ _ _ (by omega)) (fun b hb hl => setRow_other _ _ _ _ (by omega)) HX.out
    | false =>
      as_aux_lemma =>
      have HNR : Hid (¬ mReads m r) := fun k => by have := k.1; rw [c2] at this; simp at this
      go_upto_region 2 with (first | (go_at_call 26; refine (isCmd_calls _ _).mono ?_; rintro e w1 ⟨rfl, hw1⟩; obtain rfl := hw1.symm; rw [c1]) | (go_at_call 39; refine (isRdg_calls _ _).mono ?_; rintro e w1 ⟨rfl, hw1⟩; obtain rfl := hw1.symm; rw [c2]))
      obtain ⟨h1, -, -⟩ := H0.out.facts
      go_wp2
      obtain ⟨f1, f2⟩ := H0.out.fin (y := { rsp0 with code := 2 })
      refine bodyPost_ret (results_cell1 Tryz.results81 _ _ (w.heap.size + 1) _ _ _ _ rfl f1 Tryz.underlying75 rfl (by kernel_rfl)) rfl ?_
      exact ExM.refuse HH.out.at' f2 (HNR.out) (mEx_no c1 c2)
end Go.Proofs.Qxb6500666aGreatDoor
