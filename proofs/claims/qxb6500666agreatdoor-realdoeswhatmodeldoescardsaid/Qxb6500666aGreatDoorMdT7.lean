/- The model's read: kind 28. (Made by tools/mk_mrd.py.) -/
import Derived.Test.Qxb6500666aGreatDoorMdT6
namespace Go.Proofs.Qxb6500666aGreatDoor
open Go.RowKit
theorem mDif2_len (k : Row) (x y : Option Row) : (mDif2 k x y).length ≤ 1 := by
  unfold mDif2
  cases x <;> cases y <;> simp
  split <;> simp
theorem mDiffs_len (A B : List Row) : (mDiffs A B).length ≤ A.length + B.length := by
  have h1 := flat_one (f := mDif A B) (fun k => mDif2_len k _ _) (ordK (mKeys A B))
  rw [ordK_len] at h1
  have h2 : (mKeys A B).length ≤ A.length + B.length := by
    unfold mKeys
    rw [List.length_append]
    exact Nat.add_le_add_left (List.length_filter_le _ _) _
  exact Nat.le_trans h1 h2
theorem mFrom_mem {m : Mod} {id : Int} {f : File} (h : mFrom m id = some f) (hn : id ≠ 0) : f ∈ m.fs := by
  unfold mFrom at h
  rw [if_neg hn] at h
  exact mIss_mem h
attribute [local go_sem] ext_const Ext.cell Ext.frozen Ext.rng Ext.whole
attribute [local go_sem ↓] exec_ldRsp exec_stRsp exec_bdRsp exec_stStat exec_stHd exec_ldFile exec_stFile exec_bdHd7 exec_bdFile1 exec_ldEnt exec_stEnt exec_ldSmS exec_ldRes exec_stRes exec_ldSmp exec_stSmp exec_ldRow exec_stRow exec_bsRow exec_bdRow2 exec_bdHeld exec_bsHeld
attribute [local go_sem] run_ldRsp run_stRsp run_bdRsp0 run_bdRsp1 respCs_ones run_ldFile run_stFile run_bdHd7 run_bdFile1 fileCs_size fileCs_ones fileCs_all file_ones zfCs_size run_ldEnt run_ldSmS run_ldRes run_stRes resCs_size resCs_ones run_ldSmp run_stSmp smpCs_size smpCs_ones run_ldRow run_stRow run_bsRow run_bdRow2 run_bdHeld run_bsHeld rowCs_size rowCs_ones rowCs_all whole_alloc_lt whole_alloc_at whole_drew setRow_alloc_at setRow_alloc_lt setRow_drew rng_alloc_lt rng_alloc_at rng_drew rng_drewN rng_setCell_other whole_setCell_other

set_option maxRecDepth 100000 in
set_option maxHeartbeats 8000000 in
theorem mrd28_calls (rn kn ft : Nat → ByteArray) (w : World) (M : Nat) (ok : Nat → Prop) (v : MV) (m : Mod) (r : Req) (lv : Value) (h : RdI rn kn ft w M ok v m r) (hk : r.kind = 28) :
    Calls Tryz.prog 145 #[.pointer (some ⟨M, 0, none⟩), .agg (reqA r lv)] w fun e w' => RdPost w w' e (rdM28 w w' m r) := by
  have HH := hide h
  have zM := blk_lt h.at'.top
  clear h
  go_enter Tryz.func145, Tryz.ntmps145
  go_upto_region 2 with fail
  have H0 := hide (RB.start w (reqA r lv))
  change Code.wp _ _ _ _ (((w.alloc (.cells (reqA r lv) 53)).alloc (.cells (respCs rsp0) 75)).alloc (.cells (respCs rsp0) 75))
  generalize (((w.alloc (.cells (reqA r lv) 53)).alloc (.cells (respCs rsp0) 75)).alloc (.cells (respCs rsp0) 75)) = W0 at *
  obtain ⟨-, -, hq, -, -, hz⟩ := H0.out.facts
  have q0 := hq 0
  have q3 := hq 3
  have q4 := hq 4
  simp only [reqA, List.getElem?_toArray, List.getElem?_cons_zero, List.getElem?_cons_succ] at q0 q3 q4
  rw [hk] at q0
  have HM := hide (HH.out.at'.below H0.out.blw)
  have zM0 : M < W0.heap.size := by omega
  clear hq
  have HMR : Hid (MAt W0 M (fun b => ok b ∧ b < w.heap.size) v m) := ⟨HM.out.top, HH.out.at'.inn.lt.below H0.out.blw⟩
  obtain ⟨okr, hokr⟩ : ∃ okr : Nat → Prop, okr = fun b => ok b ∧ b < w.heap.size := ⟨_, rfl⟩
  rw [← hokr] at HMR
  have HOKR : Hid (∀ b, okr b → b < w.heap.size) := fun b hb => by rw [hokr] at hb; exact hb.2
  clear hokr
  have HUL := hide (mIss_calls W0 M okr v m r.ref HMR.out HH.out.req.ref (by have := HH.out.fl; omega))
  cases hl : mIss m r.ref with
  | none =>
    have HE : Hid (∀ w', rdM28 w w' m r = .error 23) := fun w' => by unfold rdM28; rw [hl]
    rw [hl] at HUL
    go_upto_region 36 with (go_at_call 83; refine HUL.out.mono ?_; rintro e W1 ⟨hp, hb⟩; have hp : e = .returned (.tuple #[.agg zFile, .bool false]) := hp; subst hp)
    have H1 := hide (H0.out.next (hb.alloc hb.size (.cells zFile 59)))
    generalize W1.alloc (.cells zFile 59) = W2 at *
    obtain ⟨h1, -⟩ := H1.out.facts
    go_wp2
    obtain ⟨f1, f2⟩ := H1.out.fin (y := { rsp0 with code := 23 })
    refine bodyPost_ret (results_cell1 Tryz.results145 _ _ (w.heap.size + 1) _ _ _ _ rfl f1 Tryz.underlying75 rfl (by kernel_rfl)) rfl ?_
    rw [HE.out]
    exact ⟨rfl, f2⟩
  | some fl =>
    have hcl := HH.out.cl fl (mIss_mem hl)
    have HLL := hide hl
    rw [hl] at HUL
    go_upto_region 37 with (go_at_call 83; refine HUL.out.mono ?_; rintro e W1 ⟨⟨la, ln, lc, rfl, hch⟩, hb⟩)
    have hn : ln = fl.changes.length := by obtain ⟨_, _, _, _, e, -⟩ := hch; injection e
    have HLN := hide hn
    have hln : ln ≤ 65536 := by omega
    have hb2 : Below W1.heap.size W1 (W1.alloc (.cells (fileCs fl.kind fl.seq fl.issued fl.base la ln lc) 59)) := (Below.refl _ _).alloc (Nat.le_refl _) _
    have hkf : (W1.alloc (.cells (fileCs fl.kind fl.seq fl.issued fl.base la ln lc) 59)).heap[W1.heap.size]? = some (.cells (fileCs fl.kind fl.seq fl.issued fl.base la ln lc) 59 (0, 0)) := heap_alloc_at _ _
    have hge : W0.heap.size ≤ W1.heap.size := hb.size
    generalize W1.alloc (.cells (fileCs fl.kind fl.seq fl.issued fl.base la ln lc) 59) = W2 at *
    have HB2 : Hid (Below W0.heap.size W0 W2) := hb.trans (hb2.mono hge)
    have HCL2 := hide (RArr.below hch hb2)
    have HKL2 := hide hkf
    generalize W1.heap.size = DL at *
    clear hch hb hb2 hkf HUL hl hn hcl
    go_upto_region 38 with fail
    have hb3 : Below W2.heap.size W2 (W2.alloc (.cells (fileCs 67 0 0 0 none 0 0) 59)) := (Below.refl _ _).alloc (Nat.le_refl _) _
    have hkf : (W2.alloc (.cells (fileCs 67 0 0 0 none 0 0) 59)).heap[W2.heap.size]? = some (.cells (fileCs 67 0 0 0 none 0 0) 59 (0, 0)) := heap_alloc_at _ _
    generalize W2.alloc (.cells (fileCs 67 0 0 0 none 0 0) 59) = W3 at *
    have HB3 : Hid (Below W0.heap.size W0 W3) := HB2.out.trans (hb3.mono HB2.out.size)
    have HCL3 := hide (RArr.below HCL2.out hb3)
    have HKL3 := hide ((hb3.block _ (blk_lt HKL2.out)).trans HKL2.out)
    have HKE3 := hide hkf
    have hneD : DL < W2.heap.size := blk_lt HKL2.out
    have hW02 := HB2.out.size
    generalize W2.heap.size = DE at *
    have H3 := hide (H0.out.next HB3.out)
    clear hb3 hkf HCL2 HKL2 HB2 q3 q4
    have q3 := H3.out.facts.2.2.1 3
    simp only [reqA, List.getElem?_toArray, List.getElem?_cons_zero, List.getElem?_cons_succ] at q3
    have zq3 := H3.out.facts.2.2.2.2.2
    cases t0 : (r.id == 0) with
    | true =>
      as_aux_lemma =>
      have h0 : r.id = 0 := by simpa using t0
      obtain ⟨fe, hfe⟩ : ∃ fe : File, fe = ⟨67, 0, 0, 0, []⟩ := ⟨_, rfl⟩
      have HFE : Hid (mFrom m r.id = some fe) := by show _ = _; unfold mFrom; rw [if_pos h0, hfe]
      obtain ⟨ea, en, ec, hee⟩ : ∃ (ea : Option Addr) (en ec : Nat), (ea = none ∧ en = 0 ∧ ec = 0) := ⟨none, 0, 0, rfl, rfl, rfl⟩
      have HKE : Hid (W3.heap[DE]? = some (.cells (fileCs fe.kind fe.seq fe.issued fe.base ea en ec) 59 (0, 0))) := by obtain ⟨rfl, rfl, rfl⟩ := hee; subst hfe; exact HKE3
      have HCE : Hid (ChangesAt W3 okr (.slice ea en ec) fe.changes) := by obtain ⟨rfl, rfl, rfl⟩ := hee; subst hfe; exact RArr.nil _ _ _ _
      have HEN : Hid (en = fe.changes.length) := by obtain ⟨rfl, rfl, rfl⟩ := hee; subst hfe; rfl
      have hen : en ≤ 65536 := by obtain ⟨rfl, rfl, rfl⟩ := hee; omega
      clear hfe hee HKE3
      go_upto_region 42 with fail
      have HKL := HKL3
      have HCL := HCL3
      have H4 := H3
      clear HKL3 HCL3 H3 HB3 h0
      generalize W3 = V at *
      have HE : Hid (∀ w', rdM28 w w' m r = if (fe.kind != 67 || fl.kind != 67) = true then .error 26 else if r.ref ≤ r.id then .error 16 else .ok (fun x => ∃ a n c a2 n2 c2, x = { rsp0 with diffs := (a, n, c), bytes := (a2, n2, c2) } ∧ RArr w' (w.heap.size ≤ ·) 5 diffCs (.slice a n c) (mDiffs (fe.changes.map (·.row)) (fl.changes.map (·.row))) ∧ BytesAt w' (w.heap.size ≤ ·) (.slice a2 n2 c2) (repText r.id r.ref (mDiffs (fe.changes.map (·.row)) (fl.changes.map (·.row)))))) := fun w' => by unfold rdM28; rw [HLL.out, HFE.out]
      have HRP := hide (HH.out.rep fe fl HFE.out HLL.out)
      have ql3 := H4.out.facts.2.2.1 3
      have ql4 := H4.out.facts.2.2.1 4
      simp only [reqA, List.getElem?_toArray, List.getElem?_cons_zero, List.getElem?_cons_succ] at ql3 ql4
      have k0 : V.cell? ⟨DE, 0, none⟩ = some (.int .u8 fe.kind) := cells_all HKE.out 0
      have l0 : V.cell? ⟨DL, 0, none⟩ = some (.int .u8 fl.kind) := cells_all HKL.out 0
      have zE := blk_lt HKE.out
      have zL := blk_lt HKL.out
      have zq := H4.out.facts.2.2.2.2.2
      cases t1 : (fe.kind == 67) with
      | false =>
        have HE2 : Hid (∀ w', rdM28 w w' m r = .error 26) := fun w' => (HE.out w').trans (if_pos (by simp [bne, t1]))
        have e1 : ¬ fe.kind = 67 := by simpa using t1
        go_upto_region 43 with fail
        obtain ⟨h1, -⟩ := H4.out.facts
        go_wp2
        obtain ⟨f1, f2⟩ := H4.out.fin (y := { rsp0 with code := 26 })
        refine bodyPost_ret (results_cell1 Tryz.results145 _ _ (w.heap.size + 1) _ _ _ _ rfl f1 Tryz.underlying75 rfl (by kernel_rfl)) rfl ?_
        rw [HE2.out]
        exact ⟨rfl, f2⟩
      | true =>
        cases t2 : (fl.kind == 67) with
        | false =>
          have HE2 : Hid (∀ w', rdM28 w w' m r = .error 26) := fun w' => (HE.out w').trans (if_pos (by simp [bne, t2]))
          have e1 : fe.kind = 67 := by simpa using t1
          have e2 : ¬ fl.kind = 67 := by simpa using t2
          go_upto_region 43 with fail
          obtain ⟨h1, -⟩ := H4.out.facts
          go_wp2
          obtain ⟨f1, f2⟩ := H4.out.fin (y := { rsp0 with code := 26 })
          refine bodyPost_ret (results_cell1 Tryz.results145 _ _ (w.heap.size + 1) _ _ _ _ rfl f1 Tryz.underlying75 rfl (by kernel_rfl)) rfl ?_
          rw [HE2.out]
          exact ⟨rfl, f2⟩
        | true =>
          cases t3 : decide (r.ref ≤ r.id) with
          | true =>
            have HE2 : Hid (∀ w', rdM28 w w' m r = .error 16) := fun w' => (HE.out w').trans ((if_neg (by simp [bne, t1, t2])).trans (if_pos (by simpa using t3)))
            have e1 : fe.kind = 67 := by simpa using t1
            have e2 : fl.kind = 67 := by simpa using t2
            go_upto_region 45 with fail
            obtain ⟨h1, -⟩ := H4.out.facts
            go_wp2
            obtain ⟨f1, f2⟩ := H4.out.fin (y := { rsp0 with code := 16 })
            refine bodyPost_ret (results_cell1 Tryz.results145 _ _ (w.heap.size + 1) _ _ _ _ rfl f1 Tryz.underlying75 rfl (by kernel_rfl)) rfl ?_
            rw [HE2.out]
            exact ⟨rfl, f2⟩
          | false =>
            have hlt : r.id < r.ref := by simpa using t3
            have HE2 : Hid (∀ w', rdM28 w w' m r = .ok (fun x => ∃ a n c a2 n2 c2, x = { rsp0 with diffs := (a, n, c), bytes := (a2, n2, c2) } ∧ RArr w' (w.heap.size ≤ ·) 5 diffCs (.slice a n c) (mDiffs (fe.changes.map (·.row)) (fl.changes.map (·.row))) ∧ BytesAt w' (w.heap.size ≤ ·) (.slice a2 n2 c2) (repText r.id r.ref (mDiffs (fe.changes.map (·.row)) (fl.changes.map (·.row)))))) := fun w' => (HE.out w').trans ((if_neg (by simp [bne, t1, t2])).trans (if_neg (by simpa using hlt)))
            have HRP2 := hide (HRP.out (by simpa using t1) (by simpa using t2) hlt)
            have r21 : rng V DE 0 5 = some (fileCs fe.kind fe.seq fe.issued fe.base ea en ec) := rng_whole HKE.out
            have r19 : rng V DL 0 5 = some (fileCs fl.kind fl.seq fl.issued fl.base la ln lc) := rng_whole HKL.out
            have HR1 : Hid (∀ X, Below V.heap.size V X → Calls Tryz.prog 185 #[.agg (fileCs fe.kind fe.seq fe.issued fe.base ea en ec)] X fun e w' => ∃ v, e = .returned v ∧ OwnR w' X.heap.size 109 13 rowCs v (fe.changes.map (·.row)) ∧ Below X.heap.size X w') := fun X hX => mrows_calls X okr _ _ _ _ ea en ec fe.changes (RArr.below HCE.out hX) (by omega)
            have HR2 : Hid (∀ X, Below V.heap.size V X → Calls Tryz.prog 185 #[.agg (fileCs fl.kind fl.seq fl.issued fl.base la ln lc)] X fun e w' => ∃ v, e = .returned v ∧ OwnR w' X.heap.size 109 13 rowCs v (fl.changes.map (·.row)) ∧ Below X.heap.size X w') := fun X hX => mrows_calls X okr _ _ _ _ la ln lc fl.changes (RArr.below HCL.out hX) (by omega)
            have HLA : Hid ((fe.changes.map (·.row)).length = en) := by show _ = _; rw [List.length_map, HEN.out]
            have HLB : Hid ((fl.changes.map (·.row)).length = ln) := by show _ = _; rw [List.length_map, HLN.out]
            have HDL := hide (mDiffs_len (fe.changes.map (·.row)) (fl.changes.map (·.row)))
            generalize fe.changes.map (·.row) = RA at *
            generalize fl.changes.map (·.row) = RBb at *
            rw [HLA.out, HLB.out] at HDL
            have e1 : fe.kind = 67 := by simpa using t1
            have e2 : fl.kind = 67 := by simpa using t2
            go_upto_region 46 with fail
            clear e1 e2 t1 t2
            clear HKE HKL k0 l0 ql3 ql4
            refine wp_region_mixT (V.heap.size) [0, 2] (by kernel_rfl) ?_
            refine mixT_reads [0, 2] (fuel := 5) rfl (by kernel_rfl) (by decide) (by kernel_rfl) (fun d _ _ _ _ h => by cases d <;> exact h) (ext_drew _ _) ?_
            simp only [opersAt, List.getElem?_toArray, List.getElem?_cons_zero, List.getElem?_cons_succ]
            repeat (go_big_quiet_step (fail))
            refine wpQuiet_nil ?_
            refine mixT_one (k := 1) (by kernel_rfl) rfl ?_
            go_wp2_with (go_at_call 185; refine (HR1.out _ (Below.refl _ _).drew).mono ?_; rintro e w2 ⟨v2, rfl, ho2, hb2⟩)
            have hv2 : Below V.heap.size V w2 := (Below.refl _ _).drew.trans hb2
            refine ⟨Or.inr (by intros; exact ⟨⟨_, hv2⟩, rfl⟩), ?_⟩
            refine mixT_one (k := 3) (by kernel_rfl) rfl ?_
            go_wp2_with (go_at_call 185; refine (HR2.out _ hv2).mono ?_; rintro e w3 ⟨v3, rfl, ho3, hb3⟩)
            have hv3 : Below V.heap.size V w3 := hv2.trans (hb3.mono hv2.size)
            refine ⟨Or.inr (by intros; exact ⟨⟨_, hv3⟩, rfl⟩), ?_⟩
            have hr2 := (ho2.below hb3 (Nat.le_refl _)).rows rowCs_size (by decide) (by rw [HLA.out]; omega)
            have hr3 := ho3.rows rowCs_size (by decide) (by rw [HLB.out]; omega)
            obtain ⟨a2, c2, hf2⟩ := ho2.form
            obtain ⟨a3, c3, hf3⟩ := ho3.form
            subst hf2 hf3
            have HDC := hide (mDiffs_calls w3 _ _ _ _ _ _ _ _ RA RBb hr2 hr3 (by rw [HLA.out]; omega) (by rw [HLB.out]; omega))
            refine mixT_one (k := 4) (by kernel_rfl) rfl ?_
            go_wp2_with (go_at_call 184; refine HDC.out.mono ?_; rintro e w4 ⟨v4, rfl, ho4, hb4⟩; obtain ⟨da, dn, dc, rfl⟩ := ho4.form3)
            have hv4 : Below V.heap.size V w4 := hv3.trans (hb4.mono hv3.size)
            refine ⟨Or.inr (by intros; exact ⟨⟨_, hv4⟩, rfl⟩), ?_⟩
            have H5 := hide (H4.out.next hv4)
            have c38 := H5.out.facts.2.2.2.1 38
            simp only [respCs, List.getElem?_toArray, List.getElem?_cons_zero, List.getElem?_cons_succ] at c38
            have g38 := H5.out.facts.2.2.2.2.1 38
            have c38' : w4.cell? ⟨w.heap.size + 1 + 1, 38, none⟩ = some (.slice none 0 0) := c38
            have g38' : w4.frozen? ⟨w.heap.size + 1 + 1, 38, none⟩ = false := g38
            have hz5 := H5.out.facts.2.2.2.2.2
            have hz5' : w.heap.size + 1 + 1 < w4.heap.size := hz5
            have HO4 := hide ho4
            have hge4 : w.heap.size + 3 ≤ w3.heap.size := by have := hv3.size; omega
            clear ho4 hb4 hr2 hr3 ho2 ho3 hb3 hb2 HDC
            refine mixT_slots [5] (fuel := 1) rfl (by kernel_rfl) (by kernel_rfl) (fun d _ _ _ _ h => by cases d <;> exact h) ?_
            simp only [opersAt, List.getElem?_toArray, List.getElem?_cons_zero, List.getElem?_cons_succ]
            repeat (go_big_quiet_step (fail))
            refine wpQuiet_nil ?_
            refine mixT_one (k := 6) (by kernel_rfl) rfl ?_
            go_wp2
            refine ⟨Or.inl (by kernel_rfl), ?_⟩
            refine mixT_nil (by kernel_rfl) ?_
            have H6 := hide (H5.out.cell (j := 38) (v := .slice da dn dc) { rsp0 with diffs := (da, dn, dc) } rfl)
            have HO6 : Hid (OwnR (w4.setCell ⟨w.heap.size + 2, 38, none⟩ (.slice da dn dc)) w3.heap.size 166 5 diffCs (.slice da dn dc) (mDiffs RA RBb)) := HO4.out.mono fun b hb => Below.heap_setCell _ _ _ _ (fun e => by have := (HO4.out.block b hb).1; simp at e; omega)
            rw [show w.heap.size + 1 + 1 = w.heap.size + 2 from rfl]
            generalize World.setCell _ _ _ = W6 at *
            have hdn : dn = (mDiffs RA RBb).length := by obtain ⟨_, _, e⟩ := HO4.out.form; injection e
            clear c38 g38 c38' g38' hz5'
            have HRR := hide (mrenderReport_calls W6 _ r.id r.ref da dn dc (mDiffs RA RBb) (HO6.out.rows diffCs_size (by decide) (by have := HDL.out; omega)) HRP2.out.1 HH.out.req.id HH.out.req.ref HRP2.out.2 (by rw [hdn]; have := HDL.out; omega))
            have HDN := hide hdn
            have hdl : (mDiffs RA RBb).length ≤ 200000 := by have := HDL.out; omega
            have HDL2 := hide hdl
            clear hdn hdl
            generalize repText r.id r.ref (mDiffs RA RBb) = rt at *
            generalize mDiffs RA RBb = DD at *
            obtain ⟨-, -, hq6, hp6, -, -⟩ := H6.out.facts
            have q3 := hq6 3
            have q4 := hq6 4
            have c38 := hp6 38
            simp only [reqA, respCs, List.getElem?_toArray, List.getElem?_cons_zero, List.getElem?_cons_succ] at q3 q4 c38
            have c38' : W6.cell? ⟨w.heap.size + 2, 38, none⟩ = some (.slice da dn dc) := c38
            clear hq6 hp6 c38
            go_upto_region 66 with (go_at_call 166; refine HRR.out.mono ?_; rintro e W7 ⟨vt, rfl, hby⟩; obtain ⟨ta, tn, tc, rfl, hts⟩ := Src.of hby.at'; have HBY := hide hby; have H7 := hide (H6.out.next hby.bel); have c37 := H7.out.facts.2.2.2.1 37; simp only [respCs, List.getElem?_toArray, List.getElem?_cons_zero, List.getElem?_cons_succ] at c37; have g37 := H7.out.facts.2.2.2.2.1 37; clear hts hby)
            have hz6 := H6.out.facts.2.2.2.2.2
            have HBT : Hid (BytesAt (W7.setCell ⟨w.heap.size + 2, 37, none⟩ (.slice ta tn tc)) (W6.heap.size ≤ ·) (.slice ta tn tc) rt) := RArr.mono HBY.out.at' (fun b hb => Below.heap_setCell _ _ _ _ (fun e => by simp at e; omega)) (fun _ q => q)
            have HDS : Hid (RArr (W7.setCell ⟨w.heap.size + 2, 37, none⟩ (.slice ta tn tc)) (w3.heap.size ≤ ·) 5 diffCs (.slice da dn dc) DD) := RArr.mono ((HO6.out.below HBY.out.bel (Nat.le_refl _)).rows diffCs_size (by decide) (by have := HDL2.out; omega)) (fun b hb => Below.heap_setCell _ _ _ _ (fun e => by simp at e; omega)) (fun _ q => q)
            have H8 := hide (H7.out.cell (j := 37) (v := .slice ta tn tc) { rsp0 with diffs := (da, dn, dc), bytes := (ta, tn, tc) } rfl)
            generalize World.setCell _ _ _ = W8 at *
            clear c37 g37
            obtain ⟨h1, h2, -, -, -, -⟩ := H8.out.facts
            go_wp2
            obtain ⟨f1, f2⟩ := H8.out.fin (y := { rsp0 with diffs := (da, dn, dc), bytes := (ta, tn, tc) })
            refine bodyPost_ret (results_cell1 Tryz.results145 _ _ (w.heap.size + 1) _ _ _ _ rfl f1 Tryz.underlying75 rfl (by kernel_rfl)) rfl ?_
            rw [HE2.out]
            exact ⟨⟨_, rfl, da, dn, dc, ta, tn, tc, rfl, RArr.mono HDS.out (fun b hb => setRow_other _ _ _ _ (by omega)) (fun b hb => by omega), RArr.mono HBT.out (fun b hb => setRow_other _ _ _ _ (by omega)) (fun b hb => by omega)⟩, f2⟩

    | false =>
      as_aux_lemma =>
      have h0 : r.id ≠ 0 := by simpa using t0
      have HM3 := hide (HMR.out.below HB3.out)
      have zM3 : M < W3.heap.size := by have := HB3.out.size; omega
      have HUE := hide (mIss_calls W3 M okr v m r.id HM3.out HH.out.req.id (by have := HH.out.fl; omega))
      have HMF : Hid (mFrom m r.id = mIss m r.id) := by show _ = _; unfold mFrom; rw [if_neg h0]
      cases he : mIss m r.id with
      | none =>
        have HE : Hid (∀ w', rdM28 w w' m r = .error 23) := fun w' => by unfold rdM28; rw [HLL.out, HMF.out, he]
        rw [he] at HUE
        clear h0
        go_upto_region 39 with fail
        go_upto_region 40 with (go_at_call 83; refine HUE.out.mono ?_; rintro e W4 ⟨hp, hb⟩; have hp : e = .returned (.tuple #[.agg zFile, .bool false]) := hp; subst hp; have hkb := (hb.block _ (blk_lt HKE3.out)).trans HKE3.out; have hwh : whole W4 DE 5 = true := whole_blk hkb; have hlt4 := blk_lt hkb)
        have H4 := hide ((H3.out.next hb).low (W' := W4.setRow DE zFile) ⟨rfl, rfl, rfl, by simp, fun k hk => setRow_other _ _ _ _ (by omega)⟩)
        generalize World.setRow _ _ _ = W5 at *
        go_upto_region 41 with fail
        obtain ⟨h1, -⟩ := H4.out.facts
        go_wp2
        obtain ⟨f1, f2⟩ := H4.out.fin (y := { rsp0 with code := 23 })
        refine bodyPost_ret (results_cell1 Tryz.results145 _ _ (w.heap.size + 1) _ _ _ _ rfl f1 Tryz.underlying75 rfl (by kernel_rfl)) rfl ?_
        rw [HE.out]
        exact ⟨rfl, f2⟩
      | some fe =>
        have HFE : Hid (mFrom m r.id = some fe) := HMF.out.trans he
        have hcl := HH.out.cl fe (mIss_mem he)
        rw [he] at HUE
        clear h0
        go_upto_region 39 with fail
        go_upto_region 40 with (go_at_call 83; refine HUE.out.mono ?_; rintro e W4 ⟨⟨ea, en, ec, rfl, hch⟩, hb⟩; have hkb := (hb.block _ (blk_lt HKE3.out)).trans HKE3.out; have hwh : whole W4 DE 5 = true := whole_blk hkb; have hlt4 := blk_lt hkb)
        have hn : en = fe.changes.length := by obtain ⟨_, _, _, _, e, -⟩ := hch; injection e
        have HEN := hide hn
        have hen : en ≤ 65536 := by omega
        have hbs : Below DE W4 (W4.setRow DE (fileCs fe.kind fe.seq fe.issued fe.base ea en ec)) := ⟨rfl, rfl, rfl, by simp, fun k hk => setRow_other _ _ _ _ (by omega)⟩
        have hfr : ∀ b, b ≠ DE → (W4.setRow DE (fileCs fe.kind fe.seq fe.issued fe.base ea en ec)).heap[b]? = W4.heap[b]? := fun b hb => setRow_other _ _ _ _ hb
        have HKE := hide (heap_setRow_at (ds := fileCs fe.kind fe.seq fe.issued fe.base ea en ec) hkb)
        have H4 := hide ((H3.out.next hb).low (hbs.mono (by omega)))
        have HKL := hide ((hfr DL (by omega)).trans ((hb.block _ (blk_lt HKL3.out)).trans HKL3.out))
        have HCE : Hid (ChangesAt (W4.setRow DE (fileCs fe.kind fe.seq fe.issued fe.base ea en ec)) okr (.slice ea en ec) fe.changes) := RArr.mono hch (fun b hb => hfr b (by have := HOKR.out b hb; omega)) (fun _ q => q)
        have HCL : Hid (ChangesAt (W4.setRow DE (fileCs fe.kind fe.seq fe.issued fe.base ea en ec)) okr (.slice la ln lc) fl.changes) := RArr.mono (RArr.below HCL3.out hb) (fun b hb => hfr b (by have := HOKR.out b hb; omega)) (fun _ q => q)
        generalize World.setRow _ _ _ = V at *
        clear HKL3 HCL3 H3 HB3 hcl hn hch hb hkb hwh hlt4 HKE3 hbs hfr HUE he HM3 zM3 q3
        go_upto_region 42 with fail
        have HE : Hid (∀ w', rdM28 w w' m r = if (fe.kind != 67 || fl.kind != 67) = true then .error 26 else if r.ref ≤ r.id then .error 16 else .ok (fun x => ∃ a n c a2 n2 c2, x = { rsp0 with diffs := (a, n, c), bytes := (a2, n2, c2) } ∧ RArr w' (w.heap.size ≤ ·) 5 diffCs (.slice a n c) (mDiffs (fe.changes.map (·.row)) (fl.changes.map (·.row))) ∧ BytesAt w' (w.heap.size ≤ ·) (.slice a2 n2 c2) (repText r.id r.ref (mDiffs (fe.changes.map (·.row)) (fl.changes.map (·.row)))))) := fun w' => by unfold rdM28; rw [HLL.out, HFE.out]
        have HRP := hide (HH.out.rep fe fl HFE.out HLL.out)
        have ql3 := H4.out.facts.2.2.1 3
        have ql4 := H4.out.facts.2.2.1 4
        simp only [reqA, List.getElem?_toArray, List.getElem?_cons_zero, List.getElem?_cons_succ] at ql3 ql4
        have k0 : V.cell? ⟨DE, 0, none⟩ = some (.int .u8 fe.kind) := cells_all HKE.out 0
        have l0 : V.cell? ⟨DL, 0, none⟩ = some (.int .u8 fl.kind) := cells_all HKL.out 0
        have zE := blk_lt HKE.out
        have zL := blk_lt HKL.out
        have zq := H4.out.facts.2.2.2.2.2
        cases t1 : (fe.kind == 67) with
        | false =>
          have HE2 : Hid (∀ w', rdM28 w w' m r = .error 26) := fun w' => (HE.out w').trans (if_pos (by simp [bne, t1]))
          have e1 : ¬ fe.kind = 67 := by simpa using t1
          go_upto_region 43 with fail
          obtain ⟨h1, -⟩ := H4.out.facts
          go_wp2
          obtain ⟨f1, f2⟩ := H4.out.fin (y := { rsp0 with code := 26 })
          refine bodyPost_ret (results_cell1 Tryz.results145 _ _ (w.heap.size + 1) _ _ _ _ rfl f1 Tryz.underlying75 rfl (by kernel_rfl)) rfl ?_
          rw [HE2.out]
          exact ⟨rfl, f2⟩
        | true =>
          cases t2 : (fl.kind == 67) with
          | false =>
            have HE2 : Hid (∀ w', rdM28 w w' m r = .error 26) := fun w' => (HE.out w').trans (if_pos (by simp [bne, t2]))
            have e1 : fe.kind = 67 := by simpa using t1
            have e2 : ¬ fl.kind = 67 := by simpa using t2
            go_upto_region 43 with fail
            obtain ⟨h1, -⟩ := H4.out.facts
            go_wp2
            obtain ⟨f1, f2⟩ := H4.out.fin (y := { rsp0 with code := 26 })
            refine bodyPost_ret (results_cell1 Tryz.results145 _ _ (w.heap.size + 1) _ _ _ _ rfl f1 Tryz.underlying75 rfl (by kernel_rfl)) rfl ?_
            rw [HE2.out]
            exact ⟨rfl, f2⟩
          | true =>
            cases t3 : decide (r.ref ≤ r.id) with
            | true =>
              have HE2 : Hid (∀ w', rdM28 w w' m r = .error 16) := fun w' => (HE.out w').trans ((if_neg (by simp [bne, t1, t2])).trans (if_pos (by simpa using t3)))
              have e1 : fe.kind = 67 := by simpa using t1
              have e2 : fl.kind = 67 := by simpa using t2
              go_upto_region 45 with fail
              obtain ⟨h1, -⟩ := H4.out.facts
              go_wp2
              obtain ⟨f1, f2⟩ := H4.out.fin (y := { rsp0 with code := 16 })
              refine bodyPost_ret (results_cell1 Tryz.results145 _ _ (w.heap.size + 1) _ _ _ _ rfl f1 Tryz.underlying75 rfl (by kernel_rfl)) rfl ?_
              rw [HE2.out]
              exact ⟨rfl, f2⟩
            | false =>
              have hlt : r.id < r.ref := by simpa using t3
              have HE2 : Hid (∀ w', rdM28 w w' m r = .ok (fun x => ∃ a n c a2 n2 c2, x = { rsp0 with diffs := (a, n, c), bytes := (a2, n2, c2) } ∧ RArr w' (w.heap.size ≤ ·) 5 diffCs (.slice a n c) (mDiffs (fe.changes.map (·.row)) (fl.changes.map (·.row))) ∧ BytesAt w' (w.heap.size ≤ ·) (.slice a2 n2 c2) (repText r.id r.ref (mDiffs (fe.changes.map (·.row)) (fl.changes.map (·.row)))))) := fun w' => (HE.out w').trans ((if_neg (by simp [bne, t1, t2])).trans (if_neg (by simpa using hlt)))
              have HRP2 := hide (HRP.out (by simpa using t1) (by simpa using t2) hlt)
              have r21 : rng V DE 0 5 = some (fileCs fe.kind fe.seq fe.issued fe.base ea en ec) := rng_whole HKE.out
              have r19 : rng V DL 0 5 = some (fileCs fl.kind fl.seq fl.issued fl.base la ln lc) := rng_whole HKL.out
              have HR1 : Hid (∀ X, Below V.heap.size V X → Calls Tryz.prog 185 #[.agg (fileCs fe.kind fe.seq fe.issued fe.base ea en ec)] X fun e w' => ∃ v, e = .returned v ∧ OwnR w' X.heap.size 109 13 rowCs v (fe.changes.map (·.row)) ∧ Below X.heap.size X w') := fun X hX => mrows_calls X okr _ _ _ _ ea en ec fe.changes (RArr.below HCE.out hX) (by omega)
              have HR2 : Hid (∀ X, Below V.heap.size V X → Calls Tryz.prog 185 #[.agg (fileCs fl.kind fl.seq fl.issued fl.base la ln lc)] X fun e w' => ∃ v, e = .returned v ∧ OwnR w' X.heap.size 109 13 rowCs v (fl.changes.map (·.row)) ∧ Below X.heap.size X w') := fun X hX => mrows_calls X okr _ _ _ _ la ln lc fl.changes (RArr.below HCL.out hX) (by omega)
              have HLA : Hid ((fe.changes.map (·.row)).length = en) := by show _ = _; rw [List.length_map, HEN.out]
              have HLB : Hid ((fl.changes.map (·.row)).length = ln) := by show _ = _; rw [List.length_map, HLN.out]
              have HDL := hide (mDiffs_len (fe.changes.map (·.row)) (fl.changes.map (·.row)))
              generalize fe.changes.map (·.row) = RA at *
              generalize fl.changes.map (·.row) = RBb at *
              rw [HLA.out, HLB.out] at HDL
              have e1 : fe.kind = 67 := by simpa using t1
              have e2 : fl.kind = 67 := by simpa using t2
              go_upto_region 46 with fail
              clear e1 e2 t1 t2
              clear HKE HKL k0 l0 ql3 ql4
              refine wp_region_mixT (V.heap.size) [0, 2] (by kernel_rfl) ?_
              refine mixT_reads [0, 2] (fuel := 5) rfl (by kernel_rfl) (by decide) (by kernel_rfl) (fun d _ _ _ _ h => by cases d <;> exact h) (ext_drew _ _) ?_
              simp only [opersAt, List.getElem?_toArray, List.getElem?_cons_zero, List.getElem?_cons_succ]
              repeat (go_big_quiet_step (fail))
              refine wpQuiet_nil ?_
              refine mixT_one (k := 1) (by kernel_rfl) rfl ?_
              go_wp2_with (go_at_call 185; refine (HR1.out _ (Below.refl _ _).drew).mono ?_; rintro e w2 ⟨v2, rfl, ho2, hb2⟩)
              have hv2 : Below V.heap.size V w2 := (Below.refl _ _).drew.trans hb2
              refine ⟨Or.inr (by intros; exact ⟨⟨_, hv2⟩, rfl⟩), ?_⟩
              refine mixT_one (k := 3) (by kernel_rfl) rfl ?_
              go_wp2_with (go_at_call 185; refine (HR2.out _ hv2).mono ?_; rintro e w3 ⟨v3, rfl, ho3, hb3⟩)
              have hv3 : Below V.heap.size V w3 := hv2.trans (hb3.mono hv2.size)
              refine ⟨Or.inr (by intros; exact ⟨⟨_, hv3⟩, rfl⟩), ?_⟩
              have hr2 := (ho2.below hb3 (Nat.le_refl _)).rows rowCs_size (by decide) (by rw [HLA.out]; omega)
              have hr3 := ho3.rows rowCs_size (by decide) (by rw [HLB.out]; omega)
              obtain ⟨a2, c2, hf2⟩ := ho2.form
              obtain ⟨a3, c3, hf3⟩ := ho3.form
              subst hf2 hf3
              have HDC := hide (mDiffs_calls w3 _ _ _ _ _ _ _ _ RA RBb hr2 hr3 (by rw [HLA.out]; omega) (by rw [HLB.out]; omega))
              refine mixT_one (k := 4) (by kernel_rfl) rfl ?_
              go_wp2_with (go_at_call 184; refine HDC.out.mono ?_; rintro e w4 ⟨v4, rfl, ho4, hb4⟩; obtain ⟨da, dn, dc, rfl⟩ := ho4.form3)
              have hv4 : Below V.heap.size V w4 := hv3.trans (hb4.mono hv3.size)
              refine ⟨Or.inr (by intros; exact ⟨⟨_, hv4⟩, rfl⟩), ?_⟩
              have H5 := hide (H4.out.next hv4)
              have c38 := H5.out.facts.2.2.2.1 38
              simp only [respCs, List.getElem?_toArray, List.getElem?_cons_zero, List.getElem?_cons_succ] at c38
              have g38 := H5.out.facts.2.2.2.2.1 38
              have c38' : w4.cell? ⟨w.heap.size + 1 + 1, 38, none⟩ = some (.slice none 0 0) := c38
              have g38' : w4.frozen? ⟨w.heap.size + 1 + 1, 38, none⟩ = false := g38
              have hz5 := H5.out.facts.2.2.2.2.2
              have hz5' : w.heap.size + 1 + 1 < w4.heap.size := hz5
              have HO4 := hide ho4
              have hge4 : w.heap.size + 3 ≤ w3.heap.size := by have := hv3.size; omega
              clear ho4 hb4 hr2 hr3 ho2 ho3 hb3 hb2 HDC
              refine mixT_slots [5] (fuel := 1) rfl (by kernel_rfl) (by kernel_rfl) (fun d _ _ _ _ h => by cases d <;> exact h) ?_
              simp only [opersAt, List.getElem?_toArray, List.getElem?_cons_zero, List.getElem?_cons_succ]
              repeat (go_big_quiet_step (fail))
              refine wpQuiet_nil ?_
              refine mixT_one (k := 6) (by kernel_rfl) rfl ?_
              go_wp2
              refine ⟨Or.inl (by kernel_rfl), ?_⟩
              refine mixT_nil (by kernel_rfl) ?_
              have H6 := hide (H5.out.cell (j := 38) (v := .slice da dn dc) { rsp0 with diffs := (da, dn, dc) } rfl)
              have HO6 : Hid (OwnR (w4.setCell ⟨w.heap.size + 2, 38, none⟩ (.slice da dn dc)) w3.heap.size 166 5 diffCs (.slice da dn dc) (mDiffs RA RBb)) := HO4.out.mono fun b hb => Below.heap_setCell _ _ _ _ (fun e => by have := (HO4.out.block b hb).1; simp at e; omega)
              rw [show w.heap.size + 1 + 1 = w.heap.size + 2 from rfl]
              generalize World.setCell _ _ _ = W6 at *
              have hdn : dn = (mDiffs RA RBb).length := by obtain ⟨_, _, e⟩ := HO4.out.form; injection e
              clear c38 g38 c38' g38' hz5'
              have HRR := hide (mrenderReport_calls W6 _ r.id r.ref da dn dc (mDiffs RA RBb) (HO6.out.rows diffCs_size (by decide) (by have := HDL.out; omega)) HRP2.out.1 HH.out.req.id HH.out.req.ref HRP2.out.2 (by rw [hdn]; have := HDL.out; omega))
              have HDN := hide hdn
              have hdl : (mDiffs RA RBb).length ≤ 200000 := by have := HDL.out; omega
              have HDL2 := hide hdl
              clear hdn hdl
              generalize repText r.id r.ref (mDiffs RA RBb) = rt at *
              generalize mDiffs RA RBb = DD at *
              obtain ⟨-, -, hq6, hp6, -, -⟩ := H6.out.facts
              have q3 := hq6 3
              have q4 := hq6 4
              have c38 := hp6 38
              simp only [reqA, respCs, List.getElem?_toArray, List.getElem?_cons_zero, List.getElem?_cons_succ] at q3 q4 c38
              have c38' : W6.cell? ⟨w.heap.size + 2, 38, none⟩ = some (.slice da dn dc) := c38
              clear hq6 hp6 c38
              go_upto_region 66 with (go_at_call 166; refine HRR.out.mono ?_; rintro e W7 ⟨vt, rfl, hby⟩; obtain ⟨ta, tn, tc, rfl, hts⟩ := Src.of hby.at'; have HBY := hide hby; have H7 := hide (H6.out.next hby.bel); have c37 := H7.out.facts.2.2.2.1 37; simp only [respCs, List.getElem?_toArray, List.getElem?_cons_zero, List.getElem?_cons_succ] at c37; have g37 := H7.out.facts.2.2.2.2.1 37; clear hts hby)
              have hz6 := H6.out.facts.2.2.2.2.2
              have HBT : Hid (BytesAt (W7.setCell ⟨w.heap.size + 2, 37, none⟩ (.slice ta tn tc)) (W6.heap.size ≤ ·) (.slice ta tn tc) rt) := RArr.mono HBY.out.at' (fun b hb => Below.heap_setCell _ _ _ _ (fun e => by simp at e; omega)) (fun _ q => q)
              have HDS : Hid (RArr (W7.setCell ⟨w.heap.size + 2, 37, none⟩ (.slice ta tn tc)) (w3.heap.size ≤ ·) 5 diffCs (.slice da dn dc) DD) := RArr.mono ((HO6.out.below HBY.out.bel (Nat.le_refl _)).rows diffCs_size (by decide) (by have := HDL2.out; omega)) (fun b hb => Below.heap_setCell _ _ _ _ (fun e => by simp at e; omega)) (fun _ q => q)
              have H8 := hide (H7.out.cell (j := 37) (v := .slice ta tn tc) { rsp0 with diffs := (da, dn, dc), bytes := (ta, tn, tc) } rfl)
              generalize World.setCell _ _ _ = W8 at *
              clear c37 g37
              obtain ⟨h1, h2, -, -, -, -⟩ := H8.out.facts
              go_wp2
              obtain ⟨f1, f2⟩ := H8.out.fin (y := { rsp0 with diffs := (da, dn, dc), bytes := (ta, tn, tc) })
              refine bodyPost_ret (results_cell1 Tryz.results145 _ _ (w.heap.size + 1) _ _ _ _ rfl f1 Tryz.underlying75 rfl (by kernel_rfl)) rfl ?_
              rw [HE2.out]
              exact ⟨⟨_, rfl, da, dn, dc, ta, tn, tc, rfl, RArr.mono HDS.out (fun b hb => setRow_other _ _ _ _ (by omega)) (fun b hb => by omega), RArr.mono HBT.out (fun b hb => setRow_other _ _ _ _ (by omega)) (fun b hb => by omega)⟩, f2⟩

end Go.Proofs.Qxb6500666aGreatDoor
