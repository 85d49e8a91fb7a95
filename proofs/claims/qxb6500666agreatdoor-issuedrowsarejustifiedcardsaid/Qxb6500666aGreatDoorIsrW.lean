/- IssuedRowsAreJustified, walked. -/
import Derived.Test.Qxb6500666aGreatDoorIsrP
import Derived.Test.Qxb6500666aGreatDoorIsrBits
import Derived.Test.Qxb6500666aGreatDoorMdJ
import Derived.Test.Qxb6500666aGreatDoorJust
import Derived.Test.Qxb6500666aGreatDoorMapK
import Derived.Test.Qxb6500666aGreatDoorDamR
import Derived.Test.Qxb6500666aGreatDoorCorM
import Derived.Test.Qxb6500666aGreatDoorRoles
import Derived.BigQuiet
import Derived.Deep.CutBlock
namespace Go.Proofs.Qxb6500666aGreatDoor
open Go.RowKit
theorem Tryz.mapInt : Tryz.prog.underlying 135 = some (.map 106 3) := by kernel_rfl
theorem Tryz.zeroInt9 (w : World) : (zeroValue 3).run Tryz.prog w = .ok (.int .i64 0) w := by kernel_rfl
attribute [local go_sem] ext_const Ext.cell Ext.frozen Ext.rng Ext.whole exS_const ExS.cell ExS.rng
attribute [local go_sem ↓] exec_ldOpz exec_stOpz exec_ldAns exec_stAns exec_ldChange exec_stChange exec_ldFile exec_stFile exec_ldRow exec_ldRes exec_stRes exec_ldSmp exec_stSmp exec_ldSmS
attribute [local go_sem] run_ldOpz run_stOpz opA_size run_ldAns run_stAns ansCs_size ansCs_ones run_ldChange run_stChange changeCs_size changeCs_ones run_ldFile run_stFile fileCs_size fileCs_ones fileCs_4 run_ldRow rowCs_size run_ldRes run_stRes resCs_size resCs_ones run_ldSmp run_stSmp smpCs_size smpCs_ones run_ldSmS whole_alloc_lt whole_alloc_at whole_drew setRow_alloc_at setRow_alloc_lt setRow_drew rng_alloc_lt rng_alloc_at rng_drew rng_drewN
theorem chg_rng {W : World} {C : Nat} {c : Change} (h : W.heap[C]? = some (.cells (changeCs c) 111 (0, 0))) : rng W C 1 13 = some (rowCs c.row) := by unfold rng; rw [h]; rfl

set_option maxRecDepth 100000 in
set_option maxHeartbeats 16000000 in
theorem isr_walk (w : World) (v : Value) (s : List Op) (rn kn ft : Nat → ByteArray) (okg : Nat → Prop) (h : Script w (· < w.heap.size) v s) (hgl : Gl w w.heap.size rn kn ft okg) (hng : NmG rn kn) :
    Calls Tryz.prog 9 #[v] w fun e w' => e = .returned (.bool true) ∧ Below w.heap.size w w' := by
  have HSm := hide (small_calls w _ v s h)
  have HGL := hide (fun W (hb : Below w.heap.size w W) => hgl.same hb (Nat.le_refl _))
  have HNG := hide hng
  have HNB := hide (newBench_calls w)
  obtain ⟨a, cap, b, off, rfl, hl, hm, hr, ha, hc⟩ := h
  obtain ⟨n, hn⟩ : ∃ n, n = s.length := ⟨_, rfl⟩
  have Hn : Hid (n = s.length) := hn
  rw [← hn] at hl hr ha HSm ⊢
  have hi := run_indexAt_arr (P := Tryz.prog) (cap := cap) Tryz.underlying22 Tryz.size61 (fun h => (ha h).1)
  have HB : Hid (0 < n → b < w.heap.size) := fun h => (ha h).2
  by_cases hsm : total s ≤ 65536
  · have HC : Hid (∀ k (h : k < s.length), ∃ lv dv ca cn cc, rng w b (off + k * 27) 27 = some (opA s[k] lv dv ca cn cc) ∧ OpIn w (· < w.heap.size) s[k] lv dv ca cn cc ∧ ones (opA s[k] lv dv ca cn cc) 27 = true ∧ ByteL s[k].data) := fun k h => by
      obtain ⟨cs, hlen, hE, hcell⟩ := hc k h
      have ht := total_le h hsm
      obtain ⟨lv, dv, ca, cn, cc, e, hO, h1⟩ := opIn_of hE ht.2.1 ht.2.2
      refine ⟨lv, dv, ca, cn, cc, ?_, hO, h1, opByte_of hE⟩
      rw [← e]
      have hl27 : cs.length = 27 := by have := congrArg Array.size e; simpa [opA] using this
      have := rng_of_cells (w := w) (b := b) (off := off + k * 27) (by omega) hcell
      rw [hl27] at this
      exact this
    have HRO : Hid (∀ k (hk : k < s.length), s[k].req.Ok) := fun k hk => by
      obtain ⟨_, _, _, _, _, _, h1, _⟩ := HC.out k hk
      exact h1.req
    have HID : Hid (∀ k (hk : k < s.length), ∀ y ∈ s[k].req.list, U32 y) := fun k hk => by
      obtain ⟨_, _, _, _, _, _, h1, _⟩ := HC.out k hk
      exact h1.ids
    have HIV : Hid (∀ q, q ≤ s.length → Inv q (stAt s q)) := inv_all HRO.out
    have hn2 : n ≤ 65536 := by have := hsm; unfold total at this; omega
    have HVI : Hid (∀ q, q ≤ s.length → VI q (stAt s q).low) := vi_all s (by omega)
    have HSU : Hid (∀ q, q ≤ s.length → SU (stAt s q).low.sm) := su_all s
    have HNU : Hid (∀ q, q ≤ s.length → NU (stAt s q).low) := nu_all s
    have HTJ : Hid (∀ q, q ≤ s.length → ∃ rows, TJ q (stAt s q) (mdAt s q) rows) := ti_all HRO.out HID.out (by omega)
    have hd : decide (total s ≤ 65536) = true := by simpa using hsm
    rw [hd] at HSm
    clear hd hsm ha hc hn hgl hng
    go_enter Tryz.func9, Tryz.ntmps9
    go_upto_region 3 with (go_at_call 18; refine HSm.out.mono ?_; rintro e w1 ⟨rfl, rfl⟩)
    go_upto_region 4 with (go_at_call 19; refine HNB.out.mono ?_; rintro e W0 ⟨rfl, hbn, hb0⟩)
    have HQ0 : Hid (BX w W0 (fun _ => False) (stAt s 0)) := BX.start hbn hb0
    clear hbn hb0 HSm HNB
    go_upto_region 5 with fail
    have HE0 : Hid (∃ K, MX w (W0.alloc (.cells (mvCs mv0 false) 45)) W0.heap.size K (stAt s 0) (mdAt s 0)) := by
      refine ⟨fun g => g = W0.heap.size, HQ0.out.more ((Below.refl _ _).alloc (Nat.le_refl _) _) (fun g q => Or.inr ?_), ⟨mv0, MAt.start _ (heap_alloc_at _ _)⟩, rfl, HQ0.out.blw.size⟩
      rw [q]
      exact ⟨Nat.le_refl _, by simp⟩
    change Code.wp _ _ _ _ (W0.alloc (.cells (mvCs mv0 false) 45))
    generalize W0.alloc (.cells (mvCs mv0 false) 45) = W1 at *
    generalize W0.heap.size = M at *
    clear HQ0
    refine wp_loop_mask isL1 (fun g x wr => ∃ q : Nat, q ≤ n ∧ g = n - q ∧ x = .int .i64 q ∧ Hid (∃ K, MX w wr M K (stAt s q) (mdAt s q))) n (.int .i64 0) ⟨0, by omega, by omega, rfl, HE0⟩ (by kernel_rfl) ?_
    clear HE0
    intro gk1 x1 u1 wr hrel J1 K1 hJ1 hK1
    dsimp only [isL1, maskL_keep, maskL_any, maskL_is, maskL_nil]
    obtain ⟨q, hq, rfl, rfl, HQ⟩ := hrel
    by_cases hlt : q < n
    · as_aux_lemma =>
      have hqs : q < s.length := by rw [← Hn.out]; exact hlt
      have hn2q : q < 65536 := by omega
      have hbb := HB.out (by omega)
      obtain ⟨lv, dv, ca, cn, cc, hcl, hO, hones, hby⟩ := HC.out q hqs
      have HIQ := hide (HIV.out q (by omega))
      have HIS := hide (HIV.out (q + 1) (by omega))
      have HVQ := hide (HVI.out q (by omega))
      have HUQ := hide (HSU.out q (by omega))
      have HNQ := hide (HNU.out q (by omega))
      have HUS := hide (HSU.out (q + 1) (by omega))
      have HSQ := hide (stAt_succ hqs)
      have HMQ := hide (mdAt_succ hqs)
      rw [HSQ.out] at HIS HUS
      obtain ⟨rows, htj⟩ := HTJ.out q (by omega)
      obtain ⟨K, hmx⟩ := HQ.out
      have HTI := hide htj
      have HMX := hide hmx
      have HBY := hide hby
      have hmm := htj.minv (by omega) HIQ.out HUQ.out
      have HMI := hide hmm
      obtain ⟨rows', htj', hfst⟩ := htj.step (o := s[q]) hn2q HIQ.out HUQ.out HVQ.out hO.req hO.ids
      have HTI' := hide htj'
      have HFS := hide hfst
      generalize s[q] = p at *
      clear htj hmx hmm htj' hfst hby HQ
      have hMl : M < wr.heap.size := by obtain ⟨v, hv⟩ := HMX.out.md; exact blk_lt hv.top
      have hcells : rng wr b (off + q * 27) 27 = some (opA p lv dv ca cn cc) := by rw [rng_of_block (HMX.out.bx.blw.block _ hbb)]; exact hcl
      have hbw : b < wr.heap.size := by have := HMX.out.bx.blw.size; omega
      have HOI := hide hO
      clear hO hcl
      go_upto_region 7 with fail
      have hb1 : Below wr.heap.size wr (wr.alloc (.cells (opA p lv dv ca cn cc) 61)) := (Below.refl _ _).alloc (Nat.le_refl _) _
      have HX1 : Hid (MX w (wr.alloc (.cells (opA p lv dv ca cn cc) 61)) M (fun g => K g ∨ g = wr.heap.size) (stAt s q) (mdAt s q)) := HMX.out.more hb1 (fun g q => by
        rcases q with q | rfl
        · exact Or.inl q
        · exact Or.inr ⟨Nat.le_refl _, by simp⟩) (fun g q => Or.inl q)
      have hk1 : (wr.alloc (.cells (opA p lv dv ca cn cc) 61)).heap[wr.heap.size]? = some (.cells (opA p lv dv ca cn cc) 61 (0, 0)) := heap_alloc_at _ _
      clear HMX hb1
      generalize wr.alloc (.cells (opA p lv dv ca cn cc) 61) = U1 at *
      generalize wr.heap.size = D at *
      generalize hte : stAt s q = t at *
      generalize hme : mdAt s q = m at *
      clear hte hme
      have hr1 : rng U1 D 0 27 = some (opA p lv dv ca cn cc) := rng_whole hk1
      have HK1 := hide hk1
      have HST := hide (HX1.out.bx.step (HIQ.out.po (by omega)) (HOI.out.below HX1.out.bx.blw) (HGL.out _ HX1.out.bx.blw) ⟨HIQ.out.off.1, by have := HIQ.out.off.2; omega⟩)
      clear hk1 hcells hbw
      go_upto_region 8 with (go_at_call 21; refine HST.out.mono ?_; rintro e U2 ⟨ans, rfl, hq2, hf2, ha2⟩; have HX2 := hide (HX1.out.real hq2 hf2); have HF2 := hide hf2; have HA2 := hide ha2; clear hq2 hf2 ha2)
      clear hr1 HST
      have hb5 : Below U2.heap.size U2 (U2.alloc (.cells (ansCs ans) 77)) := (Below.refl _ _).alloc (Nat.le_refl _) _
      have HX3 : Hid (MX w (U2.alloc (.cells (ansCs ans) 77)) M (fun g => K g ∨ g = D) (stepR t p) m) := HX2.out.below hb5
      have k2 : U2.heap[D]? = some (.cells (opA p lv dv ca cn cc) 61 (0, 0)) := (HF2.out D (Or.inr rfl)).trans HK1.out
      have k3 : (U2.alloc (.cells (ansCs ans) 77)).heap[D]? = some (.cells (opA p lv dv ca cn cc) 61 (0, 0)) := (hb5.block _ (blk_lt k2)).trans k2
      have k4 : (U2.alloc (.cells (ansCs ans) 77)).heap[U2.heap.size]? = some (.cells (ansCs ans) 77 (0, 0)) := heap_alloc_at _ _
      have HACC := hide (accP_iff HA2.out)
      have HISS : Hid (AccS t p → ans.resp.issued = (mEx m p.req).iss) := fun q => by
        have hrd : isRdg p.req.kind = false := cmd_rdg q.2.1
        rw [(HA2.out.2 q.1).2 (Or.inl hrd)]
        exact (ex_tie HTI.out (by omega) HIQ.out HUQ.out HVQ.out HOI.out.req).2.1
      have hDU : D < U2.heap.size := blk_lt k2
      clear k2 HK1 HX1 HX2 HF2 HA2 hb5
      generalize U2.alloc (.cells (ansCs ans) 77) = U3 at *
      generalize U2.heap.size = D3 at *
      have r3 : rng U3 D 0 27 = some (opA p lv dv ca cn cc) := rng_whole k3
      have z3 := blk_lt k3
      have z4 := blk_lt k4
      have HMS := hide (HX3.out.step HMI.out (HOI.out.below HX3.out.bx.blw) HBY.out (HGL.out _ HX3.out.bx.blw) HNG.out)
      go_upto_region 9 with (go_at_call 22; refine HMS.out.mono ?_; rintro e U4 ⟨am, rfl, hx4, hbt4, -⟩)
      have HX4 : Hid (∃ K', MX w U4 M K' (stepR t p) (mStep m p)) := ⟨_, hx4⟩
      have k3' := (hbt4.fr D z3 (by omega)).trans k3
      have k4' := (hbt4.fr D3 z4 (by omega)).trans k4
      clear r3 z3 z4 HMS hx4 hbt4 k3 k4 HX3
      have r3 : rng U4 D 0 27 = some (opA p lv dv ca cn cc) := rng_whole k3'
      have r4 : rng U4 D3 0 48 = some (ansCs ans) := rng_whole k4'
      have z3 := blk_lt k3'
      have z4 := blk_lt k4'
      have HKA := hide k4'
      have a1 : U4.cell? ⟨D3, 1, none⟩ = some (.int .u32 ans.resp.issued) := cells_all k4' 1
      have HNX : Hid (∀ W, Below U4.heap.size U4 W → ∃ K', MX w W M K' (stAt s (q + 1)) (mdAt s (q + 1))) := fun W hW => by
        obtain ⟨K', hx⟩ := HX4.out
        exact ⟨K', by rw [HSQ.out, HMQ.out]; exact hx.below hW⟩
      clear k3' k4'
      cases hac : accP p ans.resp with
      | false =>
        as_aux_lemma =>
        go_wp2_with (go_at_call 31; refine (accepted_calls _ p lv dv ca cn cc ans).mono ?_; rintro e U5 ⟨rfl, hb4⟩; rw [hac]; have HE4 := hide (HNX.out _ hb4); clear hb4)
        refine Handed.intro (n - (q + 1)) (by omega) ?_
        exact hJ1.out _ (.int .i64 ((q + 1 : Nat) : Int)) _ _ ⟨q + 1, by omega, rfl, rfl, HE4⟩ (by kernel_rfl)
      | true =>
        have hacs : AccS t p := HACC.out.1 hac
        have HFT := hide (HFS.out hacs)
        have hie := HISS.out hacs
        have HIE := hide hie
        clear hie HACC HISS HFS hacs
        cases hz : (ans.resp.issued == 0) with
        | true =>
          as_aux_lemma =>
          go_wp2_with (go_at_call 31; refine (accepted_calls _ p lv dv ca cn cc ans).mono ?_; rintro e U5 ⟨rfl, hb4⟩; rw [hac]; have HE4 := hide (HNX.out _ hb4); have a1' := (hb4.cell (p := ⟨D3, 1, none⟩) z4).trans a1; have z4' := Nat.lt_of_lt_of_le z4 hb4.size; clear hb4)
          refine Handed.intro (n - (q + 1)) (by omega) ?_
          exact hJ1.out _ (.int .i64 ((q + 1 : Nat) : Int)) _ _ ⟨q + 1, by omega, rfl, rfl, HE4⟩ (by kernel_rfl)
        | false =>
          as_aux_lemma =>
          have hnz : (mEx m p.req).iss ≠ 0 := by rw [← HIE.out]; simpa using hz
          obtain ⟨i1, i2, f, i3, i4⟩ := issued_ok HTI.out HVQ.out HNQ.out HUQ.out hnz HFT.out
          have HISF := hide i4
          have HLOW : Hid ((mStep m p).low = t.low) := HTI'.out.low.trans i1
          have hisd : ans.resp.issued = (m.fs.length : Int) + 1 := HIE.out.trans i2
          have hfl := HTI.out.fl
          have hlf : m.fs.length < (mStep m p).fs.length := by rw [i3]; simp
          have hff : (mStep m p).fs[m.fs.length] = f := by simp [i3]
          have HPO : Hid (PO (stepR t p).ps (stepR t p).low) := HIS.out.po (by omega)
          have hiu : U32 ((m.fs.length : Int) + 1) := ⟨by omega, by omega⟩
          have hfl' := HTI'.out.fl
          have HFB := hide (HTI'.out.fi.fbR (by omega) hlf)
          obtain ⟨vf, lf, hci'⟩ := HTI'.out.ci
          have HCL : Hid ((mStep m p).fs[m.fs.length].changes.length ≤ 65536) := hci'.cl _ (List.getElem_mem hlf)
          have HFM : Hid (f ∈ (mStep m p).fs) := by show f ∈ _; rw [← hff]; exact List.getElem_mem hlf
          have HLF := hide hlf
          have HFF := hide hff
          have HCOK : Hid (∀ c ∈ f.changes, RowOk c.row ∧ c.row.Ok) := fun c hc => by
            obtain ⟨jj, hjj, e⟩ := List.mem_iff_getElem.1 hc
            have h1 := HTI'.out.fi.line hlf (j := jj) (by rw [hff]; exact hjj)
            have h2 := HTI'.out.fi.cok f HFM.out c hc
            refine ⟨?_, h2.row⟩
            have h3 := h1.2
            simp only [hff] at h3
            rw [e] at h3
            exact h3
          rw [hisd] at a1
          clear i1 i2 i3 i4 hnz hci' hff hfl' HIE hisd
          go_upto_region 10 with (go_at_call 31; refine (accepted_calls _ p lv dv ca cn cc ans).mono ?_; rintro e U5 ⟨rfl, hb4⟩; rw [hac]; have a1' := (hb4.cell (p := ⟨D3, 1, none⟩) z4).trans a1; have z4' := Nat.lt_of_lt_of_le z4 hb4.size; have hdz : (((m.fs.length : Int) + 1) == 0) = false := (by simp; omega))
          obtain ⟨K', hx5⟩ := HX4.out
          have hx5 := hx5.below hb4
          have HNX5 : Hid (∀ W, Below U5.heap.size U5 W → ∃ K', MX w W M K' (stAt s (q + 1)) (mdAt s (q + 1))) := fun W hW => HNX.out W (hb4.trans (hW.mono hb4.size))
          obtain ⟨Y, hbn, hfile⟩ := hx5.bx.fileB HPO.out hiu
          rw [HFB.out] at hfile
          have HFL := hide hfile
          have b2 := cells_all hbn 2
          simp only [List.getElem?_toArray, List.getElem?_cons_zero, List.getElem?_cons_succ] at b2
          have zB := blk_lt hbn
          have HX5 := hide hx5
          clear hbn hfile hx5 hb4 a1 r3 r4 z3 z4 HX4 HNX HKA hdz
          refine wp_region_mixT (U5.heap.size) [3, 6] (by kernel_rfl) ?_
          refine mixT_slots [0, 1, 2, 4, 5] (fuel := 8) rfl (by kernel_rfl) (by kernel_rfl) (fun d _ _ _ _ h => by cases d <;> exact h) ?_
          simp only [opersAt, List.getElem?_toArray, List.getElem?_cons_zero, List.getElem?_cons_succ]
          repeat (go_big_quiet_step (fail))
          refine wpQuiet_nil ?_
          refine mixT_reads [3, 6] (fuel := 6) rfl (by kernel_rfl) (by decide) (by kernel_rfl) (fun d _ _ _ _ h => by cases d <;> exact h) (ext_drew _ _) ?_
          simp only [opersAt, List.getElem?_toArray, List.getElem?_cons_zero, List.getElem?_cons_succ]
          repeat (go_big_quiet_step (fail))
          refine wpQuiet_nil ?_
          refine mixT_one (k := 7) (by kernel_rfl) rfl ?_
          go_wp2_with (go_at_call 32; refine (HFL.out _ (Below.refl _ _).drew).mono ?_; rintro e V1 ⟨v1, rfl, hown, hb1⟩)
          have hbV : Below U5.heap.size U5 V1 := (Below.refl _ _).drew.trans hb1
          refine ⟨Or.inr (by intros; exact ⟨⟨_, hbV⟩, rfl⟩), ?_⟩
          obtain ⟨pa, pn, pc, rfl, hparse⟩ := HTI'.out.fi.fileAt (by have := HTI'.out.fl; omega) HLF.out HCL.out hown
          have HPA := hide (hparse V1 (Below.refl _ _))
          have HBV := hide hbV
          clear hown hb1 hbV hparse a1' b2
          refine mixT_slots [8, 9, 10, 11, 12] (fuel := 0) rfl (by kernel_rfl) (by kernel_rfl) (fun d _ _ _ _ h => by cases d <;> exact h) ?_
          simp only [opersAt, List.getElem?_toArray, List.getElem?_cons_zero, List.getElem?_cons_succ]
          repeat (go_big_quiet_step (fail))
          refine wpQuiet_nil ?_
          refine mixT_nil (by kernel_rfl) ?_
          go_upto_region 16 with (go_at_call 33; refine HPA.out.mono ?_; rintro e V2 ⟨qa, qc, rfl, hch, hb2⟩; have HCH := hide hch; have HB2 := hide hb2; clear hch hb2)
          generalize hfv : (mStep m p).fs[m.fs.length] = fv at *
          have hfe : fv = f := HFF.out
          subst hfe
          clear hfv HFB HFL HPA
          obtain ⟨nc, hnc⟩ : ∃ nc, nc = fv.changes.length := ⟨_, rfl⟩
          have Hm : Hid (nc = fv.changes.length) := hnc
          rw [← hnc] at HCH ⊢
          have hm65 : nc ≤ 65536 := by have := HCL.out; omega
          have hkF : (V2.alloc (.cells (fileCs fv.kind fv.seq fv.issued fv.base qa nc qc) 59)).heap[V2.heap.size]? = some (.cells (fileCs fv.kind fv.seq fv.issued fv.base qa nc qc) 59 (0, 0)) := heap_alloc_at _ _
          have HBA : Hid (Below U5.heap.size U5 (V2.alloc (.cells (fileCs fv.kind fv.seq fv.issued fv.base qa nc qc) 59))) := (HBV.out.trans (HB2.out.mono HBV.out.size)).alloc (Nat.le_trans HBV.out.size HB2.out.size) _
          have hch2 := RArr.below HCH.out ((Below.refl _ _).alloc (Nat.le_refl _) (.cells (fileCs fv.kind fv.seq fv.issued fv.base qa nc qc) 59))
          clear hnc HCH HB2 HBV
          generalize V2.alloc (.cells (fileCs fv.kind fv.seq fv.issued fv.base qa nc qc) 59) = V3 at *
          generalize V2.heap.size = FB at *
          have HX3 := hide (HX5.out.below HBA.out)
          have HNX3 : Hid (∀ W, Below V3.heap.size V3 W → ∃ K', MX w W M K' (stAt s (q + 1)) (mdAt s (q + 1))) := fun W hW => HNX5.out W (HBA.out.trans (hW.mono HBA.out.size))
          have HKF := hide hkF
          obtain ⟨ca', ccap, cb, coff, ce, cl1, cl2, cl3, cha, chc⟩ := RArr.lt hch2
          injection ce with ce1 ce2 ce3
          subst ce1
          subst ce3
          have hic := run_indexAt_arr (P := Tryz.prog) (n := nc) (cap := qc) (a := qa) (b := cb) (off := coff) Tryz.underlying57 Tryz.size111 (fun h => (cha (by rw [← Hm.out]; exact h)).1)
          have HCB : Hid (0 < nc → cb < V3.heap.size) := fun h => (cha (by rw [← Hm.out]; exact h)).2.2
          have HCC := hide chc
          clear ce2 cl1 cl2 cl3 cha chc hch2 HX5 HNX5 HBA
          have hmm := @run_makeMap Tryz.prog
          go_upto_region 17 with fail
          clear hmm
          have HBM : Hid (Below V3.heap.size V3 (V3.alloc (.map #[] 0))) := (Below.refl _ _).alloc (Nat.le_refl _) _
          have HMK : Hid (MapK (V3.alloc (.map #[] 0)) V3.heap.size 0 (.int .i64 0) (cntK ((fv.changes.map (·.row)).take 0))) := MapK.made V3 _
          have hkF2 := (HBM.out.block _ (blk_lt hkF)).trans hkF
          have f4 : (V3.alloc (.map #[] 0)).cell? ⟨FB, 4, none⟩ = some (.slice qa nc qc) := cells_all hkF2 4
          have zF := blk_lt hkF2
          obtain ⟨TB, hTB⟩ : ∃ TB, TB = V3.heap.size := ⟨_, rfl⟩
          rw [← hTB] at HMK ⊢
          have HTB := hide hTB
          generalize V3.alloc (.map #[] 0) = V4 at *
          go_upto_region 18 with fail
          rw [← HTB.out]
          clear f4 zF hkF2 hkF hTB
          refine wp_loop_mask isL2 (fun g y wr => ∃ j : Nat, j ≤ nc ∧ g = nc - j ∧ y = .int .i64 j ∧ Hid (Below V3.heap.size V3 wr) ∧ Hid (MapK wr TB j (.int .i64 0) (cntK ((fv.changes.map (·.row)).take j)))) nc (.int .i64 0) ⟨0, by omega, by omega, rfl, HBM, HMK⟩ (by kernel_rfl) ?_
          clear HBM HMK
          intro gk3 y150 u3 wr hrel J3 K3 hJ3 hK3
          dsimp only [isL2, maskL_keep, maskL_any, maskL_is, maskL_nil]
          obtain ⟨j, hj, rfl, rfl, HBL, HMK⟩ := hrel
          by_cases hjm : j < nc
          · as_aux_lemma =>
            have hjl : j < fv.changes.length := by rw [← Hm.out]; exact hjm
            have hcbw := HCB.out (by omega)
            have hce := HCC.out j hjl
            rw [← rng_of_block (HBL.out.block _ hcbw)] at hce
            have hcw : cb < wr.heap.size := by have := HBL.out.size; omega
            have hjr : j < (fv.changes.map (·.row)).length := by simpa using hjl
            have hrj : (fv.changes.map (·.row))[j] = fv.changes[j].row := by simp
            have HCN := hide (cntK_new HISF.out.rise hjr)
            have HCX := hide (cntK_next hjr)
            rw [hrj] at HCN HCX
            have HCO := hide (HCOK.out _ (List.getElem_mem hjl))
            have HJU := hide (HISF.out.just _ (List.getElem_mem hjl))
            generalize fv.changes[j] = c at *
            have hkc : (wr.alloc (.cells (changeCs c) 111)).heap[wr.heap.size]? = some (.cells (changeCs c) 111 (0, 0)) := heap_alloc_at _ _
            have HBN : Hid (Below V3.heap.size V3 (wr.alloc (.cells (changeCs c) 111))) := HBL.out.alloc HBL.out.size _
            have HMK2 : Hid (MapK (wr.alloc (.cells (changeCs c) 111)) TB j (.int .i64 0) (cntK ((fv.changes.map (·.row)).take j))) := HMK.out.same (Below.heap_alloc _ _ _ HMK.out.lt)
            go_upto_region 20 with fail
            clear hrj
            have hTBl : TB < wr.heap.size := HMK.out.lt
            generalize wr.alloc (.cells (changeCs c) 111) = V5 at *
            generalize wr.heap.size = C at *
            have c1 : V5.cell? ⟨C, 1, none⟩ = some (.int .u32 c.row.sample) := cells_all hkc 1
            have c2 : V5.cell? ⟨C, 2, none⟩ = some (.int .u32 c.row.analyte) := cells_all hkc 2
            have zC := blk_lt hkc
            have hCT : C ≠ TB := by omega
            have hTB5 : TB < V5.heap.size := HMK2.out.lt
            have HKC := hide hkc
            have h3T : V3.heap.size ≤ TB := by rw [HTB.out]; exact Nat.le_refl _
            clear hce hcw HBL hic hkc HMK
            refine wp_cut_mask isC20 (fun _ V => Hid (MapK V TB (j + 1) (.int .i64 0) (cntK ((fv.changes.map (·.row)).take (j + 1))) ∧ (∀ b, b ≠ TB → V.heap[b]? = V5.heap[b]?) ∧ V5.heap.size = V.heap.size ∧ Below V3.heap.size V5 V)) ?first ?rest
            case first =>
              intro J K' hJ hK'
              as_aux_lemma =>
              have hm1 := HMK2.out.same (w' := V5.drew) rfl
              have hlk := hm1.look Tryz.mapInt (Tryz.zeroInt9 _) HCO.out.2.sample HCO.out.2.analyte
              have hvv : ((cntK ((fv.changes.map (·.row)).take j)) c.row.sample c.row.analyte).getD (.int .i64 0) = .int .i64 0 := by rw [HCN.out]; rfl
              rw [hvv] at hlk
              obtain ⟨v0, st, o1, hme, hlk2, hes⟩ := hm1.entry Tryz.mapInt Tryz.zeroInt9 (show j < maxLen by unfold maxLen; omega) HCO.out.2.sample HCO.out.2.analyte
              obtain ⟨o2, hst, hMK⟩ := hes (.int .i64 1)
              have hst' := hst (Go.ChangeMaps.setBlock V5.drew TB o1) (setBlock_at hTB5 _)
              have hlk2' := hlk2 (Go.ChangeMaps.setBlock V5.drew TB o1) (setBlock_at hTB5 _)
              rw [hvv] at hlk2'
              simp only [goInt] at hst'
              simp only [keyV] at hlk hme hlk2'
              have HR : Hid (MapK (Go.ChangeMaps.setBlock (Go.ChangeMaps.setBlock V5.drew TB o1) TB o2) TB (j + 1) (.int .i64 0) (cntK ((fv.changes.map (·.row)).take (j + 1))) ∧ (∀ b, b ≠ TB → (Go.ChangeMaps.setBlock (Go.ChangeMaps.setBlock V5.drew TB o1) TB o2).heap[b]? = V5.heap[b]?) ∧ V5.heap.size = (Go.ChangeMaps.setBlock (Go.ChangeMaps.setBlock V5.drew TB o1) TB o2).heap.size ∧ Below V3.heap.size V5 (Go.ChangeMaps.setBlock (Go.ChangeMaps.setBlock V5.drew TB o1) TB o2)) := by
                have hsz : V5.heap.size = (Go.ChangeMaps.setBlock (Go.ChangeMaps.setBlock V5.drew TB o1) TB o2).heap.size := by rw [setBlock_sz, setBlock_sz]; rfl
                have hot : ∀ b, b ≠ TB → (Go.ChangeMaps.setBlock (Go.ChangeMaps.setBlock V5.drew TB o1) TB o2).heap[b]? = V5.heap[b]? := fun b hb => (setBlock_ne hb _).trans (setBlock_ne hb _)
                exact ⟨by rw [← HCX.out]; exact hMK _ (setBlock_at (by rw [setBlock_sz]; exact hTB5) _), hot, hsz, ⟨rfl, rfl, rfl, by omega, fun b hb => hot b (by omega)⟩⟩
              have HX1 : Hid (∃ y : ExS V5 V5.heap.size TB, Go.ChangeMaps.setBlock V5.drew TB o1 = y.world) := ⟨⟨Go.ChangeMaps.setBlock V5.drew TB o1, fun b _ h2 => setBlock_ne (w := V5.drew) h2 _⟩, rfl⟩
              clear hes hst hMK hlk2 hm1
              refine wp_region_mixX V5.heap.size TB [3, 6] (by kernel_rfl) ?_
              refine mixT_slots [0, 1, 2, 4, 5] (fuel := 8) rfl (by kernel_rfl) (by kernel_rfl) (fun d _ _ _ _ h => by cases d <;> exact h) ?_
              simp only [opersAt, List.getElem?_toArray, List.getElem?_cons_zero, List.getElem?_cons_succ]
              repeat (go_big_quiet_step (fail))
              refine wpQuiet_nil ?_
              refine mixT_reads [3, 6] (fuel := 6) rfl (by kernel_rfl) (by decide) (by kernel_rfl) (fun d _ _ _ _ h => by cases d <;> exact h) (exS_drew _ _ _) ?_
              simp only [opersAt, List.getElem?_toArray, List.getElem?_cons_zero, List.getElem?_cons_succ]
              repeat (go_big_quiet_step (fail))
              refine wpQuiet_nil ?_
              refine mixT_slots [7] (fuel := 5) rfl (by kernel_rfl) (by kernel_rfl) (fun d _ _ _ _ h => by cases d <;> exact h) ?_
              simp only [opersAt, List.getElem?_toArray, List.getElem?_cons_zero, List.getElem?_cons_succ]
              repeat (go_big_quiet_step (fail))
              refine wpQuiet_nil ?_
              refine mixT_two (k := 8) (k' := 10) (by kernel_rfl) rfl rfl ?_ ?_
              · go_wp2
                refine ⟨Or.inr (fun h => h), ?_⟩
                refine mixT_slots [9] (fuel := 3) rfl (by kernel_rfl) (by kernel_rfl) (fun d _ _ _ _ h => by cases d <;> exact h) ?_
                simp only [opersAt, List.getElem?_toArray, List.getElem?_cons_zero, List.getElem?_cons_succ]
                repeat (go_big_quiet_step (fail))
                refine wpQuiet_nil ?_
                refine mixT_one (k := 10) (by kernel_rfl) rfl ?_
                go_wp2
                refine ⟨Or.inr (fun _ => HX1.out), ?_⟩
                refine mixT_slots [11] (fuel := 1) rfl (by kernel_rfl) (by kernel_rfl) (fun d _ _ _ _ h => by cases d <;> exact h) ?_
                simp only [opersAt, List.getElem?_toArray, List.getElem?_cons_zero, List.getElem?_cons_succ]
                repeat (go_big_quiet_step (fail))
                refine wpQuiet_nil ?_
                refine mixT_one (k := 12) (by kernel_rfl) rfl ?_
                go_wp2
                refine ⟨Or.inl (by kernel_rfl), ?_⟩
                refine mixT_nil (by kernel_rfl) ?_
                go_wp2
                refine Met.intro ?_
                exact hJ.out () _ _ HR (by kernel_rfl)
              · go_wp2
                refine ⟨Or.inr (fun _ => HX1.out), ?_⟩
                refine mixT_slots [11] (fuel := 3) rfl (by kernel_rfl) (by kernel_rfl) (fun d _ _ _ _ h => by cases d <;> exact h) ?_
                simp only [opersAt, List.getElem?_toArray, List.getElem?_cons_zero, List.getElem?_cons_succ]
                repeat (go_big_quiet_step (fail))
                refine wpQuiet_nil ?_
                refine mixT_one (k := 8) (by kernel_rfl) rfl ?_
                go_wp2
                refine ⟨Or.inr (fun h => h), ?_⟩
                refine mixT_slots [9] (fuel := 1) rfl (by kernel_rfl) (by kernel_rfl) (fun d _ _ _ _ h => by cases d <;> exact h) ?_
                simp only [opersAt, List.getElem?_toArray, List.getElem?_cons_zero, List.getElem?_cons_succ]
                repeat (go_big_quiet_step (fail))
                refine wpQuiet_nil ?_
                refine mixT_one (k := 12) (by kernel_rfl) rfl ?_
                go_wp2
                refine ⟨Or.inl (by kernel_rfl), ?_⟩
                refine mixT_nil (by kernel_rfl) ?_
                go_wp2
                refine Met.intro ?_
                exact hJ.out () _ _ HR (by kernel_rfl)
            case rest =>
            intro x20 u20 V6 hcut
            dsimp only [isC20, maskL_keep, maskL_any, maskL_is, maskL_nil]
            obtain ⟨hmk6, hot6, hsz6, hbl6⟩ := hcut.out
            have HBL6 : Hid (Below V3.heap.size V3 V6) := HBN.out.trans hbl6
            have hkc6 := (hot6 C hCT).trans HKC.out
            have HMK6 := hide hmk6
            clear hcut hmk6 hot6 hbl6 HBN HMK2 HCN HCX c1 c2 zC hTB5 HKC hTBl
            have c0 : V6.cell? ⟨C, 0, none⟩ = some (.int .u8 c.action) := cells_all hkc6 0
            have c13 := chg_rng hkc6
            have zC := blk_lt hkc6
            have zM6 : M < V6.heap.size := by
              obtain ⟨v6, hv6⟩ := (HX3.out.below HBL6.out).md
              exact blk_lt hv6.top
            have HFIN : Hid (∀ W, Below V6.heap.size V6 W → Below V3.heap.size V3 W ∧ MapK W TB (j + 1) (.int .i64 0) (cntK ((fv.changes.map (·.row)).take (j + 1)))) := fun W hW => ⟨HBL6.out.trans (hW.mono HBL6.out.size), HMK6.out.same (hW.block _ HMK6.out.lt)⟩
            go_upto_region 21 with fail
            cases p1 : (c.action != 87) with
            | false =>
              as_aux_lemma =>
              have q1 : c.action = 87 := by simpa using p1
              go_wp2
              refine Handed.intro (nc - (j + 1)) (by omega) ?_
              exact hJ3.out _ (.int .i64 ((j + 1 : Nat) : Int)) _ _ ⟨j + 1, by omega, rfl, rfl, (HFIN.out _ (Below.refl _ _)).1, (HFIN.out _ (Below.refl _ _)).2⟩ (by kernel_rfl)
            | true =>
              as_aux_lemma =>
              have q1 : ¬ c.action = 87 := by simpa using p1
              have HJC : Hid (Calls Tryz.prog 43 #[.pointer (some ⟨M, 0, none⟩), .agg (rowCs c.row)] V6 fun e w' => e = .returned (.bool true) ∧ Below V6.heap.size V6 w') := by
                obtain ⟨v6, hv6⟩ := (HX3.out.below HBL6.out).md
                have ht := HCO.out.1.2.2
                have hj := just_calls V6 M _ v6 (mStep m p) c.row hv6 (by rw [HLOW.out]; have := HIQ.out.low.pr.v; omega) ⟨ht.1, by have := ht.1; have := ht.2; omega⟩ ⟨by have := ht.1; have := ht.2; omega, by have := ht.1; have := ht.2; omega⟩ ⟨by have := ht.1; have := ht.2; omega, ht.2.2.2⟩
                rw [HLOW.out, HJU.out q1] at hj
                exact hj
              go_wp2_with (go_at_call 43; refine HJC.out.mono ?_; rintro e V7 ⟨rfl, hb7⟩)
              refine Handed.intro (nc - (j + 1)) (by omega) ?_
              exact hJ3.out _ (.int .i64 ((j + 1 : Nat) : Int)) _ _ ⟨j + 1, by omega, rfl, rfl, (HFIN.out _ hb7).1, (HFIN.out _ hb7).2⟩ (by kernel_rfl)
          · obtain rfl : j = nc := by omega
            rw [List.take_of_length_le (by rw [List.length_map, ← Hm.out]; omega)] at HMK
            have hkF3 := (HBL.out.block _ (blk_lt HKF.out)).trans HKF.out
            have f0 : wr.cell? ⟨FB, 0, none⟩ = some (.int .u8 fv.kind) := cells_all hkF3 0
            have zF := blk_lt hkF3
            cases k67 : (fv.kind == 67) with
            | false =>
              as_aux_lemma =>
              have q1 : ¬ fv.kind = 67 := by simpa using k67
              have HE := hide (HNX3.out _ HBL.out)
              go_wp2
              refine Handed.intro (n - (q + 1)) (by omega) ?_
              exact hJ1.out _ (.int .i64 ((q + 1 : Nat) : Int)) _ _ ⟨q + 1, by omega, rfl, rfl, HE⟩ (by kernel_rfl)
            | true =>
              as_aux_lemma =>
              have q1 : fv.kind = 67 := by simpa using k67
              obtain ⟨hdue, hone⟩ := HISF.out.due q1
              have HDUE := hide hdue
              have HONE := hide hone
              obtain ⟨v9, hv9⟩ := (HX3.out.below HBL.out).md
              have HV9 := hide hv9
              obtain ⟨⟨p0, p1, p2, p3, kv, s1, s2, s3⟩, vu, va, vf9⟩ := v9
              have hlow9 := hv9.inn.low
              rw [HLOW.out] at hlow9
              obtain ⟨ra, rcap, rb, roff, hre, hrl, hrm, hrr, hra, hrc⟩ := RArr.lt hlow9.sm.b
              obtain ⟨nr, hnr⟩ : ∃ nr, nr = t.low.sm.rs.length := ⟨_, rfl⟩
              have HNR := hide hnr
              rw [← hnr] at hre hrl hrr hra
              dsimp only at hre
              have f6 : wr.cell? ⟨M, 6, none⟩ = some (.slice ra nr rcap) := by rw [← hre]; exact cells_all hv9.top 6
              subst hre
              have zM := blk_lt hv9.top
              have hir := run_indexAt_arr (P := Tryz.prog) (n := nr) (cap := rcap) Tryz.underlying37 Tryz.size92 (fun h => (hra h).1)
              have HRB : Hid (0 < nr → rb < wr.heap.size) := fun h => (hra h).2.2
              have HRC := hide hrc
              have hnr6 : nr ≤ 65536 := by have := HIQ.out.low.sm.b; omega
              have hlow9' : Hid (∀ V, Below wr.heap.size wr V → MAt V M (okM w K' M) ⟨⟨p0, p1, p2, p3, kv, s1, .slice ra nr rcap, s3⟩, vu, va, vf9⟩ (mStep m p)) := fun V hV => HV9.out.below hV
              clear hra hrc hnr hrm hrl hv9 hlow9 hdue hone HV9
              go_upto_region 27 with fail
              clear f6 q1 f0
              have HDU0 : Hid ((0 : Int) = (((t.low.sm.rs.take 0).filter (dueB t.low)).length : Int)) := rfl
              have HBW0 := hide (Below.refl wr.heap.size wr)
              generalize hwn : wr = X at *
              clear hwn
              refine wp_loop_mask isL3 (fun g y wr => ∃ (i d : Nat), i ≤ nr ∧ g = nr - i ∧ y = (.int .i64 d, .int .i64 i) ∧ d ≤ i ∧ Hid (d = ((t.low.sm.rs.take i).filter (dueB t.low)).length) ∧ Hid (Below X.heap.size X wr)) nr (.int .i64 0, .int .i64 0) ⟨0, 0, by omega, by omega, rfl, by omega, rfl, HBW0⟩ (by kernel_rfl) ?_
              clear HBW0 HDU0
              intro gk4 y4 u4 wr hrel J4 K4 hJ4 hK4
              dsimp only [isL3, maskL_keep, maskL_any, maskL_is, maskL_nil]
              obtain ⟨i, d, hi4, rfl, rfl, hdi, HDU, HBR⟩ := hrel
              by_cases hin : i < nr
              · as_aux_lemma =>
                have his : i < t.low.sm.rs.length := by rw [← HNR.out]; exact hin
                have hbb := HRB.out (by omega)
                have c0 := HRC.out i his
                rw [← rng_of_block (HBR.out.block _ hbb)] at c0
                have hbw : rb < wr.heap.size := by have := HBR.out.size; omega
                obtain ⟨sm, hsm⟩ := HUQ.out.smp (List.getElem_mem his)
                have HTK := hide (due_take his)
                have HJD := hide (due_just HVQ.out HNQ.out HUQ.out hsm (List.getElem_mem his))
                have HTM := hide ((HIQ.out.po (by omega)).times)
                have HSS := hide (HTM.out.s _ (smpGet_mem hsm))
                have HRR := hide (HTM.out.r _ (List.getElem_mem his))
                have HON := hide (HONE.out _ (List.getElem_mem his))
                have HRU : Hid (U32 t.low.sm.rs[i].sample ∧ U32 t.low.sm.rs[i].analyte) := by
                  have := (HIQ.out.low.sm.rk _ (List.getElem_mem his)).1
                  exact ⟨this.sample, this.analyte⟩
                have HSM := hide hsm
                clear hsm
                generalize t.low.sm.rs[i] = y at *
                go_upto_region 29 with fail
                have hb2 : Below wr.heap.size wr (wr.alloc (.cells (resCs y) 92)) := (Below.refl _ _).alloc (Nat.le_refl _) _
                have hky : (wr.alloc (.cells (resCs y) 92)).heap[wr.heap.size]? = some (.cells (resCs y) 92 (0, 0)) := heap_alloc_at _ _
                generalize wr.alloc (.cells (resCs y) 92) = V6 at *
                have HV6 : Hid (Below X.heap.size X V6) := HBR.out.trans (hb2.mono HBR.out.size)
                generalize wr.heap.size = DR at *
                clear c0 hbw hb2 HBR hir
                have hM6 := hlow9'.out _ HV6.out
                have g5 : rng V6 M 5 3 = some #[s1, .slice ra nr rcap, s3] := by have := hM6.lb.sm; simpa using this
                have e0 : V6.cell? ⟨DR, 0, none⟩ = some (.int .u32 y.sample) := cells_all hky 0
                have zD := blk_lt hky
                have zM6 := blk_lt hM6.top
                have HKY := hide hky
                clear hky hM6
                have HSC : Hid (∀ V, Below V6.heap.size V6 V → Calls Tryz.prog 28 #[.agg #[s1, .slice ra nr rcap, s3], .int .u32 y.sample] V fun e w' => e = .returned (.tuple #[.agg (smpCs sm), .bool true]) ∧ Below V.heap.size V w') := fun V hb => by
                  have h9 := hlow9'.out V (HV6.out.trans (hb.mono HV6.out.size))
                  have hl9 := h9.inn.low
                  rw [HLOW.out] at hl9
                  have := smpGet_calls V _ _ _ _ t.low.sm y.sample hl9.sm
                  rw [HSM.out] at this
                  exact this
                go_cut [17] (fun pv V => ∃ N, pv = .pointer (some ⟨N, 0, none⟩) ∧ Hid (V.heap[N]? = some (.cells (smpCs sm) 94 (0, 0))) ∧ Hid (Below V6.heap.size V6 V))
                case first =>
                  as_aux_lemma =>
                  refine wp_region_mixT (V6.heap.size) [3, 5] (by kernel_rfl) ?_
                  refine mixT_slots [0, 1, 2, 4] (fuel := 9) rfl (by kernel_rfl) (by kernel_rfl) (fun d _ _ _ _ h => by cases d <;> exact h) ?_
                  simp only [opersAt, List.getElem?_toArray, List.getElem?_cons_zero, List.getElem?_cons_succ]
                  repeat (go_big_quiet_step (fail))
                  refine wpQuiet_nil ?_
                  refine mixT_reads [3, 5] (fuel := 7) rfl (by kernel_rfl) (by decide) (by kernel_rfl) (fun d _ _ _ _ h => by cases d <;> exact h) (ext_drew _ _) ?_
                  simp only [opersAt, List.getElem?_toArray, List.getElem?_cons_zero, List.getElem?_cons_succ]
                  repeat (go_big_quiet_step (fail))
                  refine wpQuiet_nil ?_
                  refine mixT_two (k := 6) (k' := 10) (by kernel_rfl) rfl rfl ?_ ?_
                  · go_wp2_with (go_at_call 28; refine (HSC.out _ (Below.refl _ _).drew).mono ?_; rintro e w2 ⟨rfl, hb1⟩)
                    have hbw : Below V6.heap.size V6 w2 := (Below.refl _ _).drew.trans hb1
                    refine ⟨Or.inr (by intros; exact ⟨⟨_, hbw⟩, rfl⟩), ?_⟩
                    have hzz := hbw.size
                    refine mixT_slots [7, 8, 9] (fuel := 3) rfl (by kernel_rfl) (by kernel_rfl) (fun d _ _ _ _ h => by cases d <;> exact h) ?_
                    simp only [opersAt, List.getElem?_toArray, List.getElem?_cons_zero, List.getElem?_cons_succ]
                    repeat (go_big_quiet_step (fail))
                    refine wpQuiet_nil ?_
                    refine mixT_one (k := 10) (by kernel_rfl) rfl ?_
                    go_wp2
                    refine ⟨Or.inr (by intros; exact ⟨⟨_, hbw.alloc hzz _⟩, rfl⟩), ?_⟩
                    refine mixT_one (k := 11) (by kernel_rfl) rfl ?_
                    go_wp2
                    first
                      | refine ⟨Or.inl (by kernel_rfl), ?_⟩
                      | skip
                    refine mixT_one (k := 12) (by kernel_rfl) rfl ?_
                    go_wp2
                    first
                      | refine ⟨Or.inr (fun h => h), ?_⟩
                      | skip
                    refine mixT_nil (by kernel_rfl) ?_
                    go_wp2
                    go_meet
                    case rel => exact ⟨_, rfl, heap_alloc_at _ _, hbw.alloc hzz _⟩
                  · go_wp2
                    have hb0 : Below V6.heap.size V6 (V6.drew.alloc (.cells (smpCs smp0) 94)) := (Below.refl _ _).drew.alloc (Nat.le_refl _) _
                    refine ⟨Or.inr (by intros; exact ⟨⟨_, hb0⟩, rfl⟩), ?_⟩
                    refine mixT_one (k := 6) (by kernel_rfl) rfl ?_
                    go_wp2_with (go_at_call 28; refine (HSC.out _ hb0).mono ?_; rintro e w2 ⟨rfl, hb1⟩)
                    have hbw : Below V6.heap.size V6 w2 := hb0.trans (hb1.mono hb0.size)
                    refine ⟨Or.inr (by intros; exact ⟨⟨_, hbw⟩, rfl⟩), ?_⟩
                    have hgb : w2.heap[V6.heap.size]? = some (.cells (smpCs smp0) 94 (0, 0)) := (hb1.block _ (by simp)).trans (heap_alloc_at _ _)
                    have hwg : whole w2 V6.heap.size 8 = true := whole_blk hgb
                    have hgl := blk_lt hgb
                    refine mixT_slots [7, 8, 9] (fuel := 2) rfl (by kernel_rfl) (by kernel_rfl) (fun d _ _ _ _ h => by cases d <;> exact h) ?_
                    simp only [opersAt, List.getElem?_toArray, List.getElem?_cons_zero, List.getElem?_cons_succ]
                    repeat (go_big_quiet_step (fail))
                    refine wpQuiet_nil ?_
                    refine mixT_one (k := 11) (by kernel_rfl) rfl ?_
                    go_wp2
                    first
                      | refine ⟨Or.inl (by kernel_rfl), ?_⟩
                      | skip
                    refine mixT_one (k := 12) (by kernel_rfl) rfl ?_
                    go_wp2
                    first
                      | refine ⟨Or.inr (fun h => h), ?_⟩
                      | skip
                    refine mixT_nil (by kernel_rfl) ?_
                    go_wp2
                    go_meet
                    case rel => exact ⟨_, rfl, heap_setRow_at hgb, hbw.trans (below_setRow' _ _ (Nat.le_refl _))⟩
                case rest =>
                as_aux_lemma =>
                obtain ⟨N, rfl, HKS, HV7⟩ := hcut
                generalize wc = V7 at *
                have HW7 : Hid (Below X.heap.size X V7) := HV6.out.trans (HV7.out.mono HV6.out.size)
                have hky7 := (HV7.out.block _ (blk_lt HKY.out)).trans HKY.out
                have y1 : rng V7 N 0 8 = some (smpCs sm) := rng_whole HKS.out
                have y2 : rng V7 DR 0 6 = some (resCs y) := rng_whole hky7
                have zN := blk_lt HKS.out
                have zr := blk_lt hky7
                have HKY7 := hide hky7
                have HRO2 : Hid (Calls Tryz.prog 44 #[.pointer (some ⟨M, 0, none⟩), .agg (smpCs sm), .agg (resCs y)] V7 fun e w' => e = .returned (.agg (rowCs (rowM t.low sm y))) ∧ Below V7.heap.size V7 w') := by
                  have h9 := hlow9'.out V7 HW7.out
                  have hl9 := h9.inn.low
                  rw [HLOW.out] at hl9
                  exact mRowOf_calls V7 M _ _ t.low sm y h9.lb hl9 HTM.out.v
                have HJ2 : Hid (∀ V, Below V7.heap.size V7 V → Calls Tryz.prog 43 #[.pointer (some ⟨M, 0, none⟩), .agg (rowCs (rowM t.low sm y))] V fun e w' => e = .returned (.bool (dueB t.low y)) ∧ Below V.heap.size V w') := fun V hV => by
                  have h9 := hlow9'.out V (HW7.out.trans (hV.mono HW7.out.size))
                  have hj := just_calls V M _ _ (mStep m p) (rowM t.low sm y) h9 (by rw [HLOW.out]; exact HTM.out.v) HSS.out.1 HSS.out.2 HRR.out
                  rw [HLOW.out, HJD.out] at hj
                  exact hj
                clear e0 g5 zM6 zD HKS HKY hky7 HSC HV6 HV7 HJD HSM
                generalize rowM t.low sm y = ro at *
                cases hdb : dueB t.low y with
                | false =>
                  rw [hdb] at HTK HJ2
                  have HF : Hid (d = ((t.low.sm.rs.take (i + 1)).filter (dueB t.low)).length) := HDU.out.trans HTK.out.symm
                  go_wp2_with first
                    | (go_at_call 44; refine HRO2.out.mono ?_; rintro e V8 ⟨rfl, hb8⟩; have HJ8 := hide (HJ2.out _ hb8); clear HRO2)
                    | (go_at_call 43; refine HJ8.out.mono ?_; rintro e V9 ⟨rfl, hb9⟩)
                  refine Handed.intro (nr - (i + 1)) (by omega) ?_
                  exact hJ4.out _ (.int .i64 d, .int .i64 ((i + 1 : Nat) : Int)) _ _ ⟨i + 1, d, by omega, rfl, rfl, by omega, HF, HW7.out.trans ((hb8.trans (hb9.mono hb8.size)).mono HW7.out.size)⟩ (by kernel_rfl)
                | true =>
                  rw [hdb] at HTK HJ2
                  have HF : Hid (d + 1 = ((t.low.sm.rs.take (i + 1)).filter (dueB t.low)).length) := by show _ = _; rw [HTK.out, ← HDU.out]; rfl
                  have HON1 := hide (HON.out hdb)
                  go_upto_region 32 with first
                    | (go_at_call 44; refine HRO2.out.mono ?_; rintro e V8 ⟨rfl, hb8⟩; have HJ8 := hide (HJ2.out _ hb8); clear HRO2)
                    | (go_at_call 43; refine HJ8.out.mono ?_; rintro e V9 ⟨rfl, hb9⟩)
                  have HB9 : Hid (Below V7.heap.size V7 V9) := hb8.trans (hb9.mono hb8.size)
                  have HW9 : Hid (Below X.heap.size X V9) := HW7.out.trans (HB9.out.mono HW7.out.size)
                  have hky9 := (HB9.out.block _ zr).trans HKY7.out
                  have e0 : V9.cell? ⟨DR, 0, none⟩ = some (.int .u32 y.sample) := cells_all hky9 0
                  have e1 : V9.cell? ⟨DR, 1, none⟩ = some (.int .u32 y.analyte) := cells_all hky9 1
                  have zr9 := blk_lt hky9
                  have hlk := (HMK.out.same (w' := V9) (HW9.out.block _ HMK.out.lt)).look Tryz.mapInt (Tryz.zeroInt9 _) HRU.out.1 HRU.out.2
                  rw [HON1.out] at hlk
                  simp only [keyV, Option.getD_some] at hlk
                  have hd64 : (d : Int) + 1 ≤ 70000 := by omega
                  clear hb8 hb9 y1 y2
                  go_wp2
                  refine Handed.intro (nr - (i + 1)) (by omega) ?_
                  exact hJ4.out _ (.int .i64 ((d + 1 : Nat) : Int), .int .i64 ((i + 1 : Nat) : Int)) _ _ ⟨i + 1, d + 1, by omega, rfl, rfl, by omega, HF, HW9⟩ (by kernel_rfl)
              · as_aux_lemma =>
                obtain rfl : i = nr := by omega
                rw [List.take_of_length_le (by rw [← HNR.out]; omega), HDUE.out, ← Hm.out] at HDU
                have hdn := HDU.out
                have hkF4 := (HBR.out.block _ (blk_lt hkF3)).trans hkF3
                have f4 : wr.cell? ⟨FB, 4, none⟩ = some (.slice qa j qc) := cells_all hkF4 4
                have zF4 := blk_lt hkF4
                subst hdn
                have HE := hide (HNX3.out _ (HBL.out.trans (HBR.out.mono HBL.out.size)))
                go_wp2
                refine Handed.intro (n - (q + 1)) (by omega) ?_
                exact hJ1.out _ (.int .i64 ((q + 1 : Nat) : Int)) _ _ ⟨q + 1, by omega, rfl, rfl, HE⟩ (by kernel_rfl)
    · as_aux_lemma =>
      obtain ⟨K, hmx⟩ := HQ.out
      have hfin := hmx.bx.blw
      go_wp2
      go_ret
      exact ⟨rfl, hfin⟩
  · have hd : decide (total s ≤ 65536) = false := by simpa using hsm
    rw [hd] at HSm
    clear hd hsm ha hc hn hgl HNB hng
    go_enter Tryz.func9, Tryz.ntmps9
    go_wp2_with (go_at_call 18; refine HSm.out.mono ?_; rintro e w1 ⟨rfl, rfl⟩)
    go_ret
    exact ⟨rfl, Below.refl _ _⟩
end Go.Proofs.Qxb6500666aGreatDoor
