/- The model's RenderTrail, walked. (Made by tools/mk_mrtr.py.) -/
import Derived.Test.Qxb6500666aGreatDoorMTrQ
import Derived.BigQuiet
namespace Go.Proofs.Qxb6500666aGreatDoor
open Go.RowKit
/-- What the model's RenderTrail answers. -/
inductive MRt (w w' : World) (rn kn : Nat → ByteArray) (xs : List Ent) (e : Ending) : Prop
  | bad (he : e = .returned (.tuple #[.slice none 0 0, .bool false])) (hr : rtB 0 xs = false) (hb : Below w.heap.size w w') : MRt w w' rn kn xs e
  | good (v : Value) (he : e = .returned (.tuple #[v, .bool true])) (hr : rtB 0 xs = true) (hv : ByS w w' v (trText rn kn xs)) : MRt w w' rn kn xs e
attribute [local go_sem] ext_const Ext.cell Ext.frozen Ext.rng Ext.whole run_string_add_sum
attribute [local go_sem ↓] exec_ldReq exec_stReq exec_ldEnt exec_stEnt
attribute [local go_sem] run_ldReq run_stReq run_ldEnt run_stEnt entA_size entA_ones whole_alloc_lt whole_alloc_at whole_drew setRow_alloc_at setRow_alloc_lt rng_alloc_lt rng_alloc_at rng_drew rng_drewN rng_setRow_other whole_setRow_other run_ix0 run_ix1 run_ix2

set_option maxRecDepth 100000 in
set_option maxHeartbeats 60000000 in
theorem mrenderTrail_calls (w : World) (ok : Nat → Prop) (rn kn ft : Nat → ByteArray) (a : Option Addr) (n cap : Nat) (zs : List ZE) (h : RArr w ok 20 zeCs (.slice a n cap) zs) (hzp : ZipE w ok zs) (hlen : n ≤ 1000000000) (hnm : NmAt w rn kn ft) (hok : ∀ z ∈ zs, z.1.Ok) :
    Calls Tryz.prog 86 #[.slice a n cap] w fun e w' => MRt w w' rn kn (zs.map (·.1)) e := by
  obtain ⟨R, hR⟩ : ∃ R, R = rtB 0 (zs.map (·.1)) := ⟨_, rfl⟩
  have HR := hide hR
  obtain ⟨a', cap', b, off, hv, hl, hm, hr, ha, hc⟩ := RArr.lt h
  simp only [Value.slice.injEq] at hv
  obtain ⟨rfl, hn, rfl⟩ := hv
  have Hn : Hid (n = zs.length) := hn
  rw [← hn] at hl hr ha
  have hi := run_indexAt_arr (P := Tryz.prog) (n := n) (cap := cap) Tryz.underlying42 Tryz.size67_z (fun h => (ha h).1)
  have HB : Hid (0 < n → b < w.heap.size) := fun h => (ha h).2.2
  have HC := hide hc
  have HOk := hide hok
  have HZP := hide hzp
  have HNM := hide hnm
  clear ha hc hn hm hl h hR hok hzp hnm hr
  go_enter Tryz.func86, Tryz.ntmps86
  go_upto_region 1 with fail
  go_cut [4] (fun v W => ∃ B : ByteArray, v = .string B ∧ B.size ≤ 200 ∧ Hid (B = strOfNums (trHead n)) ∧ Hid (Below w.heap.size w W))
  case first =>
    as_aux_lemma =>
      go_wp2_with (go_at_call 151; refine (mnum_calls _ (n : Int) ⟨by omega, by omega⟩).mono ?_; rintro e V3 ⟨T3, rfl, HT3, hz3, hb3⟩)
      go_meet
      case rel =>
        refine ⟨_, rfl, ?_, ?_, hb3⟩
        · simp only [ByteArray.size_append]
          have l1 : ({ data := #[72, 124, 65, 124] } : ByteArray).size = 4 := rfl
          have l3 : ({ data := #[10] } : ByteArray).size = 1 := rfl
          omega
        · show _ = _
          rw [HT3.out, show ({ data := #[72, 124, 65, 124] } : ByteArray) = strOfNums [72, 124, 65, 124] from rfl, show ({ data := #[10] } : ByteArray) = strOfNums [10] from rfl]
          simp only [strOfNums_append]
          refine congrArg strOfNums ?_
          simp [trHead, fld]
  case rest =>
  obtain ⟨B0, rfl, hB0, HB0, HW0⟩ := hcut
  go_upto_region 3 with fail
  have hB00 : B0.size ≤ 200 + 1024 * 0 := by omega
  have HB00 : Hid (B0 = strOfNums (trHead n ++ flatL (trLine rn kn) ((zs.take 0).map (·.1)))) := by show _ = _; rw [HB0.out]; simp [flatL]
  have HR0 : Hid (R = rtB 0 ((zs.map (·.1)).drop 0)) := HR.out
  go_loopg [4, 20] n (fun gk v j W => ∃ (q : Nat) (B : ByteArray), q ≤ n ∧ gk = n - q ∧ v = .string B ∧ j = .int .i64 q ∧ B.size ≤ 200 + 1024 * q ∧ Hid (B = strOfNums (trHead n ++ flatL (trLine rn kn) ((zs.take q).map (·.1)))) ∧ Hid (Below w.heap.size w W) ∧ Hid (R = rtB q ((zs.map (·.1)).drop q)))
  case atStart => exact ⟨0, B0, by omega, by omega, rfl, rfl, hB00, HB00, HW0, HR0⟩
  clear hB00 HB00 hB0 HB0 HW0 HR0
  case round =>
    obtain ⟨q, B, hq, rfl, rfl, rfl, hBz, HBB, HWr, HRq⟩ := hrel
    by_cases hlt : q < n
    · have hqs : q < zs.length := by rw [← Hn.out]; exact hlt
      have hbb := HB.out (by omega)
      have c0 := HC.out q hqs
      rw [← rng_of_block (HWr.out.block _ hbb)] at c0
      have hbw : b < wr.heap.size := by have := HWr.out.size; omega
      have HCO := hide (HOk.out _ (List.getElem_mem hqs))
      have hzl := HZP.out _ (List.getElem_mem hqs)
      have HLT : Hid (flatL (trLine rn kn) ((zs.take (q + 1)).map (·.1)) = flatL (trLine rn kn) ((zs.take q).map (·.1)) ++ trLine rn kn zs[q].1) := by
        show _ = _
        rw [List.take_succ_eq_append_getElem hqs, List.map_append]
        exact flatL_snoc _ _ _
      have HRD : Hid (R = if entOk zs[q].1 (q + 1 : Nat) then rtB (q + 1) ((zs.map (·.1)).drop (q + 1)) else false) := HRq.out.trans (by
        rw [List.drop_eq_getElem_cons (by simpa using hqs), rtB]
        simp only [List.getElem_map])
      generalize zs[q] = z at *
      obtain ⟨x, ⟨la, ln, lc⟩⟩ := z
      simp only [zeCs, sv] at c0 hzl HCO HLT HRD
      have HZL := hide hzl
      have hlnn : ln = x.req.list.length := by
        obtain ⟨_, _, _, _, h1, _⟩ := hzl
        simp only [Value.slice.injEq] at h1
        exact h1.2.1
      obtain ⟨y, hy⟩ : ∃ y, trHead n ++ flatL (trLine rn kn) ((zs.take q).map (·.1)) = y := ⟨_, rfl⟩
      rw [hy] at HBB
      have HY := hide hy
      have HLN := hide hlnn
      clear hy hzl hlnn HRq
      obtain ⟨ec, hec⟩ : ∃ ec, ec = entA x (.slice la ln lc) := ⟨_, rfl⟩
      have HEC := hide hec
      have hz1 : ones ec 20 = true := by rw [hec]; rfl
      have hz2 : ec.size = 20 := by rw [hec]; rfl
      have hz3 : ec.extract 0 20 = ec := by rw [hec]; rfl
      rw [← hec] at c0
      obtain ⟨rc, hrc⟩ : ∃ rc, rc = reqA x.req (.slice la ln lc) := ⟨_, rfl⟩
      have HRC := hide hrc
      have hro : ones rc 17 = true := by rw [hrc]; rfl
      have hrs : rc.size = 17 := by rw [hrc]; rfl
      have hr3 : rc.extract 0 17 = rc := by rw [hrc]; rfl
      clear hec hrc
      go_upto_region 4 with fail
      go_cut [5, 6] (fun i p W => i = .int .i64 q ∧ p = .pointer (some ⟨wr.heap.size, 0, none⟩) ∧ Hid (Below wr.heap.size wr W) ∧ Hid (W.heap[wr.heap.size]? = some (.cells ec 67 (0, 0))))
      case first =>
        as_aux_lemma =>
          go_wp2
          go_meet
          case rel => exact ⟨rfl, rfl, (Below.refl _ _).alloc (Nat.le_refl _) _, heap_alloc_at _ _⟩
      case rest =>
      obtain ⟨rfl, rfl, HB5, HX5⟩ := hcut
      generalize wc = w5 at *
      clear c0 hbw hi
      go_upto_region 5 with fail
      go_cut [7] (fun p W => p = .pointer (some ⟨w5.heap.size, 0, none⟩) ∧ Hid (Below wr.heap.size wr W) ∧ Hid (W.heap[wr.heap.size]? = some (.cells ec 67 (0, 0))) ∧ Hid (W.heap[w5.heap.size]? = some (.cells rc 53 (0, 0))))
      case first =>
        as_aux_lemma =>
          have hre : rng w5 wr.heap.size 3 17 = some rc := by unfold Qxb6500666aGreatDoor.rng; rw [HX5.out, HEC.out, HRC.out]; rfl
          have hle := blk_lt HX5.out
          go_wp2
          go_meet
          case rel => exact ⟨rfl, HB5.out.alloc HB5.out.size _, (Below.heap_alloc _ _ _ hle).trans HX5.out, heap_alloc_at _ _⟩
      case rest =>
      obtain ⟨rfl, HB7, HXE, HXQ⟩ := hcut
      generalize wc = V at *
      have HWV : Hid (Below w.heap.size w V) := HWr.out.trans (HB7.out.mono HWr.out.size)
      have zE := blk_lt HXE.out
      have zQ := blk_lt HXQ.out
      have HNV : Hid (∀ W, Below V.heap.size V W → NmAt W rn kn ft) := fun W hW => (HNM.out.below HWV.out).below hW
      generalize wr.heap.size = E at *
      generalize w5.heap.size = Q at *
      obtain ⟨t0, ht0⟩ : ∃ t0, t0 = entOk x (q + 1 : Nat) := ⟨_, rfl⟩
      rw [← ht0] at HRD
      have HT0 := hide ht0
      clear ht0 HB5 HX5 HB7 HWr
      have hqm : ((q : Int) + 1) % 4294967296 = (q : Int) + 1 := by omega
      go_upto_region 6 with fail
      go_cut [54] (fun v W => v = .bool (! t0) ∧ V = W)
      case first =>
        as_aux_lemma =>
          have cE0 : V.cell? ⟨E, 0, none⟩ = some (.int .u32 x.seq) := by rw [World.cell?, HXE.out, HEC.out]; rfl
          have cE1 : V.cell? ⟨E, 1, none⟩ = some (.int .u8 x.role) := by rw [World.cell?, HXE.out, HEC.out]; rfl
          have cQ0 : V.cell? ⟨Q, 0, none⟩ = some (.int .u8 x.req.kind) := by rw [World.cell?, HXQ.out, HRC.out]; rfl
          have cQ16 : V.cell? ⟨Q, 16, none⟩ = some (.slice la ln lc) := by rw [World.cell?, HXQ.out, HRC.out]; rfl
          have hqc : ((q : Int) + 1) = ((q + 1 : Nat) : Int) := by omega
          have HTT : Hid (t0 = if (x.seq == (q : Int) + 1) then (if roleOk x.role then (if isCmd x.req.kind then decide (ln ≤ 12) else false) else false) else false) := by
            show _ = _
            rw [HT0.out, entOk, HLN.out, hqc]
          clear hqc
          cases q0 : (x.seq == (q : Int) + 1) with
          | false =>
            obtain rfl : t0 = false := HTT.out.trans (by rw [q0]; rfl)
            have q0' : (x.seq != (q : Int) + 1) = true := by rw [bne, q0]; rfl
            go_wp2
            go_meet
            case rel => exact ⟨rfl, rfl⟩
          | true =>
            have q0' : (x.seq != (q : Int) + 1) = false := by rw [bne, q0]; rfl
            cases q1 : roleOk x.role with
            | false =>
              obtain rfl : t0 = false := HTT.out.trans (by rw [q0, q1]; rfl)
              cases r1 : decide (x.role < 1) with
              | true =>
                clear q1
                go_wp2
                go_meet
                case rel => exact ⟨rfl, rfl⟩
              | false =>
                have r2 : decide (6 < x.role) = true := by
                  unfold roleOk at q1
                  simp at q1 r1 ⊢
                  omega
                clear q1
                go_wp2
                go_meet
                case rel => exact ⟨rfl, rfl⟩
            | true =>
              have r1 : decide (x.role < 1) = false := by
                unfold roleOk at q1
                simp at q1 ⊢
                omega
              have r2 : decide (6 < x.role) = false := by
                unfold roleOk at q1
                simp at q1 ⊢
                omega
              cases q2 : isCmd x.req.kind with
              | false =>
                obtain rfl : t0 = false := HTT.out.trans (by rw [q0, q1, q2]; rfl)
                clear q1
                go_wp2_with (go_at_call 26; refine (isCmd_calls _ _).mono ?_; rintro e w9 ⟨rfl, hw9⟩; have hw8 := hw9.symm; subst hw8; rw [q2])
                go_meet
                case rel => exact ⟨rfl, rfl⟩
              | true =>
                have hT : t0 = decide (ln ≤ 12) := HTT.out.trans (by rw [q0, q1, q2]; rfl)
                clear q1
                cases q3 : decide ((12 : Int) < ln) with
                | true =>
                  obtain rfl : t0 = false := hT.trans (by simp at q3 ⊢; omega)
                  clear hT
                  go_wp2_with (go_at_call 26; refine (isCmd_calls _ _).mono ?_; rintro e w9 ⟨rfl, hw9⟩; have hw8 := hw9.symm; subst hw8; rw [q2])
                  go_meet
                  case rel => exact ⟨rfl, rfl⟩
                | false =>
                  obtain rfl : t0 = true := hT.trans (by simp at q3 ⊢; omega)
                  clear hT
                  go_wp2_with (go_at_call 26; refine (isCmd_calls _ _).mono ?_; rintro e w9 ⟨rfl, hw9⟩; have hw8 := hw9.symm; subst hw8; rw [q2])
                  go_meet
                  case rel => exact ⟨rfl, rfl⟩
      case rest =>
      obtain ⟨rfl, rfl⟩ := hcut
      cases t0 with
      | false =>
        have HF : Hid (R = false) := HRD.out
        go_wp2
        refine bodyPost_ret (v := .tuple #[.slice none 0 0, .bool false]) (by simp [results, Tryz.results86]) rfl ?_
        exact .bad rfl (by rw [← HR.out]; exact HF.out) HWV.out
      | true =>
      have HRN : Hid (R = rtB (q + 1) ((zs.map (·.1)).drop (q + 1))) := HRD.out
      have HEV := hide (entV.1 HT0.out.symm)
      have HSU : Hid (U32 x.seq) := by show U32 x.seq; rw [HEV.out.seq]; exact ⟨by omega, by omega⟩
      have hl12 : ln ≤ 12 := by rw [HLN.out]; exact HEV.out.len
      clear HRD HT0 hqm
      obtain ⟨RN, hRN⟩ : ∃ RN, RN = nmOf rn 6 x.role := ⟨_, rfl⟩
      obtain ⟨KN, hKN⟩ : ∃ KN, KN = nmOf kn 30 x.req.kind := ⟨_, rfl⟩
      have hRz : RN.size ≤ 64 := by rw [hRN]; exact nmOf_size HNM.out.rs
      have hKz : KN.size ≤ 64 := by rw [hKN]; exact nmOf_size HNM.out.ks
      have HRS : Hid (∀ W, Below V.heap.size V W → Calls Tryz.prog 137 #[.int .u8 x.role] W fun e w' => e = .returned (.string RN) ∧ w' = W) := fun W hW => by rw [hRN]; exact roleStr_calls W rn kn ft x.role (HNV.out W hW) HCO.out.role
      have HKS : Hid (∀ W, Below V.heap.size V W → Calls Tryz.prog 138 #[.int .u8 x.req.kind] W fun e w' => e = .returned (.string KN) ∧ w' = W) := fun W hW => by rw [hKN]; exact kindStr_calls W rn kn ft x.req.kind (HNV.out W hW) HCO.out.req.kind
      have HRE : Hid (RN = strOfNums (strB (nmOf rn 6 x.role))) := by show _ = _; rw [hRN]; exact strOfNums_strB _
      have HKE : Hid (KN = strOfNums (strB (nmOf kn 30 x.req.kind))) := by show _ = _; rw [hKN]; exact strOfNums_strB _
      clear hRN hKN
      go_upto_region 8 with fail
      go_cut [4] (fun v W => ∃ B' : ByteArray, v = .string B' ∧ B'.size ≤ 200 + 1024 * q + 430 ∧ Hid (B' = strOfNums (y ++ ln16 rn kn x)) ∧ Hid (Below V.heap.size V W))
      case first =>
        as_aux_lemma =>
          have hrl1 := HCO.out.req.role.1
          have hrl2 := HCO.out.req.role.2
          have hcl1 := HCO.out.req.cls.1
          have hcl2 := HCO.out.req.cls.2
          have cseq : V.cell? ⟨E, 0, none⟩ = some (.int .u32 x.seq) := by rw [World.cell?, HXE.out, HEC.out]; rfl
          have crol : V.cell? ⟨E, 1, none⟩ = some (.int .u8 x.role) := by rw [World.cell?, HXE.out, HEC.out]; rfl
          have ciss : V.cell? ⟨E, 2, none⟩ = some (.int .u32 x.issued) := by rw [World.cell?, HXE.out, HEC.out]; rfl
          have cq0 : V.cell? ⟨Q, 0, none⟩ = some (.int .u8 x.req.kind) := by rw [World.cell?, HXQ.out, HRC.out]; rfl
          have cq1 : V.cell? ⟨Q, 1, none⟩ = some (.int .u32 x.req.user) := by rw [World.cell?, HXQ.out, HRC.out]; rfl
          have cq2 : V.cell? ⟨Q, 2, none⟩ = some (.int .i64 x.req.now) := by rw [World.cell?, HXQ.out, HRC.out]; rfl
          have cq3 : V.cell? ⟨Q, 3, none⟩ = some (.int .u32 x.req.id) := by rw [World.cell?, HXQ.out, HRC.out]; rfl
          have cq4 : V.cell? ⟨Q, 4, none⟩ = some (.int .u32 x.req.ref) := by rw [World.cell?, HXQ.out, HRC.out]; rfl
          have cq5 : V.cell? ⟨Q, 5, none⟩ = some (.int .u32 x.req.kit) := by rw [World.cell?, HXQ.out, HRC.out]; rfl
          have cq6 : V.cell? ⟨Q, 6, none⟩ = some (.int .u32 x.req.subject) := by rw [World.cell?, HXQ.out, HRC.out]; rfl
          have cq7 : V.cell? ⟨Q, 7, none⟩ = some (.int .u32 x.req.visit) := by rw [World.cell?, HXQ.out, HRC.out]; rfl
          have cq8 : V.cell? ⟨Q, 8, none⟩ = some (.int .u8 x.req.role) := by rw [World.cell?, HXQ.out, HRC.out]; rfl
          have cq9 : V.cell? ⟨Q, 9, none⟩ = some (.int .u8 x.req.cls) := by rw [World.cell?, HXQ.out, HRC.out]; rfl
          have cq10 : V.cell? ⟨Q, 10, none⟩ = some (.int .i64 x.req.time) := by rw [World.cell?, HXQ.out, HRC.out]; rfl
          have cq11 : V.cell? ⟨Q, 11, none⟩ = some (.int .i64 x.req.till) := by rw [World.cell?, HXQ.out, HRC.out]; rfl
          have cq12 : V.cell? ⟨Q, 12, none⟩ = some (.int .i64 x.req.value) := by rw [World.cell?, HXQ.out, HRC.out]; rfl
          simp only [List.append_eq, List.cons_append, List.nil_append]
          refine wp_region_mixT (V.heap.size) [2, 7, 12, 17, 22, 27, 32, 37, 42, 47, 52, 57, 63, 69, 74, 79] (by kernel_rfl) ?_
          refine mixT_slots [0, 1, 6, 11, 16, 21, 26, 31, 36, 41, 46, 51, 56, 62, 68, 73, 78] (fuel := 67) rfl (by kernel_rfl) (by kernel_rfl) (fun d _ _ _ _ h => by cases d <;> exact h) ?_
          simp only [opersAt, List.getElem?_toArray, List.getElem?_cons_zero, List.getElem?_cons_succ]
          repeat (go_big_quiet_step (fail))
          refine wpQuiet_nil ?_
          refine mixT_reads [2, 7, 12, 17, 22, 27, 32, 37, 42, 47, 52, 57, 63, 69, 74, 79] (fuel := 51) rfl (by kernel_rfl) (by decide) (by kernel_rfl) (fun d _ _ _ _ h => by cases d <;> exact h) (ext_drew _ _) ?_
          simp only [opersAt, List.getElem?_toArray, List.getElem?_cons_zero, List.getElem?_cons_succ]
          repeat (go_big_quiet_step (fail))
          refine wpQuiet_nil ?_
          refine mixT_slots [58, 64] (fuel := 49) rfl (by kernel_rfl) (by kernel_rfl) (fun d _ _ _ _ h => by cases d <;> exact h) ?_
          simp only [opersAt, List.getElem?_toArray, List.getElem?_cons_zero, List.getElem?_cons_succ]
          repeat (go_big_quiet_step (fail))
          refine wpQuiet_nil ?_
          refine mixT_one (k := 3) (by kernel_rfl) rfl ?_
          go_wp2_with (go_at_call 150; refine (mid_calls _ x.seq HSU.out).mono ?_; rintro e V1 ⟨T1, rfl, HT1, hz1, hb1⟩)
          have HC1 : Hid (Below V.heap.size V V1) := ((Below.refl V.heap.size V).drew).trans (hb1.mono ((Below.refl V.heap.size V).drew).size)
          refine ⟨Or.inr (by intros; exact ⟨⟨_, HC1.out⟩, rfl⟩), ?_⟩
          clear hb1
          refine mixT_slots [4, 5] (fuel := 46) rfl (by kernel_rfl) (by kernel_rfl) (fun d _ _ _ _ h => by cases d <;> exact h) ?_
          simp only [opersAt, List.getElem?_toArray, List.getElem?_cons_zero, List.getElem?_cons_succ]
          repeat (go_big_quiet_step (fail))
          refine wpQuiet_nil ?_
          refine mixT_one (k := 8) (by kernel_rfl) rfl ?_
          go_wp2_with (go_at_call 137; refine (HRS.out _ (HC1.out)).mono ?_; rintro e V2 ⟨rfl, hw2⟩; have hx2 := hw2.symm; subst hx2)
          have HC2 := HC1
          refine ⟨Or.inr (by intros; exact ⟨⟨_, HC2.out⟩, rfl⟩), ?_⟩
          refine mixT_slots [9, 10] (fuel := 43) rfl (by kernel_rfl) (by kernel_rfl) (fun d _ _ _ _ h => by cases d <;> exact h) ?_
          simp only [opersAt, List.getElem?_toArray, List.getElem?_cons_zero, List.getElem?_cons_succ]
          repeat (go_big_quiet_step (fail))
          refine wpQuiet_nil ?_
          refine mixT_one (k := 13) (by kernel_rfl) rfl ?_
          go_wp2_with (go_at_call 150; refine (mid_calls _ x.issued HCO.out.issued).mono ?_; rintro e V3 ⟨T3, rfl, HT3, hz3, hb3⟩)
          have HC3 : Hid (Below V.heap.size V V3) := (HC2.out).trans (hb3.mono (HC2.out).size)
          refine ⟨Or.inr (by intros; exact ⟨⟨_, HC3.out⟩, rfl⟩), ?_⟩
          clear hb3
          refine mixT_slots [14, 15] (fuel := 40) rfl (by kernel_rfl) (by kernel_rfl) (fun d _ _ _ _ h => by cases d <;> exact h) ?_
          simp only [opersAt, List.getElem?_toArray, List.getElem?_cons_zero, List.getElem?_cons_succ]
          repeat (go_big_quiet_step (fail))
          refine wpQuiet_nil ?_
          refine mixT_one (k := 18) (by kernel_rfl) rfl ?_
          go_wp2_with (go_at_call 138; refine (HKS.out _ (HC3.out)).mono ?_; rintro e V4 ⟨rfl, hw4⟩; have hx4 := hw4.symm; subst hx4)
          have HC4 := HC3
          refine ⟨Or.inr (by intros; exact ⟨⟨_, HC4.out⟩, rfl⟩), ?_⟩
          refine mixT_slots [19, 20] (fuel := 37) rfl (by kernel_rfl) (by kernel_rfl) (fun d _ _ _ _ h => by cases d <;> exact h) ?_
          simp only [opersAt, List.getElem?_toArray, List.getElem?_cons_zero, List.getElem?_cons_succ]
          repeat (go_big_quiet_step (fail))
          refine wpQuiet_nil ?_
          refine mixT_one (k := 23) (by kernel_rfl) rfl ?_
          go_wp2_with (go_at_call 150; refine (mid_calls _ x.req.user HCO.out.req.user).mono ?_; rintro e V5 ⟨T5, rfl, HT5, hz5, hb5⟩)
          have HC5 : Hid (Below V.heap.size V V5) := (HC4.out).trans (hb5.mono (HC4.out).size)
          refine ⟨Or.inr (by intros; exact ⟨⟨_, HC5.out⟩, rfl⟩), ?_⟩
          clear hb5
          refine mixT_slots [24, 25] (fuel := 34) rfl (by kernel_rfl) (by kernel_rfl) (fun d _ _ _ _ h => by cases d <;> exact h) ?_
          simp only [opersAt, List.getElem?_toArray, List.getElem?_cons_zero, List.getElem?_cons_succ]
          repeat (go_big_quiet_step (fail))
          refine wpQuiet_nil ?_
          refine mixT_one (k := 28) (by kernel_rfl) rfl ?_
          go_wp2_with (go_at_call 151; refine (mnum_calls _ x.req.now HCO.out.req.now).mono ?_; rintro e V6 ⟨T6, rfl, HT6, hz6, hb6⟩)
          have HC6 : Hid (Below V.heap.size V V6) := (HC5.out).trans (hb6.mono (HC5.out).size)
          refine ⟨Or.inr (by intros; exact ⟨⟨_, HC6.out⟩, rfl⟩), ?_⟩
          clear hb6
          refine mixT_slots [29, 30] (fuel := 31) rfl (by kernel_rfl) (by kernel_rfl) (fun d _ _ _ _ h => by cases d <;> exact h) ?_
          simp only [opersAt, List.getElem?_toArray, List.getElem?_cons_zero, List.getElem?_cons_succ]
          repeat (go_big_quiet_step (fail))
          refine wpQuiet_nil ?_
          refine mixT_one (k := 33) (by kernel_rfl) rfl ?_
          go_wp2_with (go_at_call 150; refine (mid_calls _ x.req.id HCO.out.req.id).mono ?_; rintro e V7 ⟨T7, rfl, HT7, hz7, hb7⟩)
          have HC7 : Hid (Below V.heap.size V V7) := (HC6.out).trans (hb7.mono (HC6.out).size)
          refine ⟨Or.inr (by intros; exact ⟨⟨_, HC7.out⟩, rfl⟩), ?_⟩
          clear hb7
          refine mixT_slots [34, 35] (fuel := 28) rfl (by kernel_rfl) (by kernel_rfl) (fun d _ _ _ _ h => by cases d <;> exact h) ?_
          simp only [opersAt, List.getElem?_toArray, List.getElem?_cons_zero, List.getElem?_cons_succ]
          repeat (go_big_quiet_step (fail))
          refine wpQuiet_nil ?_
          refine mixT_one (k := 38) (by kernel_rfl) rfl ?_
          go_wp2_with (go_at_call 150; refine (mid_calls _ x.req.ref HCO.out.req.ref).mono ?_; rintro e V8 ⟨T8, rfl, HT8, hz8, hb8⟩)
          have HC8 : Hid (Below V.heap.size V V8) := (HC7.out).trans (hb8.mono (HC7.out).size)
          refine ⟨Or.inr (by intros; exact ⟨⟨_, HC8.out⟩, rfl⟩), ?_⟩
          clear hb8
          refine mixT_slots [39, 40] (fuel := 25) rfl (by kernel_rfl) (by kernel_rfl) (fun d _ _ _ _ h => by cases d <;> exact h) ?_
          simp only [opersAt, List.getElem?_toArray, List.getElem?_cons_zero, List.getElem?_cons_succ]
          repeat (go_big_quiet_step (fail))
          refine wpQuiet_nil ?_
          refine mixT_one (k := 43) (by kernel_rfl) rfl ?_
          go_wp2_with (go_at_call 150; refine (mid_calls _ x.req.kit HCO.out.req.kit).mono ?_; rintro e V9 ⟨T9, rfl, HT9, hz9, hb9⟩)
          have HC9 : Hid (Below V.heap.size V V9) := (HC8.out).trans (hb9.mono (HC8.out).size)
          refine ⟨Or.inr (by intros; exact ⟨⟨_, HC9.out⟩, rfl⟩), ?_⟩
          clear hb9
          refine mixT_slots [44, 45] (fuel := 22) rfl (by kernel_rfl) (by kernel_rfl) (fun d _ _ _ _ h => by cases d <;> exact h) ?_
          simp only [opersAt, List.getElem?_toArray, List.getElem?_cons_zero, List.getElem?_cons_succ]
          repeat (go_big_quiet_step (fail))
          refine wpQuiet_nil ?_
          refine mixT_one (k := 48) (by kernel_rfl) rfl ?_
          go_wp2_with (go_at_call 150; refine (mid_calls _ x.req.subject HCO.out.req.subject).mono ?_; rintro e V10 ⟨T10, rfl, HT10, hz10, hb10⟩)
          have HC10 : Hid (Below V.heap.size V V10) := (HC9.out).trans (hb10.mono (HC9.out).size)
          refine ⟨Or.inr (by intros; exact ⟨⟨_, HC10.out⟩, rfl⟩), ?_⟩
          clear hb10
          refine mixT_slots [49, 50] (fuel := 19) rfl (by kernel_rfl) (by kernel_rfl) (fun d _ _ _ _ h => by cases d <;> exact h) ?_
          simp only [opersAt, List.getElem?_toArray, List.getElem?_cons_zero, List.getElem?_cons_succ]
          repeat (go_big_quiet_step (fail))
          refine wpQuiet_nil ?_
          refine mixT_one (k := 53) (by kernel_rfl) rfl ?_
          go_wp2_with (go_at_call 150; refine (mid_calls _ x.req.visit HCO.out.req.visit).mono ?_; rintro e V11 ⟨T11, rfl, HT11, hz11, hb11⟩)
          have HC11 : Hid (Below V.heap.size V V11) := (HC10.out).trans (hb11.mono (HC10.out).size)
          refine ⟨Or.inr (by intros; exact ⟨⟨_, HC11.out⟩, rfl⟩), ?_⟩
          clear hb11
          refine mixT_slots [54, 55] (fuel := 16) rfl (by kernel_rfl) (by kernel_rfl) (fun d _ _ _ _ h => by cases d <;> exact h) ?_
          simp only [opersAt, List.getElem?_toArray, List.getElem?_cons_zero, List.getElem?_cons_succ]
          repeat (go_big_quiet_step (fail))
          refine wpQuiet_nil ?_
          refine mixT_one (k := 59) (by kernel_rfl) rfl ?_
          go_wp2_with (go_at_call 151; refine (mnum_calls _ x.req.role ⟨by omega, by omega⟩).mono ?_; rintro e V12 ⟨T12, rfl, HT12, hz12, hb12⟩)
          have HC12 : Hid (Below V.heap.size V V12) := (HC11.out).trans (hb12.mono (HC11.out).size)
          refine ⟨Or.inr (by intros; exact ⟨⟨_, HC12.out⟩, rfl⟩), ?_⟩
          clear hb12
          refine mixT_slots [60, 61] (fuel := 13) rfl (by kernel_rfl) (by kernel_rfl) (fun d _ _ _ _ h => by cases d <;> exact h) ?_
          simp only [opersAt, List.getElem?_toArray, List.getElem?_cons_zero, List.getElem?_cons_succ]
          repeat (go_big_quiet_step (fail))
          refine wpQuiet_nil ?_
          refine mixT_one (k := 65) (by kernel_rfl) rfl ?_
          go_wp2_with (go_at_call 151; refine (mnum_calls _ x.req.cls ⟨by omega, by omega⟩).mono ?_; rintro e V13 ⟨T13, rfl, HT13, hz13, hb13⟩)
          have HC13 : Hid (Below V.heap.size V V13) := (HC12.out).trans (hb13.mono (HC12.out).size)
          refine ⟨Or.inr (by intros; exact ⟨⟨_, HC13.out⟩, rfl⟩), ?_⟩
          clear hb13
          refine mixT_slots [66, 67] (fuel := 10) rfl (by kernel_rfl) (by kernel_rfl) (fun d _ _ _ _ h => by cases d <;> exact h) ?_
          simp only [opersAt, List.getElem?_toArray, List.getElem?_cons_zero, List.getElem?_cons_succ]
          repeat (go_big_quiet_step (fail))
          refine wpQuiet_nil ?_
          refine mixT_one (k := 70) (by kernel_rfl) rfl ?_
          go_wp2_with (go_at_call 151; refine (mnum_calls _ x.req.time HCO.out.req.time).mono ?_; rintro e V14 ⟨T14, rfl, HT14, hz14, hb14⟩)
          have HC14 : Hid (Below V.heap.size V V14) := (HC13.out).trans (hb14.mono (HC13.out).size)
          refine ⟨Or.inr (by intros; exact ⟨⟨_, HC14.out⟩, rfl⟩), ?_⟩
          clear hb14
          refine mixT_slots [71, 72] (fuel := 7) rfl (by kernel_rfl) (by kernel_rfl) (fun d _ _ _ _ h => by cases d <;> exact h) ?_
          simp only [opersAt, List.getElem?_toArray, List.getElem?_cons_zero, List.getElem?_cons_succ]
          repeat (go_big_quiet_step (fail))
          refine wpQuiet_nil ?_
          refine mixT_one (k := 75) (by kernel_rfl) rfl ?_
          go_wp2_with (go_at_call 151; refine (mnum_calls _ x.req.till HCO.out.req.till).mono ?_; rintro e V15 ⟨T15, rfl, HT15, hz15, hb15⟩)
          have HC15 : Hid (Below V.heap.size V V15) := (HC14.out).trans (hb15.mono (HC14.out).size)
          refine ⟨Or.inr (by intros; exact ⟨⟨_, HC15.out⟩, rfl⟩), ?_⟩
          clear hb15
          refine mixT_slots [76, 77] (fuel := 4) rfl (by kernel_rfl) (by kernel_rfl) (fun d _ _ _ _ h => by cases d <;> exact h) ?_
          simp only [opersAt, List.getElem?_toArray, List.getElem?_cons_zero, List.getElem?_cons_succ]
          repeat (go_big_quiet_step (fail))
          refine wpQuiet_nil ?_
          refine mixT_one (k := 80) (by kernel_rfl) rfl ?_
          go_wp2_with (go_at_call 151; refine (mnum_calls _ x.req.value HCO.out.req.value).mono ?_; rintro e V16 ⟨T16, rfl, HT16, hz16, hb16⟩)
          have HC16 : Hid (Below V.heap.size V V16) := (HC15.out).trans (hb16.mono (HC15.out).size)
          refine ⟨Or.inr (by intros; exact ⟨⟨_, HC16.out⟩, rfl⟩), ?_⟩
          clear hb16
          refine mixT_slots [81, 82, 83] (fuel := 0) rfl (by kernel_rfl) (by kernel_rfl) (fun d _ _ _ _ h => by cases d <;> exact h) ?_
          simp only [opersAt, List.getElem?_toArray, List.getElem?_cons_zero, List.getElem?_cons_succ]
          repeat (go_big_quiet_step (fail))
          refine wpQuiet_nil ?_
          refine mixT_nil (by kernel_rfl) ?_
          go_wp2
          go_meet
          case rel =>
            refine ⟨_, rfl, ?_, ?_, HC16⟩
            · simp only [ByteArray.size_append]
              have l1 : ({ data := #[69, 124] } : ByteArray).size = 2 := rfl
              have l2 : ({ data := #[124] } : ByteArray).size = 1 := rfl
              omega
            · show _ = _
              rw [HRE.out, HKE.out, HBB.out, HT1.out, HT3.out, HT5.out, HT6.out, HT7.out, HT8.out, HT9.out, HT10.out, HT11.out, HT12.out, HT13.out, HT14.out, HT15.out, HT16.out, show ({ data := #[69, 124] } : ByteArray) = strOfNums [69, 124] from rfl, show ({ data := #[124] } : ByteArray) = strOfNums [124] from rfl]
              simp only [strOfNums_append]
              refine congrArg strOfNums ?_
              unfold ln16 fld
              simp only [List.append_assoc, List.cons_append, List.nil_append]
      case rest =>
      obtain ⟨B8, rfl, hB8, HB8, HW8⟩ := hcut
      generalize wc = V8 at *
      clear HBB hBz HRS HKS HRE HKE hRz hKz
      go_upto_region 9 with fail
      go_cut [139, 140] (fun a j W => a = .agg #[.int .i64 x.req.l0, .int .i64 x.req.l1, .int .i64 x.req.l2] ∧ j = .int .i64 0 ∧ V8 = W)
      case first =>
        as_aux_lemma =>
          have hxq8 : V8.heap[Q]? = some (.cells rc 53 (0, 0)) := (HW8.out.block _ zQ).trans HXQ.out
          have r13 : V8.cell? ⟨Q, 13, none⟩ = some (.int .i64 x.req.l0) := by rw [World.cell?, hxq8, HRC.out]; rfl
          have r14 : V8.cell? ⟨Q, 14, none⟩ = some (.int .i64 x.req.l1) := by rw [World.cell?, hxq8, HRC.out]; rfl
          have r15 : V8.cell? ⟨Q, 15, none⟩ = some (.int .i64 x.req.l2) := by rw [World.cell?, hxq8, HRC.out]; rfl
          have hlk := blk_lt hxq8
          clear hxq8
          go_wp2
          go_meet
          case rel => exact ⟨rfl, rfl, rfl⟩
      case rest =>
      obtain ⟨rfl, rfl, rfl⟩ := hcut
      go_upto_region 10 with fail
      have HB80 : Hid (B8 = strOfNums (y ++ ln16 rn kn x ++ lmT x.req 0)) := by show _ = _; rw [HB8.out, show lmT x.req 0 = [] from rfl, List.append_nil]
      go_loopg [4, 140] 3 (fun gk v j W => ∃ (r : Nat) (B' : ByteArray), r ≤ 3 ∧ gk = 3 - r ∧ v = .string B' ∧ j = .int .i64 r ∧ B'.size ≤ 200 + 1024 * q + 430 + 21 * r ∧ Hid (B' = strOfNums (y ++ ln16 rn kn x ++ lmT x.req r)) ∧ Hid (Below V.heap.size V W))
      case atStart => exact ⟨0, B8, by omega, by omega, rfl, rfl, by omega, HB80, HW8⟩
      clear HB80 HB8 hB8 HW8
      case round =>
        obtain ⟨r, B', hr3, rfl, rfl, rfl, hBl, HBl, HWl⟩ := hrel
        by_cases hlt3 : r < 3
        · have hqq : r = 0 ∨ r = 1 ∨ r = 2 := by omega
          rcases hqq with rfl | rfl | rfl
          · go_wp2_with (go_at_call 151; refine (mnum_calls _ x.req.l0 HCO.out.req.l0).mono ?_; rintro e V9 ⟨T9, rfl, HT9, hz9, hb9⟩)
            go_roundg (3 - (0 + 1))
            case measure => omega
            case rel =>
              refine ⟨0 + 1, _, by omega, rfl, rfl, by go_num, ?_, ?_, HWl.out.trans (hb9.mono HWl.out.size)⟩
              · simp only [ByteArray.size_append]
                have l2 : ({ data := #[124] } : ByteArray).size = 1 := rfl
                omega
              · show _ = _
                rw [HBl.out, HT9.out, show ({ data := #[124] } : ByteArray) = strOfNums [124] from rfl]
                simp only [strOfNums_append]
                refine congrArg strOfNums ?_
                simp [lmT, fld]
          · go_wp2_with (go_at_call 151; refine (mnum_calls _ x.req.l1 HCO.out.req.l1).mono ?_; rintro e V9 ⟨T9, rfl, HT9, hz9, hb9⟩)
            go_roundg (3 - (1 + 1))
            case measure => omega
            case rel =>
              refine ⟨1 + 1, _, by omega, rfl, rfl, by go_num, ?_, ?_, HWl.out.trans (hb9.mono HWl.out.size)⟩
              · simp only [ByteArray.size_append]
                have l2 : ({ data := #[124] } : ByteArray).size = 1 := rfl
                omega
              · show _ = _
                rw [HBl.out, HT9.out, show ({ data := #[124] } : ByteArray) = strOfNums [124] from rfl]
                simp only [strOfNums_append]
                refine congrArg strOfNums ?_
                simp [lmT, fld]
          · go_wp2_with (go_at_call 151; refine (mnum_calls _ x.req.l2 HCO.out.req.l2).mono ?_; rintro e V9 ⟨T9, rfl, HT9, hz9, hb9⟩)
            go_roundg (3 - (2 + 1))
            case measure => omega
            case rel =>
              refine ⟨2 + 1, _, by omega, rfl, rfl, by go_num, ?_, ?_, HWl.out.trans (hb9.mono HWl.out.size)⟩
              · simp only [ByteArray.size_append]
                have l2 : ({ data := #[124] } : ByteArray).size = 1 := rfl
                omega
              · show _ = _
                rw [HBl.out, HT9.out, show ({ data := #[124] } : ByteArray) = strOfNums [124] from rfl]
                simp only [strOfNums_append]
                refine congrArg strOfNums ?_
                simp [lmT, fld]
        · obtain rfl : r = 3 := by omega
          generalize wr = V9 at *
          have hxq9 : V9.heap[Q]? = some (.cells rc 53 (0, 0)) := (HWl.out.block _ zQ).trans HXQ.out
          have ck : V9.cell? ⟨Q, 16, none⟩ = some (.slice la ln lc) := by rw [World.cell?, hxq9, HRC.out]; rfl
          have hlk := blk_lt hxq9
          obtain ⟨la', lc', lb, loff, hlv, -, -, -, hla, hlc⟩ := RArr.lt HZL.out
          simp only [Value.slice.injEq] at hlv
          obtain ⟨rfl, -, rfl⟩ := hlv
          rw [← HLN.out] at hla
          have hil := run_indexAt_arr (P := Tryz.prog) (n := ln) (cap := lc) Tryz.underlying29 Tryz.size48 (fun h => (hla h).1)
          have HLB : Hid (0 < ln → lb < w.heap.size) := fun h => (hla h).2.2
          have HLC := hide hlc
          clear hxq9 hla hlc
          go_upto_region 16 with fail
          clear ck hlk
          have HL0 : Hid (({ data := #[45] } : ByteArray) = strOfNums (lsp (x.req.list.take 0))) := rfl
          have hL0 : ({ data := #[45] } : ByteArray).size ≤ 1 + 22 * 0 := by decide
          go_loopg [10, 152] ln (fun gk v j W => ∃ (r : Nat) (L : ByteArray), r ≤ ln ∧ gk = ln - r ∧ v = .string L ∧ j = .int .i64 r ∧ L.size ≤ 1 + 22 * r ∧ Hid (L = strOfNums (lsp (x.req.list.take r))) ∧ Hid (Below V.heap.size V W))
          case atStart => exact ⟨0, _, by omega, by omega, rfl, rfl, hL0, HL0, HWl⟩
          clear HL0 hL0 HWl
          case round =>
            obtain ⟨r, L, hrl, rfl, rfl, rfl, hLz, HLL, HWl⟩ := hrel
            by_cases hltl : r < ln
            · have hrs' : r < x.req.list.length := by rw [← HLN.out]; exact hltl
              have hlbb := HLB.out (by omega)
              have HVW : Hid (Below w.heap.size w wr) := HWV.out.trans (HWl.out.mono HWV.out.size)
              have hcl : wr.cell? ⟨lb, loff + r, none⟩ = some (.int .u32 x.req.list[r]) := by
                have h1 := (rng_cell (HLC.out r hrs')).2 0 (by decide)
                rw [Nat.mul_one, Nat.add_zero] at h1
                rw [HVW.out.cell (p := ⟨lb, loff + r, none⟩) hlbb]
                exact h1
              have hlbw : lb < wr.heap.size := by have := HVW.out.size; omega
              have HU := hide (HCO.out.list _ (List.getElem_mem hrs'))
              have HTK : Hid (x.req.list.take (r + 1) = x.req.list.take r ++ [x.req.list[r]]) := List.take_succ_eq_append_getElem hrs'
              generalize x.req.list[r] = u at *
              by_cases h0 : r = 0
              · subst h0
                have hcl0 : wr.cell? ⟨lb, loff, none⟩ = some (.int .u32 u) := hcl
                go_wp2_with (go_at_call 150; refine (mid_calls _ u HU.out).mono ?_; rintro e V9' ⟨T9, rfl, HT9, hz9, hb9⟩)
                go_roundg (ln - (0 + 1))
                case measure => omega
                case rel =>
                  refine ⟨0 + 1, _, by omega, rfl, rfl, by go_num, by omega, ?_, HWl.out.trans (hb9.mono HWl.out.size)⟩
                  show _ = _
                  rw [HT9.out, HTK.out, List.take_zero, List.nil_append, lsp_one]
              · have t0 : ((r : Int) == 0) = false := by simp; omega
                go_wp2_with (go_at_call 150; refine (mid_calls _ u HU.out).mono ?_; rintro e V9' ⟨T9, rfl, HT9, hz9, hb9⟩)
                go_roundg (ln - (r + 1))
                case measure => omega
                case rel =>
                  refine ⟨r + 1, _, by omega, rfl, rfl, by go_num, ?_, ?_, HWl.out.trans (hb9.mono HWl.out.size)⟩
                  · simp only [ByteArray.size_append]
                    have l2 : ({ data := #[44] } : ByteArray).size = 1 := rfl
                    omega
                  · show _ = _
                    rw [HT9.out, HLL.out, HTK.out, lsp_snoc (by intro e; have := congrArg List.length e; rw [List.length_take, Nat.min_eq_left (by omega)] at this; simp at this; omega), show ({ data := #[44] } : ByteArray) = strOfNums [44] from rfl]
                    simp only [strOfNums_append]
                    refine congrArg strOfNums ?_
                    simp
            · obtain rfl : r = ln := by omega
              have HLE : Hid (L = strOfNums (lsp x.req.list)) := by show _ = _; rw [HLL.out, List.take_of_length_le (by rw [← HLN.out]; omega)]
              clear HLL
              go_wp2
              go_roundg (n - (q + 1))
              case measure => omega
              case rel =>
                refine ⟨q + 1, _, by omega, rfl, rfl, by go_num, ?_, ?_, HWV.out.trans (HWl.out.mono HWV.out.size), HRN⟩
                · simp only [ByteArray.size_append]
                  have l1 : ({ data := #[124] } : ByteArray).size = 1 := rfl
                  have l2 : ({ data := #[10] } : ByteArray).size = 1 := rfl
                  omega
                · show _ = _
                  rw [HBl.out, HLE.out, HLT.out, ← List.append_assoc, HY.out, trLine_ln, show ({ data := #[124] } : ByteArray) = strOfNums [124] from rfl, show ({ data := #[10] } : ByteArray) = strOfNums [10] from rfl]
                  simp only [strOfNums_append]
                  refine congrArg strOfNums ?_
                  simp
    · obtain rfl : q = n := by omega
      have hE : zs.take q = zs := List.take_of_length_le (by rw [← Hn.out]; omega)
      have HF : Hid (R = true) := HRq.out.trans (by rw [List.drop_of_length_le (by simp [← Hn.out])]; rfl)
      rw [hE] at HBB
      obtain ⟨yy, hyy⟩ : ∃ yy, yy = trHead q ++ flatL (trLine rn kn) (zs.map (·.1)) := ⟨_, rfl⟩
      rw [← hyy] at HBB
      have hBT : B = strOfNums yy := HBB.out
      have hbl : yy.length ≤ 100000000000000 := by
        have h1 := strOfNums_size yy
        rw [← hBT] at h1
        omega
      have HBY : Hid (ByteL yy) := by show ByteL yy; rw [hyy]; exact tr_bytes
      have HLE : Hid (trText rn kn (zs.map (·.1)) = trailText yy q) := by show _ = _; rw [trText, hyy, List.length_map, ← Hn.out]
      clear HBB hBz hyy
      subst hBT
      go_wp2_with (go_at_call 152; refine (mclosed_calls wr yy q ⟨by omega, by omega⟩ HBY.out hbl).mono ?_; rintro e w2 ⟨v, rfl, hv⟩; have HV := hide hv; clear hv)
      refine bodyPost_ret (v := .tuple #[v, .bool true]) (by simp [results, Tryz.results86]) rfl ?_
      refine .good v rfl (by rw [← HR.out]; exact HF.out) ?_
      rw [HLE.out]
      exact ⟨RArr.mono HV.out.at' (Same.refl _ _) (fun b hb => by have h1 : wr.heap.size ≤ b := hb; have h2 := HWr.out.size; show w.heap.size ≤ b; omega), HWr.out.trans (HV.out.bel.mono HWr.out.size)⟩
end Go.Proofs.Qxb6500666aGreatDoor
