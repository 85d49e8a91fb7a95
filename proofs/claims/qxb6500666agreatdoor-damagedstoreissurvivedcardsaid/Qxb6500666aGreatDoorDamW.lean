/- DamagedStoreIsSurvived, walked. (Made by tools/mk_damw.py.) -/
import Derived.Test.Qxb6500666aGreatDoorDamR
import Derived.Test.Qxb6500666aGreatDoorDamBits
import Derived.Test.Qxb6500666aGreatDoorAudQ
import Derived.BigQuiet
import Derived.Deep.CutBlock
namespace Go.Proofs.Qxb6500666aGreatDoor
open Go.RowKit
theorem Tryz.info61_q : (Tryz.prog.info? 61).map (fun i => (i.zero, i.size, i.bytes)) = some (some (.agg (opA ⟨0, ⟨0, 0, 0, 0, 0, 0, 0, 0, 0, 0, 0, 0, 0, 0, 0, 0, []⟩, 0, 0, 0, [], ⟨0, 0, 0, 0, []⟩⟩ (.slice none 0 0) (.slice none 0 0) none 0 0)), 27, 208) := by kernel_rfl
/-- The two lists of requests in the making. -/
structure RCq (W4 V : World) (v9 v10 : Value) (rs cs : List Req) : Prop where
  a : OwnR V W4.heap.size 61 27 qCs v9 rs
  c : OwnR V W4.heap.size 61 27 qCs v10 cs
  sep : ∀ b, v9.ownBlock = some b → v10.ownBlock ≠ some b
  ra : ∀ r ∈ rs, QOk r ∧ isRdg r.kind = true
  rc : ∀ r ∈ cs, QOk r
  bel : Below W4.heap.size W4 V
theorem RCq.below {W4 V V' : World} {v9 v10 : Value} {rs cs : List Req} (h : RCq W4 V v9 v10 rs cs) (hb : Below V.heap.size V V') : RCq W4 V' v9 v10 rs cs := ⟨h.a.below hb (Nat.le_refl _), h.c.below hb (Nat.le_refl _), h.sep, h.ra, h.rc, h.bel.trans (hb.mono h.bel.size)⟩
theorem RCq.addA {W4 V V' : World} {v9 v10 v' : Value} {rs cs : List Req} {r : Req} (h : RCq W4 V v9 v10 rs cs) (hr : QOk r ∧ isRdg r.kind = true) (hown : OwnR V' W4.heap.size 61 27 qCs v' (rs ++ [r])) (hs : Same (fun b => b < V.heap.size ∧ v9.ownBlock ≠ some b) V V') (hb : Below W4.heap.size V V') (hat : v'.ownBlock = v9.ownBlock ∨ v'.ownBlock = some V.heap.size) : RCq W4 V' v' v10 (rs ++ [r]) cs := by
  refine ⟨hown, h.c.mono (fun b e => hs b ⟨(h.c.block b e).2, fun q => h.sep b q e⟩), fun b e e' => ?_, fun x hx => ?_, h.rc, h.bel.trans hb⟩
  · rcases hat with q | q
    · exact h.sep b (q ▸ e) e'
    · rw [q] at e
      injection e with e
      have := (h.c.block b e').2
      omega
  · rcases List.mem_append.1 hx with hx | hx
    · exact h.ra x hx
    · rw [List.mem_singleton.1 hx]
      exact hr
theorem RCq.addC {W4 V V' : World} {v9 v10 v' : Value} {rs cs : List Req} {r : Req} (h : RCq W4 V v9 v10 rs cs) (hr : QOk r) (hown : OwnR V' W4.heap.size 61 27 qCs v' (cs ++ [r])) (hs : Same (fun b => b < V.heap.size ∧ v10.ownBlock ≠ some b) V V') (hb : Below W4.heap.size V V') (hat : v'.ownBlock = v10.ownBlock ∨ v'.ownBlock = some V.heap.size) : RCq W4 V' v9 v' rs (cs ++ [r]) := by
  refine ⟨h.a.mono (fun b e => hs b ⟨(h.a.block b e).2, fun q => h.sep b e q⟩), hown, fun b e e' => ?_, h.ra, fun x hx => ?_, h.bel.trans hb⟩
  · rcases hat with q | q
    · exact h.sep b e (q ▸ e')
    · rw [q] at e'
      injection e' with e'
      have := (h.a.block b e).2
      omega
  · rcases List.mem_append.1 hx with hx | hx
    · exact h.rc x hx
    · rw [List.mem_singleton.1 hx]
      exact hr
theorem ask_stat_u32 {rn kn : Nat → ByteArray} {w w' : World} {ps : List KV} {full : Bool} {off lar : Int} {L : Low} {x : Rsp} (hps : PsOk ps) (hx : RspP rn kn w w' ps full off lar L (askReq 22 0 0) x) : U32 x.st.entries ∧ U32 x.st.transfers ∧ U32 x.st.lastCum := by
  have h1 := hx.1 rfl 1 (root_may22 ps)
  have e : rdX rn kn w w' ps L (askReq 22 0 0) = rd22X ps := by unfold rdX; simp [askReq]
  rw [e] at h1
  unfold rd22X at h1
  cases hs : statR ps with
  | error c =>
    rw [hs] at h1
    have h1 : x = { rsp0 with code := c } := h1
    rw [h1]
    exact ⟨u32z, u32z, u32z⟩
  | ok s =>
    rw [hs] at h1
    have h1 : x = { rsp0 with st := s } := h1
    rw [h1]
    have := statR_ok hps hs
    exact ⟨this.entries, this.transfers, this.lastCum⟩
theorem Tryz.size47_d (w : World) : (sizeOf 47).run Tryz.prog w = .ok 1 w := by kernel_rfl
attribute [local go_sem] ext_const Ext.cell Ext.frozen Ext.rng Ext.whole exS_const ExS.cell ExS.rng
attribute [local go_sem ↓] exec_ldOpz exec_stOpz exec_ldBen exec_stBen exec_fldRsp exec_stStD exec_bs9 exec_bsOpz exec_bdCmd exec_bdOp2
attribute [local go_sem] run_ldOpz run_stOpz opA_size run_ldBen run_stBen run_fld4 run_stStD run_bs9 run_bsOpz run_bdCmd run_bdOp2 qCs_ones whole_alloc_lt whole_alloc_at whole_drew setRow_alloc_at setRow_alloc_lt setRow_drew rng_alloc_lt rng_alloc_at rng_drew rng_drewN

set_option maxRecDepth 100000 in
set_option maxHeartbeats 8000000 in
theorem dam_walk (w : World) (v : Value) (s : List Op) (rn kn ft : Nat → ByteArray) (okg : Nat → Prop) (h : Script w (· < w.heap.size) v s) (hgl : Gl w w.heap.size rn kn ft okg) :
    Calls Tryz.prog 16 #[v] w fun e w' => e = .returned (.bool true) ∧ Below w.heap.size w w' := by
  have HSm := hide (small_calls w _ v s h)
  have HGL := hide (fun W (hb : Below w.heap.size w W) => hgl.same hb (Nat.le_refl _))
  have HNB := hide (newBench_calls w)
  obtain ⟨a, cap, b, off, rfl, hl, hm, hr, ha, hc⟩ := h
  obtain ⟨n, hn⟩ : ∃ n, n = s.length := ⟨_, rfl⟩
  have Hn : Hid (n = s.length) := hn
  rw [← hn] at hl hr ha HSm ⊢
  have hi := run_indexAt_arr (P := Tryz.prog) (cap := cap) Tryz.underlying22 Tryz.size61 (fun h => (ha h).1)
  have HB : Hid (0 < n → b < w.heap.size) := fun h => (ha h).2
  by_cases hsm : total s ≤ 65536
  · have HC : Hid (∀ k (h : k < s.length), ∃ lv dv ca cn cc, rng w b (off + k * 27) 27 = some (opA s[k] lv dv ca cn cc) ∧ OpIn w (· < w.heap.size) s[k] lv dv ca cn cc ∧ ones (opA s[k] lv dv ca cn cc) 27 = true ∧ ByteL s[k].data) := fun k h => by
      obtain ⟨cs, hlen, hE, hcell⟩ := hc k h
      have ht := total_le h hsm
      obtain ⟨lv, dv, ca, cn, cc, e, hO, h1⟩ := opIn_of hE ht.2.1 ht.2.2
      refine ⟨lv, dv, ca, cn, cc, ?_, hO, h1, opByte_of hE⟩
      rw [← e]
      have hl27 : cs.length = 27 := by have := congrArg Array.size e; simpa [opA] using this
      have := rng_of_cells (w := w) (b := b) (off := off + k * 27) (by omega) hcell
      rw [hl27] at this
      exact this
    have HIV : Hid (∀ q, q ≤ s.length → Inv q (stAt s q)) := inv_all (fun k hk => by
      obtain ⟨_, _, _, _, _, _, h1, _⟩ := HC.out k hk
      exact h1.req)
    have HDV : Hid (∀ q, q ≤ s.length → DV (stAt s q).ps) := dv_all s
    have hn2 : n ≤ 65536 := by have := hsm; unfold total at this; omega
    have hd : decide (total s ≤ 65536) = true := by simpa using hsm
    rw [hd] at HSm
    clear hd hsm ha hc hn hgl
    go_enter Tryz.func16, Tryz.ntmps16
    go_upto_region 3 with (go_at_call 18; refine HSm.out.mono ?_; rintro e w1 ⟨rfl, rfl⟩)
    go_upto_region 4 with (go_at_call 19; refine HNB.out.mono ?_; rintro e W0 ⟨rfl, hbn, hb0⟩)
    have HQ0 : Hid (BX w W0 (fun _ => False) (stAt s 0)) := BX.start hbn hb0
    clear hbn hb0 HSm HNB
    go_upto_region 5 with fail
    go_loopg [32] n (fun g j wr => ∃ q : Nat, q ≤ n ∧ g = n - q ∧ j = .int .i64 q ∧ Hid (BX w wr (fun _ => False) (stAt s q)))
    case atStart => exact ⟨0, by omega, by omega, rfl, HQ0⟩
    clear HQ0
    case round =>
      obtain ⟨q, hq, rfl, rfl, HQ⟩ := hrel
      by_cases hlt : q < n
      · as_aux_lemma =>
        have hqs : q < s.length := by rw [← Hn.out]; exact hlt
        have hbb := HB.out (by omega)
        obtain ⟨lv, dv, ca, cn, cc, hcl, hO, hones, -⟩ := HC.out q hqs
        have HIQ := hide (HIV.out q (by omega))
        have HSQ := hide (stAt_succ hqs)
        generalize s[q] = p at *
        have hcells : rng wr b (off + q * 27) 27 = some (opA p lv dv ca cn cc) := by rw [rng_of_block (HQ.out.blw.block _ hbb)]; exact hcl
        have hbw : b < wr.heap.size := by have := HQ.out.blw.size; omega
        have HOI := hide hO
        clear hO hcl
        go_upto_region 7 with fail
        have HQ1 : Hid (BX w (wr.alloc (.cells (opA p lv dv ca cn cc) 61)) (fun _ => False) (stAt s q)) := HQ.out.below ((Below.refl _ _).alloc (Nat.le_refl _) _)
        have hk1 : (wr.alloc (.cells (opA p lv dv ca cn cc) 61)).heap[wr.heap.size]? = some (.cells (opA p lv dv ca cn cc) 61 (0, 0)) := heap_alloc_at _ _
        have hz1 : wr.heap.size < (wr.alloc (.cells (opA p lv dv ca cn cc) 61)).heap.size := by simp
        generalize wr.alloc (.cells (opA p lv dv ca cn cc) 61) = W1 at *
        generalize wr.heap.size = D at *
        have hr1 : rng W1 D 0 27 = some (opA p lv dv ca cn cc) := rng_whole hk1
        have HST := hide (HQ1.out.step (HIQ.out.po (by omega)) (HOI.out.below HQ1.out.blw) (HGL.out _ HQ1.out.blw) ⟨HIQ.out.off.1, by have := HIQ.out.off.2; omega⟩)
        rw [← HSQ.out] at HST
        go_wp2_with (go_at_call 21; refine HST.out.mono ?_; rintro e W2 ⟨ans, rfl, hq2, -, -⟩; have HQ2 := hide hq2; clear hq2)
        go_roundg (n - (q + 1))
        case measure => omega
        case rel => exact ⟨q + 1, by omega, rfl, by go_num, HQ2⟩
      · as_aux_lemma =>
        obtain rfl : n = q := by omega
        have HDI := hide (HIV.out n (by rw [← Hn.out]; omega)).di
        have HDV2 := hide (HDV.out n (by rw [← Hn.out]; omega))
        generalize stAt s n = t0 at *
        clear HIV HDV
        obtain ⟨Y, pv, b1, b2⟩ := HQ.out.tops
        have e1 := cells_all b1 0
        simp only [List.getElem?_toArray, List.getElem?_cons_zero] at e1
        obtain ⟨f1, f2, -⟩ : wr.cell? ⟨w.heap.size, 1, none⟩ = some (.bool t0.full) ∧ wr.frozen? ⟨w.heap.size, 1, none⟩ = false ∧ True := ⟨cells_all b2 1, by simp [World.frozen?, b2], trivial⟩
        have z1 := blk_lt b1
        have z2 := blk_lt b2
        have HQ1 := hide (HQ.out.setFull false)
        clear b1 b2
        go_upto_region 10 with fail
        clear f1 f2 e1 HQ
        generalize wr.setCell ⟨w.heap.size, 1, none⟩ (.bool false) = W1 at *
        have hof : 0 ≤ t0.off ∧ t0.off ≤ 1000000000000000 := ⟨HDI.out.off.1, by have := HDI.out.off.2; omega⟩
        have HPO : Hid (PO t0.ps t0.low) := HDI.out.po (by omega)
        have HAK := hide (HQ1.out.askB HPO.out (HGL.out _ HQ1.out.blw) 22 0 0 rfl u32z u32z)
        go_upto_region 11 with (go_at_call 27; refine HAK.out.mono ?_; rintro e W2 ⟨rsp, rfl, hb2, hp2⟩; have HB2 := hide hb2; have HP2 := hide hp2; clear hb2 hp2)
        clear HAK
        have HSO : Hid (U32 rsp.st.entries ∧ U32 rsp.st.transfers ∧ U32 rsp.st.lastCum) := ask_stat_u32 HDI.out.pk HP2.out
        have HQ3 : Hid (BX w (W2.alloc (.cells (statCs rsp.st) 65)) (fun _ => False) { t0 with full := false }) := (HQ1.out.below HB2.out).below ((Below.refl _ _).alloc (Nat.le_refl _) _)
        have HKS : Hid ((W2.alloc (.cells (statCs rsp.st) 65)).heap[W2.heap.size]? = some (.cells (statCs rsp.st) 65 (0, 0))) := heap_alloc_at _ _
        generalize W2.alloc (.cells (statCs rsp.st) 65) = W3 at *
        generalize W2.heap.size = DS at *
        generalize rsp.st = st at *
        have hpl : t0.ps.length ≤ 3000000 := by have := HDI.out.plen; omega
        clear HB2 HP2 HQ1 z1 z2
        obtain ⟨Y', pv', A', x, ok, b1, b2, b3, hpr, hlo⟩ := HQ3.out.all (by show t0.ps.length ≤ 4000000; omega)
        dsimp only at b2 hpr hlo
        go_cut [7, 8] (fun vp vl W => ∃ N a m c, vp = .slice a m c ∧ vl = .pointer (some ⟨N, 0, none⟩) ∧ Hid (RefC W3 W N vp x t0.ps))
        case first =>
          as_aux_lemma =>
          have e1 := cells_all b1 0
          have e1b := cells_all b1 1
          simp only [List.getElem?_toArray, List.getElem?_cons_zero, List.getElem?_cons_succ] at e1 e1b
          have rl : rng W3 (w.heap.size + 1) 0 8 = some (lvCs x) := rng_whole b3
          have z1 := blk_lt b1
          have z2 := blk_lt b2
          have z3 := blk_lt b3
          have ho8 : ones (lvCs x) 8 = true := low_ones hlo
          have HSN : Hid (∀ W, Below W3.heap.size W3 W → Calls Tryz.prog 41 #[.pointer (some ⟨w.heap.size, 0, none⟩)] W fun e w' => ∃ v', e = .returned v' ∧ PairsAt w' (fun b => W.heap.size ≤ b ∧ b < w'.heap.size) v' t0.ps ∧ Below W.heap.size W w' ∧ ∃ a n c, v' = .slice a n c) := fun W hW =>
            snapshot_calls W _ _ pv' t0.ps false t0.off t0.lar ((hW.block _ z2).trans b2) (hpr.lt.mono (fun b q => hW.block b q.2) (fun _ q => q)) (by omega)
          clear b1 b2 b3 hpr hlo
          refine wp_region_mixT (W3.heap.size) [3, 8, 10] (by kernel_rfl) ?_
          refine mixT_slots [0, 1, 2, 5, 6, 7] (fuel := 8) rfl (by kernel_rfl) (by kernel_rfl) (fun d _ _ _ _ h => by cases d <;> exact h) ?_
          simp only [opersAt, List.getElem?_toArray, List.getElem?_cons_zero, List.getElem?_cons_succ]
          repeat (go_big_quiet_step (fail))
          refine wpQuiet_nil ?_
          refine mixT_reads [3, 8] (fuel := 6) rfl (by kernel_rfl) (by decide) (by kernel_rfl) (fun d _ _ _ _ h => by cases d <;> exact h) (ext_drew _ _) ?_
          simp only [opersAt, List.getElem?_toArray, List.getElem?_cons_zero, List.getElem?_cons_succ]
          repeat (go_big_quiet_step (fail))
          refine wpQuiet_nil ?_
          refine mixT_slots [9] (fuel := 5) rfl (by kernel_rfl) (by kernel_rfl) (fun d _ _ _ _ h => by cases d <;> exact h) ?_
          simp only [opersAt, List.getElem?_toArray, List.getElem?_cons_zero, List.getElem?_cons_succ]
          repeat (go_big_quiet_step (fail))
          refine wpQuiet_nil ?_
          refine mixT_reads [10] (fuel := 4) rfl (by kernel_rfl) (by decide) (by kernel_rfl) (fun d _ _ _ _ h => by cases d <;> exact h) (ext_drew _ _) ?_
          simp only [opersAt, List.getElem?_toArray, List.getElem?_cons_zero, List.getElem?_cons_succ]
          repeat (go_big_quiet_step (fail))
          refine wpQuiet_nil ?_
          refine mixT_two (k := 4) (k' := 11) (by kernel_rfl) rfl rfl ?_ ?_
          · go_wp2_with (go_at_call 41; refine (HSN.out _ (Below.refl _ _).drew).mono ?_; rintro e V ⟨v', rfl, hpv, hbv, va, vn, vc, rfl⟩)
            have hb1 : Below W3.heap.size W3 V := (Below.refl _ _).drew.trans hbv
            have hzv := hb1.size
            refine ⟨Or.inr (by intros; exact ⟨⟨_, hb1⟩, rfl⟩), ?_⟩
            have HB1 := hide hb1
            have HPV : Hid (PairsAt V (fun b => W3.heap.size ≤ b ∧ b < V.heap.size) (.slice va vn vc) t0.ps) := hpv
            clear hb1 hbv hpv
            refine mixT_one (k := 11) (by kernel_rfl) rfl ?_
            go_wp2
            refine ⟨Or.inr (by intros; exact ⟨⟨_, HB1.out.alloc hzv _⟩, rfl⟩), ?_⟩
            refine mixT_slots [12] (fuel := 1) rfl (by kernel_rfl) (by kernel_rfl) (fun d _ _ _ _ h => by cases d <;> exact h) ?_
            simp only [opersAt, List.getElem?_toArray, List.getElem?_cons_zero, List.getElem?_cons_succ]
            repeat (go_big_quiet_step (fail))
            refine wpQuiet_nil ?_
            refine mixT_one (k := 13) (by kernel_rfl) rfl ?_
            go_wp2
            first
              | refine ⟨Or.inr (by intros; exact ⟨⟨_, HB1.out.alloc hzv _⟩, rfl⟩), ?_⟩
              | skip
            refine mixT_nil (by kernel_rfl) ?_
            go_wp2
            go_meet
            case rel =>
              refine ⟨_, _, _, _, rfl, rfl, ⟨HB1.out.alloc hzv _, heap_alloc_at _ _, hzv, HPV.out.mono (fun b q => Below.heap_alloc _ _ _ q.2) (fun b q => ⟨q.1, by have := q.2; simp; omega⟩)⟩⟩
          · go_wp2
            obtain ⟨Wz, hWz⟩ : ∃ Wz, Wz = (W3.alloc (.cells #[.slice none 0 0, .slice none 0 0, .slice none 0 0, .slice none 0 0, .slice none 0 0, .slice none 0 0, .slice none 0 0, .slice none 0 0] 83)).drew := ⟨_, rfl⟩
            rw [← hWz]
            have hb1 : Below W3.heap.size W3 Wz := by rw [hWz]; exact ((Below.refl _ _).alloc (Nat.le_refl _) _).drew
            have hkz : Wz.heap[W3.heap.size]? = some (.cells #[.slice none 0 0, .slice none 0 0, .slice none 0 0, .slice none 0 0, .slice none 0 0, .slice none 0 0, .slice none 0 0, .slice none 0 0] 83 (0, 0)) := by rw [hWz]; exact heap_alloc_at W3 _
            have hsz : Wz.heap.size = W3.heap.size + 1 := by rw [hWz]; simp
            refine ⟨Or.inr (by intros; exact ⟨⟨_, hb1⟩, rfl⟩), ?_⟩
            clear hWz
            refine mixT_one (k := 4) (by kernel_rfl) rfl ?_
            go_wp2_with (go_at_call 41; refine (HSN.out _ hb1).mono ?_; rintro e V ⟨v', rfl, hpv, hbv, va, vn, vc, rfl⟩)
            have hb2 : Below W3.heap.size W3 V := hb1.trans (hbv.mono hb1.size)
            refine ⟨Or.inr (by intros; exact ⟨⟨_, hb2⟩, rfl⟩), ?_⟩
            have hkv := (hbv.block _ (blk_lt hkz)).trans hkz
            have hwh : whole V W3.heap.size 8 = true := by unfold whole; rw [hkv]; rfl
            have HKV := hide hkv
            have HB2 := hide hb2
            have HPV := hide hpv
            have HSZ : Hid (Wz.heap.size = W3.heap.size + 1) := hsz
            clear hkv hkz hb1 hb2 hbv hpv hsz
            refine mixT_slots [12] (fuel := 1) rfl (by kernel_rfl) (by kernel_rfl) (fun d _ _ _ _ h => by cases d <;> exact h) ?_
            simp only [opersAt, List.getElem?_toArray, List.getElem?_cons_zero, List.getElem?_cons_succ]
            repeat (go_big_quiet_step (fail))
            refine wpQuiet_nil ?_
            refine mixT_one (k := 13) (by kernel_rfl) rfl ?_
            go_wp2
            have hbs : Below W3.heap.size W3 (V.setRow W3.heap.size (lvCs x)) := ⟨HB2.out.1, HB2.out.2, HB2.out.3, by have := HB2.out.size; simpa using this, fun k hk => (setRow_other _ _ _ _ (by omega)).trans (HB2.out.block k hk)⟩
            first
              | refine ⟨Or.inr (by intros; exact ⟨⟨_, hbs⟩, rfl⟩), ?_⟩
              | skip
            refine mixT_nil (by kernel_rfl) ?_
            go_wp2
            go_meet
            case rel =>
              refine ⟨_, _, _, _, rfl, rfl, ⟨?_, setRow_heap V W3.heap.size _ _ _ _ HKV.out, Nat.le_refl _, HPV.out.mono (fun b q => setRow_other _ _ _ _ (by have := q.1; have := HSZ.out; omega)) (fun b q => ⟨by have := q.1; have := HSZ.out; omega, by have := q.2; simpa using this⟩)⟩⟩
              exact hbs
        case rest =>
          as_aux_lemma =>
          obtain ⟨NL, pa, pm, pc, rfl, rfl, HRC⟩ := hcut
          generalize wc = W4 at *
          have hz4 := HRC.out.bel.size
          have hks4 := (HRC.out.bel.block _ (blk_lt HKS.out)).trans HKS.out
          have s0 := cells_all hks4 0
          have s1 := cells_all hks4 1
          have s2 := cells_all hks4 2
          simp only [statCs, List.getElem?_toArray, List.getElem?_cons_zero, List.getElem?_cons_succ] at s0 s1 s2
          have zS := blk_lt hks4
          go_upto_region 12 with fail
          go_cut [9] (fun v V => ∃ g rs, v = .slice (some ⟨g, 0, none⟩) 9 9 ∧ rs.length = 9 ∧ OwnR V W4.heap.size 61 27 qCs (.slice (some ⟨g, 0, none⟩) 9 9) rs ∧ (∀ r ∈ rs, QOk r ∧ isRdg r.kind = true) ∧ Below W4.heap.size W4 V)
          case first =>
            as_aux_lemma =>
            refine wp_region_mixT (W4.heap.size) [5, 8, 11, 14, 17] (by kernel_rfl) ?_
            refine mixT_slots [4, 7, 10, 13, 16] (fuel := 16) rfl (by kernel_rfl) (by kernel_rfl) (fun d _ _ _ _ h => by cases d <;> exact h) ?_
            simp only [opersAt, List.getElem?_toArray, List.getElem?_cons_zero, List.getElem?_cons_succ]
            repeat (go_big_quiet_step (fail))
            refine wpQuiet_nil ?_
            refine mixT_reads [5, 8, 11, 14, 17] (fuel := 11) rfl (by kernel_rfl) (by decide) (by kernel_rfl) (fun d _ _ _ _ h => by cases d <;> exact h) (ext_drew _ _) ?_
            simp only [opersAt, List.getElem?_toArray, List.getElem?_cons_zero, List.getElem?_cons_succ]
            repeat (go_big_quiet_step (fail))
            refine wpQuiet_nil ?_
            have hc0 : Below W4.heap.size W4 W4.drew := (Below.refl _ _).drew
            refine mixT_one (k := 0) (by kernel_rfl) rfl ?_
            go_wp2_with (go_at_call 76; refine (reading_calls _ _ _ _).mono ?_; rintro e V1 ⟨rfl, hb⟩)
            have hc1 : Below W4.heap.size W4 V1 := hc0.trans (hb.mono hc0.size)
            refine ⟨Or.inr (by intros; exact ⟨⟨_, hc1⟩, rfl⟩), ?_⟩
            clear hb hc0
            refine mixT_one (k := 1) (by kernel_rfl) rfl ?_
            go_wp2_with (go_at_call 76; refine (reading_calls _ _ _ _).mono ?_; rintro e V2 ⟨rfl, hb⟩)
            have hc2 : Below W4.heap.size W4 V2 := hc1.trans (hb.mono hc1.size)
            refine ⟨Or.inr (by intros; exact ⟨⟨_, hc2⟩, rfl⟩), ?_⟩
            clear hb hc1
            refine mixT_one (k := 2) (by kernel_rfl) rfl ?_
            go_wp2_with (go_at_call 76; refine (reading_calls _ _ _ _).mono ?_; rintro e V3 ⟨rfl, hb⟩)
            have hc3 : Below W4.heap.size W4 V3 := hc2.trans (hb.mono hc2.size)
            refine ⟨Or.inr (by intros; exact ⟨⟨_, hc3⟩, rfl⟩), ?_⟩
            clear hb hc2
            refine mixT_one (k := 3) (by kernel_rfl) rfl ?_
            go_wp2_with (go_at_call 76; refine (reading_calls _ _ _ _).mono ?_; rintro e V4 ⟨rfl, hb⟩)
            have hc4 : Below W4.heap.size W4 V4 := hc3.trans (hb.mono hc3.size)
            refine ⟨Or.inr (by intros; exact ⟨⟨_, hc4⟩, rfl⟩), ?_⟩
            clear hb hc3
            refine mixT_one (k := 6) (by kernel_rfl) rfl ?_
            go_wp2_with (go_at_call 76; refine (reading_calls _ _ _ _).mono ?_; rintro e V5 ⟨rfl, hb⟩)
            have hc5 : Below W4.heap.size W4 V5 := hc4.trans (hb.mono hc4.size)
            refine ⟨Or.inr (by intros; exact ⟨⟨_, hc5⟩, rfl⟩), ?_⟩
            clear hb hc4
            refine mixT_one (k := 9) (by kernel_rfl) rfl ?_
            go_wp2_with (go_at_call 76; refine (reading_calls _ _ _ _).mono ?_; rintro e V6 ⟨rfl, hb⟩)
            have hc6 : Below W4.heap.size W4 V6 := hc5.trans (hb.mono hc5.size)
            refine ⟨Or.inr (by intros; exact ⟨⟨_, hc6⟩, rfl⟩), ?_⟩
            clear hb hc5
            refine mixT_one (k := 12) (by kernel_rfl) rfl ?_
            go_wp2_with (go_at_call 76; refine (reading_calls _ _ _ _).mono ?_; rintro e V7 ⟨rfl, hb⟩)
            have hc7 : Below W4.heap.size W4 V7 := hc6.trans (hb.mono hc6.size)
            refine ⟨Or.inr (by intros; exact ⟨⟨_, hc7⟩, rfl⟩), ?_⟩
            clear hb hc6
            refine mixT_one (k := 15) (by kernel_rfl) rfl ?_
            go_wp2_with (go_at_call 76; refine (reading_calls _ _ _ _).mono ?_; rintro e V8 ⟨rfl, hb⟩)
            have hc8 : Below W4.heap.size W4 V8 := hc7.trans (hb.mono hc7.size)
            refine ⟨Or.inr (by intros; exact ⟨⟨_, hc8⟩, rfl⟩), ?_⟩
            clear hb hc7
            refine mixT_one (k := 18) (by kernel_rfl) rfl ?_
            go_wp2_with (go_at_call 76; refine (reading_calls _ _ _ _).mono ?_; rintro e V9 ⟨rfl, hb⟩)
            have hc9 : Below W4.heap.size W4 V9 := hc8.trans (hb.mono hc8.size)
            refine ⟨Or.inr (by intros; exact ⟨⟨_, hc9⟩, rfl⟩), ?_⟩
            clear hb hc8
            have hz9 := hc9.size
            refine mixT_one (k := 19) (by kernel_rfl) rfl ?_
            go_wp2
            refine ⟨Or.inr (by intros; exact ⟨⟨_, hc9.alloc hz9 _⟩, rfl⟩), ?_⟩
            refine mixT_one (k := 20) (by kernel_rfl) rfl ?_
            go_wp2
            first
              | refine ⟨Or.inr (fun h => h), ?_⟩
              | skip
            refine mixT_nil (by kernel_rfl) ?_
            go_wp2
            go_meet
            case rel =>
              refine ⟨_, [askReq 22 0 0, askReq 30 0 0, askReq 25 0 0, askReq 29 0 0, askReq 23 st.entries 0, askReq 26 st.transfers 0, askReq 27 st.transfers 0, askReq 27 st.lastCum 0, askReq 28 0 st.lastCum], rfl, rfl, OwnR.lit qCs_size _ hz9 (by show 9 ≤ maxLen; unfold maxLen; decide), ?_, hc9.alloc hz9 _⟩
              intro r hr
              simp only [List.mem_cons, List.not_mem_nil, or_false] at hr
              rcases hr with rfl | rfl | rfl | rfl | rfl | rfl | rfl | rfl | rfl
              · exact ⟨askReq_q ⟨by decide, by decide⟩ u32z u32z, rfl⟩
              · exact ⟨askReq_q ⟨by decide, by decide⟩ u32z u32z, rfl⟩
              · exact ⟨askReq_q ⟨by decide, by decide⟩ u32z u32z, rfl⟩
              · exact ⟨askReq_q ⟨by decide, by decide⟩ u32z u32z, rfl⟩
              · exact ⟨askReq_q ⟨by decide, by decide⟩ HSO.out.1 u32z, rfl⟩
              · exact ⟨askReq_q ⟨by decide, by decide⟩ HSO.out.2.1 u32z, rfl⟩
              · exact ⟨askReq_q ⟨by decide, by decide⟩ HSO.out.2.1 u32z, rfl⟩
              · exact ⟨askReq_q ⟨by decide, by decide⟩ HSO.out.2.2 u32z, rfl⟩
              · exact ⟨askReq_q ⟨by decide, by decide⟩ u32z HSO.out.2.2, rfl⟩
          case rest =>
            as_aux_lemma =>
            obtain ⟨g, rs, rfl, hrl, hro, hrk, hb5⟩ := hcut
            have HR0 : Hid (RCq W4 wc (.slice (some ⟨g, 0, none⟩) rs.length 9) (.slice none 0 0) rs []) := by
              show RCq _ _ _ _ _ _
              rw [hrl]
              exact ⟨hro, OwnR.nil _ _ _ _ _, fun b _ q => (nomatch (show (none : Option Nat) = some _ from q)), hrk, fun r hr => (by cases hr), hb5⟩
            clear hro hrk hb5 s0 s1 s2
            go_upto_region 15 with fail
            go_loopg [9, 10, 11] 9 (fun m v9 v10 v11 wr => ∃ (u : Nat) (rs cs : List Req) (ra ca : Option Addr) (rc cc : Nat), 1 ≤ u ∧ u ≤ 9 ∧ m = 10 - u ∧ v11 = .int .u32 u ∧ v9 = .slice ra rs.length rc ∧ v10 = .slice ca cs.length cc ∧ rs.length ≤ 9 + u ∧ cs.length ≤ 3 * u ∧ Hid (RCq W4 wr (.slice ra rs.length rc) (.slice ca cs.length cc) rs cs))
            case atStart => exact ⟨1, rs, [], some ⟨g, 0, none⟩, none, 9, 0, by omega, by omega, by omega, rfl, by rw [hrl], rfl, by omega, by simp, HR0⟩
            clear HR0
            case round =>
              obtain ⟨u, rs, cs, ra, ca', rc, cc', hu1, hu2, rfl, rfl, rfl, rfl, hl1, hl2, HR⟩ := hrel
              by_cases hu8 : u ≤ 8
              · as_aux_lemma =>
                have hz := HR.out.bel.size
                have huI : ((u : Int) ≤ 8) := by omega
                go_upto_region 18 with (first
                  | (go_at_call 76; refine (reading_calls _ _ _ _).mono ?_; rintro e V1 ⟨rfl, hb1⟩; have HR1 := hide (HR.out.below hb1); clear hb1)
                  | (at_builtin; refine wpList_app1 (α := Req) rfl _ _ 22 rfl W4.heap.size 61 qCs Tryz.underlying22 Tryz.info61_q rfl (by decide) qCs_size qCs_one _ rs rfl (HR1.out.below ((Below.refl _ _).alloc (Nat.le_refl _) _)).a _ rfl (askReq 21 u 0) (rng_whole (heap_alloc_at _ _)) (by omega) (by unfold maxLen; omega) (HR1.out.below ((Below.refl _ _).alloc (Nat.le_refl _) _)).bel.size ?_; intro v9 w9 hown9 hsame9 hbel9 hat9))
                have HR2 := hide ((HR1.out.below ((Below.refl _ _).alloc (Nat.le_refl _) (.cells (qCs (askReq 21 u 0)) 61))).addA ⟨askReq_q ⟨by decide, by decide⟩ ⟨by omega, by omega⟩ u32z, rfl⟩ hown9 hsame9 hbel9 hat9)
                obtain ⟨va, vc, hv9⟩ := hown9.form
                subst hv9
                have hl3 : (rs ++ [askReq 21 u 0]).length ≤ 9 + (u + 1) := by simp; omega
                generalize rs ++ [askReq 21 (u : Int) 0] = rs2 at *
                clear hown9 hsame9 hbel9 hat9 HR HR1
                go_upto_region 19 with fail
                have HR3 := hide (HR2.out.below ((Below.refl _ _).alloc (Nat.le_refl _) (.cells #[.int .u8 1, .int .u8 19, .int .u8 20] 47)))
                have hkk : (w9.alloc (.cells #[.int .u8 1, .int .u8 19, .int .u8 20] 47)).heap[w9.heap.size]? = some (.cells #[.int .u8 1, .int .u8 19, .int .u8 20] 47 (0, 0)) := heap_alloc_at _ _
                have HKN : Hid (∀ b, (Value.slice ca' cs.length cc').ownBlock = some b → b ≠ w9.heap.size) := fun b e q => by have := (HR2.out.c.block b e).2; omega
                generalize w9.alloc (.cells #[.int .u8 1, .int .u8 19, .int .u8 20] 47) = W6 at *
                generalize w9.heap.size = KB at *
                have HKK := hide hkk
                clear hkk HR2
                go_loopg [10, 91] 3 (fun m v10 j wr => ∃ (k : Nat) (cs : List Req) (ca : Option Addr) (cc : Nat), k ≤ 3 ∧ m = 3 - k ∧ j = .int .i64 k ∧ v10 = .slice ca cs.length cc ∧ cs.length ≤ 3 * u + k ∧ Hid (RCq W4 wr (.slice va rs2.length vc) (.slice ca cs.length cc) rs2 cs ∧ wr.heap[KB]? = some (.cells #[.int .u8 1, .int .u8 19, .int .u8 20] 47 (0, 0)) ∧ ∀ b, (Value.slice ca cs.length cc).ownBlock = some b → b ≠ KB))
                case atStart => exact ⟨0, cs, _, _, by omega, by omega, rfl, rfl, by omega, ⟨HR3.out, HKK.out, HKN.out⟩⟩
                clear HKK HKN HR3
                case round =>
                  obtain ⟨k, cs, ca2, cc2, hk3, rfl, rfl, rfl, hl4, HR4⟩ := hrel
                  by_cases hk : k < 3
                  · as_aux_lemma =>
                    have hkk := HR4.out.2.1
                    obtain ⟨kv, hkv, hku⟩ : ∃ kv : Int, wr.cell? ⟨KB, k, none⟩ = some (.int .u8 kv) ∧ U8 kv := by
                      have h0 := cells_all hkk k
                      rcases (by omega : k = 0 ∨ k = 1 ∨ k = 2) with rfl | rfl | rfl
                      · exact ⟨1, h0, by decide, by decide⟩
                      · exact ⟨19, h0, by decide, by decide⟩
                      · exact ⟨20, h0, by decide, by decide⟩
                    have hzk := HR4.out.1.bel.size
                    have HKW : Hid (KB < wr.heap.size) := blk_lt hkk
                    clear hkk
                    go_upto_region 22 with (at_builtin; refine wpList_app1 (α := Req) rfl _ _ 22 rfl W4.heap.size 61 qCs Tryz.underlying22 Tryz.info61_q rfl (by decide) qCs_size qCs_one _ cs rfl (HR4.out.1.below ((Below.refl _ _).alloc (Nat.le_refl _) _)).c _ rfl (cmdReq kv u) (rng_whole (heap_alloc_at _ _)) (by omega) (by unfold maxLen; omega) (HR4.out.1.below ((Below.refl _ _).alloc (Nat.le_refl _) _)).bel.size ?_; intro v10 w10 hown10 hsame10 hbel10 hat10)
                    have HR5 := hide ((HR4.out.1.below ((Below.refl _ _).alloc (Nat.le_refl _) (.cells (qCs (cmdReq kv u)) 61))).addC (cmdReq_q hku ⟨by omega, by omega⟩) hown10 hsame10 hbel10 hat10)
                    have HK5 : Hid (w10.heap[KB]? = some (.cells #[.int .u8 1, .int .u8 19, .int .u8 20] 47 (0, 0)) ∧ ∀ b, v10.ownBlock = some b → b ≠ KB) := by
                      have hz1 : KB < (wr.alloc (.cells (qCs (cmdReq kv u)) 61)).heap.size := by have := HKW.out; simp; omega
                      refine ⟨(hsame10 KB ⟨hz1, fun e => HR4.out.2.2 KB e rfl⟩).trans ((Below.heap_alloc _ _ _ HKW.out).trans HR4.out.2.1), fun b e q => ?_⟩
                      rcases hat10 with q1 | q1
                      · exact HR4.out.2.2 b (q1 ▸ e) q
                      · rw [q1] at e
                        injection e with e
                        have := HKW.out
                        simp at e
                        omega
                    obtain ⟨va2, vc2, hv10⟩ := hown10.form
                    subst hv10
                    have hl5 : (cs ++ [cmdReq kv u]).length ≤ 3 * u + (k + 1) := by simp; omega
                    generalize cs ++ [cmdReq kv (u : Int)] = cs3 at *
                    clear hown10 hsame10 hbel10 hat10 HR4
                    go_wp2
                    go_roundg (3 - (k + 1))
                    case measure => omega
                    case rel => exact ⟨k + 1, cs3, _, _, by omega, rfl, by go_num, rfl, hl5, ⟨HR5.out, HK5.out.1, HK5.out.2⟩⟩
                  · as_aux_lemma =>
                    obtain rfl : k = 3 := by omega
                    have HR5 := hide HR4.out.1
                    clear HR4
                    go_wp2
                    go_roundg (10 - (u + 1))
                    case measure => omega
                    case rel => exact ⟨u + 1, rs2, cs, _, _, _, _, by omega, by omega, rfl, by go_num, rfl, rfl, hl3, by omega, HR5⟩
              · as_aux_lemma =>
                obtain rfl : u = 9 := by omega
                generalize wr = W5 at *
                obtain ⟨x2, okL, c1, c2, c3⟩ := HQ3.out.keep
                have hxx : x2 = x := by
                  have h2 := c1.symm.trans b3
                  injection h2 with h2
                  injection h2 with h2
                  exact lvCs_inj h2
                subst hxx
                have hb45 := HR.out.bel
                have hb35 : Below W3.heap.size W3 W5 := HRC.out.bel.trans (hb45.mono HRC.out.bel.size)
                have HJ5 : Hid (DK w W5 W5 W3.heap.size okL { t0 with full := false }) := ⟨c3.more hb35 (fun g q => Or.inr q) (fun g q => Or.inl q), fun _ _ => rfl⟩
                have HOK : Hid (∀ g, okL g → g < W3.heap.size) := fun g q => c3.lt (Or.inr q)
                have HJL : Hid (∀ g, okL g → g ≠ w.heap.size ∧ g ≠ w.heap.size + 1) := c3.ly
                have HLW : Hid (LowAt W5 okL x2 t0.low) := c2.mono (fun b q => hb35.block b (HOK.out b q)) (fun _ q => q)
                have HNL : Hid (W5.heap[NL]? = some (.cells (lvCs x2) 83 (0, 0)) ∧ W3.heap.size ≤ NL) := ⟨(hb45.block _ (blk_lt HRC.out.lo)).trans HRC.out.lo, HRC.out.nn⟩
                have HPR : Hid (PairsAt W5 (fun b => W3.heap.size ≤ b ∧ b < W5.heap.size) (.slice pa pm pc) t0.ps) := HRC.out.prs.mono (fun b q => hb45.block b q.2) (fun b q => ⟨q.1, by have := hb45.size; omega⟩)
                have HWZ : Hid (w.heap.size + 2 < W3.heap.size ∧ W3.heap.size ≤ W4.heap.size ∧ W4.heap.size ≤ W5.heap.size) := ⟨blk_lt b1, HRC.out.bel.size, hb45.size⟩
                have HO8 : Hid (ones (lvCs x2) 8 = true) := low_ones hlo
                have HRA := hide HR.out.a
                have HCA := hide HR.out.c
                have HRK := hide HR.out.ra
                have HCK := hide HR.out.rc
                have hrlp : 0 < rs.length ∨ rs.length = 0 := by omega
                clear b1 b2 b3 hpr hlo c1 c2 c3 hb45 hb35 HRC HR HQ3 HKS HSO hz4 hks4 zS hrl
                -- the pairs laid aside
                obtain ⟨zs, hR, hzm, hzip⟩ := HPR.out.zs
                obtain ⟨b2, off2, hi2, HC2⟩ : ∃ b2 off2, (∀ (W : World) (k : Int), 0 ≤ k → k < (pm : Int) → (Instr.indexAt 129 (.slice pa pm pc) (.int .i64 k)).run Tryz.prog W = .ok (.pointer (some ⟨b2, off2 + k.toNat * 2, none⟩)) W) ∧ Hid (pm = t0.ps.length ∧ ∀ i (h : i < t0.ps.length), (W3.heap.size ≤ b2 ∧ b2 < W5.heap.size) ∧ ∃ (z : ZP), z.2 = t0.ps[i] ∧ rng W5 b2 (off2 + i * 2) 2 = some (zCs z) ∧ BytesAt W5 (fun b => W3.heap.size ≤ b ∧ b < W5.heap.size) (sv z.1.1) t0.ps[i].1 ∧ BytesAt W5 (fun b => W3.heap.size ≤ b ∧ b < W5.heap.size) (sv z.1.2) t0.ps[i].2) := by
                  obtain ⟨a', cap', bb', off', e, hl', hm', hr', ha', hc'⟩ := hR
                  injection e with e1 e2 e3
                  subst e1 e3
                  have hzl : zs.length = t0.ps.length := by rw [← hzm, List.length_map]
                  refine ⟨bb', off', fun W k => run_indexAt_arr (P := Tryz.prog) (n := pm) (cap := pc) (a := pa) (b := bb') (off := off') Tryz.underlying129 Tryz.size171 (fun h => (ha' (by omega)).1) W k, by omega, fun i hi => ?_⟩
                  have hi2 : i < zs.length := by omega
                  have he : zs[i].2 = t0.ps[i] := by
                    have := congrArg (fun l : List KV => l[i]?) hzm
                    simpa [hi2, hi] using this
                  have hy := hzip _ (List.getElem_mem hi2)
                  rw [he] at hy
                  exact ⟨(ha' (by omega)).2, zs[i], he, hc' i hi2, hy.1, hy.2⟩
                clear hR hzm hzip
                have hpm3 : pm ≤ 3000000 := by have := HC2.out.1; omega
                go_upto_region 24 with fail
                refine wp_loop_mask dmL4 (fun g x wr => ∃ q : Nat, q ≤ n ∧ g = n - q ∧ x = .int .i64 q ∧ ∃ t, Hid (DK w W5 wr W3.heap.size okL t ∧ (0 ≤ t.off ∧ t.off ≤ 65536 + q * 90000000))) n (.int .i64 0) ⟨0, by omega, by omega, rfl, _, HJ5.out, HDI.out.off.1, by have := HDI.out.off.2; show t0.off ≤ _; omega⟩ (by kernel_rfl) ?_
                clear HJ5
                intro gk4 x4 u4 wr hrel J4 K4 hJ4 hK4
                dsimp only [dmL4, maskL_keep, maskL_any, maskL_is, maskL_nil]
                obtain ⟨q, hq, rfl, rfl, t, HT⟩ := hrel
                by_cases hlt : q < n
                · as_aux_lemma =>
                  have hqs : q < s.length := by rw [← Hn.out]; exact hlt
                  have hbb := HB.out (by omega)
                  obtain ⟨lv, dv, ca, cn, cc, hcl, hO, hones, hBy⟩ := HC.out q hqs
                  generalize s[q] = p at *
                  have hblw := HT.out.1.bj.bx.blw
                  have hcells : rng wr b (off + q * 27) 27 = some (opA p lv dv ca cn cc) := by rw [rng_of_block (hblw.block _ hbb)]; exact hcl
                  have hbw : b < wr.heap.size := by have := hblw.size; omega
                  have HOI := hide hO
                  have HBY := hide hBy
                  have HD1 : Hid (DK w W5 (wr.alloc (.cells (opA p lv dv ca cn cc) 61)) W3.heap.size okL t) := HT.out.1.below ((Below.refl _ _).alloc (Nat.le_refl _) _)
                  have HX1 : Hid (BJ w (wr.alloc (.cells (opA p lv dv ca cn cc) 61)) (fun g => (W3.heap.size ≤ g ∧ g < W5.heap.size) ∨ g = wr.heap.size) okL t) := HT.out.1.bj.more ((Below.refl _ _).alloc (Nat.le_refl _) _) (fun g q => q.elim Or.inl (fun q => Or.inr ⟨by omega, by rw [q]; simp⟩)) (fun g q => Or.inl q)
                  have HOF := hide HT.out.2
                  have hW5r : Hid (W5.heap.size ≤ wr.heap.size) := by
                    have h1 := HNL.out
                    have h2 := HWZ.out
                    show _ ≤ _
                    rcases Nat.lt_or_ge (W5.heap.size - 1) wr.heap.size with h | h
                    · omega
                    · have h3 := HT.out.1.bj.lt (g := W5.heap.size - 1) (Or.inl (by have := blk_lt h1.1; omega))
                      omega
                  clear hO hBy hcl HT hblw
                  go_upto_region 26 with fail
                  have hk1 : (wr.alloc (.cells (opA p lv dv ca cn cc) 61)).heap[wr.heap.size]? = some (.cells (opA p lv dv ca cn cc) 61 (0, 0)) := heap_alloc_at _ _
                  generalize wr.alloc (.cells (opA p lv dv ca cn cc) 61) = V1 at *
                  generalize wr.heap.size = D at *
                  have d0 := cells_all hk1 0
                  simp only [opA, List.getElem?_toArray, List.getElem?_cons_zero] at d0
                  have HK1 := hide hk1
                  clear hk1 hcells hbw hones
                  by_cases hkd : p.kind = 5 ∨ p.kind = 7
                  · as_aux_lemma =>
                    have HDL := hide (HD1.out.dl HK1.out HX1.out)
                    have hMD : Hid (V1.heap.size ≠ D ∧ W5.heap.size ≤ V1.heap.size) := ⟨fun e => by have := blk_lt HK1.out; omega, by have := blk_lt HK1.out; have := hW5r.out; omega⟩
                    have HOP := hide HOI.out
                    refine wp_cut_mask dmC26 (fun x W => x = .bool false ∧ V1 = W) ?first ?rest
                    case first =>
                      intro J K' hJ hK'
                      as_aux_lemma =>
                      cases h5 : (p.kind != 5) with
                      | false =>
                        go_wp2
                        refine Met.intro ?_
                        exact hJ.out (.bool false) _ _ ⟨rfl, rfl⟩ (by kernel_rfl)
                      | true =>
                        have h7 : (p.kind != 7) = false := by
                          have h5 : p.kind ≠ 5 := by simpa using h5
                          have : p.kind = 7 := by omega
                          simp [this]
                        go_wp2
                        refine Met.intro ?_
                        exact hJ.out (.bool false) _ _ ⟨rfl, rfl⟩ (by kernel_rfl)
                    case rest =>
                      rintro x116 uC wc ⟨rfl, rfl⟩
                      dsimp only [dmC26, maskL_keep, maskL_any, maskL_is, maskL_nil]
                      as_aux_lemma =>
                      have hmm := @run_makeMap Tryz.prog
                      go_upto_region 29 with fail
                      clear hmm
                      generalize V1.alloc (.map #[] 0) = V2 at *
                      generalize V1.heap.size = M at *
                      clear d0 HD1 HX1 HK1
                      refine wp_loop_mask dmL5 (fun g x wr => ∃ c : Nat, c ≤ pm ∧ g = c ∧ x = .int .i64 ((c : Int) - 1) ∧ ∃ t, Hid (DL w W5 wr W3.heap.size okL (fun _ => False) D M (opA p lv dv ca cn cc) (pm - c) t ∧ (0 ≤ t.off ∧ t.off ≤ 65536 + q * 90000000 + 30 * ((pm - c : Nat) : Int)))) pm (.int .i64 ((pm : Int) - 1)) ⟨pm, Nat.le_refl _, rfl, rfl, t, by rw [Nat.sub_self]; exact HDL.out, HOF.out.1, by have := HOF.out.2; omega⟩ (by kernel_rfl) ?_
                      clear HDL HOF
                      intro gk5 x5 u5 wr hrel J5 K5 hJ5 hK5
                      dsimp only [dmL5, maskL_keep, maskL_any, maskL_is, maskL_nil]
                      obtain ⟨c, hc, hgc, rfl, t, HT⟩ := hrel
                      obtain rfl : c = gk5 := hgc.symm
                      clear hgc
                      by_cases hc0 : 0 < c
                      · as_aux_lemma =>
                        obtain ⟨i, rfl⟩ : ∃ i, c = i + 1 := ⟨c - 1, by omega⟩
                        rw [show (((i + 1 : Nat) : Int) - 1) = (i : Int) by omega]
                        have hip : i < t0.ps.length := by have := HC2.out.1; omega
                        have hipm : i < pm := by omega
                        obtain ⟨hb2r, z, hz, hrz, hy1, hy2⟩ := HC2.out.2 i hip
                        have hDVi := HDV2.out _ (List.getElem_mem hip)
                        have hPKi := HDI.out.pk _ (List.getElem_mem hip)
                        obtain ⟨n2, hn2⟩ : ∃ n2, n2 = t0.ps[i].2.length := ⟨_, rfl⟩
                        obtain ⟨kb, ko, n1, cp1, a2, cp2, k0, hkb, hn1, hk0, hF⟩ := pair_facts hrz hy1 hy2 hDVi.1 hPKi.1
                        rw [← hn2] at hF
                        have HN2 : Hid (n2 = t0.ps[i].2.length ∧ n2 ≤ 3000) := ⟨hn2, by rw [hn2]; exact hDVi.2⟩
                        have HF := hide hF
                        obtain ⟨f0, f1, fk⟩ := HF.out wr (HT.out.1.same _ (Or.inl hb2r)) (HT.out.1.same _ (Or.inl hkb))
                        obtain ⟨i0, hi0, hlk, V3, hup, hmp3, hlk3, hgr⟩ := HT.out.1.mp.try (by unfold maxLen; omega) hk0
                        have hi0n : (i0 : Int) ≤ 4000000 := by omega
                        have HDL3 : Hid (DL w W5 V3 W3.heap.size okL (fun _ => False) D M (opA p lv dv ca cn cc) (pm - i) t) := by
                          have h1 := HT.out.1.tried (by have := hMD.out; have := HWZ.out; omega) (fun e => hMD.out.1 e.symm) hMD.out.2 (fun g q => by have := HOK.out g q; have := HWZ.out; omega) hgr hmp3
                          rwa [show pm - (i + 1) + 1 = pm - i by omega] at h1
                        have HOF := hide HT.out.2
                        have HB2 : Hid ((W3.heap.size ≤ b2 ∧ b2 < W5.heap.size) ∧ (W3.heap.size ≤ kb ∧ kb < W5.heap.size)) := ⟨hb2r, hkb⟩
                        clear hb2r hz hrz hy1 hy2 hDVi hPKi hn2 hF hmp3 hgr HT hkb
                        go_upto_region 33 with fail
                        clear f0 f1 fk hlk hup
                        obtain ⟨-, f1, -⟩ := HF.out V3 (HDL3.out.same _ (Or.inl HB2.out.1)) (HDL3.out.same _ (Or.inl HB2.out.2))
                        clear HF
                        have HEND : Hid (∀ W t', DL w W5 W W3.heap.size okL (fun _ => False) D M (opA p lv dv ca cn cc) (pm - i) t' → (0 ≤ t'.off ∧ t'.off ≤ t.off + 30) → DL w W5 W W3.heap.size okL (fun _ => False) D M (opA p lv dv ca cn cc) (pm - i) t' ∧ (0 ≤ t'.off ∧ t'.off ≤ 65536 + q * 90000000 + 30 * ((pm - i : Nat) : Int))) := fun W t' h1 h2 => ⟨h1, h2.1, by have := h2.2; have := HOF.out.2; omega⟩
                        by_cases hgt : (2 : Int) < (i0 : Int) + 1
                        · as_aux_lemma =>
                          go_wp2
                          refine Handed.intro i (by omega) ?_
                          exact hJ5.out _ (.int .i64 ((i : Int) - 1)) _ _ ⟨i, by omega, rfl, rfl, t, HEND.out _ _ HDL3.out ⟨HOF.out.1, by omega⟩⟩ (by kernel_rfl)
                        by_cases hn20 : n2 = 0
                        · as_aux_lemma =>
                          subst hn20
                          go_wp2
                          refine Handed.intro i (by omega) ?_
                          exact hJ5.out _ (.int .i64 ((i : Int) - 1)) _ _ ⟨i, by omega, rfl, rfl, t, HEND.out _ _ HDL3.out ⟨HOF.out.1, by omega⟩⟩ (by kernel_rfl)
                        as_aux_lemma =>
                        have hnb : ((n2 : Int) == 0) = false := by simp; omega
                        go_upto_region 34 with fail
                        clear f1 hlk3 hnb
                        obtain ⟨t1, ht1⟩ : ∃ t1 : ST, t1 = { t with ps := t0.ps, low := t0.low } := ⟨_, rfl⟩
                        have HT1 := hide ht1
                        refine wp_cut_mask dmC34 (fun _ U => ∃ G Y ns, Hid (DR w U (KL W3.heap.size W5.heap.size D M (fun _ => False)) okL G Y x2 ns t1 ∧ DL w W5 U W3.heap.size okL (fun _ => False) D M (opA p lv dv ca cn cc) (pm - i) t1)) ?first ?rest
                        case first =>
                          intro J K' hJ hK'
                          as_aux_lemma =>
                          obtain ⟨Yt, pvt, b1, b2'⟩ := HDL3.out.bj.bx.tops
                          have e1 := cells_all b1 0
                          have e1b := cells_all b1 1
                          simp only [List.getElem?_toArray, List.getElem?_cons_zero, List.getElem?_cons_succ] at e1 e1b
                          have z1 := blk_lt b1
                          have z2 := blk_lt b2'
                          have hNL := (HDL3.out.same NL (Or.inl ⟨HNL.out.2, blk_lt HNL.out.1⟩)).trans HNL.out.1
                          have zN := blk_lt hNL
                          have rl : rng V3 NL 0 8 = some (lvCs x2) := rng_whole hNL
                          have ho8 := HO8.out
                          have q1 : w.heap.size + 2 ≠ w.heap.size := by omega
                          have q2 : NL ≠ w.heap.size := by have := HNL.out.2; have := HWZ.out.1; omega
                          have HTOP := hide b2'
                          have HPV : Hid (PairsAt V3 (fun b => W3.heap.size ≤ b ∧ b < W5.heap.size) (.slice pa pm pc) t0.ps) := HPR.out.mono (fun b q => HDL3.out.same b (Or.inl q)) (fun _ q => q)
                          have HLT : Hid (∀ g, KL W3.heap.size W5.heap.size D M (fun _ => False) g ∨ okL g → g < V3.heap.size) := fun g q => HDL3.out.bj.lt q
                          have HSN : Hid (∀ W : World, W.heap[V3.heap.size]? = some (.cells #[.slice pa pm pc, .bool false, .int .i64 0, .int .i64 0] 131 (0, 0)) → Below V3.heap.size V3 W → Calls Tryz.prog 41 #[.pointer (some ⟨V3.heap.size, 0, none⟩)] W fun e w' => ∃ ns, e = .returned (.slice (some ⟨W.heap.size, 0, none⟩) t0.ps.length t0.ps.length) ∧ OwnR w' W.heap.size 171 2 zCs (.slice (some ⟨W.heap.size, 0, none⟩) t0.ps.length t0.ps.length) ns ∧ Zip w' (fun b => W.heap.size < b ∧ b < w'.heap.size) ns ∧ ns.map (·.2) = t0.ps ∧ NFs w' W.heap.size ns ∧ Below W.heap.size W w') := fun W hk hW => snapshot_own W V3.heap.size _ _ t0.ps false 0 0 hk (HPV.out.mono (fun b q => hW.block b (HLT.out b (Or.inl (Or.inl q)))) (fun _ q => q)) (by have := HC2.out.1; omega)
                          clear b1 b2' hNL
                          refine wp_region_mixX V3.heap.size w.heap.size [3, 7, 12] (by kernel_rfl) ?_
                          refine mixT_slots [0, 1, 2, 4, 5, 6, 8, 9] (fuel := 10) rfl (by kernel_rfl) (by kernel_rfl) (fun d _ _ _ _ h => by cases d <;> exact h) ?_
                          simp only [opersAt, List.getElem?_toArray, List.getElem?_cons_zero, List.getElem?_cons_succ]
                          repeat (go_big_quiet_step (fail))
                          refine wpQuiet_nil ?_
                          refine mixT_reads [3, 7, 12] (fuel := 7) rfl (by kernel_rfl) (by decide) (by kernel_rfl) (fun d _ _ _ _ h => by cases d <;> exact h) (exS_drew _ _ _) ?_
                          simp only [opersAt, List.getElem?_toArray, List.getElem?_cons_zero, List.getElem?_cons_succ]
                          repeat (go_big_quiet_step (fail))
                          refine wpQuiet_nil ?_
                          refine mixT_one (k := 10) (by kernel_rfl) rfl ?_
                          go_wp2
                          obtain ⟨Wb, hWb⟩ : ∃ Wb, Wb = (V3.alloc (.cells #[.slice pa pm pc, .bool false, .int .i64 0, .int .i64 0] 131)).drew := ⟨_, rfl⟩
                          rw [← hWb]
                          have hbb1 : Below V3.heap.size V3 Wb := by rw [hWb]; exact ((Below.refl _ _).alloc (Nat.le_refl _) _).drew
                          have hkb1 : Wb.heap[V3.heap.size]? = some (.cells #[.slice pa pm pc, .bool false, .int .i64 0, .int .i64 0] 131 (0, 0)) := by rw [hWb]; exact heap_alloc_at V3 _
                          refine ⟨Or.inr (by intros; exact exS_below hbb1), ?_⟩
                          clear hWb
                          refine mixT_one (k := 11) (by kernel_rfl) rfl ?_
                          go_wp2_with (go_at_call 41; refine (HSN.out _ hkb1 hbb1).mono ?_; rintro e V4 ⟨ns, rfl, hown, hzip, hmap, hnf, hbv⟩)
                          have hb4 : Below V3.heap.size V3 V4 := hbb1.trans (hbv.mono hbb1.size)
                          refine ⟨Or.inr (by intros; exact exS_below hb4), ?_⟩
                          have HB4 := hide hb4
                          have HWB : Hid (V3.heap.size ≤ Wb.heap.size ∧ Wb.heap.size ≤ V4.heap.size) := ⟨hbb1.size, hbv.size⟩
                          have HOWN := hide hown
                          have HZIP := hide hzip
                          have HMAP := hide hmap
                          have HNF := hide hnf
                          have ht4 := (hb4.block _ z2).trans HTOP.out
                          have c4 := cells_all ht4 0
                          simp only [List.getElem?_toArray, List.getElem?_cons_zero] at c4
                          have f4 : V4.frozen? ⟨w.heap.size, 0, none⟩ = false := by simp [World.frozen?, ht4]
                          have HT4 := hide ht4
                          clear hbb1 hkb1 hown hzip hmap hnf hbv hb4 ht4
                          refine mixT_slots [13, 14] (fuel := 3) rfl (by kernel_rfl) (by kernel_rfl) (fun d _ _ _ _ h => by cases d <;> exact h) ?_
                          simp only [opersAt, List.getElem?_toArray, List.getElem?_cons_zero, List.getElem?_cons_succ]
                          repeat (go_big_quiet_step (fail))
                          refine wpQuiet_nil ?_
                          refine mixT_one (k := 15) (by kernel_rfl) rfl ?_
                          go_wp2
                          obtain ⟨U1, hU1⟩ : ∃ U1, U1 = V4.setCell ⟨w.heap.size, 0, none⟩ (.slice (some ⟨Wb.heap.size, 0, none⟩) t0.ps.length t0.ps.length) := ⟨_, rfl⟩
                          rw [← hU1]
                          have ho1 : ∀ b, b ≠ w.heap.size → U1.heap[b]? = V4.heap[b]? := fun b hb => by rw [hU1]; exact Below.heap_setCell _ _ _ _ hb
                          have hs1 : U1.heap.size = V4.heap.size := by rw [hU1]; simp
                          have hu1 : U1.heap[w.heap.size]? = some (.cells #[.slice (some ⟨Wb.heap.size, 0, none⟩) t0.ps.length t0.ps.length, .bool t.full, .int .i64 t.off, .int .i64 t.lar] 131 (0, 0)) := by
                            rw [hU1]
                            exact heap_set3 HT4.out
                          refine ⟨Or.inr (by intros; exact ⟨⟨U1, fun b h1 h2 => (ho1 b h2).trans (HB4.out.block b h1)⟩, rfl⟩), ?_⟩
                          obtain ⟨xl, okl', hlb3, -⟩ := HDL3.out.bj.bx.keep
                          have hlb1 : U1.heap[w.heap.size + 1]? = some (.cells (lvCs xl) 83 (0, 0)) := (ho1 _ (by omega)).trans ((HB4.out.block _ (blk_lt hlb3)).trans hlb3)
                          have hwl : whole U1 (w.heap.size + 1) 8 = true := by unfold whole; rw [hlb1]; rfl
                          have HO1 := hide ho1
                          have HS1 : Hid (U1.heap.size = V4.heap.size) := hs1
                          have HU1 := hide hu1
                          have HLB := hide hlb1
                          have HB1 : Hid (Below w.heap.size w U1) := by
                            have hw := HDL3.out.bj.bx.blw.trans (HB4.out.mono HDL3.out.bj.bx.blw.size)
                            refine ⟨?_, ?_, ?_, by have := hw.size; omega, fun b hb => (ho1 b (by omega)).trans (hw.block b hb)⟩
                            · rw [hU1]; exact hw.1
                            · rw [hU1]; exact hw.2
                            · rw [hU1]; exact hw.3
                          clear hU1 ho1 hs1 hu1 hlb3 hlb1 c4 f4
                          refine mixT_slots [16] (fuel := 1) rfl (by kernel_rfl) (by kernel_rfl) (fun d _ _ _ _ h => by cases d <;> exact h) ?_
                          simp only [opersAt, List.getElem?_toArray, List.getElem?_cons_zero, List.getElem?_cons_succ]
                          repeat (go_big_quiet_step (fail))
                          refine wpQuiet_nil ?_
                          refine mixT_one (k := 17) (by kernel_rfl) rfl ?_
                          go_wp2
                          refine ⟨Or.inl (by kernel_rfl), ?_⟩
                          refine mixT_nil (by kernel_rfl) ?_
                          go_wp2
                          refine Met.intro ?_
                          refine hJ.out () _ _ ?_ (by kernel_rfl)
                          have hro : ∀ b, b ≠ w.heap.size + 1 → (U1.setRow (w.heap.size + 1) (lvCs x2)).heap[b]? = U1.heap[b]? := fun b hb => setRow_other _ _ _ _ hb
                          have hrz : (U1.setRow (w.heap.size + 1) (lvCs x2)).heap.size = U1.heap.size := by simp
                          have hal : ∀ b, b < V3.heap.size → b ≠ w.heap.size → b ≠ w.heap.size + 1 → (U1.setRow (w.heap.size + 1) (lvCs x2)).heap[b]? = V3.heap[b]? := fun b h1 h2 h3 => (hro b h3).trans ((HO1.out b h2).trans (HB4.out.block b h1))
                          have hnw : ∀ b, V3.heap.size ≤ b → (U1.setRow (w.heap.size + 1) (lvCs x2)).heap[b]? = V4.heap[b]? := fun b hb => (hro b (by omega)).trans (HO1.out b (by omega))
                          have hlen : ns.length = t0.ps.length := by rw [← HMAP.out, List.length_map]
                          have hW := HWB.out
                          have hS := HS1.out
                          have hKL : ∀ g, KL W3.heap.size W5.heap.size D M (fun _ => False) g → W3.heap.size ≤ g := fun g q => by
                            have h1 := hMD.out
                            have h2 := HWZ.out
                            have h3 := hW5r.out
                            rcases q with q | q | q | q
                            · exact q.1
                            · omega
                            · omega
                            · exact q.elim
                          have hsm : ∀ g, KL W3.heap.size W5.heap.size D M (fun _ => False) g ∨ okL g → (U1.setRow (w.heap.size + 1) (lvCs x2)).heap[g]? = V3.heap[g]? := fun g q => by
                            refine hal g (HLT.out g q) ?_ ?_
                            · rcases q with q | q
                              · have := hKL g q; have := HWZ.out; omega
                              · exact fun e => (HJL.out g q).1 e
                            · rcases q with q | q
                              · have := hKL g q; have := HWZ.out; omega
                              · exact fun e => (HJL.out g q).2 e
                          have hb0 : Below w.heap.size w (U1.setRow (w.heap.size + 1) (lvCs x2)) := ⟨HB1.out.1, HB1.out.2, HB1.out.3, by have := HB1.out.size; rw [hrz]; exact this, fun b hb => (hro b (by omega)).trans (HB1.out.block b hb)⟩
                          obtain ⟨Y, hDR⟩ := BJ.reset (x0 := x2) (L0 := t0.low) (ns := ns) (G := Wb.heap.size) HDL3.out.bj hW.1 (by rw [hlen]; exact (HOWN.out.base_mono (by have := HDL3.out.bj.bx.blw.size; omega)).mono (fun b e => by (have e : Wb.heap.size = b := Option.some.inj e; exact hnw b (by omega)))) (HZIP.out.mono (fun b q => hnw b (by omega)) (fun b q => ⟨q.1, by rw [hrz, hS]; exact q.2⟩)) (fun z hz a ha => by
                              obtain ⟨k1, cs, T, k2⟩ := HNF.out z hz a ha
                              exact ⟨k1, cs, T, (hnw _ (by omega)).trans k2⟩) (by rw [HMAP.out]; exact HDI.out.pk) (HLW.out.mono (fun b q => (hsm b (Or.inr q)).trans (HDL3.out.same b (Or.inr q))) (fun _ q => q)) (by rw [hrz, hS]; omega) hal (by rw [hlen]; exact (hro _ (by omega)).trans HU1.out) (setRow_heap U1 (w.heap.size + 1) _ _ _ _ HLB.out) hb0 (fun g q e => by have := hKL g q; have := HOK.out g e; omega)
                          rw [HMAP.out] at hDR
                          rw [← HT1.out] at hDR
                          exact ⟨_, Y, ns, hDR, HDL3.out.next hDR.bj hsm⟩
                        case rest =>
                          rintro - uC U ⟨G, Y, ns, HDR⟩
                          dsimp only [dmC34, maskL_keep, maskL_any, maskL_is, maskL_nil]
                          as_aux_lemma =>
                          have hps1 : t1.ps = t0.ps := by rw [HT1.out]
                          have hnl : ns.length = pm := by rw [HDR.out.1.len, hps1]; exact HC2.out.1.symm
                          have hiN : i < ns.length := by omega
                          have hnsi : ns[i].2 = t0.ps[i] := by
                            have := congrArg (fun l : List KV => l[i]?) HDR.out.1.ps
                            rw [hps1] at this
                            simpa [hiN, hip] using this
                          have hlv : ns[i].2.2.length = n2 := by rw [hnsi]; exact HN2.out.1.symm
                          obtain ⟨vb, vo, vc, hcv, hvb, hBYT⟩ := HDR.out.1.byte (by omega) hiN (by omega)
                          have hsv := HDR.out.1.cells (by omega) hiN
                          have HSV : Hid (sv ns[i].1.2 = .slice (some ⟨vb, vo, none⟩) n2 vc) := by
                            show sv ns[i].1.2 = _
                            rw [hcv] at hsv
                            injection hsv with hsv
                            rw [← hsv, hlv]
                          rw [hlv] at hcv hBYT
                          have HBYT := hide hBYT
                          have htop := HDR.out.1.bn.bs.stm.top
                          have hbn := HDR.out.1.bn.bn
                          rw [hnl] at htop
                          have v0 := cells_all hbn 0
                          have v1 := cells_all htop 0
                          have hd := HDR.out.2.d
                          have d3 := cells_all hd 19
                          have d4 := cells_all hd 20
                          have d5 := cells_all hd 21
                          simp only [opA, List.getElem?_toArray, List.getElem?_cons_zero, List.getElem?_cons_succ] at v0 v1 d3 d4 d5
                          have zD := blk_lt hd
                          have zB := blk_lt hbn
                          have zS := blk_lt htop
                          have hnum : 0 ≤ p.num ∧ p.num ≤ 18446744073709551615 := HOI.out.num
                          obtain ⟨hn0, hn1'⟩ := hnum
                          have hn23 := HN2.out.2
                          have HNS : Hid (ns.length = pm ∧ ns[i].2 = t0.ps[i] ∧ t1.ps.length = pm) := ⟨hnl, hnsi, by rw [hps1]; exact HC2.out.1.symm⟩
                          clear hBYT hsv hlv hnsi hd hbn htop hnl hps1
                          go_upto_region 37 with fail
                          obtain ⟨k, hk⟩ : ∃ k : Nat, p.num % (n2 : Int) = (k : Int) := ⟨(p.num % (n2 : Int)).toNat, by have := Int.emod_nonneg p.num (b := (n2 : Int)) (by omega); omega⟩
                          have hkn : k < n2 := by have := Int.emod_lt_of_pos p.num (b := (n2 : Int)) (by omega); omega
                          rw [hk]
                          clear hk
                          go_upto_block 10 with fail
                          obtain ⟨sel, hsel⟩ : ∃ sel, sel = p.num / 4294967296 % 3 := ⟨_, rfl⟩
                          rw [← hsel]
                          clear hsel
                          refine wp_cut_mask dmSw (fun _ U2 => ∃ ps', Hid (DL w W5 U2 W3.heap.size okL (fun _ => False) D M (opA p lv dv ca cn cc) (pm - i) { t1 with ps := ps' } ∧ PsOk ps' ∧ ps'.length = pm)) ?first ?rest
                          case first =>
                            intro J K' hJ hK'
                            as_aux_lemma =>
                            cases s0 : (sel == 0) with
                            | true =>
                              as_aux_lemma =>
                              obtain ⟨y, hy, hfz, hset⟩ := HBYT.out k hkn
                              have HSET := hide (hset 255 ⟨by decide, by decide⟩)
                              clear hset
                              go_wp2
                              refine Met.intro ?_
                              refine hJ.out () _ _ ?_ (by kernel_rfl)
                              obtain ⟨ps', k1, k2, k3, k4⟩ := HSET.out
                              exact ⟨ps', HDR.out.2.next k1 k4, k2, by have := HNS.out.2.2; omega⟩
                            | false =>
                              cases s1 : (sel == 1) with
                              | true =>
                                as_aux_lemma =>
                                obtain ⟨y, hy, hfz, hset⟩ := HBYT.out k hkn
                                have HSET := hide hset
                                clear hset
                                go_wp2
                                refine Met.intro ?_
                                refine hJ.out () _ _ ?_ (by kernel_rfl)
                                obtain ⟨ps', k1, k2, k3, k4⟩ := HSET.out _ (wrap_u8 _)
                                exact ⟨ps', HDR.out.2.next k1 k4, k2, by have := HNS.out.2.2; omega⟩
                              | false =>
                                as_aux_lemma =>
                                have hval := (HDR.out.1.bn.bs.stm.zip _ (List.getElem_mem hiN)).2
                                have hpk := HDR.out.1.pk
                                rw [HSV.out] at hval
                                have HVL := hide hval
                                have HBV : Hid (ByteL ns[i].2.2) := by
                                  have h1 := HDI.out.pk _ (List.getElem_mem hip)
                                  show ByteL _
                                  rw [HNS.out.2.1]
                                  exact h1.2
                                have HDM : Hid (∀ W, Below U.heap.size U W → Calls Tryz.prog 51 #[.slice (some ⟨vb, vo, none⟩) n2 vc, .int .u8 p.mode, .int .u64 p.num, dv] W fun e w' => DmPostB W w' (ns[i].2.2.length + p.data.length) ns[i].2.2 p.data e) := fun W hW =>
                                  damage_b W _ _ _ _ _ _ _ _ (RArr.mono HVL.out (fun b q => hW.block b q.2) (fun _ q => q)) (HOI.out.below (HDR.out.1.bel.trans (hW.mono HDR.out.1.bel.size))).data HOI.out.mode HOI.out.num (by rw [HNS.out.2.1, ← HN2.out.1]; omega) (by have := HOI.out.ld; omega)
                                obtain ⟨da', dn', dc', rfl⟩ : ∃ a n c, dv = .slice a n c := HOI.out.data.form
                                clear hval hpk
                                go_upto_region 38 with fail
                                refine wp_region_mixT (U.heap.size) [3, 10, 12, 14, 6] (by kernel_rfl) ?_
                                refine mixT_slots [0, 1, 2, 7, 8, 9, 11, 13] (fuel := 11) rfl (by kernel_rfl) (by kernel_rfl) (fun d _ _ _ _ h => by cases d <;> exact h) ?_
                                simp only [opersAt, List.getElem?_toArray, List.getElem?_cons_zero, List.getElem?_cons_succ]
                                repeat (go_big_quiet_step (fail))
                                refine wpQuiet_nil ?_
                                refine mixT_reads [3, 10, 12, 14] (fuel := 7) rfl (by kernel_rfl) (by decide) (by kernel_rfl) (fun d _ _ _ _ h => by cases d <;> exact h) (ext_drew _ _) ?_
                                simp only [opersAt, List.getElem?_toArray, List.getElem?_cons_zero, List.getElem?_cons_succ]
                                repeat (go_big_quiet_step (fail))
                                refine wpQuiet_nil ?_
                                refine mixT_slots [4, 5] (fuel := 5) rfl (by kernel_rfl) (by kernel_rfl) (fun d _ _ _ _ h => by cases d <;> exact h) ?_
                                simp only [opersAt, List.getElem?_toArray, List.getElem?_cons_zero, List.getElem?_cons_succ]
                                repeat (go_big_quiet_step (fail))
                                refine wpQuiet_nil ?_
                                refine mixT_reads [6] (fuel := 4) rfl (by kernel_rfl) (by decide) (by kernel_rfl) (fun d _ _ _ _ h => by cases d <;> exact h) (ext_drew _ _) ?_
                                simp only [opersAt, List.getElem?_toArray, List.getElem?_cons_zero, List.getElem?_cons_succ]
                                repeat (go_big_quiet_step (fail))
                                refine wpQuiet_nil ?_
                                refine mixT_one (k := 15) (by kernel_rfl) rfl ?_
                                go_wp2_with (go_at_call 51; refine (HDM.out _ (Below.refl _ _).drew).mono ?_; rintro e V5 ⟨v', bs', rfl, hbs, hlb', hby, hb5⟩)
                                have hb6 : Below U.heap.size U V5 := (Below.refl _ _).drew.trans hb5
                                refine ⟨Or.inr (by intros; exact ⟨⟨_, hb6⟩, rfl⟩), ?_⟩
                                obtain ⟨a5, n5, c5, rfl⟩ := hbs.form
                                obtain ⟨⟨cl, hcl5⟩, hfz5, hnw⟩ := HDR.out.1.new hiN hb6 hbs (hby HBV.out HBY.out)
                                have HNW := hide hnw
                                clear hnw hbs hby hb5 hb6 hlb'
                                refine mixT_slots [16, 17] (fuel := 1) rfl (by kernel_rfl) (by kernel_rfl) (fun d _ _ _ _ h => by cases d <;> exact h) ?_
                                simp only [opersAt, List.getElem?_toArray, List.getElem?_cons_zero, List.getElem?_cons_succ]
                                repeat (go_big_quiet_step (fail))
                                refine wpQuiet_nil ?_
                                refine mixT_one (k := 18) (by kernel_rfl) rfl ?_
                                go_wp2
                                refine ⟨Or.inl (by kernel_rfl), ?_⟩
                                refine mixT_nil (by kernel_rfl) ?_
                                go_wp2
                                refine Met.intro ?_
                                refine hJ.out () _ _ ?_ (by kernel_rfl)
                                obtain ⟨ps', k1, k2, k3, k4⟩ := HNW.out
                                exact ⟨ps', HDR.out.2.next k1 k4, k2, by have := HNS.out.2.2; omega⟩
                          case rest =>
                            rintro - uD U2 ⟨ps', HD2⟩
                            dsimp only [dmSw, maskL_keep, maskL_any, maskL_is, maskL_nil]
                            as_aux_lemma =>
                            have hoff1 : t1.off = t.off ∧ t1.low = t0.low := by rw [HT1.out]; exact ⟨rfl, rfl⟩
                            obtain ⟨t2, ht2⟩ : ∃ t2 : ST, t2 = { t1 with ps := ps' } := ⟨_, rfl⟩
                            have h2p : t2.ps = ps' ∧ t2.off = t.off ∧ t2.low = t0.low := by rw [ht2]; exact ⟨rfl, hoff1.1, hoff1.2⟩
                            have HD2' : Hid (DL w W5 U2 W3.heap.size okL (fun _ => False) D M (opA p lv dv ca cn cc) (pm - i) t2) := by
                              show DL _ _ _ _ _ _ _ _ _ _ _
                              rw [ht2]
                              exact HD2.out.1
                            have HO2 : Hid (t2.off = t.off) := h2p.2.1
                            have HDI2 : Hid (DI n t2.off.toNat t2) := ⟨by rw [h2p.1]; exact HD2.out.2.1, by rw [h2p.1, HD2.out.2.2]; have := HDI.out.plen; have := HC2.out.1; omega, by have := HOF.out.1; have := h2p.2.1; omega, by rw [h2p.2.2]; exact HDI.out.low⟩
                            have HPO2 : Hid (PO t2.ps t2.low) := HDI2.out.po (by omega)
                            have HL2 : Hid (t2.ps.length ≤ 3000000) := by show _ ≤ _; rw [h2p.1, HD2.out.2.2]; exact hpm3
                            have hof2 : 0 ≤ t2.off ∧ t2.off ≤ 999999999000000 := by have := HOF.out; have := h2p.2.1; omega
                            clear ht2 h2p hoff1 HD2 HDR HBYT HNS hcv v0 v1 d3 d4 d5 hvb zD zB zS hkn HSV
                            obtain ⟨Y', pv', A', x', ok', b1, b2', b3, hpr, hlo⟩ := HD2'.out.bj.bx.all (by have := HL2.out; omega)
                            have e1 := cells_all b1 0
                            simp only [List.getElem?_toArray, List.getElem?_cons_zero] at e1
                            have HSN2 := hide (snapshot_calls U2 w.heap.size A' pv' t2.ps t2.full t2.off t2.lar b2' hpr (by have := HL2.out; omega))
                            clear b1 b2' b3 hpr hlo
                            go_upto_region 44 with (go_at_call 41; refine HSN2.out.mono ?_; rintro e U3 ⟨v', rfl, hpv, hbv, da, dn, dc, rfl⟩)
                            have HD3 : Hid (DL w W5 U3 W3.heap.size okL (fun g => U2.heap.size ≤ g ∧ g < U3.heap.size) D M (opA p lv dv ca cn cc) (pm - i) t2) := HD2'.out.more hbv (fun g q => Or.inr q)
                            have HPD := hide hpv
                            clear hpv hbv HSN2 HD2' e1
                            go_upto_region 45 with fail
                            refine wp_loop_mask dmL6 (fun g x wr => ∃ k : Nat, k ≤ rs.length ∧ g = rs.length - k ∧ x = .int .i64 k ∧ Hid (DL w W5 wr W3.heap.size okL (fun g => U2.heap.size ≤ g ∧ g < U3.heap.size) D M (opA p lv dv ca cn cc) (pm - i) t2 ∧ ∀ g, (U2.heap.size ≤ g ∧ g < U3.heap.size) → wr.heap[g]? = U3.heap[g]?)) rs.length (.int .i64 0) ⟨0, by omega, by omega, rfl, HD3.out, fun _ _ => rfl⟩ (by kernel_rfl) ?_
                            clear HD3
                            intro gk6 x6 u6 wr hrel J6 K6 hJ6 hK6
                            dsimp only [dmL6, maskL_keep, maskL_any, maskL_is, maskL_nil]
                            obtain ⟨k6, hk6, rfl, rfl, H6⟩ := hrel
                            by_cases h6 : k6 < rs.length
                            · as_aux_lemma =>
                              obtain ⟨rg, rcap, e, hg0, hrg, hrr⟩ := HRA.out.elem qCs_size (by decide) (by omega) (by omega)
                              injection e with e1 e2 e3
                              subst e1 e3
                              have hcl := hrr k6 h6
                              have hrgK : W3.heap.size ≤ rg ∧ rg < W5.heap.size := ⟨by have := HWZ.out; omega, hrg⟩
                              rw [← rng_of_block (H6.out.1.same rg (Or.inl hrgK))] at hcl
                              have hrk := HRK.out _ (List.getElem_mem h6)
                              clear hrr e2 hg0
                              generalize rs[k6] = r at *
                              have hbw : rg < wr.heap.size := H6.out.1.bj.lt (Or.inl (Or.inl hrgK))
                              have hones := qCs_ones r
                              have HX := hide (H6.out.1.below ((Below.refl _ _).alloc (Nat.le_refl _) (.cells (qCs r) 61)))
                              have HEQ : Hid (∀ g, (U2.heap.size ≤ g ∧ g < U3.heap.size) → (wr.alloc (.cells (qCs r) 61)).heap[g]? = U3.heap[g]?) := fun g q => (Below.heap_alloc _ _ _ (H6.out.1.bj.lt (Or.inl (Or.inr (Or.inr (Or.inr q)))))).trans (H6.out.2 g q)
                              have HRK1 := hide hrk
                              clear H6 hrk hrgK hrg
                              go_upto_region 47 with fail
                              have hr1 : rng (wr.alloc (.cells (qCs r) 61)) wr.heap.size 0 27 = some (qCs r) := rng_whole (heap_alloc_at _ _)
                              generalize wr.alloc (.cells (qCs r) 61) = V6 at *
                              generalize wr.heap.size = D6 at *
                              clear hcl hbw
                              have HST := hide (HX.out.step HPO2.out HRK1.out.1 (HGL.out _ HX.out.bj.bx.blw) ⟨hof2.1, by omega⟩)
                              rw [stepR_rd (o := qOp r) rfl HRK1.out.2] at HST
                              go_wp2_with (go_at_call 21; refine HST.out.mono ?_; rintro e V7 ⟨ans, rfl, h7, h8, h9⟩)
                              refine Handed.intro (rs.length - (k6 + 1)) (by omega) ?_
                              exact hJ6.out _ (.int .i64 ((k6 + 1 : Nat) : Int)) _ _ ⟨k6 + 1, by omega, rfl, rfl, h7, fun g q => (h8 g q).trans (HEQ.out g q)⟩ (by kernel_rfl)
                            · as_aux_lemma =>
                              obtain rfl : k6 = rs.length := by omega
                              generalize wr = V8 at *
                              obtain ⟨Y', pv', A', x', ok', b1, b2', b3, hpr, hlo⟩ := H6.out.1.bj.bx.all (by have := HL2.out; omega)
                              obtain ⟨va, vn, vcc, rfl⟩ := hpr.form
                              have e1 := cells_all b1 0
                              have e3 := cells_all b2' 0
                              simp only [List.getElem?_toArray, List.getElem?_cons_zero] at e1 e3
                              have HP8 : Hid (PairsAt V8 (fun b => U2.heap.size ≤ b ∧ b < U3.heap.size) (.slice da dn dc) t2.ps) := HPD.out.mono (fun b q => H6.out.2 b q) (fun _ q => q)
                              have hsp := samePairs_calls V8 _ _ _ _ _ _ HP8.out hpr
                              rw [decide_eq_true rfl] at hsp
                              have HSP := hide hsp
                              have HD8 : Hid (DL w W5 V8 W3.heap.size okL (fun _ => False) D M (opA p lv dv ca cn cc) (pm - i) t2) := H6.out.1.more (Below.refl _ _) (fun g q => q.elim)
                              clear b1 b2' b3 hpr hlo hsp H6 HPD HP8
                              go_upto_region 51 with (go_at_call 42; refine HSP.out.mono ?_; rintro e V9 ⟨rfl, mm, rfl⟩)
                              have HD9 := hide (HD8.out.below (below_drewN (Below.refl _ _) mm))
                              clear e1 e3 HSP HD8
                              generalize V8.drewN mm = V9 at *
                              go_upto_region 52 with fail
                              refine wp_loop_mask dmL7 (fun g x wr => ∃ k : Nat, k ≤ cs.length ∧ g = cs.length - k ∧ x = .int .i64 k ∧ ∃ t', Hid (DL w W5 wr W3.heap.size okL (fun _ => False) D M (opA p lv dv ca cn cc) (pm - i) t' ∧ DI (n + k) (t2.off.toNat + k) t')) cs.length (.int .i64 0) ⟨0, by omega, by omega, rfl, t2, HD9.out, HDI2.out⟩ (by kernel_rfl) ?_
                              clear HD9
                              intro gk7 x7 u7 wr hrel J7 K7 hJ7 hK7
                              dsimp only [dmL7, maskL_keep, maskL_any, maskL_is, maskL_nil]
                              obtain ⟨k7, hk7, rfl, rfl, t3, H7⟩ := hrel
                              by_cases h7 : k7 < cs.length
                              · as_aux_lemma =>
                                obtain ⟨rg, rcap, e, hg0, hrg, hrr⟩ := HCA.out.elem qCs_size (by decide) (by omega) (by omega)
                                injection e with e1 e2 e3
                                subst e1 e3
                                have hcl := hrr k7 h7
                                have hrgK : W3.heap.size ≤ rg ∧ rg < W5.heap.size := ⟨by have := HWZ.out; omega, hrg⟩
                                rw [← rng_of_block (H7.out.1.same rg (Or.inl hrgK))] at hcl
                                have hrk := HCK.out _ (List.getElem_mem h7)
                                clear hrr e2 hg0
                                generalize cs[k7] = r at *
                                have hbw : rg < wr.heap.size := H7.out.1.bj.lt (Or.inl (Or.inl hrgK))
                                have hones := qCs_ones r
                                have HX := hide (H7.out.1.below ((Below.refl _ _).alloc (Nat.le_refl _) (.cells (qCs r) 61)))
                                have HRK1 := hide hrk
                                have HDI7 := hide H7.out.2
                                clear H7 hrk hrgK hrg
                                go_upto_region 54 with fail
                                have hr1 : rng (wr.alloc (.cells (qCs r) 61)) wr.heap.size 0 27 = some (qCs r) := rng_whole (heap_alloc_at _ _)
                                generalize wr.alloc (.cells (qCs r) 61) = V6 at *
                                generalize wr.heap.size = D6 at *
                                clear hcl hbw
                                have HST := hide (HX.out.step (HDI7.out.po (by omega)) HRK1.out (HGL.out _ HX.out.bj.bx.blw) ⟨HDI7.out.off.1, by have := HDI7.out.off.2; omega⟩)
                                go_wp2_with (go_at_call 21; refine HST.out.mono ?_; rintro e V7 ⟨ans, rfl, h8, -, -⟩)
                                refine Handed.intro (cs.length - (k7 + 1)) (by omega) ?_
                                exact hJ7.out _ (.int .i64 ((k7 + 1 : Nat) : Int)) _ _ ⟨k7 + 1, by omega, rfl, rfl, _, h8, HDI7.out.step (o := qOp r) HRK1.out.ok⟩ (by kernel_rfl)
                              · as_aux_lemma =>
                                go_wp2
                                refine Handed.intro i (by omega) ?_
                                exact hJ5.out _ (.int .i64 ((i : Int) - 1)) _ _ ⟨i, by omega, rfl, rfl, t3, HEND.out _ _ H7.out.1 ⟨H7.out.2.off.1, by have := H7.out.2.off.2; have := HO2.out; omega⟩⟩ (by kernel_rfl)
                      · as_aux_lemma =>
                        obtain rfl : c = 0 := by omega
                        rw [show (((0 : Nat) : Int) - 1) = -1 by omega]
                        go_wp2
                        refine Handed.intro (n - (q + 1)) (by omega) ?_
                        exact hJ4.out _ (.int .i64 ((q + 1 : Nat) : Int)) _ _ ⟨q + 1, by omega, rfl, rfl, t, HT.out.1.dk, HT.out.2.1, by have := HT.out.2.2; omega⟩ (by kernel_rfl)
                  · as_aux_lemma =>
                    have h5 : (p.kind != 5) = true := by simp; omega
                    have h7 : (p.kind != 7) = true := by simp; omega
                    go_wp2
                    refine Handed.intro (n - (q + 1)) (by omega) ?_
                    exact hJ4.out _ (.int .i64 ((q + 1 : Nat) : Int)) _ _ ⟨q + 1, by omega, rfl, rfl, t, HD1.out, HOF.out.1, by have := HOF.out.2; omega⟩ (by kernel_rfl)
                · as_aux_lemma =>
                  have HBW := hide HT.out.1.bj.bx.blw
                  go_wp2
                  go_ret
                  exact ⟨by first | rfl | simp, HBW.out⟩
  · have hd : decide (total s ≤ 65536) = false := by simpa using hsm
    rw [hd] at HSm
    clear hd hsm ha hc hn hgl HNB
    go_enter Tryz.func16, Tryz.ntmps16
    go_wp2_with (go_at_call 18; refine HSm.out.mono ?_; rintro e w1 ⟨rfl, rfl⟩)
    go_ret
    exact ⟨rfl, Below.refl _ _⟩

end Go.Proofs.Qxb6500666aGreatDoor
