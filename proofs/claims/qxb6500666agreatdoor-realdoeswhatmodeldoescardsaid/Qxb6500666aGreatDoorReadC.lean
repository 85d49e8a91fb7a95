/- The reading of the trail. -/
import Derived.Test.Qxb6500666aGreatDoorReadK
import Derived.Test.Qxb6500666aGreatDoorEntOk
namespace Go.Proofs.Qxb6500666aGreatDoor
open Go.RowKit
attribute [local go_sem] ext_const Ext.cell Ext.frozen Ext.rng Ext.whole
attribute [local go_sem ↓] exec_ldRsp exec_stRsp exec_bdRsp exec_ldStat exec_stStat exec_ldAcc exec_stAcc exec_ldHd exec_stHd exec_ldEnt exec_stEnt
attribute [local go_sem] run_ldRsp run_stRsp run_bdRsp0 run_bdRsp1 respCs_ones run_ldStat run_stStat run_ldAcc run_stAcc run_ldHd run_stHd whole_alloc_lt whole_alloc_at whole_drew setRow_alloc_at setRow_alloc_lt rng_alloc_lt rng_alloc_at rng_drew rng_drewN rng_setCell_other whole_setCell_other


set_option maxRecDepth 100000 in
set_option maxHeartbeats 2000000 in
theorem read30 (w : World) (Y S LB : Nat) (A ok : Nat → Prop) (ps : List KV) (full : Bool) (x : LV) (L : Low) (r : Req) (lv : Value) (h : SysSt w Y S LB A ok ps full x L) (rn kn ft : Nat → ByteArray) (hnm : NmAt w rn kn ft) :
    Calls Tryz.prog 128 #[.pointer (some ⟨Y, 0, none⟩), .agg #[.int .u8 30, .int .u32 r.user, .int .i64 r.now, .int .u32 r.id, .int .u32 r.ref, .int .u32 r.kit, .int .u32 r.subject, .int .u32 r.visit, .int .u8 r.role, .int .u8 r.cls, .int .i64 r.time, .int .i64 r.till, .int .i64 r.value, .int .i64 r.l0, .int .i64 r.l1, .int .i64 r.l2, lv]] w fun e w' => RdPost w w' e (trailX rn kn w w' ps) := by
  have HRX : Hid (∀ w' e (P : Except Int (Rsp → Prop)), RdPost w w' e P ↔ RdPost w w' e P) := fun _ _ _ => Iff.rfl
  have HC := hide (fun W (hb : Below w.heap.size w W) => trail_calls W Y S LB A ps full (h.below hb).sys (h.below hb).st h.pk h.plen)
  have hYc := (sys_cells h.sys).2
  have hYl := blk_lt h.sys
  have HRR := hide (fun W (hW : Below w.heap.size w W) (a : Option Addr) (n c : Nat) (zs : List ZE) (ho : RArr W (fun _ => True) 20 zeCs (.slice a n c) zs) (hz : ZipE W (fun _ => True) zs) (hR : trailR ps = some (zs.map (·.1))) => renderTrail_calls W (fun _ => True) rn kn ft a n c zs ho hz (by obtain ⟨_, _, _, _, hv, _⟩ := ho; injection hv with q1 q2 q3; have := (trailR_ok h.pk hR).2; have := h.plen; rw [List.length_map] at *; omega) (hnm.below hW) (fun z hz => (trailR_ok h.pk hR).1 _ (List.mem_map_of_mem hz)))
  have HLN := hide (fun l (hR : trailR ps = some l) => Nat.le_trans (trailR_ok h.pk hR).2 h.plen)
  clear h HRX hnm
  go_enter Tryz.func128, Tryz.ntmps128
  go_upto_region 3 with fail
  have H0 := hide (RB.start w #[.int .u8 30, .int .u32 r.user, .int .i64 r.now, .int .u32 r.id, .int .u32 r.ref, .int .u32 r.kit, .int .u32 r.subject, .int .u32 r.visit, .int .u8 r.role, .int .u8 r.cls, .int .i64 r.time, .int .i64 r.till, .int .i64 r.value, .int .i64 r.l0, .int .i64 r.l1, .int .i64 r.l2, lv])
  change Code.wp _ _ _ _ (((w.alloc (.cells #[.int .u8 30, .int .u32 r.user, .int .i64 r.now, .int .u32 r.id, .int .u32 r.ref, .int .u32 r.kit, .int .u32 r.subject, .int .u32 r.visit, .int .u8 r.role, .int .u8 r.cls, .int .i64 r.time, .int .i64 r.till, .int .i64 r.value, .int .i64 r.l0, .int .i64 r.l1, .int .i64 r.l2, lv] 53)).alloc (.cells (respCs rsp0) 75)).alloc (.cells (respCs rsp0) 75))
  generalize (((w.alloc (.cells #[.int .u8 30, .int .u32 r.user, .int .i64 r.now, .int .u32 r.id, .int .u32 r.ref, .int .u32 r.kit, .int .u32 r.subject, .int .u32 r.visit, .int .u8 r.role, .int .u8 r.cls, .int .i64 r.time, .int .i64 r.till, .int .i64 r.value, .int .i64 r.l0, .int .i64 r.l1, .int .i64 r.l2, lv] 53)).alloc (.cells (respCs rsp0) 75)).alloc (.cells (respCs rsp0) 75)) = W0 at *
  obtain ⟨-, -, hq, -, -, hz⟩ := H0.out.facts
  have q0 := hq 0
  have q3 := hq 3
  have q4 := hq 4
  simp only [List.getElem?_toArray, List.getElem?_cons_zero, List.getElem?_cons_succ] at q0 q3 q4
  have hy : W0.cell? ⟨Y, 1, none⟩ = some (.pointer (some ⟨LB, 0, none⟩)) := (H0.out.blw.cell (p := ⟨Y, 1, none⟩) hYl).trans hYc
  clear hq hYc
  cases hR : trailR ps with
  | none =>
    have HR := hide hR
    clear hR
    go_upto_region 32 with (go_at_call 37; refine (HC.out _ H0.out.blw).mono ?_; rintro e W1 hp; rw [HR.out] at hp; obtain ⟨rfl, hb⟩ := hp; have H2 := hide (H0.out.next hb); clear hb)
    clear q0 q3 q4
    go_wp2_with (go_at_call 126; refine (refuse_calls _ 28).mono ?_; rintro e W3 ⟨rfl, hb⟩; have H3 := hide (H2.out.next hb); obtain ⟨h1, -⟩ := H3.out.facts; clear hb)
    obtain ⟨f1, f2⟩ := H3.out.fin (y := { rsp0 with code := 28 })
    refine bodyPost_ret (results_cell1 Tryz.results128 _ _ (w.heap.size + 1) _ _ _ _ rfl f1 Tryz.underlying75 rfl (by kernel_rfl)) rfl ?_
    unfold trailX
    rw [HR.out]
    exact ⟨rfl, f2⟩
  | some l =>
    have HR := hide hR
    clear hR
    go_upto_region 31 with (go_at_call 37; refine (HC.out _ H0.out.blw).mono ?_; rintro e W1 hp; rw [HR.out] at hp; obtain ⟨v, zs, rfl, ho, hzp, hzl, hb⟩ := hp; obtain ⟨a, n, c, rfl⟩ := ho.form3; have HO := hide ho; have HZP := hide hzp; have HZL := hide hzl; have H1 := hide (H0.out.next hb); clear hb ho hzp hzl)
    clear q0 q3 q4
    have HX := hide (HRR.out W1 H1.out.blw a n c zs (RArr.mono (HO.out.rows zeCs_size (by decide) (by have := HLN.out l HR.out; have := HZL.out; have := congrArg List.length this; rw [List.length_map] at this; omega)) (fun _ _ => rfl) (fun _ _ => trivial)) (fun z hz => RArr.mono (HZP.out z hz) (fun _ _ => rfl) (fun _ _ => trivial)) (by rw [HZL.out]; exact HR.out))
    obtain ⟨TX, hTX⟩ : ∃ TX, rtR rn kn (zs.map (·.1)) = TX := ⟨_, rfl⟩
    rw [hTX] at HX
    have HT : Hid (rtR rn kn l = TX) := by rw [← HZL.out]; exact hTX
    clear hTX HRR
    cases TX with
    | error c' =>
      go_upto_region 32 with (go_at_call 79; refine HX.out.mono ?_; rintro e W3 hp; obtain ⟨rfl, hb⟩ := hp; have H5 := hide (H1.out.next hb); have c37 := H5.out.facts.2.2.2.1 37; simp only [respCs, rsp0, noS, sv, List.getElem?_toArray, List.getElem?_cons_zero, List.getElem?_cons_succ] at c37; have g37 := H5.out.facts.2.2.2.2.1 37; clear hb)
      have H2 := hide (H5.out.cell (j := 37) (v := .slice none 0 0) rsp0 rfl)
      generalize World.setCell _ _ _ = W4 at *
      clear c37 g37
      go_wp2_with (go_at_call 126; refine (refuse_calls _ c').mono ?_; rintro e W3 ⟨rfl, hb⟩; have H3 := hide (H2.out.next hb); obtain ⟨h1, -⟩ := H3.out.facts; clear hb)
      obtain ⟨f1, f2⟩ := H3.out.fin (y := { rsp0 with code := c' })
      refine bodyPost_ret (results_cell1 Tryz.results128 _ _ (w.heap.size + 1) _ _ _ _ rfl f1 Tryz.underlying75 rfl (by kernel_rfl)) rfl ?_
      unfold trailX
      rw [HR.out]
      simp only [HT.out]
      exact ⟨rfl, f2⟩
    | ok t =>
      go_upto_region 32 with (go_at_call 79; refine HX.out.mono ?_; rintro e W3 hp; obtain ⟨v, rfl, ho, hb⟩ := hp; obtain ⟨a', n', c', rfl⟩ := ho.form3; have HO4 := hide ho; have H5 := hide (H1.out.next hb); have c37 := H5.out.facts.2.2.2.1 37; simp only [respCs, rsp0, noS, sv, List.getElem?_toArray, List.getElem?_cons_zero, List.getElem?_cons_succ] at c37; have g37 := H5.out.facts.2.2.2.2.1 37; clear hb ho)
      have hz1 := H1.out.facts.2.2.2.2.2
      have hzz := H1.out.blw.size
      have HOb : Hid (OwnR (W3.setCell ⟨w.heap.size + 2, 37, none⟩ (.slice a' n' c')) W1.heap.size 5 1 byteCs (.slice a' n' c') t) := HO4.out.mono fun b hb => Below.heap_setCell _ _ _ _ (fun e => by have := (HO4.out.block b hb).1; simp at e; omega)
      have H2 := hide (H5.out.cell (j := 37) (v := .slice a' n' c') { rsp0 with bytes := (a', n', c') } rfl)
      generalize World.setCell _ _ _ = W4 at *
      clear c37 g37
      obtain ⟨h1, h2, -, -, -, -⟩ := H2.out.facts
      go_wp2
      obtain ⟨f1, f2⟩ := H2.out.fin (y := { rsp0 with bytes := (a', n', c') })
      refine bodyPost_ret (results_cell1 Tryz.results128 _ _ (w.heap.size + 1) _ _ _ _ rfl f1 Tryz.underlying75 rfl (by kernel_rfl)) rfl ?_
      unfold trailX
      rw [HR.out]
      simp only [HT.out]
      exact ⟨⟨_, rfl, a', n', c', rfl, (HOb.out.mono fun b hb => setRow_other _ _ _ _ (by have := (HOb.out.block b hb).1; omega)).lower hzz⟩, f2⟩

end Go.Proofs.Qxb6500666aGreatDoor
