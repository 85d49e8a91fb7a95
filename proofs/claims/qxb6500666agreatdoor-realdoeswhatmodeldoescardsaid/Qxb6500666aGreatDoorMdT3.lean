/- The model's read: kind 23. (Made by tools/mk_mrd.py.) -/
import Derived.Test.Qxb6500666aGreatDoorMdT1
namespace Go.Proofs.Qxb6500666aGreatDoor
open Go.RowKit
attribute [local go_sem] ext_const Ext.cell Ext.frozen Ext.rng Ext.whole
attribute [local go_sem ↓] exec_ldRsp exec_stRsp exec_bdRsp exec_stStat exec_stHd exec_ldFile exec_stFile exec_bdHd7 exec_bdFile1 exec_ldEnt exec_stEnt exec_ldSmS exec_ldRes exec_stRes exec_ldSmp exec_stSmp exec_ldRow exec_stRow exec_bsRow exec_bdRow2 exec_bdHeld exec_bsHeld
attribute [local go_sem] run_ldRsp run_stRsp run_bdRsp0 run_bdRsp1 respCs_ones run_ldFile run_stFile run_bdHd7 run_bdFile1 fileCs_size fileCs_ones fileCs_all file_ones zfCs_size run_ldEnt run_ldSmS run_ldRes run_stRes resCs_size resCs_ones run_ldSmp run_stSmp smpCs_size smpCs_ones run_ldRow run_stRow run_bsRow run_bdRow2 run_bdHeld run_bsHeld rowCs_size rowCs_ones rowCs_all whole_alloc_lt whole_alloc_at whole_drew setRow_alloc_at setRow_alloc_lt setRow_drew rng_alloc_lt rng_alloc_at rng_drew rng_drewN rng_setCell_other whole_setCell_other

set_option maxRecDepth 100000 in
set_option maxHeartbeats 8000000 in
theorem mrd23_calls (rn kn ft : Nat → ByteArray) (w : World) (M : Nat) (ok : Nat → Prop) (v : MV) (m : Mod) (r : Req) (lv : Value) (h : RdI rn kn ft w M ok v m r) (hk : r.kind = 23) :
    Calls Tryz.prog 145 #[.pointer (some ⟨M, 0, none⟩), .agg (reqA r lv)] w fun e w' => RdPost w w' e (rdM23 ok w' m r) := by
  have HH := hide h
  have zM := blk_lt h.at'.top
  clear h
  go_enter Tryz.func145, Tryz.ntmps145
  go_upto_region 2 with fail
  have H0 := hide (RB.start w (reqA r lv))
  change Code.wp _ _ _ _ (((w.alloc (.cells (reqA r lv) 53)).alloc (.cells (respCs rsp0) 75)).alloc (.cells (respCs rsp0) 75))
  generalize (((w.alloc (.cells (reqA r lv) 53)).alloc (.cells (respCs rsp0) 75)).alloc (.cells (respCs rsp0) 75)) = W0 at *
  obtain ⟨-, -, hq, -, -, hz⟩ := H0.out.facts
  have q0 := hq 0
  have q3 := hq 3
  simp only [reqA, List.getElem?_toArray, List.getElem?_cons_zero, List.getElem?_cons_succ] at q0 q3
  rw [hk] at q0
  have HM := hide (HH.out.at'.below H0.out.blw)
  have zM0 : M < W0.heap.size := by omega
  clear hq
  have HRD : Hid (∀ w', rdM23 ok w' m r = if r.id = 0 ∨ (m.au.length : Int) < r.id then .error 24 else .ok (fun x => ∃ s, m.au[(r.id - 1).toNat]? = some s ∧ ∃ a n c, x = { rsp0 with en := s, el := (a, n, c) } ∧ U32sAt w' ok (.slice a n c) s.req.list)) := fun _ => rfl
  obtain ⟨zs, hz1, hz2, hz3⟩ := HH.out.at'.inn.au
  have HZ2 := hide hz2
  obtain ⟨a, cap, b, off, hv, hl1, hm, hr, ha, hc⟩ := RArr.lt hz1
  obtain ⟨n, hn⟩ : ∃ n, n = zs.length := ⟨_, rfl⟩
  have hal : m.au.length = n := by rw [← hz3, List.length_map, hn]
  rw [← hn] at hl1 hr ha hv
  have Hn := hide hn
  have HAL := hide hal
  have HZ3 := hide hz3
  have cu : W0.cell? ⟨M, 9, none⟩ = some (.slice a n cap) := by rw [← hv]; exact cells_all HM.out.top 9
  have hi := run_indexAt_u32 (P := Tryz.prog) (n := n) (cap := cap) Tryz.underlying42 Tryz.size67_z (fun h => (ha h).1)
  have HB : Hid (0 < n → b < w.heap.size) := fun h => (ha h).2.2
  have HC := hide hc
  have hs0 := HH.out.req.id.1
  have hs1 := HH.out.req.id.2
  have hnb : n ≤ 100000 := by have := HH.out.al; omega
  clear ha hc hn hm hv hz1 hz2 hz3 hal
  cases t1 : (r.id == 0) with
  | true =>
    have HE : Hid (∀ w', rdM23 ok w' m r = .error 24) := fun w' => (HRD.out w').trans (if_pos (Or.inl (by simpa using t1)))
    go_upto_region 11 with fail
    go_quiet (fail)
    go_upto_region 12 with fail
    have H1 := hide (H0.out.next (below_drewN (Below.refl _ _) nq))
    generalize World.drewN _ _ = W2 at *
    obtain ⟨h1, -⟩ := H1.out.facts
    go_wp2
    obtain ⟨f1, f2⟩ := H1.out.fin (y := { rsp0 with code := 24 })
    refine bodyPost_ret (results_cell1 Tryz.results145 _ _ (w.heap.size + 1) _ _ _ _ rfl f1 Tryz.underlying75 rfl (by kernel_rfl)) rfl ?_
    rw [HE.out]
    exact ⟨rfl, f2⟩
  | false =>
    have hne : r.id ≠ 0 := by simpa using t1
    cases t2 : decide ((n : Int) < r.id) with
    | true =>
      have HE : Hid (∀ w', rdM23 ok w' m r = .error 24) := fun w' => (HRD.out w').trans (if_pos (Or.inr (by rw [HAL.out]; simpa using t2)))
      clear hne
      go_upto_region 11 with fail
      go_quiet (fail)
      go_upto_region 12 with fail
      have H1 := hide (H0.out.next (below_drewN (Below.refl _ _) nq))
      generalize World.drewN _ _ = W2 at *
      obtain ⟨h1, -⟩ := H1.out.facts
      go_wp2
      obtain ⟨f1, f2⟩ := H1.out.fin (y := { rsp0 with code := 24 })
      refine bodyPost_ret (results_cell1 Tryz.results145 _ _ (w.heap.size + 1) _ _ _ _ rfl f1 Tryz.underlying75 rfl (by kernel_rfl)) rfl ?_
      rw [HE.out]
      exact ⟨rfl, f2⟩
    | false =>
      have hle : r.id ≤ n := by simpa using t2
      obtain ⟨i, hi2⟩ : ∃ i : Nat, r.id = (i : Int) + 1 := ⟨(r.id - 1).toNat, by omega⟩
      have hin : i < n := by omega
      have hiz : i < zs.length := by rw [← Hn.out]; exact hin
      have HE : Hid (∀ w', rdM23 ok w' m r = .ok (fun x => ∃ s, m.au[(r.id - 1).toNat]? = some s ∧ ∃ a n c, x = { rsp0 with en := s, el := (a, n, c) } ∧ U32sAt w' ok (.slice a n c) s.req.list)) := fun w' => (HRD.out w').trans (if_neg (by rw [HAL.out]; omega))
      have HGE : Hid (m.au[(r.id - 1).toNat]? = some zs[i].1) := by
        show _ = _
        rw [← HZ3.out, show (r.id - 1).toNat = i by omega, List.getElem?_map, List.getElem?_eq_getElem hiz]
        rfl
      have hbb := HB.out (by omega)
      have c0 := HC.out i hiz
      have hch := HZ2.out _ (List.getElem_mem hiz)
      generalize zs[i] = z at *
      obtain ⟨s, a3, n3, c3⟩ := z
      have HCH := hide hch
      have hix : ∀ W, (Instr.indexAt 42 (.slice a n cap) (.int .u32 (r.id - 1))).run Tryz.prog W = .ok (.pointer (some ⟨b, off + i * 20, none⟩)) W := fun W => by
        have h9 := hi W (r.id - 1) (by omega) (by omega)
        rwa [show (r.id - 1).toNat = i by omega] at h9
      have hsm : (r.id - 1) % 4294967296 = r.id - 1 := by omega
      have rz : rng W0 b (off + i * 20) 20 = some (entA s (.slice a3 n3 c3)) := (rng_of_block (H0.out.blw.block _ hbb) _ _).trans c0
      have hbb : b < W0.heap.size := Nat.lt_of_lt_of_le hbb H0.out.blw.size
      clear hi c0 hne hch hi2
      go_upto_region 11 with fail
      go_quiet (fail)
      go_upto_region 13 with fail
      have hbq : Below W0.heap.size W0 (W0.drewN nq) := below_drewN (Below.refl _ _) nq
      have H1 := hide (H0.out.next hbq)
      have rz1 : rng (W0.drewN nq) b (off + i * 20) 20 = some (entA s (.slice a3 n3 c3)) := (rng_of_block (hbq.block _ hbb) _ _).trans rz
      have cu1 : (W0.drewN nq).cell? ⟨M, 9, none⟩ = some (.slice a n cap) := (hbq.cell (p := ⟨M, 9, none⟩) zM0).trans cu
      have q31 := H1.out.facts.2.2.1 3
      simp only [reqA, List.getElem?_toArray, List.getElem?_cons_zero, List.getElem?_cons_succ] at q31
      have hbb1 : b < (W0.drewN nq).heap.size := Nat.lt_of_lt_of_le hbb hbq.size
      have zM1 : M < (W0.drewN nq).heap.size := Nat.lt_of_lt_of_le zM0 hbq.size
      clear rz cu q3 hbb hbq
      generalize W0.drewN nq = W1 at *
      have hz1 := H1.out.facts.2.2.2.2.2
      have hzq : w.heap.size < W1.heap.size := by omega
      have hst : (stS 67 (.pointer (some ⟨w.heap.size + 1 + 1, 8, none⟩)) (.agg (entA s (.slice a3 n3 c3)))).run Tryz.prog W1.drew = .ok () (W1.drew.setRow (w.heap.size + 1 + 1) (respCs { rsp0 with en := s, el := (a3, n3, c3) })) := run_stEnt8 W1.drew (w.heap.size + 2) rsp0 s (a3, n3, c3) H1.out.rp
      refine wp_region_mixT (W1.heap.size) [3, 5, 8] (by kernel_rfl) ?_
      refine mixT_slots [0, 1, 2, 4] (fuel := 7) rfl (by kernel_rfl) (by kernel_rfl) (fun d _ _ _ _ h => by cases d <;> exact h) ?_
      simp only [opersAt, List.getElem?_toArray, List.getElem?_cons_zero, List.getElem?_cons_succ]
      repeat (go_big_quiet_step (fail))
      refine wpQuiet_nil ?_
      refine mixT_reads [3, 5] (fuel := 5) rfl (by kernel_rfl) (by decide) (by kernel_rfl) (fun d _ _ _ _ h => by cases d <;> exact h) (ext_drew _ _) ?_
      simp only [opersAt, List.getElem?_toArray, List.getElem?_cons_zero, List.getElem?_cons_succ]
      repeat (go_big_quiet_step (fail))
      refine wpQuiet_nil ?_
      refine mixT_slots [6, 7] (fuel := 3) rfl (by kernel_rfl) (by kernel_rfl) (fun d _ _ _ _ h => by cases d <;> exact h) ?_
      simp only [opersAt, List.getElem?_toArray, List.getElem?_cons_zero, List.getElem?_cons_succ]
      repeat (go_big_quiet_step (fail))
      refine wpQuiet_nil ?_
      refine mixT_reads [8] (fuel := 2) rfl (by kernel_rfl) (by decide) (by kernel_rfl) (fun d _ _ _ _ h => by cases d <;> exact h) (ext_drew _ _) ?_
      simp only [opersAt, List.getElem?_toArray, List.getElem?_cons_zero, List.getElem?_cons_succ]
      repeat (go_big_quiet_step (fail))
      refine wpQuiet_nil ?_
      refine mixT_slots [9] (fuel := 1) rfl (by kernel_rfl) (by kernel_rfl) (fun d _ _ _ _ h => by cases d <;> exact h) ?_
      simp only [opersAt, List.getElem?_toArray, List.getElem?_cons_zero, List.getElem?_cons_succ]
      repeat (go_big_quiet_step (fail))
      refine wpQuiet_nil ?_
      refine mixT_one (k := 10) (by kernel_rfl) rfl ?_
      go_wp2
      refine ⟨Or.inl (by kernel_rfl), ?_⟩
      refine mixT_nil (by kernel_rfl) ?_
      go_upto_region 66 with fail
      rw [show w.heap.size + 1 + 1 = w.heap.size + 2 from rfl]
      have H2 := hide ((H1.out.row { rsp0 with en := s, el := (a3, n3, c3) }).next (Below.refl _ _).drew)
      change Code.wp _ _ _ _ (W1.setRow (w.heap.size + 2) (respCs { rsp0 with en := s, el := (a3, n3, c3) })).drew
      generalize (W1.setRow (w.heap.size + 2) (respCs { rsp0 with en := s, el := (a3, n3, c3) })).drew = W2 at *
      clear hst
      obtain ⟨h1, h2, -, -, -, -⟩ := H2.out.facts
      go_wp2
      obtain ⟨f1, f2⟩ := H2.out.fin (y := { rsp0 with en := s, el := (a3, n3, c3) })
      refine bodyPost_ret (results_cell1 Tryz.results145 _ _ (w.heap.size + 1) _ _ _ _ rfl f1 Tryz.underlying75 rfl (by kernel_rfl)) rfl ?_
      rw [HE.out]
      exact ⟨⟨_, rfl, s, HGE.out, a3, n3, c3, rfl, RArr.below HCH.out f2⟩, f2⟩
end Go.Proofs.Qxb6500666aGreatDoor
