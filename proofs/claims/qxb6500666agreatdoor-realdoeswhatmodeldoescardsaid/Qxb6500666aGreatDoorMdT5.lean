/- The model's read: kind 30. (Made by tools/mk_mrd.py.) -/
import Derived.Test.Qxb6500666aGreatDoorMdT1
namespace Go.Proofs.Qxb6500666aGreatDoor
open Go.RowKit
theorem MRt.two {w w' : World} {rn kn : Nat → ByteArray} {xs : List Ent} {e : Ending} (h : MRt w w' rn kn xs e) : ∃ a n c b, e = .returned (.tuple #[.slice a n c, .bool b]) ∧ Below w.heap.size w w' ∧ ((rtB 0 xs = true ∧ BytesAt w' (w.heap.size ≤ ·) (.slice a n c) (trText rn kn xs)) ∨ (rtB 0 xs = false ∧ Value.slice a n c = .slice none 0 0)) := by
  cases h with
  | bad he hr hb => exact ⟨_, _, _, _, he, hb, Or.inr ⟨hr, rfl⟩⟩
  | good v he hr hv =>
    obtain ⟨a, n, c, rfl, -⟩ := Src.of hv.at'
    exact ⟨a, n, c, true, he, hv.bel, Or.inl ⟨hr, hv.at'⟩⟩
attribute [local go_sem] ext_const Ext.cell Ext.frozen Ext.rng Ext.whole
attribute [local go_sem ↓] exec_ldRsp exec_stRsp exec_bdRsp exec_stStat exec_stHd exec_ldFile exec_stFile exec_bdHd7 exec_bdFile1 exec_ldEnt exec_stEnt exec_ldSmS exec_ldRes exec_stRes exec_ldSmp exec_stSmp exec_ldRow exec_stRow exec_bsRow exec_bdRow2 exec_bdHeld exec_bsHeld
attribute [local go_sem] run_ldRsp run_stRsp run_bdRsp0 run_bdRsp1 respCs_ones run_ldFile run_stFile run_bdHd7 run_bdFile1 fileCs_size fileCs_ones fileCs_all file_ones zfCs_size run_ldEnt run_ldSmS run_ldRes run_stRes resCs_size resCs_ones run_ldSmp run_stSmp smpCs_size smpCs_ones run_ldRow run_stRow run_bsRow run_bdRow2 run_bdHeld run_bsHeld rowCs_size rowCs_ones rowCs_all whole_alloc_lt whole_alloc_at whole_drew setRow_alloc_at setRow_alloc_lt setRow_drew rng_alloc_lt rng_alloc_at rng_drew rng_drewN rng_setCell_other whole_setCell_other

set_option maxRecDepth 100000 in
set_option maxHeartbeats 8000000 in
theorem mrd30_calls (rn kn ft : Nat → ByteArray) (w : World) (M : Nat) (ok : Nat → Prop) (v : MV) (m : Mod) (r : Req) (lv : Value) (h : RdI rn kn ft w M ok v m r) (hk : r.kind = 30) :
    Calls Tryz.prog 145 #[.pointer (some ⟨M, 0, none⟩), .agg (reqA r lv)] w fun e w' => RdPost w w' e (rdM30 rn kn w w' m) := by
  have HH := hide h
  have zM := blk_lt h.at'.top
  clear h
  go_enter Tryz.func145, Tryz.ntmps145
  go_upto_region 2 with fail
  have H0 := hide (RB.start w (reqA r lv))
  change Code.wp _ _ _ _ (((w.alloc (.cells (reqA r lv) 53)).alloc (.cells (respCs rsp0) 75)).alloc (.cells (respCs rsp0) 75))
  generalize (((w.alloc (.cells (reqA r lv) 53)).alloc (.cells (respCs rsp0) 75)).alloc (.cells (respCs rsp0) 75)) = W0 at *
  obtain ⟨-, -, hq, -, -, hz⟩ := H0.out.facts
  have q0 := hq 0

  simp only [reqA, List.getElem?_toArray, List.getElem?_cons_zero] at q0 
  rw [hk] at q0
  have HM := hide (HH.out.at'.below H0.out.blw)
  have zM0 : M < W0.heap.size := by omega
  clear hq
  obtain ⟨zs, hz1, hz2, hz3⟩ := HM.out.inn.au
  obtain ⟨a, n, cap, hv, hsr⟩ := Src.of hz1
  have hnl : n = zs.length := hsr.len
  have cu : W0.cell? ⟨M, 9, none⟩ = some (.slice a n cap) := by rw [← hv]; exact cells_all HM.out.top 9
  rw [hv] at hz1
  have hal : m.au.length = n := by rw [← hz3, List.length_map, hnl]
  have HU := hide (mrenderTrail_calls W0 ok rn kn ft a n cap zs hz1 hz2 (by have := HH.out.al; omega) (HH.out.nm.below H0.out.blw) (fun z hz => HH.out.ents _ (by rw [← hz3]; exact List.mem_map.2 ⟨z, hz, rfl⟩)))
  rw [hz3] at HU
  have HRD : Hid (∀ w', rdM30 rn kn w w' m = if rtB 0 m.au then .ok (fun x => ∃ a n c, x = { rsp0 with bytes := (a, n, c) } ∧ BytesAt w' (w.heap.size ≤ ·) (.slice a n c) (trText rn kn m.au)) else .ok (fun x => x = rsp0)) := fun _ => rfl
  clear hz1 hz2 hz3 hv hsr hnl hal
  go_upto_region 66 with (go_at_call 86; refine HU.out.mono ?_; rintro e W1 hp; obtain ⟨ta, tn, tc, bv, rfl, hb, hcase⟩ := hp.two; have HCA := hide hcase; have H1 := hide (H0.out.next hb); have c37 := H1.out.facts.2.2.2.1 37; simp only [respCs, List.getElem?_toArray, List.getElem?_cons_zero, List.getElem?_cons_succ] at c37; have g37 := H1.out.facts.2.2.2.2.1 37; clear hb hp hcase)
  have H2 := hide (H1.out.cell (j := 37) (v := .slice ta tn tc) { rsp0 with bytes := (ta, tn, tc) } rfl)
  have HBT : Hid (BytesAt W1 (W0.heap.size ≤ ·) (.slice ta tn tc) (trText rn kn m.au) → BytesAt (W1.setCell ⟨w.heap.size + 2, 37, none⟩ (.slice ta tn tc)) (W0.heap.size ≤ ·) (.slice ta tn tc) (trText rn kn m.au)) := fun h => RArr.mono h (fun b hb => Below.heap_setCell _ _ _ _ (fun e => by simp at e; omega)) (fun _ q => q)
  generalize World.setCell _ _ _ = W2 at *
  clear c37 g37
  obtain ⟨h1, h2, -, -, -, -⟩ := H2.out.facts
  go_wp2
  obtain ⟨f1, f2⟩ := H2.out.fin (y := { rsp0 with bytes := (ta, tn, tc) })
  refine bodyPost_ret (results_cell1 Tryz.results145 _ _ (w.heap.size + 1) _ _ _ _ rfl f1 Tryz.underlying75 rfl (by kernel_rfl)) rfl ?_
  rw [HRD.out]
  rcases HCA.out with ⟨h9, hby⟩ | ⟨h9, e9⟩
  · rw [h9, if_pos rfl]
    exact ⟨⟨_, rfl, ta, tn, tc, rfl, RArr.mono (HBT.out hby) (fun b hb => setRow_other _ _ _ _ (by omega)) (fun b hb => by omega)⟩, f2⟩
  · rw [h9, if_neg (by simp)]
    exact ⟨⟨_, rfl, by injection e9 with i1 i2 i3; subst i1 i2 i3; rfl⟩, f2⟩
end Go.Proofs.Qxb6500666aGreatDoor
