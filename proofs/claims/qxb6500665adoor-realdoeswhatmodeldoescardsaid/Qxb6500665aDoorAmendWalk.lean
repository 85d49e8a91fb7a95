/- Amend, walked. -/
import Derived.Test.Qxb6500665aDoorAmPlain
import Derived.Laws.MakeOwn
namespace Go.Proofs.Qxb6500665aDoor
open Go.RowKit Go.Proofs.Qxb6500665aDoor.Cal

attribute [local go_sem] ext_const Ext.cell Ext.frozen Ext.rng Ext.whole

theorem ret_am {w w' : World} {e : Ending} {S : Nat} {A : Nat → Prop} {ps ws : List KV} {full : Bool} {n : Nat} {k k' : Int} (h : Hid (k = k')) (hp : AmPost w w' e S A ps ws full n k') : AmPost w w' e S A ps ws full n k := by rw [h.out]; exact hp

set_option maxRecDepth 100000 in
set_option maxHeartbeats 8000000 in
theorem amend_calls (w : World) (P S : Nat) (A ok : Nat → Prop) (ps : List KV) (full : Bool) (vers : List Ver) (eff : Int) (vv : Value) (vs : List Visit) (h : PAt w P S A ps full) (hv : VersRep ps vers) (hvi : VisitsAt w ok vv vs) (hvo : ∀ v ∈ vs, v.Ok) (hps : ps.length ≤ 900000) :
    Calls Tryd.prog 18 #[.pointer (some ⟨P, 0, none⟩), .int .i64 eff, vv] w fun e w' => AmPost w w' e S A ps (amWs vers eff vs) full vers.length (amErr ps vers full eff vs) := by
  obtain ⟨K, hK⟩ : ∃ K, K = amErr ps vers full eff vs := ⟨_, rfl⟩
  have HK := hide hK
  rw [← hK]
  clear hK
  obtain ⟨WS, hWS⟩ : ∃ WS, WS = amWs vers eff vs := ⟨_, rfl⟩
  have HWS := hide hWS
  rw [← hWS]
  clear hWS
  obtain ⟨NV, hNV⟩ : ∃ NV, NV = vers.length := ⟨_, rfl⟩
  have HNV := hide hNV
  rw [← hNV]
  have hnvl : NV ≤ 1000000 := by rw [hNV]; exact hv.len
  clear hNV
  have HP := hide h
  have HV := hide hv
  have hSl := h.store.size
  have HVI := hide hvi
  have HVO := hide hvo
  obtain ⟨zs, hR, hzm, hzp⟩ := hvi.lt
  obtain ⟨a, cap, b, off, rfl, hl, hm, hr, ha, hc⟩ := hR
  obtain ⟨n, hn⟩ : ∃ n, n = zs.length := ⟨_, rfl⟩
  have HN := hide hn
  rw [← hn] at hl hr ha ⊢
  have hnv : vs.length = n := by rw [hn, ← hzm]; simp
  have HNVS := hide hnv
  have hi := run_indexAt_arr (P := Tryd.prog) (n := n) (cap := cap) Tryd.underlying32 Tryd.size63 (fun h => (ha h).1)
  have HB : Hid (0 < n → b < w.heap.size) := fun h => (ha h).2.2
  have HA := hide ha
  have HC := hide hc
  have HZM := hide hzm
  have HZP := hide hzp
  have HHM := hide hm
  clear ha hc hzm hzp hm hn hnv h hv hvi hvo
  by_cases hm : eff < 0 ∨ 157785119 < eff
  · have HE : Hid (K = 3) := by show _ = _; rw [HK.out, amErr, if_pos hm]
    have HM := hide hm
    clear hm
    go_enter Tryd.func18, Tryd.ntmps18
    go_wp2_with (go_at_call 53; refine (checkMinute_bad _ _ HM.out).mono ?_; rintro e w' ⟨rfl, rfl⟩)
    go_ret2
    exact ret_am HE (AmPost.no HP.out (Below.refl _ _) (by decide))
  have m1 : 0 ≤ eff := by omega
  have m2 : eff ≤ 157785119 := by omega
  have HK2 : Hid (K = if vs.length = 0 ∨ 12 < vs.length then 7 else if firstErr vs ≠ 0 then firstErr vs else if listErr (vs.map (fun v : Visit => v.id)) 12 ≠ 0 then listErr (vs.map (fun v : Visit => v.id)) 12
    else if laps (sortV vs) then 12 else if !known ps vs then 15 else if vers.length ≠ 0 ∧ eff ≤ lastEff vers then 13 else if full then 21 else 0) := by show _ = _; rw [HK.out, amErr, if_neg hm]
  clear hm HK
  by_cases hcn : n = 0 ∨ 12 < n
  · have HE : Hid (K = 7) := by show _ = _; rw [HK2.out, HNVS.out, if_pos hcn]
    rcases Nat.eq_zero_or_pos n with rfl | hpos
    · clear hcn
      go_enter Tryd.func18, Tryd.ntmps18
      go_wp2_with (go_at_call 53; refine (checkMinute_ok _ _ m1 m2).mono ?_; rintro e w' ⟨rfl, rfl⟩)
      go_ret2
      exact ret_am HE (AmPost.no HP.out (Below.refl _ _) (by decide))
    · have hn0 : ((n : Int) == 0) = false := by simp; omega
      have hd : decide ((12 : Int) < (n : Int)) = true := decide_eq_true (by omega)
      clear hcn
      go_enter Tryd.func18, Tryd.ntmps18
      go_wp2_with (go_at_call 53; refine (checkMinute_ok _ _ m1 m2).mono ?_; rintro e w' ⟨rfl, rfl⟩)
      go_ret2
      exact ret_am HE (AmPost.no HP.out (Below.refl _ _) (by decide))
  have hpos : 0 < n := by omega
  have hn12 : n ≤ 12 := by omega
  have HK3 : Hid (K = if firstErr vs ≠ 0 then firstErr vs else if listErr (vs.map (fun v : Visit => v.id)) 12 ≠ 0 then listErr (vs.map (fun v : Visit => v.id)) 12
    else if laps (sortV vs) then 12 else if !known ps vs then 15 else if vers.length ≠ 0 ∧ eff ≤ lastEff vers then 13 else if full then 21 else 0) := by show _ = _; rw [HK2.out, HNVS.out, if_neg hcn]
  have hn0 : ((n : Int) == 0) = false := by simp; omega
  have hd12 : decide ((12 : Int) < (n : Int)) = false := decide_eq_false (by omega)
  clear hcn HK2
  obtain ⟨hbb, -⟩ : b < w.heap.size ∧ True := ⟨HB.out hpos, trivial⟩
  obtain ⟨ti, hinf, hz0, hz1, hz2⟩ := info_parts Tryd.info29
  obtain ⟨W1, hmk, hown0, hgr⟩ := run_make_own (P := Tryd.prog) w w.heap.size 31 29 ti _ 1 Tryd.underlying31 hinf hz0 hz1 .i64 .i64 n (by rw [hz2]; omega) (by unfold maxLen; omega) (Nat.le_refl _)
  have hbW1 : Below w.heap.size w W1 := (Below.refl _ _).grown hgr (Nat.le_refl _) (fun k hk => by cases hk)
  have HOWN0 : Hid (OwnR W1 w.heap.size 29 1 u32Cs (.slice (some ⟨w.heap.size, 0, none⟩) 0 n) []) := hown0
  clear hinf hz0 hz1 hz2 hgr hown0
  go_enter Tryd.func18, Tryd.ntmps18
  go_upto_region 4 with (go_at_call 53; refine (checkMinute_ok _ _ m1 m2).mono ?_; rintro e w' ⟨rfl, rfl⟩)
  go_upto_region 8 with fail
  go_loopw [9, 44] (fun iv j wr => ∃ q : Nat, q ≤ n ∧ j = .int .i64 q ∧ Below w.heap.size w wr ∧ OwnR wr w.heap.size 29 1 u32Cs iv ((vs.take q).map (·.id)) ∧ Hid (∀ v ∈ vs.take q, visErr v = 0)) (fun _ j _ => n - (intOf j).toNat)
  case atStart => exact ⟨0, by omega, rfl, hbW1, HOWN0.out, by show ∀ v ∈ List.take 0 vs, _; simp⟩
  case round =>
    obtain ⟨q, hq, rfl, hbel, hown, HVE⟩ := hrel
    by_cases hlt : q < n
    · have h1 : q < zs.length := by rw [← HN.out]; exact hlt
      have h2 : q < vs.length := by rw [HNVS.out]; exact hlt
      have hvq : vs[q] = zs[q].1 := by simp [← HZM.out]
      have hrg := HC.out q h1
      rw [← rng_of_block (hbel.block b hbb)] at hrg
      have hU := HZP.out zs[q] (List.getElem_mem h1)
      have hO := HVO.out vs[q] (List.getElem_mem h2)
      have HT : Hid ((vs.take (q + 1)).map (fun v : Visit => v.id) = (vs.take q).map (fun v : Visit => v.id) ++ [vs[q].id]) := by show _ = _; rw [List.take_succ_eq_append_getElem h2, List.map_append]; rfl
      have HVE1 := hide (fun (hx : visErr vs[q] = 0) => (show ∀ v ∈ vs.take (q + 1), visErr v = 0 from by
        rw [List.take_succ_eq_append_getElem h2]
        intro v hv
        rcases List.mem_append.1 hv with hv | hv
        · exact HVE.out v hv
        · rw [List.mem_singleton.1 hv]; exact hx))
      have HFE := hide (fun (hx : visErr vs[q] ≠ 0) => firstErr_at HVE.out h2 hx)
      have hLl : ((vs.take q).map (fun v : Visit => v.id)).length ≤ 12 := by simp; omega
      rw [hvq] at hO HT HVE1 HFE
      have HCV := hide (fun W (hW : Below w.heap.size w W) => checkVisit_calls W (fun b => ok b ∧ b < w.heap.size) zs[q] (hU.mono (fun b hb => hW.block b hb.2) (fun _ h => h)) hO)
      generalize zs[q] = z at *
      obtain ⟨⟨vid, vta, vea, vla, vpa⟩, ⟨pa, pn, pc⟩⟩ := z
      have c0 := (rng_cell hrg).2 0 (by decide)
      have c1 := (rng_cell hrg).2 1 (by decide)
      have c2 := (rng_cell hrg).2 2 (by decide)
      have c3 := (rng_cell hrg).2 3 (by decide)
      have c4 := (rng_cell hrg).2 4 (by decide)
      simp only [vzCs, sv, List.getElem?_toArray, List.getElem?_cons_zero, List.getElem?_cons_succ, Nat.add_zero] at c0 c1 c2 c3 c4
      simp only [vzCs, sv] at HCV
      simp only at HT HVE1 HFE
      have hbel1 : Below w.heap.size w (wr.alloc (.cells #[.int .u32 vid, .int .i64 vta, .int .i64 vea, .int .i64 vla, .slice pa pn pc] 63)) := hbel.alloc hbel.size _
      have HCV1 := hide (HCV.out _ hbel1)
      generalize (vs.take q).map (fun v : Visit => v.id) = L at *
      clear hrg hU hvq HCV hO
      by_cases hve : visErr ⟨vid, vta, vea, vla, vpa⟩ = 0
      · have HV1 := hide (HVE1.out hve)
        rw [hve, errOr_zero] at HCV1
        clear hve
        go_upto_region 13 with (go_at_call 54; refine HCV1.out.mono ?_; rintro e w2 ⟨rfl, hb2⟩)
        have hlw2 : wr.heap.size < w2.heap.size := by have := hb2.size; simp at this; omega
        have hbw2 : Below w.heap.size w w2 := hbel1.trans (hb2.mono hbel1.size)
        have e0 : w2.cell? ⟨wr.heap.size, 0, none⟩ = some (.int .u32 vid) := (hb2.cell (p := ⟨wr.heap.size, 0, none⟩) (by simp)).trans (by simp)
        have hown2 : OwnR w2 w.heap.size 29 1 u32Cs u9 L := hown.below ((Below.refl _ _).alloc (Nat.le_refl _) _ |>.trans (hb2.mono (by simp))) (Nat.le_refl _)
        go_wp2_with (at_builtin; refine wpList_app1 (α := Int) rfl _ _ 31 rfl w.heap.size 29 u32Cs Tryd.underlying31 Tryd.info29 rfl (by decide) u32Cs_size u32Cs_one _ L rfl (OwnR.below hown2 ((Below.refl _ _).alloc (Nat.le_refl _) _) (Nat.le_refl _)) _ rfl vid (by rw [rng_alloc_at _ _ _ _ _ _ _ (by first | rfl | simp)]; rfl) (by omega) (by unfold maxLen; omega) (by have := hbw2.size; simp; omega) ?_; intro v' w' hown' hsame hbel' hat)
        go_roundw
        case measure => simp [intOf]; omega
        case rel => exact ⟨q + 1, by omega, by go_num, (hbw2.alloc hbw2.size _).trans hbel', by rw [HT.out]; exact hown', HV1⟩
      · have HF := hide (HFE.out hve)
        have HVN := hide hve
        rw [errOr_pos hve] at HCV1
        have HE : Hid (K = visErr ⟨vid, vta, vea, vla, vpa⟩) := by show _ = _; rw [HK3.out, HF.out, if_pos HVN.out]
        generalize visErr ⟨vid, vta, vea, vla, vpa⟩ = VE at *
        clear hve
        go_wp2_with (go_at_call 54; refine HCV1.out.mono ?_; rintro e w2 ⟨rfl, hb2⟩)
        go_ret2
        exact ret_am HE (AmPost.no HP.out (hbel1.trans (hb2.mono hbel1.size)) HVN.out)
    · have hall : ∀ v ∈ vs, visErr v = 0 := by
        have := HVE.out
        rwa [List.take_of_length_le (by rw [HNVS.out]; omega)] at this
      have hids : OwnR wr w.heap.size 29 1 u32Cs u9 (vs.map (fun v : Visit => v.id)) := by
        rwa [List.take_of_length_le (by rw [HNVS.out]; omega)] at hown
      have HALL := hide hall
      have HK4 : Hid (K = if listErr (vs.map (fun v : Visit => v.id)) 12 ≠ 0 then listErr (vs.map (fun v : Visit => v.id)) 12
        else if laps (sortV vs) then 12 else if !known ps vs then 15 else if vers.length ≠ 0 ∧ eff ≤ lastEff vers then 13 else if full then 21 else 0) := by
        show _ = _
        rw [HK3.out, firstErr_zero HALL.out]; simp
      have HCL := hide (checkList_calls wr _ u9 (vs.map (fun v : Visit => v.id)) 12 (hids.rows u32Cs_size (by decide) (by simp; rw [HNVS.out]; omega)) (by decide))
      clear hall hids hown HVE HK3
      by_cases hle : listErr (vs.map (fun v : Visit => v.id)) 12 = 0
      · rw [hle, errOr_zero] at HCL
        have HK5 : Hid (K = if laps (sortV vs) then 12 else if !known ps vs then 15 else if vers.length ≠ 0 ∧ eff ≤ lastEff vers then 13 else if full then 21 else 0) := by show _ = _; rw [HK4.out, hle]; simp
        clear hle HK4
        obtain ⟨wa, hwa⟩ : ∃ wa, wa = wr := ⟨_, rfl⟩
        subst hwa
        go_upto_region 18 with (go_at_call 51; refine HCL.out.mono ?_; rintro e w2 ⟨rfl, rfl⟩)
        have hsrc : ∃ b' off', a = some ⟨b', off', none⟩ ∧ ∀ i (hi : i < zs.length), rng wa b' (off' + i * 5) 5 = some (vzCs zs[i]) := ⟨b, off, (HA.out hpos).1, fun i hi => by rw [rng_of_block (hbel.block b hbb)]; exact HC.out i hi⟩
        have hznil : a = none → cap = 0 := HHM.out.2
        have hzl : zs.length ≤ 12 := by rw [← HN.out]; exact hn12
        have HZN : Hid (n = zs.length) := HN
        go_upto_region 19 with (at_builtin; refine wpList_appN (α := ZV) rfl _ _ 32 rfl wa.heap.size 63 vzCs Tryd.underlying32 Tryd.info63 rfl (by decide) vzCs_size vzCs_one (.slice none 0 0) [] rfl (OwnR.nil _ _ _ _ _) a n cap rfl zs HZN.out hznil (fun _ => hsrc) (by simp; omega) (by unfold maxLen; simp; omega) (Nat.le_refl _) ?_; intro vO w1 hownO hsameO hbelO hatO)
        obtain ⟨oa, oc, hvO⟩ := hownO.form
        rw [List.nil_append] at hownO hvO
        rw [← HZN.out] at hvO
        subst hvO
        have hb1 : Below w.heap.size w w1 := hbel.trans (hbelO.mono hbel.size)
        have hl1 : wa.heap.size ≤ w1.heap.size := hbelO.size
        go_upto_region 20 with (go_at_call 55; refine (sortVisits_calls w1 wa.heap.size oa n oc zs hownO hl1 (by omega)).mono ?_; rintro e w3 ⟨rfl, hownS, hsameS, hbelS⟩)
        have hb3 : Below w.heap.size w w3 := hb1.trans (hbelS.mono hbel.size)
        obtain ⟨ys, hys⟩ : ∃ ys, ys = sortL ltT zs := ⟨_, rfl⟩
        rw [← hys] at hownS
        have HYM : Hid (ys.map (·.1) = sortV vs) := by show _ = _; rw [hys, sortV_map, HZM.out]
        have HYZ : Hid (∀ z ∈ ys, z ∈ zs) := fun z hz => (sortL_perm ltT zs).mem_iff.1 (hys ▸ hz)
        have HYL : Hid (ys.length = n) := by show _ = _; rw [hys, (sortL_perm ltT zs).length_eq, HN.out]
        have HSM : Hid (∀ v ∈ sortV vs, v ∈ vs) := fun v hv => (sortL_perm ltV vs).mem_iff.1 hv
        have HSL : Hid ((sortV vs).length = n) := by show _ = _; rw [sortV, (sortL_perm ltV vs).length_eq, HNVS.out]
        have HVL : Hid ((verB eff (sortV vs)).length ≤ 1000000) := by
          show _ ≤ _
          have h1 := visT_len (sortV vs) (fun v hv => by have := (visErr_ok (HALL.out v (HSM.out v hv))).2.2.2.2.2.2.2; omega)
          have h2 := HSL.out
          simp only [verB, List.length_append, d256_len]
          omega
        obtain ⟨g, oc', hoc, hgb, hgl, hel⟩ := hownS.elem vzCs_size (by decide) (by rw [HYL.out]; omega) (by rw [HYL.out]; omega)
        injection hoc with ho1 ho2 ho3
        subst ho1 ho3
        have hixO := run_indexAt_arr (P := Tryd.prog) (n := n) (cap := oc) Tryd.underlying32 Tryd.size63 (fun _ => (rfl : some (⟨g, 0, none⟩ : Addr) = _))
        have HEL := hide hel
        have HOS := hide hownS
        have HYB : Hid (∀ i (hi : i < ys.length), visErr ys[i].1 = 0) := fun i hi => by
          refine HALL.out _ ?_
          rw [← HZM.out]
          exact List.mem_map_of_mem (HYZ.out _ (List.getElem_mem hi))
        clear hys hel hownS hownO ho2 hsameO hsameS hatO hsrc
        go_wp2
        go_loopw [15] (fun j wr => ∃ p : Nat, 1 ≤ p ∧ p ≤ n ∧ j = .int .i64 p ∧ Hid (∃ m, wr = w3.drewN m) ∧ Hid (∀ i (hi : i + 1 < ys.length), i + 1 < p → ¬ ys[i + 1].1.target - ys[i + 1].1.early ≤ ys[i].1.target + ys[i].1.late)) (fun j _ => n - (intOf j).toNat)
        case atStart => exact ⟨1, by omega, by omega, rfl, ⟨0, rfl⟩, fun i hi h => by omega⟩
        case round =>
          obtain ⟨p, hp1, hpn, rfl, HDR, HNL⟩ := hrel
          obtain ⟨dm, rfl⟩ := HDR.out
          have hb3d : Below w.heap.size w (w3.drewN dm) := below_drewN hb3 dm
          by_cases hlt2 : p < n
          · obtain ⟨k, rfl⟩ : ∃ k, p = k + 1 := ⟨p - 1, by omega⟩
            have hk1 : k + 1 < ys.length := by rw [HYL.out]; exact hlt2
            have hk0 : k < ys.length := by omega
            have r1 := HEL.out (k + 1) hk1
            have r0 := HEL.out k hk0
            have b1 := visErr_ok (HYB.out (k + 1) hk1)
            have b0 := visErr_ok (HYB.out k hk0)
            have t1 := (rng_cell r1).2 1 (by decide)
            have t2 := (rng_cell r1).2 2 (by decide)
            have s1 := (rng_cell r0).2 1 (by decide)
            have s3 := (rng_cell r0).2 3 (by decide)
            have HLH := hide (fun (hx : ys[k + 1].1.target - ys[k + 1].1.early ≤ ys[k].1.target + ys[k].1.late) => (show laps (sortV vs) = true from by
              refine lap_hit (i := k) (by rw [← HYM.out]; simpa using hk1) ?_
              simp only [← HYM.out, List.getElem_map]
              exact hx))
            have HNX := hide (fun (hx : ¬ ys[k + 1].1.target - ys[k + 1].1.early ≤ ys[k].1.target + ys[k].1.late) => (show ∀ i (hi : i + 1 < ys.length), i + 1 < k + 1 + 1 → ¬ ys[i + 1].1.target - ys[i + 1].1.early ≤ ys[i].1.target + ys[i].1.late from fun i hi h => by
              by_cases hik : i = k
              · subst hik; exact hx
              · exact HNL.out i hi (by omega)))
            have hi1 := fun W => hixO W ((k : Int) + 1) (by omega) (by omega)
            have hi0 := fun W => hixO W (k : Int) (by omega) (by omega)
            rw [show ((k : Int) + 1).toNat = k + 1 by omega] at hi1
            rw [show ((k : Int)).toNat = k by omega] at hi0
            simp only [Nat.zero_add] at hi1 hi0
            simp only [vzCs, List.getElem?_toArray, List.getElem?_cons_zero, List.getElem?_cons_succ] at t1 t2 s1 s3
            obtain ⟨-, p1, p2, p3, p4, p5, p6, -⟩ := b1
            obtain ⟨-, q1, q2, q3, q4, q5, q6, -⟩ := b0
            generalize ys[k + 1].1.target = T1 at *
            generalize ys[k + 1].1.early = E1 at *
            generalize ys[k + 1].1.late = L1 at *
            generalize ys[k].1.target = T0 at *
            generalize ys[k].1.late = L0 at *
            generalize ys[k].1.early = E0 at *
            have HIXO := hide hixO
            clear hixO r1 r0 HDR
            by_cases hlap : T1 - E1 ≤ T0 + L0
            · have HE : Hid (K = 12) := by show _ = _; rw [HK5.out, HLH.out hlap]; rfl
              go_upto_region 23 with fail
              go_quiet (fail)
              go_wp2
              go_ret2
              exact ret_am HE (AmPost.no HP.out (below_drewN hb3 _) (by decide))
            · have HNX1 := hide (HNX.out hlap)
              go_upto_region 23 with fail
              go_quiet (fail)
              go_wp2
              go_roundw
              case measure => simp [intOf]; omega
              case rel => exact ⟨k + 1 + 1, by omega, by omega, by go_num, ⟨dm + nq, by simp⟩, HNX1⟩
          · have hlp : laps (sortV vs) = false := by
              refine lap_none (fun i hi => ?_)
              have hi2 : i + 1 < ys.length := by rw [← HYM.out] at hi; simpa using hi
              have := HNL.out i hi2 (by have := HYL.out; omega)
              simp only [← HYM.out, List.getElem_map]
              exact this
            have HK6 : Hid (K = if !known ps vs then 15 else if vers.length ≠ 0 ∧ eff ≤ lastEff vers then 13 else if full then 21 else 0) := by show _ = _; rw [HK5.out, hlp]; rfl
            obtain ⟨w4, hw4⟩ : ∃ w4, w4 = w3.drewN dm := ⟨_, rfl⟩
            have HO4 : Hid (OwnR w4 wa.heap.size 63 5 vzCs (.slice (some ⟨g, 0, none⟩) n oc) ys) := by show OwnR _ _ _ _ _ _ _; rw [hw4]; exact HOS.out.mono (fun _ _ => rfl)
            have hb4 : Below w.heap.size w w4 := by rw [hw4]; exact hb3d
            rw [← hw4]
            clear hlp HK5 hw4 HDR
            go_upto_region 26 with fail
            go_loopw [102] (fun j wr => ∃ q : Nat, q ≤ n ∧ j = .int .i64 q ∧ Below w.heap.size w wr ∧ Hid (OwnR wr wa.heap.size 63 5 vzCs (.slice (some ⟨g, 0, none⟩) n oc) ys) ∧ Hid (known ps (vs.take q) = true)) (fun j _ => n - (intOf j).toNat)
            case atStart => exact ⟨0, by omega, rfl, hb4, HO4, by show _ = _; rfl⟩
            case round =>
              obtain ⟨q2, hq2, rfl, hbel5, HO5, HKN⟩ := hrel
              obtain ⟨wb, hwb⟩ : ∃ wb, wb = wr := ⟨_, rfl⟩
              subst hwb
              by_cases hlt3 : q2 < n
              · have h1 : q2 < zs.length := by rw [← HN.out]; exact hlt3
                have h2 : q2 < vs.length := by rw [HNVS.out]; exact hlt3
                have hvq : vs[q2] = zs[q2].1 := by simp [← HZM.out]
                have hrg := HC.out q2 h1
                rw [← rng_of_block (hbel5.block b hbb)] at hrg
                have hU := HZP.out zs[q2] (List.getElem_mem h1)
                have hO := HVO.out vs[q2] (List.getElem_mem h2)
                have HKN1 := hide (fun (hx : vs[q2].panels.all (fun x => (getB ps (keyB 112 x)).isSome) = true) => (show known ps (vs.take (q2 + 1)) = true from by
                  rw [List.take_succ_eq_append_getElem h2, known, List.all_append]
                  have := HKN.out
                  rw [known] at this
                  rw [this]
                  simpa using hx))
                have HKF0 := hide (fun (x : Int) (hx : x ∈ vs[q2].panels) (hg : (getB ps (keyB 112 x)).isSome = false) => (show known ps vs = false from by
                  cases hh : known ps vs with
                  | false => rfl
                  | true =>
                    have h3 := List.all_eq_true.1 hh vs[q2] (List.getElem_mem h2)
                    have h4 := List.all_eq_true.1 h3 x hx
                    rw [hg] at h4
                    cases h4))
                rw [hvq] at hO HKN1 HKF0
                generalize zs[q2] = z at *
                obtain ⟨⟨vid, vta, vea, vla, vpa⟩, ⟨pa, pn, pc⟩⟩ := z
                obtain ⟨-, -, -, -, hpr⟩ := hO
                have c0 := (rng_cell hrg).2 0 (by decide)
                have c1 := (rng_cell hrg).2 1 (by decide)
                have c2 := (rng_cell hrg).2 2 (by decide)
                have c3 := (rng_cell hrg).2 3 (by decide)
                have c4 := (rng_cell hrg).2 4 (by decide)
                simp only [vzCs, sv, List.getElem?_toArray, List.getElem?_cons_zero, List.getElem?_cons_succ, Nat.add_zero] at c0 c1 c2 c3 c4
                simp only at HKN1 HKF0 hpr
                obtain ⟨PL, hPL⟩ : ∃ PL, vpa.length = PL := ⟨_, rfl⟩
                obtain ⟨pa', pcap', pb, poff, hpv, rr1, rr2, rr3, rr4, pha, phc⟩ := U32sAt.parts hU PL hPL
                simp only [sv] at hpv
                injection hpv with hv1 hv2 hv3
                subst hv1 hv2 hv3
                have hpi := run_indexAt_arr (P := Tryd.prog) (n := pn) (cap := pc) Tryd.underlying31 Tryd.size29 (fun h => (pha h).1)
                have HPB : Hid (0 < pn → pb < w.heap.size) := fun h => (pha h).2.1.2
                have HPC := hide phc
                have HPN := hide hPL
                have HPR := hide hpr
                have hbel6 : Below w.heap.size w (wb.alloc (.cells #[.int .u32 vid, .int .i64 vta, .int .i64 vea, .int .i64 vla, .slice pa pn pc] 63)) := hbel5.alloc hbel5.size _
                have HO6 : Hid (OwnR (wb.alloc (.cells #[.int .u32 vid, .int .i64 vta, .int .i64 vea, .int .i64 vla, .slice pa pn pc] 63)) wa.heap.size 63 5 vzCs (.slice (some ⟨g, 0, none⟩) n oc) ys) := OwnR.below HO5.out ((Below.refl _ _).alloc (Nat.le_refl _) _) (Nat.le_refl _)
                clear hrg hU hvq pha phc hPL hpr
                go_upto_region 29 with fail
                go_loopw [109] (fun j wr => ∃ p : Nat, p ≤ pn ∧ j = .int .i64 p ∧ Below w.heap.size w wr ∧ Hid (OwnR wr wa.heap.size 63 5 vzCs (.slice (some ⟨g, 0, none⟩) n oc) ys) ∧ Hid ((vpa.take p).all (fun x => (getB ps (keyB 112 x)).isSome) = true)) (fun j _ => pn - (intOf j).toNat)
                case atStart => exact ⟨0, by omega, rfl, hbel6, HO6, by show _ = true; simp⟩
                case round =>
                  obtain ⟨p3, hp3, rfl, hbel7, HO7, HPA⟩ := hrel
                  by_cases hlt4 : p3 < pn
                  · have hpl : p3 < vpa.length := by rw [HPN.out]; exact hlt4
                    have e0 := HPC.out p3 hpl
                    have hpbl := HPB.out (by omega)
                    have e1 : wr.cell? ⟨pb, poff + p3, none⟩ = some (.int .u32 vpa[p3]) := (hbel7.cell (p := ⟨pb, poff + p3, none⟩) hpbl).trans e0
                    have hxr := HPR.out vpa[p3] (List.getElem_mem hpl)
                    have HSTEP := hide (fun hx => all_take_succ (fun x => (getB ps (keyB 112 x)).isSome) hpl HPA.out hx)
                    have HMEM := hide (List.getElem_mem hpl)
                    have HHA := hide (has_calls wr P S A ps full 112 vpa[p3] (HP.out.below hbel7) (by decide) hxr)
                    generalize vpa[p3] = x at *
                    clear e0
                    cases hx : (getB ps (keyB 112 x)).isSome with
                    | true =>
                      rw [hx] at HHA
                      have HST := hide (HSTEP.out hx)
                      go_wp2_with (go_at_call 47; refine HHA.out.mono ?_; rintro e w6 ⟨rfl, hb6⟩)
                      go_roundw
                      case measure => simp [intOf]; omega
                      case rel => exact ⟨p3 + 1, by omega, by go_num, hbel7.trans (hb6.mono hbel7.size), OwnR.below HO7.out hb6 (Nat.le_refl _), HST⟩
                    | false =>
                      rw [hx] at HHA
                      have HE : Hid (K = 15) := by show _ = _; rw [HK6.out, HKF0.out x HMEM.out hx]; rfl
                      go_wp2_with (go_at_call 47; refine HHA.out.mono ?_; rintro e w6 ⟨rfl, hb6⟩)
                      go_ret2
                      exact ret_am HE (AmPost.no HP.out (hbel7.trans (hb6.mono hbel7.size)) (by decide))
                  · have HK7 : Hid (known ps (vs.take (q2 + 1)) = true) := HKN1.out (by
                      have := HPA.out
                      rwa [List.take_of_length_le (by rw [HPN.out]; omega)] at this)
                    go_wp2
                    go_roundw
                    case measure => simp [intOf]; omega
                    case rel => exact ⟨q2 + 1, by omega, by go_num, hbel7, HO7, HK7⟩
              · have hkn : known ps vs = true := by
                  have := HKN.out
                  rwa [List.take_of_length_le (by rw [HNVS.out]; omega)] at this
                have HK7 : Hid (K = if vers.length ≠ 0 ∧ eff ≤ lastEff vers then 13 else if full then 21 else 0) := by show _ = _; rw [HK6.out, hkn]; rfl
                clear hkn HK6
                go_upto_region 36 with (go_at_call 57; refine (latest_calls wb P S A ps full vers (HP.out.below hbel5) HV.out).mono ?_; rintro e w6 ⟨rfl, hb6⟩; rw [← HNV.out])
                have hbw6 : Below w.heap.size w w6 := hbel5.trans (hb6.mono hbel5.size)
                have HO6 : Hid (OwnR w6 wa.heap.size 63 5 vzCs (.slice (some ⟨g, 0, none⟩) n oc) ys) := OwnR.below HO5.out hb6 (Nat.le_refl _)
                by_cases hz : NV = 0
                · have HKF : Hid (K = if full then 21 else 0) := by show _ = _; rw [HK7.out, if_neg (by rw [← HNV.out]; omega)]
                  have hd0 : decide ((0 : Int) < (NV : Int)) = false := decide_eq_false (by omega)
                  have hd1 : decide (0 < NV) = false := decide_eq_false (by omega)
                  have hd2 : ¬ (0 : Int) < (NV : Int) := by omega
                  have hd3 : ¬ 0 < NV := by omega
                  obtain ⟨wt, hwt⟩ : ∃ wt, wt = w6 := ⟨_, rfl⟩
                  subst hwt
                  have hbt := hbw6
                  have HOT := HO6
                  clear hz HK7 HO6 HO5
                  go_upto_region 45 with fail
                  obtain ⟨w8, hw8⟩ : ∃ w8, w8 = wt.alloc (.cells #[.int .u32 ((NV : Int) + 1), .int .i64 eff, .slice (some ⟨g, 0, none⟩) n oc] 41) := ⟨_, rfl⟩
                  have hbw8 : Below w.heap.size w w8 := by rw [hw8]; exact hbt.alloc hbt.size _
                  have hs8 : w8.heap.size = wt.heap.size + 1 := by rw [hw8]; simp
                  have d0 : w8.cell? ⟨wt.heap.size, 0, none⟩ = some (.int .u32 ((NV : Int) + 1)) := by rw [hw8]; simp
                  have d1 : w8.cell? ⟨wt.heap.size, 1, none⟩ = some (.int .i64 eff) := by rw [hw8]; simp
                  have d2 : w8.cell? ⟨wt.heap.size, 2, none⟩ = some (.slice (some ⟨g, 0, none⟩) n oc) := by rw [hw8]; simp
                  have HW8 := hide hw8
                  rw [← HW8.out]
                  have HO8 : Hid (OwnR w8 wa.heap.size 63 5 vzCs (.slice (some ⟨g, 0, none⟩) n oc) ys) := by show OwnR _ _ _ _ _ _ _; rw [hw8]; exact OwnR.below HOT.out ((Below.refl _ _).alloc (Nat.le_refl _) _) (Nat.le_refl _)
                  clear hw8
                  refine wp_region_mixT (wt.heap.size + 1) [2, 4, 9] (by kernel_rfl) ?_
                  refine mixT_slots [0, 1, 8] (fuel := 12) rfl (by kernel_rfl) (by kernel_rfl) (fun d _ _ _ _ h => by cases d <;> exact h) ?_
                  simp only [opersAt, List.getElem?_toArray, List.getElem?_cons_zero, List.getElem?_cons_succ]
                  repeat (go_big_quiet_step (fail))
                  refine wpQuiet_nil ?_
                  refine mixT_reads [2, 4, 9] (fuel := 9) rfl (by kernel_rfl) (by decide) (by kernel_rfl) (fun d _ _ _ _ h => by cases d <;> exact h) (ext_drew _ _) ?_
                  simp only [opersAt, List.getElem?_toArray, List.getElem?_cons_zero, List.getElem?_cons_succ]
                  repeat (go_big_quiet_step (fail))
                  refine wpQuiet_nil ?_
                  refine mixT_one (k := 3) (by kernel_rfl) rfl ?_
                  go_wp2_with (go_at_call 49; refine (key_calls _ 118 ((NV : Int) + 1) (by decide) ⟨by omega, by omega⟩).mono ?_; rintro e y2 ⟨kv, rfl, hownK, hy2⟩)
                  have hx2 : Below (wt.heap.size + 1) w8 y2 := ((Below.refl _ _).drew).trans (hy2.mono (by simp; omega))
                  refine ⟨Or.inr (fun _ => ⟨⟨_, hx2⟩, rfl⟩), ?_⟩
                  obtain ⟨k1a, k1n, k1c, rfl⟩ := hownK.sform
                  have hyw2 : Below w.heap.size w y2 := hbw8.trans (hx2.mono (by have := hbt.size; omega))
                  have hVY : VisitsAt y2 (fun _ => True) (.slice (some ⟨g, 0, none⟩) n oc) (sortV vs) := by
                    have ho : OwnR y2 wa.heap.size 63 5 vzCs (.slice (some ⟨g, 0, none⟩) n oc) ys := OwnR.below HO8.out (((Below.refl _ _).drew).trans (hy2.mono (by simp))) (Nat.le_refl _)
                    refine ⟨ys, RArr.mono (ho.rows vzCs_size (by decide) (by rw [HYL.out]; omega)) (Same.refl _ _) (fun _ _ => trivial), HYM.out, fun z hz => ?_⟩
                    exact (HZP.out z (HYZ.out z hz)).mono (fun b hb => hyw2.block b hb.2) (fun _ _ => trivial)
                  have HENC := hide (encodeVersion_calls y2 ((NV : Int) + 1) eff _ _ (sortV vs) hVY ⟨by omega, by omega⟩ (fun v hv => HVO.out v (HSM.out v hv)) (fun v hv => by have := (visErr_ok (HALL.out v (HSM.out v hv))).2.2.2.2.2.2.2; omega) (by rw [HSL.out]; omega))
                  clear hVY
                  refine mixT_one (k := 5) (by kernel_rfl) rfl ?_
                  go_wp2_with (go_at_call 58; refine HENC.out.mono ?_; rintro e y3 ⟨ev, rfl, hownE, hy3⟩)
                  have hx3 : Below (wt.heap.size + 1) w8 y3 := hx2.trans (hy3.mono (by have := hx2.size; omega))
                  refine ⟨Or.inr (fun _ => ⟨⟨_, hx3⟩, rfl⟩), ?_⟩
                  obtain ⟨e1a, e1n, e1c, rfl⟩ := hownE.sform
                  refine mixT_slots [6] (fuel := 6) rfl (by kernel_rfl) (by kernel_rfl) (fun d _ _ _ _ h => by cases d <;> exact h) ?_
                  simp only [opersAt, List.getElem?_toArray, List.getElem?_cons_zero, List.getElem?_cons_succ]
                  repeat (go_big_quiet_step (fail))
                  refine wpQuiet_nil ?_
                  refine mixT_one (k := 7) (by kernel_rfl) rfl ?_
                  go_wp2_with (go_at_call 49; refine (key_calls _ 104 0 (by decide) (by decide)).mono ?_; rintro e y4 ⟨kv, rfl, hownK2, hy4⟩)
                  have hx4 : Below (wt.heap.size + 1) w8 y4 := hx3.trans (hy4.mono (by have := hx3.size; omega))
                  refine ⟨Or.inr (fun _ => ⟨⟨_, hx4⟩, rfl⟩), ?_⟩
                  obtain ⟨k2a, k2n, k2c, rfl⟩ := hownK2.sform
                  refine mixT_one (k := 10) (by kernel_rfl) rfl ?_
                  go_wp2_with (go_at_call 59; refine (encodeHead_calls _ ((NV : Int) + 1) ⟨by omega, by omega⟩).mono ?_; rintro e y5 ⟨ev, rfl, hownH, hy5⟩)
                  have hx5 : Below (wt.heap.size + 1) w8 y5 := hx4.trans (hy5.mono (by have := hx4.size; omega))
                  refine ⟨Or.inr (fun _ => ⟨⟨_, hx5⟩, rfl⟩), ?_⟩
                  obtain ⟨e2a, e2n, e2c, rfl⟩ := hownH.sform
                  refine mixT_slots [11] (fuel := 3) rfl (by kernel_rfl) (by kernel_rfl) (fun d _ _ _ _ h => by cases d <;> exact h) ?_
                  simp only [opersAt, List.getElem?_toArray, List.getElem?_cons_zero, List.getElem?_cons_succ]
                  repeat (go_big_quiet_step (fail))
                  refine wpQuiet_nil ?_
                  refine mixT_one (k := 12) (by kernel_rfl) rfl ?_
                  go_wp2
                  have hx6 : Below (wt.heap.size + 1) w8 (y5.alloc (.cells #[.slice k1a k1n k1c, .slice e1a e1n e1c, .bool false, .slice k2a k2n k2c, .slice e2a e2n e2c, .bool false] 130)) := hx5.alloc (by have := hx5.size; omega) _
                  refine ⟨Or.inr (fun _ => ⟨⟨_, hx6⟩, rfl⟩), ?_⟩
                  have hyw6 : Below w.heap.size w (y5.alloc (.cells #[.slice k1a k1n k1c, .slice e1a e1n e1c, .bool false, .slice k2a k2n k2c, .slice e2a e2n e2c, .bool false] 130)) := hbw8.trans (hx6.mono (by have := hbt.size; omega))
                  have hl8 : w.heap.size ≤ w8.heap.size := hbw8.size
                  have hl2 : w8.heap.size ≤ y2.heap.size := hx2.size
                  have hl3 : y2.heap.size ≤ y3.heap.size := hy3.size
                  have hl4 : y3.heap.size ≤ y4.heap.size := hy4.size
                  have hl5 : y4.heap.size ≤ y5.heap.size := hy5.size
                  have HWR := hide (writes_two
                    (((OwnR.below hownK ((hy3.mono (Nat.le_refl _)).trans ((hy4.mono hl3).trans (hy5.mono (by omega)))) (Nat.le_refl _)).lower (by simpa using hl8)).bytes (by rw [keyB_len]; omega))
                    (((OwnR.below hownE ((hy4.mono (Nat.le_refl _)).trans (hy5.mono hl4)) (Nat.le_refl _)).lower (by omega)).bytes HVL.out)
                    (((OwnR.below hownK2 hy5 (Nat.le_refl _)).lower (by omega)).bytes (by rw [keyB_len]; omega))
                    ((hownH.lower (by omega)).bytes (by rw [headB, d256_len]; omega)) (by omega : w.heap.size ≤ y5.heap.size))
                  have HP6 := hide (HP.out.below hyw6)
                  have d08 : (y5.alloc (.cells #[.slice k1a k1n k1c, .slice e1a e1n e1c, .bool false, .slice k2a k2n k2c, .slice e2a e2n e2c, .bool false] 130)).cell? ⟨wt.heap.size, 0, none⟩ = some (.int .u32 ((NV : Int) + 1)) := (hx6.cell (p := ⟨wt.heap.size, 0, none⟩) (by simp)).trans d0
                  refine mixT_one (k := 13) (by kernel_rfl) rfl ?_
                  clear HOT HO8 hownK hownE hownK2 hownH
                  cases full with
                  | true =>
                    have HE : Hid (K = 21) := by show _ = _; rw [HKF.out]; rfl
                    go_wp2_with (go_at_call 48; refine (commit_full _ P S A ps _ HP6.out).mono ?_; rintro e y7 ⟨rfl, rfl⟩)
                    refine ⟨Or.inl (by kernel_rfl), ?_⟩
                    refine mixT_one (k := 14) (by kernel_rfl) rfl ?_
                    go_wp2
                    refine ⟨Or.inr (fun h => h), ?_⟩
                    refine mixT_nil (by kernel_rfl) ?_
                    go_wp2
                    go_ret2
                    exact ret_am HE (AmPost.no HP.out hyw6 (by decide))
                  | false =>
                    have HE : Hid (K = 0) := by show _ = _; rw [HKF.out]; rfl
                    go_wp2_with (go_at_call 48; refine (commit_calls _ P S A _ ps _ _ HP6.out HWR.out (fun b hb => by have h9 : w.heap.size ≤ b := hb; omega) (by simp; omega)).mono ?_; rintro e y7 ⟨rfl, hk7, hs7⟩)
                    refine ⟨Or.inl (by kernel_rfl), ?_⟩
                    refine mixT_one (k := 14) (by kernel_rfl) rfl ?_
                    go_wp2
                    refine ⟨Or.inr (fun h => h), ?_⟩
                    refine mixT_nil (by kernel_rfl) ?_
                    have d09 : y7.cell? ⟨wt.heap.size, 0, none⟩ = some (.int .u32 ((NV : Int) + 1)) := by
                      have h9 := hk7.same wt.heap.size ⟨by have := hx6.size; omega, by have := hbt.size; omega⟩
                      rw [World.cell?_of_block h9]; exact d08
                    go_wp2
                    go_ret2
                    refine ret_am HE ⟨rfl, ?_⟩
                    have hcm := Cmd.of_commit HP.out.store hyw6 hk7 hs7
                    rw [cmdPs, if_pos rfl, HWS.out, amWs, ← HNV.out]
                    exact hcm
                · have hk : NV - 1 < vers.length := by rw [← HNV.out]; omega
                  have hok := HV.out.ok vers[NV - 1] (List.getElem_mem hk)
                  have hget := HV.out.ver (NV - 1) hk
                  rw [show ((NV - 1 : Nat) : Int) + 1 = (NV : Int) by omega] at hget
                  have HLE : Hid (lastEff vers = vers[NV - 1].1) := by
                    show _ = _
                    rw [lastEff, ← HNV.out, List.getElem?_eq_getElem hk]; rfl
                  have HVC := hide (version_some w6 P S A ps full (NV : Int) vers[NV - 1].1 vers[NV - 1].2 (HP.out.below hbw6) ⟨by omega, by omega⟩ hget hok.eff hok.vis hok.pan hok.len)
                  obtain ⟨le, hle⟩ : ∃ le, le = vers[NV - 1].1 := ⟨_, rfl⟩
                  obtain ⟨lvs, hlvs⟩ : ∃ lvs, lvs = vers[NV - 1].2 := ⟨_, rfl⟩
                  rw [← hle] at HLE HVC
                  rw [← hlvs] at HVC
                  have HNZ := hide hz
                  have hd0 : decide ((0 : Int) < (NV : Int)) = true := decide_eq_true (by omega)
                  have hd1 : decide (0 < NV) = true := decide_eq_true (by omega)
                  have hd2 : (0 : Int) < (NV : Int) := by omega
                  clear hok hget hle hlvs hz
                  go_upto_region 42 with (go_at_call 23; refine HVC.out.mono ?_; rintro e w7 ⟨iv, rfl, hvis, hb7⟩; obtain ⟨ia, icap, hiv⟩ := hvis.form; generalize hIL : lvs.length = IL at hiv; subst hiv)
                  have hbw7 : Below w.heap.size w w7 := hbw6.trans (hb7.mono hbw6.size)
                  have hbw7a : Below w.heap.size w (w7.alloc (.cells #[.int .u32 (NV : Int), .int .i64 le, .slice ia IL icap] 41)) := hbw7.alloc hbw7.size _
                  by_cases hel : eff ≤ le
                  · have HE : Hid (K = 13) := by show _ = _; rw [HK7.out, if_pos ⟨by rw [← HNV.out]; exact HNZ.out, by rw [HLE.out]; exact hel⟩]
                    go_wp2
                    go_ret2
                    exact ret_am HE (AmPost.no HP.out hbw7a (by decide))
                  · have HKF : Hid (K = if full then 21 else 0) := by show _ = _; rw [HK7.out, if_neg (by rw [HLE.out]; omega)]
                    go_upto_region 44 with fail
                    obtain ⟨wt, hwt⟩ : ∃ wt, wt = w7.alloc (.cells #[.int .u32 (NV : Int), .int .i64 le, .slice ia IL icap] 41) := ⟨_, rfl⟩
                    have hbt : Below w.heap.size w wt := by rw [hwt]; exact hbw7a
                    have HOT : Hid (OwnR wt wa.heap.size 63 5 vzCs (.slice (some ⟨g, 0, none⟩) n oc) ys) := by
                      show OwnR _ _ _ _ _ _ _
                      rw [hwt]
                      exact OwnR.below (OwnR.below HO6.out hb7 (Nat.le_refl _)) ((Below.refl _ _).alloc (Nat.le_refl _) _) (Nat.le_refl _)
                    rw [← hwt]
                    clear hwt HK7 HO6 HO5 hvis
                    go_upto_region 45 with fail
                    obtain ⟨w8, hw8⟩ : ∃ w8, w8 = wt.alloc (.cells #[.int .u32 ((NV : Int) + 1), .int .i64 eff, .slice (some ⟨g, 0, none⟩) n oc] 41) := ⟨_, rfl⟩
                    have hbw8 : Below w.heap.size w w8 := by rw [hw8]; exact hbt.alloc hbt.size _
                    have hs8 : w8.heap.size = wt.heap.size + 1 := by rw [hw8]; simp
                    have d0 : w8.cell? ⟨wt.heap.size, 0, none⟩ = some (.int .u32 ((NV : Int) + 1)) := by rw [hw8]; simp
                    have d1 : w8.cell? ⟨wt.heap.size, 1, none⟩ = some (.int .i64 eff) := by rw [hw8]; simp
                    have d2 : w8.cell? ⟨wt.heap.size, 2, none⟩ = some (.slice (some ⟨g, 0, none⟩) n oc) := by rw [hw8]; simp
                    have HW8 := hide hw8
                    rw [← HW8.out]
                    have HO8 : Hid (OwnR w8 wa.heap.size 63 5 vzCs (.slice (some ⟨g, 0, none⟩) n oc) ys) := by show OwnR _ _ _ _ _ _ _; rw [hw8]; exact OwnR.below HOT.out ((Below.refl _ _).alloc (Nat.le_refl _) _) (Nat.le_refl _)
                    clear hw8
                    refine wp_region_mixT (wt.heap.size + 1) [2, 4, 9] (by kernel_rfl) ?_
                    refine mixT_slots [0, 1, 8] (fuel := 12) rfl (by kernel_rfl) (by kernel_rfl) (fun d _ _ _ _ h => by cases d <;> exact h) ?_
                    simp only [opersAt, List.getElem?_toArray, List.getElem?_cons_zero, List.getElem?_cons_succ]
                    repeat (go_big_quiet_step (fail))
                    refine wpQuiet_nil ?_
                    refine mixT_reads [2, 4, 9] (fuel := 9) rfl (by kernel_rfl) (by decide) (by kernel_rfl) (fun d _ _ _ _ h => by cases d <;> exact h) (ext_drew _ _) ?_
                    simp only [opersAt, List.getElem?_toArray, List.getElem?_cons_zero, List.getElem?_cons_succ]
                    repeat (go_big_quiet_step (fail))
                    refine wpQuiet_nil ?_
                    refine mixT_one (k := 3) (by kernel_rfl) rfl ?_
                    go_wp2_with (go_at_call 49; refine (key_calls _ 118 ((NV : Int) + 1) (by decide) ⟨by omega, by omega⟩).mono ?_; rintro e y2 ⟨kv, rfl, hownK, hy2⟩)
                    have hx2 : Below (wt.heap.size + 1) w8 y2 := ((Below.refl _ _).drew).trans (hy2.mono (by simp; omega))
                    refine ⟨Or.inr (fun _ => ⟨⟨_, hx2⟩, rfl⟩), ?_⟩
                    obtain ⟨k1a, k1n, k1c, rfl⟩ := hownK.sform
                    have hyw2 : Below w.heap.size w y2 := hbw8.trans (hx2.mono (by have := hbt.size; omega))
                    have hVY : VisitsAt y2 (fun _ => True) (.slice (some ⟨g, 0, none⟩) n oc) (sortV vs) := by
                      have ho : OwnR y2 wa.heap.size 63 5 vzCs (.slice (some ⟨g, 0, none⟩) n oc) ys := OwnR.below HO8.out (((Below.refl _ _).drew).trans (hy2.mono (by simp))) (Nat.le_refl _)
                      refine ⟨ys, RArr.mono (ho.rows vzCs_size (by decide) (by rw [HYL.out]; omega)) (Same.refl _ _) (fun _ _ => trivial), HYM.out, fun z hz => ?_⟩
                      exact (HZP.out z (HYZ.out z hz)).mono (fun b hb => hyw2.block b hb.2) (fun _ _ => trivial)
                    have HENC := hide (encodeVersion_calls y2 ((NV : Int) + 1) eff _ _ (sortV vs) hVY ⟨by omega, by omega⟩ (fun v hv => HVO.out v (HSM.out v hv)) (fun v hv => by have := (visErr_ok (HALL.out v (HSM.out v hv))).2.2.2.2.2.2.2; omega) (by rw [HSL.out]; omega))
                    clear hVY
                    refine mixT_one (k := 5) (by kernel_rfl) rfl ?_
                    go_wp2_with (go_at_call 58; refine HENC.out.mono ?_; rintro e y3 ⟨ev, rfl, hownE, hy3⟩)
                    have hx3 : Below (wt.heap.size + 1) w8 y3 := hx2.trans (hy3.mono (by have := hx2.size; omega))
                    refine ⟨Or.inr (fun _ => ⟨⟨_, hx3⟩, rfl⟩), ?_⟩
                    obtain ⟨e1a, e1n, e1c, rfl⟩ := hownE.sform
                    refine mixT_slots [6] (fuel := 6) rfl (by kernel_rfl) (by kernel_rfl) (fun d _ _ _ _ h => by cases d <;> exact h) ?_
                    simp only [opersAt, List.getElem?_toArray, List.getElem?_cons_zero, List.getElem?_cons_succ]
                    repeat (go_big_quiet_step (fail))
                    refine wpQuiet_nil ?_
                    refine mixT_one (k := 7) (by kernel_rfl) rfl ?_
                    go_wp2_with (go_at_call 49; refine (key_calls _ 104 0 (by decide) (by decide)).mono ?_; rintro e y4 ⟨kv, rfl, hownK2, hy4⟩)
                    have hx4 : Below (wt.heap.size + 1) w8 y4 := hx3.trans (hy4.mono (by have := hx3.size; omega))
                    refine ⟨Or.inr (fun _ => ⟨⟨_, hx4⟩, rfl⟩), ?_⟩
                    obtain ⟨k2a, k2n, k2c, rfl⟩ := hownK2.sform
                    refine mixT_one (k := 10) (by kernel_rfl) rfl ?_
                    go_wp2_with (go_at_call 59; refine (encodeHead_calls _ ((NV : Int) + 1) ⟨by omega, by omega⟩).mono ?_; rintro e y5 ⟨ev, rfl, hownH, hy5⟩)
                    have hx5 : Below (wt.heap.size + 1) w8 y5 := hx4.trans (hy5.mono (by have := hx4.size; omega))
                    refine ⟨Or.inr (fun _ => ⟨⟨_, hx5⟩, rfl⟩), ?_⟩
                    obtain ⟨e2a, e2n, e2c, rfl⟩ := hownH.sform
                    refine mixT_slots [11] (fuel := 3) rfl (by kernel_rfl) (by kernel_rfl) (fun d _ _ _ _ h => by cases d <;> exact h) ?_
                    simp only [opersAt, List.getElem?_toArray, List.getElem?_cons_zero, List.getElem?_cons_succ]
                    repeat (go_big_quiet_step (fail))
                    refine wpQuiet_nil ?_
                    refine mixT_one (k := 12) (by kernel_rfl) rfl ?_
                    go_wp2
                    have hx6 : Below (wt.heap.size + 1) w8 (y5.alloc (.cells #[.slice k1a k1n k1c, .slice e1a e1n e1c, .bool false, .slice k2a k2n k2c, .slice e2a e2n e2c, .bool false] 130)) := hx5.alloc (by have := hx5.size; omega) _
                    refine ⟨Or.inr (fun _ => ⟨⟨_, hx6⟩, rfl⟩), ?_⟩
                    have hyw6 : Below w.heap.size w (y5.alloc (.cells #[.slice k1a k1n k1c, .slice e1a e1n e1c, .bool false, .slice k2a k2n k2c, .slice e2a e2n e2c, .bool false] 130)) := hbw8.trans (hx6.mono (by have := hbt.size; omega))
                    have hl8 : w.heap.size ≤ w8.heap.size := hbw8.size
                    have hl2 : w8.heap.size ≤ y2.heap.size := hx2.size
                    have hl3 : y2.heap.size ≤ y3.heap.size := hy3.size
                    have hl4 : y3.heap.size ≤ y4.heap.size := hy4.size
                    have hl5 : y4.heap.size ≤ y5.heap.size := hy5.size
                    have HWR := hide (writes_two
                      (((OwnR.below hownK ((hy3.mono (Nat.le_refl _)).trans ((hy4.mono hl3).trans (hy5.mono (by omega)))) (Nat.le_refl _)).lower (by simpa using hl8)).bytes (by rw [keyB_len]; omega))
                      (((OwnR.below hownE ((hy4.mono (Nat.le_refl _)).trans (hy5.mono hl4)) (Nat.le_refl _)).lower (by omega)).bytes HVL.out)
                      (((OwnR.below hownK2 hy5 (Nat.le_refl _)).lower (by omega)).bytes (by rw [keyB_len]; omega))
                      ((hownH.lower (by omega)).bytes (by rw [headB, d256_len]; omega)) (by omega : w.heap.size ≤ y5.heap.size))
                    have HP6 := hide (HP.out.below hyw6)
                    have d08 : (y5.alloc (.cells #[.slice k1a k1n k1c, .slice e1a e1n e1c, .bool false, .slice k2a k2n k2c, .slice e2a e2n e2c, .bool false] 130)).cell? ⟨wt.heap.size, 0, none⟩ = some (.int .u32 ((NV : Int) + 1)) := (hx6.cell (p := ⟨wt.heap.size, 0, none⟩) (by simp)).trans d0
                    refine mixT_one (k := 13) (by kernel_rfl) rfl ?_
                    clear HOT HO8 hownK hownE hownK2 hownH
                    cases full with
                    | true =>
                      have HE : Hid (K = 21) := by show _ = _; rw [HKF.out]; rfl
                      go_wp2_with (go_at_call 48; refine (commit_full _ P S A ps _ HP6.out).mono ?_; rintro e y7 ⟨rfl, rfl⟩)
                      refine ⟨Or.inl (by kernel_rfl), ?_⟩
                      refine mixT_one (k := 14) (by kernel_rfl) rfl ?_
                      go_wp2
                      refine ⟨Or.inr (fun h => h), ?_⟩
                      refine mixT_nil (by kernel_rfl) ?_
                      go_wp2
                      go_ret2
                      exact ret_am HE (AmPost.no HP.out hyw6 (by decide))
                    | false =>
                      have HE : Hid (K = 0) := by show _ = _; rw [HKF.out]; rfl
                      go_wp2_with (go_at_call 48; refine (commit_calls _ P S A _ ps _ _ HP6.out HWR.out (fun b hb => by have h9 : w.heap.size ≤ b := hb; omega) (by simp; omega)).mono ?_; rintro e y7 ⟨rfl, hk7, hs7⟩)
                      refine ⟨Or.inl (by kernel_rfl), ?_⟩
                      refine mixT_one (k := 14) (by kernel_rfl) rfl ?_
                      go_wp2
                      refine ⟨Or.inr (fun h => h), ?_⟩
                      refine mixT_nil (by kernel_rfl) ?_
                      have d09 : y7.cell? ⟨wt.heap.size, 0, none⟩ = some (.int .u32 ((NV : Int) + 1)) := by
                        have h9 := hk7.same wt.heap.size ⟨by have := hx6.size; omega, by have := hbt.size; omega⟩
                        rw [World.cell?_of_block h9]; exact d08
                      go_wp2
                      go_ret2
                      refine ret_am HE ⟨rfl, ?_⟩
                      have hcm := Cmd.of_commit HP.out.store hyw6 hk7 hs7
                      rw [cmdPs, if_pos rfl, HWS.out, amWs, ← HNV.out]
                      exact hcm
      · have HE : Hid (K = listErr (vs.map (fun v : Visit => v.id)) 12) := by show _ = _; rw [HK4.out, if_pos hle]
        have HVN := hide hle
        rw [errOr_pos hle] at HCL
        generalize listErr (vs.map (fun v : Visit => v.id)) 12 = LE at *
        clear hle
        go_wp2_with (go_at_call 51; refine HCL.out.mono ?_; rintro e w2 ⟨rfl, rfl⟩)
        go_ret2
        exact ret_am HE (AmPost.no HP.out hbel HVN.out)

end Go.Proofs.Qxb6500665aDoor
