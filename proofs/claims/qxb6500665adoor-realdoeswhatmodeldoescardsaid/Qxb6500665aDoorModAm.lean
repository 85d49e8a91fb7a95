/- amend of the model, walked. -/
import Derived.Test.Qxb6500665aDoorModAmP
namespace Go.Proofs.Qxb6500665aDoor
open Go.RowKit Go.Proofs.Qxb6500665aDoor.Cal

section
variable (ρ : Operand → Value) (dst : Option Tmp) (x : Operand) (ty : TypeId) (pos : String) (after : Array Edge) (guard : Option (Nat × Bool))
theorem exec_bsVisit : execOp ρ { dst, op := .buildSlice 32 1 #[(0, x)], type := ty, pos, after, guard } = (do pure (.value (← bsS 32 (ρ x)))) := by simp [execOp, bsS]
theorem exec_bsVersion : execOp ρ { dst, op := .buildSlice 68 1 #[(0, x)], type := ty, pos, after, guard } = (do pure (.value (← bsS 68 (ρ x)))) := by simp [execOp, bsS]
end
theorem run_bsVisit (w : World) (z : ZV) : (bsS 32 (.agg (vzCs z))).run Tryd.prog w = .ok (.slice (some ⟨w.heap.size, 0, none⟩) 1 1) (w.alloc (.cells (vzCs z) 63)) := by kernel_rfl
theorem run_bsVersion (w : World) (a b : Int) (sa : Option Addr) (sn sc : Nat) : (bsS 68 (.agg #[.int .u32 a, .int .i64 b, .slice sa sn sc])).run Tryd.prog w = .ok (.slice (some ⟨w.heap.size, 0, none⟩) 1 1) (w.alloc (.cells #[.int .u32 a, .int .i64 b, .slice sa sn sc] 41)) := by kernel_rfl

theorem Tryd.info41 : (Tryd.prog.info? 41).map (fun i => (i.zero, i.size, i.bytes)) = some (some (.agg #[.int .u32 0, .int .i64 0, .slice none 0 0]), 3, 40) := by kernel_rfl

theorem own_atR {α : Type} {W : World} {base : Nat} {e : TypeId} {size : Nat} {f : α → Array Value} {v : Value} {l : List α} (hf : ∀ x, (f x).size = size) (hp : 0 < size) (h : OwnR W base e size f v l) (hl : l.length ≤ 140737488355328) (h0 : 0 < l.length) :
    ∃ g gc, v = .slice (some ⟨g, 0, none⟩) l.length gc ∧ base ≤ g ∧ g < W.heap.size ∧ RArr W (· = g) size f v l := by
  obtain ⟨a', c', b', o', e1, e2, e3, e4, e5, e6⟩ := h.rows hf hp hl
  have hb := h.block
  rcases h.2 with ⟨h1, h2⟩ | ⟨g, cap, cur, h1, h2, -⟩
  · omega
  · have e7 := e1
    rw [h1, (e5 h0).1] at e7
    injection e7 with e7 _ _
    injection e7 with e7
    injection e7 with e7 e8 _
    subst e7
    exact ⟨g, cap, h1, h2, (hb g (by rw [h1]; rfl)).2, a', c', g, o', e1, e2, e3, e4, fun h => ⟨(e5 h).1, rfl⟩, e6⟩

attribute [local go_sem ↓] exec_ldVisit exec_stVisit exec_bsVisit exec_bsVersion
attribute [local go_sem] run_bsVisit run_bsVersion
attribute [local go_sem] run_ldVisit run_stVisit ones_visit whole_alloc_lt whole_alloc_at whole_drew setRow_alloc_at setRow_alloc_lt setRow_drew rng_alloc_lt rng_drew rng_drewN ext_const Ext.cell Ext.frozen Ext.rng Ext.whole

set_option maxRecDepth 100000 in
set_option maxHeartbeats 0 in
theorem amend_m (w : World) (M base N a p s u : Nat) (v : Value) (C : Nat → Prop) (T : Tab) (full : Bool) (eff : Int) (vs : List Visit) (va : Option Addr) (vn vc : Nat) (h : MAt w M base N a p s u v C T full) (hvis : VisitsAt w (· < base) (.slice va vn vc) vs) (hvok : ∀ x ∈ vs, x.Ok) (hvl : T.vers.length ≤ 1000000) :
    Calls Tryd.prog 36 #[.pointer (some ⟨M, 0, none⟩), .int .i64 eff, .slice va vn vc] w fun e w' => AmmPost w w' e M base (N + 1) a p s u v C full (mAm T full eff vs) (amNum (mAm T full eff vs) T.vers.length) (mAmT T full eff vs) := by
  obtain ⟨K, hK⟩ : ∃ K, K = mAm T full eff vs := ⟨_, rfl⟩
  obtain ⟨T', hT'⟩ : ∃ T', T' = mAmT T full eff vs := ⟨_, rfl⟩
  obtain ⟨NU, hNU⟩ : ∃ NU, NU = amNum (mAm T full eff vs) T.vers.length := ⟨_, rfl⟩
  rw [← hNU, ← hK, ← hT']
  have HKT : Hid (K = mAm T full eff vs ∧ NU = amNum K T.vers.length ∧ T' = if K = 0 then { T with vers := T.vers ++ [(eff, sortV vs)] } else T) := ⟨hK, by rw [hNU, hK], by rw [hT', mAmT, hK]⟩
  have HERR : Hid (∀ k, k ≠ 0 → K = k → K = k ∧ NU = 0 ∧ T' = T) := fun k hk e => ⟨e, by rw [HKT.out.2.1, e, amNum, if_neg hk], by rw [HKT.out.2.2, e, if_neg hk]⟩
  clear hK hT' hNU
  have HM := hide h
  have HNO : Hid (∀ W k, Below w.heap.size w W → AmmPost w W (.returned (.tuple #[.int .u32 0, .int .u8 k])) M base (N + 1) a p s u v C full k 0 T) := fun W k hW => ⟨v, C, rfl, MCmd.after HM.out hW (MCmd.refl (HM.out.ext hW))⟩
  have hbs := h.bs
  have hMl := h.hlt M (Or.inl (by simp))
  obtain ⟨zs, hRR, hzm, hzp⟩ := hvis.lt
  obtain ⟨za, zcap, b, off, hv0, hl, hm, hr, ha, hc⟩ := hRR
  injection hv0 with e1 hn e3
  subst e1 e3
  rw [← hn] at hl hr ha
  have hi := run_indexAt_arr (P := Tryd.prog) (n := vn) (cap := vc) Tryd.underlying32 Tryd.size63 (fun h => (ha h).1)
  have HB : Hid (0 < vn → b < w.heap.size) := fun h => (ha h).2.2
  have HVA := hide ha
  have HVR : Hid (∀ W, Below w.heap.size w W → ∀ i (hi : i < zs.length), rng W b (off + i * 5) 5 = some (vzCs zs[i])) := fun W hW i hi => by
    rw [rng_of_block (hW.block b (ha (by omega)).2.2)]; exact hc i hi
  have HPU : Hid (∀ W, Below w.heap.size w W → ∀ i (hi : i < zs.length), U32sAt W (· < base) (sv zs[i].2) zs[i].1.panels) := fun W hW i hi => RArr.mono (RArr.lt (hzp zs[i] (List.getElem_mem hi))) (fun b hb => hW.block b hb.2) (fun b hb => hb.1.1)
  have HN := hide hn
  have HZM := hide hzm
  have HVOK := hide hvok
  have HCAP := hide hm
  have hvsl : vs.length = vn := by rw [← hzm, List.length_map]; exact hn.symm
  have HVZ : Hid (∀ i (hi : i < zs.length), ∃ h : i < vs.length, vs[i] = zs[i].1) := fun i hi => ⟨by omega, by simp [← HZM.out]⟩
  have HVSL := hide hvsl
  clear h hvis hvok ha hc hn hzm hzp hm
  by_cases hin : 0 ≤ eff ∧ eff ≤ 157785119
  case neg =>
    have hic : inCal eff = false := decide_eq_false hin
    have HE := hide (HERR.out 3 (by decide) (by rw [HKT.out.1, mAm, if_pos (by omega)]))
    clear hin
    go_enter Tryd.func36, Tryd.ntmps36
    go_wp2_with (go_at_call 45; refine (inCal_calls eff _).mono ?_; rintro e w' ⟨rfl, rfl⟩)
    go_ret2
    exact ret_amm HE (HNO.out _ _ (Below.refl _ _))
  have hic : inCal eff = true := decide_eq_true hin
  have hin' : ¬ (eff < 0 ∨ 157785119 < eff) := by omega
  by_cases hlen : vn = 0 ∨ 12 < vn
  case pos =>
    have HE := hide (HERR.out 7 (by decide) (by rw [HKT.out.1, mAm, if_neg hin', if_pos (by omega)]))
    rcases hlen with h0 | h0
    · have t0 : ((vn : Int) == 0) = true := by simp [h0]
      clear h0 hin hin'
      go_enter Tryd.func36, Tryd.ntmps36
      go_wp2_with (go_at_call 45; refine (inCal_calls eff _).mono ?_; rintro e w' ⟨rfl, rfl⟩)
      go_ret2
      exact ret_amm HE (HNO.out _ _ (Below.refl _ _))
    · have t0 : ((vn : Int) == 0) = false := by simp; omega
      have t1 : decide (12 < (vn : Int)) = true := decide_eq_true (by omega)
      clear hin hin'
      go_enter Tryd.func36, Tryd.ntmps36
      go_wp2_with (go_at_call 45; refine (inCal_calls eff _).mono ?_; rintro e w' ⟨rfl, rfl⟩)
      go_ret2
      exact ret_amm HE (HNO.out _ _ (Below.refl _ _))
  have hlen' : ¬ (vs.length = 0 ∨ 12 < vs.length) := by omega
  have HK2 : Hid (K = (if firstErr vs ≠ 0 then firstErr vs else if ¬ (vs.map (·.id)).Nodup then 8 else if ¬ NoLap vs then 12 else if knownT T vs = false then 15 else if T.vers.length ≠ 0 ∧ eff ≤ lastEff T.vers then 13 else if full then 21 else 0)) := by
    show _ = _
    rw [HKT.out.1, mAm, if_neg hin', if_neg hlen']
  have hn12 : vn ≤ 12 := by omega
  have hn0 : 0 < vn := by omega
  have t0 : ((vn : Int) == 0) = false := by simp; omega
  have t1 : decide (12 < (vn : Int)) = false := decide_eq_false (by omega)
  have hbv := HB.out hn0
  clear hin hin' hlen hlen' hvsl HB
  go_enter Tryd.func36, Tryd.ntmps36
  go_upto_region 6 with (go_at_call 45; refine (inCal_calls eff _).mono ?_; rintro e w' ⟨rfl, rfl⟩)
  go_loopg [40] vn (fun g x wr => ∃ q : Nat, q ≤ vn ∧ g = vn - q ∧ x = .int .i64 q ∧ Hid (Below w.heap.size w wr) ∧ Hid (∀ y ∈ vs.take q, visErr y = 0))
  case atStart => exact ⟨0, by omega, by omega, rfl, Below.refl _ _, by show ∀ y ∈ vs.take 0, _; simp⟩
  case round =>
    as_aux_lemma =>
    obtain ⟨q, hq, rfl, rfl, HBW, HT⟩ := hrel
    by_cases hlt : q < vn
    ·
      --B
      have hqz : q < zs.length := by rw [← HN.out]; exact hlt
      obtain ⟨hqv, hvq⟩ := HVZ.out q hqz
      have hrg := HVR.out wr HBW.out q hqz
      have hsw := HBW.out.size
      have hbr : b < wr.heap.size := by omega
      have hU := HPU.out wr HBW.out q hqz
      have HBAD : Hid (∀ k, k ≠ 0 → visErr zs[q].1 = k → K = k ∧ NU = 0 ∧ T' = T) := fun k hk he => HERR.out k hk (by
        have h1 : visErr vs[q] ≠ 0 := by rw [hvq, he]; exact hk
        rw [HK2.out, firstErr_at HT.out hqv h1, if_pos h1, hvq, he])
      have HGOOD : Hid (visErr zs[q].1 = 0 → ∀ y ∈ vs.take (q + 1), visErr y = 0) := fun he y hy => by
        rw [List.take_succ_eq_append_getElem hqv] at hy
        rcases List.mem_append.1 hy with hy | hy
        · exact HT.out y hy
        · rw [List.mem_singleton.1 hy, hvq]; exact he
      generalize zs[q] = z at *
      obtain ⟨⟨zid, zt, ze, zl, zp⟩, zpa, zpn, zpc⟩ := z
      simp only [vzCs, sv] at hrg hU
      obtain ⟨w1, hw1⟩ : ∃ w1, w1 = wr.alloc (.cells #[.int .u32 zid, .int .i64 zt, .int .i64 ze, .int .i64 zl, .slice zpa zpn zpc] 63) := ⟨_, rfl⟩
      have hb1 : Below wr.heap.size wr w1 := by rw [hw1]; exact (Below.refl _ _).alloc (Nat.le_refl _) _
      have hX : w1.heap[wr.heap.size]? = some (.cells #[.int .u32 zid, .int .i64 zt, .int .i64 ze, .int .i64 zl, .slice zpa zpn zpc] 63 (0, 0)) := by rw [hw1]; exact heap_alloc_at _ _
      have x0 : w1.cell? ⟨wr.heap.size, 0, none⟩ = some (.int .u32 zid) := by rw [World.cell?, hX]; rfl
      have x1 : w1.cell? ⟨wr.heap.size, 1, none⟩ = some (.int .i64 zt) := by rw [World.cell?, hX]; rfl
      have x2 : w1.cell? ⟨wr.heap.size, 2, none⟩ = some (.int .i64 ze) := by rw [World.cell?, hX]; rfl
      have x3 : w1.cell? ⟨wr.heap.size, 3, none⟩ = some (.int .i64 zl) := by rw [World.cell?, hX]; rfl
      have x4 : w1.cell? ⟨wr.heap.size, 4, none⟩ = some (.slice zpa zpn zpc) := by rw [World.cell?, hX]; rfl
      have HLC := hide (listCode_calls w1 _ (.slice zpa zpn zpc) zp 6 (hU.below hb1) (by decide))
      have HB1 := hide (HBW.out.trans (hb1.mono hsw))
      clear hvq hqv hqz hU HT hX hb1
      go_upto_region 8 with fail
      rw [← hw1]
      clear hw1 hrg
      by_cases b0 : zid = 0
      · have HE := hide (HBAD.out 2 (by decide) (by rw [visErr, if_pos b0]))
        have k0 : (zid == 0) = true := by simp [b0]
        clear b0
        go_wp2
        go_ret2
        exact ret_amm HE (HNO.out _ _ HB1.out)
      have k0 : (zid == 0) = false := by simp [b0]
      by_cases b1 : zt < -3650
      · have HE := hide (HBAD.out 10 (by decide) (by rw [visErr, if_neg b0, if_pos (Or.inl b1)]))
        clear b0
        go_wp2
        go_ret2
        exact ret_amm HE (HNO.out _ _ HB1.out)
      by_cases b2 : 3650 < zt
      · have HE := hide (HBAD.out 10 (by decide) (by rw [visErr, if_neg b0, if_pos (Or.inr b2)]))
        clear b0
        go_wp2
        go_ret2
        exact ret_amm HE (HNO.out _ _ HB1.out)
      have b12 : ¬ (zt < -3650 ∨ 3650 < zt) := by omega
      by_cases b3 : ze < 0
      · have HE := hide (HBAD.out 11 (by decide) (by rw [visErr, if_neg b0, if_neg b12, if_pos (by simp only; omega)]))
        clear b0 b12
        go_wp2
        go_ret2
        exact ret_amm HE (HNO.out _ _ HB1.out)
      by_cases b4 : 365 < ze
      · have HE := hide (HBAD.out 11 (by decide) (by rw [visErr, if_neg b0, if_neg b12, if_pos (by simp only; omega)]))
        clear b0 b12
        go_wp2
        go_ret2
        exact ret_amm HE (HNO.out _ _ HB1.out)
      by_cases b5 : zl < 0
      · have HE := hide (HBAD.out 11 (by decide) (by rw [visErr, if_neg b0, if_neg b12, if_pos (by simp only; omega)]))
        clear b0 b12
        go_wp2
        go_ret2
        exact ret_amm HE (HNO.out _ _ HB1.out)
      by_cases b6 : 365 < zl
      · have HE := hide (HBAD.out 11 (by decide) (by rw [visErr, if_neg b0, if_neg b12, if_pos (by simp only; omega)]))
        clear b0 b12
        go_wp2
        go_ret2
        exact ret_amm HE (HNO.out _ _ HB1.out)
      have HV : Hid (visErr ⟨zid, zt, ze, zl, zp⟩ = listErr zp 6) := by show _ = _; rw [visErr, if_neg b0, if_neg b12, if_neg (by simp only; omega)]
      clear b0 b12
      by_cases b7 : listErr zp 6 = 0
      · have HG := hide (HGOOD.out (HV.out.trans b7))
        rw [b7] at HLC
        clear b7
        go_wp2_with (go_at_call 73; refine HLC.out.mono ?_; rintro e w2 ⟨rfl, d, rfl⟩)
        go_roundg (vn - (q + 1))
        case measure => omega
        case rel => exact ⟨q + 1, by omega, rfl, by go_num, below_drewN HB1.out d, HG⟩
      · have HE := hide (HBAD.out (listErr zp 6) b7 HV.out)
        have k7 : (listErr zp 6 != 0) = true := by simp [b7]
        generalize listErr zp 6 = lk at *
        clear b7
        go_wp2_with (go_at_call 73; refine HLC.out.mono ?_; rintro e w2 ⟨rfl, d, rfl⟩)
        go_ret2
        exact ret_amm HE (HNO.out _ _ (below_drewN HB1.out d))
      --E
    · have hqn : q = vn := by omega
      subst hqn
      have HGD : Hid (∀ y ∈ vs, visErr y = 0) := fun y hy => HT.out y (by rw [List.take_of_length_le (by rw [HVSL.out]; omega)]; exact hy)
      have HK3 : Hid (K = (if ¬ (vs.map (·.id)).Nodup then 8 else if ¬ NoLap vs then 12 else if knownT T vs = false then 15 else if T.vers.length ≠ 0 ∧ eff ≤ lastEff T.vers then 13 else if full then 21 else 0)) := by
        show _ = _
        rw [HK2.out, firstErr_zero HGD.out]; rfl
      clear HK2 HT
      obtain ⟨n, hnq⟩ : ∃ n, n = q := ⟨_, rfl⟩
      subst hnq
      have HBW0 := HBW
      go_upto_region 19 with fail
      go_loopg [82] n (fun g x wr => ∃ q : Nat, q ≤ n ∧ g = n - q ∧ x = .int .i64 q ∧ Hid (Below w.heap.size w wr) ∧ Hid (∀ i j, i < q → ¬ twin (vs.map (·.id)) i j))
      case atStart => exact ⟨0, by omega, by omega, rfl, HBW, fun i j h => absurd h (by omega)⟩
      case round =>
        as_aux_lemma =>
        obtain ⟨q, hq, rfl, rfl, HBW, HT⟩ := hrel
        have HID : Hid (∀ i (hi : i < zs.length), (vs.map (·.id))[i]? = some zs[i].1.id) := fun i hi => by
          obtain ⟨h1, h2⟩ := HVZ.out i hi
          rw [List.getElem?_map, List.getElem?_eq_getElem h1, Option.map_some, h2]
        by_cases hlt : q < n
        ·
          --B
          go_upto_region 22 with fail
          go_loopg [87] n (fun g x wr => ∃ k : Nat, k ≤ n ∧ g = n - k ∧ x = .int .i64 k ∧ Hid (Below w.heap.size w wr) ∧ Hid (∀ j, j < k → ¬ twin (vs.map (·.id)) q j))
          case atStart => exact ⟨0, by omega, by omega, rfl, HBW, fun j h => absurd h (by omega)⟩
          case round =>
            obtain ⟨k, hk, rfl, rfl, HBX, HP⟩ := hrel
            by_cases hlt2 : k < n
            · have hqz : q < zs.length := by rw [← HN.out]; exact hlt
              have hkz : k < zs.length := by rw [← HN.out]; exact hlt2
              have c0 := (rng_cell (HVR.out wr HBX.out q hqz)).2 0 (by decide)
              have c1 := (rng_cell (HVR.out wr HBX.out k hkz)).2 0 (by decide)
              simp only [vzCs, List.getElem?_toArray, List.getElem?_cons_zero, Nat.add_zero] at c0 c1
              have g0 := HID.out q hqz
              have g1 := HID.out k hkz
              have HTW : Hid (q ≠ k → zs[q].1.id = zs[k].1.id → twin (vs.map (·.id)) q k) := fun hne he => by
                obtain ⟨a1, a2⟩ := List.getElem?_eq_some_iff.1 g0
                obtain ⟨b1, b2⟩ := List.getElem?_eq_some_iff.1 g1
                exact ⟨a1, b1, hne, by rw [a2, b2]; exact he⟩
              have HTN : Hid (zs[q].1.id ≠ zs[k].1.id → ¬ twin (vs.map (·.id)) q k) := fun hne ht => by
                obtain ⟨a1, b1, -, he⟩ := ht
                obtain ⟨_, a2⟩ := List.getElem?_eq_some_iff.1 g0
                obtain ⟨_, b2⟩ := List.getElem?_eq_some_iff.1 g1
                rw [a2, b2] at he
                exact hne he
              generalize zs[q].1.id = x at *
              generalize zs[k].1.id = y at *
              clear g0 g1 hqz hkz
              by_cases hqk : q = k
              · have k0 : ((q : Int) != (k : Int)) = false := by simp [hqk]
                have HQK := hide hqk
                clear hqk c0 c1
                go_upto_region 24 with fail
                go_quiet (fail)
                go_wp2
                go_roundg (n - (k + 1))
                case measure => omega
                case rel =>
                  refine ⟨k + 1, by omega, rfl, by go_num, below_drewN HBX.out nq, fun j hj => ?_⟩
                  by_cases hjk : j < k
                  · exact HP.out j hjk
                  · have : j = k := by omega
                    subst this
                    exact fun ⟨_, _, hne, _⟩ => hne HQK.out
              · have k0 : ((q : Int) != (k : Int)) = true := by simp; omega
                have HQK := hide hqk
                clear hqk
                by_cases hxy : x = y
                · have k1 : (x == y) = true := by simp [hxy]
                  have HE := hide (HERR.out 8 (by decide) (by rw [HK3.out, if_pos (not_nodup_of_twin (HTW.out HQK.out hxy))]))
                  clear hxy
                  go_upto_region 24 with fail
                  go_quiet (fail)
                  go_wp2
                  go_ret2
                  exact ret_amm HE (HNO.out _ _ (below_drewN HBX.out nq))
                · have k1 : (x == y) = false := by simp [hxy]
                  have HNT := hide (HTN.out hxy)
                  clear hxy
                  go_upto_region 24 with fail
                  go_quiet (fail)
                  go_wp2
                  go_roundg (n - (k + 1))
                  case measure => omega
                  case rel =>
                    refine ⟨k + 1, by omega, rfl, by go_num, below_drewN HBX.out nq, fun j hj => ?_⟩
                    by_cases hjk : j < k
                    · exact HP.out j hjk
                    · have : j = k := by omega
                      subst this
                      exact HNT.out
            · go_wp2
              go_roundg (n - (q + 1))
              case measure => omega
              case rel =>
                refine ⟨q + 1, by omega, rfl, by go_num, HBX, fun i j hi => ?_⟩
                by_cases hiq : i < q
                · exact HT.out i j hiq
                · have : i = q := by omega
                  subst this
                  intro ht
                  obtain ⟨h1, h2, h3, h4⟩ := ht
                  exact HP.out j (by have := HVSL.out; simp at h2; omega) ⟨h1, h2, h3, h4⟩
          --E
        · have HND : Hid ((vs.map (·.id)).Nodup) := nodup_of_twin (fun i j ht => HT.out i j (by obtain ⟨h1, -⟩ := ht; have := HVSL.out; simp at h1; omega) ht)
          have HK4 : Hid (K = (if ¬ NoLap vs then 12 else if knownT T vs = false then 15 else if T.vers.length ≠ 0 ∧ eff ≤ lastEff T.vers then 13 else if full then 21 else 0)) := by
            show _ = _
            rw [HK3.out, if_neg (fun h => h HND.out)]
          clear HK3 HT HID
          go_upto_region 29 with fail
          go_loopg [110] n (fun g x wr => ∃ q : Nat, q ≤ n ∧ g = n - q ∧ x = .int .i64 q ∧ Hid (Below w.heap.size w wr) ∧ Hid (∀ i j (hi : i < zs.length) (hj : j < zs.length), i < q → i ≠ j → lapB zs[i].1 zs[j].1 = false))
          case atStart => exact ⟨0, by omega, by omega, rfl, HBW, fun i j _ _ h => absurd h (by omega)⟩
          case round =>
            as_aux_lemma =>
            obtain ⟨q, hq, rfl, rfl, HBW, HT⟩ := hrel
            by_cases hlt : q < n
            ·
              --B
              go_upto_region 32 with fail
              go_loopg [115] n (fun g x wr => ∃ k : Nat, k ≤ n ∧ g = n - k ∧ x = .int .i64 k ∧ Hid (Below w.heap.size w wr) ∧ Hid (∀ j (hi : q < zs.length) (hj : j < zs.length), j < k → q ≠ j → lapB zs[q].1 zs[j].1 = false))
              case atStart => exact ⟨0, by omega, by omega, rfl, HBW, fun j _ _ h => absurd h (by omega)⟩
              case round =>
                obtain ⟨k, hk, rfl, rfl, HBX, HP⟩ := hrel
                by_cases hlt2 : k < n
                · have hqz : q < zs.length := by rw [← HN.out]; exact hlt
                  have hkz : k < zs.length := by rw [← HN.out]; exact hlt2
                  have r0 := HVR.out wr HBX.out q hqz
                  have r1 := HVR.out wr HBX.out k hkz
                  have hsx := HBX.out.size
                  have hbx : b < wr.heap.size := by omega
                  obtain ⟨hqv, hvq⟩ := HVZ.out q hqz
                  obtain ⟨hkv, hvk⟩ := HVZ.out k hkz
                  have HVQ : Hid (VB zs[q].1) := by rw [← hvq]; exact VB.of_ok (HGD.out _ (List.getElem_mem hqv))
                  have HVK : Hid (VB zs[k].1) := by rw [← hvk]; exact VB.of_ok (HGD.out _ (List.getElem_mem hkv))
                  have HLAP : Hid (q ≠ k → lapB zs[q].1 zs[k].1 = true → ¬ NoLap vs) := fun hne hl hno => by
                    rw [← hvq, ← hvk] at hl
                    have hpw := List.pairwise_iff_getElem.1 hno
                    rcases Nat.lt_or_gt_of_ne hne with h1 | h1
                    · rw [hpw q k hqv hkv h1] at hl; cases hl
                    · rw [lapB_symm (hpw k q hkv hqv h1)] at hl; cases hl
                  have HP2 : Hid ((q ≠ k → lapB zs[q].1 zs[k].1 = false) → ∀ j (hi : q < zs.length) (hj : j < zs.length), j < k + 1 → q ≠ j → lapB zs[q].1 zs[j].1 = false) := fun h j hi hj hjk hne => by
                    by_cases hje : j = k
                    · subst hje; exact h hne
                    · exact HP.out j hi hj (by omega) hne
                  generalize zs[q] = zq at *
                  generalize zs[k] = zk at *
                  clear hvq hvk hqv hkv hqz hkz HP
                  by_cases hqk : q = k
                  · have k0 : ((q : Int) != (k : Int)) = false := by simp [hqk]
                    have HQK := hide hqk
                    clear hqk r0 r1
                    go_upto_region 34 with fail
                    go_quiet (fail)
                    go_wp2
                    go_roundg (n - (k + 1))
                    case measure => omega
                    case rel => exact ⟨k + 1, by omega, rfl, by go_num, below_drewN HBX.out nq, HP2.out (fun h => absurd HQK.out h)⟩
                  · have k0 : ((q : Int) != (k : Int)) = true := by simp; omega
                    have HQK := hide hqk
                    clear hqk
                    have HOV : Hid (∀ X : Ext wr.heap.size wr, Calls Tryd.prog 74 #[.agg (vzCs zq), .agg (vzCs zk)] X.world fun e w' => e = .returned (.bool (lapB zq.1 zk.1)) ∧ Below X.world.heap.size X.world w') := fun X => overlap_calls X.world zq zk HVQ.out HVK.out
                    cases hlap : lapB zq.1 zk.1 with
                    | true =>
                      rw [hlap] at HOV
                      have HE := hide (HERR.out 12 (by decide) (by rw [HK4.out, if_pos (HLAP.out HQK.out hlap)]))
                      go_upto_region 34 with fail
                      refine wp_region_ext wr.heap.size (by kernel_rfl) (by kernel_rfl) ?_
                      repeat (go_big_quiet_step ((go_at_call 74; refine ext_call (Nat.le_refl _) (HOV.out _))))
                      refine wpQuiet_nil ?_
                      intro _ hw'
                      obtain ⟨x, hw2⟩ := hw'
                      subst hw2
                      obtain ⟨w2, hb2⟩ := x
                      simp only []
                      go_wp2
                      go_ret2
                      exact ret_amm HE (HNO.out _ _ (HBX.out.trans (hb2.mono hsx)))
                    | false =>
                      rw [hlap] at HOV
                      go_upto_region 34 with fail
                      refine wp_region_ext wr.heap.size (by kernel_rfl) (by kernel_rfl) ?_
                      repeat (go_big_quiet_step ((go_at_call 74; refine ext_call (Nat.le_refl _) (HOV.out _))))
                      refine wpQuiet_nil ?_
                      intro _ hw'
                      obtain ⟨x, hw2⟩ := hw'
                      subst hw2
                      obtain ⟨w2, hb2⟩ := x
                      simp only []
                      go_wp2
                      go_roundg (n - (k + 1))
                      case measure => omega
                      case rel => exact ⟨k + 1, by omega, rfl, by go_num, HBX.out.trans (hb2.mono hsx), HP2.out (fun _ => hlap)⟩
                · go_wp2
                  go_roundg (n - (q + 1))
                  case measure => omega
                  case rel =>
                    refine ⟨q + 1, by omega, rfl, by go_num, HBX, fun i j hi hj hlt hne => ?_⟩
                    by_cases hiq : i < q
                    · exact HT.out i j hi hj hiq hne
                    · have : i = q := by omega
                      subst this
                      exact HP.out j hi hj (by have := HN.out; omega) hne
              --E
            · have HNL : Hid (NoLap vs) := by
                show NoLap vs
                unfold NoLap
                rw [List.pairwise_iff_getElem]
                intro i j hi hj hij
                have h1 : i < zs.length := by have := HVSL.out; have := HN.out; omega
                have h2 : j < zs.length := by have := HVSL.out; have := HN.out; omega
                obtain ⟨_, e1⟩ := HVZ.out i h1
                obtain ⟨_, e2⟩ := HVZ.out j h2
                rw [e1, e2]
                exact HT.out i j h1 h2 (by have := HN.out; omega) (by omega)
              have HK5 : Hid (K = (if knownT T vs = false then 15 else if T.vers.length ≠ 0 ∧ eff ≤ lastEff T.vers then 13 else if full then 21 else 0)) := by
                show _ = _
                rw [HK4.out, if_neg (fun h => h HNL.out)]
              clear HK4 HT
              go_upto_region 39 with fail
              go_loopg [136] n (fun g x wr => ∃ q : Nat, q ≤ n ∧ g = n - q ∧ x = .int .i64 q ∧ Hid (Below w.heap.size w wr) ∧ Hid (∀ i (hi : i < zs.length), i < q → ∀ x ∈ zs[i].1.panels, (T.pan x).isSome = true))
              case atStart => exact ⟨0, by omega, by omega, rfl, HBW, fun i _ h => absurd h (by omega)⟩
              case round =>
                as_aux_lemma =>
                obtain ⟨q, hq, rfl, rfl, HBW, HT⟩ := hrel
                by_cases hlt : q < n
                ·
                  --B
                  have hqz : q < zs.length := by rw [← HN.out]; exact hlt
                  obtain ⟨hqv, hvq⟩ := HVZ.out q hqz
                  have hrg := HVR.out wr HBW.out q hqz
                  have hsw := HBW.out.size
                  have hbr : b < wr.heap.size := by omega
                  have hU := HPU.out wr HBW.out q hqz
                  have hpk : ∀ x ∈ zs[q].1.panels, U32 x := by rw [← hvq]; exact (HVOK.out _ (List.getElem_mem hqv)).panels
                  have hp6 : zs[q].1.panels.length ≤ 6 := by rw [← hvq]; exact (visErr_ok (HGD.out _ (List.getElem_mem hqv))).2.2.2.2.2.2.2
                  have HPK := hide hpk
                  have HBAD : Hid (∀ x ∈ zs[q].1.panels, T.pan x = none → K = 15 ∧ NU = 0 ∧ T' = T) := fun x hx hno => HERR.out 15 (by decide) (by
                    rw [HK5.out, if_pos]
                    unfold knownT
                    rw [List.all_eq_false]
                    refine ⟨vs[q], List.getElem_mem hqv, ?_⟩
                    rw [hvq]
                    intro hall
                    have := List.all_eq_true.1 hall x hx
                    rw [hno] at this
                    cases this)
                  have HGO : Hid ((∀ x ∈ zs[q].1.panels, (T.pan x).isSome = true) → ∀ i (hi : i < zs.length), i < q + 1 → ∀ x ∈ zs[i].1.panels, (T.pan x).isSome = true) := fun h i hi hiq => by
                    by_cases he : i = q
                    · subst he; exact h
                    · exact HT.out i hi (by omega)
                  generalize zs[q] = z at *
                  obtain ⟨⟨zid, zt, ze, zl, zp⟩, zpa, zpn, zpc⟩ := z
                  simp only [vzCs, sv] at hrg hU
                  simp only at HBAD HGO HPK hp6
                  have hpn : zp.length = zpn := by obtain ⟨_, _, h⟩ := U32sAt.form hU; injection h with _ h _; exact h.symm
                  obtain ⟨w1, hw1⟩ : ∃ w1, w1 = wr.alloc (.cells #[.int .u32 zid, .int .i64 zt, .int .i64 ze, .int .i64 zl, .slice zpa zpn zpc] 63) := ⟨_, rfl⟩
                  have hb1 : Below wr.heap.size wr w1 := by rw [hw1]; exact (Below.refl _ _).alloc (Nat.le_refl _) _
                  have hX : w1.heap[wr.heap.size]? = some (.cells #[.int .u32 zid, .int .i64 zt, .int .i64 ze, .int .i64 zl, .slice zpa zpn zpc] 63 (0, 0)) := by rw [hw1]; exact heap_alloc_at _ _
                  have x4 : w1.cell? ⟨wr.heap.size, 4, none⟩ = some (.slice zpa zpn zpc) := by rw [World.cell?, hX]; rfl
                  obtain ⟨pa', pc', pb, po, hpv, r1, r2, r3, r4, pha, phc⟩ := U32sAt.parts (hU.below hb1) zpn hpn
                  injection hpv with y1 y2 y3
                  subst y1 y3
                  have hpi := run_indexAt_arr (P := Tryd.prog) (n := zpn) (cap := zpc) Tryd.underlying31 Tryd.size29 (fun h => (pha h).1)
                  have HB1 := hide (HBW.out.trans (hb1.mono hsw))
                  have HM1 := hide (HM.out.ext HB1.out)
                  obtain ⟨-, d1, -, -, -, -, -, hM1⟩ := cell_six HM1.out.top
                  have HPC := hide phc
                  have HPN := hide hpn
                  have hpn6 : zpn ≤ 6 := by omega
                  clear hvq hqv hqz hU HT hX hb1 pha phc hpn hpk y2 hp6
                  go_upto_region 41 with fail
                  rw [← hw1]
                  clear hw1 hrg
                  go_upto_region 42 with fail
                  go_loopg [143] zpn (fun g x wr => ∃ k : Nat, k ≤ zpn ∧ g = zpn - k ∧ x = .int .i64 k ∧ w1 = wr ∧ Hid (∀ x ∈ zp.take k, (T.pan x).isSome = true))
                  case atStart => exact ⟨0, by omega, by omega, rfl, rfl, by show ∀ x ∈ zp.take 0, _; simp⟩
                  case round =>
                    obtain ⟨k, hk, rfl, rfl, rfl, HP⟩ := hrel
                    by_cases hlt2 : k < zpn
                    · have hkz : k < zp.length := by rw [HPN.out]; exact hlt2
                      have c0 := HPC.out k hkz
                      have hxU := HPK.out zp[k] (List.getElem_mem hkz)
                      have HBD := hide (HBAD.out zp[k] (List.getElem_mem hkz))
                      have HTK : Hid (zp.take (k + 1) = zp.take k ++ [zp[k]]) := List.take_succ_eq_append_getElem hkz
                      generalize zp[k] = x at *
                      obtain ⟨ja, jn, jc, hlk, -⟩ := pan_form HM1.out hxU
                      have hlk1 := (hlk w1 (Below.refl _ _)).1
                      clear hlk hkz
                      cases hTp : T.pan x with
                      | none =>
                        rw [hTp] at hlk1
                        simp only [Option.isSome_none] at hlk1
                        have HE := hide (HBD.out hTp)
                        clear hTp
                        go_wp2
                        go_ret2
                        exact ret_amm HE (HNO.out _ _ HB1.out)
                      | some l =>
                        rw [hTp] at hlk1
                        simp only [Option.isSome_some] at hlk1
                        have HS : Hid ((T.pan x).isSome = true) := by show _ = _; rw [hTp]; rfl
                        clear hTp
                        go_wp2
                        go_roundg (zpn - (k + 1))
                        case measure => omega
                        case rel =>
                          refine ⟨k + 1, by omega, rfl, by go_num, by first | rfl | trivial, ?_⟩
                          show ∀ y ∈ zp.take (k + 1), _
                          rw [HTK.out]
                          intro y hy
                          rcases List.mem_append.1 hy with hy | hy
                          · exact HP.out y hy
                          · rw [List.mem_singleton.1 hy]; exact HS.out
                    · have HG := hide (HGO.out (fun x hx => HP.out x (by rw [List.take_of_length_le (by rw [HPN.out]; omega)]; exact hx)))
                      go_wp2
                      go_roundg (n - (q + 1))
                      case measure => omega
                      case rel => exact ⟨q + 1, by omega, rfl, by go_num, HB1, HG⟩
                  --E
                · have HKN : Hid (knownT T vs = true) := by
                    show _ = _
                    unfold knownT
                    rw [List.all_eq_true]
                    intro y hy
                    obtain ⟨i, hi, rfl⟩ := List.mem_iff_getElem.1 hy
                    have hiz : i < zs.length := by have := HVSL.out; have := HN.out; omega
                    obtain ⟨_, e1⟩ := HVZ.out i hiz
                    rw [e1, List.all_eq_true]
                    exact HT.out i hiz (by have := HN.out; omega)
                  have HK6 : Hid (K = (if T.vers.length ≠ 0 ∧ eff ≤ lastEff T.vers then 13 else if full then 21 else 0)) := by
                    show _ = _
                    rw [HK5.out, HKN.out, if_neg (by decide)]
                  clear HK5 HT
                  obtain ⟨mv, m1, m2, m3, m4⟩ := HM.out.vers
                  have hmt : mv.length = T.vers.length := by rw [m2]; simp
                  obtain ⟨nv, hnv⟩ : ∃ nv, nv = mv.length := ⟨_, rfl⟩
                  obtain ⟨sa, sc, sb, so, hsv, s1, s2, s3, sha, shc⟩ := (m1.rows mvCs_size (by decide) (by omega)).lt
                  subst hsv
                  rw [← hnv] at s1 s3 sha
                  have hsw := HBW.out.size
                  have HMr := hide (HM.out.ext HBW.out)
                  obtain ⟨-, -, d2, -, -, d5, -, hMr⟩ := cell_six HMr.out.top
                  rw [← hnv] at d2
                  have hnv1 : nv ≤ 1000000 := by omega
                  have HNV := hide hnv
                  have HM1 := hide m1
                  have HM2 := hide m2
                  have HM3 := hide m3
                  have HM4 := hide m4
                  have HTV : Hid (T.vers.length = nv) := by show _ = _; omega
                  have HORD : Hid ((T.vers.length ≠ 0 ∧ eff ≤ lastEff T.vers) ↔ (0 < nv ∧ ∃ h : nv - 1 < mv.length, eff ≤ mv[nv - 1].eff)) := by
                    show _ ↔ _
                    rw [hnv, lastEff]
                    constructor
                    · rintro ⟨h1, h2⟩
                      have h3 : mv.length - 1 < mv.length := by omega
                      refine ⟨by omega, h3, ?_⟩
                      rw [m2, List.length_map, List.getElem?_map, List.getElem?_eq_getElem h3] at h2
                      exact h2
                    · rintro ⟨h1, h2, h3⟩
                      refine ⟨by omega, ?_⟩
                      rw [m2, List.length_map, List.getElem?_map, List.getElem?_eq_getElem h2]
                      exact h3
                  have HSC := hide shc
                  have HSA := hide sha
                  clear m1 m2 m3 m4 hnv hmt sha shc
                  go_upto_region 50 with fail
                  by_cases hord : 0 < nv ∧ ∃ h : nv - 1 < mv.length, eff ≤ mv[nv - 1].eff
                  case pos =>
                    --B
                    have HE := hide (HERR.out 13 (by decide) (by rw [HK6.out, if_pos (HORD.out.2 hord)]))
                    obtain ⟨hp0, hl1, hle⟩ := hord
                    have hsbb := (HSA.out hp0).2.2
                    have e1 : wr.cell? ⟨sb, so + (nv - 1) * 3 + 1, none⟩ = some (.int .i64 mv[nv - 1].eff) := by
                      have := (rng_cell (HSC.out (nv - 1) hl1)).2 1 (by decide)
                      rw [HBW.out.cell (p := ⟨sb, so + (nv - 1) * 3 + 1, none⟩) hsbb]
                      exact this
                    have hix : ∀ W, (Instr.indexAt 68 (.slice sa nv sc) (.int .i64 ((nv : Int) - 1))).run Tryd.prog W = .ok (.pointer (some ⟨sb, so + (nv - 1) * 3, none⟩)) W := fun W => by
                      have h9 := run_indexAt_arr (P := Tryd.prog) (n := nv) (cap := sc) Tryd.underlying68 Tryd.sz41 (fun h => (HSA.out h).1) W ((nv : Int) - 1) (by omega) (by omega)
                      rw [h9]
                      congr 5
                      omega
                    generalize mv[nv - 1].eff = le at *
                    have hd : decide (0 < (nv : Int)) = true := decide_eq_true (by omega)
                    clear hl1
                    go_wp2
                    go_ret2
                    exact ret_amm HE (HNO.out _ _ HBW.out)
                    --E
                  case neg =>
                    have HK7 : Hid (K = if full then 21 else 0) := by show _ = _; rw [HK6.out, if_neg (fun h => hord (HORD.out.1 h))]
                    obtain ⟨w4, hw4⟩ : ∃ w4, w4 = wr := ⟨_, rfl⟩
                    subst hw4
                    go_cut [179] (fun x179 W => x179 = .bool false ∧ w4 = W)
                    case first =>
                      as_aux_lemma =>
                      --B
                      by_cases hnz : nv = 0
                      · have hd : decide (0 < (nv : Int)) = false := decide_eq_false (by omega)
                        have hd2 : decide (0 < nv) = false := decide_eq_false (by omega)
                        have hnp : ¬ 0 < nv := by omega
                        clear hord hnz
                        go_wp2
                        go_meet
                        case rel => exact ⟨rfl, rfl⟩
                      · have hp0 : 0 < nv := by omega
                        have hl1 : nv - 1 < mv.length := by rw [← HNV.out]; omega
                        have hnle : ¬ eff ≤ mv[nv - 1].eff := fun h => hord ⟨hp0, hl1, h⟩
                        have hsbb := (HSA.out hp0).2.2
                        have e1 : w4.cell? ⟨sb, so + (nv - 1) * 3 + 1, none⟩ = some (.int .i64 mv[nv - 1].eff) := by
                          have := (rng_cell (HSC.out (nv - 1) hl1)).2 1 (by decide)
                          rw [HBW.out.cell (p := ⟨sb, so + (nv - 1) * 3 + 1, none⟩) hsbb]
                          exact this
                        have hix : ∀ W, (Instr.indexAt 68 (.slice sa nv sc) (.int .i64 ((nv : Int) - 1))).run Tryd.prog W = .ok (.pointer (some ⟨sb, so + (nv - 1) * 3, none⟩)) W := fun W => by
                          have h9 := run_indexAt_arr (P := Tryd.prog) (n := nv) (cap := sc) Tryd.underlying68 Tryd.sz41 (fun h => (HSA.out h).1) W ((nv : Int) - 1) (by omega) (by omega)
                          rw [h9]
                          congr 5
                          omega
                        clear hord
                        generalize mv[nv - 1].eff = le at *
                        have hd : decide (0 < (nv : Int)) = true := decide_eq_true (by omega)
                        have hd2 : decide (eff ≤ le) = false := decide_eq_false hnle
                        clear hl1
                        go_wp2
                        go_meet
                        case rel => exact ⟨rfl, rfl⟩
                      --E
                    case rest =>
                      as_aux_lemma =>
                      obtain ⟨rfl, rfl⟩ := hcut
                      cases full with
                      | true =>
                        have HE := hide (HERR.out 21 (by decide) (by rw [HK7.out]; rfl))
                        go_wp2
                        go_ret2
                        exact ret_amm HE (HNO.out _ _ HBW.out)
                      | false =>
                        have HOK : Hid (K = 0 ∧ NU = (nv : Int) + 1 ∧ T' = { T with vers := T.vers ++ [(eff, sortV vs)] }) := by
                          have e : K = 0 := by rw [HK7.out]; rfl
                          exact ⟨e, by rw [HKT.out.2.1, e, amNum, if_pos rfl, HTV.out], by rw [HKT.out.2.2, e, if_pos rfl]⟩
                        have hsrc : 0 < n → ∃ b' off', va = some ⟨b', off', none⟩ ∧ ∀ i (h : i < zs.length), rng w4 b' (off' + i * 5) 5 = some (vzCs zs[i]) := fun h => ⟨b, off, (HVA.out h).1, fun i hi => HVR.out w4 HBW.out i hi⟩
                        have HSRC := hide hsrc
                        clear hsrc HKT HERR HNO HORD HK6 HK7 HSC HSA
                        go_upto_region 55 with (at_builtin; refine wpList_appN (α := ZV) rfl _ _ 32 rfl w4.heap.size 63 vzCs Tryd.underlying32 Tryd.info63 rfl (by decide) vzCs_size vzCs_one (.slice none 0 0) [] rfl (OwnR.nil _ _ _ _ _) va n vc rfl zs HN.out HCAP.out.2 HSRC.out (by simp; omega) (by unfold maxLen; simp; omega) (Nat.le_refl _) ?_; intro vL w5 hown5 hsame5 hbel5 hat5)
                        rw [List.nil_append] at hown5
                        have HL0 : Hid (RArr w5 (fun b => w4.heap.size ≤ b ∧ (Value.slice none 0 0).ownBlock ≠ some b) 5 vzCs vL zs) := RArr.mono (hown5.rows vzCs_size (by decide) (by rw [← HN.out]; omega)) (Same.refl _ _) (fun b hb => ⟨hb, by simp [Value.ownBlock]⟩)
                        have HB5 := hide hbel5
                        have hzl : zs.length = n := HN.out.symm
                        clear hown5 hsame5 hbel5 hat5
                        go_upto_region 56 with fail
                        go_loopg [22, 23] n (fun g x22 x23 wr => ∃ acc lft : List ZV, g = lft.length ∧ Hid (RArr wr (fun b => w4.heap.size ≤ b ∧ x23.ownBlock ≠ some b) 5 vzCs x22 lft) ∧ Hid (OwnR wr w4.heap.size 63 5 vzCs x23 acc) ∧ Hid (Below w4.heap.size w4 wr) ∧ Hid ((acc ++ lft).Perm zs) ∧ Hid (acc.Pairwise (fun a b => a.1.target ≤ b.1.target)) ∧ Hid (∀ a ∈ acc, ∀ b ∈ lft, a.1.target ≤ b.1.target) ∧ acc.length + lft.length = n)
                        case atStart => exact ⟨[], zs, HN.out, HL0, OwnR.nil _ _ _ _ _, HB5, List.Perm.refl _, List.Pairwise.nil, (fun a ha => absurd ha (by simp)), by simpa using HN.out.symm⟩
                        case round =>
                          as_aux_lemma =>
                          obtain ⟨acc, lft, rfl, HL, HO, HBX, HPM, HSD, HLE, hal⟩ := hrel
                          obtain ⟨la, lc, lb, lo, hlv, l1, l2, l3, lha, lhc⟩ := HL.out.lt
                          subst hlv
                          obtain ⟨ll, hll⟩ : ∃ ll, lft.length = ll := ⟨_, rfl⟩
                          rw [hll] at l1 l3 lha hal ⊢
                          have HLL := hide hll
                          have HLHA := hide lha
                          have HLC : Hid (∀ W, Below wr.heap.size wr W → ∀ i (hi : i < lft.length), rng W lb (lo + i * 5) 5 = some (vzCs lft[i])) := fun W hW i hi => by
                            rw [rng_of_block (hW.block lb (lha (by omega)).2.2)]; exact lhc i hi
                          have hli := run_indexAt_arr (P := Tryd.prog) (n := ll) (cap := lc) Tryd.underlying32 Tryd.size63 (fun h => (lha h).1)
                          have hsx := HBX.out.size
                          clear lha lhc hll
                          by_cases hpos : 0 < ll
                          · have t2 : decide (0 < (ll : Int)) = true := decide_eq_true (by omega)
                            obtain ⟨w6, hw6⟩ : ∃ w6, w6 = wr := ⟨_, rfl⟩
                            subst hw6
                            go_upto_region 59 with fail
                            go_loopg [24, 191] ll (fun g x24 x191 wr => ∃ k l : Nat, k ≤ ll ∧ g = ll - k ∧ x191 = .int .i64 k ∧ x24 = .int .i64 l ∧ l < ll ∧ (∃ d, wr = w6.drewN d) ∧ Hid (∀ j (hj : j < lft.length) (hl : l < lft.length), j < k → lft[l].1.target ≤ lft[j].1.target))
                            case atStart => exact ⟨0, 0, by omega, by omega, rfl, rfl, hpos, ⟨0, rfl⟩, fun j _ _ h => absurd h (by omega)⟩
                            case round =>
                              as_aux_lemma =>
                              obtain ⟨k, l, hk, rfl, rfl, rfl, hl, ⟨d, rfl⟩, HMIN⟩ := hrel
                              have hlz : l < lft.length := by rw [HLL.out]; exact hl
                              by_cases hlt2 : k < ll
                              ·
                                --B
                                have hkz : k < lft.length := by rw [HLL.out]; exact hlt2
                                have c0 := (rng_cell (HLC.out w6 (Below.refl _ _) k hkz)).2 1 (by decide)
                                have c1 := (rng_cell (HLC.out w6 (Below.refl _ _) l hlz)).2 1 (by decide)
                                simp only [vzCs, List.getElem?_toArray, List.getElem?_cons_zero, List.getElem?_cons_succ] at c0 c1
                                have HNEW : Hid (lft[k].1.target < lft[l].1.target → ∀ j (hj : j < lft.length) (hl : k < lft.length), j < k + 1 → lft[k].1.target ≤ lft[j].1.target) := fun h j hj _ hjk => by
                                  by_cases he : j = k
                                  · subst he; omega
                                  · have := HMIN.out j hj hlz (by omega); omega
                                have HOLD : Hid (¬ lft[k].1.target < lft[l].1.target → ∀ j (hj : j < lft.length) (hl : l < lft.length), j < k + 1 → lft[l].1.target ≤ lft[j].1.target) := fun h j hj _ hjk => by
                                  by_cases he : j = k
                                  · subst he; omega
                                  · exact HMIN.out j hj hlz (by omega)
                                generalize lft[k].1.target = x at *
                                generalize lft[l].1.target = y at *
                                by_cases hxy : x < y
                                · go_upto_region 61 with fail
                                  go_quiet (fail)
                                  go_wp2
                                  go_roundg (ll - (k + 1))
                                  case measure => omega
                                  case rel => exact ⟨k + 1, k, by omega, rfl, by go_num, rfl, hlt2, ⟨d + nq, by simp⟩, HNEW.out hxy⟩
                                · go_upto_region 61 with fail
                                  go_quiet (fail)
                                  go_wp2
                                  go_roundg (ll - (k + 1))
                                  case measure => omega
                                  case rel => exact ⟨k + 1, l, by omega, rfl, by go_num, rfl, hl, ⟨d + nq, by simp⟩, HOLD.out hxy⟩
                                --E
                              · have hkl : k = ll := by omega
                                have HXM : Hid (∀ z ∈ lft, lft[l].1.target ≤ z.1.target) := fun z hz => by
                                  obtain ⟨j, hj, rfl⟩ := List.mem_iff_getElem.1 hz
                                  exact HMIN.out j hj hlz (by rw [HLL.out] at hj; omega)
                                have HXE : Hid (lft.Perm (lft[l] :: (lft.take l ++ lft.drop (l + 1)))) := by
                                  have h1 : lft.take l ++ lft[l] :: lft.drop (l + 1) = lft := by rw [← List.drop_eq_getElem_cons hlz, List.take_append_drop]
                                  have h2 : (lft.take l ++ lft[l] :: lft.drop (l + 1)).Perm (lft[l] :: (lft.take l ++ lft.drop (l + 1))) := List.perm_middle
                                  rw [h1] at h2
                                  exact h2
                                have hxr := HLC.out (w6.drewN d) (below_drewN (Below.refl _ _) d) l hlz
                                obtain ⟨w7, hw7⟩ : ∃ w7, w7 = w6.drewN d := ⟨_, rfl⟩
                                rw [← hw7] at hxr ⊢
                                have hb67 : Below w6.heap.size w6 w7 := by rw [hw7]; exact below_drewN (Below.refl _ _) d
                                have hz67 := hb67.size
                                obtain ⟨hla, ⟨hlb1, hlb2⟩, hlb3⟩ := HLHA.out hpos
                                have hlb7 : lb < w7.heap.size := by omega
                                have HO7 : Hid (OwnR w7 w4.heap.size 63 5 vzCs u23 acc) := HO.out.below hb67 (Nat.le_refl _)
                                have HB7 := hide (HBX.out.trans (hb67.mono hsx))
                                have hz47 := HB7.out.size
                                have HL7 : Hid (∀ i (hi : i < lft.length), rng w7 lb (lo + i * 5) 5 = some (vzCs lft[i])) := HLC.out w7 hb67
                                have hacl : acc.length ≤ 12 := by omega
                                have hll12 : ll ≤ 12 := by omega
                                obtain ⟨z, hz⟩ : ∃ z, z = lft[l] := ⟨_, rfl⟩
                                rw [← hz] at HXM HXE hxr
                                have HLB2 := hide hlb2
                                have HLA := hide hla
                                clear hla hw7 hb67 HMIN hz hkl hlb2 HL HLC HO HBX HVR HPU HLHA
                                as_aux_lemma =>
                                go_upto_region 65 with (at_builtin; refine wpList_app1 (α := ZV) rfl _ _ 32 rfl w4.heap.size 63 vzCs Tryd.underlying32 Tryd.info63 rfl (by decide) vzCs_size vzCs_one _ acc rfl (OwnR.below HO7.out ((Below.refl _ _).alloc (Nat.le_refl _) _) (Nat.le_refl _)) _ rfl z (by rw [rng_alloc_at _ _ _ _ _ _ _ (by first | rfl | simp)]; rfl) (by omega) (by unfold maxLen; omega) (by simp; omega) ?_; intro v8 w8 hown8 hsame8 hbel8 hat8)
                                have hz8 : w7.heap.size + 1 ≤ w8.heap.size := by have := hbel8.size; simpa using this
                                have HL8 : Hid (∀ i (hi : i < lft.length), rng w8.drew lb (lo + i * 5) 5 = some (vzCs lft[i])) := fun i hi => by
                                  have h1 : w8.heap[lb]? = w7.heap[lb]? := (hsame8 lb ⟨by simp; omega, HLB2.out⟩).trans (Below.heap_alloc _ _ _ hlb7)
                                  rw [rng_drew, rng_of_block h1]
                                  exact HL7.out i hi
                                have HV8 : Hid (v8.ownBlock ≠ some lb) := fun e => by
                                  rcases hat8 with h | h
                                  · rw [h] at e; exact HLB2.out e
                                  · rw [h] at e; injection e with e; simp at e; omega
                                have HO8 := hide hown8
                                have HB8 : Hid (Below w4.heap.size w4 w8) := (HB7.out.alloc hz47 _).trans hbel8
                                have hz48 := HB8.out.size
                                obtain ⟨ao1, hsl1, hs1a, hs1n⟩ := run_slCap (P := Tryd.prog) Tryd.underlying32 Tryd.size63 (a := la) l1 l (by omega)
                                obtain ⟨ao2, hsl2', hs2a, hs2n⟩ := run_slFrom (P := Tryd.prog) Tryd.underlying32 Tryd.size63 (a := la) (b := lb) (off := lo) (fun _ => HLA.out) l1 l2.2 (l + 1) (by omega)
                                have hsl2 : ∀ w, (Instr.sliceAt 32 (.slice la ll lc) (some (.int .i64 ((l : Int) + 1))) none none).run Tryd.prog w = .ok (.slice ao2 (ll - (l + 1)) (lc - (l + 1))) w := fun w => by
                                  have h := hsl2' w
                                  rw [show ((l + 1 : Nat) : Int) = (l : Int) + 1 by omega] at h
                                  exact h
                                have HA1 : Hid (LiesR w8.drew 5 vzCs ao1 (lft.take l)) := fun h => ⟨lb, lo, hs1a _ _ HLA.out, fun i hi => by
                                  rw [List.getElem_take]
                                  exact HL8.out i (by simp at hi; omega)⟩
                                have HA2 : Hid (LiesR w8.drew 5 vzCs ao2 (lft.drop (l + 1))) := fun h => ⟨lb, lo + (l + 1) * 5, hs2a (by simp at h; have := HLL.out; omega), fun i hi => by
                                  rw [List.getElem_drop]
                                  have h9 : l + 1 + i < lft.length := by simp at hi; omega
                                  have := HL8.out (l + 1 + i) h9
                                  rw [show lo + (l + 1 + i) * 5 = lo + (l + 1) * 5 + i * 5 by omega] at this
                                  exact this⟩
                                have HAK : Hid (∀ b off, ao1 = some ⟨b, off, none⟩ → (w4.heap.size ≤ b ∧ v8.ownBlock ≠ some b)) := fun b off e => by
                                  rw [hs1a _ _ HLA.out] at e
                                  injection e with e
                                  injection e with e _ _
                                  rw [← e]
                                  exact ⟨hlb1, HV8.out⟩
                                have HAN : Hid (ao1 = none → l = 0) := fun e => by have h9 := HLA.out; rw [hs1n e] at h9; cases h9
                                have HTL : Hid (l = (lft.take l).length) := by show _ = _; rw [List.length_take, HLL.out]; omega
                                have HDL : Hid (ll - (l + 1) = (lft.drop (l + 1)).length) := by show _ = _; rw [List.length_drop, HLL.out]
                                have HBN : Hid (ao2 = none → ll - (l + 1) = 0) := fun e => by have := hs2n e; omega
                                have HREL : Hid (∀ (a' : Option Addr) (c' : Nat) (w9 : World), RArr w9 (fun b => (w4.heap.size ≤ b ∧ v8.ownBlock ≠ some b) ∨ w8.drew.heap.size ≤ b) 5 vzCs (.slice a' (l + (ll - (l + 1))) c') (lft.take l ++ lft.drop (l + 1)) → Below w8.drew.heap.size w8.drew w9 → ∃ acc' lft' : List ZV, ll - 1 = lft'.length ∧ Hid (RArr w9 (fun b => w4.heap.size ≤ b ∧ v8.ownBlock ≠ some b) 5 vzCs (.slice a' (l + (ll - (l + 1))) c') lft') ∧ Hid (OwnR w9 w4.heap.size 63 5 vzCs v8 acc') ∧ Hid (Below w4.heap.size w4 w9) ∧ Hid ((acc' ++ lft').Perm zs) ∧ Hid (acc'.Pairwise (fun a b => a.1.target ≤ b.1.target)) ∧ Hid (∀ a ∈ acc', ∀ b ∈ lft', a.1.target ≤ b.1.target) ∧ acc'.length + lft'.length = n) := fun a' c' w9 hr9 hb9 => by
                                  refine ⟨acc ++ [z], lft.take l ++ lft.drop (l + 1), by rw [List.length_append, ← HTL.out, ← HDL.out]; omega, hr9.mono (Same.refl _ _) (fun b hb => hb.elim (fun h => h) (fun h => ⟨Nat.le_trans hz48 h, fun e => ?_⟩)), HO8.out.below ((Below.refl _ _).drew.trans hb9) (Nat.le_refl _), HB8.out.trans (((Below.refl _ _).drew.trans hb9).mono hz48), ?_, ?_, ?_, by rw [List.length_append, List.length_append, ← HTL.out, ← HDL.out]; simp; omega⟩
                                  · have := (HO8.out.block b e).2
                                    have h' : w8.heap.size ≤ b := h
                                    omega
                                  · have h1 : (acc ++ lft).Perm (acc ++ (z :: (lft.take l ++ lft.drop (l + 1)))) := List.Perm.append_left acc HXE.out
                                    have h2 := h1.symm.trans HPM.out
                                    rw [List.append_assoc]
                                    exact h2
                                  · rw [Hid, List.pairwise_append]
                                    refine ⟨HSD.out, by simp, fun a ha b hb => ?_⟩
                                    rw [List.mem_singleton.1 hb]
                                    exact HLE.out a ha z (HXE.out.mem_iff.2 (List.mem_cons_self ..))
                                  · intro a ha b hb
                                    have hbl : b ∈ lft := HXE.out.mem_iff.2 (List.mem_cons_of_mem _ hb)
                                    rcases List.mem_append.1 ha with ha | ha
                                    · exact HLE.out a ha b hbl
                                    · rw [List.mem_singleton.1 ha]; exact HXM.out b hbl
                                clear hs1a hs1n hsl2' hs2a hs2n hown8 hsame8 hbel8 hat8 hxr hlb3
                                refine wp_region_mixT (w8.heap.size) [] (by kernel_rfl) ?_
                                refine mixT_slots [0, 1, 2, 3, 4, 5, 6, 7] (fuel := 2) rfl (by kernel_rfl) (by kernel_rfl) (fun d _ _ _ _ h => by cases d <;> exact h) ?_
                                simp only [opersAt, List.getElem?_toArray, List.getElem?_cons_zero, List.getElem?_cons_succ]
                                repeat (go_big_quiet_step (fail))
                                refine wpQuiet_nil ?_
                                refine mixT_one (k := 8) (by kernel_rfl) rfl ?_
                                go_wp2_with (at_builtin; refine wpList_appFull (α := ZV) (fun b => w4.heap.size ≤ b ∧ v8.ownBlock ≠ some b) rfl _ _ 32 rfl 63 vzCs Tryd.underlying32 Tryd.info63 rfl (by decide) vzCs_size vzCs_one ao1 l (lft.take l) rfl HTL.out HA1.out HAK.out HAN.out ao2 (ll - (l + 1)) (lc - (l + 1)) (lft.drop (l + 1)) rfl HDL.out HBN.out HA2.out (by unfold maxLen; omega) (by omega) (by omega) ?_; intro a9 c9 w9 hr9 hb9)
                                refine ⟨Or.inl (by kernel_rfl), ?_⟩
                                refine mixT_one (k := 9) (by kernel_rfl) rfl ?_
                                go_wp2
                                refine ⟨Or.inr (fun h => h), ?_⟩
                                refine mixT_nil (by kernel_rfl) ?_
                                go_wp2
                                go_roundg (ll - 1)
                                case measure => have := HLL.out; omega
                                case rel => exact HREL.out _ _ _ hr9 hb9
                          · have hl0 : ll = 0 := by omega
                            have hlf : lft = [] := List.eq_nil_of_length_eq_zero (by rw [HLL.out]; exact hl0)
                            subst hlf
                            have t2 : decide (0 < (ll : Int)) = false := decide_eq_false (by omega)
                            have t3 : decide (0 < ll) = false := decide_eq_false hpos
                            have HPM2 : Hid (acc.Perm zs) := by have := HPM.out; rw [List.append_nil] at this; exact this
                            have hacn : acc.length = n := by omega
                            obtain ⟨g, gc, hgv, hg1, hg2, hgR⟩ := own_atR vzCs_size (by decide) HO.out (by omega) (by omega)
                            rw [hacn] at hgv
                            subst hgv
                            have HBr := hide (HBW.out.trans (HBX.out.mono hsw))
                            have hzw := HBr.out.size
                            have HMX := hide (HM.out.ext HBr.out)
                            obtain ⟨-, -, f2, -, -, -, -, hMx⟩ := cell_six HMX.out.top
                            have e0 : mv.length = nv := HNV.out.symm
                            rw [e0] at f2
                            have HEQ : Hid (acc.map (·.1) = sortV vs) := by
                              have hvb : ∀ y ∈ vs, VB y := fun y hy => VB.of_ok (HGD.out y hy)
                              refine sortV_unique hvb HNL.out ?_ ?_
                              · rw [← HZM.out]; exact HPM2.out.map _
                              · rw [List.pairwise_map]; exact HSD.out
                            have HGR := hide hgR
                            have hng : ¬ 9223372036854775807 < (nv : Int) + 1 := by omega
                            have HO1 : Hid (OwnR wr base 41 3 mvCs (.slice sa nv sc) mv) := by rw [← e0]; exact HM1.out.below HBr.out (Nat.le_refl _)
                            have hbsr : base ≤ wr.heap.size := by omega
                            have hlow := HM.out.low M (by simp)
                            rw [e0] at hlow
                            have HVB : Hid (∀ b, (Value.slice sa nv sc).ownBlock = some b → b < w.heap.size) := fun b hb => by rw [← e0] at hb; exact (HM1.out.block b hb).2
                            have HTOP := hide HMX.out.top
                            rw [e0] at HTOP
                            clear HPM HSD HLE HL HO HLC HLHA hli hl0 hgR hacn e0
                            go_upto_region 67 with fail
                            go_wp2_with (at_builtin; refine wpList_app1 (α := MVer) rfl _ _ 68 rfl base 41 mvCs Tryd.underlying68 Tryd.info41 rfl (by decide) mvCs_size mvCs_one _ mv (by first | rfl | (rw [← HNV.out]; rfl)) (OwnR.below HO1.out ((Below.refl _ _).alloc (Nat.le_refl _) _) (Nat.le_refl _)) _ rfl (⟨(nv : Int) + 1, eff, (some ⟨g, 0, none⟩, n, gc), acc.map (·.1)⟩ : MVer) (by rw [rng_alloc_at _ _ _ _ _ _ _ (by first | rfl | simp)]; rfl) (by rw [← HNV.out]; omega) (by rw [← HNV.out]; unfold maxLen; omega) (by simp; omega) ?_; intro v8 w8 hown8 hsame8 hbel8 hat8; have hM8 := (hsame8 M ⟨(by simp; omega), hlow.2.2⟩).trans ((Below.heap_alloc _ _ _ hMx).trans HTOP.out); have g2 := (cell_six hM8).2.2.1; have gf := (cell_six hM8).2.2.2.2.2.2.1 2; have HM8 := hide hM8; obtain ⟨ca, L8, cc, hcv⟩ : ∃ ca L8 cc, v8 = .slice ca L8 cc := (let ⟨a, c, h⟩ := hown8.form; ⟨a, _, c, h⟩); subst hcv; have HO8 := hide hown8; have HS8 := hide hsame8; have HB8 := hide hbel8; have HA8 := hide hat8; clear hown8 hsame8 hbel8 hat8 hM8)
                            go_ret2
                            have hz8 : wr.heap.size + 1 ≤ w8.heap.size := by have := HB8.out.size; simpa using this
                            have hMg : M ≠ g := by omega
                            have hoth : ∀ b, b ≠ M → (w8.setCell ⟨M, 2, none⟩ (.slice ca L8 cc)).heap[b]? = w8.heap[b]? := fun b hb => Below.heap_setCell _ _ _ _ hb
                            have hsz9 : (w8.setCell ⟨M, 2, none⟩ (.slice ca L8 cc)).heap.size = w8.heap.size := by simp [World.setCell]
                            have hb0 : Below base w (w8.setCell ⟨M, 2, none⟩ (.slice ca L8 cc)) := (((HBr.out.mono hbs).alloc (by omega) _).trans HB8.out).setCell (p := ⟨M, 2, none⟩) hlow.1 _
                            have hold : ∀ b, b < wr.heap.size → b ≠ M → (Value.slice sa nv sc).ownBlock ≠ some b → (w8.setCell ⟨M, 2, none⟩ (.slice ca L8 cc)).heap[b]? = wr.heap[b]? := fun b h1 h2 h3 => (hoth b h2).trans ((HS8.out b ⟨by simp; omega, h3⟩).trans (Below.heap_alloc _ _ _ h1))
                            have hvg : (Value.slice sa nv sc).ownBlock ≠ some g := fun e => by have := HVB.out g e; omega
                            have hg9 : (w8.setCell ⟨M, 2, none⟩ (.slice ca L8 cc)).heap[g]? = wr.heap[g]? := hold g hg2 (Ne.symm hMg) hvg
                            have htop9 : (w8.setCell ⟨M, 2, none⟩ (.slice ca L8 cc)).heap[M]? = some (.cells #[.map (some a), .map (some p), .slice ca L8 cc, .map (some s), .map (some u), .bool false] 70 (0, 0)) := by
                              have := heap_setCell_same w8 M 2 _ _ (.slice ca L8 cc) HM8.out
                              simpa using this
                            have hME := HM.out
                            have e0 : mv.length = nv := HNV.out.symm
                            rw [e0] at hME
                            have hfin := hME.addVer (g := g) (mv := mv) (x := ⟨(nv : Int) + 1, eff, (some ⟨g, 0, none⟩, n, gc), acc.map (·.1)⟩) (v' := .slice ca L8 cc) (w' := w8.setCell ⟨M, 2, none⟩ (.slice ca L8 cc)) (fun b h1 h2 h3 => (hold b (by omega) h2 h3).trans (HBr.out.block b h1)) hb0 htop9 HM2.out HM3.out HM4.out
                              (HO8.out.mono (fun b hb => hoth b (fun e => by
                                rcases HA8.out with h | h
                                · rw [h, e] at hb; exact hlow.2.2 hb
                                · rw [h] at hb; injection hb with hb; simp at hb; omega))) (by show (nv : Int) + 1 = _; rw [e0]) (by omega) (by omega)
                              ⟨acc, HGR.out.mono (fun b hb => by subst hb; exact hg9) (fun b hb => Or.inr hb), rfl, fun z hz => by
                                obtain ⟨i, hi, rfl⟩ := List.mem_iff_getElem.1 (HPM2.out.mem_iff.1 hz)
                                exact (HPU.out w (Below.refl _ _) i hi).mono (fun b hb => hb0.block b hb) (fun b hb => Or.inl hb)⟩
                              (by
                                rcases HA8.out with h | h
                                · exact Or.inl h
                                · exact Or.inr (fun b hb => by rw [h] at hb; injection hb with hb; simp at hb; omega))
                              (fun e => by
                                rcases HA8.out with h | h
                                · rw [h] at e; exact hvg e
                                · rw [h] at e; injection e with e; simp at e; omega)
                            simp only [HEQ.out] at hfin
                            rw [← e0] at hfin
                            exact ret_amm HOK ⟨_, _, rfl, hfin⟩

end Go.Proofs.Qxb6500665aDoor
