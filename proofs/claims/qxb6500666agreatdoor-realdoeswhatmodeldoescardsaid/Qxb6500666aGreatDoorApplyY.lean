/- Apply, walked once more with a wider bound. -/
import Derived.Test.Qxb6500666aGreatDoorApplyZ
namespace Go.Proofs.Qxb6500666aGreatDoor
open Go.RowKit
attribute [local go_sem] ext_const Ext.cell Ext.frozen Ext.rng Ext.whole
attribute [local go_sem ↓] exec_ldWr exec_stWr exec_ldPa exec_stPa exec_bsPa
attribute [local go_sem] run_ldWr run_stWr run_ldPa run_stPa run_bsPa whole_alloc_lt whole_alloc_at whole_drew setRow_alloc_at setRow_alloc_lt rng_alloc_lt rng_alloc_at rng_drew rng_drewN


set_option maxRecDepth 100000 in
set_option maxHeartbeats 4000000 in
theorem applyY_calls (w : World) (S base : Nat) (pv : Value) (A okw : Nat → Prop) (zs : List ZP) (full : Bool) (off lar : Int) (wv : Value) (ws : List WR) (h : StM w S base pv A zs full off lar) (hW : BatchAt w okw wv ws) (hokw : ∀ b, okw b → b ≠ S ∧ pv.ownBlock ≠ some b) (hsz : sizeW ws ≤ 1000000000) (hzl : zs.length + ws.length ≤ 10000000) (hoff : 0 ≤ off ∧ off ≤ 1000000000000000) :
    Calls Tryz.prog 180 #[.pointer (some ⟨S, 0, none⟩), wv] w fun e w' => ApPost w w' S base pv A (zs.map (·.2)) full off lar ws e := by
  have HST := hide h
  have HBT := hide hW
  obtain ⟨s0, s1, s2, s3, sf, hSl⟩ := cell_four h.top
  obtain ⟨zw, hZ, hzm, hzb⟩ := hW.ex
  obtain ⟨wa, n, wcp, rfl, -⟩ := Src.of hZ
  have HZ := hide hZ
  have HZM := hide hzm
  have HZB := hide hzb
  obtain ⟨ps, hps⟩ : ∃ ps, ps = zs.map (·.2) := ⟨_, rfl⟩
  rw [← hps]
  have HPS := hide hps
  obtain ⟨N, hN⟩ : ∃ N, N = zs.length := ⟨_, rfl⟩
  have hNl : N + ws.length ≤ 10000000 := by omega
  have HA0 : Hid (ApS w (w.setCell ⟨S, 2, none⟩ (.int .i64 (off + 1))) S base pv A ps full (off + 1) lar N) := by
    have hm1 := HST.out.setN (j := 2) (x := off + 1) (y := lar) (Or.inl ⟨rfl, rfl⟩)
    simp only [if_true, show (2 : Nat) ≠ 3 by decide, if_false] at hm1
    exact ⟨pv, A, zs, hm1, StStep.setN HST.out.baseS, hps.symm, by omega⟩
  obtain ⟨Z, hZs⟩ : ∃ Z : Nat, Z = sizeW ws := ⟨_, rfl⟩
  have HZs := hide hZs
  have hZl : Z ≤ 1000000000 := by omega
  clear h hW hZ hzm hzb hps hN hzl hsz
  go_enter Tryz.func180, Tryz.ntmps180
  go_upto_region 2 with fail
  clear s0 s1 s2 s3 sf hSl hZs
  generalize (w.setCell _ _) = W1 at *
  obtain ⟨s1, s3, sf, hSl⟩ := HA0.out.facts
  have HB1 := hide (HA0.out.batch HBT.out hokw)
  go_cut [22] (fun x W => x = .bool (decide (lar < (Z : Int))) ∧ ApS w W S base pv A ps full (off + 1) lar N)
  case first =>
    as_aux_lemma =>
    refine wp_region_mixT (W1.heap.size) [5] (by kernel_rfl) ?_
    refine mixT_slots [0, 2, 3, 4] (fuel := 3) rfl (by kernel_rfl) (by kernel_rfl) (fun d _ _ _ _ h => by cases d <;> exact h) ?_
    simp only [opersAt, List.getElem?_toArray, List.getElem?_cons_zero, List.getElem?_cons_succ]
    repeat (go_big_quiet_step (fail))
    refine wpQuiet_nil ?_
    refine mixT_reads [5] (fuel := 2) rfl (by kernel_rfl) (by decide) (by kernel_rfl) (fun d _ _ _ _ h => by cases d <;> exact h) (ext_drew _ _) ?_
    simp only [opersAt, List.getElem?_toArray, List.getElem?_cons_zero, List.getElem?_cons_succ]
    repeat (go_big_quiet_step (fail))
    refine wpQuiet_nil ?_
    refine mixT_one (k := 1) (by kernel_rfl) rfl ?_
    go_wp2_with (go_at_call 232; refine (size_calls _ _ _ ws (HB1.out.below (Below.refl _ _).drew) (by rw [← HZs.out]; exact hZl)).mono ?_; rintro e w2 ⟨rfl, hb2⟩; rw [← HZs.out])
    have hbw : Below W1.heap.size W1 w2 := (Below.refl _ _).drew.trans hb2
    refine ⟨Or.inr (by intros; exact ⟨⟨_, hbw⟩, rfl⟩), ?_⟩
    refine mixT_one (k := 6) (by kernel_rfl) rfl ?_
    go_wp2
    refine ⟨Or.inr (fun h => h), ?_⟩
    refine mixT_nil (by kernel_rfl) ?_
    go_wp2
    go_meet
    case rel => exact ⟨rfl, HA0.out.below hbw⟩
  case rest =>
    as_aux_lemma =>
    obtain ⟨rfl, hA2⟩ := hcut
    have HA2 := hide hA2
    clear s1 s3 sf hSl HB1 HA0 hA2
    obtain ⟨L2, hL2⟩ : ∃ L2 : Int, L2 = if lar < (Z : Int) then (Z : Int) else lar := ⟨_, rfl⟩
    have HL2 := hide hL2
    clear hL2
    go_upto_if 22 with fail
    go_cut [] (fun W => ApS w W S base pv A ps full (off + 1) L2 N)
    case first =>
      as_aux_lemma =>
      obtain ⟨s1, s3, sf, hSl⟩ := HA2.out.facts
      have HB2 := hide (HA2.out.batch HBT.out hokw)
      cases t0 : decide (lar < (Z : Int)) with
      | false =>
        have hE : L2 = lar := by rw [HL2.out, if_neg (of_decide_eq_false t0)]
        subst hE
        go_wp2
        go_meet
        case rel => exact HA2.out
      | true =>
        have HE : Hid (L2 = Z) := by show _ = _; rw [HL2.out, if_pos (of_decide_eq_true t0)]
        go_wp2_with (go_at_call 232; refine (size_calls _ _ _ ws HB2.out (by rw [← HZs.out]; exact hZl)).mono ?_; rintro e w2 ⟨rfl, hb2⟩; rw [← HZs.out]; obtain ⟨r1, r3, rf, hrl⟩ := (HA2.out.below hb2).facts)
        go_meet
        case rel => rw [HE.out]; exact (HA2.out.below hb2).setN
    case rest =>
      as_aux_lemma =>
      -- TAIL
      have HA3 := hide hcut
      clear HA2 hcut
      obtain ⟨s1, s3, sf, hSl⟩ := HA3.out.facts
      have HB3 := hide (HA3.out.batch HBT.out hokw)
      cases t1 : decide ((3000 : Int) < (Z : Int)) with
      | true =>
        go_wp2_with (go_at_call 232; refine (size_calls _ _ _ ws HB3.out (by rw [← HZs.out]; exact hZl)).mono ?_; rintro e w2 ⟨rfl, hb2⟩; rw [← HZs.out])
        go_ret
        exact ap_refuse HZs HL2 (by rw [← HZs.out]; have h9 := of_decide_eq_true t1; simp; omega) (HA3.out.below hb2)
      | false =>
        cases full with
        | true =>
          go_wp2_with (go_at_call 232; refine (size_calls _ _ _ ws HB3.out (by rw [← HZs.out]; exact hZl)).mono ?_; rintro e w2 ⟨rfl, hb2⟩; rw [← HZs.out]; obtain ⟨r1, r3, rf, hrl⟩ := (HA3.out.below hb2).facts)
          go_ret
          exact ap_refuse HZs HL2 (by simp) (HA3.out.below hb2)
        | false =>
          go_upto_region 9 with (go_at_call 232; refine (size_calls _ _ _ ws HB3.out (by rw [← HZs.out]; exact hZl)).mono ?_; rintro e w2 ⟨rfl, hb2⟩; rw [← HZs.out]; obtain ⟨r1, r3, rf, hrl⟩ := (HA3.out.below hb2).facts)
          have HA4 : Hid (ApS w w2 S base pv A (applyW ps (ws.take 0)) false (off + 1) L2 (N + 0)) := HA3.out.below hb2
          obtain ⟨hnw, hnc, hnm⟩ := RArr.caps HZ.out
          have HNW := hide hnw
          have hnws : n = ws.length := by rw [hnw, ← HZM.out, List.length_map]
          have HNWS := hide hnws
          have hNn : N + n ≤ 10000000 := by omega
          obtain ⟨b, boff, hb⟩ : ∃ b boff, 0 < n → wa = some ⟨b, boff, none⟩ ∧ okw b ∧ b < w.heap.size ∧ ∀ i (hi : i < zw.length), rng w b (boff + i * 3) 3 = some (zwCs zw[i]) := by
            by_cases h0 : 0 < n
            · obtain ⟨b, boff, h1, h2, h3⟩ := RArr.openAt HZ.out h0
              exact ⟨b, boff, fun _ => ⟨h1, h2, rng_lt (h3 0 (by omega)), h3⟩⟩
            · exact ⟨0, 0, fun h1 => absurd h1 h0⟩
          have hi := run_indexAt_arr (P := Tryz.prog) (a := wa) (b := b) (off := boff) (n := n) (cap := wcp) Tryz.underlying328 Tryz.size388 (fun h => (hb h).1)
          have HBO := hide hb
          clear hb hb2 s1 s3 sf hSl r1 r3 rf hrl HA3 HB3 hnw hnws
          go_loopg [39] n (fun g x wr => ∃ q : Nat, q ≤ n ∧ g = n - q ∧ x = .int .i64 q ∧ Hid (ApS w wr S base pv A (applyW ps (ws.take q)) false (off + 1) L2 (N + q)))
          case atStart => exact ⟨0, by omega, by omega, rfl, HA4⟩
          clear HA4
          case round =>
            obtain ⟨q, hq, rfl, rfl, HQ⟩ := hrel
            by_cases hlt : q < n
            · have h1 : q < zw.length := by rw [← HNW.out]; exact hlt
              obtain ⟨pv1, A1, zs1, hm, hst, hp1, hlen1⟩ := HQ.out.ex
              obtain ⟨-, hokb, hbl, hcs⟩ := HBO.out (by omega)
              have hrg := hcs q h1
              rw [← rng_of_block (hst.fr b hbl (hokw b hokb).1 (hokw b hokb).2)] at hrg
              have hzq := HZB.out zw[q] (List.getElem_mem h1)
              have HTK : Hid (applyW ps (ws.take (q + 1)) = putW (applyW ps (ws.take q)) zw[q].2) := by
                show _ = _
                have h2 : q < ws.length := by rw [← HNWS.out]; exact hlt
                rw [applyW_take h2]
                congr 1
                simp [← HZM.out]
              have hbr : b < wr.heap.size := rng_lt hrg
              generalize zw[q] = z at *
              obtain ⟨⟨⟨ka, kn, kc⟩, ⟨va, vn, vc⟩⟩, ⟨⟨kb, vb⟩, dl⟩⟩ := z
              simp only [zwCs, sv] at hrg hzq
              simp only at HTK
              have HKB : Hid (∀ V pv' A', StStep w V S base pv pv' A A' → BytesAt V (fun b => okw b ∧ b < w.heap.size) (.slice ka kn kc) kb) := fun V pv' A' hV => (RArr.lt hzq.1).mono (fun b hb => hV.fr b hb.2 (hokw b hb.1).1 (hokw b hb.1).2) (fun _ h => h)
              have HVB : Hid (∀ V pv' A', StStep w V S base pv pv' A A' → BytesAt V (fun b => okw b ∧ b < w.heap.size) (.slice va vn vc) vb) := fun V pv' A' hV => (RArr.lt hzq.2).mono (fun b hb => hV.fr b hb.2 (hokw b hb.1).1 (hokw b hb.1).2) (fun _ h => h)
              obtain ⟨a1, m1, c1, ef1⟩ := hm.own.form3
              subst ef1
              obtain ⟨x0, -, -, -, xf, hSx⟩ := cell_four hm.top
              have hov3 : ones #[.slice ka kn kc, .slice va vn vc, .bool dl] 3 = true := rfl
              have hbS := hm.baseS
              have hrows := hm.own.rows zCs_size (by decide) (by omega)
              obtain ⟨hml, hmc, hmm⟩ := RArr.caps hrows
              have HML := hide hml
              have hm6 : m1 ≤ 10000000 := by omega
              clear hml
              go_upto_region 12 with fail
              have hal : Below wr.heap.size wr (wr.alloc (.cells #[.slice ka kn kc, .slice va vn vc, .bool dl] 388)) := (Below.refl _ _).alloc (Nat.le_refl _) _
              have HM1 := hide (hm.below hal)
              have HST1 := hide (hst.trans (StStep.of_below hal (by omega)))
              have hG : (wr.alloc (.cells #[.slice ka kn kc, .slice va vn vc, .bool dl] 388)).heap[wr.heap.size]? = some (.cells #[.slice ka kn kc, .slice va vn vc, .bool dl] 388 (0, 0)) := heap_alloc_at _ _
              have hown9 : ∀ b, (Value.slice a1 m1 c1).ownBlock = some b → b ≠ wr.heap.size := fun b hb => by have := (hm.own.block b hb).2; omega
              have HROW := hide (RArr.below hrows hal)
              have HP1 := hide hp1
              have hSG : S ≠ wr.heap.size := by omega
              generalize hGn : wr.heap.size = G at *
              generalize (World.alloc wr _) = W1 at *
              have hSW1 := blk_lt HM1.out.top
              have HG := hide hG
              have hGl := blk_lt hG
              obtain ⟨pb, poff, hpb⟩ : ∃ pb poff, 0 < m1 → a1 = some ⟨pb, poff, none⟩ ∧ pb < W1.heap.size ∧ ∀ i (hi : i < zs1.length), rng W1 pb (poff + i * 2) 2 = some (zCs zs1[i]) := by
                by_cases h0 : 0 < m1
                · obtain ⟨pb, poff, h1, -, h3⟩ := RArr.openAt HROW.out h0
                  exact ⟨pb, poff, fun _ => ⟨h1, rng_lt (h3 0 (by have := HML.out; omega)), h3⟩⟩
                · exact ⟨0, 0, fun h1 => absurd h1 h0⟩
              have hpi := run_indexAt_arr (P := Tryz.prog) (a := a1) (b := pb) (off := poff) (n := m1) (cap := c1) Tryz.underlying129 Tryz.size171 (fun h => (hpb h).1)
              have HPB := hide hpb
              clear hpb hG hrows hp1 hst hm hal hcs hrg hzq x0 xf hSx HQ hGn
              go_loopg [48] m1 (fun g j wx => ∃ p : Nat, p ≤ m1 ∧ g = m1 - p ∧ j = .int .i64 p ∧ Hid (Below W1.heap.size W1 wx) ∧ Hid (∀ j (hj : j < p) (h : j < zs1.length), zs1[j].2.1 ≠ kb))
              case atStart => exact ⟨0, by omega, by omega, rfl, Below.refl _ _, fun j hj => absurd hj (by omega)⟩
              case round =>
                obtain ⟨p, hp, rfl, rfl, HBX, HNO⟩ := hrel
                have hwx := HBX.out.size
                have HMX := hide (HM1.out.below HBX.out)
                have HSX := hide (HST1.out.trans (StStep.of_below HBX.out (by omega)))
                have hgx := (HBX.out.block G hGl).trans HG.out
                obtain ⟨g0, g1, g2, gf, hGx⟩ := cell_three hgx
                obtain ⟨x0, -, -, -, xf, hSx⟩ := cell_four HMX.out.top
                by_cases hlt2 : p < m1
                · have h2 : p < zs1.length := by rw [← HML.out]; exact hlt2
                  obtain ⟨-, hpl, hpc⟩ := HPB.out (by omega)
                  have hrz := hpc p h2
                  rw [← rng_of_block (HBX.out.block pb hpl)] at hrz
                  have hpx : pb < wr.heap.size := by omega
                  have hzb1 := HMX.out.zip zs1[p] (List.getElem_mem h2)
                  have HHIT := hide (fun hk => rmZ_hit (k := kb) h2 (fun j hj => HNO.out j hj (by omega)) hk)
                  have HNX : Hid (zs1[p].2.1 ≠ kb → ∀ j (hj : j < p + 1) (h : j < zs1.length), zs1[j].2.1 ≠ kb) := fun hk j hj h => by
                    by_cases hjp : j < p
                    · exact HNO.out j hjp h
                    · have : j = p := by omega
                      subst this
                      exact hk
                  generalize zs1[p] = z at *
                  obtain ⟨⟨⟨xa, xn, xc⟩, ⟨ya, yn, yc⟩⟩, ⟨xb, yb⟩⟩ := z
                  simp only [zCs, sv] at hrz hzb1
                  simp only at HHIT HNX
                  have hov2 : ones #[.slice xa xn xc, .slice ya yn yc] 2 = true := rfl
                  have hBA : Below wr.heap.size wr (wr.alloc (.cells #[.slice xa xn xc, .slice ya yn yc] 171)) := (Below.refl _ _).alloc (Nat.le_refl _) _
                  have HKX := hide (RArr.below hzb1.1 hBA)
                  have HKW := hide (RArr.below (HKB.out _ _ _ HSX.out) hBA)
                  have hBX := HBX.out.trans (hBA.mono hwx)
                  have HBA := hide hBA
                  have HBXA := hide hBX
                  clear hzb1 hBA hBX hpc
                  by_cases hkq : xb = kb
                  · have hd := decide_eq_true hkq
                    have HRM := hide (HHIT.out hkq)
                    clear hkq
                    go_upto_region 15 with (go_at_call 209; refine (same_calls _ _ _ _ _ xb kb HKX.out HKW.out).mono ?_; rintro e w3 ⟨rfl, k3, rfl⟩; rw [hd])
                    have hb3 := below_drewN HBA.out k3
                    have HM3 := hide (HMX.out.below hb3)
                    have HS3 := hide (HSX.out.trans (StStep.of_below hb3 (by omega)))
                    have hgx3 := (hb3.block G hGx).trans hgx
                    have hz3 := hb3.size
                    generalize (World.drewN _ _) = V0 at *
                    obtain ⟨hpa, -, hpc⟩ := HPB.out (by omega)
                    subst hpa
                    have hown3 : OwnR V0.drew base 171 2 zCs (.slice (some ⟨pb, poff, none⟩) p c1) (zs1.take p) := (HM3.out.below (Below.refl _ _).drew).own.take zCs_size p h2
                    have HSRC : Hid (∀ i (hi : i < (zs1.drop (p + 1)).length), rng V0.drew pb (poff + (p + 1) * 2 + i * 2) 2 = some (zCs (zs1.drop (p + 1))[i])) := fun i hi => by
                      have hi2 : p + 1 + i < zs1.length := by simp at hi; omega
                      have h9 := hpc (p + 1 + i) hi2
                      have h8 : rng V0 pb (poff + (p + 1 + i) * 2) 2 = some (zCs zs1[p + 1 + i]) := by
                        rw [rng_of_block (hb3.block pb hpx), rng_of_block (HBX.out.block pb hpl)]; exact h9
                      rw [rng_drew, List.getElem_drop, show poff + (p + 1) * 2 + i * 2 = poff + (p + 1 + i) * 2 by omega]
                      exact h8
                    have hsl1 := fun W => run_slUpP W pb poff m1 c1 p (by omega) (by omega)
                    obtain ⟨ao, hsl2, hao, hanil⟩ := run_slFrom (P := Tryz.prog) (t := 129) Tryz.underlying129 Tryz.size171 (a := some ⟨pb, poff, none⟩) (b := pb) (off := poff) (n := m1) (cap := c1) (fun _ => rfl) hmc (fun h => by cases h) (p + 1) (by omega)
                    unfold slFrom at hsl2
                    rw [show ((p + 1 : Nat) : Int) = (p : Int) + 1 by omega] at hsl2
                    have HAO := hide hao
                    have HAN := hide hanil
                    have HDL : Hid (m1 - (p + 1) = (zs1.drop (p + 1)).length) := by show _ = _; rw [List.length_drop, ← HML.out]
                    have htl : (zs1.take p).length = p := by rw [List.length_take]; omega
                    have HTL := hide htl
                    have HO3 := hide hown3
                    have HGX3 := hide hgx3
                    obtain ⟨y0, -, -, -, yf, hSy⟩ := cell_four HM3.out.top
                    have hml9 : zs1.length ≤ 10000000 := by omega
                    clear hown3 htl hao hanil hpc hgx3 hb3 g0 g1 g2 gf x0 xf hSx hrz hgx
                    refine wp_region_mixT (V0.heap.size) [4, 10] (by kernel_rfl) ?_
                    refine mixT_slots [0, 1, 2, 3, 5, 7, 8, 9, 11, 12] (fuel := 8) rfl (by kernel_rfl) (by kernel_rfl) (fun d _ _ _ _ h => by cases d <;> exact h) ?_
                    simp only [opersAt, List.getElem?_toArray, List.getElem?_cons_zero, List.getElem?_cons_succ]
                    repeat (go_big_quiet_step (fail))
                    refine wpQuiet_nil ?_
                    refine mixT_reads [4, 10] (fuel := 6) rfl (by kernel_rfl) (by decide) (by kernel_rfl) (fun d _ _ _ _ h => by cases d <;> exact h) (ext_drew _ _) ?_
                    simp only [opersAt, List.getElem?_toArray, List.getElem?_cons_zero, List.getElem?_cons_succ]
                    repeat (go_big_quiet_step (fail))
                    refine wpQuiet_nil ?_
                    refine mixT_slots [6, 13] (fuel := 4) rfl (by kernel_rfl) (by kernel_rfl) (fun d _ _ _ _ h => by cases d <;> exact h) ?_
                    simp only [opersAt, List.getElem?_toArray, List.getElem?_cons_zero, List.getElem?_cons_succ]
                    repeat (go_big_quiet_step (fail))
                    refine wpQuiet_nil ?_
                    refine mixT_one (k := 14) (by kernel_rfl) rfl ?_
                    refine wpList_appN (α := ZP) rfl _ _ 129 rfl base 171 zCs Tryz.underlying129 Tryz.info171 rfl (by decide) zCs_size zCs_one (.slice (some ⟨pb, poff, none⟩) p c1) (zs1.take p) rfl HO3.out ao (m1 - (p + 1)) (c1 - (p + 1)) rfl (zs1.drop (p + 1)) HDL.out HAN.out (fun hp9 => ⟨pb, poff + (p + 1) * 2, HAO.out (by omega), HSRC.out⟩) (by rw [HTL.out]; omega) (by rw [HTL.out]; unfold maxLen; omega) (by have := HM3.out.baseS; show base ≤ V0.heap.size; omega) ?_
                    intro v4 w4 hown4 hsame4 hbel4 hat4
                    refine ⟨Or.inl (by kernel_rfl), ?_⟩
                    obtain ⟨a2, m2, c2, ef4⟩ := hown4.form3
                    subst ef4
                    have HMd := hide (HM3.out.below (Below.refl _ _).drew)
                    have hSc := (hsame4 S ⟨hSy, fun h9 => (HMd.out.sep S h9).1 rfl⟩).trans HMd.out.top
                    have hGc := (hsame4 G ⟨blk_lt HGX3.out, fun h9 => hown9 G h9 rfl⟩).trans HGX3.out
                    obtain ⟨z0, -, -, -, zf, hSz⟩ := cell_four hSc
                    have HM5 : Hid (StM (w4.setCell ⟨S, 0, none⟩ (.slice a2 m2 c2)) S base (.slice a2 m2 c2) A1 (zs1.take p ++ zs1.drop (p + 1)) false (off + 1) L2) := HMd.out.put hown4 hsame4 hbel4 hat4 (fun z hz => HMd.out.zip z (by rw [← HRM.out] at hz; exact rmZ_mem hz)) (fun b hb => ⟨HMd.out.lt b hb, fun h9 => HMd.out.out (h9 ▸ hb), fun h9 => (HMd.out.sep b h9).2 hb⟩)
                    have HS5 : Hid (StStep w (w4.setCell ⟨S, 0, none⟩ (.slice a2 m2 c2)) S base pv (.slice a2 m2 c2) A A1) := (HS3.out.trans (StStep.of_below (Below.refl _ _).drew (by omega))).trans (HMd.out.put_step (A1 := A1) hsame4 hbel4 hat4 (fun _ h9 => Or.inl h9))
                    have hG5 := (Below.heap_setCell w4 ⟨S, 0, none⟩ (.slice a2 m2 c2) G (fun h9 => hSG h9.symm)).trans hGc
                    have hlen5 : (zs1.take p ++ zs1.drop (p + 1)).length ≤ N + q := by rw [List.length_append, List.length_take, List.length_drop]; omega
                    clear hown4 hsame4 hbel4 hat4 hSc hGc HO3
                    refine mixT_one (k := 15) (by kernel_rfl) rfl ?_
                    go_wp2
                    (first | refine ⟨Or.inr (fun h => h), ?_⟩ | skip)
                    refine mixT_one (k := 16) (by kernel_rfl) rfl ?_
                    go_wp2
                    (first | refine ⟨Or.inr (fun h => h), ?_⟩ | skip)
                    refine mixT_one (k := 17) (by kernel_rfl) rfl ?_
                    go_wp2
                    refine ⟨Or.inl (by kernel_rfl), ?_⟩
                    refine mixT_nil (by kernel_rfl) ?_
                    go_upto_region 17 with fail
                    generalize (World.setCell w4 _ _) = V5 at *
                    obtain ⟨g0, g1, g2, gf, hGx5⟩ := cell_three hG5
                    obtain ⟨x0, -, -, -, xf, hSx⟩ := cell_four HM5.out.top
                    clear z0 zf hSz y0 yf hSy hG5
                    cases dl with
                    | true =>
                      have hfin : ApS w V5 S base pv A (applyW ps (ws.take (q + 1))) false (off + 1) L2 (N + (q + 1)) := ⟨⟨_, A1, zs1.take p ++ zs1.drop (p + 1), HM5.out, HS5.out, by rw [HTK.out]; simp only [putW, if_true, List.append_nil]; rw [← HP1.out, ← rmZ_map, HRM.out], by have := hlen5; omega⟩⟩
                      have HFIN := hide hfin
                      clear hfin
                      go_wp2
                      go_roundg (n - (q + 1))
                      case measure => omega
                      case rel => exact ⟨q + 1, by omega, rfl, by go_num, HFIN⟩
                    | false =>
                      go_upto_region 18 with fail
                      have HKV : Hid (BytesAt V5 (fun b => okw b ∧ b < w.heap.size) (.slice ka kn kc) kb) := HKB.out _ _ _ HS5.out
                      have HVV : Hid (BytesAt V5 (fun b => okw b ∧ b < w.heap.size) (.slice va vn vc) vb) := HVB.out _ _ _ HS5.out
                      refine wp_region_mixT (V5.heap.size) [4, 6, 9] (by kernel_rfl) ?_
                      refine mixT_slots [0, 1, 2, 3, 5, 8] (fuel := 11) rfl (by kernel_rfl) (by kernel_rfl) (fun d _ _ _ _ h => by cases d <;> exact h) ?_
                      simp only [opersAt, List.getElem?_toArray, List.getElem?_cons_zero, List.getElem?_cons_succ]
                      repeat (go_big_quiet_step (fail))
                      refine wpQuiet_nil ?_
                      refine mixT_reads [4, 6, 9] (fuel := 8) rfl (by kernel_rfl) (by decide) (by kernel_rfl) (fun d _ _ _ _ h => by cases d <;> exact h) (ext_drew _ _) ?_
                      simp only [opersAt, List.getElem?_toArray, List.getElem?_cons_zero, List.getElem?_cons_succ]
                      repeat (go_big_quiet_step (fail))
                      refine wpQuiet_nil ?_
                      refine mixT_one (k := 7) (by kernel_rfl) rfl ?_
                      go_wp2_with (go_at_call 210; refine (clone_calls' V5.drew _ _ kb (RArr.below HKV.out (Below.refl _ _).drew)).mono ?_; rintro e y1 ⟨rfl, rfl⟩)
                      have hy1 : Below V5.heap.size V5 (cloneW V5.drew kb) := ((Below.refl _ _).drew).trans (clone_below V5.drew kb)
                      have hs1 : (cloneW V5.drew kb).heap.size = V5.heap.size + 1 := by simp [cloneW]
                      refine ⟨Or.inr (fun _ => ⟨⟨_, hy1⟩, rfl⟩), ?_⟩
                      refine mixT_one (k := 10) (by kernel_rfl) rfl ?_
                      go_wp2_with (go_at_call 210; refine (clone_calls' _ _ _ vb (RArr.below HVV.out hy1)).mono ?_; rintro e y2 ⟨rfl, rfl⟩)
                      have hy2 : Below V5.heap.size V5 (cloneW (cloneW V5.drew kb) vb) := hy1.trans ((clone_below _ _).mono (by omega))
                      have hs2 : (cloneW (cloneW V5.drew kb) vb).heap.size = V5.heap.size + 2 := by simp [cloneW]
                      refine ⟨Or.inr (fun _ => ⟨⟨_, hy2⟩, rfl⟩), ?_⟩
                      have HK2 : Hid (BytesAt (cloneW (cloneW V5.drew kb) vb) (fun b => V5.heap.size ≤ b ∧ b < V5.heap.size + 2) (.slice (some ⟨V5.heap.size, 0, none⟩) kb.length kb.length) kb) := (RArr.lt (BytesAt.below (clone_bytes V5.drew kb (BytesAt.len HKV.out)) (clone_below _ _))).mono (Same.refl _ _) (fun b hb => ⟨hb.1, by have := hb.2; rw [hs2] at this; exact this⟩)
                      have HV2 : Hid (BytesAt (cloneW (cloneW V5.drew kb) vb) (fun b => V5.heap.size ≤ b ∧ b < V5.heap.size + 2) (.slice (some ⟨V5.heap.size + 1, 0, none⟩) vb.length vb.length) vb) := by
                        have h9 := RArr.lt (clone_bytes (cloneW V5.drew kb) vb (BytesAt.len HVV.out))
                        simp only [cloneV, hs1, hs2] at h9
                        exact h9.mono (Same.refl _ _) (fun b hb => ⟨by have h8 : V5.heap.size + 1 ≤ b := hb.1; show V5.heap.size ≤ b; omega, hb.2⟩)
                      (first | simp only [hs1] | skip)
                      generalize (cloneW (cloneW V5.drew kb) vb) = V2 at *
                      have HM2 := hide (HM5.out.below hy2)
                      have HY2 := hide hy2
                      clear hy1 hs1 hy2 HKV HVV
                      refine mixT_slots [11] (fuel := 5) rfl (by kernel_rfl) (by kernel_rfl) (fun d _ _ _ _ h => by cases d <;> exact h) ?_
                      simp only [opersAt, List.getElem?_toArray, List.getElem?_cons_zero, List.getElem?_cons_succ]
                      repeat (go_big_quiet_step (fail))
                      refine wpQuiet_nil ?_
                      refine mixT_one (k := 12) (by kernel_rfl) rfl ?_
                      go_wp2
                      have hy3 : Below V5.heap.size V5 (V2.alloc (.cells #[.slice (some ⟨V5.heap.size, 0, none⟩) kb.length kb.length, .slice (some ⟨V5.heap.size + 1, 0, none⟩) vb.length vb.length] 171)) := HY2.out.alloc HY2.out.size _
                      refine ⟨Or.inr (fun _ => ⟨⟨_, hy3⟩, rfl⟩), ?_⟩
                      have HM3 := hide (HM2.out.below ((Below.refl _ _).alloc (Nat.le_refl _) (.cells #[.slice (some ⟨V5.heap.size, 0, none⟩) kb.length kb.length, .slice (some ⟨V5.heap.size + 1, 0, none⟩) vb.length vb.length] 171)))
                      have hpx : (V2.alloc (.cells #[.slice (some ⟨V5.heap.size, 0, none⟩) kb.length kb.length, .slice (some ⟨V5.heap.size + 1, 0, none⟩) vb.length vb.length] 171)).heap[V5.heap.size + 2]? = some (.cells #[.slice (some ⟨V5.heap.size, 0, none⟩) kb.length kb.length, .slice (some ⟨V5.heap.size + 1, 0, none⟩) vb.length vb.length] 171 (0, 0)) := by rw [← hs2]; exact heap_alloc_at _ _
                      have HK3 := hide (BytesAt.below HK2.out ((Below.refl _ _).alloc (Nat.le_refl _) (.cells #[.slice (some ⟨V5.heap.size, 0, none⟩) kb.length kb.length, .slice (some ⟨V5.heap.size + 1, 0, none⟩) vb.length vb.length] 171)))
                      have HV3 := hide (BytesAt.below HV2.out ((Below.refl _ _).alloc (Nat.le_refl _) (.cells #[.slice (some ⟨V5.heap.size, 0, none⟩) kb.length kb.length, .slice (some ⟨V5.heap.size + 1, 0, none⟩) vb.length vb.length] 171)))
                      have hs3 : (V2.alloc (.cells #[.slice (some ⟨V5.heap.size, 0, none⟩) kb.length kb.length, .slice (some ⟨V5.heap.size + 1, 0, none⟩) vb.length vb.length] 171)).heap.size = V5.heap.size + 3 := by simp [hs2]
                      have HY3 := hide hy3
                      clear hy3
                      generalize (World.alloc V2 _) = V3 at *
                      have hlen9 : (zs1.take p ++ zs1.drop (p + 1)).length ≤ 10000000 := by have := hlen5; omega
                      have hbV := HM3.out.baseS
                      have hSV3 := blk_lt HM3.out.top
                      have HPX : Hid (rng V3 (V5.heap.size + 2) 0 2 = some (zCs (((some ⟨V5.heap.size, 0, none⟩, kb.length, kb.length), (some ⟨V5.heap.size + 1, 0, none⟩, vb.length, vb.length)), (kb, vb)))) := rng_whole hpx
                      clear hpx
                      refine mixT_one (k := 13) (by kernel_rfl) rfl ?_
                      refine wpList_app1 (α := ZP) rfl _ _ 129 rfl base 171 zCs Tryz.underlying129 Tryz.info171 rfl (by decide) zCs_size zCs_one (.slice a2 m2 c2) (zs1.take p ++ zs1.drop (p + 1)) rfl HM3.out.own (V5.heap.size + 2) rfl (((some ⟨V5.heap.size, 0, none⟩, kb.length, kb.length), (some ⟨V5.heap.size + 1, 0, none⟩, vb.length, vb.length)), (kb, vb)) HPX.out (by omega) (by unfold maxLen; omega) (by omega) ?_
                      intro v4 w4 hown4 hsame4 hbel4 hat4
                      refine ⟨Or.inl (by kernel_rfl), ?_⟩
                      obtain ⟨a4, m4, c4, ef4⟩ := hown4.form3
                      subst ef4
                      have hSc := (hsame4 S ⟨hSV3, fun h9 => (HM3.out.sep S h9).1 rfl⟩).trans HM3.out.top
                      obtain ⟨z0, -, -, -, zf, hSz⟩ := cell_four hSc
                      have HFIN : Hid (ApS w (w4.setCell ⟨S, 0, none⟩ (.slice a4 m4 c4)) S base pv A (applyW ps (ws.take (q + 1))) false (off + 1) L2 (N + (q + 1))) := by
                        have hA2 : ∀ b, (A1 b ∨ (V5.heap.size ≤ b ∧ b < V5.heap.size + 2)) → b < V3.heap.size ∧ b ≠ S ∧ (Value.slice a2 m2 c2).ownBlock ≠ some b := fun b hb => by
                          rcases hb with hb | hb
                          · exact ⟨HM3.out.lt b hb, fun h9 => HM3.out.out (h9 ▸ hb), fun h9 => (HM3.out.sep b h9).2 hb⟩
                          · have hSV := blk_lt HM5.out.top
                            exact ⟨by omega, fun h9 => by omega, fun h9 => by have := (HM5.out.own.block b h9).2; omega⟩
                        have hzz : Zip V3 (fun b => A1 b ∨ (V5.heap.size ≤ b ∧ b < V5.heap.size + 2)) ((zs1.take p ++ zs1.drop (p + 1)) ++ [(((some ⟨V5.heap.size, 0, none⟩, kb.length, kb.length), (some ⟨V5.heap.size + 1, 0, none⟩, vb.length, vb.length)), (kb, vb))]) := by
                          intro z hz
                          rcases List.mem_append.1 hz with hz | hz
                          · exact ⟨(HM3.out.zip z hz).1.mono (Same.refl _ _) (fun _ h9 => Or.inl h9), (HM3.out.zip z hz).2.mono (Same.refl _ _) (fun _ h9 => Or.inl h9)⟩
                          · rw [List.mem_singleton.1 hz]
                            exact ⟨HK3.out.mono (Same.refl _ _) (fun _ h9 => Or.inr h9), HV3.out.mono (Same.refl _ _) (fun _ h9 => Or.inr h9)⟩
                        have hput := HM3.out.put hown4 hsame4 hbel4 hat4 hzz hA2
                        have hSV := blk_lt HM5.out.top
                        have hstp : StStep V5 (w4.setCell ⟨S, 0, none⟩ (.slice a4 m4 c4)) S base (.slice a2 m2 c2) (.slice a4 m4 c4) A1 (fun b => A1 b ∨ (V5.heap.size ≤ b ∧ b < V5.heap.size + 2)) :=
                          ⟨fun b h1 h2 h3 => (Below.heap_setCell _ _ _ _ h2).trans ((hsame4 b ⟨by omega, h3⟩).trans (HY3.out.block b h1)), (HY3.out.mono (by omega)).trans (hbel4.setCell (p := ⟨S, 0, none⟩) hbV _), hat4.imp id (fun h9 b hb' => by rw [h9] at hb'; injection hb' with hb'; omega), fun b hb => hb.elim Or.inl (fun h9 => Or.inr h9.1)⟩
                        exact ⟨⟨_, _, _, hput, HS5.out.trans hstp, by rw [HTK.out, List.map_append]; simp only [putW]; rw [← HP1.out, ← rmZ_map, HRM.out]; rfl, by have := hlen5; simp only [List.length_append, List.length_cons, List.length_nil] at *; omega⟩⟩
                      clear hown4 hsame4 hbel4 hat4 hSc
                      refine mixT_one (k := 14) (by kernel_rfl) rfl ?_
                      go_wp2
                      (first | refine ⟨Or.inr (fun h => h), ?_⟩ | skip)
                      refine mixT_one (k := 15) (by kernel_rfl) rfl ?_
                      go_wp2
                      (first | refine ⟨Or.inr (fun h => h), ?_⟩ | skip)
                      refine mixT_one (k := 16) (by kernel_rfl) rfl ?_
                      go_wp2
                      refine ⟨Or.inl (by kernel_rfl), ?_⟩
                      refine mixT_nil (by kernel_rfl) ?_
                      go_wp2
                      go_roundg (n - (q + 1))
                      case measure => omega
                      case rel => exact ⟨q + 1, by omega, rfl, by go_num, HFIN⟩
                  · have hd := decide_eq_false hkq
                    have HN2 := hide (HNX.out hkq)
                    clear hkq
                    go_wp2_with (go_at_call 209; refine (same_calls _ _ _ _ _ xb kb HKX.out HKW.out).mono ?_; rintro e w3 ⟨rfl, k3, rfl⟩; rw [hd])
                    go_roundg (m1 - (p + 1))
                    case measure => omega
                    case rel => exact ⟨p + 1, by omega, rfl, by go_num, below_drewN HBXA.out k3, HN2⟩
                · have HRM : Hid (rmZ zs1 kb = zs1) := rmZ_miss (fun j hj => HNO.out j (by have := HML.out; omega) hj)
                  go_upto_region 17 with fail
                  cases dl with
                  | true =>
                    have hfin : ApS w wr S base pv A (applyW ps (ws.take (q + 1))) false (off + 1) L2 (N + (q + 1)) := ⟨⟨_, A1, zs1, HMX.out, HSX.out, by rw [HTK.out]; simp only [putW, if_true, List.append_nil]; rw [← HP1.out, ← rmZ_map, HRM.out], by have := hlen1; omega⟩⟩
                    have HFIN := hide hfin
                    clear hfin
                    go_wp2
                    go_roundg (n - (q + 1))
                    case measure => omega
                    case rel => exact ⟨q + 1, by omega, rfl, by go_num, HFIN⟩
                  | false =>
                    go_upto_region 18 with fail
                    have HKV : Hid (BytesAt wr (fun b => okw b ∧ b < w.heap.size) (.slice ka kn kc) kb) := HKB.out _ _ _ HSX.out
                    have HVV : Hid (BytesAt wr (fun b => okw b ∧ b < w.heap.size) (.slice va vn vc) vb) := HVB.out _ _ _ HSX.out
                    refine wp_region_mixT (wr.heap.size) [4, 6, 9] (by kernel_rfl) ?_
                    refine mixT_slots [0, 1, 2, 3, 5, 8] (fuel := 11) rfl (by kernel_rfl) (by kernel_rfl) (fun d _ _ _ _ h => by cases d <;> exact h) ?_
                    simp only [opersAt, List.getElem?_toArray, List.getElem?_cons_zero, List.getElem?_cons_succ]
                    repeat (go_big_quiet_step (fail))
                    refine wpQuiet_nil ?_
                    refine mixT_reads [4, 6, 9] (fuel := 8) rfl (by kernel_rfl) (by decide) (by kernel_rfl) (fun d _ _ _ _ h => by cases d <;> exact h) (ext_drew _ _) ?_
                    simp only [opersAt, List.getElem?_toArray, List.getElem?_cons_zero, List.getElem?_cons_succ]
                    repeat (go_big_quiet_step (fail))
                    refine wpQuiet_nil ?_
                    refine mixT_one (k := 7) (by kernel_rfl) rfl ?_
                    go_wp2_with (go_at_call 210; refine (clone_calls' wr.drew _ _ kb (RArr.below HKV.out (Below.refl _ _).drew)).mono ?_; rintro e y1 ⟨rfl, rfl⟩)
                    have hy1 : Below wr.heap.size wr (cloneW wr.drew kb) := ((Below.refl _ _).drew).trans (clone_below wr.drew kb)
                    have hs1 : (cloneW wr.drew kb).heap.size = wr.heap.size + 1 := by simp [cloneW]
                    refine ⟨Or.inr (fun _ => ⟨⟨_, hy1⟩, rfl⟩), ?_⟩
                    refine mixT_one (k := 10) (by kernel_rfl) rfl ?_
                    go_wp2_with (go_at_call 210; refine (clone_calls' _ _ _ vb (RArr.below HVV.out hy1)).mono ?_; rintro e y2 ⟨rfl, rfl⟩)
                    have hy2 : Below wr.heap.size wr (cloneW (cloneW wr.drew kb) vb) := hy1.trans ((clone_below _ _).mono (by omega))
                    have hs2 : (cloneW (cloneW wr.drew kb) vb).heap.size = wr.heap.size + 2 := by simp [cloneW]
                    refine ⟨Or.inr (fun _ => ⟨⟨_, hy2⟩, rfl⟩), ?_⟩
                    have HK2 : Hid (BytesAt (cloneW (cloneW wr.drew kb) vb) (fun b => wr.heap.size ≤ b ∧ b < wr.heap.size + 2) (.slice (some ⟨wr.heap.size, 0, none⟩) kb.length kb.length) kb) := (RArr.lt (BytesAt.below (clone_bytes wr.drew kb (BytesAt.len HKV.out)) (clone_below _ _))).mono (Same.refl _ _) (fun b hb => ⟨hb.1, by have := hb.2; rw [hs2] at this; exact this⟩)
                    have HV2 : Hid (BytesAt (cloneW (cloneW wr.drew kb) vb) (fun b => wr.heap.size ≤ b ∧ b < wr.heap.size + 2) (.slice (some ⟨wr.heap.size + 1, 0, none⟩) vb.length vb.length) vb) := by
                      have h9 := RArr.lt (clone_bytes (cloneW wr.drew kb) vb (BytesAt.len HVV.out))
                      simp only [cloneV, hs1, hs2] at h9
                      exact h9.mono (Same.refl _ _) (fun b hb => ⟨by have h8 : wr.heap.size + 1 ≤ b := hb.1; show wr.heap.size ≤ b; omega, hb.2⟩)
                    (first | simp only [hs1] | skip)
                    generalize (cloneW (cloneW wr.drew kb) vb) = V2 at *
                    have HM2 := hide (HMX.out.below hy2)
                    have HY2 := hide hy2
                    clear hy1 hs1 hy2 HKV HVV
                    refine mixT_slots [11] (fuel := 5) rfl (by kernel_rfl) (by kernel_rfl) (fun d _ _ _ _ h => by cases d <;> exact h) ?_
                    simp only [opersAt, List.getElem?_toArray, List.getElem?_cons_zero, List.getElem?_cons_succ]
                    repeat (go_big_quiet_step (fail))
                    refine wpQuiet_nil ?_
                    refine mixT_one (k := 12) (by kernel_rfl) rfl ?_
                    go_wp2
                    have hy3 : Below wr.heap.size wr (V2.alloc (.cells #[.slice (some ⟨wr.heap.size, 0, none⟩) kb.length kb.length, .slice (some ⟨wr.heap.size + 1, 0, none⟩) vb.length vb.length] 171)) := HY2.out.alloc HY2.out.size _
                    refine ⟨Or.inr (fun _ => ⟨⟨_, hy3⟩, rfl⟩), ?_⟩
                    have HM3 := hide (HM2.out.below ((Below.refl _ _).alloc (Nat.le_refl _) (.cells #[.slice (some ⟨wr.heap.size, 0, none⟩) kb.length kb.length, .slice (some ⟨wr.heap.size + 1, 0, none⟩) vb.length vb.length] 171)))
                    have hpx : (V2.alloc (.cells #[.slice (some ⟨wr.heap.size, 0, none⟩) kb.length kb.length, .slice (some ⟨wr.heap.size + 1, 0, none⟩) vb.length vb.length] 171)).heap[wr.heap.size + 2]? = some (.cells #[.slice (some ⟨wr.heap.size, 0, none⟩) kb.length kb.length, .slice (some ⟨wr.heap.size + 1, 0, none⟩) vb.length vb.length] 171 (0, 0)) := by rw [← hs2]; exact heap_alloc_at _ _
                    have HK3 := hide (BytesAt.below HK2.out ((Below.refl _ _).alloc (Nat.le_refl _) (.cells #[.slice (some ⟨wr.heap.size, 0, none⟩) kb.length kb.length, .slice (some ⟨wr.heap.size + 1, 0, none⟩) vb.length vb.length] 171)))
                    have HV3 := hide (BytesAt.below HV2.out ((Below.refl _ _).alloc (Nat.le_refl _) (.cells #[.slice (some ⟨wr.heap.size, 0, none⟩) kb.length kb.length, .slice (some ⟨wr.heap.size + 1, 0, none⟩) vb.length vb.length] 171)))
                    have hs3 : (V2.alloc (.cells #[.slice (some ⟨wr.heap.size, 0, none⟩) kb.length kb.length, .slice (some ⟨wr.heap.size + 1, 0, none⟩) vb.length vb.length] 171)).heap.size = wr.heap.size + 3 := by simp [hs2]
                    have HY3 := hide hy3
                    clear hy3
                    generalize (World.alloc V2 _) = V3 at *
                    have hlen9 : (zs1).length ≤ 10000000 := by have := hlen1; omega
                    have hbV := HM3.out.baseS
                    have hSV3 := blk_lt HM3.out.top
                    have HPX : Hid (rng V3 (wr.heap.size + 2) 0 2 = some (zCs (((some ⟨wr.heap.size, 0, none⟩, kb.length, kb.length), (some ⟨wr.heap.size + 1, 0, none⟩, vb.length, vb.length)), (kb, vb)))) := rng_whole hpx
                    clear hpx
                    refine mixT_one (k := 13) (by kernel_rfl) rfl ?_
                    refine wpList_app1 (α := ZP) rfl _ _ 129 rfl base 171 zCs Tryz.underlying129 Tryz.info171 rfl (by decide) zCs_size zCs_one (.slice a1 m1 c1) (zs1) rfl HM3.out.own (wr.heap.size + 2) rfl (((some ⟨wr.heap.size, 0, none⟩, kb.length, kb.length), (some ⟨wr.heap.size + 1, 0, none⟩, vb.length, vb.length)), (kb, vb)) HPX.out (by omega) (by unfold maxLen; omega) (by omega) ?_
                    intro v4 w4 hown4 hsame4 hbel4 hat4
                    refine ⟨Or.inl (by kernel_rfl), ?_⟩
                    obtain ⟨a4, m4, c4, ef4⟩ := hown4.form3
                    subst ef4
                    have hSc := (hsame4 S ⟨hSV3, fun h9 => (HM3.out.sep S h9).1 rfl⟩).trans HM3.out.top
                    obtain ⟨z0, -, -, -, zf, hSz⟩ := cell_four hSc
                    have HFIN : Hid (ApS w (w4.setCell ⟨S, 0, none⟩ (.slice a4 m4 c4)) S base pv A (applyW ps (ws.take (q + 1))) false (off + 1) L2 (N + (q + 1))) := by
                      have hA2 : ∀ b, (A1 b ∨ (wr.heap.size ≤ b ∧ b < wr.heap.size + 2)) → b < V3.heap.size ∧ b ≠ S ∧ (Value.slice a1 m1 c1).ownBlock ≠ some b := fun b hb => by
                        rcases hb with hb | hb
                        · exact ⟨HM3.out.lt b hb, fun h9 => HM3.out.out (h9 ▸ hb), fun h9 => (HM3.out.sep b h9).2 hb⟩
                        · have hSV := blk_lt HMX.out.top
                          exact ⟨by omega, fun h9 => by omega, fun h9 => by have := (HMX.out.own.block b h9).2; omega⟩
                      have hzz : Zip V3 (fun b => A1 b ∨ (wr.heap.size ≤ b ∧ b < wr.heap.size + 2)) ((zs1) ++ [(((some ⟨wr.heap.size, 0, none⟩, kb.length, kb.length), (some ⟨wr.heap.size + 1, 0, none⟩, vb.length, vb.length)), (kb, vb))]) := by
                        intro z hz
                        rcases List.mem_append.1 hz with hz | hz
                        · exact ⟨(HM3.out.zip z hz).1.mono (Same.refl _ _) (fun _ h9 => Or.inl h9), (HM3.out.zip z hz).2.mono (Same.refl _ _) (fun _ h9 => Or.inl h9)⟩
                        · rw [List.mem_singleton.1 hz]
                          exact ⟨HK3.out.mono (Same.refl _ _) (fun _ h9 => Or.inr h9), HV3.out.mono (Same.refl _ _) (fun _ h9 => Or.inr h9)⟩
                      have hput := HM3.out.put hown4 hsame4 hbel4 hat4 hzz hA2
                      have hSV := blk_lt HMX.out.top
                      have hstp : StStep wr (w4.setCell ⟨S, 0, none⟩ (.slice a4 m4 c4)) S base (.slice a1 m1 c1) (.slice a4 m4 c4) A1 (fun b => A1 b ∨ (wr.heap.size ≤ b ∧ b < wr.heap.size + 2)) :=
                        ⟨fun b h1 h2 h3 => (Below.heap_setCell _ _ _ _ h2).trans ((hsame4 b ⟨by omega, h3⟩).trans (HY3.out.block b h1)), (HY3.out.mono (by omega)).trans (hbel4.setCell (p := ⟨S, 0, none⟩) hbV _), hat4.imp id (fun h9 b hb' => by rw [h9] at hb'; injection hb' with hb'; omega), fun b hb => hb.elim Or.inl (fun h9 => Or.inr h9.1)⟩
                      exact ⟨⟨_, _, _, hput, HSX.out.trans hstp, by rw [HTK.out, List.map_append]; simp only [putW]; rw [← HP1.out, ← rmZ_map, HRM.out]; rfl, by have := hlen1; simp only [List.length_append, List.length_cons, List.length_nil] at *; omega⟩⟩
                    clear hown4 hsame4 hbel4 hat4 hSc
                    refine mixT_one (k := 14) (by kernel_rfl) rfl ?_
                    go_wp2
                    (first | refine ⟨Or.inr (fun h => h), ?_⟩ | skip)
                    refine mixT_one (k := 15) (by kernel_rfl) rfl ?_
                    go_wp2
                    (first | refine ⟨Or.inr (fun h => h), ?_⟩ | skip)
                    refine mixT_one (k := 16) (by kernel_rfl) rfl ?_
                    go_wp2
                    refine ⟨Or.inl (by kernel_rfl), ?_⟩
                    refine mixT_nil (by kernel_rfl) ?_
                    go_wp2
                    go_roundg (n - (q + 1))
                    case measure => omega
                    case rel => exact ⟨q + 1, by omega, rfl, by go_num, HFIN⟩
            · have hE : ws.take q = ws := List.take_of_length_le (by have := HNWS.out; omega)
              rw [hE] at HQ
              go_wp2
              go_ret
              exact ap_done HZs HL2 (by rw [← HZs.out]; have h9 := of_decide_eq_false t1; simp; omega) HQ.out

end Go.Proofs.Qxb6500666aGreatDoor
