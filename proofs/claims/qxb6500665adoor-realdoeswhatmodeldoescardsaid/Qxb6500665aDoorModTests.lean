/- tests of the model, walked. -/
import Derived.Test.Qxb6500665aDoorModAsc
namespace Go.Proofs.Qxb6500665aDoor
open Go.RowKit Go.Proofs.Qxb6500665aDoor.Cal

def allK : Int → Bool := fun _ => true
def mtsT (pan : Int → Option (List Int)) (vid : Int) : List Visit → Int × List Int
  | [] => (19, [])
  | v :: r => if v.id = vid then (0, ascL allK ((gath pan v.panels).getD [])) else mtsT pan vid r
def mtsR (T : Tab) (vid m : Int) : Int × List Int := if (verAtR T m).1 = 0 then mtsT T.pan vid (verAtR T m).2.2.2 else ((verAtR T m).1, [])
theorem mtsT_drop {pan : Int → Option (List Int)} {vid : Int} {vs : List Visit} {q : Nat} (h : q < vs.length) : mtsT pan vid (vs.drop q) = if vs[q].id = vid then (0, ascL allK ((gath pan vs[q].panels).getD [])) else mtsT pan vid (vs.drop (q + 1)) := by
  rw [List.drop_eq_getElem_cons h, mtsT]

def MtPost (w w' : World) (e : Ending) (r : Int × List Int) : Prop := ∃ lv, e = .returned (.tuple #[lv, .int .u8 r.1]) ∧ OwnR w' w.heap.size 29 1 u32Cs lv r.2 ∧ Below w.heap.size w w'
theorem ret_mt {w w' : World} {e : Ending} {r r' : Int × List Int} (h : Hid (r = r')) (k : MtPost w w' e r') : MtPost w w' e r := by rw [h.out]; exact k

set_option maxRecDepth 100000 in
theorem mtests1_calls (x : Int) (w : World) : Calls Tryd.prog 75 #[.int .u32 x] w fun e w' => e = .returned (.bool (allK x)) ∧ ∃ d, w' = w.drewN d := by
  go_enter Tryd.func75, Tryd.ntmps75
  go_wp2
  go_ret
  exact ⟨rfl, 0, rfl⟩

attribute [local go_sem ↓] exec_stVersion
attribute [local go_sem] run_stVersion ones_iis whole_alloc_lt whole_alloc_at whole_drew whole_setCell_other whole_setRow_other setRow_alloc_at setRow_alloc_lt

set_option maxRecDepth 100000 in
set_option maxHeartbeats 4000000 in
theorem tests_m (w : World) (M base N a p s u : Nat) (v : Value) (C : Nat → Prop) (T : Tab) (full : Bool) (vid m : Int) (h : MAt w M base N a p s u v C T full) (hasc : AscV T.vers) (hvl : T.vers.length ≤ 1000000)
    (hkn : ∀ x ∈ T.vers, ∀ y ∈ x.2, ∀ p ∈ y.panels, U32 p ∧ (T.pan p).isSome = true) (hpl : ∀ x ∈ T.vers, ∀ y ∈ x.2, y.panels.length ≤ 6) (hlen : ∀ x ∈ T.vers, x.2.length ≤ 12) (hpan : ∀ k ids, T.pan k = some ids → ids.length ≤ 8) :
    Calls Tryd.prog 41 #[.pointer (some ⟨M, 0, none⟩), .int .u32 vid, .int .i64 m] w fun e w' => MtPost w w' e (mtsR T vid m) := by
  obtain ⟨R, hR⟩ : ∃ R, R = mtsR T vid m := ⟨_, rfl⟩
  rw [← hR]
  have HE := hide hR
  rw [mtsR] at HE
  have HM := hide h
  have HP1 := hide (verAtR_vis (T := T) (m := m) (fun l => ∀ y ∈ l, ∀ p ∈ y.panels, U32 p ∧ (T.pan p).isSome = true) (by simp) hkn)
  have HP2 := hide (verAtR_vis (T := T) (m := m) (fun l => ∀ y ∈ l, y.panels.length ≤ 6) (by simp) hpl)
  have HP4 := hide (verAtR_vis (T := T) (m := m) (fun l => l.length ≤ 12) (by simp) hlen)
  have HPAN := hide hpan
  have HIF := hide (inForce_m w M base N a p s u v C T full m h hasc hvl)
  have hMl := h.hlt M (Or.inl (by simp))
  obtain ⟨VR, hVR⟩ : ∃ VR, VR = verAtR T m := ⟨_, rfl⟩
  rw [← hVR] at HIF HE HP1 HP2 HP4
  clear hVR h hasc hkn hpl hlen hpan hR
  obtain ⟨r0, rn, re, rv⟩ := VR
  go_enter Tryd.func41, Tryd.ntmps41
  go_upto_region 2 with (go_at_call 40; refine HIF.out.mono ?_; rintro e w1 ⟨⟨sa, sn, sc⟩, rfl, hvv, hb1⟩; simp only [sv])
  obtain ⟨w2, hw2⟩ : ∃ w2, w2 = w1.alloc (.cells #[.int .u32 rn, .int .i64 re, .slice sa sn sc] 41) := ⟨_, rfl⟩
  have hb12 : Below w1.heap.size w1 w2 := by rw [hw2]; exact (Below.refl _ _).alloc (Nat.le_refl _) _
  have hV2 : w2.heap[w1.heap.size]? = some (.cells #[.int .u32 rn, .int .i64 re, .slice sa sn sc] 41 (0, 0)) := by rw [hw2]; exact heap_alloc_at _ _
  have hs2 : w1.heap.size < w2.heap.size := by rw [hw2]; simp
  have hs1 := hb1.size
  rw [← hw2]
  have hb2 : Below w.heap.size w w2 := hb1.trans (hb12.mono hs1)
  have hvis : VisitsAt w2 (fun b => b < base ∨ C b) (.slice sa sn sc) rv := hvv.below hb12
  obtain ⟨v0, v1, v2, -⟩ := cell_thr hV2
  have HB2 := hide hb2
  have hw02 := hb2.size
  clear hw2 hb12 hV2 hb1 hvv HIF hb2
  by_cases hr0 : r0 = 0
  case neg =>
    have HE2 : Hid (R = (r0, [])) := by show _ = _; rw [HE.out]; exact if_neg hr0
    have t1 : (r0 == 0) = false := by simp [hr0]
    have t2 : (r0 != 0) = true := by simp [hr0]
    clear hr0
    go_wp2
    go_ret2
    exact ret_mt HE2 ⟨_, rfl, OwnR.nil _ _ _ _ _, HB2.out⟩
  subst hr0
  have HE2 : Hid (R = mtsT T.pan vid (rv.drop 0)) := by show _ = _; rw [HE.out]; exact if_pos rfl
  clear HE
  obtain ⟨zs, hRR, hzm, hzp⟩ := hvis.lt
  obtain ⟨za, zcap, b, off, hv0, hl, hm, hr, ha, hc⟩ := hRR
  injection hv0 with e1 hn e3
  subst e1 e3
  rw [← hn] at hl hr ha
  have hi := run_indexAt_arr (P := Tryd.prog) (n := sn) (cap := sc) Tryd.underlying32 Tryd.size63 (fun h => (ha h).1)
  have HB : Hid (0 < sn → b < w2.heap.size) := fun h => (ha h).2.2
  have HC := hide hc
  have HN := hide hn
  have HZM := hide hzm
  have HZP := hide hzp
  have hn12 : sn ≤ 12 := by have := HP4.out; rw [← hzm] at this; simp at this; omega
  clear ha hc hn hzm hvis HP4 hm hzp
  go_upto_region 5 with fail
  go_loopg [27] sn (fun g x27 wr => ∃ q : Nat, q ≤ sn ∧ g = sn - q ∧ x27 = .int .i64 q ∧ Hid (Below w2.heap.size w2 wr) ∧ Hid (R = mtsT T.pan vid (rv.drop q)))
  case atStart => exact ⟨0, by omega, by omega, rfl, Below.refl _ _, HE2⟩
  clear HE2
  case round =>
    obtain ⟨q, hq, rfl, rfl, HBR, HRQ⟩ := hrel
    have hrl : rv.length = sn := by rw [← HZM.out, List.length_map]; exact HN.out.symm
    have hsr := HBR.out.size
    by_cases hlt : q < sn
    · have h1 : q < zs.length := by rw [← HN.out]; exact hlt
      have h2 : q < rv.length := by omega
      have hvq : rv[q] = zs[q].1 := by simp [← HZM.out]
      have hbb := HB.out (by omega)
      have hrg := HC.out q h1
      rw [← rng_of_block (HBR.out.block b hbb)] at hrg
      have hbr : b < wr.heap.size := by omega
      have hU := HZP.out zs[q] (List.getElem_mem h1)
      have hO := HP1.out rv[q] (List.getElem_mem h2)
      have hPl := HP2.out rv[q] (List.getElem_mem h2)
      have hRs := HRQ.out.trans (mtsT_drop h2)
      rw [hvq] at hRs hO hPl
      generalize zs[q] = z at *
      obtain ⟨⟨xid, xta, xea, xla, xpa⟩, ⟨pa, pn, pc⟩⟩ := z
      have c0 := (rng_cell hrg).2 0 (by decide)
      have c1 := (rng_cell hrg).2 1 (by decide)
      have c2 := (rng_cell hrg).2 2 (by decide)
      have c3 := (rng_cell hrg).2 3 (by decide)
      have c4 := (rng_cell hrg).2 4 (by decide)
      simp only [vzCs, sv, List.getElem?_toArray, List.getElem?_cons_zero, List.getElem?_cons_succ, Nat.add_zero] at c0 c1 c2 c3 c4
      simp only at hRs hO hPl
      clear hrg hvq h1 h2
      by_cases hid : xid = vid
      · rw [if_pos hid] at hRs
        have HRS := hide hRs
        have t0 : (xid == vid) = true := by simp [hid]
        have hPL : xpa.length = pn := by obtain ⟨_, _, h⟩ := U32sAt.form hU; simp only [sv] at h; injection h with _ h _; exact h.symm
        obtain ⟨pa', pcap', pb, poff, hpv, rr1, rr2, rr3, rr4, pha, phc⟩ := U32sAt.parts hU pn hPL
        simp only [sv] at hpv
        injection hpv with hv1 hv2 hv3
        subst hv1 hv3
        have hpi := run_indexAt_arr (P := Tryd.prog) (n := pn) (cap := pc) Tryd.underlying31 Tryd.size29 (fun h => (pha h).1)
        have HPB : Hid (0 < pn → pb < w2.heap.size) := fun h => (pha h).2.1.2
        have HPC := hide phc
        have HPN := hide hPL
        have HO := hide hO
        have hpn6 : pn ≤ 6 := by omega
        obtain ⟨w5, hw5⟩ : ∃ w5, w5 = wr.alloc (.cells #[.int .u32 xid, .int .i64 xta, .int .i64 xea, .int .i64 xla, .slice pa pn pc] 63) := ⟨_, rfl⟩
        have hb5 : Below w2.heap.size w2 w5 := by rw [hw5]; exact HBR.out.alloc hsr _
        have hs5 := hb5.size
        have HB5 := hide hb5
        have HM5 := hide (HM.out.ext (HB2.out.trans (hb5.mono hw02)))
        clear hU pha phc hPL hO hRs hid HRQ hPl hv2 hb5
        go_upto_region 10 with fail
        rw [← hw5]
        clear hw5 c0 c1 c2 c3 c4
        go_loopg [12, 38] pn (fun g x12 x38 wx => ∃ (k : Nat) (acc : List Int), k ≤ pn ∧ g = pn - k ∧ x38 = .int .i64 k ∧ Hid (Below w5.heap.size w5 wx) ∧ Hid (OwnR wx w5.heap.size 29 1 u32Cs x12 acc) ∧ acc.length ≤ 8 * k ∧ Hid (gath T.pan (xpa.take k) = some acc))
        case atStart => exact ⟨0, [], by omega, by omega, rfl, Below.refl _ _, OwnR.nil _ _ _ _ _, by simp, rfl⟩
        case round =>
          obtain ⟨k, acc, hk, rfl, rfl, HB6, HO6, hal, HGA⟩ := hrel
          have hs6 := HB6.out.size
          have HMr := hide (HM5.out.ext HB6.out)
          obtain ⟨d0, d1, -, -, -, -, -, hMr⟩ := cell_six HMr.out.top
          by_cases hlt2 : k < pn
          · have hpk : k < xpa.length := by rw [HPN.out]; exact hlt2
            have e0 := HPC.out k hpk
            have hpbl := HPB.out (by omega)
            have e1 : wr.cell? ⟨pb, poff + k, none⟩ = some (.int .u32 xpa[k]) := by
              rw [← e0, HB6.out.cell (p := ⟨pb, poff + k, none⟩) (by show pb < _; omega), HB5.out.cell (p := ⟨pb, poff + k, none⟩) hpbl]
            obtain ⟨hxr, hxs⟩ := HO.out xpa[k] (List.getElem_mem hpk)
            obtain ⟨ids, hids⟩ := Option.isSome_iff_exists.1 hxs
            have HST := hide (gath_take hpk HGA.out hids)
            generalize xpa[k] = x at *
            obtain ⟨ja, jn, jc, hlk, hUj⟩ := pan_form HMr.out hxr
            have hlk2 := (hlk wr (Below.refl _ _)).2
            rw [hids] at hUj
            simp only [Option.getD_some] at hUj
            have hi8 := HPAN.out x ids hids
            have hjn : ids.length = jn := by obtain ⟨_, _, h⟩ := U32sAt.form hUj; injection h with _ h _; exact h.symm
            obtain ⟨ja', jc', jb, jo, hjv, s1, s2, s3, s4, jha, jhc⟩ := U32sAt.parts hUj jn hjn
            cases hjv
            have hsrc : 0 < jn → ∃ b' off', ja = some ⟨b', off', none⟩ ∧ ∀ i (hi : i < ids.length), rng wr b' (off' + i * 1) 1 = some (u32Cs ids[i]) := fun hp => ⟨jb, jo, (jha hp).1, fun i hi => by
              rw [Nat.mul_one]
              exact rng_one (jhc i hi)⟩
            have HSRC := hide hsrc
            have HJN : Hid (jn = ids.length) := hjn.symm
            have hj8 : jn ≤ 8 := by omega
            clear hlk hUj hxs e0 jha jhc hsrc hids hjn hi8
            go_wp2_with (at_builtin; refine wpList_appN (α := Int) rfl _ _ 31 rfl w5.heap.size 29 u32Cs Tryd.underlying31 Tryd.info29 rfl (by decide) u32Cs_size u32Cs_one _ acc rfl HO6.out ja jn jc rfl ids HJN.out s4 HSRC.out (by omega) (by unfold maxLen; omega) hs6 ?_; intro v8 w8 hown8 hsame8 hbel8 hat8)
            go_roundg (pn - (k + 1))
            case measure => omega
            case rel => exact ⟨k + 1, acc ++ ids, by omega, rfl, by go_num, HB6.out.trans hbel8, hown8, by rw [List.length_append, ← HJN.out]; omega, HST⟩
          · have hgf : gath T.pan xpa = some acc := by
              have := HGA.out
              rwa [List.take_of_length_le (by rw [HPN.out]; omega)] at this
            have HRF : Hid (R = (0, ascL allK acc)) := by show _ = _; rw [HRS.out, hgf]; rfl
            obtain ⟨ca, cc, hcv⟩ := HO6.out.form
            subst hcv
            have HASC := hide (ascending_m wr 75 #[] allK acc ca acc.length cc _ (fun args w => by kernel_rfl) (fun W x _ _ => mtests1_calls x W) (HO6.out.rows u32Cs_size (by decide) (by omega)) (by omega))
            clear hgf
            go_wp2_with (go_at_call 42; refine HASC.out.mono ?_; rintro e w9 ⟨v9, rfl, hown9, hb9⟩)
            go_ret2
            have hbw : Below w.heap.size w wr := (HB2.out.trans (HB5.out.mono hw02)).trans (HB6.out.mono (by omega))
            exact ret_mt HRF ⟨_, rfl, hown9.base (by omega), hbw.trans (hb9.mono (by omega))⟩
      · rw [if_neg hid] at hRs
        have HRS := hide hRs
        have t0 : (xid == vid) = false := by simp [hid]
        clear hRs hid HRQ hO hPl hU
        go_wp2
        go_roundg (sn - (q + 1))
        case measure => omega
        case rel => exact ⟨q + 1, by omega, rfl, by go_num, HBR.out.alloc hsr _, HRS⟩
    · have HE : Hid (R = (19, [])) := by show _ = _; rw [HRQ.out, List.drop_eq_nil_of_le (by omega)]; rfl
      go_wp2
      go_ret2
      exact ret_mt HE ⟨_, rfl, OwnR.nil _ _ _ _ _, HB2.out.trans (HBR.out.mono hw02)⟩

end Go.Proofs.Qxb6500665aDoor
