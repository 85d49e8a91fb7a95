/- reconcile, walked. -/
import Derived.Test.Qxb6500666aGreatDoorFileB
import Derived.Test.Qxb6500666aGreatDoorDifferWalk
namespace Go.Proofs.Qxb6500666aGreatDoor
open Go.RowKit

def cumHdr : Hdr := ⟨67, 0, 0, 0, 0, 0, 0⟩
noncomputable def fromR (ps : List KV) (e : Int) : Except Int Hdr := if (e != 0) then hdrR ps e else .ok cumHdr
noncomputable def recR (ps : List KV) (e l : Int) : Except Int (List Diff) := match hdrR ps l with
  | .error c => .error c
  | .ok tt => match fromR ps e with
    | .error c => .error c
    | .ok from' => if (from'.kind != 67) then .error 26 else if (tt.kind != 67) then .error 26 else if decide (l ≤ e) then .error 16 else match rbR ps e with
      | none => .error 28
      | some b => match rbR ps l with
        | none => .error 28
        | some a => .ok (reconcile b a)

section
variable (ρ : Operand → Value) (dst : Option Tmp) (a : Operand) (ty : TypeId) (pos : String) (after : Array Edge) (guard : Option (Nat × Bool))
def bdHd1S (a : Value) : Sem Value := Instr.build 71 #[(0, a)]
theorem exec_bdHd1 : execOp ρ { dst, op := .build 71 #[(0, a)], type := ty, pos, after, guard } = (do pure (.value (← bdHd1S (ρ a)))) := by simp [execOp, bdHd1S]
end
theorem run_bdHd1 (w : World) : (bdHd1S (.int .u8 67)).run Tryz.prog w = .ok (.agg (hdrCs cumHdr)) w := by kernel_rfl

attribute [local go_sem] ext_const Ext.cell Ext.frozen Ext.rng Ext.whole
attribute [local go_sem ↓] exec_ldHd exec_stHd exec_bdHd1
attribute [local go_sem] run_ldHd run_stHd run_bdHd1 whole_alloc_lt whole_alloc_at whole_drew setRow_alloc_at setRow_alloc_lt rng_alloc_lt rng_alloc_at rng_drew rng_drewN rng_setRow_other whole_setRow_other

set_option maxRecDepth 100000 in
set_option maxHeartbeats 4000000 in
theorem recon_calls (w : World) (Y S LB : Nat) (A : Nat → Prop) (ps : List KV) (full : Bool) (ea la : Int) (hY : SysAt w Y S LB) (hS : StoreAt w S A ps full) (hps : PsOk ps) (hpl : ps.length ≤ 4000000) (he : U32 ea) (hl : U32 la) :
    Calls Tryz.prog 175 #[.pointer (some ⟨Y, 0, none⟩), .int .u32 ea, .int .u32 la] w fun e w' => OwnX w w' 166 5 diffCs e (recR ps ea la) := by
  obtain ⟨R, hR⟩ : ∃ R, R = recR ps ea la := ⟨_, rfl⟩
  rw [← hR]
  have HR := hide hR
  have hYl := blk_lt hY
  have HHD : Hid (∀ W s, Below w.heap.size w W → U32 s → Calls Tryz.prog 174 #[.pointer (some ⟨Y, 0, none⟩), .int .u32 s] W fun e w' => GetPost W w' e hdrCs ⟨0, 0, 0, 0, 0, 0, 0⟩ (hdrR ps s)) := fun W s hb hs => hdrR_calls W Y S LB A ps full s ((hb.block _ hYl).trans hY) (hS.below hb) hps hs
  have HCR : Hid (∀ W s, Below w.heap.size w W → U32 s → Calls Tryz.prog 226 #[.pointer (some ⟨Y, 0, none⟩), .int .u32 s] W fun e w' => OwnRes W w' 109 13 rowCs e 28 (rbR ps s)) := fun W s hb hs => cumRows_calls W Y S LB A ps full s ((hb.block _ hYl).trans hY) (hS.below hb) hps hpl hs
  clear hR hY hS
  have hov : ∀ x, ones (hdrCs x) 7 = true := fun _ => rfl
  go_enter Tryz.func175, Tryz.ntmps175
  cases hh : hdrR ps la with
  | error c =>
    have HE : Hid (R = .error c) := HR.out.trans (by simp [recR, hh])
    go_wp2_with (go_at_call 174; refine (HHD.out _ la (Below.refl _ _) hl).mono ?_; rintro e w1 ⟨hd1, hb1⟩; rw [hh] at hd1; have hd2 : e = .returned (.tuple #[.agg (hdrCs zeroHdr), .iface 63 (.int .u8 c)]) := hd1; subst hd2)
    go_ret2
    exact ownx_err HE (hb1.alloc hb1.size _)
  | ok tt =>
    go_upto_region 5 with (go_at_call 174; refine (HHD.out _ la (Below.refl _ _) hl).mono ?_; rintro e w1 ⟨hd1, hb1⟩; rw [hh] at hd1; have hd2 : e = .returned (.tuple #[.agg (hdrCs tt), .nilIface]) := hd1; subst hd2)
    have hz1 := hb1.size
    have hb2 : Below w.heap.size w ((w1.alloc (.cells (hdrCs tt) 71)).alloc (.cells (hdrCs cumHdr) 71)) := (hb1.alloc hz1 _).alloc (by simp; omega) _
    have hx0 : ((w1.alloc (.cells (hdrCs tt) 71)).alloc (.cells (hdrCs cumHdr) 71)).heap[w1.heap.size]? = some (.cells (hdrCs tt) 71 (0, 0)) := (Below.heap_alloc _ _ _ (by simp)).trans (heap_alloc_at _ _)
    have hx1 : ((w1.alloc (.cells (hdrCs tt) 71)).alloc (.cells (hdrCs cumHdr) 71)).heap[w1.heap.size + 1]? = some (.cells (hdrCs cumHdr) 71 (0, 0)) := box2 w1 _ _ _ _
    generalize (World.alloc (World.alloc w1 _) _) = V at *
    obtain ⟨K, hK⟩ : ∃ K, K = w1.heap.size := ⟨_, rfl⟩
    rw [← hK] at hx0 hx1 hz1 ⊢
    have HB2 := hide hb2
    have HX0 := hide hx0
    have HX1 := hide hx1
    clear hd1 hb1 hb2 hK
    have HRR : Hid (R = match fromR ps ea with
      | .error c => .error c
      | .ok from' => if (from'.kind != 67) then .error 26 else if (tt.kind != 67) then .error 26 else if decide (la ≤ ea) then .error 16 else match rbR ps ea with
        | none => .error 28
        | some b => match rbR ps la with
          | none => .error 28
          | some a => .ok (reconcile b a)) := HR.out.trans (by unfold recR; rw [hh])
    have w1x : whole V (K + 1) 7 = true := whole_blk hx1
    have l1 := blk_lt hx1
    have l0 := blk_lt hx0
    clear hx0 hx1 HR
    cases hfr : fromR ps ea with
    | error c =>
      have HE : Hid (R = .error c) := HRR.out.trans (by rw [hfr])
      have t0 : (ea != 0) = true := by
        unfold fromR at hfr
        cases t : (ea != 0) with
        | true => rfl
        | false => rw [t] at hfr; cases hfr
      have hh2 : hdrR ps ea = .error c := by unfold fromR at hfr; rw [t0] at hfr; exact hfr
      go_wp2_with (go_at_call 174; refine (HHD.out _ ea HB2.out he).mono ?_; rintro e w2 ⟨hd1, hb3⟩; rw [hh2] at hd1; have hd2 : e = .returned (.tuple #[.agg (hdrCs zeroHdr), .iface 63 (.int .u8 c)]) := hd1; subst hd2; have w2x : whole w2 (K + 1) 7 = true := whole_blk ((hb3.block _ l1).trans HX1.out); have l2 : K + 1 < w2.heap.size := Nat.lt_of_lt_of_le l1 hb3.size)
      go_ret2
      exact ownx_err HE ((HB2.out.trans (hb3.mono HB2.out.size)).trans (below_setRow' _ _ (by omega)))
    | ok fr =>
      have HRS : Hid (R = if (fr.kind != 67) then .error 26 else if (tt.kind != 67) then .error 26 else if decide (la ≤ ea) then .error 16 else match rbR ps ea with
        | none => .error 28
        | some b => match rbR ps la with
          | none => .error 28
          | some a => .ok (reconcile b a)) := HRR.out.trans (by rw [hfr])
      clear HRR
      go_upto_if 24 with fail
      go_cut [] (fun W => Hid (W.heap[K]? = some (.cells (hdrCs tt) 71 (0, 0))) ∧ Hid (W.heap[K + 1]? = some (.cells (hdrCs fr) 71 (0, 0))) ∧ Hid (Below w.heap.size w W))
      case first =>
        cases t0 : (ea != 0) with
        | true =>
          have hh2 : hdrR ps ea = .ok fr := by unfold fromR at hfr; rw [t0] at hfr; exact hfr
          go_wp2_with (go_at_call 174; refine (HHD.out _ ea HB2.out he).mono ?_; rintro e w2 ⟨hd1, hb3⟩; rw [hh2] at hd1; have hd2 : e = .returned (.tuple #[.agg (hdrCs fr), .nilIface]) := hd1; subst hd2; have w2x : whole w2 (K + 1) 7 = true := whole_blk ((hb3.block _ l1).trans HX1.out); have l2 : K + 1 < w2.heap.size := Nat.lt_of_lt_of_le l1 hb3.size)
          go_meet
          case rel => exact ⟨(setRow_other _ _ _ _ (by omega)).trans ((hb3.block _ l0).trans HX0.out), heap_setRow_at ((hb3.block _ l1).trans HX1.out), (HB2.out.trans (hb3.mono HB2.out.size)).trans (below_setRow' _ _ (by omega))⟩
        | false =>
          have hh2 : cumHdr = fr := by unfold fromR at hfr; rw [t0] at hfr; injection hfr
          subst hh2
          go_wp2
          go_meet
          case rel => exact ⟨HX0, HX1, HB2⟩
      case rest =>
        obtain ⟨HX2, HX3, HB3⟩ := hcut
        clear w1x l1 l0 HX0 HX1 HB2
        have c0 : wc.cell? ⟨K, 0, none⟩ = some (.int .u8 tt.kind) := by rw [World.cell?, HX2.out]; rfl
        have c1 : wc.cell? ⟨K + 1, 0, none⟩ = some (.int .u8 fr.kind) := by rw [World.cell?, HX3.out]; rfl
        have l0 := blk_lt HX2.out
        have l1 := blk_lt HX3.out
        have hz3 := HB3.out.size
        cases t1 : (fr.kind != 67) with
        | true =>
          have HF : Hid (R = .error 26) := HRS.out.trans (by rw [t1]; rfl)
          go_wp2
          go_ret2
          exact ownx_err HF HB3.out
        | false =>
          cases t2 : (tt.kind != 67) with
          | true =>
            have HF : Hid (R = .error 26) := HRS.out.trans (by rw [t1, t2]; rfl)
            go_wp2
            go_ret2
            exact ownx_err HF HB3.out
          | false =>
            cases t3 : decide (la ≤ ea) with
            | true =>
              have t3' := of_decide_eq_true t3
              have HF : Hid (R = .error 16) := HRS.out.trans (by rw [t1, t2, t3]; rfl)
              go_wp2
              go_ret2
              exact ownx_err HF HB3.out
            | false =>
              have t3' := of_decide_eq_false t3
              have HRT : Hid (R = match rbR ps ea with
                | none => .error 28
                | some b => match rbR ps la with
                  | none => .error 28
                  | some a => .ok (reconcile b a)) := HRS.out.trans (by rw [t1, t2, t3]; rfl)
              clear HRS
              cases h4 : rbR ps ea with
              | none =>
                have HF : Hid (R = .error 28) := HRT.out.trans (by rw [h4])
                go_wp2_with (go_at_call 226; refine (HCR.out _ ea HB3.out he).mono ?_; rintro e w4 hp; rw [h4] at hp; obtain ⟨rfl, hb4⟩ := hp; simp only [errV, show ¬ ((28 : Int) = 0) by decide, if_false])
                go_ret2
                exact ownx_err HF (HB3.out.trans (hb4.mono hz3))
              | some b =>
                have hbl := rbR_len hps hpl he h4
                go_upto_region 16 with (go_at_call 226; refine (HCR.out _ ea HB3.out he).mono ?_; rintro e w4 hp; rw [h4] at hp; obtain ⟨v4, rfl, ho4, hb4⟩ := hp)
                have hz4 := hb4.size
                have HB4 := hide (HB3.out.trans (hb4.mono hz3))
                have HO4 := hide ho4
                clear ho4 hb4 c0 c1 l0 l1
                cases h5 : rbR ps la with
                | none =>
                  have HF : Hid (R = .error 28) := HRT.out.trans (by rw [h4, h5])
                  go_wp2_with (go_at_call 226; refine (HCR.out _ la HB4.out hl).mono ?_; rintro e w5 hp; rw [h5] at hp; obtain ⟨rfl, hb5⟩ := hp; simp only [errV, show ¬ ((28 : Int) = 0) by decide, if_false])
                  go_ret2
                  exact ownx_err HF (HB4.out.trans (hb5.mono (by omega)))
                | some a =>
                  have hal := rbR_len hps hpl hl h5
                  have HF : Hid (R = .ok (reconcile b a)) := HRT.out.trans (by rw [h4, h5])
                  go_upto_region 19 with (go_at_call 226; refine (HCR.out _ la HB4.out hl).mono ?_; rintro e w5 hp; rw [h5] at hp; obtain ⟨v5, rfl, ho5, hb5⟩ := hp)
                  have hz5 := hb5.size
                  have HA : Hid (RowsAt w5 (wc.heap.size ≤ ·) v4 b) := RArr.below (HO4.out.rows rowCs_size (by decide) (by omega)) hb5
                  have HC : Hid (RowsAt w5 (w4.heap.size ≤ ·) v5 a) := ho5.rows rowCs_size (by decide) (by omega)
                  clear ho5 HO4
                  go_wp2_with (go_at_call 227; refine (reconcile_calls _ _ _ v4 v5 b a HA.out HC.out (by omega) (by omega)).mono ?_; rintro e w6 ⟨v6, rfl, ho6, hb6⟩)
                  go_ret2
                  rw [HF.out]
                  exact ⟨_, rfl, ho6.lower (by omega), HB4.out.trans ((hb5.mono (by omega)).trans (hb6.mono (by omega)))⟩

end Go.Proofs.Qxb6500666aGreatDoor
