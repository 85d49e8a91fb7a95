/- The model's ParseReport, walked. (Made by tools/mk_mprp.py.) -/
import Derived.Test.Qxb6500666aGreatDoorMRrp
import Derived.Test.Qxb6500666aGreatDoorMVrp
import Derived.Test.Qxb6500666aGreatDoorMPar
import Derived.Test.Qxb6500666aGreatDoorRcnM
namespace Go.Proofs.Qxb6500666aGreatDoor
open Go.RowKit
/-- What the model's ParseReport answers. -/
inductive MRp (w w' : World) (bs : List Int) (e : Ending) : Prop
  | bad (he : e = .returned (.tuple #[.int .u32 0, .int .u32 0, .slice none 0 0, .int .u8 29])) (hno : (∀ ea la ds, rpC ea la ds = 0 → U32 ea → U32 la → (∀ d ∈ ds, Diff.Ok d) → bs ≠ repText ea la ds)) (hb : Below w.heap.size w w') : MRp w w' bs e
  | good (ea la : Int) (a : Option Addr) (cap : Nat) (ds : List Diff) (he : e = .returned (.tuple #[.int .u32 ea, .int .u32 la, .slice a ds.length cap, .int .u8 0])) (hF : rpC ea la ds = 0) (hea : U32 ea) (hla : U32 la) (hok : ∀ d ∈ ds, d.Ok) (hR : RArr w' (w.heap.size ≤ ·) 5 diffCs (.slice a ds.length cap) ds) (hb : Below w.heap.size w w') (htx : bs = repText ea la ds) : MRp w w' bs e
/-- Behind q guessed lines. -/
structure MRl (W3 W : World) (lines : List (List Int)) (ds : List Diff) (q : Nat) (a : Option Addr) (capq : Nat) : Prop where
  own : OwnR W W3.heap.size 166 5 diffCs (.slice a q capq) ds
  len : ds.length = q
  lin : ∀ j (h : j < ds.length), ∃ l, lines[j + 1]? = some l ∧ DifG (splitB 124 l) ds[j]
  ok : ∀ d ∈ ds, d.Ok
  bel : Below W3.heap.size W3 W
theorem MRl.below {W3 W W' : World} {lines : List (List Int)} {ds : List Diff} {q : Nat} {a : Option Addr} {capq : Nat} (h : MRl W3 W lines ds q a capq) (hb : Below W.heap.size W W') : MRl W3 W' lines ds q a capq :=
  ⟨h.own.below hb (Nat.le_refl _), h.len, h.lin, h.ok, h.bel.trans (hb.mono h.bel.size)⟩
section
variable (ρ : Operand → Value) (dst : Option Tmp) (a b c d e : Operand) (ty : TypeId) (pos : String) (after : Array Edge) (guard : Option (Nat × Bool))
def bdDif5S (a b c d e : Value) : Sem Value := Instr.build 166 #[(0, a), (1, b), (2, c), (3, d), (4, e)]
theorem exec_bdDif5 : execOp ρ { dst, op := .build 166 #[(0, a), (1, b), (2, c), (3, d), (4, e)], type := ty, pos, after, guard } = (do pure (.value (← bdDif5S (ρ a) (ρ b) (ρ c) (ρ d) (ρ e)))) := by simp [execOp, bdDif5S]
end
theorem run_bdDif5 (w : World) (t s a b c : Int) : (bdDif5S (.int .u8 t) (.int .u32 s) (.int .u32 a) (.int .u32 b) (.int .u32 c)).run Tryz.prog w = .ok (.agg (diffCs ⟨t, s, a, b, c⟩)) w := by kernel_rfl
attribute [local go_sem] ext_const Ext.cell Ext.frozen Ext.rng Ext.whole exS_const ExS.cell ExS.rng
attribute [local go_sem ↓] exec_ldDiff exec_stDiff exec_bsDiff exec_bdDif5
attribute [local go_sem] run_ldDiff run_stDiff run_bsDiff run_bdDif5 diffCs_size diff_ones diffCs_ex whole_alloc_lt whole_alloc_at whole_drew setRow_alloc_at setRow_alloc_lt setRow_drew rng_alloc_lt rng_alloc_at rng_drew rng_drewN

set_option maxRecDepth 100000 in
set_option maxHeartbeats 8000000 in
theorem mparseReport_calls (w : World) (ok : Nat → Prop) (v : Value) (bs : List Int) (h : BytesAt w ok v bs) (hB : ByteL bs) (hl : bs.length ≤ 900000000) :
    Calls Tryz.prog 120 #[v] w fun e w' => MRp w w' bs e := by
  have HBT := hide (fun W (hb : Below w.heap.size w W) => RArr.mono h.lt (fun b q => hb.block b q.2) (fun b q => q.1))
  have HBY := hide hB
  have HLN := hide hl
  clear h hB hl
  go_enter Tryz.func120, Tryz.ntmps120
  go_upto_region 1 with fail
  have hcv := conv_str (HBT.out w (Below.refl _ _))
  have HSP := hide (msplit_calls w bs 10 HBY.out (by have := HLN.out; omega))
  go_upto_region 2 with (go_at_call 147; refine HSP.out.mono ?_; rintro e W2 ⟨lv, rfl, hown2, hb2⟩; have HO2 := hide hown2; have HB2 := hide hb2; clear hown2 hb2)
  clear hcv HSP
  obtain ⟨lines, hlines⟩ : ∃ lines, lines = splitB 10 bs := ⟨_, rfl⟩
  have hl0 : 0 < lines.length := by rw [hlines]; exact List.length_pos_iff.2 (splitB_ne _ _)
  have hlL : lines.length ≤ 900000001 := by have h1 := splitB_len 10 bs; rw [hlines]; have := HLN.out; omega
  rw [← hlines] at HO2
  have HLB : Hid (∀ p ∈ lines, ByteL p ∧ p.length ≤ 900000000) := fun p hp => by
    rw [hlines] at hp
    exact ⟨fun d hd => HBY.out d (splitB_mem hp d hd), Nat.le_trans (splitB_plen hp) HLN.out⟩
  have HLS := hide hlines
  obtain ⟨lg, lc, hlv, hlg1, hlg2, hlcap, hlcell⟩ := str_cells HO2.out hl0 (by omega)
  subst hlv
  obtain ⟨N, hN⟩ : ∃ N, N = lines.length := ⟨_, rfl⟩
  have HN := hide hN
  rw [← hN] at hl0 hlL hlcap ⊢
  have hiL := run_indexAt_arr (P := Tryz.prog) (n := N) (cap := lc) (a := some ⟨lg, 0, none⟩) (b := lg) (off := 0) Tryz.underlying98 Tryz.size9_s (fun _ => rfl)
  have hL0 : W2.cell? ⟨lg, 0, none⟩ = some (.string (strOfNums (lines[0]'(by omega)))) := hlcell 0 (by omega)
  have HLC := hide hlcell
  have HL0B := hide (HLB.out (lines[0]'(by omega)) (List.getElem_mem _))
  generalize hl0e : lines[0]'(by omega) = l0 at *
  have HL0E : Hid (lines[0]? = some l0) := by show _ = _; rw [← hl0e]; exact List.getElem?_eq_getElem _
  clear hlines hN hlcell hl0e
  have HSP2 := hide (msplit_calls W2 l0 124 HL0B.out.1 (by have := HL0B.out.2; omega))
  go_upto_region 3 with (go_at_call 147; refine HSP2.out.mono ?_; rintro e W3 ⟨hv, rfl, hown3, hb3⟩; have HO3 := hide hown3; have HB3 := hide hb3; clear hown3 hb3)
  clear HSP2 hL0
  obtain ⟨hps, hhps⟩ : ∃ hps, hps = splitB 124 l0 := ⟨_, rfl⟩
  rw [← hhps] at HO3
  have hh0 : 0 < hps.length := by rw [hhps]; exact List.length_pos_iff.2 (splitB_ne _ _)
  have hhL : hps.length ≤ 900000001 := by have h1 := splitB_len 124 l0; rw [hhps]; have := HL0B.out.2; omega
  obtain ⟨hg, hc, hhv, hhg1, hhg2, hhcap, hhcell⟩ := str_cells HO3.out hh0 (by omega)
  subst hhv
  have HHC := hide hhcell
  have HHS := hide hhps
  obtain ⟨M, hM⟩ : ∃ M, M = hps.length := ⟨_, rfl⟩
  have HM := hide hM
  rw [← hM] at hh0 hhL hhcap ⊢
  clear hhcell hhps hM
  have HBW : Hid (Below w.heap.size w W3) := HB2.out.trans (HB3.out.mono HB2.out.size)
  have HBAD : Hid (∀ W : World, Below w.heap.size w W → (∀ ea la ds, rpC ea la ds = 0 → U32 ea → U32 la → (∀ d ∈ ds, Diff.Ok d) → bs ≠ repText ea la ds) → MRp w W bs (.returned (.tuple #[.int .u32 0, .int .u32 0, .slice none 0 0, .int .u8 29]))) := fun W h2 h3 => .bad rfl h3 h2
  by_cases hN3 : N < 3
  · have HNO : Hid (∀ ea la ds, rpC ea la ds = 0 → U32 ea → U32 la → (∀ d ∈ ds, Diff.Ok d) → bs ≠ repText ea la ds) := fun ea la ds hF _ _ _ he => by
      have := (rep_shape he hF).1
      rw [← HLS.out, ← HN.out] at this
      omega
    go_wp2
    refine bodyPost_ret (v := .tuple #[.int .u32 0, .int .u32 0, .slice none 0 0, .int .u8 29]) (by simp [results, Tryz.results120]) rfl ?_
    exact HBAD.out W3 HBW.out HNO.out
  by_cases hM6 : M = 5
  case neg =>
    have t6 : ((M : Int) != 5) = true := by simp; omega
    have HNO : Hid (∀ ea la ds, rpC ea la ds = 0 → U32 ea → U32 la → (∀ d ∈ ds, Diff.Ok d) → bs ≠ repText ea la ds) := fun ea la ds hF _ _ _ he => by
      have := (rep_shape he hF).2.1 l0 (by rw [← HLS.out]; exact HL0E.out)
      rw [← HHS.out, ← HM.out] at this
      exact hM6 this
    go_wp2
    refine bodyPost_ret (v := .tuple #[.int .u32 0, .int .u32 0, .slice none 0 0, .int .u8 29]) (by simp [results, Tryz.results120]) rfl ?_
    exact HBAD.out W3 HBW.out HNO.out
  case pos =>
  subst hM6
  obtain ⟨p0, p1, p2, p3, p4, hpe⟩ : ∃ p0 p1 p2 p3 p4, hps = [p0, p1, p2, p3, p4] := by
    match hps, HM with
    | [a0, a1, a2, a3, a4], _ => exact ⟨a0, a1, a2, a3, a4, rfl⟩
  subst hpe
  have HPB : Hid (∀ p ∈ [p0, p1, p2, p3, p4], ByteL p) := fun p hp d hd => by
    rw [HHS.out] at hp
    exact HL0B.out.1 d (splitB_mem hp d hd)
  have HPL : Hid (∀ p ∈ [p0, p1, p2, p3, p4], p.length ≤ 900000000) := fun p hp => by
    rw [HHS.out] at hp
    exact Nat.le_trans (splitB_plen hp) HL0B.out.2
  have c2 : W3.cell? ⟨hg, 2, none⟩ = some (.string (strOfNums p2)) := HHC.out 2 (by simp)
  have c3 : W3.cell? ⟨hg, 3, none⟩ = some (.string (strOfNums p3)) := HHC.out 3 (by simp)
  have hiH := run_indexAt_arr (P := Tryz.prog) (n := 5) (cap := hc) (a := some ⟨hg, 0, none⟩) (b := hg) (off := 0) Tryz.underlying98 Tryz.size9_s (fun _ => rfl)
  clear HHC HO3 hh0 hhL
  go_upto_region 5 with fail
  go_cut [2, 3] (fun v2 v3 W => ∃ ea la, v2 = .int .u32 ea ∧ v3 = .int .u32 la ∧ Hid (RHeadG [p0, p1, p2, p3, p4] ea la) ∧ Hid (Below W3.heap.size W3 W))
  case first =>
    as_aux_lemma =>
      refine wp_region_mixT (W3.heap.size) [2, 7] (by kernel_rfl) ?_
      refine mixT_slots [0, 1, 5, 6] (fuel := 8) rfl (by kernel_rfl) (by kernel_rfl) (fun d _ _ _ _ h => by cases d <;> exact h) ?_
      simp only [opersAt, List.getElem?_toArray, List.getElem?_cons_zero, List.getElem?_cons_succ]
      repeat (go_big_quiet_step (fail))
      refine wpQuiet_nil ?_
      refine mixT_reads [2, 7] (fuel := 6) rfl (by kernel_rfl) (by decide) (by kernel_rfl) (fun d _ _ _ _ h => by cases d <;> exact h) (ext_drew _ _) ?_
      simp only [opersAt, List.getElem?_toArray, List.getElem?_cons_zero, List.getElem?_cons_succ]
      repeat (go_big_quiet_step (fail))
      refine wpQuiet_nil ?_
      refine mixT_one (k := 3) (by kernel_rfl) rfl ?_
      go_wp2_with (go_at_call 149; refine (mguess_calls _ p2 (HPB.out _ (by simp)) (by have := HPL.out p2 (by simp); omega)).mono ?_; rintro e V1 ⟨x1, rfl, hx1, hg1, hb1⟩)
      have HC1 : Hid (Below W3.heap.size W3 V1) := ((Below.refl W3.heap.size W3).drew).trans (hb1.mono ((Below.refl W3.heap.size W3).drew).size)
      have HG1 : Hid (GNum p2 x1) := ⟨hx1, hg1⟩
      refine ⟨Or.inr (by intros; exact ⟨⟨_, HC1.out⟩, rfl⟩), ?_⟩
      clear hb1 hg1 hx1
      refine mixT_slots [4] (fuel := 4) rfl (by kernel_rfl) (by kernel_rfl) (fun d _ _ _ _ h => by cases d <;> exact h) ?_
      simp only [opersAt, List.getElem?_toArray, List.getElem?_cons_zero, List.getElem?_cons_succ]
      repeat (go_big_quiet_step (fail))
      refine wpQuiet_nil ?_
      refine mixT_one (k := 8) (by kernel_rfl) rfl ?_
      go_wp2_with (go_at_call 149; refine (mguess_calls _ p3 (HPB.out _ (by simp)) (by have := HPL.out p3 (by simp); omega)).mono ?_; rintro e V2 ⟨x2, rfl, hx2, hg2, hb2⟩)
      have HC2 : Hid (Below W3.heap.size W3 V2) := (HC1.out).trans (hb2.mono (HC1.out).size)
      have HG2 : Hid (GNum p3 x2) := ⟨hx2, hg2⟩
      refine ⟨Or.inr (by intros; exact ⟨⟨_, HC2.out⟩, rfl⟩), ?_⟩
      clear hb2 hg2 hx2
      refine mixT_slots [9, 10, 11] (fuel := 0) rfl (by kernel_rfl) (by kernel_rfl) (fun d _ _ _ _ h => by cases d <;> exact h) ?_
      simp only [opersAt, List.getElem?_toArray, List.getElem?_cons_zero, List.getElem?_cons_succ]
      repeat (go_big_quiet_step (fail))
      refine wpQuiet_nil ?_
      refine mixT_nil (by kernel_rfl) ?_
      go_wp2
      go_meet
      case rel => exact ⟨_, _, rfl, rfl, ⟨p0, p1, p2, p3, p4, x1, x2, rfl, HG1.out, rfl, HG2.out, rfl⟩, HC2⟩
  case rest =>
  obtain ⟨ea, la, rfl, rfl, HHD, HWF⟩ := hcut
  have hlcw : lg < W3.heap.size := by have := HB3.out.size; omega
  have hsl : ∀ W, (Instr.sliceAt 98 (.slice (some ⟨lg, 0, none⟩) N lc) (some (.int .i64 1)) (some (.int .i64 ((N : Int) - 2))) none).run Tryz.prog W = .ok (.slice (some ⟨lg, 1, none⟩) (N - 3) (lc - 1)) W := fun W => by
    obtain ⟨N', rfl⟩ : ∃ N', N = N' + 3 := ⟨N - 3, by omega⟩
    obtain ⟨lc', rfl⟩ : ∃ lc', lc = lc' + 3 := ⟨lc - 3, by omega⟩
    have e1 : (((N' + 3 : Nat) : Int) - 2) = ((N' + 1 : Nat) : Int) := by omega
    rw [e1]
    have h2 : N' + 1 ≤ lc' + 3 := by omega
    simp [Instr.sliceAt, Instr.slice, run_underlying Tryz.underlying98, Instr.sliceBounds, Instr.sliceBound, asIntOf, Addr.add_lit]
    rw [if_pos ⟨by omega, by omega⟩, if_pos (by omega)]
  obtain ⟨K0, hK0⟩ : ∃ K0, K0 = N - 3 := ⟨_, rfl⟩
  have HK0 := hide hK0
  rw [← hK0] at hsl
  have hK3 : K0 ≤ 900000001 := by omega
  clear hK0 c2 c3
  have hiS := run_indexAt_arr (P := Tryz.prog) (n := K0) (cap := lc - 1) (a := some ⟨lg, 1, none⟩) (b := lg) (off := 1) Tryz.underlying98 Tryz.size9_s (fun _ => rfl)
  have HI0 : Hid (MRl W3 wc lines [] 0 none 0) := ⟨OwnR.nil _ _ _ _ _, rfl, fun j h => (by simp at h), fun c hc => (by cases hc), HWF.out⟩
  go_upto_region 7 with fail
  clear hsl
  go_loopg [2, 3, 4, 42] K0 (fun gk s2 s3 dv j W => ∃ (q : Nat) (ds : List Diff) (a : Option Addr) (capq : Nat), q ≤ K0 ∧ gk = K0 - q ∧ s2 = .int .u32 ea ∧ s3 = .int .u32 la ∧ dv = .slice a q capq ∧ j = .int .i64 q ∧ Hid (MRl W3 W lines ds q a capq))
  case atStart => exact ⟨0, [], none, 0, by omega, by omega, rfl, rfl, rfl, rfl, HI0⟩
  clear HI0 HWF
  case round =>
    obtain ⟨q, ds, a, capq, hq, rfl, rfl, rfl, rfl, rfl, HI⟩ := hrel
    by_cases hlt : q < K0
    · have hq1 : q + 1 < lines.length := by have h1 := HN.out; have h2 := HK0.out; omega
      have hcq : wr.cell? ⟨lg, 1 + q, none⟩ = some (.string (strOfNums lines[q + 1])) := by
        have h1 := HLC.out (q + 1) hq1
        rw [Nat.add_comm 1 q, (HI.out.bel.cell (p := ⟨lg, q + 1, none⟩) hlcw), (HB3.out.cell (p := ⟨lg, q + 1, none⟩) hlg2)]
        exact h1
      have hlgr : lg < wr.heap.size := by have := HI.out.bel.size; omega
      have HLQ : Hid (lines[q + 1]? = some lines[q + 1]) := List.getElem?_eq_getElem hq1
      have HLQB := hide (HLB.out _ (List.getElem_mem hq1))
      generalize lines[q + 1] = l at *
      have HSP := hide (msplit_calls wr l 124 HLQB.out.1 (by have := HLQB.out.2; omega))
      go_upto_region 10 with (go_at_call 147; refine HSP.out.mono ?_; rintro e X ⟨pv, rfl, hownp, hbp⟩; have HOP := hide hownp; have HBP := hide hbp; clear hownp hbp)
      clear HSP hcq
      obtain ⟨ps, hps⟩ : ∃ ps, ps = splitB 124 l := ⟨_, rfl⟩
      rw [← hps] at HOP
      have hp0 : 0 < ps.length := by rw [hps]; exact List.length_pos_iff.2 (splitB_ne _ _)
      have hpL : ps.length ≤ 900000001 := by have h1 := splitB_len 124 l; rw [hps]; have := HLQB.out.2; omega
      obtain ⟨pg, pc, hpv, hpg1, hpg2, hpcap, hpcell⟩ := str_cells HOP.out hp0 (by omega)
      subst hpv
      have HPS := hide hps
      obtain ⟨P, hP⟩ : ∃ P, P = ps.length := ⟨_, rfl⟩
      have HP := hide hP
      rw [← hP] at hp0 hpL hpcap ⊢
      have HPC := hide hpcell
      have HIX := hide (HI.out.below HBP.out)
      have HOB : Hid (∀ y, (Value.slice a q capq).ownBlock = some y → y < wr.heap.size) := fun y hy => (HI.out.own.block y hy).2
      clear hps hP hpcell HI
      by_cases h14 : P = 5
      case neg =>
        have t14 : ((P : Int) != 5) = true := by simp; omega
        have HNO : Hid (∀ ea la ds, rpC ea la ds = 0 → U32 ea → U32 la → (∀ d ∈ ds, Diff.Ok d) → bs ≠ repText ea la ds) := fun ea la ds hF _ _ _ he => by
          have := (rep_shape he hF).2.2 q l (by rw [← HLS.out, ← HN.out]; have := HK0.out; omega) (by rw [← HLS.out]; exact HLQ.out)
          rw [← HPS.out, ← HP.out] at this
          exact h14 this
        have HBX : Hid (Below w.heap.size w X) := HBW.out.trans (HIX.out.bel.mono HBW.out.size)
        go_wp2
        refine bodyPost_ret (v := .tuple #[.int .u32 0, .int .u32 0, .slice none 0 0, .int .u8 29]) (by simp [results, Tryz.results120]) rfl ?_
        exact HBAD.out X HBX.out HNO.out
      case pos =>
      subst h14
      obtain ⟨p0, p1, p2, p3, p4, hpe⟩ : ∃ p0 p1 p2 p3 p4, ps = [p0, p1, p2, p3, p4] := by
        match ps, HP with
        | [a0, a1, a2, a3, a4], _ => exact ⟨a0, a1, a2, a3, a4, rfl⟩
      subst hpe
      have HPB2 : Hid (∀ p ∈ [p0, p1, p2, p3, p4], ByteL p) := fun p hp d hd => by
        rw [HPS.out] at hp
        exact HLQB.out.1 d (splitB_mem hp d hd)
      have HPL2 : Hid (∀ p ∈ [p0, p1, p2, p3, p4], p.length ≤ 900000000) := fun p hp => by
        rw [HPS.out] at hp
        exact Nat.le_trans (splitB_plen hp) HLQB.out.2
      have d0 : X.cell? ⟨pg, 0, none⟩ = some (.string (strOfNums p0)) := HPC.out 0 (by simp)
      have d1 : X.cell? ⟨pg, 1, none⟩ = some (.string (strOfNums p1)) := HPC.out 1 (by simp)
      have d2 : X.cell? ⟨pg, 2, none⟩ = some (.string (strOfNums p2)) := HPC.out 2 (by simp)
      have d3 : X.cell? ⟨pg, 3, none⟩ = some (.string (strOfNums p3)) := HPC.out 3 (by simp)
      have d4 : X.cell? ⟨pg, 4, none⟩ = some (.string (strOfNums p4)) := HPC.out 4 (by simp)
      have hiP := run_indexAt_arr (P := Tryz.prog) (n := 5) (cap := pc) (a := some ⟨pg, 0, none⟩) (b := pg) (off := 0) Tryz.underlying98 Tryz.size9_s (fun _ => rfl)
      obtain ⟨S0, hS0, hSp⟩ : ∃ S0, (∀ x, (Value.slice a q capq).ownBlock = some x → x = S0) ∧ S0 ≠ pg := by
        cases ha : (Value.slice a q capq).ownBlock with
        | none => exact ⟨X.heap.size, fun x e => (by cases e), by omega⟩
        | some y => exact ⟨y, fun x e => (Option.some.inj e).symm, by have := HOB.out y ha; omega⟩
      have HS0 := hide hS0
      have hpS : pg ≠ S0 := fun e => hSp e.symm
      clear hS0 hSp
      clear HPC HOP hp0 hpL HB2 HO2 hiH hiL
      go_upto_region 12 with fail
      refine wp_region_mixX X.heap.size S0 [3, 7, 12, 17, 22] (by kernel_rfl) ?_
      refine mixT_slots [0, 1, 2, 5, 6, 10, 11, 15, 16, 20, 21] (fuel := 18) rfl (by kernel_rfl) (by kernel_rfl) (fun d _ _ _ _ h => by cases d <;> exact h) ?_
      simp only [opersAt, List.getElem?_toArray, List.getElem?_cons_zero, List.getElem?_cons_succ]
      repeat (go_big_quiet_step (fail))
      refine wpQuiet_nil ?_
      refine mixT_reads [3, 7, 12, 17, 22] (fuel := 13) rfl (by kernel_rfl) (by decide) (by kernel_rfl) (fun d _ _ _ _ h => by cases d <;> exact h) (exS_drew _ _ _) ?_
      simp only [opersAt, List.getElem?_toArray, List.getElem?_cons_zero, List.getElem?_cons_succ]
      repeat (go_big_quiet_step (fail))
      refine wpQuiet_nil ?_
      refine mixT_one (k := 4) (by kernel_rfl) rfl ?_
      go_wp2_with (go_at_call 148; refine (mletter_calls _ p0 (HPB2.out _ (by simp))).mono ?_; rintro e V0 ⟨rfl, rfl⟩)
      have HC0 : Hid (Below X.heap.size X X.drew) := (Below.refl X.heap.size X).drew
      refine ⟨Or.inr (by intros; exact exS_below HC0.out), ?_⟩
      refine mixT_one (k := 8) (by kernel_rfl) rfl ?_
      go_wp2_with (go_at_call 149; refine (mguess_calls _ p1 (HPB2.out _ (by simp)) (by have := HPL2.out p1 (by simp); omega)).mono ?_; rintro e V1 ⟨x1, rfl, hx1, hg1, hb1⟩)
      have HC1 : Hid (Below X.heap.size X V1) := (HC0.out).trans (hb1.mono (HC0.out).size)
      have HG1 : Hid (GNum p1 x1) := ⟨hx1, hg1⟩
      refine ⟨Or.inr (by intros; exact exS_below HC1.out), ?_⟩
      clear hb1 hg1 hx1
      refine mixT_slots [9] (fuel := 10) rfl (by kernel_rfl) (by kernel_rfl) (fun d _ _ _ _ h => by cases d <;> exact h) ?_
      simp only [opersAt, List.getElem?_toArray, List.getElem?_cons_zero, List.getElem?_cons_succ]
      repeat (go_big_quiet_step (fail))
      refine wpQuiet_nil ?_
      refine mixT_one (k := 13) (by kernel_rfl) rfl ?_
      go_wp2_with (go_at_call 149; refine (mguess_calls _ p2 (HPB2.out _ (by simp)) (by have := HPL2.out p2 (by simp); omega)).mono ?_; rintro e V2 ⟨x2, rfl, hx2, hg2, hb2⟩)
      have HC2 : Hid (Below X.heap.size X V2) := (HC1.out).trans (hb2.mono (HC1.out).size)
      have HG2 : Hid (GNum p2 x2) := ⟨hx2, hg2⟩
      refine ⟨Or.inr (by intros; exact exS_below HC2.out), ?_⟩
      clear hb2 hg2 hx2
      refine mixT_slots [14] (fuel := 8) rfl (by kernel_rfl) (by kernel_rfl) (fun d _ _ _ _ h => by cases d <;> exact h) ?_
      simp only [opersAt, List.getElem?_toArray, List.getElem?_cons_zero, List.getElem?_cons_succ]
      repeat (go_big_quiet_step (fail))
      refine wpQuiet_nil ?_
      refine mixT_one (k := 18) (by kernel_rfl) rfl ?_
      go_wp2_with (go_at_call 149; refine (mguess_calls _ p3 (HPB2.out _ (by simp)) (by have := HPL2.out p3 (by simp); omega)).mono ?_; rintro e V3 ⟨x3, rfl, hx3, hg3, hb3⟩)
      have HC3 : Hid (Below X.heap.size X V3) := (HC2.out).trans (hb3.mono (HC2.out).size)
      have HG3 : Hid (GNum p3 x3) := ⟨hx3, hg3⟩
      refine ⟨Or.inr (by intros; exact exS_below HC3.out), ?_⟩
      clear hb3 hg3 hx3
      refine mixT_slots [19] (fuel := 6) rfl (by kernel_rfl) (by kernel_rfl) (fun d _ _ _ _ h => by cases d <;> exact h) ?_
      simp only [opersAt, List.getElem?_toArray, List.getElem?_cons_zero, List.getElem?_cons_succ]
      repeat (go_big_quiet_step (fail))
      refine wpQuiet_nil ?_
      refine mixT_one (k := 23) (by kernel_rfl) rfl ?_
      go_wp2_with (go_at_call 149; refine (mguess_calls _ p4 (HPB2.out _ (by simp)) (by have := HPL2.out p4 (by simp); omega)).mono ?_; rintro e V4 ⟨x4, rfl, hx4, hg4, hb4⟩)
      have HC4 : Hid (Below X.heap.size X V4) := (HC3.out).trans (hb4.mono (HC3.out).size)
      have HG4 : Hid (GNum p4 x4) := ⟨hx4, hg4⟩
      refine ⟨Or.inr (by intros; exact exS_below HC4.out), ?_⟩
      clear hb4 hg4 hx4
      refine mixT_slots [24, 25] (fuel := 3) rfl (by kernel_rfl) (by kernel_rfl) (fun d _ _ _ _ h => by cases d <;> exact h) ?_
      simp only [opersAt, List.getElem?_toArray, List.getElem?_cons_zero, List.getElem?_cons_succ]
      repeat (go_big_quiet_step (fail))
      refine wpQuiet_nil ?_
      refine mixT_one (k := 26) (by kernel_rfl) rfl ?_
      go_wp2
      obtain ⟨d, hd⟩ : ∃ d : Diff, d = ⟨ltrV p0, x1 % 4294967296, x2 % 4294967296, x3 % 4294967296, x4 % 4294967296⟩ := ⟨_, rfl⟩
      rw [← hd]
      have HB14 : Hid (Below X.heap.size X (V4.alloc (.cells (diffCs d) 166))) := HC4.out.alloc HC4.out.size _
      refine ⟨Or.inr (by intros; exact exS_below HB14.out), ?_⟩
      refine mixT_one (k := 27) (by kernel_rfl) rfl ?_
      have HLG : Hid (DifG (splitB 124 l) d) := by
        show DifG _ _
        rw [← HPS.out, hd]
        exact ⟨p0, p1, p2, p3, p4, x1, x2, x3, x4, rfl, rfl, HG1.out, HG2.out, HG3.out, HG4.out⟩
      have HCO : Hid (d.Ok) := by
        show Diff.Ok d
        rw [hd]
        exact ⟨ltrV_u8 (HPB2.out p0 (by simp)), u32m _, u32m _, u32m _, u32m _⟩
      have HO15 := hide ((HIX.out.own.below HC4.out (Nat.le_refl _)).below ((Below.refl V4.heap.size V4).alloc (Nat.le_refl _) (.cells (diffCs d) 166)) (Nat.le_refl _))
      have HR15 : Hid (rng (V4.alloc (.cells (diffCs d) 166)) V4.heap.size 0 5 = some (diffCs d)) := rng_whole (heap_alloc_at _ _)
      have hz15 : W3.heap.size ≤ (V4.alloc (.cells (diffCs d) 166)).heap.size := by have := HC4.out.size; have := HIX.out.bel.size; simp; omega
      have HLN2 := hide HIX.out.len
      clear hd
      refine wpList_app1 (α := Diff) rfl _ _ 72 rfl W3.heap.size 166 diffCs Tryz.underlying72 Tryz.info166 rfl (by decide) diffCs_size diffCs_one _ ds rfl HO15.out _ rfl d HR15.out (by rw [HLN2.out]; omega) (by rw [HLN2.out]; unfold maxLen; omega) hz15 ?_
      intro v16 U hown16 hsame16 hbel16 hat16
      have HSU : Hid (∀ b, b < X.heap.size → b ≠ S0 → U.heap[b]? = X.heap[b]?) := fun b h1 h2 => (hsame16 b ⟨by have := HB14.out.size; omega, fun e => h2 (HS0.out b e)⟩).trans (HB14.out.block b h1)
      refine ⟨Or.inr (by intros; exact ⟨⟨U, HSU.out⟩, rfl⟩), ?_⟩
      have HBU : Hid (Below W3.heap.size W3 U) := HIX.out.bel.trans ((HB14.out.mono HIX.out.bel.size).trans (hbel16.mono (Nat.le_refl _)))
      obtain ⟨a1, cap1, hv1⟩ := hown16.form
      rw [List.length_append, HLN2.out, List.length_singleton] at hv1
      subst hv1
      have HO16 := hide hown16
      clear hown16 hsame16 hbel16 hat16 HO15 HR15
      refine mixT_one (k := 28) (by kernel_rfl) rfl ?_
      go_wp2
      refine ⟨Or.inl (by kernel_rfl), ?_⟩
      refine mixT_nil (by kernel_rfl) ?_
      go_wp2
      go_roundg (K0 - (q + 1))
      case measure => omega
      case rel =>
        refine ⟨q + 1, ds ++ [d], a1, cap1, by omega, rfl, rfl, rfl, rfl, by go_num, ⟨HO16.out, by simp [HLN2.out], fun j hj => ?_, fun y hy => ?_, HBU.out⟩⟩
        · rw [List.length_append] at hj
          have hj : j < ds.length + 1 := hj
          by_cases hjq : j < ds.length
          · obtain ⟨l', h1, h2⟩ := HIX.out.lin j hjq
            exact ⟨l', h1, by rw [List.getElem_append_left hjq]; exact h2⟩
          · obtain rfl : j = ds.length := by omega
            refine ⟨l, by rw [HLN2.out]; exact HLQ.out, ?_⟩
            have e : (ds ++ [d])[ds.length]'(by simp) = d := by simp
            rw [e]
            exact HLG.out
        · rcases List.mem_append.1 hy with hy | hy
          · exact HIX.out.ok y hy
          · rw [List.mem_singleton.1 hy]; exact HCO.out
    · obtain rfl : q = K0 := by omega
      have HFG : Hid (RepG bs ea la ds) := ⟨by rw [← HLS.out, ← HN.out]; omega, ⟨l0, by rw [← HLS.out]; exact HL0E.out, by rw [← HHS.out]; exact HHD.out⟩, by rw [← HLS.out, ← HN.out, HI.out.len]; have := HK0.out; omega, fun j h => by
        obtain ⟨l, h1, h2⟩ := HI.out.lin j h
        exact ⟨l, by rw [← HLS.out]; exact h1, h2⟩⟩
      have HUS : Hid (U32 ea ∧ U32 la) := by
        obtain ⟨_, _, _, _, _, x2, x3, _, _, e2, _, e3⟩ := HHD.out
        exact ⟨by rw [e2]; exact u32m _, by rw [e3]; exact u32m _⟩
      have HLen := hide HI.out.len
      have HOk := hide HI.out.ok
      have hch : RArr wr (W3.heap.size ≤ ·) 5 diffCs (.slice a q capq) ds := by have := HI.out.own.rows diffCs_size (by decide) (by rw [HLen.out]; omega); exact this
      have HBR : Hid (Below w.heap.size w wr) := HBW.out.trans (HI.out.bel.mono HBW.out.size)
      have HCH := hide hch
      clear hch HI
      have HVA := hide (mvalidReport_calls wr (W3.heap.size ≤ ·) ea la a q capq ds HCH.out HOk.out)
      go_upto_region 14 with fail
      by_cases hFO : rpC ea la ds = 0
      · as_aux_lemma =>
        rw [rpV_iff.2 hFO] at HVA
        have HFO := hide hFO
        have HCX : Hid (∀ x : Ext wr.heap.size wr, (convert 55 9 v).run Tryz.prog x.world = .ok (.string (strOfNums bs)) x.world) := fun x => conv_str (HBT.out x.world (HBR.out.trans (x.below.mono HBR.out.size)))
        have HRD : Hid (∀ W : World, Below wr.heap.size wr W → RArr W (W3.heap.size ≤ ·) 5 diffCs (.slice a q capq) ds) := fun W hW => RArr.below HCH.out hW
        have HVD : Hid (Calls Tryz.prog 165 #[.int .u32 ea, .int .u32 la, .slice a q capq] wr.drew fun e w' => e = .returned (.bool true) ∧ Below wr.drew.heap.size wr.drew w') := by
          have := mvalidReport_calls wr.drew (W3.heap.size ≤ ·) ea la a q capq ds (HRD.out _ ((Below.refl _ _).drew)) HOk.out
          rw [rpV_iff.2 hFO] at this
          exact this
        clear hFO HVA
        refine wp_region_mixT (wr.heap.size) [12] (by kernel_rfl) ?_
        refine mixT_slots [0, 1, 2] (fuel := 12) rfl (by kernel_rfl) (by kernel_rfl) (fun d _ _ _ _ h => by cases d <;> exact h) ?_
        simp only [opersAt, List.getElem?_toArray, List.getElem?_cons_zero, List.getElem?_cons_succ]
        repeat (go_big_quiet_step (fail))
        refine wpQuiet_nil ?_
        refine mixT_one (k := 3) (by kernel_rfl) rfl ?_
        go_wp2_with (go_at_call 165; refine HVD.out.mono ?_; rintro e Y1 ⟨rfl, hb1⟩)
        have HY1 : Hid (Below wr.heap.size wr Y1) := ((Below.refl wr.heap.size wr).drew).trans (hb1.mono ((Below.refl wr.heap.size wr).drew).size)
        refine ⟨Or.inr (by intros; exact ⟨⟨_, HY1.out⟩, rfl⟩), ?_⟩
        clear hb1
        refine mixT_slots [4, 5] (fuel := 9) rfl (by kernel_rfl) (by kernel_rfl) (fun d _ _ _ _ h => by cases d <;> exact h) ?_
        simp only [opersAt, List.getElem?_toArray, List.getElem?_cons_zero, List.getElem?_cons_succ]
        repeat (go_big_quiet_step (fail))
        refine wpQuiet_nil ?_
        refine mixT_slots [6, 7, 8, 11] (fuel := 5) rfl (by kernel_rfl) (by kernel_rfl) (fun d _ _ _ _ h => by cases d <;> exact h) ?_
        simp only [opersAt, List.getElem?_toArray, List.getElem?_cons_zero, List.getElem?_cons_succ]
        repeat (go_big_quiet_step (fail))
        refine wpQuiet_nil ?_
        have hcx := HCX.out
        refine mixT_reads [12] (fuel := 4) rfl (by kernel_rfl) (by decide) (by kernel_rfl) (fun d _ _ _ _ h => by cases d <;> exact h) (⟨⟨_, HY1.out⟩, rfl⟩) ?_
        simp only [opersAt, List.getElem?_toArray, List.getElem?_cons_zero, List.getElem?_cons_succ]
        repeat (go_big_quiet_step (fail))
        refine wpQuiet_nil ?_
        clear hcx
        refine mixT_one (k := 9) (by kernel_rfl) rfl ?_
        go_wp2_with (go_at_call 166; refine (mrenderReport_calls _ (W3.heap.size ≤ ·) ea la a q capq ds (HRD.out _ HY1.out) HFO.out HUS.out.1 HUS.out.2 HOk.out (by omega)).mono ?_; rintro e Y2 ⟨tv, rfl, htv⟩)
        have HTV := hide htv
        have HY2 : Hid (Below wr.heap.size wr Y2) := HY1.out.trans (htv.bel.mono HY1.out.size)
        refine ⟨Or.inr (by intros; exact ⟨⟨_, HY2.out⟩, rfl⟩), ?_⟩
        clear htv
        have hcv1 := conv_str HTV.out.at'
        refine mixT_one (k := 10) (by kernel_rfl) rfl ?_
        go_wp2
        refine ⟨Or.inr (by intros; exact ⟨⟨_, HY2.out⟩, rfl⟩), ?_⟩
        have HBY2 : Hid (Below w.heap.size w Y2) := HBR.out.trans (HY2.out.mono HBR.out.size)
        by_cases heq : repText ea la ds = bs
        · have t1 : ((strOfNums (repText ea la ds)).toList == (strOfNums bs).toList) = true := by rw [heq]; simp
          have HEQ := hide heq
          have HCH2 := hide (HRD.out _ HY2.out)
          clear heq
          refine mixT_slots [13, 14] (fuel := 0) rfl (by kernel_rfl) (by kernel_rfl) (fun d _ _ _ _ h => by cases d <;> exact h) ?_
          simp only [opersAt, List.getElem?_toArray, List.getElem?_cons_zero, List.getElem?_cons_succ]
          repeat (go_big_quiet_step (fail))
          refine wpQuiet_nil ?_
          refine mixT_nil (by kernel_rfl) ?_
          go_wp2
          refine bodyPost_ret (v := .tuple #[.int .u32 ea, .int .u32 la, .slice a q capq, .int .u8 0]) (by simp [results, Tryz.results120]) rfl ?_
          refine .good ea la a capq ds (by rw [HLen.out]) HFO.out HUS.out.1 HUS.out.2 HOk.out ?_ HBY2.out HEQ.out.symm
          rw [HLen.out]
          exact RArr.mono HCH2.out (Same.refl _ _) (fun y hy => by have h1 : W3.heap.size ≤ y := hy; have := HBW.out.size; show w.heap.size ≤ y; omega)
        · have t1 : ((strOfNums (repText ea la ds)).toList == (strOfNums bs).toList) = false := by
            rw [strNums_inj, strNums_inj]
            cases hx : (u8s (repText ea la ds) == u8s bs) with
            | false => rfl
            | true => exact absurd (u8s_inj (show ByteL (repText ea la ds) from trail_bytes (rep_bytes HFO.out) _) HBY.out (by simpa using hx)) heq
          have HNO : Hid (∀ ea la ds, rpC ea la ds = 0 → U32 ea → U32 la → (∀ d ∈ ds, Diff.Ok d) → bs ≠ repText ea la ds) := fun ea' la' ds' hF' g1 g2 g4 he => by
            obtain ⟨e1, e2, e3⟩ := HFG.out.right he hF' g1 g2 g4
            apply heq
            rw [e1, e2, e3, he]
          clear heq
          refine mixT_slots [13, 14] (fuel := 0) rfl (by kernel_rfl) (by kernel_rfl) (fun d _ _ _ _ h => by cases d <;> exact h) ?_
          simp only [opersAt, List.getElem?_toArray, List.getElem?_cons_zero, List.getElem?_cons_succ]
          repeat (go_big_quiet_step (fail))
          refine wpQuiet_nil ?_
          refine mixT_nil (by kernel_rfl) ?_
          go_wp2
          refine bodyPost_ret (v := .tuple #[.int .u32 0, .int .u32 0, .slice none 0 0, .int .u8 29]) (by simp [results, Tryz.results120]) rfl ?_
          exact HBAD.out Y2 HBY2.out HNO.out
      · as_aux_lemma =>
        have hv0 : rpV ea la ds = false := by
          cases hx : rpV ea la ds with
          | false => rfl
          | true => exact absurd (rpV_iff.1 hx) hFO
        have HNO : Hid (∀ ea la ds, rpC ea la ds = 0 → U32 ea → U32 la → (∀ d ∈ ds, Diff.Ok d) → bs ≠ repText ea la ds) := fun ea' la' ds' hF' g1 g2 g4 he => by
          obtain ⟨e1, e2, e3⟩ := HFG.out.right he hF' g1 g2 g4
          apply hFO
          rw [e1, e2, e3]
          exact hF'
        have HVX : Hid (∀ x : Ext wr.heap.size wr, Calls Tryz.prog 165 #[.int .u32 ea, .int .u32 la, .slice a q capq] x.world fun e w' => e = .returned (.bool false) ∧ Below x.world.heap.size x.world w') := fun x => by
          have := mvalidReport_calls x.world (W3.heap.size ≤ ·) ea la a q capq ds (RArr.below HCH.out x.below) HOk.out
          rw [hv0] at this
          exact this
        clear hFO HVA hv0
        refine wp_region_ext wr.heap.size (by kernel_rfl) (by kernel_rfl) ?_
        repeat (go_big_quiet_step ((go_at_call 165; refine ext_call (Nat.le_refl _) (HVX.out _))))
        refine wpQuiet_nil ?_
        intro _ hw'
        obtain ⟨x, hw2⟩ := hw'
        subst hw2
        go_wp2
        refine bodyPost_ret (v := .tuple #[.int .u32 0, .int .u32 0, .slice none 0 0, .int .u8 29]) (by simp [results, Tryz.results120]) rfl ?_
        exact HBAD.out x.world (HBR.out.trans (x.below.mono HBR.out.size)) HNO.out
end Go.Proofs.Qxb6500666aGreatDoor
