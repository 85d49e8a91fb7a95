/- inForce of the model, walked. -/
import Derived.Test.Qxb6500665aDoorModCmd
namespace Go.Proofs.Qxb6500665aDoor
open Go.RowKit Go.Proofs.Qxb6500665aDoor.Cal

attribute [local go_sem ↓] exec_stVersion
attribute [local go_sem] run_stVersion ones_iis whole_alloc_lt whole_alloc_at whole_drew whole_setCell_other whole_setRow_other setRow_alloc_at setRow_alloc_lt

theorem cell_thr {w : World} {b : Nat} {x y z : Value} {t : TypeId} (h : w.heap[b]? = some (.cells #[x, y, z] t (0, 0))) : w.cell? ⟨b, 0, none⟩ = some x ∧ w.cell? ⟨b, 1, none⟩ = some y ∧ w.cell? ⟨b, 2, none⟩ = some z ∧ (∀ j, w.frozen? ⟨b, j, none⟩ = false) := by
  refine ⟨by rw [World.cell?, h]; rfl, by rw [World.cell?, h]; rfl, by rw [World.cell?, h]; rfl, fun j => by rw [World.frozen?, h]; simp⟩

/-- Each version takes effect behind its forerunner. -/
def AscV (vers : List Ver) : Prop := ∀ i j (hj : j < vers.length) (hi : i < j), (vers[i]'(Nat.lt_trans hi hj)).1 < vers[j].1

/-- The version that stands so far: its number, its minute, its visits. -/
structure FV where
  n : Int
  e : Int
  s : SV

def fvCs (x : FV) : Array Value := #[.int .u32 x.n, .int .i64 x.e, sv x.s]
def fv (mv : List MVer) (o : Option Nat) : FV := match o with
  | none => ⟨0, 0, (none, 0, 0)⟩
  | some k => match mv[k]? with
    | none => ⟨0, 0, (none, 0, 0)⟩
    | some x => ⟨x.num, x.eff, x.s⟩

def IfmPost (w w' : World) (e : Ending) (base : Nat) (C : Nat → Prop) (r : Int × Int × Int × List Visit) : Prop :=
  ∃ s : SV, e = .returned (.tuple #[.agg #[.int .u32 r.2.1, .int .i64 r.2.2.1, sv s], .int .u8 r.1]) ∧ VisitsAt w' (fun b => b < base ∨ C b) (sv s) r.2.2.2 ∧ Below w.heap.size w w'
theorem ret_ifm {w w' : World} {e : Ending} {base : Nat} {C : Nat → Prop} {r r' : Int × Int × Int × List Visit} (h : Hid (r = r')) (k : IfmPost w w' e base C r') : IfmPost w w' e base C r := by rw [h.out]; exact k

set_option maxRecDepth 100000 in
set_option maxHeartbeats 2000000 in
theorem inForce_m (w : World) (M base N a p s u : Nat) (v : Value) (C : Nat → Prop) (T : Tab) (full : Bool) (m : Int) (h : MAt w M base N a p s u v C T full) (hasc : AscV T.vers) (hvl : T.vers.length ≤ 1000000) :
    Calls Tryd.prog 40 #[.pointer (some ⟨M, 0, none⟩), .int .i64 m] w fun e w' => IfmPost w w' e base C (verAtR T m) := by
  obtain ⟨R, hR⟩ : ∃ R, R = verAtR T m := ⟨_, rfl⟩
  rw [← hR]
  have HR := hide hR
  clear hR
  obtain ⟨mv, m1, m2, m3, m4⟩ := h.vers
  have hbs := h.bs
  have hlen : mv.length = T.vers.length := by rw [m2]; simp
  obtain ⟨w1, hw1⟩ : ∃ w1, w1 = w.alloc (.cells #[.int .u32 0, .int .i64 0, .slice none 0 0] 41) := ⟨_, rfl⟩
  have hb1 : Below w.heap.size w w1 := by rw [hw1]; exact (Below.refl _ _).alloc (Nat.le_refl _) _
  have hs1 : w1.heap.size = w.heap.size + 1 := by rw [hw1]; simp
  have hG1 : w1.heap[w.heap.size]? = some (.cells #[.int .u32 0, .int .i64 0, .slice none 0 0] 41 (0, 0)) := by rw [hw1]; exact heap_alloc_at _ _
  have HW1 := hide hw1
  by_cases hin : 0 ≤ m ∧ m ≤ 157785119
  case neg =>
    have hic : inCal m = false := decide_eq_false hin
    have HE : Hid (R = (3, 0, 0, [])) := by show _ = _; rw [HR.out, verAtR, if_pos (by omega)]
    have hwh := whole_of_heap hG1
    simp only [List.size_toArray, List.length_cons, List.length_nil] at hwh
    clear hin hw1 m1 m2 m3 m4 h
    go_enter Tryd.func40, Tryd.ntmps40
    go_upto_region 1 with fail
    rw [← HW1.out]
    go_wp2_with (go_at_call 45; refine (inCal_calls m _).mono ?_; rintro e w' ⟨rfl, rfl⟩)
    have hfin := heap_setRow_at (ds := #[.int .u32 0, .int .i64 0, .slice none 0 0]) hG1
    refine bodyPost_ret (results_cell_tmp Tryd.results40 _ _ w.heap.size _ _ _ _ rfl hfin Tryd.underlying41 rfl (by kernel_rfl)) rfl ?_
    exact ret_ifm HE ⟨(none, 0, 0), rfl, visits_nil _ _, hb1.trans (below_setRow' _ _ (Nat.le_refl _))⟩
  case pos =>
    have hic : inCal m = true := decide_eq_true hin
    have HE : Hid (R = match inF T.vers m with | none => (20, 0, 0, []) | some k => (0, (k : Int) + 1, (T.vers[k]?.getD (0, [])).1, (T.vers[k]?.getD (0, [])).2)) := by show _ = _; rw [HR.out, verAtR, if_neg (by omega)]; rfl
    obtain ⟨n, hn⟩ : ∃ n, n = mv.length := ⟨_, rfl⟩
    have Hn := hide hn
    have hnl : n ≤ 1000000 := by omega
    obtain ⟨va, cap, b, off, rfl, r1, r2, r3, ha, hc⟩ := (m1.rows mvCs_size (by decide) (by omega)).lt
    rw [← hn] at r1 r3 ha
    have hMl : M < w.heap.size := h.hlt M (Or.inl (by simp))
    obtain ⟨-, -, c2, -, -, -, -, -⟩ := cell_six ((hb1.block M hMl).trans h.top)
    rw [← hn] at c2
    have hi := run_indexAt_arr (P := Tryd.prog) (n := n) (cap := cap) Tryd.underlying68 Tryd.sz41 (fun h => (ha h).1)
    have HB : Hid (0 < n → b < w.heap.size) := fun h => (ha h).2.2
    have HC := hide hc
    have H2 := hide m2
    have H3 := hide m3
    have H4 := hide m4
    have HA := hide hasc
    have HT : Hid (n = T.vers.length) := by show _ = _; omega
    clear ha hc hn m1 m2 m3 m4 hasc hin hlen hw1 h HR
    go_enter Tryd.func40, Tryd.ntmps40
    go_upto_region 1 with fail
    rw [← HW1.out]
    go_upto_region 4 with (go_at_call 45; refine (inCal_calls m _).mono ?_; rintro e w' ⟨rfl, rfl⟩)
    obtain ⟨w2, hw2⟩ : ∃ w2, w2 = w1.alloc (.cells #[.int .u32 0, .int .i64 0, .slice none 0 0] 41) := ⟨_, rfl⟩
    rw [← hw2]
    have hb2 : Below w1.heap.size w1 w2 := by rw [hw2]; exact (Below.refl _ _).alloc (Nat.le_refl _) _
    have hF2 : w2.heap[w.heap.size + 1]? = some (.cells #[.int .u32 0, .int .i64 0, .slice none 0 0] 41 (0, 0)) := by rw [hw2, ← hs1]; exact heap_alloc_at _ _
    have hG2 := (hb2.block w.heap.size (by omega)).trans hG1
    have hb12 := hb1.trans (hb2.mono (by omega))
    have hMl2 : w2.cell? ⟨M, 2, none⟩ = some (.slice va n cap) := by rw [hb2.cell (p := ⟨M, 2, none⟩) (by show M < w1.heap.size; omega)]; exact c2
    have HB12 := hide hb12
    have hs2 : w.heap.size + 2 = w2.heap.size := by rw [hw2]; simp [hs1]
    have hs2' : w.heap.size + 2 ≤ w2.heap.size := by omega
    clear hw2 hb2 hb12 c2 HW1 hs2 hG1
    go_upto_region 5 with fail
    go_loopg [19] n (fun g x wr => ∃ q : Nat, q ≤ n ∧ g = n - q ∧ x = .int .i64 q ∧ Hid (wr.heap[w.heap.size + 1]? = some (.cells (fvCs (fv mv (inFrom T.vers m q))) 41 (0, 0))) ∧ Hid (wr.heap[w.heap.size]? = some (.cells #[.int .u32 0, .int .i64 0, .slice none 0 0] 41 (0, 0))) ∧ Hid (Below w.heap.size w wr) ∧ w.heap.size + 2 ≤ wr.heap.size)
    case atStart => exact ⟨0, by omega, by omega, rfl, hF2, hG2, HB12, hs2'⟩
    clear hF2 hG2 HB12 hs2' hMl2
    case round =>
      obtain ⟨q, hq, rfl, rfl, HF, HG, HBw, hsz⟩ := hrel
      obtain ⟨f, hf⟩ : ∃ f, f = fv mv (inFrom T.vers m q) := ⟨_, rfl⟩
      have HFv := hide hf
      rw [← hf] at HF
      clear hf
      obtain ⟨fn, fe, fa, fl, fc⟩ := f
      simp only [fvCs, sv] at HF
      obtain ⟨f0, f1, f2, -⟩ := cell_thr HF.out
      have hwF := whole_of_heap HF.out
      have hwG := whole_of_heap HG.out
      simp only [List.size_toArray, List.length_cons, List.length_nil] at hwF hwG
      have hF1 : w.heap.size + 1 < wr.heap.size := by omega
      have hF0 : w.heap.size < wr.heap.size := by omega
      by_cases hlt : q < n
      · have hqm : q < mv.length := by rw [← Hn.out]; exact hlt
        have hqT : q < T.vers.length := by rw [← HT.out]; exact hlt
        have hbb := HB.out (by omega)
        have hr := HC.out q hqm
        rw [← rng_of_block (HBw.out.block b hbb)] at hr
        have hbw : b < wr.heap.size := by omega
        have hTq : T.vers[q] = (mv[q].eff, mv[q].vs) := by simp [H2.out]
        have hnum := H3.out q hqm
        have e0 := (rng_cell hr).2 0 (by decide)
        have e1 := (rng_cell hr).2 1 (by decide)
        have e2 := (rng_cell hr).2 2 (by decide)
        have HI : Hid (inFrom T.vers m (q + 1) = if mv[q].eff ≤ m then some q else inFrom T.vers m q) := by
          show _ = _
          rw [inFrom, List.getElem?_eq_getElem hqT, Option.getD_some, hTq]
        have HV : Hid (fv mv (some q) = ⟨mv[q].num, mv[q].eff, mv[q].s⟩) := by show _ = _; simp only [fv, List.getElem?_eq_getElem hqm]
        have HFE : Hid (∀ k, inFrom T.vers m q = some k → fe < mv[q].eff ∧ fn ≠ 0) := fun k hk => by
          have hkq := inFrom_lt hk
          have h1 := HFv.out
          rw [hk] at h1
          simp only [fv, List.getElem?_eq_getElem (show k < mv.length by omega)] at h1
          have h2 := HA.out k q hqT hkq
          rw [hTq] at h2
          have h3 : T.vers[k] = (mv[k].eff, mv[k].vs) := by simp [H2.out]
          rw [h3] at h2
          have g1 : fe = mv[k].eff := congrArg FV.e h1
          have g2 : fn = mv[k].num := congrArg FV.n h1
          have g3 := H3.out k (by omega)
          exact ⟨by rw [g1]; exact h2, by omega⟩
        generalize mv[q] = x at *
        obtain ⟨xn, xe, ⟨xa, xl, xc⟩, xv⟩ := x
        simp only [mvCs, sv, List.getElem?_toArray, List.getElem?_cons_zero, List.getElem?_cons_succ, Nat.add_zero] at e0 e1 e2
        simp only at HI HV HFE hnum hTq
        clear hr hTq
        by_cases hle : xe ≤ m
        · have HI2 : Hid (fv mv (inFrom T.vers m (q + 1)) = ⟨xn, xe, (xa, xl, xc)⟩) := by show _ = _; rw [HI.out, if_pos hle]; exact HV.out
          have d1 : decide (xe ≤ m) = true := decide_eq_true hle
          clear HI HV
          cases hq0 : inFrom T.vers m q with
          | none =>
            have hfn : fn = 0 := by have h1 := HFv.out; rw [hq0] at h1; exact congrArg FV.n h1
            have t0 : (fn == 0) = true := by simp [hfn]
            clear hfn hq0 HFE HFv hle hnum
            go_wp2
            go_roundg (n - (q + 1))
            case measure => omega
            case rel =>
              refine ⟨q + 1, by omega, rfl, by go_num, ?_, ?_, ?_, ?_⟩
              · show _ = _
                rw [HI2.out, Below.heap_alloc _ _ _ (by simp; omega)]
                exact heap_setRow_at HF.out
              · show _ = _
                rw [Below.heap_alloc _ _ _ (by simp; omega), setRow_other _ _ _ _ (by omega)]
                exact HG.out
              · exact (HBw.out.trans (below_setRow' _ _ (by omega))).alloc (by simp; omega) _
              · simp; omega
          | some k =>
            obtain ⟨hfe, hfn⟩ := HFE.out k hq0
            have t0 : (fn == 0) = false := by simp [hfn]
            clear hfn hq0 HFE HFv hle hnum
            go_wp2
            go_roundg (n - (q + 1))
            case measure => omega
            case rel =>
              refine ⟨q + 1, by omega, rfl, by go_num, ?_, ?_, ?_, ?_⟩
              · show _ = _
                rw [HI2.out, Below.heap_alloc _ _ _ (by simp; omega)]
                exact heap_setRow_at HF.out
              · show _ = _
                rw [Below.heap_alloc _ _ _ (by simp; omega), setRow_other _ _ _ _ (by omega)]
                exact HG.out
              · exact (HBw.out.trans (below_setRow' _ _ (by omega))).alloc (by simp; omega) _
              · simp; omega
        · have HI2 : Hid (inFrom T.vers m (q + 1) = inFrom T.vers m q) := by show _ = _; rw [HI.out, if_neg hle]
          clear HI HV HFE hnum
          go_wp2
          go_roundg (n - (q + 1))
          case measure => omega
          case rel =>
            refine ⟨q + 1, by omega, rfl, by go_num, ?_, ?_, ?_, ?_⟩
            · show _ = _
              rw [HI2.out, ← HFv.out]
              exact (Below.heap_alloc _ _ _ hF1).trans HF.out
            · exact (Below.heap_alloc _ _ _ hF0).trans HG.out
            · exact HBw.out.alloc HBw.out.size _
            · simp; omega
      · have hqn : q = n := by omega
        subst hqn
        have HI : Hid (inF T.vers m = inFrom T.vers m q) := by show _ = _; rw [inF, HT.out]
        cases hq0 : inFrom T.vers m q with
        | none =>
          have HE2 : Hid (R = (20, 0, 0, [])) := by show _ = _; rw [HE.out, HI.out, hq0]
          have h1 := HFv.out
          rw [hq0] at h1
          have hfn : fn = 0 := congrArg FV.n h1
          have t0 : (fn == 0) = true := by simp [hfn]
          clear h1 hfn hq0
          go_wp2
          have hfin := heap_setRow_at (ds := #[.int .u32 0, .int .i64 0, .slice none 0 0]) HG.out
          refine bodyPost_ret (results_cell_tmp Tryd.results40 _ _ w.heap.size _ _ _ _ rfl hfin Tryd.underlying41 rfl (by kernel_rfl)) rfl ?_
          exact ret_ifm HE2 ⟨(none, 0, 0), rfl, visits_nil _ _, HBw.out.trans (below_setRow' _ _ (Nat.le_refl _))⟩
        | some k =>
          have hk := inFrom_lt hq0
          have hkm : k < mv.length := by rw [← Hn.out]; exact hk
          have hkT : k < T.vers.length := by rw [← HT.out]; exact hk
          have h1 := HFv.out
          rw [hq0] at h1
          simp only [fv, List.getElem?_eq_getElem hkm] at h1
          have g1 : fn = (k : Int) + 1 := (congrArg FV.n h1).trans (H3.out k hkm)
          have g2 : fe = mv[k].eff := congrArg FV.e h1
          have g3 : (fa, fl, fc) = mv[k].s := congrArg FV.s h1
          have hTk : T.vers[k] = (mv[k].eff, mv[k].vs) := by simp [H2.out]
          have HE2 : Hid (R = (0, fn, fe, mv[k].vs)) := by
            show _ = _
            rw [HE.out, HI.out, hq0]
            simp only [List.getElem?_eq_getElem hkT, Option.getD_some, hTk, g1, g2]
          have HV : Hid (VisitsAt w (fun b => b < base ∨ C b) (.slice fa fl fc) mv[k].vs) := by
            have := H4.out mv[k] (List.getElem_mem hkm)
            rw [← g3] at this
            exact this
          have t0 : (fn == 0) = false := by simp; omega
          clear h1 g1 g2 g3 hq0 hTk
          go_wp2
          have hfin := heap_setRow_at (ds := #[.int .u32 fn, .int .i64 fe, .slice fa fl fc]) HG.out
          refine bodyPost_ret (results_cell_tmp Tryd.results40 _ _ w.heap.size _ _ _ _ rfl hfin Tryd.underlying41 rfl (by kernel_rfl)) rfl ?_
          have hbf := HBw.out.trans (below_setRow' (w := wr) w.heap.size #[.int .u32 fn, .int .i64 fe, .slice fa fl fc] (Nat.le_refl _))
          exact ret_ifm HE2 ⟨(fa, fl, fc), rfl, HV.out.below hbf, hbf⟩

end Go.Proofs.Qxb6500665aDoor
