/- WindowClassIsIntervalDefinition, walked. -/
import Derived.Test.Qxb6500665aWinParts
import Derived.Test.Qxb6500665aSmall
import Derived.Deep.DeepCutAuto
import Derived.Deep.CutBlock
import Derived.Deep.LoopGhost
namespace Go.Proofs.Qxb6500665a
open Go.RowKit Go.Proofs.Qxb6500665a.Cal

section
variable (ρ : Operand → Value) (dst : Option Tmp) (x y : Operand) (ty : TypeId) (pos : String) (after : Array Edge) (guard : Option (Nat × Bool))
theorem exec_ldOp : execOp ρ { dst, op := .load 37 x, type := ty, pos, after, guard } = (do pure (.value (← ldS 37 (ρ x)))) := rfl
theorem exec_stOp : execOp ρ { dst, op := .store 37 x y, type := ty, pos, after, guard } = (do stS 37 (ρ x) (ρ y); pure .skip) := rfl
end
theorem run_ldOp (w : World) (b off : Nat) : (ldS 37 (.pointer (some ⟨b, off, none⟩))).run Try.prog w = match rng w b off 10 with | some cs => .ok (.agg cs) w | none => (Instr.loadAt 37 (.pointer (some ⟨b, off, none⟩))).run Try.prog w :=
  run_ldS Try.underlying37 Try.size37 w b off
theorem run_stOp (w : World) (b : Nat) (cs : Array Value) : (stS 37 (.pointer (some ⟨b, 0, none⟩)) (.agg cs)).run Try.prog w = if whole w b 10 = true ∧ ones cs 10 = true then .ok () (w.setRow b cs) else (Instr.storeAt 37 (.pointer (some ⟨b, 0, none⟩)) (.agg cs)).run Try.prog w := run_stS Try.size37 w b cs
theorem opCs_ones (o : Op) (la va : Option Addr) (ln lc vn vc : Nat) : ones (opCs o (.slice la ln lc) (.slice va vn vc)) 10 = true := rfl
theorem opCs_size (o : Op) (lv vv : Value) : (opCs o lv vv).size = 10 := rfl

attribute [local go_sem] ext_const Ext.cell Ext.frozen Ext.rng Ext.whole
attribute [local go_sem ↓] exec_ldOp exec_stOp exec_stVersion exec_stSubject exec_ldVisit exec_stVisit exec_stPlacement exec_neqPl exec_bs4 exec_bs2
attribute [local go_sem] run_ldOp run_stOp opCs_ones run_stVersion run_stSubject run_ldVisit run_stVisit run_stPlacement run_neqPl run_bs4 run_bs2 run_bs2u ones_iis ones_iii ones_iiii ones_visit ones_hf errOr_zero whole_alloc_lt whole_alloc_at whole_drew whole_setCell_other whole_setRow_other setRow_alloc_at setRow_alloc_lt rng_alloc_lt rng_drew rng_drewN

theorem u32s_form {w : World} {ok : Nat → Prop} {v : Value} {xs : List Int} (h : U32sAt w ok v xs) : ∃ a cap, v = .slice a xs.length cap := by
  obtain ⟨a, cap, b, off, h1, -⟩ := h
  exact ⟨a, cap, h1⟩

/-- A step of the script as it lies in memory. -/
theorem op_at {w : World} {ok : Nat → Prop} {b off : Nat} {o : Op} {cs : List Value} (h : EOp w ok cs o) (hc : ∀ j (hj : j < cs.length), w.cell? ⟨b, off + j, none⟩ = some cs[j]) :
    ∃ la ln lc va vn vc, rng w b off 10 = some (opCs o (.slice la ln lc) (.slice va vn vc)) ∧ o.Ok ∧ U32sAt w ok (.slice la ln lc) o.list ∧ VisitsAt w ok (.slice va vn vc) o.visits := by
  obtain ⟨lv, vv, rfl, a1, a2, a3, a4, a5, a6, a7, a8, hl, hv⟩ := h
  obtain ⟨l1, l2⟩ := U32sAt.of_arr hl
  obtain ⟨v1, v2⟩ := VisitsAt.of_arr hv
  obtain ⟨la, lc, hla⟩ := u32s_form l1
  obtain ⟨va, vc, hva⟩ := v1.form
  subst hla hva
  refine ⟨_, _, _, _, _, _, ?_, ⟨a1, a2, a3, a4, a5, a6, a7, a8, l2, v2⟩, l1, v1⟩
  exact rng_of_cells (by simp) hc

set_option maxRecDepth 100000 in
set_option maxHeartbeats 0 in
theorem win_walk (w : World) (v : Value) (s : List Op) (h : Script w (· < w.heap.size) v s) :
    Calls Try.prog 3 #[v] w fun e w' => e = .returned (.bool true) ∧ Below w.heap.size w w' := by
  have hsm := small_calls w _ v s h
  by_cases htot : total s ≤ 65536
  case neg =>
    rw [decide_eq_false htot] at hsm
    clear htot
    obtain ⟨a, cap, b, off, rfl, hl, hm, hr, ha, hc⟩ := h
    clear ha hc
    go_enter Try.func3, Try.ntmps3
    have HS := hide hsm
    clear hsm
    go_wp2_with (go_at_call 9; refine (HS.out).mono ?_; rintro e w' ⟨rfl, rfl⟩)
    go_ret
    exact ⟨rfl, Below.refl _ _⟩
  rw [decide_eq_true htot] at hsm
  have hlen : s.length ≤ 65536 := by unfold total at htot; omega
  clear htot
  obtain ⟨a, cap, b, off, rfl, hl, hm, hr, ha, hc⟩ := h
  obtain ⟨n, hn⟩ : ∃ n, n = s.length := ⟨_, rfl⟩
  have Hn : Hid (n = s.length) := hn
  rw [← hn] at hl hr ha hlen hsm ⊢
  have hi := run_indexAt_arr (P := Try.prog) (cap := cap) Try.underlying22 Try.size37 (fun h => (ha h).1)
  have HB : Hid (0 < n → b < w.heap.size) := fun h => (ha h).2
  have HC := hide hc
  have HS := hide hsm
  clear ha hc hn hsm hm hl
  go_enter Try.func3, Try.ntmps3
  go_upto_region 3 with (go_at_call 9; refine (HS.out).mono ?_; rintro e w' ⟨rfl, rfl⟩)
  go_upto_region 4 with (go_at_call 10; refine (newBench_calls _).mono ?_; rintro e w1 ⟨rfl, hB1, hs1, hb1⟩)
  have HLS := hide (ls_start hB1 hs1 hb1)
  go_upto_region 6 with fail
  obtain ⟨w2, hw2⟩ : ∃ w2, w2 = w1.alloc (.cells #[.slice none 0 0, .slice none 0 0, .slice none 0 0] 30) := ⟨_, rfl⟩
  rw [← hw2] at HLS ⊢
  obtain ⟨B, hB⟩ : ∃ B, B = w.heap.size + 2 := ⟨_, rfl⟩
  obtain ⟨h, hh⟩ : ∃ h, h = w.heap.size + 3 := ⟨_, rfl⟩
  rw [← hB, ← hh] at HLS ⊢
  clear hB hh hw2 HS hB1 hs1 hb1
  go_wp2
  refine wp_loop_mask bL1 (fun g x wr => ∃ q : Nat, q ≤ n ∧ g = n - q ∧ x.2 = .int .i64 q ∧ ∃ A D T full hv hs days, Hid (LS w wr B w.heap.size h A D T full hv hs x.1 days q) ∧ days.length ≤ q) n (.slice none 0 0, .int .i64 0) ⟨0, by omega, by omega, rfl, _, _, _, _, _, _, _, HLS, by simp⟩ (by kernel_rfl) ?_
  clear HLS
  rintro gk1 ⟨u5, x48⟩ u1 wr hrel J1 K1 hJ1 hK1
  dsimp only [bL1, maskL_keep, maskL_any, maskL_is, maskL_nil]
  ·
    as_aux_lemma =>
    obtain ⟨q, hq, rfl, rfl, A, D, T, full, hv, hs, days, HL, hdl⟩ := hrel
    by_cases hlt : q < n
    ·
      --B
      have hqs : q < s.length := by rw [← Hn.out]; exact hlt
      have hbb := HB.out (by omega)
      obtain ⟨cs, -, hE, hcell⟩ := HC.out q hqs
      obtain ⟨la, ln, lc, va, vn, vc, hrg, hok, hlist, hvis⟩ := op_at hE hcell
      clear hE hcell
      have hbel := HL.out.below
      rw [← rng_of_block (hbel.block b hbb)] at hrg
      have hbw : b < wr.heap.size := by have := hbel.size; omega
      generalize s[q] = o at *
      obtain ⟨cs, hcs⟩ : ∃ cs, cs = opCs o (.slice la ln lc) (.slice va vn vc) := ⟨_, rfl⟩
      have HCS := hide hcs
      have hones : ones cs 10 = true := by rw [hcs]; rfl
      have hcsz : cs.size = 10 := by rw [hcs]; rfl
      rw [← hcs] at hrg
      clear hcs
      go_upto_region 9 with fail
      obtain ⟨wa, hwa⟩ : ∃ wa, wa = wr.alloc (.cells cs 37) := ⟨_, rfl⟩
      rw [← hwa]
      have hba : Below wr.heap.size wr wa := by rw [hwa]; exact (Below.refl _ _).alloc (Nat.le_refl _) _
      have hga : wa.heap[wr.heap.size]? = some (.cells cs 37 (0, 0)) := by rw [hwa]; exact heap_alloc_at _ _
      have hsa : wa.heap.size = wr.heap.size + 1 := by rw [hwa]; simp
      have hra : rng wa wr.heap.size 0 10 = some cs := by have := rng_whole hga; rw [hcsz] at this; exact this
      have hgl : wr.heap.size < wa.heap.size := by omega
      have HLd := hide (HL.out.ext hba.drew)
      have HVd : Hid (VisitsAt wa.drew (· < w.heap.size) (.slice va vn vc) o.visits) := hvis.mono (fun b hb => (hbel.trans (hba.drew.mono hbel.size)).block b hb) (fun _ h => h)
      have HST := hide (HLd.out.step (by omega) hok (hlist.mono (fun b hb => (hbel.trans (hba.drew.mono hbel.size)).block b hb) (fun _ h => h)) HVd.out)
      rw [← HCS.out] at HST
      have HNO : Hid (∀ w4 a, Mid w wa.drew w4 B w.heap.size A T q o a → Calls Try.prog 11 #[.pointer (some ⟨h, 0, none⟩), .agg cs, .agg (ansCs a)] w4 fun e w5 => e = .returned (.tuple #[]) ∧ LSx w w5 B w.heap.size h u5 days (q + 1) ∧ w5.heap[wr.heap.size]? = some (.cells cs 37 (0, 0))) := fun w4 a hm => by
        have h9 := HLd.out.note (la := la) (ln := ln) (lc := lc) (by omega) hm hok HVd.out
        rw [← HCS.out] at h9
        refine h9.mono ?_
        rintro e w5 ⟨rfl, h1, h2⟩
        exact ⟨rfl, h1, (h2 wr.heap.size (by show _ < wa.heap.size; omega) (HL.out.fresh (Nat.le_refl _))).trans hga⟩
      have HR4 : Hid (∀ w4 a, Mid w wa.drew w4 B w.heap.size A T q o a → rng w4 wr.heap.size 0 10 = some cs) := fun w4 a hm => by
        obtain ⟨-, -, -, -, h3, -⟩ := hm
        obtain ⟨f1, f2, -⟩ := HL.out.fresh (Nat.le_refl _)
        rw [rng_of_block (h3 wr.heap.size (by show _ < wa.heap.size; omega) f1 f2)]
        exact hra
      clear hwa hlist hvis HVd HLd
      go_cut [] (fun W => LSx w W B w.heap.size h u5 days (q + 1) ∧ W.heap[wr.heap.size]? = some (.cells cs 37 (0, 0)))
      case first =>
        as_aux_lemma =>
        refine wp_region_mixT wa.heap.size [2] (by kernel_rfl) ?_
        refine mixT_slots [1] (fuel := 4) rfl (by kernel_rfl) (by kernel_rfl) (fun d _ _ _ _ h => by cases d <;> exact h) ?_
        simp only [opersAt, List.getElem?_toArray, List.getElem?_cons_zero, List.getElem?_cons_succ]
        repeat (go_big_quiet_step (fail))
        refine wpQuiet_nil ?_
        refine mixT_reads [2] (fuel := 3) rfl (by kernel_rfl) (by decide) (by kernel_rfl) (fun d _ _ _ _ h => by cases d <;> exact h) (ext_drew _ _) ?_
        simp only [opersAt, List.getElem?_toArray, List.getElem?_cons_zero, List.getElem?_cons_succ]
        repeat (go_big_quiet_step (fail))
        refine wpQuiet_nil ?_
        refine mixT_two (k := 0) (k' := 3) (by kernel_rfl) rfl rfl ?_ ?_
        · go_wp2
          first | refine ⟨Or.inr (fun h => h), ?_⟩ | skip
          refine mixT_one (k := 3) (by kernel_rfl) rfl ?_
          go_wp2_with (go_at_call 12; refine HST.out.mono ?_; rintro e w4 ⟨a4, rfl, hm⟩)
          refine ⟨Or.inl (by kernel_rfl), ?_⟩
          refine mixT_one (k := 4) (by kernel_rfl) rfl ?_
          go_wp2_with (go_at_call 11; refine (HNO.out w4 a4 hm).mono ?_; rintro e w5 ⟨rfl, hx, hy⟩)
          refine ⟨Or.inl (by kernel_rfl), ?_⟩
          refine mixT_nil (by kernel_rfl) ?_
          go_wp2
          go_meet
          case rel => exact ⟨hx, hy⟩
        · go_wp2_with (go_at_call 12; refine HST.out.mono ?_; rintro e w4 ⟨a4, rfl, hm⟩)
          refine ⟨Or.inl (by kernel_rfl), ?_⟩
          have hr4 := HR4.out w4 a4 hm
          refine mixT_one (k := 0) (by kernel_rfl) rfl ?_
          go_wp2
          refine ⟨Or.inr (fun h => h), ?_⟩
          refine mixT_one (k := 4) (by kernel_rfl) rfl ?_
          go_wp2_with (go_at_call 11; refine (HNO.out w4 a4 hm).mono ?_; rintro e w5 ⟨rfl, hx, hy⟩)
          refine ⟨Or.inl (by kernel_rfl), ?_⟩
          refine mixT_nil (by kernel_rfl) ?_
          go_wp2
          go_meet
          case rel => exact ⟨hx, hy⟩
      case rest =>
        as_aux_lemma =>
        obtain ⟨hx, hy⟩ := hcut
        rw [HCS.out] at hy
        have x0 : wc.cell? ⟨wr.heap.size, 0, none⟩ = some (.int .u8 o.kind) := by rw [World.cell?, hy]; rfl
        have x3 : wc.cell? ⟨wr.heap.size, 3, none⟩ = some (.int .i64 o.minute) := by rw [World.cell?, hy]; rfl
        have HX := hide hx
        clear hx hy HST HNO HR4 hga hra HCS hcsz hones hrg hba
        generalize o.minute = mi at *
        by_cases k6 : o.kind = 6
        · have t0 : (o.kind == 6) = true := by simp [k6]
          by_cases m0 : 0 ≤ mi
          · by_cases m1 : mi ≤ 157785119
            · have hquo : Int.tdiv mi 1440 = mi / 1440 := Int.tdiv_eq_ediv_of_nonneg m0
              obtain ⟨A', D', T', full', hv', hs', hls⟩ := HX.out
              have HAD := hide (addOnce64_calls wc w.heap.size u5 days (mi / 1440) hls.own hls.below.size (by omega))
              have HLS5 := hide hls
              clear hls k6
              go_wp2_with (go_at_call 13; refine HAD.out.mono ?_; rintro e w6 ⟨dv', rfl, ho6, hs6, hb6, hat6⟩)
              refine Handed.intro (n - (q + 1)) (by omega) ?_
              exact hJ1.out _ (dv', .int .i64 ((q + 1 : Nat) : Int)) _ _ ⟨q + 1, by omega, rfl, rfl, _, _, _, _, _, _, _, HLS5.out.day ho6 hs6 hb6 hat6 (by omega), by have := addOnce_len days (mi / 1440); omega⟩ (by kernel_rfl)
            · go_wp2
              refine Handed.intro (n - (q + 1)) (by omega) ?_
              obtain ⟨A', D', T', full', hv', hs', hls⟩ := HX.out
              exact hJ1.out _ (u5, .int .i64 ((q + 1 : Nat) : Int)) _ _ ⟨q + 1, by omega, rfl, rfl, _, _, _, _, _, _, _, hls, by omega⟩ (by kernel_rfl)
          · go_wp2
            refine Handed.intro (n - (q + 1)) (by omega) ?_
            obtain ⟨A', D', T', full', hv', hs', hls⟩ := HX.out
            exact hJ1.out _ (u5, .int .i64 ((q + 1 : Nat) : Int)) _ _ ⟨q + 1, by omega, rfl, rfl, _, _, _, _, _, _, _, hls, by omega⟩ (by kernel_rfl)
        · have t0 : (o.kind == 6) = false := by simp [k6]
          clear k6
          go_wp2
          refine Handed.intro (n - (q + 1)) (by omega) ?_
          obtain ⟨A', D', T', full', hv', hs', hls⟩ := HX.out
          exact hJ1.out _ (u5, .int .i64 ((q + 1 : Nat) : Int)) _ _ ⟨q + 1, by omega, rfl, rfl, _, _, _, _, _, _, _, hls, by omega⟩ (by kernel_rfl)
      --E
    · obtain ⟨w1, hw1⟩ : ∃ w1, w1 = wr := ⟨_, rfl⟩
      subst hw1
      have hbelW := HL.out.below
      obtain ⟨PH, ps, hfix⟩ := HL.out.fix
      have HIN := hide HL.out.inv
      have H12 := hide (hfix.twelve HIN.out)
      have HDR := hide HL.out.dr
      obtain ⟨⟨vv, ss, pv, hp, hh, o1, o2, -⟩, l1, l2, hD, hlt'⟩ := hfix.hi
      have HFX := hide hfix
      clear hfix
      have hhl := (hlt' h hD).2
      obtain ⟨c0, c1, -, -, -⟩ := cell_three hh
      obtain ⟨av, capv, bv, offv, rfl, rv1, rv2, rv3, hav, hcv⟩ := (o1.rows hvCs_size (by decide) (by omega)).lt
      obtain ⟨a2, cap2, b2, off2, rfl, r1, r2, r3, ha2, hc2⟩ := (o2.rows suCs_size (by decide) (by omega)).lt
      obtain ⟨ad0, capd, bd, offd, hdv, rd1, rd2, rd3, had, hcd⟩ := (HL.out.own.rows i64Cs_size (by decide) (by omega)).lt
      subst hdv
      obtain ⟨ns, hns⟩ : ∃ ns, ns = hs.length := ⟨_, rfl⟩
      obtain ⟨nv, hnv⟩ : ∃ nv, nv = hv.length := ⟨_, rfl⟩
      obtain ⟨nd, hnd⟩ : ∃ nd, nd = days.length := ⟨_, rfl⟩
      have HNS := hide hns
      have HNV := hide hnv
      have HND := hide hnd
      have hqn : q ≤ 65536 := by omega
      have hnd' : nd ≤ 65536 := by omega
      have hnv' : nv ≤ 65536 := by omega
      have hns' : ns ≤ 65536 := by omega
      rw [← hns] at r1 r3 ha2 c1
      rw [← hnv] at c0 rv1 rv3 hav
      rw [← hnd] at rd1 rd3 had ⊢
      have hi2 := run_indexAt_arr (P := Try.prog) (n := ns) (cap := cap2) Try.underlying27 Try.sz48 (fun h => (ha2 h).1)
      have HB2 : Hid (0 < ns → b2 < w1.heap.size) := fun h => (ha2 h).2.2
      have HC2 := hide hc2
      have hi3 := run_indexAt_arr (P := Try.prog) (n := nv) (cap := capv) Try.underlying26 Try.sz44 (fun h => (hav h).1)
      have HB3 : Hid (0 < nv → bv < w1.heap.size) := fun h => (hav h).2.2
      have HC3 := hide hcv
      have HAD := hide had
      have HCD := hide hcd
      have HRD := hide rd2
      have HBW := hide hbelW
      clear hbelW ha2 hc2 hav hcv had hcd hh o1 o2 HL hns hnv hnd l1 l2 hdl r2 rv2 rd2 hlt' hD HB HC Hn hi r1 r3 rv1 rv3 rd1 rd3
      go_wp2
      clear hJ1 hK1
      refine wp_loop_mask bL2 (fun g j wr => ∃ k : Nat, k ≤ ns ∧ g = ns - k ∧ j = .int .i64 k ∧ Below w1.heap.size w1 wr) ns (.int .i64 0) ⟨0, by omega, by omega, rfl, Below.refl _ _⟩ (by kernel_rfl) ?_
      intro gk2 x79 u wr hrel J2 K2 hJ2 hK2
      dsimp only [bL2, maskL_keep, maskL_any, maskL_is, maskL_nil]
      as_aux_lemma =>
      obtain ⟨k, hk, rfl, rfl, hbk⟩ := hrel
      by_cases hkn : k < ns
      case neg =>
        go_wp2
        go_ret
        exact ⟨rfl, HBW.out.trans (hbk.mono HBW.out.size)⟩
      case pos =>
        have hks : k < hs.length := by rw [← HNS.out]; exact hkn
        have hbb := HB2.out (by omega)
        have hr0 := HC2.out k hks
        rw [← rng_of_block (hbk.block b2 hbb)] at hr0
        have HSM : Hid (hs[k] ∈ hs) := List.getElem_mem hks
        generalize hs[k] = sx at *
        have e0 := (rng_cell hr0).2 0 (by decide)
        have e1 := (rng_cell hr0).2 1 (by decide)
        have e2 := (rng_cell hr0).2 2 (by decide)
        obtain ⟨si, st, sa⟩ := sx
        simp only [suCs, List.getElem?_toArray, List.getElem?_cons_zero, List.getElem?_cons_succ, Nat.add_zero] at e0 e1 e2
        obtain ⟨-, hsa0, hsa1, -⟩ := HIN.out.subs _ HSM.out
        simp only at hsa0 hsa1
        clear hr0
        go_upto_region 17 with fail
        obtain ⟨w3, hw3⟩ : ∃ w3, w3 = wr.alloc (.cells #[.int .u32 si, .int .u32 st, .int .i64 sa] 48) := ⟨_, rfl⟩
        rw [← hw3]
        have hb3 : Below wr.heap.size wr w3 := by rw [hw3]; exact (Below.refl _ _).alloc (Nat.le_refl _) _
        have hs3 : w3.heap.size = wr.heap.size + 1 := by rw [hw3]; simp
        have hG3 : w3.heap[wr.heap.size]? = some (.cells #[.int .u32 si, .int .u32 st, .int .i64 sa] 48 (0, 0)) := by rw [hw3]; exact heap_alloc_at _ _
        clear hw3 e0 e1 e2
        obtain ⟨g0, -, g2, -, -⟩ := cell_three hG3
        have hb13 : Below w1.heap.size w1 w3 := hbk.trans (hb3.mono hbk.size)
        have hquo : Int.tdiv sa 1440 = sa / 1440 := Int.tdiv_eq_ediv_of_nonneg hsa0
        obtain ⟨gs, hgs⟩ : ∃ gs, gs = wr.heap.size := ⟨_, rfl⟩
        rw [← hgs] at hs3 hG3 g0 g2 ⊢
        have HBK := hide (And.intro hbk hgs)
        have HS3 := hide hs3
        have hgl3 : gs < w3.heap.size := by omega
        clear hbk hb3 hgs hs3
        as_aux_lemma =>
        go_upto_region 18 with fail
        obtain ⟨ad, hadq⟩ : ∃ ad, ad = sa / 1440 := ⟨_, rfl⟩
        rw [← hadq]
        have had0 : 0 ≤ ad := by omega
        have had1 : ad ≤ 109572 := by omega
        have HADQ := hide hadq
        have HG3 := hide hG3
        clear hadq hquo hsa0 hsa1 g0 g2 hG3
        as_aux_lemma =>
        have hsrc : 0 < nd → ∃ b off, ad0 = some ⟨b, off, none⟩ ∧ ∀ i (h : i < days.length), rng (w3.alloc (.cells #[.int .i64 (-1), .int .i64 0, .int .i64 109572, .int .i64 109573] 2)) b (off + i * 1) 1 = some (i64Cs days[i]) := fun hp => by
          obtain ⟨h1, h2, h3⟩ := HAD.out hp
          refine ⟨bd, offd, h1, fun i hi => ?_⟩
          have := hb13.size
          rw [rng_of_block (Below.heap_alloc _ _ _ (by omega)), rng_of_block (hb13.block bd h3)]
          exact HCD.out i hi
        have hnear0 : ∀ d ∈ [-1, 0, 109572, 109573] ++ days, nearD d := fun d hd => by
          rcases List.mem_append.1 hd with hd | hd
          · simp at hd; unfold nearD; omega
          · have := HDR.out d hd; unfold nearD; omega
        have HNEAR := hide hnear0
        have HOL : Hid (OwnR (w3.alloc (.cells #[.int .i64 (-1), .int .i64 0, .int .i64 109572, .int .i64 109573] 2)) w3.heap.size 2 1 i64Cs (.slice (some ⟨w3.heap.size, 0, none⟩) 4 4) [-1, 0, 109572, 109573]) := own_lit i64Cs_size [-1, 0, 109572, 109573] (Nat.le_refl _) (by decide)
        have HSRC := hide hsrc
        clear hnear0 hsrc
        go_upto_region 19 with (at_builtin; refine wpList_appN (α := Int) rfl _ _ 31 rfl w3.heap.size 2 i64Cs Try.underlying31 Try.info2 rfl (by decide) i64Cs_size i64Cs_one (.slice (some ⟨w3.heap.size, 0, none⟩) 4 4) [-1, 0, 109572, 109573] (by kernel_rfl) HOL.out ad0 nd capd (by kernel_rfl) days HND.out HRD.out.2 HSRC.out (by simp; omega) (by unfold maxLen; simp; omega) (by simp) ?_; intro pv wb hownB hsameB hbelB hatB)
        have hbb3 : Below w3.heap.size w3 wb := ((Below.refl _ _).alloc (Nat.le_refl _) _).trans hbelB
        have HPI0 := hide (PI.start hownB hbb3 HNEAR.out)
        clear hownB hsameB hbelB hatB HSRC HNEAR
        as_aux_lemma =>
        go_upto_region 20 with fail
        obtain ⟨wq, hwq⟩ : ∃ wq, wq = wb.alloc (.cells #[.int .u32 0, .int .u32 4000000000] 33) := ⟨_, rfl⟩
        rw [← hwq] at HPI0 ⊢
        clear hwq
        have hl0 : ([-1, 0, 109572, 109573] ++ days).length = 4 + nd := by rw [HND.out]; simp; omega
        generalize [-1, 0, 109572, 109573] ++ days = P0 at HPI0 hl0
        have c0q : wq.cell? ⟨h, 0, none⟩ = some (.slice av nv capv) := by
          have := hb13.size
          rw [cellB ((hb13.trans (HPI0.out.below.mono this)).block h hhl)]; exact c0
        generalize (Value.slice (some ⟨wb.heap.size, 0, none⟩) 2 2) = iv at HPI0 ⊢
        have hl0' : P0.length ≤ 4 + nd := by omega
        clear hl0 hbb3
        as_aux_lemma =>
        go_wp2
        clear c0q
        refine wp_loop_mask bL3 (fun g x wr => ∃ k : Nat, k ≤ nv ∧ g = nv - k ∧ x.2.2 = .int .i64 k ∧ ∃ P I, Hid (PI w3 wr x.1 x.2.1 P I) ∧ P.length ≤ 4 + nd + 48 * k ∧ I.length ≤ 2 + 12 * k) nv (pv, iv, .int .i64 0) ⟨0, by omega, by omega, rfl, _, _, HPI0, by omega, by simp⟩ (by kernel_rfl) ?_
        clear HPI0 hl0'
        rintro gk3 ⟨pv3, iv3, x93⟩ u3 W hrel J3 K3 hJ3 hK3
        dsimp only [bL3, maskL_keep, maskL_any, maskL_is, maskL_nil]
        as_aux_lemma =>
        obtain ⟨k3, hk3, rfl, rfl, P, I, HPI, hPl, hIl⟩ := hrel
        by_cases hkv : k3 < nv
        case pos =>
          --B
          have hkh : k3 < hv.length := by rw [← HNV.out]; exact hkv
          have hbb := HB3.out (by omega)
          have hbW : Below w1.heap.size w1 W := hb13.trans (HPI.out.below.mono hb13.size)
          have hr0 := HC3.out k3 hkh
          rw [← rng_of_block (hbW.block bv hbb)] at hr0
          have HVM : Hid (hv[k3] ∈ hv) := List.getElem_mem hkh
          generalize hv[k3] = vx at *
          have e0 := (rng_cell hr0).2 0 (by decide)
          have e1 := (rng_cell hr0).2 1 (by decide)
          have e2 := (rng_cell hr0).2 2 (by decide)
          obtain ⟨xn, xe, ⟨xa, xl, xc⟩, xv⟩ := vx
          simp only [hvCs, sv, List.getElem?_toArray, List.getElem?_cons_zero, List.getElem?_cons_succ, Nat.add_zero] at e0 e1 e2
          obtain ⟨hxl, hxc, hxm, bx, offx, hax, hcx⟩ := vis_at (a := xa) (n := xl) (c := xc) (vs := xv) (HFX.out.vis _ HVM.out)
          have h12 : xl ≤ 12 := by rw [hxl]; exact H12.out _ HVM.out
          have HVB : Hid (∀ v ∈ xv, VB v) := (HIN.out.good _ HVM.out).vb
          have HXL := hide hxl
          have hi4 := run_indexAt_arr (P := Try.prog) (n := xl) (cap := xc) Try.underlying35 Try.size55 (fun h => (hax h).1)
          have HC4 := hide hcx
          clear hr0 hxl hax hcx hxm hxc
          go_upto_region 23 with fail
          obtain ⟨W2, hW2⟩ : ∃ W2, W2 = W.alloc (.cells #[.int .u32 xn, .int .i64 xe, .slice xa xl xc] 44) := ⟨_, rfl⟩
          rw [← hW2]
          have hG2 : W2.heap[W.heap.size]? = some (.cells #[.int .u32 xn, .int .i64 xe, .slice xa xl xc] 44 (0, 0)) := by rw [hW2]; exact heap_alloc_at _ _
          have HPI2 := hide (HPI.out.ext (W' := W2) (by rw [hW2]; exact (Below.refl _ _).alloc (Nat.le_refl _) _))
          obtain ⟨-, -, g2, -, -⟩ := cell_three hG2
          clear hW2 e0 e1 e2 hG2 HPI hbW
          go_wp2
          clear g2
          refine wp_loop_mask bL4 (fun g x wr => ∃ j : Nat, j ≤ xl ∧ g = xl - j ∧ x.2.2 = .int .i64 j ∧ ∃ P I, Hid (PI w3 wr x.1 x.2.1 P I) ∧ P.length ≤ 4 + nd + 48 * k3 + 4 * j ∧ I.length ≤ 2 + 12 * k3 + j) xl (pv3, iv3, .int .i64 0) ⟨0, by omega, by omega, rfl, _, _, HPI2, by omega, by omega⟩ (by kernel_rfl) ?_
          clear HPI2 hPl hIl
          rintro gk4 ⟨pv4, iv4, x100⟩ u4 W4 hrel J4 K4 hJ4 hK4
          dsimp only [bL4, maskL_keep, maskL_any, maskL_is, maskL_nil]
          as_aux_lemma =>
          obtain ⟨j, hj, rfl, rfl, P, I, HPI, hPl, hIl⟩ := hrel
          by_cases hjx : j < xl
          case pos =>
            have hjv : j < xv.length := by rw [← HXL.out]; exact hjx
            have hbW : Below w.heap.size w1 W4 := (hb13.trans (HPI.out.below.mono hb13.size)).mono HBW.out.size
            obtain ⟨pa, pn, pc, hrg⟩ := HC4.out W4 (fun b hb => hbW.block b hb) j hjv
            obtain ⟨vt1, vt2, ve1, ve2, vl1, vl2⟩ := HVB.out _ (List.getElem_mem hjv)
            generalize xv[j] = y at *
            obtain ⟨yid, yt, ye, yl, yp⟩ := y
            simp only at hrg vt1 vt2 ve1 ve2 vl1 vl2
            clear hbW
            go_upto_region 26 with fail
            obtain ⟨Wa, hWa⟩ : ∃ Wa, Wa = W4.alloc (.cells #[.int .u32 yid, .int .i64 yt, .int .i64 ye, .int .i64 yl, .slice pa pn pc] 55) := ⟨_, rfl⟩
            rw [← hWa]
            have hGa : Wa.heap[W4.heap.size]? = some (.cells #[.int .u32 yid, .int .i64 yt, .int .i64 ye, .int .i64 yl, .slice pa pn pc] 55 (0, 0)) := by rw [hWa]; exact heap_alloc_at _ _
            have hba : Below W4.heap.size W4 Wa := by rw [hWa]; exact (Below.refl _ _).alloc (Nat.le_refl _) _
            have hsa : Wa.heap.size = W4.heap.size + 1 := by rw [hWa]; simp
            have y0 : Wa.cell? ⟨W4.heap.size, 0, none⟩ = some (.int .u32 yid) := by rw [World.cell?, hGa]; rfl
            have y1 : Wa.cell? ⟨W4.heap.size, 1, none⟩ = some (.int .i64 yt) := by rw [World.cell?, hGa]; rfl
            have y2 : Wa.cell? ⟨W4.heap.size, 2, none⟩ = some (.int .i64 ye) := by rw [World.cell?, hGa]; rfl
            have y3 : Wa.cell? ⟨W4.heap.size, 3, none⟩ = some (.int .i64 yl) := by rw [World.cell?, hGa]; rfl
            have HGa := hide hGa
            have HSA := hide hsa
            have hgla : W4.heap.size < Wa.heap.size := by omega
            clear hWa hrg hGa hsa
            go_wp2
            obtain ⟨W5, hW5⟩ : ∃ W5, W5 = Wa.alloc (.cells #[.int .i64 (ad + yt - ye - 1), .int .i64 (ad + yt - ye), .int .i64 (ad + yt + yl), .int .i64 (ad + yt + yl + 1)] 2) := ⟨_, rfl⟩
            rw [← hW5]
            have hG5 : W5.heap[Wa.heap.size]? = some (.cells #[.int .i64 (ad + yt - ye - 1), .int .i64 (ad + yt - ye), .int .i64 (ad + yt + yl), .int .i64 (ad + yt + yl + 1)] 2 (0, 0)) := by rw [hW5]; exact heap_alloc_at _ _
            have hb5 : Below Wa.heap.size Wa W5 := by rw [hW5]; exact (Below.refl _ _).alloc (Nat.le_refl _) _
            have hs5 : W5.heap.size = Wa.heap.size + 1 := by rw [hW5]; simp
            have HPI5 := hide (HPI.out.ext (W' := W5) (hba.trans (hb5.mono hba.size)))
            have HPB : Hid (∀ b, pv4.ownBlock = some b → b < W4.heap.size) := fun b hb => (HPI.out.p.block b hb).2
            have HG5 := hide hG5
            have HGx : Hid (W5.heap[W4.heap.size]? = _) := (hb5.block W4.heap.size (by omega)).trans HGa.out
            obtain ⟨g4, hg4⟩ : ∃ g4, g4 = Wa.heap.size := ⟨_, rfl⟩
            have hsa := HSA.out
            have hs5' := hs5
            rw [← hg4] at hs5 hsa HG5 ⊢
            obtain ⟨gx, hgx⟩ : ∃ gx, gx = W4.heap.size := ⟨_, rfl⟩
            rw [← hgx] at hsa HPB HGx ⊢
            have HSZ := hide (And.intro hsa hs5)
            have hn1 : nearD (ad + yt - ye - 1) := by unfold nearD; omega
            have hn2 : nearD (ad + yt - ye) := by unfold nearD; omega
            have hn3 : nearD (ad + yt + yl) := by unfold nearD; omega
            have hn4 : nearD (ad + yt + yl + 1) := by unfold nearD; omega
            have HN5 := hide (And.intro hn1 (And.intro hn2 (And.intro hn3 hn4)))
            have hi5 := run_indexAt_arr (P := Try.prog) (n := 4) (cap := 4) (a := some ⟨g4, 0, none⟩) (b := g4) (off := 0) Try.underlying31 Try.size2 (fun _ => rfl)
            clear hW5 hG5 hb5 hba y0 y1 y2 y3 HGa hn1 hn2 hn3 hn4 HPI hg4 hgx hs5 hsa hs5' HSA hgla
            refine wp_loop_mask bL5 (fun g x wr => ∃ i : Nat, i ≤ 4 ∧ g = 4 - i ∧ x.2 = .int .i64 i ∧ ∃ P', Hid (PI5 w3 W5 wr pv4 x.1 P') ∧ P'.length ≤ 4 + nd + 48 * k3 + 4 * j + i) 4 (pv4, .int .i64 0) ⟨0, by omega, by omega, rfl, _, HPI5.out.start5, by omega⟩ (by kernel_rfl) ?_
            rintro gk5 ⟨pv5, x136⟩ u5' Wx hrel J5 K5 hJ5 hK5
            dsimp only [bL5, maskL_keep, maskL_any, maskL_is, maskL_nil]
            as_aux_lemma =>
            obtain ⟨i, hi, rfl, rfl, P', HP5, hP'l⟩ := hrel
            have hp5s := HP5.out.below.size
            have hw3s := HPI5.out.below.size
            obtain ⟨hsa, hs5⟩ := HSZ.out
            by_cases hi4' : i < 4
            case pos =>
              obtain ⟨n1, n2, n3, n4⟩ := HN5.out
              obtain ⟨day, hday, HDN⟩ := lit4_at ((HP5.out.same g4 ⟨by omega, fun e => by have := HPB.out g4 e; omega⟩).trans HG5.out) nearD n1 n2 n3 n4 i hi4'
              have HAO := hide (addOnce64_calls Wx w3.heap.size pv5 P' day HP5.out.p (by omega) (by omega))
              clear n1 n2 n3 n4 hsa hs5 hp5s hw3s
              go_wp2_with (go_at_call 13; refine HAO.out.mono ?_; rintro e W6 ⟨pv6, rfl, ho6, hs6, hb6, hat6⟩)
              refine Handed.intro (4 - (i + 1)) (by omega) ?_
              exact hJ5.out _ (pv6, .int .i64 ((i + 1 : Nat) : Int)) _ _ ⟨i + 1, by omega, rfl, rfl, _, HP5.out.next HDN.out ho6 hs6 hb6 hat6, by have := addOnce_len P' day; omega⟩ (by kernel_rfl)
            case neg =>
              have y0 : Wx.cell? ⟨gx, 0, none⟩ = some (.int .u32 yid) := by rw [World.cell?, HP5.out.same gx ⟨by omega, fun e => by have := HPB.out gx e; omega⟩, HGx.out]; rfl
              have HAO := hide (addOnce32_calls Wx w3.heap.size iv4 I yid (HPI5.out.ids5 HP5.out) (by omega) (by omega))
              clear hsa hs5 hp5s hw3s
              go_wp2_with (go_at_call 15; refine HAO.out.mono ?_; rintro e W6 ⟨iv6, rfl, ho6, hs6, hb6, hat6⟩)
              refine Handed.intro (xl - (j + 1)) (by omega) ?_
              exact hJ4.out _ (pv5, iv6, .int .i64 ((j + 1 : Nat) : Int)) _ _ ⟨j + 1, by omega, rfl, rfl, _, _, HPI5.out.id HP5.out ho6 hs6 hb6 hat6, by omega, by have := addOnce_len I yid; omega⟩ (by kernel_rfl)
          case neg =>
            go_wp2
            refine Handed.intro (nv - (k3 + 1)) (by omega) ?_
            exact hJ3.out _ (pv4, iv4, .int .i64 ((k3 + 1 : Nat) : Int)) _ _ ⟨k3 + 1, by omega, rfl, rfl, _, _, HPI, by omega, by omega⟩ (by kernel_rfl)
          --E
        case neg =>
          have hbW6 : Below w1.heap.size w1 W := hb13.trans (HPI.out.below.mono hb13.size)
          have hw3l := HPI.out.below.size
          obtain ⟨w6, hw6⟩ : ∃ w6, w6 = W := ⟨_, rfl⟩
          subst hw6
          have hG6 : w6.heap[gs]? = some (.cells #[.int .u32 si, .int .u32 st, .int .i64 sa] 48 (0, 0)) := (HPI.out.below.block gs hgl3).trans HG3.out
          have hgl6 : gs < w6.heap.size := by omega
          obtain ⟨ap, capp, bp, offp, hpv, q1, q2, q3, hap, hcp⟩ := (HPI.out.p.rows i64Cs_size (by decide) (by omega)).lt
          obtain ⟨ai, capi, bi, offi, hiv, t1, t2, t3, hai, hci⟩ := (HPI.out.i.rows u32Cs_size (by decide) (by omega)).lt
          have hni0 := HPI.out.pos
          have HNE := hide HPI.out.near
          subst hpv hiv
          obtain ⟨np, hnp⟩ : ∃ np, np = P.length := ⟨_, rfl⟩
          obtain ⟨ni, hni⟩ : ∃ ni, ni = I.length := ⟨_, rfl⟩
          have HNP := hide hnp
          have HNI := hide hni
          rw [← hnp] at q1 q3 hap hPl ⊢
          rw [← hni] at t1 t3 hai hIl hni0 ⊢
          have hi6 := run_indexAt_arr (P := Try.prog) (n := np) (cap := capp) Try.underlying31 Try.size2 (fun h => (hap h).1)
          have HB6 : Hid (0 < np → bp < w6.heap.size) := fun h => (hap h).2.2
          have HC6 := hide hcp
          have hi8 := run_indexAt_arr (P := Try.prog) (n := ni) (cap := capi) Try.underlying28 Try.size33 (fun h => (hai h).1)
          have HB8 : Hid (0 < ni → bi < w6.heap.size) := fun h => (hai h).2.2
          have HC8 := hide hci
          have HG6 := hide hG6
          have HBW6 := hide hbW6
          have HB13 := hide hb13
          have hnp' : np ≤ 4000000 := by omega
          have hni' : ni ≤ 4000000 := by omega
          clear hbW6 hw3l hG6 hap hcp hai hci hnp hni q1 q2 q3 t1 t2 t3 hb13 HPI hPl hIl
          go_wp2
          clear hJ3 hK3
          refine wp_loop_mask bL6 (fun g x wr => ∃ k : Nat, k ≤ np ∧ g = np - k ∧ x = .int .i64 k ∧ Below w6.heap.size w6 wr) np (.int .i64 0) ⟨0, by omega, by omega, rfl, Below.refl _ _⟩ (by kernel_rfl) ?_
          intro gk6 x152 u6 wr6 hrel J6 K6 hJ6 hK6
          dsimp only [bL6, maskL_keep, maskL_any, maskL_is, maskL_nil]
          as_aux_lemma =>
          obtain ⟨k6, hk6, rfl, rfl, hb6⟩ := hrel
          by_cases hkp : k6 < np
          case pos =>
            have hkP : k6 < P.length := by rw [← HNP.out]; exact hkp
            have hr0 := HC6.out k6 hkP
            rw [← rng_of_block (hb6.block bp (HB6.out (by omega)))] at hr0
            have hd := HNE.out _ (List.getElem_mem hkP)
            generalize P[k6] = d at *
            have e0 := (rng_cell hr0).2 0 (by decide)
            simp only [i64Cs, List.getElem?_toArray, List.getElem?_cons_zero, Nat.add_zero, Nat.mul_one] at e0
            have hd1 : -20000 ≤ d := hd.1
            have hd2 : d ≤ 200000 := hd.2
            have HML := hide (And.intro (minOf_lo hd) (minOf_hi hd))
            clear hr0 hd
            go_wp2
            obtain ⟨w7, hw7⟩ : ∃ w7, w7 = wr6.alloc (.cells #[.int .i64 (d * 1440), .int .i64 (d * 1440 + 1440 - 1)] 2) := ⟨_, rfl⟩
            rw [← hw7]
            have hG7 : w7.heap[wr6.heap.size]? = some (.cells #[.int .i64 (d * 1440), .int .i64 (d * 1440 + 1440 - 1)] 2 (0, 0)) := by rw [hw7]; exact heap_alloc_at _ _
            have hb67 : Below w6.heap.size w6 w7 := by rw [hw7]; exact hb6.alloc hb6.size _
            have hs7 : wr6.heap.size < w7.heap.size := by rw [hw7]; simp
            obtain ⟨g7, hg7⟩ : ∃ g7, g7 = wr6.heap.size := ⟨_, rfl⟩
            rw [← hg7] at hG7 hs7 ⊢
            have HG7 := hide hG7
            have HB67 := hide hb67
            have hi7 := run_indexAt_arr (P := Try.prog) (n := 2) (cap := 2) (a := some ⟨g7, 0, none⟩) (b := g7) (off := 0) Try.underlying31 Try.size2 (fun _ => rfl)
            clear hw7 hG7 hb67 e0 hg7 hb6
            refine wp_loop_mask bL7 (fun g x wr => ∃ k : Nat, k ≤ 2 ∧ g = 2 - k ∧ x = .int .i64 k ∧ Below w7.heap.size w7 wr) 2 (.int .i64 0) ⟨0, by omega, by omega, rfl, Below.refl _ _⟩ (by kernel_rfl) ?_
            intro gk7 x164 u7' wr7 hrel J7 K7 hJ7 hK7
            dsimp only [bL7, maskL_keep, maskL_any, maskL_is, maskL_nil]
            as_aux_lemma =>
            obtain ⟨k7, hk7, rfl, rfl, hb7⟩ := hrel
            by_cases hk72 : k7 < 2
            case pos =>
              obtain ⟨mlo, mhi⟩ := HML.out
              obtain ⟨m, hm, HM⟩ := lit2_at ((hb7.block g7 hs7).trans HG7.out) (minOf d) mlo mhi k7 hk72
              have HIF := hide (inForce_calls wr7 h w.heap.size D hv hs q m (HFX.out.hi.below (HBW6.out.trans ((HB67.out.trans (hb7.mono HB67.out.size)).mono HBW6.out.size))) (by omega))
              obtain ⟨O, hO⟩ : ∃ O, O = hF hv m := ⟨_, rfl⟩
              rw [← hO] at HIF
              have HOF := hide hO
              clear hO mlo mhi
              go_upto_region 41 with (go_at_call 16; refine HIF.out.mono ?_; rintro e W7 ⟨rfl, hbW7⟩)
              obtain ⟨w8, hw8⟩ : ∃ w8, w8 = W7.alloc (.cells (hfCs O) 44) := ⟨_, rfl⟩
              rw [← hw8]
              have hG8 : w8.heap[W7.heap.size]? = some (.cells (hfCs O) 44 (0, 0)) := by rw [hw8]; exact heap_alloc_at _ _
              have hb78 : Below w7.heap.size w7 w8 := by
                rw [hw8]
                exact (hb7.trans (hbW7.mono hb7.size)).alloc (by have := hb7.size; have := hbW7.size; omega) _
              have hs8 : W7.heap.size < w8.heap.size := by rw [hw8]; simp
              obtain ⟨g8, hg8⟩ : ∃ g8, g8 = W7.heap.size := ⟨_, rfl⟩
              rw [← hg8] at hG8 hs8 ⊢
              have HG8 := hide hG8
              have HB78 := hide hb78
              clear hw8 hG8 hb78 hg8 hb7 hbW7 HIF hm
              as_aux_lemma =>
              go_wp2
              refine wp_loop_mask bL8 (fun g x wr => ∃ k : Nat, k ≤ ni ∧ g = ni - k ∧ x = .int .i64 k ∧ Below w8.heap.size w8 wr) ni (.int .i64 0) ⟨0, by omega, by omega, rfl, Below.refl _ _⟩ (by kernel_rfl) ?_
              intro gk8 x175 u8 wr8 hrel J8 K8 hJ8 hK8
              dsimp only [bL8, maskL_keep, maskL_any, maskL_is, maskL_nil]
              as_aux_lemma =>
              obtain ⟨k8, hk8, rfl, rfl, hb8⟩ := hrel
              by_cases hkI : k8 < ni
              case pos =>
                have hkI' : k8 < I.length := by rw [← HNI.out]; exact hkI
                have hb68 : Below w6.heap.size w6 w8 := HB67.out.trans (HB78.out.mono HB67.out.size)
                have hb6r : Below w6.heap.size w6 wr8 := hb68.trans (hb8.mono hb68.size)
                have hb1r : Below w1.heap.size w1 wr8 := HBW6.out.trans (hb6r.mono HBW6.out.size)
                have hr0 := HC8.out k8 hkI'
                rw [← rng_of_block (hb6r.block bi (HB8.out (by omega)))] at hr0
                generalize I[k8] = id at *
                have e0 := (rng_cell hr0).2 0 (by decide)
                simp only [u32Cs, List.getElem?_toArray, List.getElem?_cons_zero, Nat.add_zero, Nat.mul_one] at e0
                have hfx := HFX.out.below hb1r
                obtain ⟨-, b1, -, hBl⟩ := cell_two hfx.ben.bench
                have s0 : wr8.cell? ⟨gs, 0, none⟩ = some (.int .u32 si) := by rw [World.cell?, (hb6r.block gs hgl6).trans HG6.out]; rfl
                have hgl8 : gs < wr8.heap.size := by have := hb6r.size; omega
                obtain ⟨rc, rn, rk, ro, rl, hR⟩ : ∃ rc rn rk ro rl, (⟨rc, rn, rk, ro, rl⟩ : Pl) = clsR T si id m := ⟨_, _, _, _, _, rfl⟩
                have HR := hide hR
                have HCALL : Hid (∀ W', Below wr8.heap.size wr8 W' → Calls Try.prog 17 #[.pointer (some ⟨PH, 0, none⟩), .int .u32 si, .int .u32 id, .int .i64 m] W' fun e W'' => e = .returned (.tuple #[.agg #[.int .u32 rn, .int .u8 rk, .int .i64 ro, .int .i64 rl], errOr rc]) ∧ Below W'.heap.size W' W'') := fun W' hW' => by
                  have h9 := classify_q' (hfx.ben.at'.below hW') hfx.rep si id m (HIN.out.subs _ HSM.out).2.2.2
                  rw [← hR] at h9
                  exact h9
                have HB8' := hide hb8
                clear hr0 hfx hb68 hb6r hb1r hR hb8
                go_upto_region 44 with fail
                clear e0
                refine wp_cut_mask bC44 (fun x W => ∃ g, x.1 = .pointer (some ⟨g, 0, none⟩) ∧ x.2 = errOr rc ∧ Below wr8.heap.size wr8 W ∧ W.heap[g]? = some (.cells #[.int .u32 rn, .int .u8 rk, .int .i64 ro, .int .i64 rl] 42 (0, 0))) ?first ?rest
                case first =>
                  intro J K' hJ hK'
                  --B
                  as_aux_lemma =>
                  refine wp_region_mixT wr8.heap.size [3, 5] (by kernel_rfl) ?_
                  refine mixT_slots [0, 1, 2, 4, 6, 7] (fuel := 9) rfl (by kernel_rfl) (by kernel_rfl) (fun d _ _ _ _ h => by cases d <;> exact h) ?_
                  simp only [opersAt, List.getElem?_toArray, List.getElem?_cons_zero, List.getElem?_cons_succ]
                  repeat (go_big_quiet_step (fail))
                  refine wpQuiet_nil ?_
                  refine mixT_reads [3, 5] (fuel := 7) rfl (by kernel_rfl) (by decide) (by kernel_rfl) (fun d _ _ _ _ h => by cases d <;> exact h) (ext_drew _ _) ?_
                  simp only [opersAt, List.getElem?_toArray, List.getElem?_cons_zero, List.getElem?_cons_succ]
                  repeat (go_big_quiet_step (fail))
                  refine wpQuiet_nil ?_
                  refine mixT_two (k := 8) (k' := 12) (by kernel_rfl) rfl rfl ?_ ?_
                  · as_aux_lemma =>
                    go_wp2_with (go_at_call 17; refine (HCALL.out _ (Below.refl _ _).drew).mono ?_; rintro e W4 ⟨rfl, hb4⟩)
                    have hb4' : Below wr8.heap.size wr8 W4 := ((Below.refl _ _).drew).trans hb4
                    refine ⟨Or.inl (by kernel_rfl), ?_⟩
                    refine mixT_slots [9, 10, 11] (fuel := 3) rfl (by kernel_rfl) (by kernel_rfl) (fun d _ _ _ _ h => by cases d <;> exact h) ?_
                    simp only [opersAt, List.getElem?_toArray, List.getElem?_cons_zero, List.getElem?_cons_succ]
                    repeat (go_big_quiet_step (fail))
                    refine wpQuiet_nil ?_
                    refine mixT_one (k := 12) (by kernel_rfl) rfl ?_
                    go_wp2
                    refine ⟨Or.inr (fun _ => ⟨⟨_, hb4'.alloc hb4'.size _⟩, rfl⟩), ?_⟩
                    refine mixT_one (k := 13) (by kernel_rfl) rfl ?_
                    go_wp2
                    refine ⟨Or.inl (by kernel_rfl), ?_⟩
                    refine mixT_one (k := 14) (by kernel_rfl) rfl ?_
                    go_wp2
                    refine ⟨Or.inr (fun h => h), ?_⟩
                    refine mixT_nil (by kernel_rfl) ?_
                    go_wp2
                    refine Met.intro ?_
                    exact hJ.out (.pointer (some ⟨W4.heap.size, 0, none⟩), errOr rc) _ _ ⟨_, rfl, rfl, hb4'.alloc hb4'.size _, heap_alloc_at _ _⟩ (by kernel_rfl)
                  · as_aux_lemma =>
                    go_wp2
                    refine ⟨Or.inr (fun _ => ⟨⟨_, ((Below.refl _ _).drew).alloc (Nat.le_refl _) _⟩, rfl⟩), ?_⟩
                    refine mixT_one (k := 8) (by kernel_rfl) rfl ?_
                    go_wp2_with (go_at_call 17; refine (HCALL.out _ (((Below.refl _ _).drew).alloc (Nat.le_refl _) _)).mono ?_; rintro e W4 ⟨rfl, hb4⟩)
                    have hb4' : Below wr8.heap.size wr8 W4 := (((Below.refl _ _).drew).alloc (Nat.le_refl _) _).trans (hb4.mono (by simp))
                    have hg4 : W4.heap[wr8.heap.size]? = some (.cells #[.int .u32 0, .int .u8 0, .int .i64 0, .int .i64 0] 42 (0, 0)) := (hb4.block _ (by simp)).trans (heap_alloc_at _ _)
                    have hw4 := whole_of_heap hg4
                    simp only [List.size_toArray, List.length_cons, List.length_nil] at hw4
                    refine ⟨Or.inl (by kernel_rfl), ?_⟩
                    refine mixT_slots [9, 10, 11] (fuel := 2) rfl (by kernel_rfl) (by kernel_rfl) (fun d _ _ _ _ h => by cases d <;> exact h) ?_
                    simp only [opersAt, List.getElem?_toArray, List.getElem?_cons_zero, List.getElem?_cons_succ]
                    repeat (go_big_quiet_step (fail))
                    refine wpQuiet_nil ?_
                    refine mixT_one (k := 13) (by kernel_rfl) rfl ?_
                    go_wp2
                    refine ⟨Or.inl (by kernel_rfl), ?_⟩
                    refine mixT_one (k := 14) (by kernel_rfl) rfl ?_
                    go_wp2
                    refine ⟨Or.inr (fun h => h), ?_⟩
                    refine mixT_nil (by kernel_rfl) ?_
                    go_wp2
                    refine Met.intro ?_
                    exact hJ.out (.pointer (some ⟨wr8.heap.size, 0, none⟩), errOr rc) _ _ ⟨_, rfl, rfl, hb4'.trans (below_setRow' _ _ (Nat.le_refl _)), heap_setRow_at hg4⟩ (by kernel_rfl)
                  --E
                case rest =>
                  rintro ⟨x28, x29⟩ uC wc hcut
                  dsimp only [bC44, maskL_keep, maskL_any, maskL_is, maskL_nil]
                  as_aux_lemma =>
                  obtain ⟨g28, rfl, rfl, hbc, hG28⟩ := hcut
                  have hbfin : Below w8.heap.size w8 wc := HB8'.out.trans (hbc.mono HB8'.out.size)
                  have HBF := hide hbfin
                  have hG8c : wc.heap[g8]? = some (.cells (hfCs O) 44 (0, 0)) := (hbfin.block g8 hs8).trans HG8.out
                  have HG8c := hide hG8c
                  have hgl : g28 < wc.heap.size := by
                    apply Classical.byContradiction
                    intro hn
                    have : wc.heap[g28]? = none := by simp; omega
                    rw [hG28] at this
                    cases this
                  have p0 : wc.cell? ⟨g28, 0, none⟩ = some (.int .u32 rn) := by rw [World.cell?, hG28]; rfl
                  have p1 : wc.cell? ⟨g28, 1, none⟩ = some (.int .u8 rk) := by rw [World.cell?, hG28]; rfl
                  have p2 : wc.cell? ⟨g28, 2, none⟩ = some (.int .i64 ro) := by rw [World.cell?, hG28]; rfl
                  have p3 : wc.cell? ⟨g28, 3, none⟩ = some (.int .i64 rl) := by rw [World.cell?, hG28]; rfl
                  have HB1c : Hid (Below w.heap.size w1 wc) := (HBW6.out.trans ((HB67.out.trans (HB78.out.mono HB67.out.size)).mono HBW6.out.size)).trans (hbfin.mono (by have := HBW6.out.size; have := HB67.out.size; have := HB78.out.size; omega)) |>.mono HBW.out.size
                  clear hG28 hG8c hbfin hbc b1 s0 HCALL hBl hgl8 HB8'
                  obtain ⟨hm0, hm1, hm2, hm3, hm4⟩ := HM.out
                  by_cases hout : outB d = true
                  case pos =>
                    --B
                    as_aux_lemma =>
                    have hRe := HR.out
                    rw [HIN.out.bad (hm1 hout)] at hRe
                    obtain ⟨rfl, rfl, rfl, rfl, rfl⟩ := Pl.mk.inj hRe
                    clear hRe hm0 hm1 hm2 hm3 hm4
                    have HOU := hide (outside_calls d wc)
                    rw [hout] at HOU
                    have HCO := hide (codeOf_any 3 wc)
                    clear hout
                    go_wp2_with (first | (go_at_call 14; refine HOU.out.mono ?_; rintro e w' ⟨rfl, rfl⟩) | (go_at_call 18; refine HCO.out.mono ?_; rintro e w' ⟨rfl, rfl⟩))
                    refine Handed.intro (ni - (k8 + 1)) (by omega) ?_
                    exact hJ8.out _ (.int .i64 ((k8 + 1 : Nat) : Int)) _ _ ⟨k8 + 1, by omega, rfl, rfl, HBF.out⟩ (by kernel_rfl)
                    --E
                  case neg =>
                    have houtf : outB d = false := by simpa using hout
                    obtain ⟨hm5, hm6⟩ := hm2 houtf
                    have HM5 := hide (And.intro hm5 (And.intro hm6 hm0))
                    have HOU := hide (outside_calls d wc)
                    rw [houtf] at HOU
                    have hdr : ¬ outD d := of_decide_eq_false houtf
                    have hd3 : 0 ≤ d := by unfold outD at hdr; omega
                    have hd4 : d ≤ 109572 := by unfold outD at hdr; omega
                    clear hout houtf hdr hm0 hm1 hm2 hm3 hm4 hm5 hm6
                    as_aux_lemma =>
                    cases O with
                    | none =>
                      --B
                      as_aux_lemma =>
                      have hRe := HR.out
                      rw [HIN.out.nover HSM.out HM5.out.1 HM5.out.2.1 HOF.out.symm] at hRe
                      obtain ⟨rfl, rfl, rfl, rfl, rfl⟩ := Pl.mk.inj hRe
                      clear hRe
                      have HCO := hide (codeOf_any 20 wc)
                      go_wp2_with (first | (go_at_call 14; refine HOU.out.mono ?_; rintro e w' ⟨rfl, rfl⟩) | (go_at_call 18; refine HCO.out.mono ?_; rintro e w' ⟨rfl, rfl⟩))
                      refine Handed.intro (ni - (k8 + 1)) (by omega) ?_
                      exact hJ8.out _ (.int .i64 ((k8 + 1 : Nat) : Int)) _ _ ⟨k8 + 1, by omega, rfl, rfl, HBF.out⟩ (by kernel_rfl)
                      --E
                    | some x =>
                      as_aux_lemma =>
                      obtain ⟨xn, xe, ⟨xa, xl, xc⟩, xv⟩ := x
                      obtain ⟨hxv, hRe⟩ := HIN.out.some (id := id) HSM.out HM5.out.1 HM5.out.2.1 HOF.out.symm
                      rw [HM5.out.2.2] at hRe
                      simp only at hRe
                      rw [← HADQ.out] at hRe
                      have HR2 : Hid ((⟨rc, rn, rk, ro, rl⟩ : Pl) = clsT xn ad d id (sortV xv)) := HR.out.trans hRe
                      have HVG := hide (HIN.out.good _ hxv)
                      obtain ⟨hxl, hxc, hxm, bx, offx, hax, hcx⟩ := vis_at (a := xa) (n := xl) (c := xc) (vs := xv) (HFX.out.vis _ hxv)
                      have h12 : xl ≤ 12 := by rw [hxl]; exact H12.out _ hxv
                      have HXL := hide hxl
                      have hi9 := run_indexAt_arr (P := Try.prog) (n := xl) (cap := xc) Try.underlying35 Try.size55 (fun h => (hax h).1)
                      have HBX : Hid (0 < xl → bx < w.heap.size) := fun h => (hax h).2
                      have HC9 := hide (hcx wc (fun b hb => HB1c.out.block b hb))
                      have q0 : wc.cell? ⟨g8, 0, none⟩ = some (.int .u32 xn) := by rw [World.cell?, HG8c.out]; rfl
                      have q2 : wc.cell? ⟨g8, 2, none⟩ = some (.slice xa xl xc) := by rw [World.cell?, HG8c.out]; rfl
                      clear hRe hxv hxl hxc hxm hax hcx HR HM5
                      go_wp2_with (go_at_call 14; refine HOU.out.mono ?_; rintro e w' ⟨rfl, rfl⟩)
                      refine wp_loop_mask bL9 (fun g x wr => ∃ i : Nat, i ≤ xl ∧ g = xl - i ∧ x.2 = .int .i64 i ∧ wc = wr ∧ ((x.1 = .pointer none ∧ Hid (∀ j (hj : j < xv.length), j < i → xv[j].id ≠ id)) ∨ ∃ j, ∃ hj : j < xv.length, x.1 = .pointer (some ⟨bx, offx + j * 5, none⟩) ∧ Hid (xv[j].id = id))) xl (.pointer none, .int .i64 0) ⟨0, by omega, by omega, rfl, rfl, Or.inl ⟨rfl, fun j hj h => absurd h (by omega)⟩⟩ (by kernel_rfl) ?_
                      rintro gk9 ⟨x30, x215⟩ u9 wr9 hrel J9 K9 hJ9 hK9
                      dsimp only [bL9, maskL_keep, maskL_any, maskL_is, maskL_nil]
                      as_aux_lemma =>
                      obtain ⟨i, hi, rfl, rfl, rfl, hst⟩ := hrel
                      by_cases hix : i < xl
                      case pos =>
                        --B
                        have hiv : i < xv.length := by rw [← HXL.out]; exact hix
                        obtain ⟨pa, pn, pc, hrg⟩ := HC9.out i hiv
                        have e0 := (rng_cell hrg).2 0 (by decide)
                        simp only [List.getElem?_toArray, List.getElem?_cons_zero, Nat.add_zero] at e0
                        obtain ⟨yid, hyid⟩ : ∃ yid, yid = xv[i].id := ⟨_, rfl⟩
                        rw [← hyid] at e0
                        have HYI := hide hyid
                        have HST := hide hst
                        clear hrg hst hyid
                        by_cases heq : yid = id
                        · have t0 : (yid == id) = true := by simp [heq]
                          have HEQ := hide heq
                          clear heq
                          go_wp2
                          refine Handed.intro (xl - (i + 1)) (by omega) ?_
                          exact hJ9.out _ (.pointer (some ⟨bx, offx + i * 5, none⟩), .int .i64 ((i + 1 : Nat) : Int)) _ _ ⟨i + 1, by omega, rfl, rfl, rfl, Or.inr ⟨i, hiv, rfl, HYI.out.symm.trans HEQ.out⟩⟩ (by kernel_rfl)
                        · have t0 : (yid == id) = false := by simp [heq]
                          have HEQ := hide heq
                          clear heq
                          go_wp2
                          refine Handed.intro (xl - (i + 1)) (by omega) ?_
                          refine hJ9.out _ (x30, .int .i64 ((i + 1 : Nat) : Int)) _ _ ⟨i + 1, by omega, rfl, rfl, rfl, ?_⟩ (by kernel_rfl)
                          rcases HST.out with ⟨h1, h2⟩ | h
                          · refine Or.inl ⟨h1, fun j hj hji => ?_⟩
                            by_cases hjx : j < i
                            · exact h2 j hj hjx
                            · have : j = i := by omega
                              subst this
                              exact fun e => HEQ.out (HYI.out.trans e)
                          · exact Or.inr h
                        --E
                      case neg =>
                        rcases hst with ⟨rfl, hno⟩ | ⟨j, hj, rfl, hid⟩
                        · --B
                          as_aux_lemma =>
                          have hRe := HR2.out
                          rw [cls_none (fun v hv => by
                            obtain ⟨j, hj, rfl⟩ := List.getElem_of_mem hv
                            exact hno j hj (by rw [← HXL.out] at hj; omega))] at hRe
                          obtain ⟨rfl, rfl, rfl, rfl, rfl⟩ := Pl.mk.inj hRe
                          clear hRe hno
                          go_wp2
                          refine Handed.intro (ni - (k8 + 1)) (by omega) ?_
                          exact hJ8.out _ (.int .i64 ((k8 + 1 : Nat) : Int)) _ _ ⟨k8 + 1, by omega, rfl, rfl, HBF.out⟩ (by kernel_rfl)
                          --E
                        · as_aux_lemma =>
                          have HID := hide hid
                          have HMEM : Hid (xv[j] ∈ xv) := List.getElem_mem hj
                          obtain ⟨vt1, vt2, ve1, ve2, vl1, vl2⟩ := HVG.out.vb _ HMEM.out
                          obtain ⟨pa, pn, pc, hrg⟩ := HC9.out j hj
                          have y1 := (rng_cell hrg).2 1 (by decide)
                          have y2 := (rng_cell hrg).2 2 (by decide)
                          have y3 := (rng_cell hrg).2 3 (by decide)
                          simp only [List.getElem?_toArray, List.getElem?_cons_zero, List.getElem?_cons_succ] at y1 y2 y3
                          obtain ⟨y, hy⟩ : ∃ y, y = xv[j] := ⟨_, rfl⟩
                          rw [← hy] at y1 y2 y3 vt1 vt2 ve1 ve2 vl1 vl2 HID HMEM
                          obtain ⟨yi, yt, ye, yl, yp⟩ := y
                          simp only at y1 y2 y3 vt1 vt2 ve1 ve2 vl1 vl2 HID
                          clear hrg hid hy
                          go_wp2
                          refine wp_loop_mask bL10 (fun g x wr => ∃ i : Nat, i ≤ xl ∧ g = xl - i ∧ x.2 = .int .i64 i ∧ (∃ dm, wr = wc.drewN dm) ∧ ((x.1 = .pointer none ∧ Hid (∀ n (hn : n < xv.length), n < i → ¬ yt < xv[n].target)) ∨ ∃ n, ∃ hn : n < xv.length, x.1 = .pointer (some ⟨bx, offx + n * 5, none⟩) ∧ Hid (yt < xv[n].target ∧ ∀ n' (hn' : n' < xv.length), n' < i → yt < xv[n'].target → xv[n].target ≤ xv[n'].target))) xl (.pointer none, .int .i64 0) ⟨0, by omega, by omega, rfl, ⟨0, rfl⟩, Or.inl ⟨rfl, fun j hj h => absurd h (by omega)⟩⟩ (by kernel_rfl) ?_
                          rintro gk10 ⟨x31, x245⟩ u10 wr10 hrel J10 K10 hJ10 hK10
                          dsimp only [bL10, maskL_keep, maskL_any, maskL_is, maskL_nil]
                          as_aux_lemma =>
                          obtain ⟨i, hi', rfl, rfl, ⟨dm, rfl⟩, hst⟩ := hrel
                          by_cases hix' : i < xl
                          case pos =>
                            --C
                            have hiv : i < xv.length := by rw [← HXL.out]; exact hix'
                            obtain ⟨pa, pn, pc, hrg⟩ := HC9.out i hiv
                            have e1 := (rng_cell hrg).2 1 (by decide)
                            simp only [List.getElem?_toArray, List.getElem?_cons_zero, List.getElem?_cons_succ] at e1
                            obtain ⟨zt, hzt⟩ : ∃ zt, zt = xv[i].target := ⟨_, rfl⟩
                            rw [← hzt] at e1
                            have HZT := hide hzt
                            clear hrg hzt
                            rcases hst with ⟨rfl, hno⟩ | ⟨n', hn', rfl, hne⟩
                            · by_cases hgt : yt < zt
                              · as_aux_lemma =>
                                go_upto_region 65 with fail
                                go_quiet (fail)
                                go_wp2
                                refine Handed.intro (xl - (i + 1)) (by omega) ?_
                                refine hJ10.out _ (.pointer (some ⟨bx, offx + i * 5, none⟩), .int .i64 ((i + 1 : Nat) : Int)) _ _ ⟨i + 1, by omega, rfl, rfl, ⟨dm + nq, by simp⟩, Or.inr ⟨i, hiv, rfl, ?_⟩⟩ (by kernel_rfl)
                                refine ⟨HZT.out ▸ hgt, fun n2 hn2 h2 h3 => ?_⟩
                                by_cases hni2 : n2 < i
                                · (have h8 := hno n2 hn2 hni2; omega)
                                · have : n2 = i := by omega
                                  subst this
                                  exact Int.le_refl _
                              · as_aux_lemma =>
                                go_upto_region 65 with fail
                                go_quiet (fail)
                                go_wp2
                                refine Handed.intro (xl - (i + 1)) (by omega) ?_
                                refine hJ10.out _ (.pointer none, .int .i64 ((i + 1 : Nat) : Int)) _ _ ⟨i + 1, by omega, rfl, rfl, ⟨dm + nq, by simp⟩, Or.inl ⟨rfl, fun n2 hn2 h2 => ?_⟩⟩ (by kernel_rfl)
                                by_cases hni2 : n2 < i
                                · (have h8 := hno n2 hn2 hni2; omega)
                                · have : n2 = i := by omega
                                  subst this
                                  have h8 := HZT.out
                                  omega
                            · obtain ⟨pa', pn', pc', hrg'⟩ := HC9.out n' hn'
                              have f1 := (rng_cell hrg').2 1 (by decide)
                              simp only [List.getElem?_toArray, List.getElem?_cons_zero, List.getElem?_cons_succ] at f1
                              obtain ⟨nt, hnt⟩ : ∃ nt, nt = xv[n'].target := ⟨_, rfl⟩
                              rw [← hnt] at f1
                              have HNT := hide hnt
                              have HNE' := hide hne
                              clear hrg' hnt hne
                              by_cases hgt : yt < zt
                              · by_cases hlt2 : zt < nt
                                · as_aux_lemma =>
                                  go_upto_region 65 with fail
                                  go_quiet (fail)
                                  go_wp2
                                  refine Handed.intro (xl - (i + 1)) (by omega) ?_
                                  refine hJ10.out _ (.pointer (some ⟨bx, offx + i * 5, none⟩), .int .i64 ((i + 1 : Nat) : Int)) _ _ ⟨i + 1, by omega, rfl, rfl, ⟨dm + nq, by simp⟩, Or.inr ⟨i, hiv, rfl, ?_⟩⟩ (by kernel_rfl)
                                  refine ⟨HZT.out ▸ hgt, fun n2 hn2 h2 h3 => ?_⟩
                                  by_cases hni2 : n2 < i
                                  · have h8 := HNE'.out.out.2 n2 hn2 hni2 h3
                                    rw [← HNT.out] at h8
                                    rw [← HZT.out]
                                    omega
                                  · have : n2 = i := by omega
                                    subst this
                                    exact Int.le_refl _
                                · as_aux_lemma =>
                                  go_upto_region 65 with fail
                                  go_quiet (fail)
                                  go_wp2
                                  refine Handed.intro (xl - (i + 1)) (by omega) ?_
                                  refine hJ10.out _ (.pointer (some ⟨bx, offx + n' * 5, none⟩), .int .i64 ((i + 1 : Nat) : Int)) _ _ ⟨i + 1, by omega, rfl, rfl, ⟨dm + nq, by simp⟩, Or.inr ⟨n', hn', rfl, ?_⟩⟩ (by kernel_rfl)
                                  refine ⟨HNE'.out.out.1, fun n2 hn2 h2 h3 => ?_⟩
                                  by_cases hni2 : n2 < i
                                  · exact HNE'.out.out.2 n2 hn2 hni2 h3
                                  · have : n2 = i := by omega
                                    subst this
                                    rw [← HNT.out, ← HZT.out]
                                    omega
                              · as_aux_lemma =>
                                go_upto_region 65 with fail
                                go_quiet (fail)
                                go_wp2
                                refine Handed.intro (xl - (i + 1)) (by omega) ?_
                                refine hJ10.out _ (.pointer (some ⟨bx, offx + n' * 5, none⟩), .int .i64 ((i + 1 : Nat) : Int)) _ _ ⟨i + 1, by omega, rfl, rfl, ⟨dm + nq, by simp⟩, Or.inr ⟨n', hn', rfl, ?_⟩⟩ (by kernel_rfl)
                                refine ⟨HNE'.out.out.1, fun n2 hn2 h2 h3 => ?_⟩
                                by_cases hni2 : n2 < i
                                · exact HNE'.out.out.2 n2 hn2 hni2 h3
                                · have : n2 = i := by omega
                                  subst this
                                  rw [← HZT.out] at h3
                                  omega
                            --D
                          case neg =>
                            have hgl8c : g8 < wc.heap.size := by have := HBF.out.size; omega
                            rcases hst with ⟨rfl, hno⟩ | ⟨n', hn', rfl, hne⟩
                            ·
                              as_aux_lemma =>
                              have HRE : Hid ((⟨rc, rn, rk, ro, rl⟩ : Pl) = clsEnd xn ad d ⟨yi, yt, ye, yl, yp⟩ []) := HR2.out.trans (HVG.out.last HMEM.out HID.out (fun v hv => (by obtain ⟨n2, hn2, rfl⟩ := List.getElem_of_mem hv; exact hno n2 hn2 (by rw [← HXL.out] at hn2; omega))))
                              clear hno HR2
                              go_upto_region 68 with fail
                              go_quiet (fail)
                              go_upto_region 69 with fail
                              obtain ⟨op, hop⟩ : ∃ op, op = ad + yt - ye := ⟨_, rfl⟩
                              obtain ⟨cl, hcl⟩ : ∃ cl, cl = ad + yt + yl := ⟨_, rfl⟩
                              rw [← hop, ← hcl]
                              have HOP := hide hop
                              have HCL := hide hcl
                              clear hop hcl
                              by_cases hHOU1 : outB op = true
                              · as_aux_lemma =>
                                have HOU1 : Hid (∀ W, Calls Try.prog 14 #[.int .i64 op] W fun e w' => e = .returned (.bool true) ∧ W = w') := fun W => (by have h9 := outside_calls op W; rw [hHOU1] at h9; exact h9)
                                refine wp_region_ext wc.heap.size (by kernel_rfl) (by kernel_rfl) ?_
                                repeat (go_big_quiet_step (fail))
                                go_big_quiet_step ((go_at_call 14; refine ext_call_same (HOU1.out _)))
                                repeat (go_big_quiet_step (fail))
                                refine wpQuiet_nil ?_
                                intro _ hw'
                                obtain ⟨x, hw2⟩ := hw'
                                subst hw2
                                obtain ⟨w2, hb2⟩ := x
                                simp only []
                                have hbw2 : Below wc.heap.size wc w2 := by first | exact (below_drewN (Below.refl _ _) _).trans hb2 | exact (below_drewN (below_drewN (Below.refl _ _) _) _).trans hb2
                                have p0' : w2.cell? ⟨g28, 0, none⟩ = some (.int .u32 rn) := (cellB (hbw2.block g28 hgl) 0).trans p0
                                have p1' : w2.cell? ⟨g28, 1, none⟩ = some (.int .u8 rk) := (cellB (hbw2.block g28 hgl) 1).trans p1
                                have p2' : w2.cell? ⟨g28, 2, none⟩ = some (.int .i64 ro) := (cellB (hbw2.block g28 hgl) 2).trans p2
                                have p3' : w2.cell? ⟨g28, 3, none⟩ = some (.int .i64 rl) := (cellB (hbw2.block g28 hgl) 3).trans p3
                                have q0' : w2.cell? ⟨g8, 0, none⟩ = some (.int .u32 xn) := (cellB (hbw2.block g8 hgl8c) 0).trans q0
                                have HBE : Hid (Below w8.heap.size w8 w2) := HBF.out.trans (hbw2.mono HBF.out.size)
                                clear hb2 hbw2 p0 p1 p2 p3 q0 q2 y1 y2 y3
                                have hRe := HRE.out
                                rw [clsEnd_o (v := ⟨yi, yt, ye, yl, yp⟩) (show outB (ad + yt - ye) = true by rw [← HOP.out]; exact hHOU1)] at hRe
                                obtain ⟨rfl, rfl, rfl, rfl, rfl⟩ := Pl.mk.inj hRe
                                clear hRe
                                have HCO := hide (codeOf_any 4 w2)
                                go_wp2_with (go_at_call 18; refine HCO.out.mono ?_; rintro e w' ⟨rfl, rfl⟩)
                                refine Handed.intro (ni - (k8 + 1)) (by omega) ?_
                                exact hJ8.out _ (.int .i64 ((k8 + 1 : Nat) : Int)) _ _ ⟨k8 + 1, by omega, rfl, rfl, by first | exact HBE.out | exact below_drewN HBE.out _⟩ (by kernel_rfl)
                              have hHOU1 : outB op = false := by simpa using hHOU1
                              by_cases hHOU2 : outB cl = true
                              · as_aux_lemma =>
                                have HOU1 : Hid (∀ W, Calls Try.prog 14 #[.int .i64 op] W fun e w' => e = .returned (.bool false) ∧ W = w') := fun W => (by have h9 := outside_calls op W; rw [hHOU1] at h9; exact h9)
                                have HOU2 : Hid (∀ W, Calls Try.prog 14 #[.int .i64 cl] W fun e w' => e = .returned (.bool true) ∧ W = w') := fun W => (by have h9 := outside_calls cl W; rw [hHOU2] at h9; exact h9)
                                refine wp_region_ext wc.heap.size (by kernel_rfl) (by kernel_rfl) ?_
                                repeat (go_big_quiet_step (fail))
                                go_big_quiet_step ((go_at_call 14; refine ext_call_same (HOU1.out _)))
                                repeat (go_big_quiet_step (fail))
                                go_big_quiet_step ((go_at_call 14; refine ext_call_same (HOU2.out _)))
                                repeat (go_big_quiet_step (fail))
                                refine wpQuiet_nil ?_
                                intro _ hw'
                                obtain ⟨x, hw2⟩ := hw'
                                subst hw2
                                obtain ⟨w2, hb2⟩ := x
                                simp only []
                                have hbw2 : Below wc.heap.size wc w2 := by first | exact (below_drewN (Below.refl _ _) _).trans hb2 | exact (below_drewN (below_drewN (Below.refl _ _) _) _).trans hb2
                                have p0' : w2.cell? ⟨g28, 0, none⟩ = some (.int .u32 rn) := (cellB (hbw2.block g28 hgl) 0).trans p0
                                have p1' : w2.cell? ⟨g28, 1, none⟩ = some (.int .u8 rk) := (cellB (hbw2.block g28 hgl) 1).trans p1
                                have p2' : w2.cell? ⟨g28, 2, none⟩ = some (.int .i64 ro) := (cellB (hbw2.block g28 hgl) 2).trans p2
                                have p3' : w2.cell? ⟨g28, 3, none⟩ = some (.int .i64 rl) := (cellB (hbw2.block g28 hgl) 3).trans p3
                                have q0' : w2.cell? ⟨g8, 0, none⟩ = some (.int .u32 xn) := (cellB (hbw2.block g8 hgl8c) 0).trans q0
                                have HBE : Hid (Below w8.heap.size w8 w2) := HBF.out.trans (hbw2.mono HBF.out.size)
                                clear hb2 hbw2 p0 p1 p2 p3 q0 q2 y1 y2 y3
                                have hRe := HRE.out
                                rw [clsEnd_c (v := ⟨yi, yt, ye, yl, yp⟩) (show outB (ad + yt + yl) = true by rw [← HCL.out]; exact hHOU2)] at hRe
                                obtain ⟨rfl, rfl, rfl, rfl, rfl⟩ := Pl.mk.inj hRe
                                clear hRe
                                have HCO := hide (codeOf_any 4 w2)
                                go_wp2_with (go_at_call 18; refine HCO.out.mono ?_; rintro e w' ⟨rfl, rfl⟩)
                                refine Handed.intro (ni - (k8 + 1)) (by omega) ?_
                                exact hJ8.out _ (.int .i64 ((k8 + 1 : Nat) : Int)) _ _ ⟨k8 + 1, by omega, rfl, rfl, by first | exact HBE.out | exact below_drewN HBE.out _⟩ (by kernel_rfl)
                              have hHOU2 : outB cl = false := by simpa using hHOU2
                              as_aux_lemma =>
                              have HOU1 : Hid (∀ W, Calls Try.prog 14 #[.int .i64 op] W fun e w' => e = .returned (.bool false) ∧ W = w') := fun W => (by have h9 := outside_calls op W; rw [hHOU1] at h9; exact h9)
                              have HOU2 : Hid (∀ W, Calls Try.prog 14 #[.int .i64 cl] W fun e w' => e = .returned (.bool false) ∧ W = w') := fun W => (by have h9 := outside_calls cl W; rw [hHOU2] at h9; exact h9)
                              refine wp_region_ext wc.heap.size (by kernel_rfl) (by kernel_rfl) ?_
                              repeat (go_big_quiet_step (fail))
                              go_big_quiet_step ((go_at_call 14; refine ext_call_same (HOU1.out _)))
                              repeat (go_big_quiet_step (fail))
                              go_big_quiet_step ((go_at_call 14; refine ext_call_same (HOU2.out _)))
                              repeat (go_big_quiet_step (fail))
                              refine wpQuiet_nil ?_
                              intro _ hw'
                              obtain ⟨x, hw2⟩ := hw'
                              subst hw2
                              obtain ⟨w2, hb2⟩ := x
                              simp only []
                              have hbw2 : Below wc.heap.size wc w2 := by first | exact (below_drewN (Below.refl _ _) _).trans hb2 | exact (below_drewN (below_drewN (Below.refl _ _) _) _).trans hb2
                              have p0' : w2.cell? ⟨g28, 0, none⟩ = some (.int .u32 rn) := (cellB (hbw2.block g28 hgl) 0).trans p0
                              have p1' : w2.cell? ⟨g28, 1, none⟩ = some (.int .u8 rk) := (cellB (hbw2.block g28 hgl) 1).trans p1
                              have p2' : w2.cell? ⟨g28, 2, none⟩ = some (.int .i64 ro) := (cellB (hbw2.block g28 hgl) 2).trans p2
                              have p3' : w2.cell? ⟨g28, 3, none⟩ = some (.int .i64 rl) := (cellB (hbw2.block g28 hgl) 3).trans p3
                              have q0' : w2.cell? ⟨g8, 0, none⟩ = some (.int .u32 xn) := (cellB (hbw2.block g8 hgl8c) 0).trans q0
                              have HBE : Hid (Below w8.heap.size w8 w2) := HBF.out.trans (hbw2.mono HBF.out.size)
                              clear hb2 hbw2 p0 p1 p2 p3 q0 q2 y1 y2 y3
                              by_cases hdo : d < op
                              ·
                                as_aux_lemma =>
                                have hRe := HRE.out
                                rw [clsEnd_last (v := ⟨yi, yt, ye, yl, yp⟩) (show outB (ad + yt - ye) = false by rw [← HOP.out]; exact hHOU1) (show outB (ad + yt + yl) = false by rw [← HCL.out]; exact hHOU2)] at hRe
                                simp only at hRe
                                rw [← HOP.out, ← HCL.out, if_pos hdo] at hRe
                                obtain ⟨rfl, rfl, rfl, rfl, rfl⟩ := Pl.mk.inj hRe
                                clear hRe
                                go_wp2
                                refine Handed.intro (ni - (k8 + 1)) (by omega) ?_
                                exact hJ8.out _ (.int .i64 ((k8 + 1 : Nat) : Int)) _ _ ⟨k8 + 1, by omega, rfl, rfl, by first | exact HBE.out | exact below_drewN HBE.out _⟩ (by kernel_rfl)
                              ·
                                by_cases hdc : d ≤ cl
                                ·
                                  as_aux_lemma =>
                                  have hRe := HRE.out
                                  rw [clsEnd_last (v := ⟨yi, yt, ye, yl, yp⟩) (show outB (ad + yt - ye) = false by rw [← HOP.out]; exact hHOU1) (show outB (ad + yt + yl) = false by rw [← HCL.out]; exact hHOU2)] at hRe
                                  simp only at hRe
                                  rw [← HOP.out, ← HCL.out, if_neg hdo, if_pos hdc] at hRe
                                  obtain ⟨rfl, rfl, rfl, rfl, rfl⟩ := Pl.mk.inj hRe
                                  clear hRe
                                  go_wp2
                                  refine Handed.intro (ni - (k8 + 1)) (by omega) ?_
                                  exact hJ8.out _ (.int .i64 ((k8 + 1 : Nat) : Int)) _ _ ⟨k8 + 1, by omega, rfl, rfl, by first | exact HBE.out | exact below_drewN HBE.out _⟩ (by kernel_rfl)
                                ·
                                  as_aux_lemma =>
                                  have hRe := HRE.out
                                  rw [clsEnd_last (v := ⟨yi, yt, ye, yl, yp⟩) (show outB (ad + yt - ye) = false by rw [← HOP.out]; exact hHOU1) (show outB (ad + yt + yl) = false by rw [← HCL.out]; exact hHOU2)] at hRe
                                  simp only at hRe
                                  rw [← HOP.out, ← HCL.out, if_neg hdo, if_neg hdc] at hRe
                                  obtain ⟨rfl, rfl, rfl, rfl, rfl⟩ := Pl.mk.inj hRe
                                  clear hRe
                                  go_upto_region 77 with fail
                                  go_quiet (fail)
                                  go_wp2
                                  refine Handed.intro (ni - (k8 + 1)) (by omega) ?_
                                  exact hJ8.out _ (.int .i64 ((k8 + 1 : Nat) : Int)) _ _ ⟨k8 + 1, by omega, rfl, rfl, by first | exact HBE.out | exact below_drewN HBE.out _⟩ (by kernel_rfl)
                            ·
                              as_aux_lemma =>
                              have HRE : Hid ((⟨rc, rn, rk, ro, rl⟩ : Pl) = clsEnd xn ad d ⟨yi, yt, ye, yl, yp⟩ [xv[n']]) := HR2.out.trans (HVG.out.next HMEM.out HID.out (List.getElem_mem hn') hne.out.1 (fun v hv h3 => (by obtain ⟨n2, hn2, rfl⟩ := List.getElem_of_mem hv; exact hne.out.2 n2 hn2 (by rw [← HXL.out] at hn2; omega) h3)))
                              obtain ⟨zt1, zt2, ze1, ze2, -, -⟩ := HVG.out.vb _ (List.getElem_mem hn')
                              obtain ⟨pa', pn', pc', hrg'⟩ := HC9.out n' hn'
                              have f1 := (rng_cell hrg').2 1 (by decide)
                              have f2 := (rng_cell hrg').2 2 (by decide)
                              simp only [List.getElem?_toArray, List.getElem?_cons_zero, List.getElem?_cons_succ] at f1 f2
                              have hbxc : bx < wc.heap.size := by have h1 := HBX.out (by rw [HXL.out]; omega); have h2 := HB1c.out.size; have h3 := HBW.out.size; omega
                              obtain ⟨z, hz⟩ : ∃ z, z = xv[n'] := ⟨_, rfl⟩
                              rw [← hz] at f1 f2 zt1 zt2 ze1 ze2 HRE
                              obtain ⟨zi, zt, ze, zl, zp⟩ := z
                              simp only at f1 f2 zt1 zt2 ze1 ze2
                              clear hne HR2 hrg' hz
                              go_upto_region 68 with fail
                              go_quiet (fail)
                              go_upto_region 69 with fail
                              obtain ⟨op, hop⟩ : ∃ op, op = ad + yt - ye := ⟨_, rfl⟩
                              obtain ⟨cl, hcl⟩ : ∃ cl, cl = ad + yt + yl := ⟨_, rfl⟩
                              rw [← hop, ← hcl]
                              have HOP := hide hop
                              have HCL := hide hcl
                              clear hop hcl
                              obtain ⟨np2, hnp2⟩ : ∃ np2, np2 = ad + zt - ze := ⟨_, rfl⟩
                              have HNP2 := hide hnp2
                              clear hnp2
                              by_cases hHOU1 : outB op = true
                              · as_aux_lemma =>
                                have HOU1 : Hid (∀ W, Calls Try.prog 14 #[.int .i64 op] W fun e w' => e = .returned (.bool true) ∧ W = w') := fun W => (by have h9 := outside_calls op W; rw [hHOU1] at h9; exact h9)
                                refine wp_region_ext wc.heap.size (by kernel_rfl) (by kernel_rfl) ?_
                                repeat (go_big_quiet_step (fail))
                                go_big_quiet_step ((go_at_call 14; refine ext_call_same (HOU1.out _)))
                                repeat (go_big_quiet_step (fail))
                                refine wpQuiet_nil ?_
                                intro _ hw'
                                obtain ⟨x, hw2⟩ := hw'
                                subst hw2
                                obtain ⟨w2, hb2⟩ := x
                                simp only []
                                have hbw2 : Below wc.heap.size wc w2 := by first | exact (below_drewN (Below.refl _ _) _).trans hb2 | exact (below_drewN (below_drewN (Below.refl _ _) _) _).trans hb2
                                have p0' : w2.cell? ⟨g28, 0, none⟩ = some (.int .u32 rn) := (cellB (hbw2.block g28 hgl) 0).trans p0
                                have p1' : w2.cell? ⟨g28, 1, none⟩ = some (.int .u8 rk) := (cellB (hbw2.block g28 hgl) 1).trans p1
                                have p2' : w2.cell? ⟨g28, 2, none⟩ = some (.int .i64 ro) := (cellB (hbw2.block g28 hgl) 2).trans p2
                                have p3' : w2.cell? ⟨g28, 3, none⟩ = some (.int .i64 rl) := (cellB (hbw2.block g28 hgl) 3).trans p3
                                have q0' : w2.cell? ⟨g8, 0, none⟩ = some (.int .u32 xn) := (cellB (hbw2.block g8 hgl8c) 0).trans q0
                                have f1' : w2.cell? ⟨bx, offx + n' * 5 + 1, none⟩ = some (.int .i64 zt) := (cellB (hbw2.block bx hbxc) _).trans f1
                                have f2' : w2.cell? ⟨bx, offx + n' * 5 + 2, none⟩ = some (.int .i64 ze) := (cellB (hbw2.block bx hbxc) _).trans f2
                                have HBE : Hid (Below w8.heap.size w8 w2) := HBF.out.trans (hbw2.mono HBF.out.size)
                                clear hb2 hbw2 p0 p1 p2 p3 q0 q2 y1 y2 y3 f1 f2
                                have hRe := HRE.out
                                rw [clsEnd_o (v := ⟨yi, yt, ye, yl, yp⟩) (show outB (ad + yt - ye) = true by rw [← HOP.out]; exact hHOU1)] at hRe
                                obtain ⟨rfl, rfl, rfl, rfl, rfl⟩ := Pl.mk.inj hRe
                                clear hRe
                                have HCO := hide (codeOf_any 4 w2)
                                go_wp2_with (go_at_call 18; refine HCO.out.mono ?_; rintro e w' ⟨rfl, rfl⟩)
                                refine Handed.intro (ni - (k8 + 1)) (by omega) ?_
                                exact hJ8.out _ (.int .i64 ((k8 + 1 : Nat) : Int)) _ _ ⟨k8 + 1, by omega, rfl, rfl, by first | exact HBE.out | exact below_drewN HBE.out _⟩ (by kernel_rfl)
                              have hHOU1 : outB op = false := by simpa using hHOU1
                              by_cases hHOU2 : outB cl = true
                              · as_aux_lemma =>
                                have HOU1 : Hid (∀ W, Calls Try.prog 14 #[.int .i64 op] W fun e w' => e = .returned (.bool false) ∧ W = w') := fun W => (by have h9 := outside_calls op W; rw [hHOU1] at h9; exact h9)
                                have HOU2 : Hid (∀ W, Calls Try.prog 14 #[.int .i64 cl] W fun e w' => e = .returned (.bool true) ∧ W = w') := fun W => (by have h9 := outside_calls cl W; rw [hHOU2] at h9; exact h9)
                                refine wp_region_ext wc.heap.size (by kernel_rfl) (by kernel_rfl) ?_
                                repeat (go_big_quiet_step (fail))
                                go_big_quiet_step ((go_at_call 14; refine ext_call_same (HOU1.out _)))
                                repeat (go_big_quiet_step (fail))
                                go_big_quiet_step ((go_at_call 14; refine ext_call_same (HOU2.out _)))
                                repeat (go_big_quiet_step (fail))
                                refine wpQuiet_nil ?_
                                intro _ hw'
                                obtain ⟨x, hw2⟩ := hw'
                                subst hw2
                                obtain ⟨w2, hb2⟩ := x
                                simp only []
                                have hbw2 : Below wc.heap.size wc w2 := by first | exact (below_drewN (Below.refl _ _) _).trans hb2 | exact (below_drewN (below_drewN (Below.refl _ _) _) _).trans hb2
                                have p0' : w2.cell? ⟨g28, 0, none⟩ = some (.int .u32 rn) := (cellB (hbw2.block g28 hgl) 0).trans p0
                                have p1' : w2.cell? ⟨g28, 1, none⟩ = some (.int .u8 rk) := (cellB (hbw2.block g28 hgl) 1).trans p1
                                have p2' : w2.cell? ⟨g28, 2, none⟩ = some (.int .i64 ro) := (cellB (hbw2.block g28 hgl) 2).trans p2
                                have p3' : w2.cell? ⟨g28, 3, none⟩ = some (.int .i64 rl) := (cellB (hbw2.block g28 hgl) 3).trans p3
                                have q0' : w2.cell? ⟨g8, 0, none⟩ = some (.int .u32 xn) := (cellB (hbw2.block g8 hgl8c) 0).trans q0
                                have f1' : w2.cell? ⟨bx, offx + n' * 5 + 1, none⟩ = some (.int .i64 zt) := (cellB (hbw2.block bx hbxc) _).trans f1
                                have f2' : w2.cell? ⟨bx, offx + n' * 5 + 2, none⟩ = some (.int .i64 ze) := (cellB (hbw2.block bx hbxc) _).trans f2
                                have HBE : Hid (Below w8.heap.size w8 w2) := HBF.out.trans (hbw2.mono HBF.out.size)
                                clear hb2 hbw2 p0 p1 p2 p3 q0 q2 y1 y2 y3 f1 f2
                                have hRe := HRE.out
                                rw [clsEnd_c (v := ⟨yi, yt, ye, yl, yp⟩) (show outB (ad + yt + yl) = true by rw [← HCL.out]; exact hHOU2)] at hRe
                                obtain ⟨rfl, rfl, rfl, rfl, rfl⟩ := Pl.mk.inj hRe
                                clear hRe
                                have HCO := hide (codeOf_any 4 w2)
                                go_wp2_with (go_at_call 18; refine HCO.out.mono ?_; rintro e w' ⟨rfl, rfl⟩)
                                refine Handed.intro (ni - (k8 + 1)) (by omega) ?_
                                exact hJ8.out _ (.int .i64 ((k8 + 1 : Nat) : Int)) _ _ ⟨k8 + 1, by omega, rfl, rfl, by first | exact HBE.out | exact below_drewN HBE.out _⟩ (by kernel_rfl)
                              have hHOU2 : outB cl = false := by simpa using hHOU2
                              by_cases hHOU3 : outB np2 = true
                              · as_aux_lemma =>
                                have HOU1 : Hid (∀ W, Calls Try.prog 14 #[.int .i64 op] W fun e w' => e = .returned (.bool false) ∧ W = w') := fun W => (by have h9 := outside_calls op W; rw [hHOU1] at h9; exact h9)
                                have HOU2 : Hid (∀ W, Calls Try.prog 14 #[.int .i64 cl] W fun e w' => e = .returned (.bool false) ∧ W = w') := fun W => (by have h9 := outside_calls cl W; rw [hHOU2] at h9; exact h9)
                                have HOU3 : Hid (∀ W, Calls Try.prog 14 #[.int .i64 np2] W fun e w' => e = .returned (.bool true) ∧ W = w') := fun W => (by have h9 := outside_calls np2 W; rw [hHOU3] at h9; exact h9)
                                rw [HNP2.out] at HOU3
                                refine wp_region_ext wc.heap.size (by kernel_rfl) (by kernel_rfl) ?_
                                repeat (go_big_quiet_step (fail))
                                go_big_quiet_step ((go_at_call 14; refine ext_call_same (HOU1.out _)))
                                repeat (go_big_quiet_step (fail))
                                go_big_quiet_step ((go_at_call 14; refine ext_call_same (HOU2.out _)))
                                repeat (go_big_quiet_step (fail))
                                go_big_quiet_step ((go_at_call 14; refine ext_call_same (HOU3.out _)))
                                repeat (go_big_quiet_step (fail))
                                refine wpQuiet_nil ?_
                                intro _ hw'
                                obtain ⟨x, hw2⟩ := hw'
                                subst hw2
                                obtain ⟨w2, hb2⟩ := x
                                simp only []
                                have hbw2 : Below wc.heap.size wc w2 := by first | exact (below_drewN (Below.refl _ _) _).trans hb2 | exact (below_drewN (below_drewN (Below.refl _ _) _) _).trans hb2
                                have p0' : w2.cell? ⟨g28, 0, none⟩ = some (.int .u32 rn) := (cellB (hbw2.block g28 hgl) 0).trans p0
                                have p1' : w2.cell? ⟨g28, 1, none⟩ = some (.int .u8 rk) := (cellB (hbw2.block g28 hgl) 1).trans p1
                                have p2' : w2.cell? ⟨g28, 2, none⟩ = some (.int .i64 ro) := (cellB (hbw2.block g28 hgl) 2).trans p2
                                have p3' : w2.cell? ⟨g28, 3, none⟩ = some (.int .i64 rl) := (cellB (hbw2.block g28 hgl) 3).trans p3
                                have q0' : w2.cell? ⟨g8, 0, none⟩ = some (.int .u32 xn) := (cellB (hbw2.block g8 hgl8c) 0).trans q0
                                have f1' : w2.cell? ⟨bx, offx + n' * 5 + 1, none⟩ = some (.int .i64 zt) := (cellB (hbw2.block bx hbxc) _).trans f1
                                have f2' : w2.cell? ⟨bx, offx + n' * 5 + 2, none⟩ = some (.int .i64 ze) := (cellB (hbw2.block bx hbxc) _).trans f2
                                have HBE : Hid (Below w8.heap.size w8 w2) := HBF.out.trans (hbw2.mono HBF.out.size)
                                clear hb2 hbw2 p0 p1 p2 p3 q0 q2 y1 y2 y3 f1 f2
                                have hRe := HRE.out
                                rw [clsEnd_n (v := ⟨yi, yt, ye, yl, yp⟩) (x := ⟨zi, zt, ze, zl, zp⟩) (show outB (ad + yt - ye) = false by rw [← HOP.out]; exact hHOU1) (show outB (ad + yt + yl) = false by rw [← HCL.out]; exact hHOU2) (show outB (ad + zt - ze) = true by rw [← HNP2.out]; exact hHOU3)] at hRe
                                obtain ⟨rfl, rfl, rfl, rfl, rfl⟩ := Pl.mk.inj hRe
                                clear hRe
                                have HCO := hide (codeOf_any 4 w2)
                                go_wp2_with (go_at_call 18; refine HCO.out.mono ?_; rintro e w' ⟨rfl, rfl⟩)
                                refine Handed.intro (ni - (k8 + 1)) (by omega) ?_
                                exact hJ8.out _ (.int .i64 ((k8 + 1 : Nat) : Int)) _ _ ⟨k8 + 1, by omega, rfl, rfl, by first | exact HBE.out | exact below_drewN HBE.out _⟩ (by kernel_rfl)
                              have hHOU3 : outB np2 = false := by simpa using hHOU3
                              as_aux_lemma =>
                              have HOU1 : Hid (∀ W, Calls Try.prog 14 #[.int .i64 op] W fun e w' => e = .returned (.bool false) ∧ W = w') := fun W => (by have h9 := outside_calls op W; rw [hHOU1] at h9; exact h9)
                              have HOU2 : Hid (∀ W, Calls Try.prog 14 #[.int .i64 cl] W fun e w' => e = .returned (.bool false) ∧ W = w') := fun W => (by have h9 := outside_calls cl W; rw [hHOU2] at h9; exact h9)
                              have HOU3 : Hid (∀ W, Calls Try.prog 14 #[.int .i64 np2] W fun e w' => e = .returned (.bool false) ∧ W = w') := fun W => (by have h9 := outside_calls np2 W; rw [hHOU3] at h9; exact h9)
                              rw [HNP2.out] at HOU3
                              refine wp_region_ext wc.heap.size (by kernel_rfl) (by kernel_rfl) ?_
                              repeat (go_big_quiet_step (fail))
                              go_big_quiet_step ((go_at_call 14; refine ext_call_same (HOU1.out _)))
                              repeat (go_big_quiet_step (fail))
                              go_big_quiet_step ((go_at_call 14; refine ext_call_same (HOU2.out _)))
                              repeat (go_big_quiet_step (fail))
                              go_big_quiet_step ((go_at_call 14; refine ext_call_same (HOU3.out _)))
                              repeat (go_big_quiet_step (fail))
                              refine wpQuiet_nil ?_
                              intro _ hw'
                              obtain ⟨x, hw2⟩ := hw'
                              subst hw2
                              obtain ⟨w2, hb2⟩ := x
                              simp only []
                              have hbw2 : Below wc.heap.size wc w2 := by first | exact (below_drewN (Below.refl _ _) _).trans hb2 | exact (below_drewN (below_drewN (Below.refl _ _) _) _).trans hb2
                              have p0' : w2.cell? ⟨g28, 0, none⟩ = some (.int .u32 rn) := (cellB (hbw2.block g28 hgl) 0).trans p0
                              have p1' : w2.cell? ⟨g28, 1, none⟩ = some (.int .u8 rk) := (cellB (hbw2.block g28 hgl) 1).trans p1
                              have p2' : w2.cell? ⟨g28, 2, none⟩ = some (.int .i64 ro) := (cellB (hbw2.block g28 hgl) 2).trans p2
                              have p3' : w2.cell? ⟨g28, 3, none⟩ = some (.int .i64 rl) := (cellB (hbw2.block g28 hgl) 3).trans p3
                              have q0' : w2.cell? ⟨g8, 0, none⟩ = some (.int .u32 xn) := (cellB (hbw2.block g8 hgl8c) 0).trans q0
                              have f1' : w2.cell? ⟨bx, offx + n' * 5 + 1, none⟩ = some (.int .i64 zt) := (cellB (hbw2.block bx hbxc) _).trans f1
                              have f2' : w2.cell? ⟨bx, offx + n' * 5 + 2, none⟩ = some (.int .i64 ze) := (cellB (hbw2.block bx hbxc) _).trans f2
                              have HBE : Hid (Below w8.heap.size w8 w2) := HBF.out.trans (hbw2.mono HBF.out.size)
                              clear hb2 hbw2 p0 p1 p2 p3 q0 q2 y1 y2 y3 f1 f2
                              by_cases hdo : d < op
                              ·
                                as_aux_lemma =>
                                have hRe := HRE.out
                                rw [clsEnd_next (v := ⟨yi, yt, ye, yl, yp⟩) (x := ⟨zi, zt, ze, zl, zp⟩) (show outB (ad + yt - ye) = false by rw [← HOP.out]; exact hHOU1) (show outB (ad + yt + yl) = false by rw [← HCL.out]; exact hHOU2) (show outB (ad + zt - ze) = false by rw [← HNP2.out]; exact hHOU3)] at hRe
                                simp only at hRe
                                rw [← HOP.out, ← HCL.out, if_pos hdo] at hRe
                                obtain ⟨rfl, rfl, rfl, rfl, rfl⟩ := Pl.mk.inj hRe
                                clear hRe
                                go_wp2
                                refine Handed.intro (ni - (k8 + 1)) (by omega) ?_
                                exact hJ8.out _ (.int .i64 ((k8 + 1 : Nat) : Int)) _ _ ⟨k8 + 1, by omega, rfl, rfl, by first | exact HBE.out | exact below_drewN HBE.out _⟩ (by kernel_rfl)
                              ·
                                by_cases hdc : d ≤ cl
                                ·
                                  as_aux_lemma =>
                                  have hRe := HRE.out
                                  rw [clsEnd_next (v := ⟨yi, yt, ye, yl, yp⟩) (x := ⟨zi, zt, ze, zl, zp⟩) (show outB (ad + yt - ye) = false by rw [← HOP.out]; exact hHOU1) (show outB (ad + yt + yl) = false by rw [← HCL.out]; exact hHOU2) (show outB (ad + zt - ze) = false by rw [← HNP2.out]; exact hHOU3)] at hRe
                                  simp only at hRe
                                  rw [← HOP.out, ← HCL.out, if_neg hdo, if_pos hdc] at hRe
                                  obtain ⟨rfl, rfl, rfl, rfl, rfl⟩ := Pl.mk.inj hRe
                                  clear hRe
                                  go_wp2
                                  refine Handed.intro (ni - (k8 + 1)) (by omega) ?_
                                  exact hJ8.out _ (.int .i64 ((k8 + 1 : Nat) : Int)) _ _ ⟨k8 + 1, by omega, rfl, rfl, by first | exact HBE.out | exact below_drewN HBE.out _⟩ (by kernel_rfl)
                                ·
                                  have hdn : (ad + zt - ze ≤ d) ∨ ¬ (ad + zt - ze ≤ d) := Classical.em _
                                  rcases hdn with hdn | hdn
                                  ·
                                    as_aux_lemma =>
                                    have hRe := HRE.out
                                    rw [clsEnd_next (v := ⟨yi, yt, ye, yl, yp⟩) (x := ⟨zi, zt, ze, zl, zp⟩) (show outB (ad + yt - ye) = false by rw [← HOP.out]; exact hHOU1) (show outB (ad + yt + yl) = false by rw [← HCL.out]; exact hHOU2) (show outB (ad + zt - ze) = false by rw [← HNP2.out]; exact hHOU3)] at hRe
                                    simp only at hRe
                                    rw [← HOP.out, ← HCL.out, if_neg hdo, if_neg hdc, if_pos hdn] at hRe
                                    obtain ⟨rfl, rfl, rfl, rfl, rfl⟩ := Pl.mk.inj hRe
                                    clear hRe
                                    go_upto_region 77 with fail
                                    go_quiet (fail)
                                    go_wp2
                                    refine Handed.intro (ni - (k8 + 1)) (by omega) ?_
                                    exact hJ8.out _ (.int .i64 ((k8 + 1 : Nat) : Int)) _ _ ⟨k8 + 1, by omega, rfl, rfl, by first | exact HBE.out | exact below_drewN HBE.out _⟩ (by kernel_rfl)
                                  ·
                                    as_aux_lemma =>
                                    have hRe := HRE.out
                                    rw [clsEnd_next (v := ⟨yi, yt, ye, yl, yp⟩) (x := ⟨zi, zt, ze, zl, zp⟩) (show outB (ad + yt - ye) = false by rw [← HOP.out]; exact hHOU1) (show outB (ad + yt + yl) = false by rw [← HCL.out]; exact hHOU2) (show outB (ad + zt - ze) = false by rw [← HNP2.out]; exact hHOU3)] at hRe
                                    simp only at hRe
                                    rw [← HOP.out, ← HCL.out, if_neg hdo, if_neg hdc, if_neg hdn] at hRe
                                    obtain ⟨rfl, rfl, rfl, rfl, rfl⟩ := Pl.mk.inj hRe
                                    clear hRe
                                    go_upto_region 77 with fail
                                    go_quiet (fail)
                                    go_wp2
                                    refine Handed.intro (ni - (k8 + 1)) (by omega) ?_
                                    exact hJ8.out _ (.int .i64 ((k8 + 1 : Nat) : Int)) _ _ ⟨k8 + 1, by omega, rfl, rfl, by first | exact HBE.out | exact below_drewN HBE.out _⟩ (by kernel_rfl)
              case neg =>
                go_wp2
                refine Handed.intro (2 - (k7 + 1)) (by omega) ?_
                exact hJ7.out _ (.int .i64 ((k7 + 1 : Nat) : Int)) _ _ ⟨k7 + 1, by omega, rfl, rfl, HB78.out.trans (hb8.mono HB78.out.size)⟩ (by kernel_rfl)
            case neg =>
              go_wp2
              refine Handed.intro (np - (k6 + 1)) (by omega) ?_
              exact hJ6.out _ (.int .i64 ((k6 + 1 : Nat) : Int)) _ _ ⟨k6 + 1, by omega, rfl, rfl, HB67.out.trans (hb7.mono HB67.out.size)⟩ (by kernel_rfl)
          case neg =>
            as_aux_lemma =>
            go_wp2
            obtain ⟨w11, hw11⟩ : ∃ w11, w11 = wr6.alloc (.cells #[.int .i64 (-1), .int .i64 157785120, .int .i64 (-9223372036854775808), .int .i64 9223372036854775807] 2) := ⟨_, rfl⟩
            rw [← hw11]
            have hG11 : w11.heap[wr6.heap.size]? = some (.cells #[.int .i64 (-1), .int .i64 157785120, .int .i64 (-9223372036854775808), .int .i64 9223372036854775807] 2 (0, 0)) := by rw [hw11]; exact heap_alloc_at _ _
            have hb611 : Below w6.heap.size w6 w11 := by rw [hw11]; exact hb6.alloc hb6.size _
            have hs11 : wr6.heap.size < w11.heap.size := by rw [hw11]; simp
            obtain ⟨g11, hg11⟩ : ∃ g11, g11 = wr6.heap.size := ⟨_, rfl⟩
            rw [← hg11] at hG11 hs11 ⊢
            have HG11 := hide hG11
            have HB611 := hide hb611
            have hi11 := run_indexAt_arr (P := Try.prog) (n := 4) (cap := 4) (a := some ⟨g11, 0, none⟩) (b := g11) (off := 0) Try.underlying31 Try.size2 (fun _ => rfl)
            have hilast : ∀ W, (Instr.indexAt 28 (.slice ai ni capi) (.int .i64 ((ni : Int) - 1))).run Try.prog W = .ok (.pointer (some ⟨bi, offi + (ni - 1), none⟩)) W := fun W => by
              have h9 := hi8 W ((ni : Int) - 1) (by omega) (by omega)
              rw [h9, show ((ni : Int) - 1).toNat * 1 = ni - 1 by omega]
            have hbil := HB8.out hni0
            have hlt9 : ni - 1 < I.length := by have h9 := HNI.out; omega
            have hrl := HC8.out (ni - 1) hlt9
            generalize I[ni - 1]'hlt9 = il at *
            have HRL := hide hrl
            clear hw11 hG11 hb611 hg11 hb6 hrl hi8
            refine wp_loop_mask bL11 (fun g x wr => ∃ k : Nat, k ≤ 4 ∧ g = 4 - k ∧ x = .int .i64 k ∧ Below w11.heap.size w11 wr) 4 (.int .i64 0) ⟨0, by omega, by omega, rfl, Below.refl _ _⟩ (by kernel_rfl) ?_
            intro gk11 x378 u11 wr11 hrel J11 K11 hJ11 hK11
            dsimp only [bL11, maskL_keep, maskL_any, maskL_is, maskL_nil]
            as_aux_lemma =>
            obtain ⟨k11, hk11, rfl, rfl, hb11⟩ := hrel
            by_cases hk4 : k11 < 4
            case pos =>
              obtain ⟨m, hm, HM⟩ := lit4_at ((hb11.block g11 hs11).trans HG11.out) (fun m => m < 0 ∨ 157785119 < m) (by decide) (by decide) (by decide) (by decide) k11 hk4
              have hb6r : Below w6.heap.size w6 wr11 := HB611.out.trans (hb11.mono HB611.out.size)
              have hb1r : Below w1.heap.size w1 wr11 := HBW6.out.trans (hb6r.mono HBW6.out.size)
              have hr0 := HRL.out
              rw [← rng_of_block (hb6r.block bi hbil)] at hr0
              have e0 := (rng_cell hr0).2 0 (by decide)
              simp only [u32Cs, List.getElem?_toArray, List.getElem?_cons_zero, Nat.add_zero, Nat.mul_one] at e0
              have hfx := HFX.out.below hb1r
              obtain ⟨-, b1, -, hBl⟩ := cell_two hfx.ben.bench
              have s0 : wr11.cell? ⟨gs, 0, none⟩ = some (.int .u32 si) := by rw [World.cell?, (hb6r.block gs hgl6).trans HG6.out]; rfl
              have hgl8 : gs < wr11.heap.size := by have := hb6r.size; omega
              have hbil8 : bi < wr11.heap.size := by have := hb6r.size; omega
              have HCALL : Hid (∀ W', Below wr11.heap.size wr11 W' → Calls Try.prog 17 #[.pointer (some ⟨PH, 0, none⟩), .int .u32 si, .int .u32 il, .int .i64 m] W' fun e W'' => e = .returned (.tuple #[.agg #[.int .u32 0, .int .u8 0, .int .i64 0, .int .i64 0], errOr 3]) ∧ Below W'.heap.size W' W'') := fun W' hW' => by
                have h9 := classify_q' (hfx.ben.at'.below hW') hfx.rep si il m (HIN.out.subs _ HSM.out).2.2.2
                rw [HIN.out.bad HM.out] at h9
                exact h9
              have HB11 := hide hb11
              clear hr0 hfx hb6r hb1r hb11
              go_upto_region 87 with fail
              refine wp_cut_mask bC87 (fun x W => ∃ g, x.1 = .pointer (some ⟨g, 0, none⟩) ∧ x.2 = errOr 3 ∧ Below wr11.heap.size wr11 W ∧ W.heap[g]? = some (.cells #[.int .u32 0, .int .u8 0, .int .i64 0, .int .i64 0] 42 (0, 0))) ?first ?rest
              case first =>
                intro J K' hJ hK'
                as_aux_lemma =>
                refine wp_region_mixT wr11.heap.size [3, 5, 11] (by kernel_rfl) ?_
                refine mixT_slots [0, 1, 2, 4, 6, 7, 8, 9, 10, 12] (fuel := 10) rfl (by kernel_rfl) (by kernel_rfl) (fun d _ _ _ _ h => by cases d <;> exact h) ?_
                simp only [opersAt, List.getElem?_toArray, List.getElem?_cons_zero, List.getElem?_cons_succ]
                repeat (go_big_quiet_step (fail))
                refine wpQuiet_nil ?_
                refine mixT_reads [3, 5, 11] (fuel := 7) rfl (by kernel_rfl) (by decide) (by kernel_rfl) (fun d _ _ _ _ h => by cases d <;> exact h) (ext_drew _ _) ?_
                simp only [opersAt, List.getElem?_toArray, List.getElem?_cons_zero, List.getElem?_cons_succ]
                repeat (go_big_quiet_step (fail))
                refine wpQuiet_nil ?_
                refine mixT_two (k := 13) (k' := 17) (by kernel_rfl) rfl rfl ?_ ?_
                · as_aux_lemma =>
                  go_wp2_with (go_at_call 17; refine (HCALL.out _ (Below.refl _ _).drew).mono ?_; rintro e W4 ⟨rfl, hb4⟩)
                  have hb4' : Below wr11.heap.size wr11 W4 := ((Below.refl _ _).drew).trans hb4
                  refine ⟨Or.inl (by kernel_rfl), ?_⟩
                  refine mixT_slots [14, 15, 16] (fuel := 3) rfl (by kernel_rfl) (by kernel_rfl) (fun d _ _ _ _ h => by cases d <;> exact h) ?_
                  simp only [opersAt, List.getElem?_toArray, List.getElem?_cons_zero, List.getElem?_cons_succ]
                  repeat (go_big_quiet_step (fail))
                  refine wpQuiet_nil ?_
                  refine mixT_one (k := 17) (by kernel_rfl) rfl ?_
                  go_wp2
                  refine ⟨Or.inr (fun _ => ⟨⟨_, hb4'.alloc hb4'.size _⟩, rfl⟩), ?_⟩
                  refine mixT_one (k := 18) (by kernel_rfl) rfl ?_
                  go_wp2
                  refine ⟨Or.inl (by kernel_rfl), ?_⟩
                  refine mixT_one (k := 19) (by kernel_rfl) rfl ?_
                  go_wp2
                  refine ⟨Or.inr (fun h => h), ?_⟩
                  refine mixT_nil (by kernel_rfl) ?_
                  go_wp2
                  refine Met.intro ?_
                  exact hJ.out (.pointer (some ⟨W4.heap.size, 0, none⟩), errOr 3) _ _ ⟨_, rfl, rfl, hb4'.alloc hb4'.size _, heap_alloc_at _ _⟩ (by kernel_rfl)
                · as_aux_lemma =>
                  go_wp2
                  refine ⟨Or.inr (fun _ => ⟨⟨_, ((Below.refl _ _).drew).alloc (Nat.le_refl _) _⟩, rfl⟩), ?_⟩
                  refine mixT_one (k := 13) (by kernel_rfl) rfl ?_
                  go_wp2_with (go_at_call 17; refine (HCALL.out _ (((Below.refl _ _).drew).alloc (Nat.le_refl _) _)).mono ?_; rintro e W4 ⟨rfl, hb4⟩)
                  have hb4' : Below wr11.heap.size wr11 W4 := (((Below.refl _ _).drew).alloc (Nat.le_refl _) _).trans (hb4.mono (by simp))
                  have hg4 : W4.heap[wr11.heap.size]? = some (.cells #[.int .u32 0, .int .u8 0, .int .i64 0, .int .i64 0] 42 (0, 0)) := (hb4.block _ (by simp)).trans (heap_alloc_at _ _)
                  have hw4 := whole_of_heap hg4
                  simp only [List.size_toArray, List.length_cons, List.length_nil] at hw4
                  refine ⟨Or.inl (by kernel_rfl), ?_⟩
                  refine mixT_slots [14, 15, 16] (fuel := 2) rfl (by kernel_rfl) (by kernel_rfl) (fun d _ _ _ _ h => by cases d <;> exact h) ?_
                  simp only [opersAt, List.getElem?_toArray, List.getElem?_cons_zero, List.getElem?_cons_succ]
                  repeat (go_big_quiet_step (fail))
                  refine wpQuiet_nil ?_
                  refine mixT_one (k := 18) (by kernel_rfl) rfl ?_
                  go_wp2
                  refine ⟨Or.inl (by kernel_rfl), ?_⟩
                  refine mixT_one (k := 19) (by kernel_rfl) rfl ?_
                  go_wp2
                  refine ⟨Or.inr (fun h => h), ?_⟩
                  refine mixT_nil (by kernel_rfl) ?_
                  go_wp2
                  refine Met.intro ?_
                  exact hJ.out (.pointer (some ⟨wr11.heap.size, 0, none⟩), errOr 3) _ _ ⟨_, rfl, rfl, hb4'.trans (below_setRow' _ _ (Nat.le_refl _)), heap_setRow_at hg4⟩ (by kernel_rfl)
              case rest =>
                rintro ⟨x40, x41⟩ uC wc hcut
                dsimp only [bC87, maskL_keep, maskL_any, maskL_is, maskL_nil]
                as_aux_lemma =>
                obtain ⟨g40, rfl, rfl, hbc, hG40⟩ := hcut
                have HBF : Hid (Below w11.heap.size w11 wc) := HB11.out.trans (hbc.mono HB11.out.size)
                have p0 : wc.cell? ⟨g40, 0, none⟩ = some (.int .u32 0) := by rw [World.cell?, hG40]; rfl
                have p1 : wc.cell? ⟨g40, 1, none⟩ = some (.int .u8 0) := by rw [World.cell?, hG40]; rfl
                have p2 : wc.cell? ⟨g40, 2, none⟩ = some (.int .i64 0) := by rw [World.cell?, hG40]; rfl
                have p3 : wc.cell? ⟨g40, 3, none⟩ = some (.int .i64 0) := by rw [World.cell?, hG40]; rfl
                have HCO := hide (codeOf_any 3 wc)
                clear hG40 hbc b1 s0 HCALL hBl hgl8 e0 hm
                go_wp2_with (go_at_call 18; refine HCO.out.mono ?_; rintro e w' ⟨rfl, rfl⟩)
                refine Handed.intro (4 - (k11 + 1)) (by omega) ?_
                exact hJ11.out _ (.int .i64 ((k11 + 1 : Nat) : Int)) _ _ ⟨k11 + 1, by omega, rfl, rfl, HBF.out⟩ (by kernel_rfl)
            case neg =>
              go_wp2
              refine Handed.intro (ns - (k + 1)) (by omega) ?_
              have hb6r : Below w6.heap.size w6 wr11 := HB611.out.trans (hb11.mono HB611.out.size)
              exact hJ2.out _ (.int .i64 ((k + 1 : Nat) : Int)) _ _ ⟨k + 1, by omega, rfl, rfl, HBW6.out.trans (hb6r.mono HBW6.out.size)⟩ (by kernel_rfl)

end Go.Proofs.Qxb6500665a
