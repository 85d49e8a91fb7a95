/- The protocol's layer: Amend, walked. -/
import Derived.Test.Qxb6500666aGreatDoorLowPrD
namespace Go.Proofs.Qxb6500666aGreatDoor
open Go.RowKit

/-- The first fault of a list of visits. -/
def amScan : List Int → List Int → Int
  | _, [] => 0
  | seen, x :: r => if (x == 0) then 7 else if seen.any (fun o => x == o) then 15 else amScan (seen ++ [x]) r
def lastEff : List Vsn → Option Int
  | [] => none
  | x :: r => some ((x :: r).getLast (by simp)).1
def amendP (T : Pr) (eff : Int) (vis : List Int) : Pr × Int :=
  if (decide (eff < 0) || decide (157785119 < eff)) then (T, 5) else if (vis.length == 0 || decide (12 < vis.length)) then (T, 14) else if (amScan [] vis != 0) then (T, amScan [] vis)
  else if (match lastEff T.ver with | none => false | some m => decide (eff ≤ m)) then (T, 16) else ({ T with ver := T.ver ++ [(eff, vis)] }, 0)

theorem amScan_at {vis : List Int} {q : Nat} (h : q < vis.length) : amScan (vis.take q) (vis.drop q) = if (vis[q] == 0) then 7 else if (vis.take q).any (fun o => vis[q] == o) then 15 else amScan (vis.take (q + 1)) (vis.drop (q + 1)) := by
  rw [List.drop_eq_getElem_cons h, amScan, List.take_succ_eq_append_getElem h]
theorem amScan_end {vis : List Int} {q : Nat} (h : vis.length ≤ q) : amScan (vis.take q) (vis.drop q) = 0 := by
  rw [List.drop_of_length_le h, amScan]
theorem lastEff_some {l : List Vsn} (h : 0 < l.length) : lastEff l = some (l[l.length - 1]'(by omega)).1 := by
  cases l with
  | nil => simp at h
  | cons x r => simp [lastEff, List.getLast_eq_getElem]
theorem lastEff_none {l : List Vsn} (h : l.length = 0) : lastEff l = none := by
  cases l with
  | nil => rfl
  | cons x r => simp at h

theorem RArr.caps {α : Type} {w : World} {ok : Nat → Prop} {size : Nat} {f : α → Array Value} {a : Option Addr} {n c : Nat} {xs : List α} (h : RArr w ok size f (.slice a n c) xs) : n = xs.length ∧ n ≤ c ∧ n ≤ 140737488355328 := by
  obtain ⟨a', cap, b, off, e, h1, h2, h3, -⟩ := h
  injection e with e1 e2 e3
  subst e2 e3
  exact ⟨rfl, h1, h3⟩
theorem RArr.openAt {α : Type} {w : World} {ok : Nat → Prop} {size : Nat} {f : α → Array Value} {a : Option Addr} {n c : Nat} {xs : List α} (h : RArr w ok size f (.slice a n c) xs) (hp : 0 < n) : ∃ b off, a = some ⟨b, off, none⟩ ∧ ok b ∧ ∀ i (hi : i < xs.length), rng w b (off + i * size) size = some (f xs[i]) := by
  obtain ⟨a', cap, b, off, e, h1, h2, h3, h4, h5⟩ := h
  injection e with e1 e2 e3
  subst e1 e2 e3
  exact ⟨b, off, (h4 hp).1, (h4 hp).2, h5⟩
theorem run_slUp32 (w : World) (b off n cap hi : Nat) (h2 : hi ≤ cap) (h3 : 0 < cap) :
    (Instr.sliceAt 29 (.slice (some ⟨b, off, none⟩) n cap) none (some (.int .i64 (hi : Int))) none).run Tryz.prog w = .ok (.slice (some ⟨b, off, none⟩) hi cap) w := by
  simp [Instr.sliceAt, Instr.slice, run_underlying Tryz.underlying29, Instr.sliceBounds, Instr.sliceBound, asIntOf, h2, Nat.ne_of_gt h3, Addr.add_lit]

attribute [local go_sem] ext_const Ext.cell Ext.frozen Ext.rng Ext.whole
attribute [local go_sem ↓] exec_ldPrS exec_stPrS
attribute [local go_sem] run_ldPrS run_stPrS whole_alloc_lt whole_alloc_at whole_drew setRow_alloc_at setRow_alloc_lt rng_alloc_lt rng_alloc_at rng_drew rng_drewN rng_setCell_other whole_setCell_other

set_option maxRecDepth 100000 in
set_option maxHeartbeats 2000000 in
theorem amend_calls (w : World) (ok okv : Nat → Prop) (u0 u1 u2 u3 vv : Value) (T : Pr) (eff : Int) (vis : List Int) (h : PrAt w ok u0 u1 u2 u3 T) (hvis : RArr w okv 1 u32Cs vv vis) (hl : T.Small) (hok : ∀ b, w.heap.size ≤ b → ok b) :
    Calls Tryz.prog 188 #[.agg #[u0, u1, u2, u3], .int .i64 eff, vv] w fun e w' => PrPost w w' ok e (amendP T eff vis) := by
  obtain ⟨R, hR⟩ : ∃ R, R = amendP T eff vis := ⟨_, rfl⟩
  rw [← hR]
  have HR := hide hR
  have HH := hide h
  obtain ⟨⟨a0, n0, c0, rfl⟩, ⟨a1, n1, c1, rfl⟩, ⟨a2, n2, c2, rfl⟩, ⟨a3, n3, c3, rfl⟩⟩ := h.forms
  obtain ⟨av, nv, cv, rfl, SV0⟩ := Src.of hvis
  have HSV := hide SV0
  have HVIS := hide hvis
  obtain ⟨hnl, hnc, hnm⟩ := hvis.caps
  have Hnl := hide hnl
  clear hnl
  have hov : ∀ b0 b1 b2 b3 m0 m1 m2 m3 d0 d1 d2 d3, ones #[.slice b0 m0 d0, .slice b1 m1 d1, .slice b2 m2 d2, .slice b3 m3 d3] 4 = true := fun _ _ _ _ _ _ _ _ _ _ _ _ => rfl
  clear hR h hvis SV0
  go_enter Tryz.func188, Tryz.ntmps188
  go_upto_region 1 with fail
  have HB0 := hide (PrBox.start w (.slice a0 n0 c0) (.slice a1 n1 c1) (.slice a2 n2 c2) (.slice a3 n3 c3))
  generalize (World.alloc (World.alloc w _) _) = W at *
  obtain ⟨f1, f2, f3, f4, f5, f6, f7, f8, f9⟩ := HB0.out.facts
  cases t0 : decide (eff < 0) with
  | true =>
    have HE : Hid (R = (T, 5)) := HR.out.trans (by simp [amendP, t0])
    go_wp2
    refine bodyPost_ret (results_cell_tmp Tryz.results188 _ _ (w.heap.size + 1) _ _ _ _ rfl (heap_setRow_at HB0.out.res) Tryz.underlying32 rfl (by kernel_rfl)) rfl ?_
    exact HB0.out.back HE HH.out
  | false =>
    cases t1 : decide (157785119 < eff) with
    | true =>
      have HE : Hid (R = (T, 5)) := HR.out.trans (by simp [amendP, t1])
      go_wp2
      refine bodyPost_ret (results_cell_tmp Tryz.results188 _ _ (w.heap.size + 1) _ _ _ _ rfl (heap_setRow_at HB0.out.res) Tryz.underlying32 rfl (by kernel_rfl)) rfl ?_
      exact HB0.out.back HE HH.out
    | false =>
      by_cases hz : nv = 0
      · have HE : Hid (R = (T, 14)) := HR.out.trans (by simp [amendP, t0, t1, ← Hnl.out, hz])
        subst hz
        go_wp2
        refine bodyPost_ret (results_cell_tmp Tryz.results188 _ _ (w.heap.size + 1) _ _ _ _ rfl (heap_setRow_at HB0.out.res) Tryz.underlying32 rfl (by kernel_rfl)) rfl ?_
        exact HB0.out.back HE HH.out
      · have tz : ((nv : Int) == 0) = false := by simpa using hz
        cases t2 : decide ((12 : Int) < (nv : Int)) with
        | true =>
          have HE : Hid (R = (T, 14)) := HR.out.trans (by have h9 : decide (12 < vis.length) = true := (by rw [← Hnl.out]; have h7 := of_decide_eq_true t2; simp; omega); simp only [amendP, t0, t1, h9, Bool.or_true, Bool.or_false]; rfl)
          go_wp2
          refine bodyPost_ret (results_cell_tmp Tryz.results188 _ _ (w.heap.size + 1) _ _ _ _ rfl (heap_setRow_at HB0.out.res) Tryz.underlying32 rfl (by kernel_rfl)) rfl ?_
          exact HB0.out.back HE HH.out
        | false =>
          have hn12 : nv ≤ 12 := by have h7 := of_decide_eq_false t2; omega
          have HGO : Hid (R = if (amScan [] vis != 0) then (T, amScan [] vis) else if (match lastEff T.ver with | none => false | some m => decide (eff ≤ m)) then (T, 16) else ({ T with ver := T.ver ++ [(eff, vis)] }, 0)) := HR.out.trans (by
            have h8 : (vis.length == 0) = false := by rw [← Hnl.out]; simpa using hz
            have h9 : decide (12 < vis.length) = false := by rw [← Hnl.out]; simp; omega
            simp only [amendP, t0, t1, h8, h9, Bool.or_false]
            rfl)
          obtain ⟨b, off, hab, hcs⟩ := HSV.out.src w (Below.refl _ _) (by omega)
          subst hab
          have hbl : b < w.heap.size := rng_lt (hcs 0 (by have := Hnl.out; omega))
          have HCS := hide hcs
          have hi := run_indexAt_arr (P := Tryz.prog) (n := nv) (cap := cv) (a := some ⟨b, off, none⟩) (b := b) (off := off) Tryz.underlying29 Tryz.size48 (fun _ => rfl)
          clear hcs HR
          go_upto_region 6 with fail
          go_loopg [31] nv (fun g x wr => ∃ q : Nat, q ≤ nv ∧ g = nv - q ∧ x = .int .i64 q ∧ wr = W ∧ Hid (amScan [] vis = amScan (vis.take q) (vis.drop q)))
          case atStart => exact ⟨0, by omega, by omega, rfl, rfl, by show amScan [] vis = amScan (vis.take 0) (vis.drop 0); simp⟩
          case round =>
            obtain ⟨q, hq, rfl, rfl, rfl, HQ⟩ := hrel
            by_cases hlt : q < nv
            · have hq1 : q < vis.length := by rw [← Hnl.out]; exact hlt
              have hrg := HCS.out q hq1
              rw [← rng_of_block (HB0.out.below.block b hbl)] at hrg
              have e0 := (rng_cell hrg).2 0 (by decide)
              simp only [u32Cs, List.getElem?_toArray, List.getElem?_cons_zero, Nat.add_zero, Nat.mul_one] at e0
              have HA := hide (HQ.out.trans (amScan_at hq1))
              have hbr : b < wr.heap.size := by have := HB0.out.below.size; omega
              generalize hx : vis[q] = x at e0 HA
              have HX := hide hx
              clear hrg hx HQ
              cases t3 : (x == 0) with
              | true =>
                have HE : Hid (R = (T, 7)) := HGO.out.trans (by have h9 : amScan [] vis = 7 := HA.out.trans (by simp [t3]); simp [h9])
                go_wp2
                refine bodyPost_ret (results_cell_tmp Tryz.results188 _ _ (w.heap.size + 1) _ _ _ _ rfl (heap_setRow_at HB0.out.res) Tryz.underlying32 rfl (by kernel_rfl)) rfl ?_
                exact HB0.out.back HE HH.out
              | false =>
                have hsl := fun W9 => run_slUp32 W9 b off nv cv q (by omega) (by omega)
                have hi2 := run_indexAt_arr (P := Tryz.prog) (n := q) (cap := cv) (a := some ⟨b, off, none⟩) (b := b) (off := off) Tryz.underlying29 Tryz.size48 (fun _ => rfl)
                go_upto_region 11 with fail
                go_loopg [43] q (fun g y w2 => ∃ p : Nat, p ≤ q ∧ g = q - p ∧ y = .int .i64 p ∧ w2 = wr ∧ Hid ((vis.take p).any (fun o => x == o) = false))
                case atStart => exact ⟨0, by omega, by omega, rfl, rfl, by show (vis.take 0).any _ = false; simp⟩
                case round =>
                  obtain ⟨p, hp, rfl, rfl, rfl, HP⟩ := hrel
                  by_cases hlt2 : p < q
                  · have hp1 : p < vis.length := by omega
                    have hrg := HCS.out p hp1
                    rw [← rng_of_block (HB0.out.below.block b hbl)] at hrg
                    have e1 := (rng_cell hrg).2 0 (by decide)
                    simp only [u32Cs, List.getElem?_toArray, List.getElem?_cons_zero, Nat.add_zero, Nat.mul_one] at e1
                    have HT := hide (List.take_succ_eq_append_getElem hp1)
                    have HM : Hid (vis[p] ∈ vis.take q) := List.mem_take_iff_getElem.2 ⟨p, by omega, rfl⟩
                    generalize vis[p] = y at e1 HT HM
                    clear hrg
                    cases t4 : (x == y) with
                    | true =>
                      have HE : Hid (R = (T, 15)) := HGO.out.trans (by
                        have h8 : (vis.take q).any (fun o => x == o) = true := List.any_eq_true.2 ⟨y, HM.out, t4⟩
                        have h9 : amScan [] vis = 15 := HA.out.trans (by simp only [t3, h8]; rfl)
                        simp [h9])
                      go_wp2
                      refine bodyPost_ret (results_cell_tmp Tryz.results188 _ _ (w.heap.size + 1) _ _ _ _ rfl (heap_setRow_at HB0.out.res) Tryz.underlying32 rfl (by kernel_rfl)) rfl ?_
                      exact HB0.out.back HE HH.out
                    | false =>
                      go_wp2
                      go_roundg (q - (p + 1))
                      case measure => omega
                      case rel => exact ⟨p + 1, by omega, rfl, by go_num, rfl, by show (vis.take (p + 1)).any _ = false; rw [HT.out, List.any_append, HP.out]; simp only [List.any_cons, t4]; rfl⟩
                  · have hpq : p = q := by omega
                    subst hpq
                    have HE2 : Hid (amScan [] vis = amScan (vis.take (p + 1)) (vis.drop (p + 1))) := HA.out.trans (by rw [t3, HP.out]; rfl)
                    go_wp2
                    go_roundg (nv - (p + 1))
                    case measure => omega
                    case rel => exact ⟨p + 1, by omega, rfl, by go_num, rfl, HE2⟩
            · have hqe : q = nv := by omega
              have HZ : Hid (amScan [] vis = 0) := HQ.out.trans (amScan_end (by rw [← Hnl.out]; omega))
              have HG2 : Hid (R = if (match lastEff T.ver with | none => false | some m => decide (eff ≤ m)) then (T, 16) else ({ T with ver := T.ver ++ [(eff, vis)] }, 0)) := HGO.out.trans (by rw [HZ.out]; rfl)
              subst hqe
              clear HGO HQ hi
              obtain ⟨zs, hz1, hz2, hz3⟩ := HH.out.v
              obtain ⟨hzl, hzc, hzm⟩ := hz1.caps
              have HZL : Hid (n1 = T.ver.length) := by show n1 = _; rw [← hz2, List.length_map]; exact hzl
              have HZL2 : Hid (n1 = zs.length) := hzl
              have HZ1 := hide hz1
              have HZ2 := hide hz2
              have HZ3 := hide hz3
              clear hzl
              go_upto_region 18 with fail
              by_cases hn0 : n1 = 0
              · have HE : Hid (R = ({ T with ver := T.ver ++ [(eff, vis)] }, 0)) := HG2.out.trans (by rw [lastEff_none (by rw [← HZL.out]; exact hn0)]; rfl)
                subst hn0
                clear hz1 hz2 hz3
                go_upto_region 20 with fail
                refine wp_region_mixT (wr.heap.size) [1] (by kernel_rfl) ?_
                refine mixT_slots [0, 2, 3] (fuel := 6) rfl (by kernel_rfl) (by kernel_rfl) (fun d _ _ _ _ h => by cases d <;> exact h) ?_
                simp only [opersAt, List.getElem?_toArray, List.getElem?_cons_zero, List.getElem?_cons_succ]
                repeat (go_big_quiet_step (fail))
                refine wpQuiet_nil ?_
                refine mixT_reads [1] (fuel := 5) rfl (by kernel_rfl) (by decide) (by kernel_rfl) (fun d _ _ _ _ h => by cases d <;> exact h) (ext_drew _ _) ?_
                simp only [opersAt, List.getElem?_toArray, List.getElem?_cons_zero, List.getElem?_cons_succ]
                repeat (go_big_quiet_step (fail))
                refine wpQuiet_nil ?_
                refine mixT_one (k := 4) (by kernel_rfl) rfl ?_
                refine wpList_appN (α := Int) rfl _ _ 29 rfl wr.heap.size 48 u32Cs Tryz.underlying29 Tryz.info48 rfl (by decide) u32Cs_size u32Cs_one (.slice none 0 0) [] rfl (OwnR.nil _ _ _ _ _) (some ⟨b, off, none⟩) q cv rfl vis Hnl.out (fun h => by cases h) (HSV.out.src _ HB0.out.below.drew) (by simp only [List.length_nil]; omega) (by simp only [List.length_nil]; unfold maxLen; omega) (Nat.le_refl _) ?_
                intro y1 v1 hown1 hsame1 hbel1 hat1
                rw [List.nil_append] at hown1
                have hb1 : Below wr.heap.size wr v1 := (Below.refl _ _).drew.trans hbel1
                refine ⟨Or.inr (by intros; exact ⟨⟨_, hb1⟩, rfl⟩), ?_⟩
                obtain ⟨A5, m5, k5, e5⟩ := hown1.form3
                subst e5
                have HB1 := hide hb1
                have HO1 := hide hown1
                have hzz1 := hb1.size
                have hw0 := HB0.out.below.size
                clear hown1 hsame1 hbel1 hat1 hb1
                refine mixT_one (k := 5) (by kernel_rfl) rfl ?_
                go_wp2
                refine ⟨Or.inr (fun h => h), ?_⟩
                refine mixT_one (k := 6) (by kernel_rfl) rfl ?_
                go_wp2_with (go_at_call 237; refine (withVZ_calls _ ok _ zs ⟨eff, vis, (A5, m5, k5)⟩ (HZ1.out.below (HB0.out.below.trans (HB1.out.mono hw0))) (by have := hl.v; have := HZL.out; have := HZL2.out; omega)).mono ?_; rintro e v2 ⟨x9, rfl, hown9, hb9⟩; obtain ⟨A9, m9, k9, e9⟩ := hown9.form3; subst e9)
                have hbz : Below wr.heap.size wr v2 := HB1.out.trans (hb9.mono hzz1)
                refine ⟨Or.inr (by intros; exact ⟨⟨_, hbz⟩, rfl⟩), ?_⟩
                have HB9 := hide (HB0.out.next hbz)
                obtain ⟨g1, g2, g3, g4, g5, g6, g7, g8, g9⟩ := HB9.out.facts
                refine mixT_one (k := 7) (by kernel_rfl) rfl ?_
                go_wp2
                refine ⟨Or.inr (fun h => h), ?_⟩
                refine mixT_one (k := 8) (by kernel_rfl) rfl ?_
                go_wp2
                refine ⟨Or.inl (by kernel_rfl), ?_⟩
                refine mixT_nil (by kernel_rfl) ?_
                go_upto_region 21 with fail
                have HC := hide (HB9.out.set (k := 1) (v := .slice A9 m9 k9) (v0 := .slice a0 n0 c0) (v1 := .slice A9 m9 k9) (v2 := .slice a2 n2 c2) (v3 := .slice a3 n3 c3) rfl)
                have hapart : PrAt v2 (fun b => ok b ∧ b ≠ w.heap.size + 1 ∧ b ≠ w.heap.size) (.slice a0 n0 c0) (.slice a1 0 c1) (.slice a2 n2 c2) (.slice a3 n3 c3) T := (HH.out.lt.mono (ok' := fun b => (ok b ∧ b ≠ w.heap.size + 1 ∧ b ≠ w.heap.size) ∧ b < w.heap.size) (fun _ _ => rfl) (fun b hb => ⟨⟨hb.1, by have := hb.2; omega, by have := hb.2; omega⟩, hb.2⟩)).mono (fun b hb => HB9.out.below.block b hb.2) (fun _ hb => hb.1)
                have hsz9 := HB0.out.size
                have hnew : VersAt v2 (fun b => ok b ∧ b ≠ w.heap.size + 1 ∧ b ≠ w.heap.size) (.slice A9 m9 k9) (T.ver ++ [(eff, vis)]) := by
                  refine ⟨zs ++ [⟨eff, vis, (A5, m5, k5)⟩], hown9.to_ok vzCs_size (by decide) (by have := hl.v; have := HZL.out; have := HZL2.out; simp only [List.length_append, List.length_cons, List.length_nil]; omega) (fun b hb => ⟨hok b (by omega), by omega, by omega⟩), by rw [List.map_append, HZ2.out]; rfl, fun z hz => ?_⟩
                  rcases List.mem_append.1 hz with hz | hz
                  · exact ((RArr.lt (HZ3.out z hz)).mono (ok' := fun b => (ok b ∧ b ≠ w.heap.size + 1 ∧ b ≠ w.heap.size) ∧ b < w.heap.size) (fun _ _ => rfl) (fun b hb => ⟨⟨hb.1, by have := hb.2; omega, by have := hb.2; omega⟩, hb.2⟩)).mono (fun b hb => HB9.out.below.block b hb.2) (fun _ hb => hb.1)
                  · rw [List.mem_singleton.1 hz]
                    exact (HO1.out.below hb9 (Nat.le_refl _)).to_ok u32Cs_size (by decide) (by have := Hnl.out; omega) (fun b hb => ⟨hok b (by omega), by omega, by omega⟩)
                have HAT : Hid (PrAt (v2.setCell ⟨w.heap.size, 1, none⟩ (.slice A9 m9 k9)) (fun b => ok b ∧ b ≠ w.heap.size + 1) (.slice a0 n0 c0) (.slice A9 m9 k9) (.slice a2 n2 c2) (.slice a3 n3 c3) { T with ver := T.ver ++ [(eff, vis)] }) := PrAt.mono (ok := fun b => ok b ∧ b ≠ w.heap.size + 1 ∧ b ≠ w.heap.size) ⟨hapart.a, hnew, hapart.s, hapart.u⟩ (fun b hb => Below.heap_setCell _ _ _ _ hb.2.2) (fun b hb => ⟨hb.1, hb.2.1⟩)
                clear f1 f2 f3 f4 f5 f6 f7 f8 f9 g1 g2 g3 g4 g5 g6 g7 g8 g9 hapart hnew hsz9 hown9 hb9
                generalize (World.setCell _ _ _) = V0 at *
                obtain ⟨f1, f2, f3, f4, f5, f6, f7, f8, f9⟩ := HC.out.facts
                go_wp2
                refine bodyPost_ret (results_cell_tmp Tryz.results188 _ _ (w.heap.size + 1) _ _ _ _ rfl (heap_setRow_at HC.out.res) Tryz.underlying32 rfl (by kernel_rfl)) rfl ?_
                exact HC.out.done HE HAT.out
              · obtain ⟨m, rfl⟩ : ∃ m, n1 = m + 1 := ⟨n1 - 1, by omega⟩
                have hzl := HZL2.out
                have HLE : Hid (lastEff T.ver = some (zs[m]'(by omega)).eff) := by
                  show lastEff T.ver = _
                  rw [lastEff_some (by rw [← HZL.out]; omega)]
                  simp only [← hz2, List.length_map, List.getElem_map, ← hzl]
                  rfl
                have tn : decide ((0 : Int) < ((m + 1 : Nat) : Int)) = true := by simp
                obtain ⟨b1, o1, hab1, -, hcs1⟩ := hz1.openAt (by omega)
                subst hab1
                have hrz := hcs1 m (by omega)
                have hbz1 : b1 < w.heap.size := rng_lt hrz
                rw [← rng_of_block (HB0.out.below.block b1 hbz1)] at hrz
                have ez := (rng_cell hrz).2 0 (by decide)
                generalize hze : zs[m]'(by omega) = z at HLE hrz ez
                simp only [vzCs, List.getElem?_toArray, List.getElem?_cons_zero, Nat.add_zero] at ez
                have hbz2 : b1 < wr.heap.size := by have := HB0.out.below.size; omega
                have hiv := run_indexAt_arr (P := Tryz.prog) (n := m + 1) (cap := c1) (a := some ⟨b1, o1, none⟩) (b := b1) (off := o1) Tryz.underlying28 Tryz.size193 (fun _ => rfl)
                have hiv2 := fun W9 => hiv W9 (m : Int) (by omega) (by omega)
                simp only [Int.toNat_natCast] at hiv2
                clear hz1 hz2 hz3 hzl hcs1 hze hrz hiv
                cases t5 : decide (eff ≤ z.eff) with
                | true =>
                  have HE : Hid (R = (T, 16)) := HG2.out.trans (by rw [HLE.out]; simp only [t5]; rfl)
                  go_wp2
                  refine bodyPost_ret (results_cell_tmp Tryz.results188 _ _ (w.heap.size + 1) _ _ _ _ rfl (heap_setRow_at HB0.out.res) Tryz.underlying32 rfl (by kernel_rfl)) rfl ?_
                  exact HB0.out.back HE HH.out
                | false =>
                  have HE : Hid (R = ({ T with ver := T.ver ++ [(eff, vis)] }, 0)) := HG2.out.trans (by rw [HLE.out]; simp only [t5]; rfl)
                  go_upto_region 20 with fail
                  refine wp_region_mixT (wr.heap.size) [1] (by kernel_rfl) ?_
                  refine mixT_slots [0, 2, 3] (fuel := 6) rfl (by kernel_rfl) (by kernel_rfl) (fun d _ _ _ _ h => by cases d <;> exact h) ?_
                  simp only [opersAt, List.getElem?_toArray, List.getElem?_cons_zero, List.getElem?_cons_succ]
                  repeat (go_big_quiet_step (fail))
                  refine wpQuiet_nil ?_
                  refine mixT_reads [1] (fuel := 5) rfl (by kernel_rfl) (by decide) (by kernel_rfl) (fun d _ _ _ _ h => by cases d <;> exact h) (ext_drew _ _) ?_
                  simp only [opersAt, List.getElem?_toArray, List.getElem?_cons_zero, List.getElem?_cons_succ]
                  repeat (go_big_quiet_step (fail))
                  refine wpQuiet_nil ?_
                  refine mixT_one (k := 4) (by kernel_rfl) rfl ?_
                  refine wpList_appN (α := Int) rfl _ _ 29 rfl wr.heap.size 48 u32Cs Tryz.underlying29 Tryz.info48 rfl (by decide) u32Cs_size u32Cs_one (.slice none 0 0) [] rfl (OwnR.nil _ _ _ _ _) (some ⟨b, off, none⟩) q cv rfl vis Hnl.out (fun h => by cases h) (HSV.out.src _ HB0.out.below.drew) (by simp only [List.length_nil]; omega) (by simp only [List.length_nil]; unfold maxLen; omega) (Nat.le_refl _) ?_
                  intro y1 v1 hown1 hsame1 hbel1 hat1
                  rw [List.nil_append] at hown1
                  have hb1 : Below wr.heap.size wr v1 := (Below.refl _ _).drew.trans hbel1
                  refine ⟨Or.inr (by intros; exact ⟨⟨_, hb1⟩, rfl⟩), ?_⟩
                  obtain ⟨A5, m5, k5, e5⟩ := hown1.form3
                  subst e5
                  have HB1 := hide hb1
                  have HO1 := hide hown1
                  have hzz1 := hb1.size
                  have hw0 := HB0.out.below.size
                  clear hown1 hsame1 hbel1 hat1 hb1
                  refine mixT_one (k := 5) (by kernel_rfl) rfl ?_
                  go_wp2
                  refine ⟨Or.inr (fun h => h), ?_⟩
                  refine mixT_one (k := 6) (by kernel_rfl) rfl ?_
                  go_wp2_with (go_at_call 237; refine (withVZ_calls _ ok _ zs ⟨eff, vis, (A5, m5, k5)⟩ (HZ1.out.below (HB0.out.below.trans (HB1.out.mono hw0))) (by have := hl.v; have := HZL.out; have := HZL2.out; omega)).mono ?_; rintro e v2 ⟨x9, rfl, hown9, hb9⟩; obtain ⟨A9, m9, k9, e9⟩ := hown9.form3; subst e9)
                  have hbz : Below wr.heap.size wr v2 := HB1.out.trans (hb9.mono hzz1)
                  refine ⟨Or.inr (by intros; exact ⟨⟨_, hbz⟩, rfl⟩), ?_⟩
                  have HB9 := hide (HB0.out.next hbz)
                  obtain ⟨g1, g2, g3, g4, g5, g6, g7, g8, g9⟩ := HB9.out.facts
                  refine mixT_one (k := 7) (by kernel_rfl) rfl ?_
                  go_wp2
                  refine ⟨Or.inr (fun h => h), ?_⟩
                  refine mixT_one (k := 8) (by kernel_rfl) rfl ?_
                  go_wp2
                  refine ⟨Or.inl (by kernel_rfl), ?_⟩
                  refine mixT_nil (by kernel_rfl) ?_
                  go_upto_region 21 with fail
                  have HC := hide (HB9.out.set (k := 1) (v := .slice A9 m9 k9) (v0 := .slice a0 n0 c0) (v1 := .slice A9 m9 k9) (v2 := .slice a2 n2 c2) (v3 := .slice a3 n3 c3) rfl)
                  have hapart : PrAt v2 (fun b => ok b ∧ b ≠ w.heap.size + 1 ∧ b ≠ w.heap.size) (.slice a0 n0 c0) (.slice (some ⟨b1, o1, none⟩) (m + 1) c1) (.slice a2 n2 c2) (.slice a3 n3 c3) T := (HH.out.lt.mono (ok' := fun b => (ok b ∧ b ≠ w.heap.size + 1 ∧ b ≠ w.heap.size) ∧ b < w.heap.size) (fun _ _ => rfl) (fun b hb => ⟨⟨hb.1, by have := hb.2; omega, by have := hb.2; omega⟩, hb.2⟩)).mono (fun b hb => HB9.out.below.block b hb.2) (fun _ hb => hb.1)
                  have hsz9 := HB0.out.size
                  have hnew : VersAt v2 (fun b => ok b ∧ b ≠ w.heap.size + 1 ∧ b ≠ w.heap.size) (.slice A9 m9 k9) (T.ver ++ [(eff, vis)]) := by
                    refine ⟨zs ++ [⟨eff, vis, (A5, m5, k5)⟩], hown9.to_ok vzCs_size (by decide) (by have := hl.v; have := HZL.out; have := HZL2.out; simp only [List.length_append, List.length_cons, List.length_nil]; omega) (fun b hb => ⟨hok b (by omega), by omega, by omega⟩), by rw [List.map_append, HZ2.out]; rfl, fun z hz => ?_⟩
                    rcases List.mem_append.1 hz with hz | hz
                    · exact ((RArr.lt (HZ3.out z hz)).mono (ok' := fun b => (ok b ∧ b ≠ w.heap.size + 1 ∧ b ≠ w.heap.size) ∧ b < w.heap.size) (fun _ _ => rfl) (fun b hb => ⟨⟨hb.1, by have := hb.2; omega, by have := hb.2; omega⟩, hb.2⟩)).mono (fun b hb => HB9.out.below.block b hb.2) (fun _ hb => hb.1)
                    · rw [List.mem_singleton.1 hz]
                      exact (HO1.out.below hb9 (Nat.le_refl _)).to_ok u32Cs_size (by decide) (by have := Hnl.out; omega) (fun b hb => ⟨hok b (by omega), by omega, by omega⟩)
                  have HAT : Hid (PrAt (v2.setCell ⟨w.heap.size, 1, none⟩ (.slice A9 m9 k9)) (fun b => ok b ∧ b ≠ w.heap.size + 1) (.slice a0 n0 c0) (.slice A9 m9 k9) (.slice a2 n2 c2) (.slice a3 n3 c3) { T with ver := T.ver ++ [(eff, vis)] }) := PrAt.mono (ok := fun b => ok b ∧ b ≠ w.heap.size + 1 ∧ b ≠ w.heap.size) ⟨hapart.a, hnew, hapart.s, hapart.u⟩ (fun b hb => Below.heap_setCell _ _ _ _ hb.2.2) (fun b hb => ⟨hb.1, hb.2.1⟩)
                  clear f1 f2 f3 f4 f5 f6 f7 f8 f9 g1 g2 g3 g4 g5 g6 g7 g8 g9 hapart hnew hsz9 hown9 hb9
                  generalize (World.setCell _ _ _) = V0 at *
                  obtain ⟨f1, f2, f3, f4, f5, f6, f7, f8, f9⟩ := HC.out.facts
                  go_wp2
                  refine bodyPost_ret (results_cell_tmp Tryz.results188 _ _ (w.heap.size + 1) _ _ _ _ rfl (heap_setRow_at HC.out.res) Tryz.underlying32 rfl (by kernel_rfl)) rfl ?_
                  exact HC.out.done HE HAT.out

end Go.Proofs.Qxb6500666aGreatDoor
