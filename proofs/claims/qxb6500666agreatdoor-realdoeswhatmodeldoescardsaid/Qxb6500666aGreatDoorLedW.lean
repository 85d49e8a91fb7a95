/- The ledger's Take, walked on rendered texts. -/
import Derived.Test.Qxb6500666aGreatDoorLedM
import Derived.Test.Qxb6500666aGreatDoorPrsW
import Derived.BigQuiet
namespace Go.Proofs.Qxb6500666aGreatDoor
open Go.RowKit
attribute [local go_sem ↓] exec_ldRow exec_ldChange exec_ldFile exec_stRow exec_stChange exec_stFile exec_bsRow exec_bsChange exec_slRows exec_bdChange exec_eqlRow exec_neqRow
attribute [local go_sem] run_ldRow run_ldChange run_ldFile run_stRow run_stChange run_stFile run_bsRow run_bsChange run_bdChange run_neqRow run_eqlRow rng_alloc_lt rng_alloc_at rng_drew rng_drewN rng_setCell_other rng_setRow_other whole_alloc_lt whole_alloc_at whole_drew whole_setCell_other whole_setRow_other setRow_alloc_at setRow_alloc_lt setRow_drew rowCs_size rowCs_ones rowCs_0 rowCs_1 rowCs_2 rowCs_3 rowCs_4 rowCs_5 rowCs_6 rowCs_7 rowCs_8 rowCs_9 rowCs_10 rowCs_11 rowCs_12 rowCs_all changeCs_size changeCs_ones changeCs_0 changeCs_row changeCs_all fileCs_size fileCs_ones fileCs_0 fileCs_1 fileCs_2 fileCs_3 fileCs_4 fileCs_all ext_const Ext.cell Ext.frozen Ext.rng Ext.whole

attribute [local go_sem] exS_const ExS.cell ExS.rng file_ones change_ones

/-- A file that parses. -/
structure FK (f : File) : Prop where
  ok : FileOk f.kind f.seq f.issued f.base f.changes
  k : U8 f.kind
  s : U32 f.seq
  i : I64 f.issued
  b : U32 f.base
  c : ∀ c ∈ f.changes, c.Ok
  len : f.changes.length ≤ 65536
/-- What Take leaves. -/
def TakeP (W w' : World) (G : Nat) (L : Led) (f : File) (e : Ending) : Prop :=
  match takeR L f with
  | none => e = .returned (.iface 63 (.int .u8 30)) ∧ Below W.heap.size W w'
  | some L' => e = .returned .nilIface ∧ (∃ v', LedAt w' G L' v') ∧ Same (fun b => b < W.heap.size ∧ b ≠ G) W w' ∧ Below G W w'
theorem takeP_none {W w' : World} {G : Nat} {L : Led} {f : File} (h : takeR L f = none) (hb : Below W.heap.size W w') : TakeP W w' G L f (.returned (.iface 63 (.int .u8 30))) := by
  unfold TakeP
  rw [h]
  exact ⟨rfl, hb⟩
theorem takeP_some {W w' : World} {G : Nat} {L L' : Led} {f : File} {v' : SV} (h : takeR L f = some L') (hl : LedAt w' G L' v') (hs : Same (fun b => b < W.heap.size ∧ b ≠ G) W w') (hb : Below G W w') : TakeP W w' G L f (.returned .nilIface) := by
  unfold TakeP
  rw [h]
  exact ⟨rfl, ⟨v', hl⟩, hs, hb⟩
/-- In the midst of Take: the ledger, the file in hand. -/
structure TK (W U : World) (G F : Nat) (L : Led) (v : SV) (f : File) (c : SV) : Prop where
  led : LedAt U G L v
  kf : U.heap[F]? = some (.cells (fileCs f.kind f.seq f.issued f.base c.1 c.2.1 c.2.2) 59 (0, 0))
  ch : ChangesAt U (fun g => W.heap.size ≤ g ∧ g ≠ F) (sv c) f.changes
  bel : Below W.heap.size W U
  fg : W.heap.size ≤ F
  gw : G < W.heap.size
section
variable {W U U' : World} {G F : Nat} {L : Led} {v c : SV} {f : File}
theorem TK.below (h : TK W U G F L v f c) (hb : Below U.heap.size U U') : TK W U' G F L v f c :=
  ⟨h.led.below hb, (hb.block _ (blk_lt h.kf)).trans h.kf, RArr.below h.ch hb, h.bel.trans (hb.mono h.bel.size), h.fg, h.gw⟩
theorem TK.file (h : TK W U G F L v f c) : U.cell? ⟨F, 0, none⟩ = some (.int .u8 f.kind) ∧ U.cell? ⟨F, 1, none⟩ = some (.int .u32 f.seq) ∧ U.cell? ⟨F, 2, none⟩ = some (.int .i64 f.issued) ∧ U.cell? ⟨F, 3, none⟩ = some (.int .u32 f.base) ∧ U.cell? ⟨F, 4, none⟩ = some (.slice c.1 c.2.1 c.2.2) ∧ F < U.heap.size :=
  ⟨cells_all h.kf 0, cells_all h.kf 1, cells_all h.kf 2, cells_all h.kf 3, cells_all h.kf 4, blk_lt h.kf⟩
end
/-- The last two cells are set, in either order. -/
theorem led_done {W U U' : World} {G : Nat} {L L' : Led} {v' : SV} {f : File} {x1 : Int}
    (hU : U.heap[G]? = some (.cells #[.int .u32 L.taken, .int .u32 x1, .int .i64 L.issued, sv v'] 154 (0, 0))) (hs : Same (fun b => b < W.heap.size ∧ b ≠ G) W U) (hb : Below G W U) (hr : RArr U (· ≠ G) 13 rowCs (sv v') L'.rows)
    (hw : U' = (U.setCell ⟨G, 0, none⟩ (.int .u32 L'.taken)).setCell ⟨G, 2, none⟩ (.int .i64 L'.issued) ∨ U' = (U.setCell ⟨G, 2, none⟩ (.int .i64 L'.issued)).setCell ⟨G, 0, none⟩ (.int .u32 L'.taken)) (hx : x1 = L'.base) (ht : takeR L f = some L') : TakeP W U' G L f (.returned .nilIface) := by
  have hoth : ∀ g, g ≠ G → U'.heap[g]? = U.heap[g]? := fun g hg => by
    rcases hw with rfl | rfl <;> rw [Below.heap_setCell _ _ _ _ hg, Below.heap_setCell _ _ _ _ hg]
  have htop : U'.heap[G]? = some (.cells #[.int .u32 L'.taken, .int .u32 x1, .int .i64 L'.issued, sv v'] 154 (0, 0)) := by
    rcases hw with rfl | rfl
    · exact heap_set3 (j := 2) (heap_set3 (j := 0) hU)
    · exact heap_set3 (j := 0) (heap_set3 (j := 2) hU)
  have hbel : Below G U U' := by
    rcases hw with rfl | rfl
    · exact ((Below.refl _ _).setCell (p := ⟨G, 0, none⟩) (Nat.le_refl _) _).setCell (p := ⟨G, 2, none⟩) (Nat.le_refl _) _
    · exact ((Below.refl _ _).setCell (p := ⟨G, 2, none⟩) (Nat.le_refl _) _).setCell (p := ⟨G, 0, none⟩) (Nat.le_refl _) _
  subst hx
  exact takeP_some (v' := v') ht ⟨htop, RArr.mono hr (fun g hg => hoth g hg) (fun _ h => h)⟩ (fun g hg => (hoth g hg.2).trans (hs g hg)) (hb.trans hbel)

set_option maxRecDepth 100000 in
set_option maxHeartbeats 4000000 in
theorem ledTake_calls (W : World) (G : Nat) (L : Led) (v : SV) (f : File) (b off n cap : Nat) (hL : LedAt W G L v) (hD : DataAt W b off n cap (txt f)) (hf : FK f) (hT : 0 ≤ L.taken ∧ L.taken ≤ 1000000000) (hrl : L.rows.length ≤ 100000000) :
    Calls Tryz.prog 54 #[.pointer (some ⟨G, 0, none⟩), .slice (some ⟨b, off, none⟩) n cap] W fun e w' => TakeP W w' G L f e := by
  have HPS := hide (parse_new W b off n cap f.kind f.seq f.issued f.base f.changes hD hf.ok hf.k hf.s hf.i hf.b hf.c hf.len)
  have HL := hide hL
  have HK : Hid (f.kind = 67 ∨ f.kind = 73) := hf.ok.1
  have HRL := hide hrl
  have HCL := hide hf.len
  have HGW := hide hL.lt
  obtain ⟨va, vn, vc⟩ := v
  have HVN : Hid (vn = L.rows.length) := by
    obtain ⟨_, _, _, _, e, _⟩ := hL.rows
    injection e with _ e2 _
  clear hL hD hf hrl
  go_enter Tryz.func54, Tryz.ntmps54
  go_upto_region 2 with (go_at_call 33; refine HPS.out.mono ?_; rintro e W1 ⟨ca, cc, rfl, hch, hb1⟩)
  have HT2 : Hid (TK W (W1.alloc (.cells (fileCs f.kind f.seq f.issued f.base ca f.changes.length cc) 59)) G W1.heap.size L (va, vn, vc) f (ca, f.changes.length, cc)) := by
    have hb2 : Below W.heap.size W (W1.alloc (.cells (fileCs f.kind f.seq f.issued f.base ca f.changes.length cc) 59)) := hb1.alloc hb1.size _
    exact ⟨HL.out.below hb2, heap_alloc_at _ _, RArr.mono (RArr.lt hch) (fun g hg => Below.heap_alloc _ _ _ hg.2) (fun g hg => ⟨hg.1, by have := hg.2; omega⟩), hb2, hb1.size, HGW.out⟩
  clear hch hb1 HPS HL
  generalize W1.alloc (.cells (fileCs f.kind f.seq f.issued f.base ca f.changes.length cc) 59) = W2 at *
  generalize W1.heap.size = F at *
  obtain ⟨q0, q1, q2, q3, q4, hFl⟩ := HT2.out.file
  obtain ⟨g0, g1, g2, g3, gf, hGl⟩ := HT2.out.led.four
  replace g3 : W2.cell? ⟨G, 3, none⟩ = some (.slice va vn vc) := g3
  go_upto_region 4 with fail
  by_cases hs1 : f.seq = L.taken + 1
  rotate_left
  · as_aux_lemma =>
    have d1 : (f.seq != L.taken + 1) = true := by simpa using hs1
    have HN : Hid (takeR L f = none) := takeR_not fun h => hs1 h.1
    clear hs1
    go_quiet (fail)
    go_wp2
    go_ret
    exact takeP_none HN.out (HT2.out.below (below_drewN (Below.refl _ _) _)).bel
  have d1 : (f.seq != L.taken + 1) = false := by simpa using hs1
  by_cases hs2 : f.base = L.base
  rotate_left
  · as_aux_lemma =>
    have d2 : (f.base != L.base) = true := by simpa using hs2
    have HN : Hid (takeR L f = none) := takeR_not fun h => hs2 h.2.1
    clear hs2
    go_quiet (fail)
    go_wp2
    go_ret
    exact takeP_none HN.out (HT2.out.below (below_drewN (Below.refl _ _) _)).bel
  have d2 : (f.base != L.base) = false := by simpa using hs2
  by_cases hs3 : f.issued < L.issued
  · as_aux_lemma =>
    have d3 : decide (f.issued < L.issued) = true := by simpa using hs3
    have HN : Hid (takeR L f = none) := takeR_not fun h => by have := h.2.2; omega
    clear hs3
    go_quiet (fail)
    go_wp2
    go_ret
    exact takeP_none HN.out (HT2.out.below (below_drewN (Below.refl _ _) _)).bel
  have d3 : decide (f.issued < L.issued) = false := by simpa using hs3
  have HTN : Hid (Turn L f) := ⟨hs1, hs2, by omega⟩
  clear hs1 hs2 hs3
  go_quiet (fail)
  have HT3 := hide (HT2.out.below (below_drewN (Below.refl _ _) nq))
  generalize W2.drewN nq = W3 at *
  obtain ⟨q0, q1, q2, q3, q4, hFl⟩ := HT3.out.file
  obtain ⟨g0, g1, g2, g3, gf, hGl⟩ := HT3.out.led.four
  replace g3 : W3.cell? ⟨G, 3, none⟩ = some (.slice va vn vc) := g3
  by_cases hk : f.kind = 73
  · have dk : (f.kind == 73) = true := by simpa using hk
    have HKD := hide hk
    clear hk d1 d2 d3 HT2
    have HAP := hide (fun w (hb : Below W3.heap.size W3 w) => apply_calls w _ _ _ _ L.rows f.changes (RArr.below HT3.out.led.rows hb) (RArr.below HT3.out.ch hb) HRL.out (by have := HCL.out; omega))
    cases hap : applyF L.rows f.changes with
    | none =>
      as_aux_lemma =>
      have HN : Hid (takeR L f = none) := by
        show _ = _
        rw [takeR_inc HTN.out HKD.out, hap]
        rfl
      have HAN : Hid (∀ w, Below W3.heap.size W3 w → Calls Tryz.prog 122 #[.slice va vn vc, .slice ca f.changes.length cc] w fun e w' => e = .returned (.tuple #[.slice none 0 0, .iface 63 (.int .u8 30)]) ∧ Below w.heap.size w w') := fun w hb => (HAP.out w hb).mono fun e w' h => by
        unfold ApplyPost at h
        rw [hap] at h
        exact ⟨h.2, h.1⟩
      clear HAP hap
      go_upto_region 8 with fail
      refine wp_region_mixT (W3.heap.size) [3, 5] (by kernel_rfl) ?_
      refine mixT_slots [0, 1, 2, 4] (fuel := 8) rfl (by kernel_rfl) (by kernel_rfl) (fun d _ _ _ _ h => by cases d <;> exact h) ?_
      simp only [opersAt, List.getElem?_toArray, List.getElem?_cons_zero, List.getElem?_cons_succ]
      repeat (go_big_quiet_step (fail))
      refine wpQuiet_nil ?_
      refine mixT_reads [3, 5] (fuel := 6) rfl (by kernel_rfl) (by decide) (by kernel_rfl) (fun d _ _ _ _ h => by cases d <;> exact h) (ext_drew _ _) ?_
      simp only [opersAt, List.getElem?_toArray, List.getElem?_cons_zero, List.getElem?_cons_succ]
      repeat (go_big_quiet_step (fail))
      refine wpQuiet_nil ?_
      refine mixT_one (k := 6) (by kernel_rfl) rfl ?_
      go_wp2_with (go_at_call 122; refine (HAN.out _ ((Below.refl _ _).drew)).mono ?_; rintro e W4 ⟨rfl, hb4⟩)
      refine ⟨Or.inl (by kernel_rfl), ?_⟩
      refine mixT_slots [7, 8, 9, 10, 11] (fuel := 0) rfl (by kernel_rfl) (by kernel_rfl) (fun d _ _ _ _ h => by cases d <;> exact h) ?_
      simp only [opersAt, List.getElem?_toArray, List.getElem?_cons_zero, List.getElem?_cons_succ]
      repeat (go_big_quiet_step (fail))
      refine wpQuiet_nil ?_
      refine mixT_nil (by kernel_rfl) ?_
      go_wp2
      go_ret
      exact takeP_none HN.out (HT3.out.below (((Below.refl _ _).drew).trans hb4)).bel
    | some rs =>
      as_aux_lemma =>
      have HN : Hid (takeR L f = some ⟨f.seq, L.base, f.issued, rs⟩) := by
        show _ = _
        rw [takeR_inc HTN.out HKD.out, hap]
        rfl
      have HLN : Hid (rs.length ≤ L.rows.length + f.changes.length) := agree_len hap
      have HAN : Hid (∀ w, Below W3.heap.size W3 w → Calls Tryz.prog 122 #[.slice va vn vc, .slice ca f.changes.length cc] w fun e w' => ∃ a c, e = .returned (.tuple #[.slice a rs.length c, .nilIface]) ∧ OwnR w' w.heap.size 109 13 rowCs (.slice a rs.length c) rs ∧ Below w.heap.size w w') := fun w hb => (HAP.out w hb).mono fun e w' h => by
        unfold ApplyPost at h
        rw [hap] at h
        obtain ⟨h1, u, h2, h3⟩ := h
        obtain ⟨a, c, hu⟩ := h3.form
        subst hu
        exact ⟨a, c, h2, h3, h1⟩
      clear HAP hap
      go_upto_region 8 with fail
      refine wp_region_mixT (W3.heap.size) [3, 5] (by kernel_rfl) ?_
      refine mixT_slots [0, 1, 2, 4] (fuel := 8) rfl (by kernel_rfl) (by kernel_rfl) (fun d _ _ _ _ h => by cases d <;> exact h) ?_
      simp only [opersAt, List.getElem?_toArray, List.getElem?_cons_zero, List.getElem?_cons_succ]
      repeat (go_big_quiet_step (fail))
      refine wpQuiet_nil ?_
      refine mixT_reads [3, 5] (fuel := 6) rfl (by kernel_rfl) (by decide) (by kernel_rfl) (fun d _ _ _ _ h => by cases d <;> exact h) (ext_drew _ _) ?_
      simp only [opersAt, List.getElem?_toArray, List.getElem?_cons_zero, List.getElem?_cons_succ]
      repeat (go_big_quiet_step (fail))
      refine wpQuiet_nil ?_
      refine mixT_one (k := 6) (by kernel_rfl) rfl ?_
      go_wp2_with (go_at_call 122; refine (HAN.out _ ((Below.refl _ _).drew)).mono ?_; rintro e W4 ⟨ra, rc, rfl, hown, hb4⟩)
      refine ⟨Or.inl (by kernel_rfl), ?_⟩
      refine mixT_slots [7, 8, 9, 10, 11] (fuel := 0) rfl (by kernel_rfl) (by kernel_rfl) (fun d _ _ _ _ h => by cases d <;> exact h) ?_
      simp only [opersAt, List.getElem?_toArray, List.getElem?_cons_zero, List.getElem?_cons_succ]
      repeat (go_big_quiet_step (fail))
      refine wpQuiet_nil ?_
      refine mixT_nil (by kernel_rfl) ?_
      have HT4 := hide (HT3.out.below (((Below.refl _ _).drew).trans hb4))
      have HRW : Hid (RArr W4 (· ≠ G) 13 rowCs (.slice ra rs.length rc) rs) := by
        refine RArr.mono (RArr.lt (hown.rows rowCs_size (by decide) ?_)) (Same.refl _ _) (fun g hg => ?_)
        · have := HRL.out
          have := HCL.out
          have := HLN.out
          omega
        · have h1 : W3.heap.size ≤ g := hg.1
          show g ≠ G
          omega
      clear hown hb4
      obtain ⟨q0, q1, q2, q3, q4, hFl⟩ := HT4.out.file
      obtain ⟨g0, g1, g2, g3, gf, hGl⟩ := HT4.out.led.four
      replace g3 : W4.cell? ⟨G, 3, none⟩ = some (.slice va vn vc) := g3
      go_upto_region 22 with fail
      have hu5 : (W4.setCell ⟨G, 3, none⟩ (.slice ra rs.length rc)).heap[G]? = some (.cells #[.int .u32 L.taken, .int .u32 L.base, .int .i64 L.issued, .slice ra rs.length rc] 154 (0, 0)) := heap_set3 (j := 3) HT4.out.led.top
      have hoth : ∀ g, g ≠ G → (W4.setCell ⟨G, 3, none⟩ (.slice ra rs.length rc)).heap[g]? = W4.heap[g]? := fun g hg => Below.heap_setCell _ _ _ _ hg
      have hbs : Below G W4 (W4.setCell ⟨G, 3, none⟩ (.slice ra rs.length rc)) := (Below.refl _ _).setCell (p := ⟨G, 3, none⟩) (Nat.le_refl _) _
      have hFG : F ≠ G := by have := HT4.out.fg; have := HT4.out.gw; omega
      have hkf5 := (hoth F hFG).trans HT4.out.kf
      have HR5 : Hid (RArr (W4.setCell ⟨G, 3, none⟩ (.slice ra rs.length rc)) (· ≠ G) 13 rowCs (.slice ra rs.length rc) rs) := RArr.mono HRW.out (fun g hg => hoth g hg) (fun _ h => h)
      have HS5 : Hid (Same (fun b => b < W.heap.size ∧ b ≠ G) W (W4.setCell ⟨G, 3, none⟩ (.slice ra rs.length rc))) := fun g hg => (hoth g hg.2).trans (HT4.out.bel.block g hg.1)
      have HB5 : Hid (Below G W (W4.setCell ⟨G, 3, none⟩ (.slice ra rs.length rc))) := (HT4.out.bel.mono (Nat.le_of_lt HGW.out)).trans hbs
      generalize W4.setCell ⟨G, 3, none⟩ (.slice ra rs.length rc) = W5 at *
      clear hoth hbs q0 q1 q2 q3 q4 g0 g1 g2 g3 gf
      obtain ⟨q1, q2, hFl⟩ : W5.cell? ⟨F, 1, none⟩ = some (.int .u32 f.seq) ∧ W5.cell? ⟨F, 2, none⟩ = some (.int .i64 f.issued) ∧ F < W5.heap.size := ⟨cells_all hkf5 1, cells_all hkf5 2, blk_lt hkf5⟩
      obtain ⟨g0, g1, g2, g3, gf, hGl5⟩ := cell_four hu5
      have HU5 := hide hu5
      clear hu5 hkf5
      refine wp_region_mixX W5.heap.size G [3, 5] (by kernel_rfl) ?_
      refine mixT_slots [0, 1, 2, 4] (fuel := 8) rfl (by kernel_rfl) (by kernel_rfl) (fun d _ _ _ _ h => by cases d <;> exact h) ?_
      simp only [opersAt, List.getElem?_toArray, List.getElem?_cons_zero, List.getElem?_cons_succ]
      repeat (go_big_quiet_step (fail))
      refine wpQuiet_nil ?_
      refine mixT_reads [3, 5] (fuel := 6) rfl (by kernel_rfl) (by decide) (by kernel_rfl) (fun d _ _ _ _ h => by cases d <;> exact h) (exS_drew _ _ _) ?_
      simp only [opersAt, List.getElem?_toArray, List.getElem?_cons_zero, List.getElem?_cons_succ]
      repeat (go_big_quiet_step (fail))
      refine wpQuiet_nil ?_
      refine mixT_slots [6, 7] (fuel := 4) rfl (by kernel_rfl) (by kernel_rfl) (fun d _ _ _ _ h => by cases d <;> exact h) ?_
      simp only [opersAt, List.getElem?_toArray, List.getElem?_cons_zero, List.getElem?_cons_succ]
      repeat (go_big_quiet_step (fail))
      refine wpQuiet_nil ?_
      refine mixT_one (k := 8) (by kernel_rfl) rfl ?_
      go_wp2
      refine ⟨Or.inr (fun _ => ⟨⟨(W5.setCell ⟨G, 0, none⟩ (.int .u32 f.seq)).drew, fun b _ hb => Below.heap_setCell W5 _ _ b hb⟩, rfl⟩), ?_⟩
      refine mixT_slots [9, 10] (fuel := 1) rfl (by kernel_rfl) (by kernel_rfl) (fun d _ _ _ _ h => by cases d <;> exact h) ?_
      simp only [opersAt, List.getElem?_toArray, List.getElem?_cons_zero, List.getElem?_cons_succ]
      repeat (go_big_quiet_step (fail))
      refine wpQuiet_nil ?_
      refine mixT_one (k := 11) (by kernel_rfl) rfl ?_
      go_wp2
      refine ⟨Or.inl (by kernel_rfl), ?_⟩
      refine mixT_nil (by kernel_rfl) ?_
      go_wp2
      go_ret
      exact led_done (U := W5.drew) (v' := (ra, rs.length, rc)) (x1 := L.base) (L' := ⟨f.seq, L.base, f.issued, rs⟩) HU5.out HS5.out (HB5.out.trans ((Below.refl _ _).drew)) HR5.out (Or.inl rfl) rfl HN.out
  · have hk67 : f.kind = 67 := HK.out.resolve_right hk
    have dk : (f.kind == 73) = false := by simpa using hk
    have dk2 : (f.kind == 67) = true := by simpa using hk67
    have HTC : Hid (takeR L f = if f.changes.map (·.row) = L.rows then some ⟨f.seq, f.seq, f.issued, L.rows⟩ else none) := takeR_cum HTN.out hk
    clear hk hk67 d1 d2 d3 HT2
    by_cases hln : f.changes.length = L.rows.length
    rotate_left
    · as_aux_lemma =>
      have dl : ((f.changes.length : Int) != (vn : Int)) = true := by
        have := HVN.out
        simp
        omega
      have HN : Hid (takeR L f = none) := by
        show _ = _
        rw [HTC.out, if_neg (fun h => hln (by rw [← h]; simp))]
      clear hln HTC
      go_upto_region 13 with fail
      go_quiet (fail)
      go_wp2
      go_ret
      exact takeP_none HN.out (HT3.out.below (below_drewN (Below.refl _ _) _)).bel
    have dl : ((f.changes.length : Int) != (vn : Int)) = false := by
      have := HVN.out
      simp
      omega
    have HLE := hide hln
    clear hln
    go_upto_region 13 with fail
    go_quiet (fail)
    have HT4 := hide (HT3.out.below (below_drewN (Below.refl _ _) nq))
    generalize W3.drewN nq = W4 at *
    clear q0 q1 q2 q3 q4 g0 g1 g2 g3 gf hFl hGl HT3
    obtain ⟨q0, q1, q2, q3, q4, hFl⟩ := HT4.out.file
    dsimp only at q4
    obtain ⟨xa, xc, xb, xo, xe, xl1, xl2, xl3, xha, xhc⟩ := RArr.lt HT4.out.ch
    injection xe with xe1 xe2 xe3
    subst xe1
    subst xe3
    obtain ⟨ya, yc, yb, yo, ye, yl1, yl2, yl3, yha, yhc⟩ := RArr.lt HT4.out.led.rows
    injection ye with ye1 ye2 ye3
    subst ye1
    subst ye3
    rw [← HVN.out] at yha
    obtain ⟨m, hm⟩ : ∃ m, m = f.changes.length := ⟨_, rfl⟩
    have HM := hide hm
    have hmv : m = vn := by rw [hm, HLE.out, HVN.out]
    have hm6 : m ≤ 65536 := by rw [hm]; exact HCL.out
    rw [← hm] at xha dl q4 ⊢
    clear hm
    subst hmv
    have hiC := run_indexAt_arr (P := Tryz.prog) (n := m) (cap := cc) Tryz.underlying57 Tryz.size111 (fun h => (xha h).1)
    have hiR := run_indexAt_arr (P := Tryz.prog) (n := m) (cap := vc) Tryz.underlying150 Tryz.size109 (fun h => (yha h).1)
    have HXB : Hid (0 < m → xb < W4.heap.size) := fun h => (xha h).2.2
    have HYB : Hid (0 < m → yb < W4.heap.size) := fun h => (yha h).2.2
    have HXC := hide xhc
    have HYC := hide yhc
    clear xe2 xl1 xl2 xl3 xha xhc ye2 yl1 yl2 yl3 yha yhc
    go_upto_region 16 with fail
    go_loopg [82] m (fun gk j wr => ∃ q : Nat, q ≤ m ∧ gk = m - q ∧ j = .int .i64 q ∧ Hid (Below W4.heap.size W4 wr) ∧ Hid (∀ k (h : k < f.changes.length) (h' : k < L.rows.length), k < q → f.changes[k].row = L.rows[k]))
    case atStart => exact ⟨0, by omega, by omega, rfl, Below.refl _ _, fun _ _ _ h => absurd h (by omega)⟩
    case round =>
      obtain ⟨q, hq, rfl, rfl, HBW, HEQ⟩ := hrel
      have HTW := hide (HT4.out.below HBW.out)
      obtain ⟨g0, g1, g2, g3, gf, hGl⟩ := HTW.out.led.four
      replace g3 : wr.cell? ⟨G, 3, none⟩ = some (.slice va m vc) := g3
      by_cases hlt : q < m
      · as_aux_lemma =>
        have hqc : q < f.changes.length := by rw [← HM.out]; exact hlt
        have hqr : q < L.rows.length := by rw [← HVN.out]; exact hlt
        have hxb := HXB.out (by omega)
        have hyb := HYB.out (by omega)
        have hcc : rng wr xb (xo + q * 14) 14 = some (changeCs f.changes[q]) := by rw [rng_of_block (HBW.out.block _ hxb)]; exact HXC.out q hqc
        have hrr : rng wr yb (yo + q * 13) 13 = some (rowCs L.rows[q]) := by rw [rng_of_block (HBW.out.block _ hyb)]; exact HYC.out q hqr
        have hxw : xb < wr.heap.size := by have := HBW.out.size; omega
        have hyw : yb < wr.heap.size := by have := HBW.out.size; omega
        obtain ⟨c, hc⟩ : ∃ c, c = f.changes[q] := ⟨_, rfl⟩
        obtain ⟨r, hr⟩ : ∃ r, r = L.rows[q] := ⟨_, rfl⟩
        rw [← hc] at hcc
        rw [← hr] at hrr
        have HEc : Hid (∃ h : q < f.changes.length, c = f.changes[q]) := ⟨hqc, hc⟩
        have HEr : Hid (∃ h : q < L.rows.length, r = L.rows[q]) := ⟨hqr, hr⟩
        clear hc hr hqc hqr hxb hyb q0 q1 q2 q3 q4 g0 g1 g2
        go_upto_region 18 with fail
        have hC1 : rng (wr.alloc (.cells (changeCs c) 111)) wr.heap.size 1 13 = some (rowCs c.row) := by
          have h1 : rng (wr.alloc (.cells (changeCs c) 111)) wr.heap.size 0 14 = some (changeCs c) := rng_whole (heap_alloc_at _ _)
          have := rng_sub (o := 1) (m := 13) h1 (by decide)
          rw [changeCs_row] at this
          simpa using this
        have hC2 : rng (wr.alloc (.cells (changeCs c) 111)) yb (yo + q * 13) 13 = some (rowCs r) := by rw [rng_alloc_lt _ _ _ _ _ hyw]; exact hrr
        have hb5 : Below wr.heap.size wr (wr.alloc (.cells (changeCs c) 111)) := (Below.refl _ _).alloc (Nat.le_refl _) _
        have HB5 : Hid (Below W4.heap.size W4 (wr.alloc (.cells (changeCs c) 111))) := HBW.out.alloc HBW.out.size _
        have HT5 := hide (HTW.out.below hb5)
        have g5 : (wr.alloc (.cells (changeCs c) 111)).cell? ⟨G, 3, none⟩ = some (.slice va m vc) := by rw [World.cell?_of_block (w := wr) (hb5.block _ hGl)]; exact g3
        generalize wr.alloc (.cells (changeCs c) 111) = W5 at *
        generalize wr.heap.size = C at *
        clear hcc hrr hb5 g3 gf HTW
        cases hce : c.row.eqB r with
        | true =>
          have HE2 : Hid (∀ k (h : k < f.changes.length) (h' : k < L.rows.length), k < q + 1 → f.changes[k].row = L.rows[k]) := fun k h h' hk => by
            by_cases he : k = q
            · subst he
              obtain ⟨_, e1⟩ := HEc.out
              obtain ⟨_, e2⟩ := HEr.out
              rw [← e1, ← e2]
              exact (Row.eqB_iff _ _).1 hce
            · exact HEQ.out k h h' (by omega)
          go_quiet (fail)
          go_wp2
          go_roundg (m - (q + 1))
          case measure => omega
          case rel => exact ⟨q + 1, by omega, rfl, by go_num, below_drewN HB5.out _, HE2⟩
        | false =>
          have HN : Hid (takeR L f = none) := by
            show _ = _
            rw [HTC.out, if_neg (fun h => ?_)]
            obtain ⟨p1, e1⟩ := HEc.out
            obtain ⟨p2, e2⟩ := HEr.out
            have h2 := congrArg (fun l => l[q]?) h
            simp only [List.getElem?_map, List.getElem?_eq_getElem p1, List.getElem?_eq_getElem p2, Option.map_some] at h2
            injection h2 with h2
            rw [← e1, ← e2] at h2
            rw [h2, eqB_refl] at hce
            cases hce
          go_quiet (fail)
          go_wp2
          go_ret
          exact takeP_none HN.out (HT5.out.below (below_drewN (Below.refl _ _) _)).bel
      · as_aux_lemma =>
        have hqm : m = q := by omega
        subst hqm
        have HN : Hid (takeR L f = some ⟨f.seq, f.seq, f.issued, L.rows⟩) := by
          show _ = _
          rw [HTC.out, if_pos]
          refine List.ext_getElem (by simpa using HLE.out) (fun k h1 h2 => ?_)
          simp only [List.getElem_map]
          exact HEQ.out k (by simpa using h1) h2 (by rw [HM.out]; simpa using h1)
        clear q0 q1 q2 q3 q4
        obtain ⟨q0, q1, q2, q3, q4, hFl⟩ := HTW.out.file
        go_upto_region 22 with fail
        have hu5 : (wr.setCell ⟨G, 1, none⟩ (.int .u32 f.seq)).heap[G]? = some (.cells #[.int .u32 L.taken, .int .u32 f.seq, .int .i64 L.issued, .slice va m vc] 154 (0, 0)) := heap_set3 (j := 1) HTW.out.led.top
        have hoth : ∀ g, g ≠ G → (wr.setCell ⟨G, 1, none⟩ (.int .u32 f.seq)).heap[g]? = wr.heap[g]? := fun g hg => Below.heap_setCell _ _ _ _ hg
        have hbs : Below G wr (wr.setCell ⟨G, 1, none⟩ (.int .u32 f.seq)) := (Below.refl _ _).setCell (p := ⟨G, 1, none⟩) (Nat.le_refl _) _
        have hFG : F ≠ G := by have := HTW.out.fg; have := HTW.out.gw; omega
        have hkf5 := (hoth F hFG).trans HTW.out.kf
        have HR5 : Hid (RArr (wr.setCell ⟨G, 1, none⟩ (.int .u32 f.seq)) (· ≠ G) 13 rowCs (.slice va m vc) L.rows) := RArr.mono HTW.out.led.rows (fun g hg => hoth g hg) (fun _ h => h)
        have HS5 : Hid (Same (fun b => b < W.heap.size ∧ b ≠ G) W (wr.setCell ⟨G, 1, none⟩ (.int .u32 f.seq))) := fun g hg => (hoth g hg.2).trans (HTW.out.bel.block g hg.1)
        have HB5 : Hid (Below G W (wr.setCell ⟨G, 1, none⟩ (.int .u32 f.seq))) := (HTW.out.bel.mono (Nat.le_of_lt HGW.out)).trans hbs
        generalize wr.setCell ⟨G, 1, none⟩ (.int .u32 f.seq) = W5 at *
        clear hoth hbs q0 q1 q2 q3 q4 g0 g1 g2 g3 gf
        obtain ⟨q1, q2, hFl⟩ : W5.cell? ⟨F, 1, none⟩ = some (.int .u32 f.seq) ∧ W5.cell? ⟨F, 2, none⟩ = some (.int .i64 f.issued) ∧ F < W5.heap.size := ⟨cells_all hkf5 1, cells_all hkf5 2, blk_lt hkf5⟩
        obtain ⟨g0, g1, g2, g3, gf, hGl5⟩ := cell_four hu5
        have HU5 := hide hu5
        clear hu5 hkf5
        refine wp_region_mixX W5.heap.size G [3, 5] (by kernel_rfl) ?_
        refine mixT_slots [0, 1, 2, 4] (fuel := 8) rfl (by kernel_rfl) (by kernel_rfl) (fun d _ _ _ _ h => by cases d <;> exact h) ?_
        simp only [opersAt, List.getElem?_toArray, List.getElem?_cons_zero, List.getElem?_cons_succ]
        repeat (go_big_quiet_step (fail))
        refine wpQuiet_nil ?_
        refine mixT_reads [3, 5] (fuel := 6) rfl (by kernel_rfl) (by decide) (by kernel_rfl) (fun d _ _ _ _ h => by cases d <;> exact h) (exS_drew _ _ _) ?_
        simp only [opersAt, List.getElem?_toArray, List.getElem?_cons_zero, List.getElem?_cons_succ]
        repeat (go_big_quiet_step (fail))
        refine wpQuiet_nil ?_
        refine mixT_slots [6, 7] (fuel := 4) rfl (by kernel_rfl) (by kernel_rfl) (fun d _ _ _ _ h => by cases d <;> exact h) ?_
        simp only [opersAt, List.getElem?_toArray, List.getElem?_cons_zero, List.getElem?_cons_succ]
        repeat (go_big_quiet_step (fail))
        refine wpQuiet_nil ?_
        refine mixT_one (k := 8) (by kernel_rfl) rfl ?_
        go_wp2
        refine ⟨Or.inr (fun _ => ⟨⟨(W5.setCell ⟨G, 0, none⟩ (.int .u32 f.seq)).drew, fun b _ hb => Below.heap_setCell W5 _ _ b hb⟩, rfl⟩), ?_⟩
        refine mixT_slots [9, 10] (fuel := 1) rfl (by kernel_rfl) (by kernel_rfl) (fun d _ _ _ _ h => by cases d <;> exact h) ?_
        simp only [opersAt, List.getElem?_toArray, List.getElem?_cons_zero, List.getElem?_cons_succ]
        repeat (go_big_quiet_step (fail))
        refine wpQuiet_nil ?_
        refine mixT_one (k := 11) (by kernel_rfl) rfl ?_
        go_wp2
        refine ⟨Or.inl (by kernel_rfl), ?_⟩
        refine mixT_nil (by kernel_rfl) ?_
        go_wp2
        go_ret
        exact led_done (U := W5.drew) (v' := (va, m, vc)) (x1 := f.seq) (L' := ⟨f.seq, f.seq, f.issued, L.rows⟩) HU5.out HS5.out (HB5.out.trans ((Below.refl _ _).drew)) HR5.out (Or.inl rfl) rfl HN.out
end Go.Proofs.Qxb6500666aGreatDoor
