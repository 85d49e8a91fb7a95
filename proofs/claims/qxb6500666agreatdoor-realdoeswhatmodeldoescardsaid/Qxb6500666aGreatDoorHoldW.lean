/- The model's HoldsOf, walked. (Made by tools/mk_holdw.py.) -/
import Derived.Test.Qxb6500666aGreatDoorHoldP
import Derived.Deep.DeepCutAuto
namespace Go.Proofs.Qxb6500666aGreatDoor
open Go.RowKit

section
variable (ρ : Operand → Value) (dst : Option Tmp) (x y a0 a1 a2 a3 a4 a5 a6 a7 a8 a9 : Operand) (ty : TypeId) (pos : String) (after : Array Edge) (guard : Option (Nat × Bool))
def bs10S (a0 a1 a2 a3 a4 a5 a6 a7 a8 a9 : Value) : Sem Value := Instr.buildSlice 220 10 #[(0, a0), (1, a1), (2, a2), (3, a3), (4, a4), (5, a5), (6, a6), (7, a7), (8, a8), (9, a9)]
theorem exec_bs10 : execOp ρ { dst, op := .buildSlice 220 10 #[(0, a0), (1, a1), (2, a2), (3, a3), (4, a4), (5, a5), (6, a6), (7, a7), (8, a8), (9, a9)], type := ty, pos, after, guard } = (do pure (.value (← bs10S (ρ a0) (ρ a1) (ρ a2) (ρ a3) (ρ a4) (ρ a5) (ρ a6) (ρ a7) (ρ a8) (ρ a9)))) := by simp [execOp, bs10S]
theorem exec_bdHm : execOp ρ { dst, op := .build 216 #[(0, x), (1, y)], type := ty, pos, after, guard } = (do pure (.value (← bdS 216 (ρ x) (ρ y)))) := by simp [execOp, bdS]
theorem exec_ldHm : execOp ρ { dst, op := .load 216 x, type := ty, pos, after, guard } = (do pure (.value (← ldS 216 (ρ x)))) := rfl
theorem exec_stHm : execOp ρ { dst, op := .store 216 x y, type := ty, pos, after, guard } = (do stS 216 (ρ x) (ρ y); pure .skip) := rfl
end
def hmCs (p : Int × Bool) : Array Value := #[.int .u16 p.1, .bool p.2]
theorem size216 (w : World) : (sizeOf 216).run Tryz.prog w = .ok 2 w := by kernel_rfl
theorem und220 : Tryz.prog.underlying 220 = some (.slice 216) := by kernel_rfl
theorem run_bdHm (w : World) (a : Int) (b : Bool) : (bdS 216 (.int .u16 a) (.bool b)).run Tryz.prog w = .ok (.agg #[.int .u16 a, .bool b]) w := by kernel_rfl
theorem run_bs10 (w : World) (b1 b2 b3 b4 b5 b6 b7 b8 b9 b10 : Bool) : (bs10S (.agg #[.int .u16 1, .bool b1]) (.agg #[.int .u16 2, .bool b2]) (.agg #[.int .u16 4, .bool b3]) (.agg #[.int .u16 8, .bool b4]) (.agg #[.int .u16 16, .bool b5]) (.agg #[.int .u16 32, .bool b6]) (.agg #[.int .u16 64, .bool b7]) (.agg #[.int .u16 128, .bool b8]) (.agg #[.int .u16 256, .bool b9]) (.agg #[.int .u16 512, .bool b10])).run Tryz.prog w = .ok (.slice (some ⟨w.heap.size, 0, none⟩) 10 10) (w.alloc (.cells #[.int .u16 1, .bool b1, .int .u16 2, .bool b2, .int .u16 4, .bool b3, .int .u16 8, .bool b4, .int .u16 16, .bool b5, .int .u16 32, .bool b6, .int .u16 64, .bool b7, .int .u16 128, .bool b8, .int .u16 256, .bool b9, .int .u16 512, .bool b10] 216)) := by kernel_rfl
theorem run_ldHm (w : World) (b off : Nat) : (ldS 216 (.pointer (some ⟨b, off, none⟩))).run Tryz.prog w = match rng w b off 2 with | some cs => .ok (.agg cs) w | none => (Instr.loadAt 216 (.pointer (some ⟨b, off, none⟩))).run Tryz.prog w :=
  run_ldS (fs := (match Tryz.prog.underlying 216 with | some (.struct fs) => fs | _ => #[])) (by kernel_rfl) size216 w b off
theorem run_stHm (w : World) (b : Nat) (cs : Array Value) : (stS 216 (.pointer (some ⟨b, 0, none⟩)) (.agg cs)).run Tryz.prog w = if whole w b 2 = true ∧ ones cs 2 = true then .ok () (w.setRow b cs) else (Instr.storeAt 216 (.pointer (some ⟨b, 0, none⟩)) (.agg cs)).run Tryz.prog w := run_stS size216 w b cs
/-- The ten reasons in memory. -/
theorem ten_at {W : World} {g : Nat} {T : TypeId} {b1 b2 b3 b4 b6 df b7 b8 b9 b10 : Bool} (h : W.heap[g]? = some (.cells #[.int .u16 1, .bool b1, .int .u16 2, .bool b2, .int .u16 4, .bool b3, .int .u16 8, .bool b4, .int .u16 16, .bool (! df), .int .u16 32, .bool b6, .int .u16 64, .bool (df && b7), .int .u16 128, .bool (df && b8), .int .u16 256, .bool b9, .int .u16 512, .bool b10] T (0, 0))) : ∀ i (hi : i < (holdM b1 b2 b3 b4 b6 df b7 b8 b9 b10).length), rng W g (i * 2) 2 = some (hmCs (holdM b1 b2 b3 b4 b6 df b7 b8 b9 b10)[i]) := by
  intro i hi
  have hi' : i < 10 := hi
  unfold rng
  rw [h]
  match i, hi' with
  | 0, _ => rfl
  | 1, _ => rfl
  | 2, _ => rfl
  | 3, _ => rfl
  | 4, _ => rfl
  | 5, _ => rfl
  | 6, _ => rfl
  | 7, _ => rfl
  | 8, _ => rfl
  | 9, _ => rfl
theorem wsum_take {l : List (Int × Bool)} {q : Nat} (h : q < l.length) : wsum (l.take (q + 1)) = if l[q].2 then IntKind.u16.wrap (wsum (l.take q) + l[q].1) else wsum (l.take q) := by
  unfold wsum
  rw [List.take_succ_eq_append_getElem h, List.foldl_append]
  rfl

theorem region_facts {P : Program} {id : Nat} {Q : Exit → Act → World → Prop} {a : Act} {w : World} {ops : Array Oper} (F : Array Oper → Prop) (hF : F ops) (h : F ops → (Code.region id ops true).wp P Q a w) : (Code.region id ops true).wp P Q a w := h hF
structure HlB (w W : World) (s : Smp) (r : Res) : Prop where
  sm : W.heap[w.heap.size]? = some (.cells #[.int .u32 s.id, .int .u32 s.kit, .int .u32 s.subject, .int .u32 s.visit, .int .u8 s.cls, .int .i64 s.collected, .int .i64 s.received, .bool s.exc] 94 (0, 0))
  rs : W.heap[w.heap.size + 1]? = some (.cells #[.int .u32 r.sample, .int .u32 r.analyte, .int .u32 r.version, .int .i64 r.value, .int .i64 r.tested, .bool r.wd] 92 (0, 0))
  below : Below w.heap.size w W
  size : w.heap.size + 2 ≤ W.heap.size
theorem HlB.next {w W W' : World} {s : Smp} {r : Res} (h : HlB w W s r) (hb : Below W.heap.size W W') : HlB w W' s r := by
  have := h.size
  have := hb.size
  exact ⟨(hb.block _ (by omega)).trans h.sm, (hb.block _ (by omega)).trans h.rs, h.below.trans (hb.mono (by omega)), by omega⟩
theorem HlB.facts {w W : World} {s : Smp} {r : Res} (h : HlB w W s r) : (W.cell? ⟨w.heap.size, 0, none⟩ = some (.int .u32 s.id) ∧ W.cell? ⟨w.heap.size, 1, none⟩ = some (.int .u32 s.kit) ∧ W.cell? ⟨w.heap.size, 2, none⟩ = some (.int .u32 s.subject) ∧ W.cell? ⟨w.heap.size, 3, none⟩ = some (.int .u32 s.visit) ∧ W.cell? ⟨w.heap.size, 4, none⟩ = some (.int .u8 s.cls) ∧ W.cell? ⟨w.heap.size, 5, none⟩ = some (.int .i64 s.collected) ∧ W.cell? ⟨w.heap.size, 6, none⟩ = some (.int .i64 s.received) ∧ W.cell? ⟨w.heap.size, 7, none⟩ = some (.bool s.exc)) ∧
    (W.cell? ⟨w.heap.size + 1, 1, none⟩ = some (.int .u32 r.analyte) ∧ W.cell? ⟨w.heap.size + 1, 4, none⟩ = some (.int .i64 r.tested) ∧ W.cell? ⟨w.heap.size + 1, 5, none⟩ = some (.bool r.wd)) ∧ w.heap.size < W.heap.size ∧ w.heap.size + 1 < W.heap.size := by
  have := h.size
  refine ⟨⟨?_, ?_, ?_, ?_, ?_, ?_, ?_, ?_⟩, ⟨?_, ?_, ?_⟩, by omega, by omega⟩
  all_goals first | (rw [World.cell?, h.sm]; rfl) | (rw [World.cell?, h.rs]; rfl)
attribute [local go_sem] ext_const Ext.cell Ext.frozen Ext.rng Ext.whole
attribute [local go_sem ↓] exec_ldPrS exec_ldKtS exec_ldSmS exec_stKit exec_bs10 exec_bdHm exec_ldHm exec_stHm
attribute [local go_sem] run_ldPrS run_ldKtS run_ldSmS run_stKit run_bs10 run_bdHm run_ldHm run_stHm whole_alloc_lt whole_alloc_at whole_drew setRow_alloc_at setRow_alloc_lt rng_alloc_lt rng_alloc_at rng_drew rng_drewN

set_option maxRecDepth 100000 in
set_option maxHeartbeats 4000000 in
theorem mHolds_calls (w : World) (LB o : Nat) (ok : Nat → Prop) (x : LV) (L : Low) (s : Smp) (r : Res) (hL : LBlk w LB o x) (hlow : LowAt w ok x L) (hc : 0 ≤ s.collected ∧ s.collected ≤ 157785119) (hrc : 0 ≤ s.received ∧ s.received ≤ 157785119) (ht : 0 ≤ r.tested ∧ r.tested ≤ 157785119) (hver : L.pr.ver.length ≤ 1000000) :
    Calls Tryz.prog 29 #[.pointer (some ⟨LB, o, none⟩), .agg #[.int .u32 s.id, .int .u32 s.kit, .int .u32 s.subject, .int .u32 s.visit, .int .u8 s.cls, .int .i64 s.collected, .int .i64 s.received, .bool s.exc], .agg #[.int .u32 r.sample, .int .u32 r.analyte, .int .u32 r.version, .int .i64 r.value, .int .i64 r.tested, .bool r.wd]] w fun e w' => e = .returned (.int .u16 (holdsOf L s r)) ∧ Below w.heap.size w w' := by
  rw [(holds_eq L s r).1]
  obtain ⟨l, hl⟩ : ∃ l, l = holdsM L s r := ⟨_, rfl⟩
  rw [← hl]
  obtain ⟨b1, B1⟩ : ∃ b, b = r.wd := ⟨_, rfl⟩
  obtain ⟨site, B2⟩ : ∃ v, v = siteV L.pr.sub s.subject := ⟨_, rfl⟩
  obtain ⟨enr, B3⟩ : ∃ v, v = (sbjGet L.pr.sub s.subject).isSome := ⟨_, rfl⟩
  obtain ⟨kd, B4⟩ : ∃ v, v = kitD L.kit s.kit := ⟨_, rfl⟩
  obtain ⟨bt, B5⟩ : ∃ v, v = (kitGet L.kit s.kit).isSome := ⟨_, rfl⟩
  obtain ⟨b3, B6⟩ : ∃ v, v = (! bt || ! enr || kd.site != site) := ⟨_, rfl⟩
  obtain ⟨ver, B7⟩ : ∃ v, v = inForce L.pr.ver s.collected := ⟨_, rfl⟩
  obtain ⟨hv, B8⟩ : ∃ v, v = hasVisit L.pr.ver ver s.visit := ⟨_, rfl⟩
  obtain ⟨b6, B9⟩ : ∃ v, v = (decide (s.received < s.collected) || decide (r.tested < s.received)) := ⟨_, rfl⟩
  obtain ⟨lm, B10⟩ : ∃ v, v = (limGet L.pr.ana r.analyte s.cls).getD 0 := ⟨_, rfl⟩
  obtain ⟨df, B11⟩ : ∃ v, v = (limGet L.pr.ana r.analyte s.cls).isSome := ⟨_, rfl⟩
  obtain ⟨b9, B12⟩ : ∃ v, v = s.exc := ⟨_, rfl⟩
  obtain ⟨us, B13⟩ : ∃ v, v = unsettledB L.sm.qs s.id := ⟨_, rfl⟩
  have HR : Hid (l = holdM b1 (! enr) b3 (! hv) b6 df (decide (lm < s.received - s.collected)) (decide (lm < r.tested - s.collected)) b9 us) := hl.trans (by
    subst B13 B12 B11 B10 B9 B8 B7 B6 B5 B4 B3 B2 B1
    rfl)
  have HB1 := hide B1
  have HB2 := hide B2
  have HB3 := hide B3
  have HB4 := hide B4
  have HB5 := hide B5
  have HB6 := hide B6
  have HB7 := hide B7
  have HB8 := hide B8
  have HB9 := hide B9
  have HB10 := hide B10
  have HB11 := hide B11
  have HB12 := hide B12
  have HB13 := hide B13
  have hver0 : 0 ≤ ver ∧ ver ≤ 4294967295 := by rw [B7]; have := inForceN_le L.pr.ver s.collected L.pr.ver.length; unfold inForce; omega
  have HLB := hide hL
  have HLOW := hide hlow
  have hLl := hL.lt
  clear hl B1 B2 B3 B4 B5 B6 B7 B8 B9 B10 B11 B12 B13 hL hlow
  obtain ⟨p0, p1, p2, p3, k, s1, s2, s3⟩ := x
  go_enter Tryz.func29, Tryz.ntmps29
  go_upto_region 1 with fail
  have hA : HlB w ((w.alloc (.cells #[.int .u32 s.id, .int .u32 s.kit, .int .u32 s.subject, .int .u32 s.visit, .int .u8 s.cls, .int .i64 s.collected, .int .i64 s.received, .bool s.exc] 94)).alloc (.cells #[.int .u32 r.sample, .int .u32 r.analyte, .int .u32 r.version, .int .i64 r.value, .int .i64 r.tested, .bool r.wd] 92)) s r := by
    refine ⟨(Below.heap_alloc _ _ _ (by simp)).trans (heap_alloc_at _ _), (box2 w _ _ _ _), ((Below.refl _ _).alloc (Nat.le_refl _) _).alloc (by simp) _, by simp⟩
  generalize (World.alloc (World.alloc w _) _) = W at *
  have HA := hide hA
  clear hA
  obtain ⟨⟨c0, c1, c2, c3, c4, c5, c6, c7⟩, ⟨r1, r4, r5⟩, l0, l1⟩ := HA.out.facts
  have HLW := hide (HLOW.out.below HA.out.below)
  have HBW : Hid (LBlk W LB o ⟨p0, p1, p2, p3, k, s1, s2, s3⟩) := HLB.out.below HA.out.below hLl
  obtain ⟨g0, g4, g5, hLw⟩ := HBW.out
  simp only at g0 g4 g5
  refine wp_region_mixT (W.heap.size) [3, 5] (by kernel_rfl) ?_
  refine mixT_slots [0, 1, 2, 4] (fuel := 8) rfl (by kernel_rfl) (by kernel_rfl) (fun d _ _ _ _ h => by cases d <;> exact h) ?_
  simp only [opersAt, List.getElem?_toArray, List.getElem?_cons_zero, List.getElem?_cons_succ]
  repeat (go_big_quiet_step (fail))
  refine wpQuiet_nil ?_
  refine mixT_reads [3, 5] (fuel := 6) rfl (by kernel_rfl) (by decide) (by kernel_rfl) (fun d _ _ _ _ h => by cases d <;> exact h) (ext_drew _ _) ?_
  simp only [opersAt, List.getElem?_toArray, List.getElem?_cons_zero, List.getElem?_cons_succ]
  repeat (go_big_quiet_step (fail))
  refine wpQuiet_nil ?_
  refine mixT_one (k := 6) (by kernel_rfl) rfl ?_
  go_wp2_with (go_at_call 96; refine (siteOf_calls _ ok _ _ _ _ L.pr.sub s.subject (HLW.out.pr.below (Below.refl _ _).drew).u).mono ?_; rintro e w1 ⟨rfl, hb1⟩; rw [siteOf_get, ← HB2.out, ← HB3.out])
  have hbw : Below W.heap.size W w1 := (Below.refl _ _).drew.trans hb1
  refine ⟨Or.inr (by intros; exact ⟨⟨_, hbw⟩, rfl⟩), ?_⟩
  clear hb1
  refine mixT_slots [7, 8, 9] (fuel := 2) rfl (by kernel_rfl) (by kernel_rfl) (fun d _ _ _ _ h => by cases d <;> exact h) ?_
  simp only [opersAt, List.getElem?_toArray, List.getElem?_cons_zero, List.getElem?_cons_succ]
  repeat (go_big_quiet_step (fail))
  refine wpQuiet_nil ?_
  refine mixT_one (k := 10) (by kernel_rfl) rfl ?_
  go_wp2
  refine ⟨Or.inr (fun h => h), ?_⟩
  refine mixT_one (k := 11) (by kernel_rfl) rfl ?_
  go_wp2
  refine ⟨Or.inr (fun h => h), ?_⟩
  refine mixT_nil (by kernel_rfl) ?_
  have HA2 := hide (HA.out.next hbw)
  clear c0 c1 c2 c3 c4 c5 c6 c7 r1 r4 r5 l0 l1
  clear g0 g4 g5 hLw HLW HBW HA hbw
  have HA := HA2
  clear HA2
  obtain ⟨⟨c0, c1, c2, c3, c4, c5, c6, c7⟩, ⟨r1, r4, r5⟩, l0, l1⟩ := HA.out.facts
  have HLW := hide (HLOW.out.below HA.out.below)
  have HBW : Hid (LBlk w1 LB o ⟨p0, p1, p2, p3, k, s1, s2, s3⟩) := HLB.out.below HA.out.below hLl
  obtain ⟨g0, g4, g5, hLw⟩ := HBW.out
  simp only at g0 g4 g5
  go_upto_region 2 with fail
  go_cut [9, 10] (fun p b V => ∃ K, p = .pointer (some ⟨K, 0, none⟩) ∧ b = .bool bt ∧ V.heap[K]? = some (.cells (kitCs kd) 202 (0, 0)) ∧ Below w1.heap.size w1 V)
  case first =>
    as_aux_lemma =>
    have hov : ∀ x : Kit, ones (kitCs x) 2 = true := fun _ => rfl
    refine wp_region_mixT (w1.heap.size) [3, 5] (by kernel_rfl) ?_
    refine mixT_slots [0, 1, 2, 4] (fuel := 9) rfl (by kernel_rfl) (by kernel_rfl) (fun d _ _ _ _ h => by cases d <;> exact h) ?_
    simp only [opersAt, List.getElem?_toArray, List.getElem?_cons_zero, List.getElem?_cons_succ]
    repeat (go_big_quiet_step (fail))
    refine wpQuiet_nil ?_
    refine mixT_reads [3, 5] (fuel := 7) rfl (by kernel_rfl) (by decide) (by kernel_rfl) (fun d _ _ _ _ h => by cases d <;> exact h) (ext_drew _ _) ?_
    simp only [opersAt, List.getElem?_toArray, List.getElem?_cons_zero, List.getElem?_cons_succ]
    repeat (go_big_quiet_step (fail))
    refine wpQuiet_nil ?_
    refine mixT_two (k := 6) (k' := 10) (by kernel_rfl) rfl rfl ?_ ?_
    · go_wp2_with (go_at_call 97; refine (kitFind_calls _ ok _ L.kit s.kit (RArr.below HLW.out.kit (Below.refl _ _).drew)).mono ?_; rintro e w2 ⟨rfl, hb1⟩; rw [kitV_get2, ← HB4.out, ← HB5.out])
      have hbw : Below w1.heap.size w1 w2 := (Below.refl _ _).drew.trans hb1
      refine ⟨Or.inr (by intros; exact ⟨⟨_, hbw⟩, rfl⟩), ?_⟩
      have hzz := hbw.size
      refine mixT_slots [7, 8, 9] (fuel := 3) rfl (by kernel_rfl) (by kernel_rfl) (fun d _ _ _ _ h => by cases d <;> exact h) ?_
      simp only [opersAt, List.getElem?_toArray, List.getElem?_cons_zero, List.getElem?_cons_succ]
      repeat (go_big_quiet_step (fail))
      refine wpQuiet_nil ?_
      refine mixT_one (k := 10) (by kernel_rfl) rfl ?_
      go_wp2
      refine ⟨Or.inr (by intros; exact ⟨⟨_, hbw.alloc hzz _⟩, rfl⟩), ?_⟩
      refine mixT_one (k := 11) (by kernel_rfl) rfl ?_
      go_wp2
      refine ⟨Or.inl (by kernel_rfl), ?_⟩
      refine mixT_one (k := 12) (by kernel_rfl) rfl ?_
      go_wp2
      refine ⟨Or.inr (fun h => h), ?_⟩
      refine mixT_nil (by kernel_rfl) ?_
      go_wp2
      go_meet
      case rel => exact ⟨_, rfl, rfl, heap_alloc_at _ _, hbw.alloc hzz _⟩
    · go_wp2
      have hb0 : Below w1.heap.size w1 (w1.drew.alloc (.cells #[.int .u32 0, .int .u32 0] 202)) := (Below.refl _ _).drew.alloc (Nat.le_refl _) _
      refine ⟨Or.inr (by intros; exact ⟨⟨_, hb0⟩, rfl⟩), ?_⟩
      refine mixT_one (k := 6) (by kernel_rfl) rfl ?_
      go_wp2_with (go_at_call 97; refine (kitFind_calls _ ok _ L.kit s.kit (RArr.below HLW.out.kit hb0)).mono ?_; rintro e w2 ⟨rfl, hb1⟩; rw [kitV_get2, ← HB4.out, ← HB5.out])
      have hbw : Below w1.heap.size w1 w2 := hb0.trans (hb1.mono hb0.size)
      refine ⟨Or.inr (by intros; exact ⟨⟨_, hbw⟩, rfl⟩), ?_⟩
      have hgb : w2.heap[w1.heap.size]? = some (.cells #[.int .u32 0, .int .u32 0] 202 (0, 0)) := (hb1.block _ (by simp)).trans (heap_alloc_at _ _)
      have hwg : whole w2 w1.heap.size 2 = true := whole_blk hgb
      have hgl := blk_lt hgb
      refine mixT_slots [7, 8, 9] (fuel := 2) rfl (by kernel_rfl) (by kernel_rfl) (fun d _ _ _ _ h => by cases d <;> exact h) ?_
      simp only [opersAt, List.getElem?_toArray, List.getElem?_cons_zero, List.getElem?_cons_succ]
      repeat (go_big_quiet_step (fail))
      refine wpQuiet_nil ?_
      refine mixT_one (k := 11) (by kernel_rfl) rfl ?_
      go_wp2
      refine ⟨Or.inl (by kernel_rfl), ?_⟩
      refine mixT_one (k := 12) (by kernel_rfl) rfl ?_
      go_wp2
      refine ⟨Or.inr (fun h => h), ?_⟩
      refine mixT_nil (by kernel_rfl) ?_
      go_wp2
      go_meet
      case rel => exact ⟨_, rfl, rfl, heap_setRow_at hgb, hbw.trans (below_setRow' _ _ (Nat.le_refl _))⟩
  case rest =>
    as_aux_lemma =>
    obtain ⟨K, rfl, rfl, hkb, hbw⟩ := hcut
    have HA2 := hide (HA.out.next hbw)
    clear c0 c1 c2 c3 c4 c5 c6 c7 r1 r4 r5 l0 l1
    clear g0 g4 g5 hLw HLW HBW HA hbw
    have HA := HA2
    clear HA2
    obtain ⟨⟨c0, c1, c2, c3, c4, c5, c6, c7⟩, ⟨r1, r4, r5⟩, l0, l1⟩ := HA.out.facts
    have HKB := hide hkb
    have hkl0 := blk_lt hkb
    generalize wc = W3 at *
    have HLW := hide (HLOW.out.below HA.out.below)
    have HBW : Hid (LBlk W3 LB o ⟨p0, p1, p2, p3, k, s1, s2, s3⟩) := HLB.out.below HA.out.below hLl
    obtain ⟨g0, g4, g5, hLw⟩ := HBW.out
    simp only at g0 g4 g5
    clear hkb
    go_upto_region 3 with fail
    refine wp_region_mixT (W3.heap.size) [3, 5, 7] (by kernel_rfl) ?_
    refine mixT_slots [0, 1, 2, 4, 6] (fuel := 9) rfl (by kernel_rfl) (by kernel_rfl) (fun d _ _ _ _ h => by cases d <;> exact h) ?_
    simp only [opersAt, List.getElem?_toArray, List.getElem?_cons_zero, List.getElem?_cons_succ]
    repeat (go_big_quiet_step (fail))
    refine wpQuiet_nil ?_
    refine mixT_reads [3, 5, 7] (fuel := 6) rfl (by kernel_rfl) (by decide) (by kernel_rfl) (fun d _ _ _ _ h => by cases d <;> exact h) (ext_drew _ _) ?_
    simp only [opersAt, List.getElem?_toArray, List.getElem?_cons_zero, List.getElem?_cons_succ]
    repeat (go_big_quiet_step (fail))
    refine wpQuiet_nil ?_
    refine mixT_one (k := 8) (by kernel_rfl) rfl ?_
    go_wp2_with (go_at_call 98; refine (limit_calls _ ok _ _ _ _ L.pr.ana r.analyte s.cls (HLW.out.pr.below (Below.refl _ _).drew).a).mono ?_; rintro e w6 ⟨rfl, hb1⟩; rw [limV_get, ← HB10.out, ← HB11.out])
    have hbw : Below W3.heap.size W3 w6 := (Below.refl _ _).drew.trans hb1
    refine ⟨Or.inr (by intros; exact ⟨⟨_, hbw⟩, rfl⟩), ?_⟩
    clear hb1
    refine mixT_slots [9, 10, 11] (fuel := 2) rfl (by kernel_rfl) (by kernel_rfl) (fun d _ _ _ _ h => by cases d <;> exact h) ?_
    simp only [opersAt, List.getElem?_toArray, List.getElem?_cons_zero, List.getElem?_cons_succ]
    repeat (go_big_quiet_step (fail))
    refine wpQuiet_nil ?_
    refine mixT_one (k := 12) (by kernel_rfl) rfl ?_
    go_wp2
    refine ⟨Or.inr (fun h => h), ?_⟩
    refine mixT_one (k := 13) (by kernel_rfl) rfl ?_
    go_wp2
    refine ⟨Or.inr (fun h => h), ?_⟩
    refine mixT_nil (by kernel_rfl) ?_
    have HA2 := hide (HA.out.next hbw)
    have hkb := (hbw.block _ hkl0).trans HKB.out
    clear c0 c1 c2 c3 c4 c5 c6 c7 r1 r4 r5 l0 l1
    clear g0 g4 g5 hLw HLW HBW HA hbw HKB hkl0
    have HA := HA2
    clear HA2
    obtain ⟨⟨c0, c1, c2, c3, c4, c5, c6, c7⟩, ⟨r1, r4, r5⟩, l0, l1⟩ := HA.out.facts
    rw [← HB12.out] at c7
    rw [← HB1.out] at r5
    obtain ⟨ki, ksi⟩ := kd
    obtain ⟨kk0, kk1, -, hkl⟩ := cell_two hkb
    have HLW := hide (HLOW.out.below HA.out.below)
    have HBW : Hid (LBlk w6 LB o ⟨p0, p1, p2, p3, k, s1, s2, s3⟩) := HLB.out.below HA.out.below hLl
    obtain ⟨g0, g4, g5, hLw⟩ := HBW.out
    simp only at g0 g4 g5
    clear hkb
    go_upto_region 4 with fail
    go_cut [13] (fun v V => ∃ g, v = .slice (some ⟨g, 0, none⟩) 10 10 ∧ V.heap[g]? = some (.cells #[.int .u16 1, .bool b1, .int .u16 2, .bool (! enr), .int .u16 4, .bool b3, .int .u16 8, .bool (! hv), .int .u16 16, .bool (! df), .int .u16 32, .bool b6, .int .u16 64, .bool (df && decide (lm < s.received - s.collected)), .int .u16 128, .bool (df && decide (lm < r.tested - s.collected)), .int .u16 256, .bool b9, .int .u16 512, .bool us] 216 (0, 0)) ∧ Below w6.heap.size w6 V)
    case first =>
      as_aux_lemma =>
      simp only [List.append_eq, List.cons_append, List.nil_append]
      refine region_facts (fun ops => closedB .any ops (Array.replicate ops.size false) = true ∧ (Region.noSelect ops && readsB .any ops [0, 3, 4, 5, 6, 7, 8, 9, 10, 11, 13, 18, 19, 20, 22, 23, 24, 26, 29, 34, 35, 36, 37, 39, 51, 62, 73, 76, 77, 78, 80] (Array.replicate ops.size false)) = true ∧ closedB .any ops (listAll [0, 3, 4, 5, 6, 7, 8, 9, 10, 11, 13, 18, 19, 20, 22, 23, 24, 26, 29, 34, 35, 36, 37, 39, 51, 62, 73, 76, 77, 78, 80] (Array.replicate ops.size false)) = true ∧ (Region.noSelect ops && readsB .any ops [1, 12, 21, 25, 27, 30, 38, 40, 74, 79, 81] (listAll [0, 3, 4, 5, 6, 7, 8, 9, 10, 11, 13, 18, 19, 20, 22, 23, 24, 26, 29, 34, 35, 36, 37, 39, 51, 62, 73, 76, 77, 78, 80] (Array.replicate ops.size false))) = true ∧ closedB .any ops (listAll [1, 12, 21, 25, 27, 30, 38, 40, 74, 79, 81] (listAll [0, 3, 4, 5, 6, 7, 8, 9, 10, 11, 13, 18, 19, 20, 22, 23, 24, 26, 29, 34, 35, 36, 37, 39, 51, 62, 73, 76, 77, 78, 80] (Array.replicate ops.size false))) = true ∧ (Region.noSelect ops && readsB .any ops [2, 14, 15, 16, 17, 41, 75] (listAll [1, 12, 21, 25, 27, 30, 38, 40, 74, 79, 81] (listAll [0, 3, 4, 5, 6, 7, 8, 9, 10, 11, 13, 18, 19, 20, 22, 23, 24, 26, 29, 34, 35, 36, 37, 39, 51, 62, 73, 76, 77, 78, 80] (Array.replicate ops.size false)))) = true ∧ Region.ready .any ops (listAll [2, 14, 15, 16, 17, 41, 75] (listAll [1, 12, 21, 25, 27, 30, 38, 40, 74, 79, 81] (listAll [0, 3, 4, 5, 6, 7, 8, 9, 10, 11, 13, 18, 19, 20, 22, 23, 24, 26, 29, 34, 35, 36, 37, 39, 51, 62, 73, 76, 77, 78, 80] (Array.replicate ops.size false)))) = [28] ∧ Region.ready .any ops ((listAll [2, 14, 15, 16, 17, 41, 75] (listAll [1, 12, 21, 25, 27, 30, 38, 40, 74, 79, 81] (listAll [0, 3, 4, 5, 6, 7, 8, 9, 10, 11, 13, 18, 19, 20, 22, 23, 24, 26, 29, 34, 35, 36, 37, 39, 51, 62, 73, 76, 77, 78, 80] (Array.replicate ops.size false)))).setIfInBounds 28 true) = [31] ∧ closedB .any ops (((listAll [2, 14, 15, 16, 17, 41, 75] (listAll [1, 12, 21, 25, 27, 30, 38, 40, 74, 79, 81] (listAll [0, 3, 4, 5, 6, 7, 8, 9, 10, 11, 13, 18, 19, 20, 22, 23, 24, 26, 29, 34, 35, 36, 37, 39, 51, 62, 73, 76, 77, 78, 80] (Array.replicate ops.size false)))).setIfInBounds 28 true).setIfInBounds 31 true) = true ∧ (Region.noSelect ops && readsB .any ops [32, 33, 42, 43, 45, 52, 53, 55, 58, 63, 64, 66, 69] (((listAll [2, 14, 15, 16, 17, 41, 75] (listAll [1, 12, 21, 25, 27, 30, 38, 40, 74, 79, 81] (listAll [0, 3, 4, 5, 6, 7, 8, 9, 10, 11, 13, 18, 19, 20, 22, 23, 24, 26, 29, 34, 35, 36, 37, 39, 51, 62, 73, 76, 77, 78, 80] (Array.replicate ops.size false)))).setIfInBounds 28 true).setIfInBounds 31 true)) = true ∧ closedB .any ops (listAll [32, 33, 42, 43, 45, 52, 53, 55, 58, 63, 64, 66, 69] (((listAll [2, 14, 15, 16, 17, 41, 75] (listAll [1, 12, 21, 25, 27, 30, 38, 40, 74, 79, 81] (listAll [0, 3, 4, 5, 6, 7, 8, 9, 10, 11, 13, 18, 19, 20, 22, 23, 24, 26, 29, 34, 35, 36, 37, 39, 51, 62, 73, 76, 77, 78, 80] (Array.replicate ops.size false)))).setIfInBounds 28 true).setIfInBounds 31 true)) = true ∧ (Region.noSelect ops && readsB .any ops [44, 46, 54, 56, 65, 67] (listAll [32, 33, 42, 43, 45, 52, 53, 55, 58, 63, 64, 66, 69] (((listAll [2, 14, 15, 16, 17, 41, 75] (listAll [1, 12, 21, 25, 27, 30, 38, 40, 74, 79, 81] (listAll [0, 3, 4, 5, 6, 7, 8, 9, 10, 11, 13, 18, 19, 20, 22, 23, 24, 26, 29, 34, 35, 36, 37, 39, 51, 62, 73, 76, 77, 78, 80] (Array.replicate ops.size false)))).setIfInBounds 28 true).setIfInBounds 31 true))) = true ∧ closedB .any ops (listAll [44, 46, 54, 56, 65, 67] (listAll [32, 33, 42, 43, 45, 52, 53, 55, 58, 63, 64, 66, 69] (((listAll [2, 14, 15, 16, 17, 41, 75] (listAll [1, 12, 21, 25, 27, 30, 38, 40, 74, 79, 81] (listAll [0, 3, 4, 5, 6, 7, 8, 9, 10, 11, 13, 18, 19, 20, 22, 23, 24, 26, 29, 34, 35, 36, 37, 39, 51, 62, 73, 76, 77, 78, 80] (Array.replicate ops.size false)))).setIfInBounds 28 true).setIfInBounds 31 true))) = true ∧ (Region.noSelect ops && readsB .any ops [47, 48, 49, 50, 57, 59, 60, 61, 68, 70, 71, 72] (listAll [44, 46, 54, 56, 65, 67] (listAll [32, 33, 42, 43, 45, 52, 53, 55, 58, 63, 64, 66, 69] (((listAll [2, 14, 15, 16, 17, 41, 75] (listAll [1, 12, 21, 25, 27, 30, 38, 40, 74, 79, 81] (listAll [0, 3, 4, 5, 6, 7, 8, 9, 10, 11, 13, 18, 19, 20, 22, 23, 24, 26, 29, 34, 35, 36, 37, 39, 51, 62, 73, 76, 77, 78, 80] (Array.replicate ops.size false)))).setIfInBounds 28 true).setIfInBounds 31 true)))) = true ∧ Region.ready .any ops (listAll [47, 48, 49, 50, 57, 59, 60, 61, 68, 70, 71, 72] (listAll [44, 46, 54, 56, 65, 67] (listAll [32, 33, 42, 43, 45, 52, 53, 55, 58, 63, 64, 66, 69] (((listAll [2, 14, 15, 16, 17, 41, 75] (listAll [1, 12, 21, 25, 27, 30, 38, 40, 74, 79, 81] (listAll [0, 3, 4, 5, 6, 7, 8, 9, 10, 11, 13, 18, 19, 20, 22, 23, 24, 26, 29, 34, 35, 36, 37, 39, 51, 62, 73, 76, 77, 78, 80] (Array.replicate ops.size false)))).setIfInBounds 28 true).setIfInBounds 31 true)))) = [82] ∧ closedB .any ops ((listAll [47, 48, 49, 50, 57, 59, 60, 61, 68, 70, 71, 72] (listAll [44, 46, 54, 56, 65, 67] (listAll [32, 33, 42, 43, 45, 52, 53, 55, 58, 63, 64, 66, 69] (((listAll [2, 14, 15, 16, 17, 41, 75] (listAll [1, 12, 21, 25, 27, 30, 38, 40, 74, 79, 81] (listAll [0, 3, 4, 5, 6, 7, 8, 9, 10, 11, 13, 18, 19, 20, 22, 23, 24, 26, 29, 34, 35, 36, 37, 39, 51, 62, 73, 76, 77, 78, 80] (Array.replicate ops.size false)))).setIfInBounds 28 true).setIfInBounds 31 true)))).setIfInBounds 82 true) = true ∧ (Region.noSelect ops && readsB .any ops [83] ((listAll [47, 48, 49, 50, 57, 59, 60, 61, 68, 70, 71, 72] (listAll [44, 46, 54, 56, 65, 67] (listAll [32, 33, 42, 43, 45, 52, 53, 55, 58, 63, 64, 66, 69] (((listAll [2, 14, 15, 16, 17, 41, 75] (listAll [1, 12, 21, 25, 27, 30, 38, 40, 74, 79, 81] (listAll [0, 3, 4, 5, 6, 7, 8, 9, 10, 11, 13, 18, 19, 20, 22, 23, 24, 26, 29, 34, 35, 36, 37, 39, 51, 62, 73, 76, 77, 78, 80] (Array.replicate ops.size false)))).setIfInBounds 28 true).setIfInBounds 31 true)))).setIfInBounds 82 true)) = true ∧ Region.ready .any ops (listAll [83] ((listAll [47, 48, 49, 50, 57, 59, 60, 61, 68, 70, 71, 72] (listAll [44, 46, 54, 56, 65, 67] (listAll [32, 33, 42, 43, 45, 52, 53, 55, 58, 63, 64, 66, 69] (((listAll [2, 14, 15, 16, 17, 41, 75] (listAll [1, 12, 21, 25, 27, 30, 38, 40, 74, 79, 81] (listAll [0, 3, 4, 5, 6, 7, 8, 9, 10, 11, 13, 18, 19, 20, 22, 23, 24, 26, 29, 34, 35, 36, 37, 39, 51, 62, 73, 76, 77, 78, 80] (Array.replicate ops.size false)))).setIfInBounds 28 true).setIfInBounds 31 true)))).setIfInBounds 82 true)) = [84] ∧ Region.ready .any ops ((listAll [83] ((listAll [47, 48, 49, 50, 57, 59, 60, 61, 68, 70, 71, 72] (listAll [44, 46, 54, 56, 65, 67] (listAll [32, 33, 42, 43, 45, 52, 53, 55, 58, 63, 64, 66, 69] (((listAll [2, 14, 15, 16, 17, 41, 75] (listAll [1, 12, 21, 25, 27, 30, 38, 40, 74, 79, 81] (listAll [0, 3, 4, 5, 6, 7, 8, 9, 10, 11, 13, 18, 19, 20, 22, 23, 24, 26, 29, 34, 35, 36, 37, 39, 51, 62, 73, 76, 77, 78, 80] (Array.replicate ops.size false)))).setIfInBounds 28 true).setIfInBounds 31 true)))).setIfInBounds 82 true)).setIfInBounds 84 true) = [85] ∧ Region.ready .any ops (((listAll [83] ((listAll [47, 48, 49, 50, 57, 59, 60, 61, 68, 70, 71, 72] (listAll [44, 46, 54, 56, 65, 67] (listAll [32, 33, 42, 43, 45, 52, 53, 55, 58, 63, 64, 66, 69] (((listAll [2, 14, 15, 16, 17, 41, 75] (listAll [1, 12, 21, 25, 27, 30, 38, 40, 74, 79, 81] (listAll [0, 3, 4, 5, 6, 7, 8, 9, 10, 11, 13, 18, 19, 20, 22, 23, 24, 26, 29, 34, 35, 36, 37, 39, 51, 62, 73, 76, 77, 78, 80] (Array.replicate ops.size false)))).setIfInBounds 28 true).setIfInBounds 31 true)))).setIfInBounds 82 true)).setIfInBounds 84 true).setIfInBounds 85 true) = []) ⟨by kernel_rfl, by kernel_rfl, by kernel_rfl, by kernel_rfl, by kernel_rfl, by kernel_rfl, by kernel_rfl, by kernel_rfl, by kernel_rfl, by kernel_rfl, by kernel_rfl, by kernel_rfl, by kernel_rfl, by kernel_rfl, by kernel_rfl, by kernel_rfl, by kernel_rfl, by kernel_rfl, by kernel_rfl, by kernel_rfl⟩ (fun hF => ?_)
      have HF := hide hF
      clear hF
      have HV := hide (fun V (hb : Below w6.heap.size w6 V) => (inForce_calls V ok p0 p1 p2 p3 L.pr.ver s.collected (HLW.out.pr.below hb).v hver))
      have HH := hide (fun V (hb : Below w6.heap.size w6 V) => (hasVisit_calls V ok p0 p1 p2 p3 L.pr.ver ver s.visit (HLW.out.pr.below hb).v hver hver0.1 hver0.2))
      have HU := hide (fun V (hb : Below w6.heap.size w6 V) => (unsettled_calls V ok s1 s2 s3 L.sm.qs s.id (HLW.out.sm.below hb).c))
      cases bt with
      | false =>
        have hE3 : Hid (b3 = true) := by show _ = _; rw [HB6.out]; rfl
        cases df with
        | true =>
          by_cases hcr : s.collected ≤ s.received
          · as_aux_lemma =>
            have hE6 : Hid (b6 = (! decide (s.received ≤ r.tested))) := by show _ = _; rw [HB9.out]; rw [decide_eq_false (show ¬ s.received < s.collected by omega)]; by_cases q : s.received ≤ r.tested <;> simp [q] <;> omega
            refine wp_region_mixT (w6.heap.size) [1, 12, 21, 25, 27, 30, 38, 40, 44, 46, 54, 56, 65, 67, 74, 79, 81] (by kernel_rfl) ?_
            refine mixT_slots [0, 3, 4, 5, 6, 7, 8, 9, 10, 11, 13, 18, 19, 20, 22, 23, 24, 26, 29, 34, 35, 36, 37, 39, 51, 62, 73, 76, 77, 78, 80] (fuel := 55) rfl (HF.out.1) (HF.out.2.1) (fun d _ _ _ _ h => by cases d <;> exact h) ?_
            simp only [opersAt, List.getElem?_toArray, List.getElem?_cons_zero, List.getElem?_cons_succ]
            repeat (go_big_quiet_step (fail))
            refine wpQuiet_nil ?_
            refine mixT_reads [1, 12, 21, 25, 27, 30, 38, 40, 74, 79, 81] (fuel := 44) rfl (HF.out.2.2.1) (by decide) (HF.out.2.2.2.1) (fun d _ _ _ _ h => by cases d <;> exact h) (ext_drew _ _) ?_
            simp only [opersAt, List.getElem?_toArray, List.getElem?_cons_zero, List.getElem?_cons_succ]
            repeat (go_big_quiet_step (fail))
            refine wpQuiet_nil ?_
            refine mixT_slots [2, 14, 15, 16, 17, 41, 75] (fuel := 37) rfl (HF.out.2.2.2.2.1) (HF.out.2.2.2.2.2.1) (fun d _ _ _ _ h => by cases d <;> exact h) ?_
            simp only [opersAt, List.getElem?_toArray, List.getElem?_cons_zero, List.getElem?_cons_succ]
            repeat (go_big_quiet_step (fail))
            refine wpQuiet_nil ?_
            refine mixT_one (k := 28) (HF.out.2.2.2.2.2.2.1) rfl ?_
            go_wp2_with (go_at_call 100; refine (HV.out _ (Below.refl _ _).drew).mono ?_; rintro e w7 ⟨rfl, hb1⟩; rw [← HB7.out])
            have hbw : Below w6.heap.size w6 w7 := (Below.refl _ _).drew.trans hb1
            refine ⟨Or.inr (by intros; exact ⟨⟨_, hbw⟩, rfl⟩), ?_⟩
            clear hb1
            refine mixT_one (k := 31) (HF.out.2.2.2.2.2.2.2.1) rfl ?_
            go_wp2_with (go_at_call 99; refine (HH.out _ hbw).mono ?_; rintro e w8 ⟨rfl, hb1⟩; rw [← HB8.out])
            have hbw8 : Below w6.heap.size w6 w8 := hbw.trans (hb1.mono hbw.size)
            refine ⟨Or.inr (by intros; exact ⟨⟨_, hbw8⟩, rfl⟩), ?_⟩
            clear hb1 hbw
            refine mixT_slots [32, 33, 42, 43, 45, 52, 53, 55, 58, 63, 64, 66, 69] (fuel := 22) rfl (HF.out.2.2.2.2.2.2.2.2.1) (HF.out.2.2.2.2.2.2.2.2.2.1) (fun d _ _ _ _ h => by cases d <;> exact h) ?_
            simp only [opersAt, List.getElem?_toArray, List.getElem?_cons_zero, List.getElem?_cons_succ]
            repeat (go_big_quiet_step (fail))
            refine wpQuiet_nil ?_
            refine mixT_reads [44, 46, 54, 56, 65, 67] (fuel := 16) rfl (HF.out.2.2.2.2.2.2.2.2.2.2.1) (by decide) (HF.out.2.2.2.2.2.2.2.2.2.2.2.1) (fun d _ _ _ _ h => by cases d <;> exact h) (⟨⟨_, hbw8⟩, rfl⟩) ?_
            simp only [opersAt, List.getElem?_toArray, List.getElem?_cons_zero, List.getElem?_cons_succ]
            repeat (go_big_quiet_step (fail))
            refine wpQuiet_nil ?_
            refine mixT_slots [47, 48, 49, 50, 57, 59, 60, 61, 68, 70, 71, 72] (fuel := 4) rfl (HF.out.2.2.2.2.2.2.2.2.2.2.2.2.1) (HF.out.2.2.2.2.2.2.2.2.2.2.2.2.2.1) (fun d _ _ _ _ h => by cases d <;> exact h) ?_
            simp only [opersAt, List.getElem?_toArray, List.getElem?_cons_zero, List.getElem?_cons_succ]
            repeat (go_big_quiet_step (fail))
            refine wpQuiet_nil ?_
            refine mixT_one (k := 82) (HF.out.2.2.2.2.2.2.2.2.2.2.2.2.2.2.1) rfl ?_
            go_wp2_with (go_at_call 101; refine (HU.out _ hbw8).mono ?_; rintro e w9 ⟨rfl, hb1⟩; rw [findV_any, show (if L.sm.qs.any (fun x : Qry => (x.sample == s.id) && (x.stage != 3)) then Value.bool true else .bool false) = .bool us from by rw [HB13.out]; unfold unsettledB; cases L.sm.qs.any (fun x : Qry => (x.sample == s.id) && (x.stage != 3)) <;> rfl])
            have hbw9 : Below w6.heap.size w6 w9 := hbw8.trans (hb1.mono hbw8.size)
            have hz9 := hbw9.size
            refine ⟨Or.inr (by intros; exact ⟨⟨_, hbw9⟩, rfl⟩), ?_⟩
            clear hb1 hbw8
            refine mixT_slots [83] (fuel := 2) rfl (HF.out.2.2.2.2.2.2.2.2.2.2.2.2.2.2.2.1) (HF.out.2.2.2.2.2.2.2.2.2.2.2.2.2.2.2.2.1) (fun d _ _ _ _ h => by cases d <;> exact h) ?_
            simp only [opersAt, List.getElem?_toArray, List.getElem?_cons_zero, List.getElem?_cons_succ]
            repeat (go_big_quiet_step (fail))
            refine wpQuiet_nil ?_
            refine mixT_one (k := 84) (HF.out.2.2.2.2.2.2.2.2.2.2.2.2.2.2.2.2.2.1) rfl ?_
            go_wp2
            refine ⟨Or.inr (by intros; exact ⟨⟨_, hbw9.alloc hz9 _⟩, rfl⟩), ?_⟩
            refine mixT_one (k := 85) (HF.out.2.2.2.2.2.2.2.2.2.2.2.2.2.2.2.2.2.2.1) rfl ?_
            go_wp2
            refine ⟨Or.inr (fun h => h), ?_⟩
            refine mixT_nil (HF.out.2.2.2.2.2.2.2.2.2.2.2.2.2.2.2.2.2.2.2) ?_
            go_wp2
            go_meet
            case rel =>
              refine ⟨_, rfl, ?_, hbw9.alloc hz9 _⟩
              rw [hE3.out, hE6.out]
              exact heap_alloc_at _ _
          · as_aux_lemma =>
            have hE6 : Hid (b6 = true) := by show _ = _; rw [HB9.out]; rw [decide_eq_true (show s.received < s.collected by omega)]; rfl
            refine wp_region_mixT (w6.heap.size) [1, 12, 21, 25, 27, 30, 38, 40, 44, 46, 54, 56, 65, 67, 74, 79, 81] (by kernel_rfl) ?_
            refine mixT_slots [0, 3, 4, 5, 6, 7, 8, 9, 10, 11, 13, 18, 19, 20, 22, 23, 24, 26, 29, 34, 35, 36, 37, 39, 51, 62, 73, 76, 77, 78, 80] (fuel := 55) rfl (HF.out.1) (HF.out.2.1) (fun d _ _ _ _ h => by cases d <;> exact h) ?_
            simp only [opersAt, List.getElem?_toArray, List.getElem?_cons_zero, List.getElem?_cons_succ]
            repeat (go_big_quiet_step (fail))
            refine wpQuiet_nil ?_
            refine mixT_reads [1, 12, 21, 25, 27, 30, 38, 40, 74, 79, 81] (fuel := 44) rfl (HF.out.2.2.1) (by decide) (HF.out.2.2.2.1) (fun d _ _ _ _ h => by cases d <;> exact h) (ext_drew _ _) ?_
            simp only [opersAt, List.getElem?_toArray, List.getElem?_cons_zero, List.getElem?_cons_succ]
            repeat (go_big_quiet_step (fail))
            refine wpQuiet_nil ?_
            refine mixT_slots [2, 14, 15, 16, 17, 41, 75] (fuel := 37) rfl (HF.out.2.2.2.2.1) (HF.out.2.2.2.2.2.1) (fun d _ _ _ _ h => by cases d <;> exact h) ?_
            simp only [opersAt, List.getElem?_toArray, List.getElem?_cons_zero, List.getElem?_cons_succ]
            repeat (go_big_quiet_step (fail))
            refine wpQuiet_nil ?_
            refine mixT_one (k := 28) (HF.out.2.2.2.2.2.2.1) rfl ?_
            go_wp2_with (go_at_call 100; refine (HV.out _ (Below.refl _ _).drew).mono ?_; rintro e w7 ⟨rfl, hb1⟩; rw [← HB7.out])
            have hbw : Below w6.heap.size w6 w7 := (Below.refl _ _).drew.trans hb1
            refine ⟨Or.inr (by intros; exact ⟨⟨_, hbw⟩, rfl⟩), ?_⟩
            clear hb1
            refine mixT_one (k := 31) (HF.out.2.2.2.2.2.2.2.1) rfl ?_
            go_wp2_with (go_at_call 99; refine (HH.out _ hbw).mono ?_; rintro e w8 ⟨rfl, hb1⟩; rw [← HB8.out])
            have hbw8 : Below w6.heap.size w6 w8 := hbw.trans (hb1.mono hbw.size)
            refine ⟨Or.inr (by intros; exact ⟨⟨_, hbw8⟩, rfl⟩), ?_⟩
            clear hb1 hbw
            refine mixT_slots [32, 33, 42, 43, 45, 52, 53, 55, 58, 63, 64, 66, 69] (fuel := 22) rfl (HF.out.2.2.2.2.2.2.2.2.1) (HF.out.2.2.2.2.2.2.2.2.2.1) (fun d _ _ _ _ h => by cases d <;> exact h) ?_
            simp only [opersAt, List.getElem?_toArray, List.getElem?_cons_zero, List.getElem?_cons_succ]
            repeat (go_big_quiet_step (fail))
            refine wpQuiet_nil ?_
            refine mixT_reads [44, 46, 54, 56, 65, 67] (fuel := 16) rfl (HF.out.2.2.2.2.2.2.2.2.2.2.1) (by decide) (HF.out.2.2.2.2.2.2.2.2.2.2.2.1) (fun d _ _ _ _ h => by cases d <;> exact h) (⟨⟨_, hbw8⟩, rfl⟩) ?_
            simp only [opersAt, List.getElem?_toArray, List.getElem?_cons_zero, List.getElem?_cons_succ]
            repeat (go_big_quiet_step (fail))
            refine wpQuiet_nil ?_
            refine mixT_slots [47, 48, 49, 50, 57, 59, 60, 61, 68, 70, 71, 72] (fuel := 4) rfl (HF.out.2.2.2.2.2.2.2.2.2.2.2.2.1) (HF.out.2.2.2.2.2.2.2.2.2.2.2.2.2.1) (fun d _ _ _ _ h => by cases d <;> exact h) ?_
            simp only [opersAt, List.getElem?_toArray, List.getElem?_cons_zero, List.getElem?_cons_succ]
            repeat (go_big_quiet_step (fail))
            refine wpQuiet_nil ?_
            refine mixT_one (k := 82) (HF.out.2.2.2.2.2.2.2.2.2.2.2.2.2.2.1) rfl ?_
            go_wp2_with (go_at_call 101; refine (HU.out _ hbw8).mono ?_; rintro e w9 ⟨rfl, hb1⟩; rw [findV_any, show (if L.sm.qs.any (fun x : Qry => (x.sample == s.id) && (x.stage != 3)) then Value.bool true else .bool false) = .bool us from by rw [HB13.out]; unfold unsettledB; cases L.sm.qs.any (fun x : Qry => (x.sample == s.id) && (x.stage != 3)) <;> rfl])
            have hbw9 : Below w6.heap.size w6 w9 := hbw8.trans (hb1.mono hbw8.size)
            have hz9 := hbw9.size
            refine ⟨Or.inr (by intros; exact ⟨⟨_, hbw9⟩, rfl⟩), ?_⟩
            clear hb1 hbw8
            refine mixT_slots [83] (fuel := 2) rfl (HF.out.2.2.2.2.2.2.2.2.2.2.2.2.2.2.2.1) (HF.out.2.2.2.2.2.2.2.2.2.2.2.2.2.2.2.2.1) (fun d _ _ _ _ h => by cases d <;> exact h) ?_
            simp only [opersAt, List.getElem?_toArray, List.getElem?_cons_zero, List.getElem?_cons_succ]
            repeat (go_big_quiet_step (fail))
            refine wpQuiet_nil ?_
            refine mixT_one (k := 84) (HF.out.2.2.2.2.2.2.2.2.2.2.2.2.2.2.2.2.2.1) rfl ?_
            go_wp2
            refine ⟨Or.inr (by intros; exact ⟨⟨_, hbw9.alloc hz9 _⟩, rfl⟩), ?_⟩
            refine mixT_one (k := 85) (HF.out.2.2.2.2.2.2.2.2.2.2.2.2.2.2.2.2.2.2.1) rfl ?_
            go_wp2
            refine ⟨Or.inr (fun h => h), ?_⟩
            refine mixT_nil (HF.out.2.2.2.2.2.2.2.2.2.2.2.2.2.2.2.2.2.2.2) ?_
            go_wp2
            go_meet
            case rel =>
              refine ⟨_, rfl, ?_, hbw9.alloc hz9 _⟩
              rw [hE3.out, hE6.out]
              exact heap_alloc_at _ _
        | false =>
          by_cases hcr : s.collected ≤ s.received
          · as_aux_lemma =>
            have hE6 : Hid (b6 = (! decide (s.received ≤ r.tested))) := by show _ = _; rw [HB9.out]; rw [decide_eq_false (show ¬ s.received < s.collected by omega)]; by_cases q : s.received ≤ r.tested <;> simp [q] <;> omega
            refine wp_region_mixT (w6.heap.size) [1, 12, 21, 25, 27, 30, 38, 40, 44, 46, 54, 56, 65, 67, 74, 79, 81] (by kernel_rfl) ?_
            refine mixT_slots [0, 3, 4, 5, 6, 7, 8, 9, 10, 11, 13, 18, 19, 20, 22, 23, 24, 26, 29, 34, 35, 36, 37, 39, 51, 62, 73, 76, 77, 78, 80] (fuel := 55) rfl (HF.out.1) (HF.out.2.1) (fun d _ _ _ _ h => by cases d <;> exact h) ?_
            simp only [opersAt, List.getElem?_toArray, List.getElem?_cons_zero, List.getElem?_cons_succ]
            repeat (go_big_quiet_step (fail))
            refine wpQuiet_nil ?_
            refine mixT_reads [1, 12, 21, 25, 27, 30, 38, 40, 74, 79, 81] (fuel := 44) rfl (HF.out.2.2.1) (by decide) (HF.out.2.2.2.1) (fun d _ _ _ _ h => by cases d <;> exact h) (ext_drew _ _) ?_
            simp only [opersAt, List.getElem?_toArray, List.getElem?_cons_zero, List.getElem?_cons_succ]
            repeat (go_big_quiet_step (fail))
            refine wpQuiet_nil ?_
            refine mixT_slots [2, 14, 15, 16, 17, 41, 75] (fuel := 37) rfl (HF.out.2.2.2.2.1) (HF.out.2.2.2.2.2.1) (fun d _ _ _ _ h => by cases d <;> exact h) ?_
            simp only [opersAt, List.getElem?_toArray, List.getElem?_cons_zero, List.getElem?_cons_succ]
            repeat (go_big_quiet_step (fail))
            refine wpQuiet_nil ?_
            refine mixT_one (k := 28) (HF.out.2.2.2.2.2.2.1) rfl ?_
            go_wp2_with (go_at_call 100; refine (HV.out _ (Below.refl _ _).drew).mono ?_; rintro e w7 ⟨rfl, hb1⟩; rw [← HB7.out])
            have hbw : Below w6.heap.size w6 w7 := (Below.refl _ _).drew.trans hb1
            refine ⟨Or.inr (by intros; exact ⟨⟨_, hbw⟩, rfl⟩), ?_⟩
            clear hb1
            refine mixT_one (k := 31) (HF.out.2.2.2.2.2.2.2.1) rfl ?_
            go_wp2_with (go_at_call 99; refine (HH.out _ hbw).mono ?_; rintro e w8 ⟨rfl, hb1⟩; rw [← HB8.out])
            have hbw8 : Below w6.heap.size w6 w8 := hbw.trans (hb1.mono hbw.size)
            refine ⟨Or.inr (by intros; exact ⟨⟨_, hbw8⟩, rfl⟩), ?_⟩
            clear hb1 hbw
            refine mixT_slots [32, 33, 42, 43, 45, 52, 53, 55, 58, 63, 64, 66, 69] (fuel := 22) rfl (HF.out.2.2.2.2.2.2.2.2.1) (HF.out.2.2.2.2.2.2.2.2.2.1) (fun d _ _ _ _ h => by cases d <;> exact h) ?_
            simp only [opersAt, List.getElem?_toArray, List.getElem?_cons_zero, List.getElem?_cons_succ]
            repeat (go_big_quiet_step (fail))
            refine wpQuiet_nil ?_
            refine mixT_reads [44, 46, 54, 56, 65, 67] (fuel := 16) rfl (HF.out.2.2.2.2.2.2.2.2.2.2.1) (by decide) (HF.out.2.2.2.2.2.2.2.2.2.2.2.1) (fun d _ _ _ _ h => by cases d <;> exact h) (⟨⟨_, hbw8⟩, rfl⟩) ?_
            simp only [opersAt, List.getElem?_toArray, List.getElem?_cons_zero, List.getElem?_cons_succ]
            repeat (go_big_quiet_step (fail))
            refine wpQuiet_nil ?_
            refine mixT_slots [47, 48, 49, 50, 57, 59, 60, 61, 68, 70, 71, 72] (fuel := 4) rfl (HF.out.2.2.2.2.2.2.2.2.2.2.2.2.1) (HF.out.2.2.2.2.2.2.2.2.2.2.2.2.2.1) (fun d _ _ _ _ h => by cases d <;> exact h) ?_
            simp only [opersAt, List.getElem?_toArray, List.getElem?_cons_zero, List.getElem?_cons_succ]
            repeat (go_big_quiet_step (fail))
            refine wpQuiet_nil ?_
            refine mixT_one (k := 82) (HF.out.2.2.2.2.2.2.2.2.2.2.2.2.2.2.1) rfl ?_
            go_wp2_with (go_at_call 101; refine (HU.out _ hbw8).mono ?_; rintro e w9 ⟨rfl, hb1⟩; rw [findV_any, show (if L.sm.qs.any (fun x : Qry => (x.sample == s.id) && (x.stage != 3)) then Value.bool true else .bool false) = .bool us from by rw [HB13.out]; unfold unsettledB; cases L.sm.qs.any (fun x : Qry => (x.sample == s.id) && (x.stage != 3)) <;> rfl])
            have hbw9 : Below w6.heap.size w6 w9 := hbw8.trans (hb1.mono hbw8.size)
            have hz9 := hbw9.size
            refine ⟨Or.inr (by intros; exact ⟨⟨_, hbw9⟩, rfl⟩), ?_⟩
            clear hb1 hbw8
            refine mixT_slots [83] (fuel := 2) rfl (HF.out.2.2.2.2.2.2.2.2.2.2.2.2.2.2.2.1) (HF.out.2.2.2.2.2.2.2.2.2.2.2.2.2.2.2.2.1) (fun d _ _ _ _ h => by cases d <;> exact h) ?_
            simp only [opersAt, List.getElem?_toArray, List.getElem?_cons_zero, List.getElem?_cons_succ]
            repeat (go_big_quiet_step (fail))
            refine wpQuiet_nil ?_
            refine mixT_one (k := 84) (HF.out.2.2.2.2.2.2.2.2.2.2.2.2.2.2.2.2.2.1) rfl ?_
            go_wp2
            refine ⟨Or.inr (by intros; exact ⟨⟨_, hbw9.alloc hz9 _⟩, rfl⟩), ?_⟩
            refine mixT_one (k := 85) (HF.out.2.2.2.2.2.2.2.2.2.2.2.2.2.2.2.2.2.2.1) rfl ?_
            go_wp2
            refine ⟨Or.inr (fun h => h), ?_⟩
            refine mixT_nil (HF.out.2.2.2.2.2.2.2.2.2.2.2.2.2.2.2.2.2.2.2) ?_
            go_wp2
            go_meet
            case rel =>
              refine ⟨_, rfl, ?_, hbw9.alloc hz9 _⟩
              rw [hE3.out, hE6.out]
              exact heap_alloc_at _ _
          · as_aux_lemma =>
            have hE6 : Hid (b6 = true) := by show _ = _; rw [HB9.out]; rw [decide_eq_true (show s.received < s.collected by omega)]; rfl
            refine wp_region_mixT (w6.heap.size) [1, 12, 21, 25, 27, 30, 38, 40, 44, 46, 54, 56, 65, 67, 74, 79, 81] (by kernel_rfl) ?_
            refine mixT_slots [0, 3, 4, 5, 6, 7, 8, 9, 10, 11, 13, 18, 19, 20, 22, 23, 24, 26, 29, 34, 35, 36, 37, 39, 51, 62, 73, 76, 77, 78, 80] (fuel := 55) rfl (HF.out.1) (HF.out.2.1) (fun d _ _ _ _ h => by cases d <;> exact h) ?_
            simp only [opersAt, List.getElem?_toArray, List.getElem?_cons_zero, List.getElem?_cons_succ]
            repeat (go_big_quiet_step (fail))
            refine wpQuiet_nil ?_
            refine mixT_reads [1, 12, 21, 25, 27, 30, 38, 40, 74, 79, 81] (fuel := 44) rfl (HF.out.2.2.1) (by decide) (HF.out.2.2.2.1) (fun d _ _ _ _ h => by cases d <;> exact h) (ext_drew _ _) ?_
            simp only [opersAt, List.getElem?_toArray, List.getElem?_cons_zero, List.getElem?_cons_succ]
            repeat (go_big_quiet_step (fail))
            refine wpQuiet_nil ?_
            refine mixT_slots [2, 14, 15, 16, 17, 41, 75] (fuel := 37) rfl (HF.out.2.2.2.2.1) (HF.out.2.2.2.2.2.1) (fun d _ _ _ _ h => by cases d <;> exact h) ?_
            simp only [opersAt, List.getElem?_toArray, List.getElem?_cons_zero, List.getElem?_cons_succ]
            repeat (go_big_quiet_step (fail))
            refine wpQuiet_nil ?_
            refine mixT_one (k := 28) (HF.out.2.2.2.2.2.2.1) rfl ?_
            go_wp2_with (go_at_call 100; refine (HV.out _ (Below.refl _ _).drew).mono ?_; rintro e w7 ⟨rfl, hb1⟩; rw [← HB7.out])
            have hbw : Below w6.heap.size w6 w7 := (Below.refl _ _).drew.trans hb1
            refine ⟨Or.inr (by intros; exact ⟨⟨_, hbw⟩, rfl⟩), ?_⟩
            clear hb1
            refine mixT_one (k := 31) (HF.out.2.2.2.2.2.2.2.1) rfl ?_
            go_wp2_with (go_at_call 99; refine (HH.out _ hbw).mono ?_; rintro e w8 ⟨rfl, hb1⟩; rw [← HB8.out])
            have hbw8 : Below w6.heap.size w6 w8 := hbw.trans (hb1.mono hbw.size)
            refine ⟨Or.inr (by intros; exact ⟨⟨_, hbw8⟩, rfl⟩), ?_⟩
            clear hb1 hbw
            refine mixT_slots [32, 33, 42, 43, 45, 52, 53, 55, 58, 63, 64, 66, 69] (fuel := 22) rfl (HF.out.2.2.2.2.2.2.2.2.1) (HF.out.2.2.2.2.2.2.2.2.2.1) (fun d _ _ _ _ h => by cases d <;> exact h) ?_
            simp only [opersAt, List.getElem?_toArray, List.getElem?_cons_zero, List.getElem?_cons_succ]
            repeat (go_big_quiet_step (fail))
            refine wpQuiet_nil ?_
            refine mixT_reads [44, 46, 54, 56, 65, 67] (fuel := 16) rfl (HF.out.2.2.2.2.2.2.2.2.2.2.1) (by decide) (HF.out.2.2.2.2.2.2.2.2.2.2.2.1) (fun d _ _ _ _ h => by cases d <;> exact h) (⟨⟨_, hbw8⟩, rfl⟩) ?_
            simp only [opersAt, List.getElem?_toArray, List.getElem?_cons_zero, List.getElem?_cons_succ]
            repeat (go_big_quiet_step (fail))
            refine wpQuiet_nil ?_
            refine mixT_slots [47, 48, 49, 50, 57, 59, 60, 61, 68, 70, 71, 72] (fuel := 4) rfl (HF.out.2.2.2.2.2.2.2.2.2.2.2.2.1) (HF.out.2.2.2.2.2.2.2.2.2.2.2.2.2.1) (fun d _ _ _ _ h => by cases d <;> exact h) ?_
            simp only [opersAt, List.getElem?_toArray, List.getElem?_cons_zero, List.getElem?_cons_succ]
            repeat (go_big_quiet_step (fail))
            refine wpQuiet_nil ?_
            refine mixT_one (k := 82) (HF.out.2.2.2.2.2.2.2.2.2.2.2.2.2.2.1) rfl ?_
            go_wp2_with (go_at_call 101; refine (HU.out _ hbw8).mono ?_; rintro e w9 ⟨rfl, hb1⟩; rw [findV_any, show (if L.sm.qs.any (fun x : Qry => (x.sample == s.id) && (x.stage != 3)) then Value.bool true else .bool false) = .bool us from by rw [HB13.out]; unfold unsettledB; cases L.sm.qs.any (fun x : Qry => (x.sample == s.id) && (x.stage != 3)) <;> rfl])
            have hbw9 : Below w6.heap.size w6 w9 := hbw8.trans (hb1.mono hbw8.size)
            have hz9 := hbw9.size
            refine ⟨Or.inr (by intros; exact ⟨⟨_, hbw9⟩, rfl⟩), ?_⟩
            clear hb1 hbw8
            refine mixT_slots [83] (fuel := 2) rfl (HF.out.2.2.2.2.2.2.2.2.2.2.2.2.2.2.2.1) (HF.out.2.2.2.2.2.2.2.2.2.2.2.2.2.2.2.2.1) (fun d _ _ _ _ h => by cases d <;> exact h) ?_
            simp only [opersAt, List.getElem?_toArray, List.getElem?_cons_zero, List.getElem?_cons_succ]
            repeat (go_big_quiet_step (fail))
            refine wpQuiet_nil ?_
            refine mixT_one (k := 84) (HF.out.2.2.2.2.2.2.2.2.2.2.2.2.2.2.2.2.2.1) rfl ?_
            go_wp2
            refine ⟨Or.inr (by intros; exact ⟨⟨_, hbw9.alloc hz9 _⟩, rfl⟩), ?_⟩
            refine mixT_one (k := 85) (HF.out.2.2.2.2.2.2.2.2.2.2.2.2.2.2.2.2.2.2.1) rfl ?_
            go_wp2
            refine ⟨Or.inr (fun h => h), ?_⟩
            refine mixT_nil (HF.out.2.2.2.2.2.2.2.2.2.2.2.2.2.2.2.2.2.2.2) ?_
            go_wp2
            go_meet
            case rel =>
              refine ⟨_, rfl, ?_, hbw9.alloc hz9 _⟩
              rw [hE3.out, hE6.out]
              exact heap_alloc_at _ _
      | true =>
        cases enr with
        | false =>
          have hE3 : Hid (b3 = true) := by show _ = _; rw [HB6.out]; rfl
          cases df with
          | true =>
            by_cases hcr : s.collected ≤ s.received
            · as_aux_lemma =>
              have hE6 : Hid (b6 = (! decide (s.received ≤ r.tested))) := by show _ = _; rw [HB9.out]; rw [decide_eq_false (show ¬ s.received < s.collected by omega)]; by_cases q : s.received ≤ r.tested <;> simp [q] <;> omega
              refine wp_region_mixT (w6.heap.size) [1, 12, 21, 25, 27, 30, 38, 40, 44, 46, 54, 56, 65, 67, 74, 79, 81] (by kernel_rfl) ?_
              refine mixT_slots [0, 3, 4, 5, 6, 7, 8, 9, 10, 11, 13, 18, 19, 20, 22, 23, 24, 26, 29, 34, 35, 36, 37, 39, 51, 62, 73, 76, 77, 78, 80] (fuel := 55) rfl (HF.out.1) (HF.out.2.1) (fun d _ _ _ _ h => by cases d <;> exact h) ?_
              simp only [opersAt, List.getElem?_toArray, List.getElem?_cons_zero, List.getElem?_cons_succ]
              repeat (go_big_quiet_step (fail))
              refine wpQuiet_nil ?_
              refine mixT_reads [1, 12, 21, 25, 27, 30, 38, 40, 74, 79, 81] (fuel := 44) rfl (HF.out.2.2.1) (by decide) (HF.out.2.2.2.1) (fun d _ _ _ _ h => by cases d <;> exact h) (ext_drew _ _) ?_
              simp only [opersAt, List.getElem?_toArray, List.getElem?_cons_zero, List.getElem?_cons_succ]
              repeat (go_big_quiet_step (fail))
              refine wpQuiet_nil ?_
              refine mixT_slots [2, 14, 15, 16, 17, 41, 75] (fuel := 37) rfl (HF.out.2.2.2.2.1) (HF.out.2.2.2.2.2.1) (fun d _ _ _ _ h => by cases d <;> exact h) ?_
              simp only [opersAt, List.getElem?_toArray, List.getElem?_cons_zero, List.getElem?_cons_succ]
              repeat (go_big_quiet_step (fail))
              refine wpQuiet_nil ?_
              refine mixT_one (k := 28) (HF.out.2.2.2.2.2.2.1) rfl ?_
              go_wp2_with (go_at_call 100; refine (HV.out _ (Below.refl _ _).drew).mono ?_; rintro e w7 ⟨rfl, hb1⟩; rw [← HB7.out])
              have hbw : Below w6.heap.size w6 w7 := (Below.refl _ _).drew.trans hb1
              refine ⟨Or.inr (by intros; exact ⟨⟨_, hbw⟩, rfl⟩), ?_⟩
              clear hb1
              refine mixT_one (k := 31) (HF.out.2.2.2.2.2.2.2.1) rfl ?_
              go_wp2_with (go_at_call 99; refine (HH.out _ hbw).mono ?_; rintro e w8 ⟨rfl, hb1⟩; rw [← HB8.out])
              have hbw8 : Below w6.heap.size w6 w8 := hbw.trans (hb1.mono hbw.size)
              refine ⟨Or.inr (by intros; exact ⟨⟨_, hbw8⟩, rfl⟩), ?_⟩
              clear hb1 hbw
              refine mixT_slots [32, 33, 42, 43, 45, 52, 53, 55, 58, 63, 64, 66, 69] (fuel := 22) rfl (HF.out.2.2.2.2.2.2.2.2.1) (HF.out.2.2.2.2.2.2.2.2.2.1) (fun d _ _ _ _ h => by cases d <;> exact h) ?_
              simp only [opersAt, List.getElem?_toArray, List.getElem?_cons_zero, List.getElem?_cons_succ]
              repeat (go_big_quiet_step (fail))
              refine wpQuiet_nil ?_
              refine mixT_reads [44, 46, 54, 56, 65, 67] (fuel := 16) rfl (HF.out.2.2.2.2.2.2.2.2.2.2.1) (by decide) (HF.out.2.2.2.2.2.2.2.2.2.2.2.1) (fun d _ _ _ _ h => by cases d <;> exact h) (⟨⟨_, hbw8⟩, rfl⟩) ?_
              simp only [opersAt, List.getElem?_toArray, List.getElem?_cons_zero, List.getElem?_cons_succ]
              repeat (go_big_quiet_step (fail))
              refine wpQuiet_nil ?_
              refine mixT_slots [47, 48, 49, 50, 57, 59, 60, 61, 68, 70, 71, 72] (fuel := 4) rfl (HF.out.2.2.2.2.2.2.2.2.2.2.2.2.1) (HF.out.2.2.2.2.2.2.2.2.2.2.2.2.2.1) (fun d _ _ _ _ h => by cases d <;> exact h) ?_
              simp only [opersAt, List.getElem?_toArray, List.getElem?_cons_zero, List.getElem?_cons_succ]
              repeat (go_big_quiet_step (fail))
              refine wpQuiet_nil ?_
              refine mixT_one (k := 82) (HF.out.2.2.2.2.2.2.2.2.2.2.2.2.2.2.1) rfl ?_
              go_wp2_with (go_at_call 101; refine (HU.out _ hbw8).mono ?_; rintro e w9 ⟨rfl, hb1⟩; rw [findV_any, show (if L.sm.qs.any (fun x : Qry => (x.sample == s.id) && (x.stage != 3)) then Value.bool true else .bool false) = .bool us from by rw [HB13.out]; unfold unsettledB; cases L.sm.qs.any (fun x : Qry => (x.sample == s.id) && (x.stage != 3)) <;> rfl])
              have hbw9 : Below w6.heap.size w6 w9 := hbw8.trans (hb1.mono hbw8.size)
              have hz9 := hbw9.size
              refine ⟨Or.inr (by intros; exact ⟨⟨_, hbw9⟩, rfl⟩), ?_⟩
              clear hb1 hbw8
              refine mixT_slots [83] (fuel := 2) rfl (HF.out.2.2.2.2.2.2.2.2.2.2.2.2.2.2.2.1) (HF.out.2.2.2.2.2.2.2.2.2.2.2.2.2.2.2.2.1) (fun d _ _ _ _ h => by cases d <;> exact h) ?_
              simp only [opersAt, List.getElem?_toArray, List.getElem?_cons_zero, List.getElem?_cons_succ]
              repeat (go_big_quiet_step (fail))
              refine wpQuiet_nil ?_
              refine mixT_one (k := 84) (HF.out.2.2.2.2.2.2.2.2.2.2.2.2.2.2.2.2.2.1) rfl ?_
              go_wp2
              refine ⟨Or.inr (by intros; exact ⟨⟨_, hbw9.alloc hz9 _⟩, rfl⟩), ?_⟩
              refine mixT_one (k := 85) (HF.out.2.2.2.2.2.2.2.2.2.2.2.2.2.2.2.2.2.2.1) rfl ?_
              go_wp2
              refine ⟨Or.inr (fun h => h), ?_⟩
              refine mixT_nil (HF.out.2.2.2.2.2.2.2.2.2.2.2.2.2.2.2.2.2.2.2) ?_
              go_wp2
              go_meet
              case rel =>
                refine ⟨_, rfl, ?_, hbw9.alloc hz9 _⟩
                rw [hE3.out, hE6.out]
                exact heap_alloc_at _ _
            · as_aux_lemma =>
              have hE6 : Hid (b6 = true) := by show _ = _; rw [HB9.out]; rw [decide_eq_true (show s.received < s.collected by omega)]; rfl
              refine wp_region_mixT (w6.heap.size) [1, 12, 21, 25, 27, 30, 38, 40, 44, 46, 54, 56, 65, 67, 74, 79, 81] (by kernel_rfl) ?_
              refine mixT_slots [0, 3, 4, 5, 6, 7, 8, 9, 10, 11, 13, 18, 19, 20, 22, 23, 24, 26, 29, 34, 35, 36, 37, 39, 51, 62, 73, 76, 77, 78, 80] (fuel := 55) rfl (HF.out.1) (HF.out.2.1) (fun d _ _ _ _ h => by cases d <;> exact h) ?_
              simp only [opersAt, List.getElem?_toArray, List.getElem?_cons_zero, List.getElem?_cons_succ]
              repeat (go_big_quiet_step (fail))
              refine wpQuiet_nil ?_
              refine mixT_reads [1, 12, 21, 25, 27, 30, 38, 40, 74, 79, 81] (fuel := 44) rfl (HF.out.2.2.1) (by decide) (HF.out.2.2.2.1) (fun d _ _ _ _ h => by cases d <;> exact h) (ext_drew _ _) ?_
              simp only [opersAt, List.getElem?_toArray, List.getElem?_cons_zero, List.getElem?_cons_succ]
              repeat (go_big_quiet_step (fail))
              refine wpQuiet_nil ?_
              refine mixT_slots [2, 14, 15, 16, 17, 41, 75] (fuel := 37) rfl (HF.out.2.2.2.2.1) (HF.out.2.2.2.2.2.1) (fun d _ _ _ _ h => by cases d <;> exact h) ?_
              simp only [opersAt, List.getElem?_toArray, List.getElem?_cons_zero, List.getElem?_cons_succ]
              repeat (go_big_quiet_step (fail))
              refine wpQuiet_nil ?_
              refine mixT_one (k := 28) (HF.out.2.2.2.2.2.2.1) rfl ?_
              go_wp2_with (go_at_call 100; refine (HV.out _ (Below.refl _ _).drew).mono ?_; rintro e w7 ⟨rfl, hb1⟩; rw [← HB7.out])
              have hbw : Below w6.heap.size w6 w7 := (Below.refl _ _).drew.trans hb1
              refine ⟨Or.inr (by intros; exact ⟨⟨_, hbw⟩, rfl⟩), ?_⟩
              clear hb1
              refine mixT_one (k := 31) (HF.out.2.2.2.2.2.2.2.1) rfl ?_
              go_wp2_with (go_at_call 99; refine (HH.out _ hbw).mono ?_; rintro e w8 ⟨rfl, hb1⟩; rw [← HB8.out])
              have hbw8 : Below w6.heap.size w6 w8 := hbw.trans (hb1.mono hbw.size)
              refine ⟨Or.inr (by intros; exact ⟨⟨_, hbw8⟩, rfl⟩), ?_⟩
              clear hb1 hbw
              refine mixT_slots [32, 33, 42, 43, 45, 52, 53, 55, 58, 63, 64, 66, 69] (fuel := 22) rfl (HF.out.2.2.2.2.2.2.2.2.1) (HF.out.2.2.2.2.2.2.2.2.2.1) (fun d _ _ _ _ h => by cases d <;> exact h) ?_
              simp only [opersAt, List.getElem?_toArray, List.getElem?_cons_zero, List.getElem?_cons_succ]
              repeat (go_big_quiet_step (fail))
              refine wpQuiet_nil ?_
              refine mixT_reads [44, 46, 54, 56, 65, 67] (fuel := 16) rfl (HF.out.2.2.2.2.2.2.2.2.2.2.1) (by decide) (HF.out.2.2.2.2.2.2.2.2.2.2.2.1) (fun d _ _ _ _ h => by cases d <;> exact h) (⟨⟨_, hbw8⟩, rfl⟩) ?_
              simp only [opersAt, List.getElem?_toArray, List.getElem?_cons_zero, List.getElem?_cons_succ]
              repeat (go_big_quiet_step (fail))
              refine wpQuiet_nil ?_
              refine mixT_slots [47, 48, 49, 50, 57, 59, 60, 61, 68, 70, 71, 72] (fuel := 4) rfl (HF.out.2.2.2.2.2.2.2.2.2.2.2.2.1) (HF.out.2.2.2.2.2.2.2.2.2.2.2.2.2.1) (fun d _ _ _ _ h => by cases d <;> exact h) ?_
              simp only [opersAt, List.getElem?_toArray, List.getElem?_cons_zero, List.getElem?_cons_succ]
              repeat (go_big_quiet_step (fail))
              refine wpQuiet_nil ?_
              refine mixT_one (k := 82) (HF.out.2.2.2.2.2.2.2.2.2.2.2.2.2.2.1) rfl ?_
              go_wp2_with (go_at_call 101; refine (HU.out _ hbw8).mono ?_; rintro e w9 ⟨rfl, hb1⟩; rw [findV_any, show (if L.sm.qs.any (fun x : Qry => (x.sample == s.id) && (x.stage != 3)) then Value.bool true else .bool false) = .bool us from by rw [HB13.out]; unfold unsettledB; cases L.sm.qs.any (fun x : Qry => (x.sample == s.id) && (x.stage != 3)) <;> rfl])
              have hbw9 : Below w6.heap.size w6 w9 := hbw8.trans (hb1.mono hbw8.size)
              have hz9 := hbw9.size
              refine ⟨Or.inr (by intros; exact ⟨⟨_, hbw9⟩, rfl⟩), ?_⟩
              clear hb1 hbw8
              refine mixT_slots [83] (fuel := 2) rfl (HF.out.2.2.2.2.2.2.2.2.2.2.2.2.2.2.2.1) (HF.out.2.2.2.2.2.2.2.2.2.2.2.2.2.2.2.2.1) (fun d _ _ _ _ h => by cases d <;> exact h) ?_
              simp only [opersAt, List.getElem?_toArray, List.getElem?_cons_zero, List.getElem?_cons_succ]
              repeat (go_big_quiet_step (fail))
              refine wpQuiet_nil ?_
              refine mixT_one (k := 84) (HF.out.2.2.2.2.2.2.2.2.2.2.2.2.2.2.2.2.2.1) rfl ?_
              go_wp2
              refine ⟨Or.inr (by intros; exact ⟨⟨_, hbw9.alloc hz9 _⟩, rfl⟩), ?_⟩
              refine mixT_one (k := 85) (HF.out.2.2.2.2.2.2.2.2.2.2.2.2.2.2.2.2.2.2.1) rfl ?_
              go_wp2
              refine ⟨Or.inr (fun h => h), ?_⟩
              refine mixT_nil (HF.out.2.2.2.2.2.2.2.2.2.2.2.2.2.2.2.2.2.2.2) ?_
              go_wp2
              go_meet
              case rel =>
                refine ⟨_, rfl, ?_, hbw9.alloc hz9 _⟩
                rw [hE3.out, hE6.out]
                exact heap_alloc_at _ _
          | false =>
            by_cases hcr : s.collected ≤ s.received
            · as_aux_lemma =>
              have hE6 : Hid (b6 = (! decide (s.received ≤ r.tested))) := by show _ = _; rw [HB9.out]; rw [decide_eq_false (show ¬ s.received < s.collected by omega)]; by_cases q : s.received ≤ r.tested <;> simp [q] <;> omega
              refine wp_region_mixT (w6.heap.size) [1, 12, 21, 25, 27, 30, 38, 40, 44, 46, 54, 56, 65, 67, 74, 79, 81] (by kernel_rfl) ?_
              refine mixT_slots [0, 3, 4, 5, 6, 7, 8, 9, 10, 11, 13, 18, 19, 20, 22, 23, 24, 26, 29, 34, 35, 36, 37, 39, 51, 62, 73, 76, 77, 78, 80] (fuel := 55) rfl (HF.out.1) (HF.out.2.1) (fun d _ _ _ _ h => by cases d <;> exact h) ?_
              simp only [opersAt, List.getElem?_toArray, List.getElem?_cons_zero, List.getElem?_cons_succ]
              repeat (go_big_quiet_step (fail))
              refine wpQuiet_nil ?_
              refine mixT_reads [1, 12, 21, 25, 27, 30, 38, 40, 74, 79, 81] (fuel := 44) rfl (HF.out.2.2.1) (by decide) (HF.out.2.2.2.1) (fun d _ _ _ _ h => by cases d <;> exact h) (ext_drew _ _) ?_
              simp only [opersAt, List.getElem?_toArray, List.getElem?_cons_zero, List.getElem?_cons_succ]
              repeat (go_big_quiet_step (fail))
              refine wpQuiet_nil ?_
              refine mixT_slots [2, 14, 15, 16, 17, 41, 75] (fuel := 37) rfl (HF.out.2.2.2.2.1) (HF.out.2.2.2.2.2.1) (fun d _ _ _ _ h => by cases d <;> exact h) ?_
              simp only [opersAt, List.getElem?_toArray, List.getElem?_cons_zero, List.getElem?_cons_succ]
              repeat (go_big_quiet_step (fail))
              refine wpQuiet_nil ?_
              refine mixT_one (k := 28) (HF.out.2.2.2.2.2.2.1) rfl ?_
              go_wp2_with (go_at_call 100; refine (HV.out _ (Below.refl _ _).drew).mono ?_; rintro e w7 ⟨rfl, hb1⟩; rw [← HB7.out])
              have hbw : Below w6.heap.size w6 w7 := (Below.refl _ _).drew.trans hb1
              refine ⟨Or.inr (by intros; exact ⟨⟨_, hbw⟩, rfl⟩), ?_⟩
              clear hb1
              refine mixT_one (k := 31) (HF.out.2.2.2.2.2.2.2.1) rfl ?_
              go_wp2_with (go_at_call 99; refine (HH.out _ hbw).mono ?_; rintro e w8 ⟨rfl, hb1⟩; rw [← HB8.out])
              have hbw8 : Below w6.heap.size w6 w8 := hbw.trans (hb1.mono hbw.size)
              refine ⟨Or.inr (by intros; exact ⟨⟨_, hbw8⟩, rfl⟩), ?_⟩
              clear hb1 hbw
              refine mixT_slots [32, 33, 42, 43, 45, 52, 53, 55, 58, 63, 64, 66, 69] (fuel := 22) rfl (HF.out.2.2.2.2.2.2.2.2.1) (HF.out.2.2.2.2.2.2.2.2.2.1) (fun d _ _ _ _ h => by cases d <;> exact h) ?_
              simp only [opersAt, List.getElem?_toArray, List.getElem?_cons_zero, List.getElem?_cons_succ]
              repeat (go_big_quiet_step (fail))
              refine wpQuiet_nil ?_
              refine mixT_reads [44, 46, 54, 56, 65, 67] (fuel := 16) rfl (HF.out.2.2.2.2.2.2.2.2.2.2.1) (by decide) (HF.out.2.2.2.2.2.2.2.2.2.2.2.1) (fun d _ _ _ _ h => by cases d <;> exact h) (⟨⟨_, hbw8⟩, rfl⟩) ?_
              simp only [opersAt, List.getElem?_toArray, List.getElem?_cons_zero, List.getElem?_cons_succ]
              repeat (go_big_quiet_step (fail))
              refine wpQuiet_nil ?_
              refine mixT_slots [47, 48, 49, 50, 57, 59, 60, 61, 68, 70, 71, 72] (fuel := 4) rfl (HF.out.2.2.2.2.2.2.2.2.2.2.2.2.1) (HF.out.2.2.2.2.2.2.2.2.2.2.2.2.2.1) (fun d _ _ _ _ h => by cases d <;> exact h) ?_
              simp only [opersAt, List.getElem?_toArray, List.getElem?_cons_zero, List.getElem?_cons_succ]
              repeat (go_big_quiet_step (fail))
              refine wpQuiet_nil ?_
              refine mixT_one (k := 82) (HF.out.2.2.2.2.2.2.2.2.2.2.2.2.2.2.1) rfl ?_
              go_wp2_with (go_at_call 101; refine (HU.out _ hbw8).mono ?_; rintro e w9 ⟨rfl, hb1⟩; rw [findV_any, show (if L.sm.qs.any (fun x : Qry => (x.sample == s.id) && (x.stage != 3)) then Value.bool true else .bool false) = .bool us from by rw [HB13.out]; unfold unsettledB; cases L.sm.qs.any (fun x : Qry => (x.sample == s.id) && (x.stage != 3)) <;> rfl])
              have hbw9 : Below w6.heap.size w6 w9 := hbw8.trans (hb1.mono hbw8.size)
              have hz9 := hbw9.size
              refine ⟨Or.inr (by intros; exact ⟨⟨_, hbw9⟩, rfl⟩), ?_⟩
              clear hb1 hbw8
              refine mixT_slots [83] (fuel := 2) rfl (HF.out.2.2.2.2.2.2.2.2.2.2.2.2.2.2.2.1) (HF.out.2.2.2.2.2.2.2.2.2.2.2.2.2.2.2.2.1) (fun d _ _ _ _ h => by cases d <;> exact h) ?_
              simp only [opersAt, List.getElem?_toArray, List.getElem?_cons_zero, List.getElem?_cons_succ]
              repeat (go_big_quiet_step (fail))
              refine wpQuiet_nil ?_
              refine mixT_one (k := 84) (HF.out.2.2.2.2.2.2.2.2.2.2.2.2.2.2.2.2.2.1) rfl ?_
              go_wp2
              refine ⟨Or.inr (by intros; exact ⟨⟨_, hbw9.alloc hz9 _⟩, rfl⟩), ?_⟩
              refine mixT_one (k := 85) (HF.out.2.2.2.2.2.2.2.2.2.2.2.2.2.2.2.2.2.2.1) rfl ?_
              go_wp2
              refine ⟨Or.inr (fun h => h), ?_⟩
              refine mixT_nil (HF.out.2.2.2.2.2.2.2.2.2.2.2.2.2.2.2.2.2.2.2) ?_
              go_wp2
              go_meet
              case rel =>
                refine ⟨_, rfl, ?_, hbw9.alloc hz9 _⟩
                rw [hE3.out, hE6.out]
                exact heap_alloc_at _ _
            · as_aux_lemma =>
              have hE6 : Hid (b6 = true) := by show _ = _; rw [HB9.out]; rw [decide_eq_true (show s.received < s.collected by omega)]; rfl
              refine wp_region_mixT (w6.heap.size) [1, 12, 21, 25, 27, 30, 38, 40, 44, 46, 54, 56, 65, 67, 74, 79, 81] (by kernel_rfl) ?_
              refine mixT_slots [0, 3, 4, 5, 6, 7, 8, 9, 10, 11, 13, 18, 19, 20, 22, 23, 24, 26, 29, 34, 35, 36, 37, 39, 51, 62, 73, 76, 77, 78, 80] (fuel := 55) rfl (HF.out.1) (HF.out.2.1) (fun d _ _ _ _ h => by cases d <;> exact h) ?_
              simp only [opersAt, List.getElem?_toArray, List.getElem?_cons_zero, List.getElem?_cons_succ]
              repeat (go_big_quiet_step (fail))
              refine wpQuiet_nil ?_
              refine mixT_reads [1, 12, 21, 25, 27, 30, 38, 40, 74, 79, 81] (fuel := 44) rfl (HF.out.2.2.1) (by decide) (HF.out.2.2.2.1) (fun d _ _ _ _ h => by cases d <;> exact h) (ext_drew _ _) ?_
              simp only [opersAt, List.getElem?_toArray, List.getElem?_cons_zero, List.getElem?_cons_succ]
              repeat (go_big_quiet_step (fail))
              refine wpQuiet_nil ?_
              refine mixT_slots [2, 14, 15, 16, 17, 41, 75] (fuel := 37) rfl (HF.out.2.2.2.2.1) (HF.out.2.2.2.2.2.1) (fun d _ _ _ _ h => by cases d <;> exact h) ?_
              simp only [opersAt, List.getElem?_toArray, List.getElem?_cons_zero, List.getElem?_cons_succ]
              repeat (go_big_quiet_step (fail))
              refine wpQuiet_nil ?_
              refine mixT_one (k := 28) (HF.out.2.2.2.2.2.2.1) rfl ?_
              go_wp2_with (go_at_call 100; refine (HV.out _ (Below.refl _ _).drew).mono ?_; rintro e w7 ⟨rfl, hb1⟩; rw [← HB7.out])
              have hbw : Below w6.heap.size w6 w7 := (Below.refl _ _).drew.trans hb1
              refine ⟨Or.inr (by intros; exact ⟨⟨_, hbw⟩, rfl⟩), ?_⟩
              clear hb1
              refine mixT_one (k := 31) (HF.out.2.2.2.2.2.2.2.1) rfl ?_
              go_wp2_with (go_at_call 99; refine (HH.out _ hbw).mono ?_; rintro e w8 ⟨rfl, hb1⟩; rw [← HB8.out])
              have hbw8 : Below w6.heap.size w6 w8 := hbw.trans (hb1.mono hbw.size)
              refine ⟨Or.inr (by intros; exact ⟨⟨_, hbw8⟩, rfl⟩), ?_⟩
              clear hb1 hbw
              refine mixT_slots [32, 33, 42, 43, 45, 52, 53, 55, 58, 63, 64, 66, 69] (fuel := 22) rfl (HF.out.2.2.2.2.2.2.2.2.1) (HF.out.2.2.2.2.2.2.2.2.2.1) (fun d _ _ _ _ h => by cases d <;> exact h) ?_
              simp only [opersAt, List.getElem?_toArray, List.getElem?_cons_zero, List.getElem?_cons_succ]
              repeat (go_big_quiet_step (fail))
              refine wpQuiet_nil ?_
              refine mixT_reads [44, 46, 54, 56, 65, 67] (fuel := 16) rfl (HF.out.2.2.2.2.2.2.2.2.2.2.1) (by decide) (HF.out.2.2.2.2.2.2.2.2.2.2.2.1) (fun d _ _ _ _ h => by cases d <;> exact h) (⟨⟨_, hbw8⟩, rfl⟩) ?_
              simp only [opersAt, List.getElem?_toArray, List.getElem?_cons_zero, List.getElem?_cons_succ]
              repeat (go_big_quiet_step (fail))
              refine wpQuiet_nil ?_
              refine mixT_slots [47, 48, 49, 50, 57, 59, 60, 61, 68, 70, 71, 72] (fuel := 4) rfl (HF.out.2.2.2.2.2.2.2.2.2.2.2.2.1) (HF.out.2.2.2.2.2.2.2.2.2.2.2.2.2.1) (fun d _ _ _ _ h => by cases d <;> exact h) ?_
              simp only [opersAt, List.getElem?_toArray, List.getElem?_cons_zero, List.getElem?_cons_succ]
              repeat (go_big_quiet_step (fail))
              refine wpQuiet_nil ?_
              refine mixT_one (k := 82) (HF.out.2.2.2.2.2.2.2.2.2.2.2.2.2.2.1) rfl ?_
              go_wp2_with (go_at_call 101; refine (HU.out _ hbw8).mono ?_; rintro e w9 ⟨rfl, hb1⟩; rw [findV_any, show (if L.sm.qs.any (fun x : Qry => (x.sample == s.id) && (x.stage != 3)) then Value.bool true else .bool false) = .bool us from by rw [HB13.out]; unfold unsettledB; cases L.sm.qs.any (fun x : Qry => (x.sample == s.id) && (x.stage != 3)) <;> rfl])
              have hbw9 : Below w6.heap.size w6 w9 := hbw8.trans (hb1.mono hbw8.size)
              have hz9 := hbw9.size
              refine ⟨Or.inr (by intros; exact ⟨⟨_, hbw9⟩, rfl⟩), ?_⟩
              clear hb1 hbw8
              refine mixT_slots [83] (fuel := 2) rfl (HF.out.2.2.2.2.2.2.2.2.2.2.2.2.2.2.2.1) (HF.out.2.2.2.2.2.2.2.2.2.2.2.2.2.2.2.2.1) (fun d _ _ _ _ h => by cases d <;> exact h) ?_
              simp only [opersAt, List.getElem?_toArray, List.getElem?_cons_zero, List.getElem?_cons_succ]
              repeat (go_big_quiet_step (fail))
              refine wpQuiet_nil ?_
              refine mixT_one (k := 84) (HF.out.2.2.2.2.2.2.2.2.2.2.2.2.2.2.2.2.2.1) rfl ?_
              go_wp2
              refine ⟨Or.inr (by intros; exact ⟨⟨_, hbw9.alloc hz9 _⟩, rfl⟩), ?_⟩
              refine mixT_one (k := 85) (HF.out.2.2.2.2.2.2.2.2.2.2.2.2.2.2.2.2.2.2.1) rfl ?_
              go_wp2
              refine ⟨Or.inr (fun h => h), ?_⟩
              refine mixT_nil (HF.out.2.2.2.2.2.2.2.2.2.2.2.2.2.2.2.2.2.2.2) ?_
              go_wp2
              go_meet
              case rel =>
                refine ⟨_, rfl, ?_, hbw9.alloc hz9 _⟩
                rw [hE3.out, hE6.out]
                exact heap_alloc_at _ _
        | true =>
          have hE3 : Hid (b3 = (! (ksi == site))) := by show _ = _; rw [HB6.out]; rfl
          cases df with
          | true =>
            by_cases hcr : s.collected ≤ s.received
            · as_aux_lemma =>
              have hE6 : Hid (b6 = (! decide (s.received ≤ r.tested))) := by show _ = _; rw [HB9.out]; rw [decide_eq_false (show ¬ s.received < s.collected by omega)]; by_cases q : s.received ≤ r.tested <;> simp [q] <;> omega
              refine wp_region_mixT (w6.heap.size) [1, 12, 21, 25, 27, 30, 38, 40, 44, 46, 54, 56, 65, 67, 74, 79, 81] (by kernel_rfl) ?_
              refine mixT_slots [0, 3, 4, 5, 6, 7, 8, 9, 10, 11, 13, 18, 19, 20, 22, 23, 24, 26, 29, 34, 35, 36, 37, 39, 51, 62, 73, 76, 77, 78, 80] (fuel := 55) rfl (HF.out.1) (HF.out.2.1) (fun d _ _ _ _ h => by cases d <;> exact h) ?_
              simp only [opersAt, List.getElem?_toArray, List.getElem?_cons_zero, List.getElem?_cons_succ]
              repeat (go_big_quiet_step (fail))
              refine wpQuiet_nil ?_
              refine mixT_reads [1, 12, 21, 25, 27, 30, 38, 40, 74, 79, 81] (fuel := 44) rfl (HF.out.2.2.1) (by decide) (HF.out.2.2.2.1) (fun d _ _ _ _ h => by cases d <;> exact h) (ext_drew _ _) ?_
              simp only [opersAt, List.getElem?_toArray, List.getElem?_cons_zero, List.getElem?_cons_succ]
              repeat (go_big_quiet_step (fail))
              refine wpQuiet_nil ?_
              refine mixT_slots [2, 14, 15, 16, 17, 41, 75] (fuel := 37) rfl (HF.out.2.2.2.2.1) (HF.out.2.2.2.2.2.1) (fun d _ _ _ _ h => by cases d <;> exact h) ?_
              simp only [opersAt, List.getElem?_toArray, List.getElem?_cons_zero, List.getElem?_cons_succ]
              repeat (go_big_quiet_step (fail))
              refine wpQuiet_nil ?_
              refine mixT_one (k := 28) (HF.out.2.2.2.2.2.2.1) rfl ?_
              go_wp2_with (go_at_call 100; refine (HV.out _ (Below.refl _ _).drew).mono ?_; rintro e w7 ⟨rfl, hb1⟩; rw [← HB7.out])
              have hbw : Below w6.heap.size w6 w7 := (Below.refl _ _).drew.trans hb1
              refine ⟨Or.inr (by intros; exact ⟨⟨_, hbw⟩, rfl⟩), ?_⟩
              clear hb1
              refine mixT_one (k := 31) (HF.out.2.2.2.2.2.2.2.1) rfl ?_
              go_wp2_with (go_at_call 99; refine (HH.out _ hbw).mono ?_; rintro e w8 ⟨rfl, hb1⟩; rw [← HB8.out])
              have hbw8 : Below w6.heap.size w6 w8 := hbw.trans (hb1.mono hbw.size)
              refine ⟨Or.inr (by intros; exact ⟨⟨_, hbw8⟩, rfl⟩), ?_⟩
              clear hb1 hbw
              refine mixT_slots [32, 33, 42, 43, 45, 52, 53, 55, 58, 63, 64, 66, 69] (fuel := 22) rfl (HF.out.2.2.2.2.2.2.2.2.1) (HF.out.2.2.2.2.2.2.2.2.2.1) (fun d _ _ _ _ h => by cases d <;> exact h) ?_
              simp only [opersAt, List.getElem?_toArray, List.getElem?_cons_zero, List.getElem?_cons_succ]
              repeat (go_big_quiet_step (fail))
              refine wpQuiet_nil ?_
              refine mixT_reads [44, 46, 54, 56, 65, 67] (fuel := 16) rfl (HF.out.2.2.2.2.2.2.2.2.2.2.1) (by decide) (HF.out.2.2.2.2.2.2.2.2.2.2.2.1) (fun d _ _ _ _ h => by cases d <;> exact h) (⟨⟨_, hbw8⟩, rfl⟩) ?_
              simp only [opersAt, List.getElem?_toArray, List.getElem?_cons_zero, List.getElem?_cons_succ]
              repeat (go_big_quiet_step (fail))
              refine wpQuiet_nil ?_
              refine mixT_slots [47, 48, 49, 50, 57, 59, 60, 61, 68, 70, 71, 72] (fuel := 4) rfl (HF.out.2.2.2.2.2.2.2.2.2.2.2.2.1) (HF.out.2.2.2.2.2.2.2.2.2.2.2.2.2.1) (fun d _ _ _ _ h => by cases d <;> exact h) ?_
              simp only [opersAt, List.getElem?_toArray, List.getElem?_cons_zero, List.getElem?_cons_succ]
              repeat (go_big_quiet_step (fail))
              refine wpQuiet_nil ?_
              refine mixT_one (k := 82) (HF.out.2.2.2.2.2.2.2.2.2.2.2.2.2.2.1) rfl ?_
              go_wp2_with (go_at_call 101; refine (HU.out _ hbw8).mono ?_; rintro e w9 ⟨rfl, hb1⟩; rw [findV_any, show (if L.sm.qs.any (fun x : Qry => (x.sample == s.id) && (x.stage != 3)) then Value.bool true else .bool false) = .bool us from by rw [HB13.out]; unfold unsettledB; cases L.sm.qs.any (fun x : Qry => (x.sample == s.id) && (x.stage != 3)) <;> rfl])
              have hbw9 : Below w6.heap.size w6 w9 := hbw8.trans (hb1.mono hbw8.size)
              have hz9 := hbw9.size
              refine ⟨Or.inr (by intros; exact ⟨⟨_, hbw9⟩, rfl⟩), ?_⟩
              clear hb1 hbw8
              refine mixT_slots [83] (fuel := 2) rfl (HF.out.2.2.2.2.2.2.2.2.2.2.2.2.2.2.2.1) (HF.out.2.2.2.2.2.2.2.2.2.2.2.2.2.2.2.2.1) (fun d _ _ _ _ h => by cases d <;> exact h) ?_
              simp only [opersAt, List.getElem?_toArray, List.getElem?_cons_zero, List.getElem?_cons_succ]
              repeat (go_big_quiet_step (fail))
              refine wpQuiet_nil ?_
              refine mixT_one (k := 84) (HF.out.2.2.2.2.2.2.2.2.2.2.2.2.2.2.2.2.2.1) rfl ?_
              go_wp2
              refine ⟨Or.inr (by intros; exact ⟨⟨_, hbw9.alloc hz9 _⟩, rfl⟩), ?_⟩
              refine mixT_one (k := 85) (HF.out.2.2.2.2.2.2.2.2.2.2.2.2.2.2.2.2.2.2.1) rfl ?_
              go_wp2
              refine ⟨Or.inr (fun h => h), ?_⟩
              refine mixT_nil (HF.out.2.2.2.2.2.2.2.2.2.2.2.2.2.2.2.2.2.2.2) ?_
              go_wp2
              go_meet
              case rel =>
                refine ⟨_, rfl, ?_, hbw9.alloc hz9 _⟩
                rw [hE3.out, hE6.out]
                exact heap_alloc_at _ _
            · as_aux_lemma =>
              have hE6 : Hid (b6 = true) := by show _ = _; rw [HB9.out]; rw [decide_eq_true (show s.received < s.collected by omega)]; rfl
              refine wp_region_mixT (w6.heap.size) [1, 12, 21, 25, 27, 30, 38, 40, 44, 46, 54, 56, 65, 67, 74, 79, 81] (by kernel_rfl) ?_
              refine mixT_slots [0, 3, 4, 5, 6, 7, 8, 9, 10, 11, 13, 18, 19, 20, 22, 23, 24, 26, 29, 34, 35, 36, 37, 39, 51, 62, 73, 76, 77, 78, 80] (fuel := 55) rfl (HF.out.1) (HF.out.2.1) (fun d _ _ _ _ h => by cases d <;> exact h) ?_
              simp only [opersAt, List.getElem?_toArray, List.getElem?_cons_zero, List.getElem?_cons_succ]
              repeat (go_big_quiet_step (fail))
              refine wpQuiet_nil ?_
              refine mixT_reads [1, 12, 21, 25, 27, 30, 38, 40, 74, 79, 81] (fuel := 44) rfl (HF.out.2.2.1) (by decide) (HF.out.2.2.2.1) (fun d _ _ _ _ h => by cases d <;> exact h) (ext_drew _ _) ?_
              simp only [opersAt, List.getElem?_toArray, List.getElem?_cons_zero, List.getElem?_cons_succ]
              repeat (go_big_quiet_step (fail))
              refine wpQuiet_nil ?_
              refine mixT_slots [2, 14, 15, 16, 17, 41, 75] (fuel := 37) rfl (HF.out.2.2.2.2.1) (HF.out.2.2.2.2.2.1) (fun d _ _ _ _ h => by cases d <;> exact h) ?_
              simp only [opersAt, List.getElem?_toArray, List.getElem?_cons_zero, List.getElem?_cons_succ]
              repeat (go_big_quiet_step (fail))
              refine wpQuiet_nil ?_
              refine mixT_one (k := 28) (HF.out.2.2.2.2.2.2.1) rfl ?_
              go_wp2_with (go_at_call 100; refine (HV.out _ (Below.refl _ _).drew).mono ?_; rintro e w7 ⟨rfl, hb1⟩; rw [← HB7.out])
              have hbw : Below w6.heap.size w6 w7 := (Below.refl _ _).drew.trans hb1
              refine ⟨Or.inr (by intros; exact ⟨⟨_, hbw⟩, rfl⟩), ?_⟩
              clear hb1
              refine mixT_one (k := 31) (HF.out.2.2.2.2.2.2.2.1) rfl ?_
              go_wp2_with (go_at_call 99; refine (HH.out _ hbw).mono ?_; rintro e w8 ⟨rfl, hb1⟩; rw [← HB8.out])
              have hbw8 : Below w6.heap.size w6 w8 := hbw.trans (hb1.mono hbw.size)
              refine ⟨Or.inr (by intros; exact ⟨⟨_, hbw8⟩, rfl⟩), ?_⟩
              clear hb1 hbw
              refine mixT_slots [32, 33, 42, 43, 45, 52, 53, 55, 58, 63, 64, 66, 69] (fuel := 22) rfl (HF.out.2.2.2.2.2.2.2.2.1) (HF.out.2.2.2.2.2.2.2.2.2.1) (fun d _ _ _ _ h => by cases d <;> exact h) ?_
              simp only [opersAt, List.getElem?_toArray, List.getElem?_cons_zero, List.getElem?_cons_succ]
              repeat (go_big_quiet_step (fail))
              refine wpQuiet_nil ?_
              refine mixT_reads [44, 46, 54, 56, 65, 67] (fuel := 16) rfl (HF.out.2.2.2.2.2.2.2.2.2.2.1) (by decide) (HF.out.2.2.2.2.2.2.2.2.2.2.2.1) (fun d _ _ _ _ h => by cases d <;> exact h) (⟨⟨_, hbw8⟩, rfl⟩) ?_
              simp only [opersAt, List.getElem?_toArray, List.getElem?_cons_zero, List.getElem?_cons_succ]
              repeat (go_big_quiet_step (fail))
              refine wpQuiet_nil ?_
              refine mixT_slots [47, 48, 49, 50, 57, 59, 60, 61, 68, 70, 71, 72] (fuel := 4) rfl (HF.out.2.2.2.2.2.2.2.2.2.2.2.2.1) (HF.out.2.2.2.2.2.2.2.2.2.2.2.2.2.1) (fun d _ _ _ _ h => by cases d <;> exact h) ?_
              simp only [opersAt, List.getElem?_toArray, List.getElem?_cons_zero, List.getElem?_cons_succ]
              repeat (go_big_quiet_step (fail))
              refine wpQuiet_nil ?_
              refine mixT_one (k := 82) (HF.out.2.2.2.2.2.2.2.2.2.2.2.2.2.2.1) rfl ?_
              go_wp2_with (go_at_call 101; refine (HU.out _ hbw8).mono ?_; rintro e w9 ⟨rfl, hb1⟩; rw [findV_any, show (if L.sm.qs.any (fun x : Qry => (x.sample == s.id) && (x.stage != 3)) then Value.bool true else .bool false) = .bool us from by rw [HB13.out]; unfold unsettledB; cases L.sm.qs.any (fun x : Qry => (x.sample == s.id) && (x.stage != 3)) <;> rfl])
              have hbw9 : Below w6.heap.size w6 w9 := hbw8.trans (hb1.mono hbw8.size)
              have hz9 := hbw9.size
              refine ⟨Or.inr (by intros; exact ⟨⟨_, hbw9⟩, rfl⟩), ?_⟩
              clear hb1 hbw8
              refine mixT_slots [83] (fuel := 2) rfl (HF.out.2.2.2.2.2.2.2.2.2.2.2.2.2.2.2.1) (HF.out.2.2.2.2.2.2.2.2.2.2.2.2.2.2.2.2.1) (fun d _ _ _ _ h => by cases d <;> exact h) ?_
              simp only [opersAt, List.getElem?_toArray, List.getElem?_cons_zero, List.getElem?_cons_succ]
              repeat (go_big_quiet_step (fail))
              refine wpQuiet_nil ?_
              refine mixT_one (k := 84) (HF.out.2.2.2.2.2.2.2.2.2.2.2.2.2.2.2.2.2.1) rfl ?_
              go_wp2
              refine ⟨Or.inr (by intros; exact ⟨⟨_, hbw9.alloc hz9 _⟩, rfl⟩), ?_⟩
              refine mixT_one (k := 85) (HF.out.2.2.2.2.2.2.2.2.2.2.2.2.2.2.2.2.2.2.1) rfl ?_
              go_wp2
              refine ⟨Or.inr (fun h => h), ?_⟩
              refine mixT_nil (HF.out.2.2.2.2.2.2.2.2.2.2.2.2.2.2.2.2.2.2.2) ?_
              go_wp2
              go_meet
              case rel =>
                refine ⟨_, rfl, ?_, hbw9.alloc hz9 _⟩
                rw [hE3.out, hE6.out]
                exact heap_alloc_at _ _
          | false =>
            by_cases hcr : s.collected ≤ s.received
            · as_aux_lemma =>
              have hE6 : Hid (b6 = (! decide (s.received ≤ r.tested))) := by show _ = _; rw [HB9.out]; rw [decide_eq_false (show ¬ s.received < s.collected by omega)]; by_cases q : s.received ≤ r.tested <;> simp [q] <;> omega
              refine wp_region_mixT (w6.heap.size) [1, 12, 21, 25, 27, 30, 38, 40, 44, 46, 54, 56, 65, 67, 74, 79, 81] (by kernel_rfl) ?_
              refine mixT_slots [0, 3, 4, 5, 6, 7, 8, 9, 10, 11, 13, 18, 19, 20, 22, 23, 24, 26, 29, 34, 35, 36, 37, 39, 51, 62, 73, 76, 77, 78, 80] (fuel := 55) rfl (HF.out.1) (HF.out.2.1) (fun d _ _ _ _ h => by cases d <;> exact h) ?_
              simp only [opersAt, List.getElem?_toArray, List.getElem?_cons_zero, List.getElem?_cons_succ]
              repeat (go_big_quiet_step (fail))
              refine wpQuiet_nil ?_
              refine mixT_reads [1, 12, 21, 25, 27, 30, 38, 40, 74, 79, 81] (fuel := 44) rfl (HF.out.2.2.1) (by decide) (HF.out.2.2.2.1) (fun d _ _ _ _ h => by cases d <;> exact h) (ext_drew _ _) ?_
              simp only [opersAt, List.getElem?_toArray, List.getElem?_cons_zero, List.getElem?_cons_succ]
              repeat (go_big_quiet_step (fail))
              refine wpQuiet_nil ?_
              refine mixT_slots [2, 14, 15, 16, 17, 41, 75] (fuel := 37) rfl (HF.out.2.2.2.2.1) (HF.out.2.2.2.2.2.1) (fun d _ _ _ _ h => by cases d <;> exact h) ?_
              simp only [opersAt, List.getElem?_toArray, List.getElem?_cons_zero, List.getElem?_cons_succ]
              repeat (go_big_quiet_step (fail))
              refine wpQuiet_nil ?_
              refine mixT_one (k := 28) (HF.out.2.2.2.2.2.2.1) rfl ?_
              go_wp2_with (go_at_call 100; refine (HV.out _ (Below.refl _ _).drew).mono ?_; rintro e w7 ⟨rfl, hb1⟩; rw [← HB7.out])
              have hbw : Below w6.heap.size w6 w7 := (Below.refl _ _).drew.trans hb1
              refine ⟨Or.inr (by intros; exact ⟨⟨_, hbw⟩, rfl⟩), ?_⟩
              clear hb1
              refine mixT_one (k := 31) (HF.out.2.2.2.2.2.2.2.1) rfl ?_
              go_wp2_with (go_at_call 99; refine (HH.out _ hbw).mono ?_; rintro e w8 ⟨rfl, hb1⟩; rw [← HB8.out])
              have hbw8 : Below w6.heap.size w6 w8 := hbw.trans (hb1.mono hbw.size)
              refine ⟨Or.inr (by intros; exact ⟨⟨_, hbw8⟩, rfl⟩), ?_⟩
              clear hb1 hbw
              refine mixT_slots [32, 33, 42, 43, 45, 52, 53, 55, 58, 63, 64, 66, 69] (fuel := 22) rfl (HF.out.2.2.2.2.2.2.2.2.1) (HF.out.2.2.2.2.2.2.2.2.2.1) (fun d _ _ _ _ h => by cases d <;> exact h) ?_
              simp only [opersAt, List.getElem?_toArray, List.getElem?_cons_zero, List.getElem?_cons_succ]
              repeat (go_big_quiet_step (fail))
              refine wpQuiet_nil ?_
              refine mixT_reads [44, 46, 54, 56, 65, 67] (fuel := 16) rfl (HF.out.2.2.2.2.2.2.2.2.2.2.1) (by decide) (HF.out.2.2.2.2.2.2.2.2.2.2.2.1) (fun d _ _ _ _ h => by cases d <;> exact h) (⟨⟨_, hbw8⟩, rfl⟩) ?_
              simp only [opersAt, List.getElem?_toArray, List.getElem?_cons_zero, List.getElem?_cons_succ]
              repeat (go_big_quiet_step (fail))
              refine wpQuiet_nil ?_
              refine mixT_slots [47, 48, 49, 50, 57, 59, 60, 61, 68, 70, 71, 72] (fuel := 4) rfl (HF.out.2.2.2.2.2.2.2.2.2.2.2.2.1) (HF.out.2.2.2.2.2.2.2.2.2.2.2.2.2.1) (fun d _ _ _ _ h => by cases d <;> exact h) ?_
              simp only [opersAt, List.getElem?_toArray, List.getElem?_cons_zero, List.getElem?_cons_succ]
              repeat (go_big_quiet_step (fail))
              refine wpQuiet_nil ?_
              refine mixT_one (k := 82) (HF.out.2.2.2.2.2.2.2.2.2.2.2.2.2.2.1) rfl ?_
              go_wp2_with (go_at_call 101; refine (HU.out _ hbw8).mono ?_; rintro e w9 ⟨rfl, hb1⟩; rw [findV_any, show (if L.sm.qs.any (fun x : Qry => (x.sample == s.id) && (x.stage != 3)) then Value.bool true else .bool false) = .bool us from by rw [HB13.out]; unfold unsettledB; cases L.sm.qs.any (fun x : Qry => (x.sample == s.id) && (x.stage != 3)) <;> rfl])
              have hbw9 : Below w6.heap.size w6 w9 := hbw8.trans (hb1.mono hbw8.size)
              have hz9 := hbw9.size
              refine ⟨Or.inr (by intros; exact ⟨⟨_, hbw9⟩, rfl⟩), ?_⟩
              clear hb1 hbw8
              refine mixT_slots [83] (fuel := 2) rfl (HF.out.2.2.2.2.2.2.2.2.2.2.2.2.2.2.2.1) (HF.out.2.2.2.2.2.2.2.2.2.2.2.2.2.2.2.2.1) (fun d _ _ _ _ h => by cases d <;> exact h) ?_
              simp only [opersAt, List.getElem?_toArray, List.getElem?_cons_zero, List.getElem?_cons_succ]
              repeat (go_big_quiet_step (fail))
              refine wpQuiet_nil ?_
              refine mixT_one (k := 84) (HF.out.2.2.2.2.2.2.2.2.2.2.2.2.2.2.2.2.2.1) rfl ?_
              go_wp2
              refine ⟨Or.inr (by intros; exact ⟨⟨_, hbw9.alloc hz9 _⟩, rfl⟩), ?_⟩
              refine mixT_one (k := 85) (HF.out.2.2.2.2.2.2.2.2.2.2.2.2.2.2.2.2.2.2.1) rfl ?_
              go_wp2
              refine ⟨Or.inr (fun h => h), ?_⟩
              refine mixT_nil (HF.out.2.2.2.2.2.2.2.2.2.2.2.2.2.2.2.2.2.2.2) ?_
              go_wp2
              go_meet
              case rel =>
                refine ⟨_, rfl, ?_, hbw9.alloc hz9 _⟩
                rw [hE3.out, hE6.out]
                exact heap_alloc_at _ _
            · as_aux_lemma =>
              have hE6 : Hid (b6 = true) := by show _ = _; rw [HB9.out]; rw [decide_eq_true (show s.received < s.collected by omega)]; rfl
              refine wp_region_mixT (w6.heap.size) [1, 12, 21, 25, 27, 30, 38, 40, 44, 46, 54, 56, 65, 67, 74, 79, 81] (by kernel_rfl) ?_
              refine mixT_slots [0, 3, 4, 5, 6, 7, 8, 9, 10, 11, 13, 18, 19, 20, 22, 23, 24, 26, 29, 34, 35, 36, 37, 39, 51, 62, 73, 76, 77, 78, 80] (fuel := 55) rfl (HF.out.1) (HF.out.2.1) (fun d _ _ _ _ h => by cases d <;> exact h) ?_
              simp only [opersAt, List.getElem?_toArray, List.getElem?_cons_zero, List.getElem?_cons_succ]
              repeat (go_big_quiet_step (fail))
              refine wpQuiet_nil ?_
              refine mixT_reads [1, 12, 21, 25, 27, 30, 38, 40, 74, 79, 81] (fuel := 44) rfl (HF.out.2.2.1) (by decide) (HF.out.2.2.2.1) (fun d _ _ _ _ h => by cases d <;> exact h) (ext_drew _ _) ?_
              simp only [opersAt, List.getElem?_toArray, List.getElem?_cons_zero, List.getElem?_cons_succ]
              repeat (go_big_quiet_step (fail))
              refine wpQuiet_nil ?_
              refine mixT_slots [2, 14, 15, 16, 17, 41, 75] (fuel := 37) rfl (HF.out.2.2.2.2.1) (HF.out.2.2.2.2.2.1) (fun d _ _ _ _ h => by cases d <;> exact h) ?_
              simp only [opersAt, List.getElem?_toArray, List.getElem?_cons_zero, List.getElem?_cons_succ]
              repeat (go_big_quiet_step (fail))
              refine wpQuiet_nil ?_
              refine mixT_one (k := 28) (HF.out.2.2.2.2.2.2.1) rfl ?_
              go_wp2_with (go_at_call 100; refine (HV.out _ (Below.refl _ _).drew).mono ?_; rintro e w7 ⟨rfl, hb1⟩; rw [← HB7.out])
              have hbw : Below w6.heap.size w6 w7 := (Below.refl _ _).drew.trans hb1
              refine ⟨Or.inr (by intros; exact ⟨⟨_, hbw⟩, rfl⟩), ?_⟩
              clear hb1
              refine mixT_one (k := 31) (HF.out.2.2.2.2.2.2.2.1) rfl ?_
              go_wp2_with (go_at_call 99; refine (HH.out _ hbw).mono ?_; rintro e w8 ⟨rfl, hb1⟩; rw [← HB8.out])
              have hbw8 : Below w6.heap.size w6 w8 := hbw.trans (hb1.mono hbw.size)
              refine ⟨Or.inr (by intros; exact ⟨⟨_, hbw8⟩, rfl⟩), ?_⟩
              clear hb1 hbw
              refine mixT_slots [32, 33, 42, 43, 45, 52, 53, 55, 58, 63, 64, 66, 69] (fuel := 22) rfl (HF.out.2.2.2.2.2.2.2.2.1) (HF.out.2.2.2.2.2.2.2.2.2.1) (fun d _ _ _ _ h => by cases d <;> exact h) ?_
              simp only [opersAt, List.getElem?_toArray, List.getElem?_cons_zero, List.getElem?_cons_succ]
              repeat (go_big_quiet_step (fail))
              refine wpQuiet_nil ?_
              refine mixT_reads [44, 46, 54, 56, 65, 67] (fuel := 16) rfl (HF.out.2.2.2.2.2.2.2.2.2.2.1) (by decide) (HF.out.2.2.2.2.2.2.2.2.2.2.2.1) (fun d _ _ _ _ h => by cases d <;> exact h) (⟨⟨_, hbw8⟩, rfl⟩) ?_
              simp only [opersAt, List.getElem?_toArray, List.getElem?_cons_zero, List.getElem?_cons_succ]
              repeat (go_big_quiet_step (fail))
              refine wpQuiet_nil ?_
              refine mixT_slots [47, 48, 49, 50, 57, 59, 60, 61, 68, 70, 71, 72] (fuel := 4) rfl (HF.out.2.2.2.2.2.2.2.2.2.2.2.2.1) (HF.out.2.2.2.2.2.2.2.2.2.2.2.2.2.1) (fun d _ _ _ _ h => by cases d <;> exact h) ?_
              simp only [opersAt, List.getElem?_toArray, List.getElem?_cons_zero, List.getElem?_cons_succ]
              repeat (go_big_quiet_step (fail))
              refine wpQuiet_nil ?_
              refine mixT_one (k := 82) (HF.out.2.2.2.2.2.2.2.2.2.2.2.2.2.2.1) rfl ?_
              go_wp2_with (go_at_call 101; refine (HU.out _ hbw8).mono ?_; rintro e w9 ⟨rfl, hb1⟩; rw [findV_any, show (if L.sm.qs.any (fun x : Qry => (x.sample == s.id) && (x.stage != 3)) then Value.bool true else .bool false) = .bool us from by rw [HB13.out]; unfold unsettledB; cases L.sm.qs.any (fun x : Qry => (x.sample == s.id) && (x.stage != 3)) <;> rfl])
              have hbw9 : Below w6.heap.size w6 w9 := hbw8.trans (hb1.mono hbw8.size)
              have hz9 := hbw9.size
              refine ⟨Or.inr (by intros; exact ⟨⟨_, hbw9⟩, rfl⟩), ?_⟩
              clear hb1 hbw8
              refine mixT_slots [83] (fuel := 2) rfl (HF.out.2.2.2.2.2.2.2.2.2.2.2.2.2.2.2.1) (HF.out.2.2.2.2.2.2.2.2.2.2.2.2.2.2.2.2.1) (fun d _ _ _ _ h => by cases d <;> exact h) ?_
              simp only [opersAt, List.getElem?_toArray, List.getElem?_cons_zero, List.getElem?_cons_succ]
              repeat (go_big_quiet_step (fail))
              refine wpQuiet_nil ?_
              refine mixT_one (k := 84) (HF.out.2.2.2.2.2.2.2.2.2.2.2.2.2.2.2.2.2.1) rfl ?_
              go_wp2
              refine ⟨Or.inr (by intros; exact ⟨⟨_, hbw9.alloc hz9 _⟩, rfl⟩), ?_⟩
              refine mixT_one (k := 85) (HF.out.2.2.2.2.2.2.2.2.2.2.2.2.2.2.2.2.2.2.1) rfl ?_
              go_wp2
              refine ⟨Or.inr (fun h => h), ?_⟩
              refine mixT_nil (HF.out.2.2.2.2.2.2.2.2.2.2.2.2.2.2.2.2.2.2.2) ?_
              go_wp2
              go_meet
              case rel =>
                refine ⟨_, rfl, ?_, hbw9.alloc hz9 _⟩
                rw [hE3.out, hE6.out]
                exact heap_alloc_at _ _
    case rest =>
      as_aux_lemma =>
      obtain ⟨g, rfl, hten, hbw⟩ := hcut
      have HBW2 := hide (HA.out.below.trans (hbw.mono HA.out.below.size))
      have hz6 := HA.out.below.size
      have hzz := hbw.size
      have hel := ten_at hten
      rw [← HR.out] at hel
      have HEL := hide hel
      have hll : l.length = 10 := by rw [HR.out]; rfl
      have HLL := hide hll
      have hgl := blk_lt hten
      have hi := run_indexAt_arr (P := Tryz.prog) (n := 10) (cap := 10) (b := g) (off := 0) (a := some ⟨g, 0, none⟩) und220 size216 (fun _ => rfl)
      clear hel hten hll c0 c1 c2 c3 c4 c5 c6 c7 r1 r4 r5 l0 l1 kk0 kk1 g0 g4 g5 hLw HLW HBW HA hbw hkl
      go_upto_region 7 with fail
      generalize wc = W7 at *
      go_loopg [14, 136] 10 (fun m u j wr => ∃ q : Nat, q ≤ 10 ∧ m = 10 - q ∧ j = .int .i64 q ∧ u = .int .u16 (wsum (l.take q)) ∧ Hid (Below W7.heap.size W7 wr))
      case atStart => exact ⟨0, by omega, by omega, rfl, rfl, Below.refl _ _⟩
      case round =>
        obtain ⟨q, hq, rfl, rfl, rfl, HBR⟩ := hrel
        have hsr := HBR.out.size
        by_cases hlt : q < 10
        · have h1 : q < l.length := by rw [HLL.out]; exact hlt
          have hrg := HEL.out q h1
          rw [← rng_of_block (HBR.out.block g hgl)] at hrg
          have hbr : g < wr.heap.size := by omega
          have HS := hide (wsum_take h1)
          generalize l[q] = p at *
          obtain ⟨pk, pb⟩ := p
          simp only [hmCs] at hrg
          have hov : ones #[.int .u16 pk, .bool pb] 2 = true := rfl
          cases pb with
          | false =>
            have HS2 : Hid (wsum (l.take (q + 1)) = wsum (l.take q)) := HS.out
            clear HS
            go_wp2
            go_roundg (10 - (q + 1))
            case measure => omega
            case rel => exact ⟨q + 1, by omega, rfl, by go_num, by rw [HS2.out], HBR.out.alloc hsr _⟩
          | true =>
            have HS2 : Hid (wsum (l.take (q + 1)) = IntKind.u16.wrap (wsum (l.take q) + pk)) := HS.out
            clear HS
            generalize wsum (l.take q) = u0 at *
            go_wp2
            go_roundg (10 - (q + 1))
            case measure => omega
            case rel => exact ⟨q + 1, by omega, rfl, by go_num, by rw [HS2.out], HBR.out.alloc hsr _⟩
        · obtain rfl : q = 10 := by omega
          have he : l.take 10 = l := List.take_of_length_le (by rw [HLL.out]; omega)
          rw [he]
          go_wp2
          go_ret
          exact ⟨rfl, HBW2.out.trans (HBR.out.mono (Nat.le_trans hz6 hzz))⟩

end Go.Proofs.Qxb6500666aGreatDoor
