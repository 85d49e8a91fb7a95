/- assess, walked. (Made by tools/mk_assess.py.) -/
import Derived.Test.Qxb6500666aGreatDoorUserWalk
import Derived.Deep.DeepCutAuto
namespace Go.Proofs.Qxb6500666aGreatDoor
open Go.RowKit

def addH (b : Bool) (k h : Int) : Int := if b then bits .or .u16 h k else h
def sbjGet (l : List Sbj) (id : Int) : Option Sbj := l.find? fun x => x.id == id
def siteV (l : List Sbj) (id : Int) : Int := ((sbjGet l id).map (·.site)).getD 0
theorem siteOf_get (l : List Sbj) (id : Int) : findV (fun x : Sbj => (x.id == id)) (fun x => .tuple #[.int .u32 x.site, .bool true]) (.tuple #[.int .u32 0, .bool false]) l = .tuple #[.int .u32 (siteV l id), .bool (sbjGet l id).isSome] := by
  unfold siteV sbjGet
  induction l with
  | nil => rfl
  | cons x r ih =>
    simp only [findV, List.find?_cons]
    by_cases h : (x.id == id) = true
    · simp [h]
    · simpa [h] using ih
def kitD (l : List Kit) (id : Int) : Kit := (kitGet l id).getD ⟨0, 0⟩
theorem kitV_get2 (l : List Kit) (id : Int) : kitV l id = .tuple #[.agg (kitCs (kitD l id)), .bool (kitGet l id).isSome] := by
  rw [kitV_get]
  unfold kitD
  cases kitGet l id <;> rfl
def limGet (l : List Ana) (id c : Int) : Option Int := (l.find? fun x : Ana => (x.id == id) && (decide (1 ≤ c) && decide (c ≤ 3))).map fun x => anaLim x c
theorem limV_get (l : List Ana) (id c : Int) : limV l id c = .tuple #[.int .i64 ((limGet l id c).getD 0), .bool (limGet l id c).isSome] := by
  unfold limV limGet
  induction l with
  | nil => rfl
  | cons x r ih =>
    simp only [findV, List.find?_cons]
    by_cases h : ((x.id == id) && (decide (1 ≤ c) && decide (c ≤ 3))) = true
    · simp [h]
    · simpa [h] using ih
def unsettledB (l : List Qry) (sid : Int) : Bool := l.any fun x => (x.sample == sid) && (x.stage != 3)

def holdsOf (L : Low) (s : Smp) (r : Res) : Int :=
  let h1 := addH r.wd 1 0
  let h2 := addH (! (sbjGet L.pr.sub s.subject).isSome) 2 h1
  let h3 := addH (! (kitGet L.kit s.kit).isSome || ! (sbjGet L.pr.sub s.subject).isSome || (kitD L.kit s.kit).site != siteV L.pr.sub s.subject) 4 h2
  let h4 := addH (! hasVisit L.pr.ver (inForce L.pr.ver s.collected) s.visit) 8 h3
  let h5 := addH (decide (s.received < s.collected) || decide (r.tested < s.received)) 32 h4
  let h6 := match limGet L.pr.ana r.analyte s.cls with
    | none => bits .or .u16 h5 16
    | some m => addH (decide (m < r.tested - s.collected)) 128 (addH (decide (m < s.received - s.collected)) 64 h5)
  let h7 := addH s.exc 256 h6
  addH (unsettledB L.sm.qs s.id) 512 h7
def rowOf (L : Low) (s : Smp) (r : Res) : Row :=
  ⟨s.id, r.analyte, r.version, r.value, s.subject, siteV L.pr.sub s.subject, s.visit, inForce L.pr.ver s.collected, s.kit, s.cls, s.collected, s.received, r.tested⟩

def bdRowS (a b c d e f g h i j k l m : Value) : Sem Value := Instr.build 109 #[(0, a), (1, b), (2, c), (3, d), (4, e), (5, f), (6, g), (7, h), (8, i), (9, j), (10, k), (11, l), (12, m)]
theorem exec_bdRow {ρ : Operand → Value} {dst a b c d e f g h i j k l m ty pos after guard} : execOp ρ { dst, op := .build 109 #[(0, a), (1, b), (2, c), (3, d), (4, e), (5, f), (6, g), (7, h), (8, i), (9, j), (10, k), (11, l), (12, m)], type := ty, pos, after, guard } = (do pure (.value (← bdRowS (ρ a) (ρ b) (ρ c) (ρ d) (ρ e) (ρ f) (ρ g) (ρ h) (ρ i) (ρ j) (ρ k) (ρ l) (ρ m)))) := by simp [execOp, bdRowS]
theorem run_bdRow (w : World) (a b c d e f g h i j k l m : Int) : (bdRowS (.int .u32 a) (.int .u32 b) (.int .u32 c) (.int .i64 d) (.int .u32 e) (.int .u32 f) (.int .u32 g) (.int .u32 h) (.int .u32 i) (.int .u8 j) (.int .i64 k) (.int .i64 l) (.int .i64 m)).run Tryz.prog w = .ok (.agg (rowCs ⟨a, b, c, d, e, f, g, h, i, j, k, l, m⟩)) w := by kernel_rfl

/-- The layers beneath in their block. -/
structure LBlk (w : World) (LB o : Nat) (x : LV) : Prop where
  pr : rng w LB o 4 = some #[x.p0, x.p1, x.p2, x.p3]
  kit : rng w LB (o + 4) 1 = some #[x.k]
  sm : rng w LB (o + 5) 3 = some #[x.s1, x.s2, x.s3]
  lt : LB < w.heap.size
theorem LBlk.mono {w w' : World} {LB o : Nat} {x : LV} (h : LBlk w LB o x) (hb : w'.heap[LB]? = w.heap[LB]?) (hl : w.heap.size ≤ w'.heap.size) : LBlk w' LB o x :=
  ⟨(rng_of_block hb _ _).trans h.pr, (rng_of_block hb _ _).trans h.kit, (rng_of_block hb _ _).trans h.sm, Nat.lt_of_lt_of_le h.lt hl⟩
theorem LBlk.below {w w' : World} {LB o k : Nat} {x : LV} (h : LBlk w LB o x) (hb : Below k w w') (hk : LB < k) : LBlk w' LB o x := h.mono (hb.block _ hk) hb.size
theorem LBlk.of {w : World} {LB : Nat} {x : LV} {t : TypeId} {f : Nat × Nat} (h : w.heap[LB]? = some (.cells (lvCs x) t f)) : LBlk w LB 0 x := by
  refine ⟨?_, ?_, ?_, blk_lt h⟩ <;> (unfold Qxb6500666aGreatDoor.rng; rw [h]; rfl)

structure AsB (w W : World) (s : Smp) (r : Res) : Prop where
  sm : W.heap[w.heap.size]? = some (.cells #[.int .u32 s.id, .int .u32 s.kit, .int .u32 s.subject, .int .u32 s.visit, .int .u8 s.cls, .int .i64 s.collected, .int .i64 s.received, .bool s.exc] 94 (0, 0))
  rs : W.heap[w.heap.size + 1]? = some (.cells #[.int .u32 r.sample, .int .u32 r.analyte, .int .u32 r.version, .int .i64 r.value, .int .i64 r.tested, .bool r.wd] 92 (0, 0))
  row : W.heap[w.heap.size + 1 + 1]? = some (.cells #[.int .u32 0, .int .u32 0, .int .u32 0, .int .i64 0, .int .u32 0, .int .u32 0, .int .u32 0, .int .u32 0, .int .u32 0, .int .u8 0, .int .i64 0, .int .i64 0, .int .i64 0] 109 (0, 0))
  below : Below w.heap.size w W
  size : w.heap.size + 3 ≤ W.heap.size
theorem AsB.next {w W W' : World} {s : Smp} {r : Res} (h : AsB w W s r) (hb : Below W.heap.size W W') : AsB w W' s r := by
  have := h.size
  have := hb.size
  exact ⟨(hb.block _ (by omega)).trans h.sm, (hb.block _ (by omega)).trans h.rs, (hb.block _ (by omega)).trans h.row, h.below.trans (hb.mono (by omega)), by omega⟩
theorem AsB.facts {w W : World} {s : Smp} {r : Res} (h : AsB w W s r) : (W.cell? ⟨w.heap.size, 0, none⟩ = some (.int .u32 s.id) ∧ W.cell? ⟨w.heap.size, 1, none⟩ = some (.int .u32 s.kit) ∧ W.cell? ⟨w.heap.size, 2, none⟩ = some (.int .u32 s.subject) ∧ W.cell? ⟨w.heap.size, 3, none⟩ = some (.int .u32 s.visit) ∧ W.cell? ⟨w.heap.size, 4, none⟩ = some (.int .u8 s.cls) ∧ W.cell? ⟨w.heap.size, 5, none⟩ = some (.int .i64 s.collected) ∧ W.cell? ⟨w.heap.size, 6, none⟩ = some (.int .i64 s.received) ∧ W.cell? ⟨w.heap.size, 7, none⟩ = some (.bool s.exc)) ∧
    (W.cell? ⟨w.heap.size + 1, 1, none⟩ = some (.int .u32 r.analyte) ∧ W.cell? ⟨w.heap.size + 1, 2, none⟩ = some (.int .u32 r.version) ∧ W.cell? ⟨w.heap.size + 1, 3, none⟩ = some (.int .i64 r.value) ∧ W.cell? ⟨w.heap.size + 1, 4, none⟩ = some (.int .i64 r.tested) ∧ W.cell? ⟨w.heap.size + 1, 5, none⟩ = some (.bool r.wd)) ∧ w.heap.size < W.heap.size ∧ w.heap.size + 1 < W.heap.size ∧ w.heap.size + 1 + 1 < W.heap.size ∧ whole W (w.heap.size + 1 + 1) 13 = true := by
  have := h.size
  refine ⟨⟨?_, ?_, ?_, ?_, ?_, ?_, ?_, ?_⟩, ⟨?_, ?_, ?_, ?_, ?_⟩, by omega, by omega, by omega, whole_blk h.row⟩
  all_goals first | (rw [World.cell?, h.sm]; rfl) | (rw [World.cell?, h.rs]; rfl)
attribute [local go_sem] ext_const Ext.cell Ext.frozen Ext.rng Ext.whole
attribute [local go_sem ↓] exec_ldPrS exec_ldKtS exec_ldSmS exec_stKit exec_ldRow exec_stRow exec_bdRow
attribute [local go_sem] run_ldPrS run_ldKtS run_ldSmS run_stKit run_ldRow run_stRow run_bdRow rowCs_size rowCs_ones rowCs_all whole_alloc_lt whole_alloc_at whole_drew setRow_alloc_at setRow_alloc_lt rng_alloc_lt rng_alloc_at rng_drew rng_drewN

set_option maxRecDepth 100000 in
set_option maxHeartbeats 4000000 in
theorem assess_calls (w : World) (LB o : Nat) (ok : Nat → Prop) (x : LV) (L : Low) (s : Smp) (r : Res) (hL : LBlk w LB o x) (hlow : LowAt w ok x L) (hc : 0 ≤ s.collected ∧ s.collected ≤ 157785119) (hrc : 0 ≤ s.received ∧ s.received ≤ 157785119) (ht : 0 ≤ r.tested ∧ r.tested ≤ 157785119) (hver : L.pr.ver.length ≤ 1000000) :
    Calls Tryz.prog 221 #[.pointer (some ⟨LB, o, none⟩), .agg #[.int .u32 s.id, .int .u32 s.kit, .int .u32 s.subject, .int .u32 s.visit, .int .u8 s.cls, .int .i64 s.collected, .int .i64 s.received, .bool s.exc], .agg #[.int .u32 r.sample, .int .u32 r.analyte, .int .u32 r.version, .int .i64 r.value, .int .i64 r.tested, .bool r.wd]] w fun e w' => e = .returned (.tuple #[.agg (rowCs (rowOf L s r)), .int .u16 (holdsOf L s r)]) ∧ Below w.heap.size w w' := by
  obtain ⟨R, hR⟩ : ∃ R, R = holdsOf L s r := ⟨_, rfl⟩
  rw [← hR]
  obtain ⟨b1, B1⟩ : ∃ b, b = r.wd := ⟨_, rfl⟩
  obtain ⟨site, B2⟩ : ∃ v, v = siteV L.pr.sub s.subject := ⟨_, rfl⟩
  obtain ⟨enr, B3⟩ : ∃ v, v = (sbjGet L.pr.sub s.subject).isSome := ⟨_, rfl⟩
  obtain ⟨kd, B4⟩ : ∃ v, v = kitD L.kit s.kit := ⟨_, rfl⟩
  obtain ⟨bt, B5⟩ : ∃ v, v = (kitGet L.kit s.kit).isSome := ⟨_, rfl⟩
  obtain ⟨b3, B6⟩ : ∃ v, v = (! bt || ! enr || kd.site != site) := ⟨_, rfl⟩
  obtain ⟨ver, B7⟩ : ∃ v, v = inForce L.pr.ver s.collected := ⟨_, rfl⟩
  obtain ⟨hv, B8⟩ : ∃ v, v = hasVisit L.pr.ver ver s.visit := ⟨_, rfl⟩
  obtain ⟨b5, B9⟩ : ∃ v, v = (decide (s.received < s.collected) || decide (r.tested < s.received)) := ⟨_, rfl⟩
  obtain ⟨lm, B10⟩ : ∃ v, v = (limGet L.pr.ana r.analyte s.cls).getD 0 := ⟨_, rfl⟩
  obtain ⟨df, B11⟩ : ∃ v, v = (limGet L.pr.ana r.analyte s.cls).isSome := ⟨_, rfl⟩
  obtain ⟨b7, B12⟩ : ∃ v, v = s.exc := ⟨_, rfl⟩
  obtain ⟨us, B13⟩ : ∃ v, v = unsettledB L.sm.qs s.id := ⟨_, rfl⟩
  obtain ⟨h1, E1⟩ : ∃ h, h = addH b1 1 0 := ⟨_, rfl⟩
  obtain ⟨h2, E2⟩ : ∃ h, h = addH (! enr) 2 h1 := ⟨_, rfl⟩
  obtain ⟨h3, E3⟩ : ∃ h, h = addH b3 4 h2 := ⟨_, rfl⟩
  obtain ⟨h4, E4⟩ : ∃ h, h = addH (! hv) 8 h3 := ⟨_, rfl⟩
  obtain ⟨h5, E5⟩ : ∃ h, h = addH b5 32 h4 := ⟨_, rfl⟩
  obtain ⟨h6, E6⟩ : ∃ h, h = if df then addH (decide (lm < r.tested - s.collected)) 128 (addH (decide (lm < s.received - s.collected)) 64 h5) else bits .or .u16 h5 16 := ⟨_, rfl⟩
  obtain ⟨h7, E7⟩ : ∃ h, h = addH b7 256 h6 := ⟨_, rfl⟩
  have HR : Hid (R = addH us 512 h7) := hR.trans (by
    subst E7 E6 E5 E4 E3 E2 E1 B13 B12 B11 B10 B9 B8 B7 B6 B5 B4 B3 B2 B1
    simp only [holdsOf]
    cases limGet L.pr.ana r.analyte s.cls <;> rfl)
  have HB1 := hide B1
  have HB2 := hide B2
  have HB3 := hide B3
  have HB4 := hide B4
  have HB5 := hide B5
  have HB6 := hide B6
  have HB7 := hide B7
  have HB8 := hide B8
  have HB9 := hide B9
  have HB10 := hide B10
  have HB11 := hide B11
  have HB12 := hide B12
  have HB13 := hide B13
  have HE1 := hide E1
  have HE2 := hide E2
  have HE3 := hide E3
  have HE4 := hide E4
  have HE5 := hide E5
  have HE6 := hide E6
  have HE7 := hide E7
  have hver0 : 0 ≤ ver ∧ ver ≤ 4294967295 := by rw [B7]; have := inForceN_le L.pr.ver s.collected L.pr.ver.length; unfold inForce; omega
  have HLB := hide hL
  have HLOW := hide hlow
  have hLl := hL.lt
  clear hR E1 E2 E3 E4 E5 E6 E7 B1 B2 B3 B4 B5 B6 B7 B8 B9 B10 B11 B12 B13 hL hlow
  obtain ⟨p0, p1, p2, p3, k, s1, s2, s3⟩ := x
  go_enter Tryz.func221, Tryz.ntmps221
  go_upto_region 2 with fail
  have hA : AsB w (((w.alloc (.cells #[.int .u32 s.id, .int .u32 s.kit, .int .u32 s.subject, .int .u32 s.visit, .int .u8 s.cls, .int .i64 s.collected, .int .i64 s.received, .bool s.exc] 94)).alloc (.cells #[.int .u32 r.sample, .int .u32 r.analyte, .int .u32 r.version, .int .i64 r.value, .int .i64 r.tested, .bool r.wd] 92)).alloc (.cells #[.int .u32 0, .int .u32 0, .int .u32 0, .int .i64 0, .int .u32 0, .int .u32 0, .int .u32 0, .int .u32 0, .int .u32 0, .int .u8 0, .int .i64 0, .int .i64 0, .int .i64 0] 109)) s r := by
    refine ⟨(Below.heap_alloc _ _ _ (by simp; omega)).trans ((Below.heap_alloc _ _ _ (by simp)).trans (heap_alloc_at _ _)), (Below.heap_alloc _ _ _ (by simp)).trans (box2 w _ _ _ _), ?_, (((Below.refl _ _).alloc (Nat.le_refl _) _).alloc (by simp) _).alloc (by simp; omega) _, by simp⟩
    have := heap_alloc_at ((w.alloc (.cells #[.int .u32 s.id, .int .u32 s.kit, .int .u32 s.subject, .int .u32 s.visit, .int .u8 s.cls, .int .i64 s.collected, .int .i64 s.received, .bool s.exc] 94)).alloc (.cells #[.int .u32 r.sample, .int .u32 r.analyte, .int .u32 r.version, .int .i64 r.value, .int .i64 r.tested, .bool r.wd] 92)) (.cells #[.int .u32 0, .int .u32 0, .int .u32 0, .int .i64 0, .int .u32 0, .int .u32 0, .int .u32 0, .int .u32 0, .int .u32 0, .int .u8 0, .int .i64 0, .int .i64 0, .int .i64 0] 109)
    simpa using this
  generalize (World.alloc (World.alloc (World.alloc w _) _) _) = W at *
  have HA := hide hA
  clear hA
  obtain ⟨⟨c0, c1, c2, c3, c4, c5, c6, c7⟩, ⟨r1, r2, r3, r4, r5⟩, l0, l1, l2, hwx⟩ := HA.out.facts
  rw [← HB12.out] at c7
  rw [← HB1.out] at r5
  go_upto_if 18 with fail
  go_cut [8] (fun x V => x = .int .u16 h1 ∧ W = V)
  case first =>
    as_aux_lemma =>
    cases b1 with
    | true =>
      have hE : h1 = bits .or .u16 0 1 := by rw [HE1.out]; rfl
      go_wp2
      go_meet
      case rel => exact ⟨by rw [hE], rfl⟩
    | false =>
      have hE : h1 = 0 := by rw [HE1.out]; rfl
      go_wp2
      go_meet
      case rel => exact ⟨by rw [hE], rfl⟩
  case rest =>
    as_aux_lemma =>
    obtain ⟨rfl, hcw⟩ := hcut
    subst hcw
    have HLW := hide (HLOW.out.below HA.out.below)
    have HBW : Hid (LBlk W LB o ⟨p0, p1, p2, p3, k, s1, s2, s3⟩) := HLB.out.below HA.out.below hLl
    obtain ⟨g0, g4, g5, hLw⟩ := HBW.out
    simp only at g0 g4 g5
    go_upto_region 4 with fail
    refine wp_region_mixT (W.heap.size) [3, 5] (by kernel_rfl) ?_
    refine mixT_slots [0, 1, 2, 4] (fuel := 8) rfl (by kernel_rfl) (by kernel_rfl) (fun d _ _ _ _ h => by cases d <;> exact h) ?_
    simp only [opersAt, List.getElem?_toArray, List.getElem?_cons_zero, List.getElem?_cons_succ]
    repeat (go_big_quiet_step (fail))
    refine wpQuiet_nil ?_
    refine mixT_reads [3, 5] (fuel := 6) rfl (by kernel_rfl) (by decide) (by kernel_rfl) (fun d _ _ _ _ h => by cases d <;> exact h) (ext_drew _ _) ?_
    simp only [opersAt, List.getElem?_toArray, List.getElem?_cons_zero, List.getElem?_cons_succ]
    repeat (go_big_quiet_step (fail))
    refine wpQuiet_nil ?_
    refine mixT_one (k := 6) (by kernel_rfl) rfl ?_
    go_wp2_with (go_at_call 96; refine (siteOf_calls _ ok _ _ _ _ L.pr.sub s.subject (HLW.out.pr.below (Below.refl _ _).drew).u).mono ?_; rintro e w1 ⟨rfl, hb1⟩; rw [siteOf_get, ← HB2.out, ← HB3.out])
    have hbw : Below W.heap.size W w1 := (Below.refl _ _).drew.trans hb1
    refine ⟨Or.inr (by intros; exact ⟨⟨_, hbw⟩, rfl⟩), ?_⟩
    clear hb1
    refine mixT_slots [7, 8, 9] (fuel := 2) rfl (by kernel_rfl) (by kernel_rfl) (fun d _ _ _ _ h => by cases d <;> exact h) ?_
    simp only [opersAt, List.getElem?_toArray, List.getElem?_cons_zero, List.getElem?_cons_succ]
    repeat (go_big_quiet_step (fail))
    refine wpQuiet_nil ?_
    refine mixT_one (k := 10) (by kernel_rfl) rfl ?_
    go_wp2
    refine ⟨Or.inr (fun h => h), ?_⟩
    refine mixT_one (k := 11) (by kernel_rfl) rfl ?_
    go_wp2
    refine ⟨Or.inr (fun h => h), ?_⟩
    refine mixT_nil (by kernel_rfl) ?_
    have HA2 := hide (HA.out.next hbw)
    clear c0 c1 c2 c3 c4 c5 c6 c7 r1 r2 r3 r4 r5 l0 l1 l2 hwx
    clear g0 g4 g5 hLw HLW HBW HA hbw
    have HA := HA2
    clear HA2
    obtain ⟨⟨c0, c1, c2, c3, c4, c5, c6, c7⟩, ⟨r1, r2, r3, r4, r5⟩, l0, l1, l2, hwx⟩ := HA.out.facts
    rw [← HB12.out] at c7
    rw [← HB1.out] at r5
    go_upto_if 32 with fail
    go_cut [8] (fun x V => x = .int .u16 h2 ∧ w1 = V)
    case first =>
      as_aux_lemma =>
      cases enr with
      | true =>
        have hE : h2 = h1 := by rw [HE2.out]; rfl
        go_wp2
        go_meet
        case rel => exact ⟨by rw [hE], rfl⟩
      | false =>
        have hE : h2 = bits .or .u16 h1 2 := by rw [HE2.out]; rfl
        go_wp2
        go_meet
        case rel => exact ⟨by rw [hE], rfl⟩
    case rest =>
      as_aux_lemma =>
      obtain ⟨rfl, hcw⟩ := hcut
      subst hcw
      have HLW := hide (HLOW.out.below HA.out.below)
      have HBW : Hid (LBlk w1 LB o ⟨p0, p1, p2, p3, k, s1, s2, s3⟩) := HLB.out.below HA.out.below hLl
      obtain ⟨g0, g4, g5, hLw⟩ := HBW.out
      simp only at g0 g4 g5
      go_upto_region 7 with fail
      go_cut [11, 12] (fun p b V => ∃ K, p = .pointer (some ⟨K, 0, none⟩) ∧ b = .bool bt ∧ V.heap[K]? = some (.cells (kitCs kd) 202 (0, 0)) ∧ Below w1.heap.size w1 V)
      case first =>
        as_aux_lemma =>
        have hov : ∀ x : Kit, ones (kitCs x) 2 = true := fun _ => rfl
        refine wp_region_mixT (w1.heap.size) [3, 5] (by kernel_rfl) ?_
        refine mixT_slots [0, 1, 2, 4] (fuel := 9) rfl (by kernel_rfl) (by kernel_rfl) (fun d _ _ _ _ h => by cases d <;> exact h) ?_
        simp only [opersAt, List.getElem?_toArray, List.getElem?_cons_zero, List.getElem?_cons_succ]
        repeat (go_big_quiet_step (fail))
        refine wpQuiet_nil ?_
        refine mixT_reads [3, 5] (fuel := 7) rfl (by kernel_rfl) (by decide) (by kernel_rfl) (fun d _ _ _ _ h => by cases d <;> exact h) (ext_drew _ _) ?_
        simp only [opersAt, List.getElem?_toArray, List.getElem?_cons_zero, List.getElem?_cons_succ]
        repeat (go_big_quiet_step (fail))
        refine wpQuiet_nil ?_
        refine mixT_two (k := 6) (k' := 10) (by kernel_rfl) rfl rfl ?_ ?_
        · go_wp2_with (go_at_call 97; refine (kitFind_calls _ ok _ L.kit s.kit (RArr.below HLW.out.kit (Below.refl _ _).drew)).mono ?_; rintro e w2 ⟨rfl, hb1⟩; rw [kitV_get2, ← HB4.out, ← HB5.out])
          have hbw : Below w1.heap.size w1 w2 := (Below.refl _ _).drew.trans hb1
          refine ⟨Or.inr (by intros; exact ⟨⟨_, hbw⟩, rfl⟩), ?_⟩
          have hzz := hbw.size
          refine mixT_slots [7, 8, 9] (fuel := 3) rfl (by kernel_rfl) (by kernel_rfl) (fun d _ _ _ _ h => by cases d <;> exact h) ?_
          simp only [opersAt, List.getElem?_toArray, List.getElem?_cons_zero, List.getElem?_cons_succ]
          repeat (go_big_quiet_step (fail))
          refine wpQuiet_nil ?_
          refine mixT_one (k := 10) (by kernel_rfl) rfl ?_
          go_wp2
          refine ⟨Or.inr (by intros; exact ⟨⟨_, hbw.alloc hzz _⟩, rfl⟩), ?_⟩
          refine mixT_one (k := 11) (by kernel_rfl) rfl ?_
          go_wp2
          refine ⟨Or.inl (by kernel_rfl), ?_⟩
          refine mixT_one (k := 12) (by kernel_rfl) rfl ?_
          go_wp2
          refine ⟨Or.inr (fun h => h), ?_⟩
          refine mixT_nil (by kernel_rfl) ?_
          go_wp2
          go_meet
          case rel => exact ⟨_, rfl, rfl, heap_alloc_at _ _, hbw.alloc hzz _⟩
        · go_wp2
          have hb0 : Below w1.heap.size w1 (w1.drew.alloc (.cells #[.int .u32 0, .int .u32 0] 202)) := (Below.refl _ _).drew.alloc (Nat.le_refl _) _
          refine ⟨Or.inr (by intros; exact ⟨⟨_, hb0⟩, rfl⟩), ?_⟩
          refine mixT_one (k := 6) (by kernel_rfl) rfl ?_
          go_wp2_with (go_at_call 97; refine (kitFind_calls _ ok _ L.kit s.kit (RArr.below HLW.out.kit hb0)).mono ?_; rintro e w2 ⟨rfl, hb1⟩; rw [kitV_get2, ← HB4.out, ← HB5.out])
          have hbw : Below w1.heap.size w1 w2 := hb0.trans (hb1.mono hb0.size)
          refine ⟨Or.inr (by intros; exact ⟨⟨_, hbw⟩, rfl⟩), ?_⟩
          have hgb : w2.heap[w1.heap.size]? = some (.cells #[.int .u32 0, .int .u32 0] 202 (0, 0)) := (hb1.block _ (by simp)).trans (heap_alloc_at _ _)
          have hwg : whole w2 w1.heap.size 2 = true := whole_blk hgb
          have hgl := blk_lt hgb
          refine mixT_slots [7, 8, 9] (fuel := 2) rfl (by kernel_rfl) (by kernel_rfl) (fun d _ _ _ _ h => by cases d <;> exact h) ?_
          simp only [opersAt, List.getElem?_toArray, List.getElem?_cons_zero, List.getElem?_cons_succ]
          repeat (go_big_quiet_step (fail))
          refine wpQuiet_nil ?_
          refine mixT_one (k := 11) (by kernel_rfl) rfl ?_
          go_wp2
          refine ⟨Or.inl (by kernel_rfl), ?_⟩
          refine mixT_one (k := 12) (by kernel_rfl) rfl ?_
          go_wp2
          refine ⟨Or.inr (fun h => h), ?_⟩
          refine mixT_nil (by kernel_rfl) ?_
          go_wp2
          go_meet
          case rel => exact ⟨_, rfl, rfl, heap_setRow_at hgb, hbw.trans (below_setRow' _ _ (Nat.le_refl _))⟩
      case rest =>
        as_aux_lemma =>
        obtain ⟨K, rfl, rfl, hkb, hbw⟩ := hcut
        have HA2 := hide (HA.out.next hbw)
        clear c0 c1 c2 c3 c4 c5 c6 c7 r1 r2 r3 r4 r5 l0 l1 l2 hwx
        clear g0 g4 g5 hLw HLW HBW HA hbw
        have HA := HA2
        clear HA2
        obtain ⟨⟨c0, c1, c2, c3, c4, c5, c6, c7⟩, ⟨r1, r2, r3, r4, r5⟩, l0, l1, l2, hwx⟩ := HA.out.facts
        rw [← HB12.out] at c7
        rw [← HB1.out] at r5
        obtain ⟨ki, ksi⟩ := kd
        obtain ⟨kk0, kk1, -, hkl⟩ := cell_two hkb
        generalize wc = W3 at *
        go_upto_region 8 with fail
        go_cut [56] (fun x V => x = .bool b3 ∧ W3 = V)
        case first =>
          as_aux_lemma =>
          cases bt with
          | false =>
            have hE : b3 = true := by rw [HB6.out]; rfl
            go_wp2
            go_meet
            case rel => exact ⟨by rw [hE], rfl⟩
          | true =>
            cases enr with
            | false =>
              have hE : b3 = true := by rw [HB6.out]; rfl
              go_wp2
              go_meet
              case rel => exact ⟨by rw [hE], rfl⟩
            | true =>
              have hE : b3 = (ksi != site) := by rw [HB6.out]; rfl
              go_wp2
              go_meet
              case rel => exact ⟨by rw [hE], rfl⟩
        case rest =>
          as_aux_lemma =>
          obtain ⟨rfl, hcw⟩ := hcut
          subst hcw
          clear kk0 kk1 hkl hkb
          go_upto_if 56 with fail
          go_cut [8] (fun x V => x = .int .u16 h3 ∧ W3 = V)
          case first =>
            as_aux_lemma =>
            cases b3 with
            | true =>
              have hE : h3 = bits .or .u16 h2 4 := by rw [HE3.out]; rfl
              go_wp2
              go_meet
              case rel => exact ⟨by rw [hE], rfl⟩
            | false =>
              have hE : h3 = h2 := by rw [HE3.out]; rfl
              go_wp2
              go_meet
              case rel => exact ⟨by rw [hE], rfl⟩
          case rest =>
            as_aux_lemma =>
            obtain ⟨rfl, hcw⟩ := hcut
            subst hcw
            have HLW := hide (HLOW.out.below HA.out.below)
            have HBW : Hid (LBlk W3 LB o ⟨p0, p1, p2, p3, k, s1, s2, s3⟩) := HLB.out.below HA.out.below hLl
            obtain ⟨g0, g4, g5, hLw⟩ := HBW.out
            simp only at g0 g4 g5
            go_upto_region 10 with fail
            refine wp_region_mixT (W3.heap.size) [3, 5] (by kernel_rfl) ?_
            refine mixT_slots [0, 1, 2, 4] (fuel := 4) rfl (by kernel_rfl) (by kernel_rfl) (fun d _ _ _ _ h => by cases d <;> exact h) ?_
            simp only [opersAt, List.getElem?_toArray, List.getElem?_cons_zero, List.getElem?_cons_succ]
            repeat (go_big_quiet_step (fail))
            refine wpQuiet_nil ?_
            refine mixT_reads [3, 5] (fuel := 2) rfl (by kernel_rfl) (by decide) (by kernel_rfl) (fun d _ _ _ _ h => by cases d <;> exact h) (ext_drew _ _) ?_
            simp only [opersAt, List.getElem?_toArray, List.getElem?_cons_zero, List.getElem?_cons_succ]
            repeat (go_big_quiet_step (fail))
            refine wpQuiet_nil ?_
            refine mixT_one (k := 6) (by kernel_rfl) rfl ?_
            go_wp2_with (go_at_call 100; refine (inForce_calls _ ok _ _ _ _ L.pr.ver s.collected (HLW.out.pr.below (Below.refl _ _).drew).v hver).mono ?_; rintro e w4 ⟨rfl, hb1⟩; rw [← HB7.out])
            have hbw : Below W3.heap.size W3 w4 := (Below.refl _ _).drew.trans hb1
            refine ⟨Or.inr (by intros; exact ⟨⟨_, hbw⟩, rfl⟩), ?_⟩
            clear hb1
            refine mixT_one (k := 7) (by kernel_rfl) rfl ?_
            go_wp2
            refine ⟨Or.inr (fun h => h), ?_⟩
            refine mixT_nil (by kernel_rfl) ?_
            have HA2 := hide (HA.out.next hbw)
            clear c0 c1 c2 c3 c4 c5 c6 c7 r1 r2 r3 r4 r5 l0 l1 l2 hwx
            clear g0 g4 g5 hLw HLW HBW HA hbw
            have HA := HA2
            clear HA2
            obtain ⟨⟨c0, c1, c2, c3, c4, c5, c6, c7⟩, ⟨r1, r2, r3, r4, r5⟩, l0, l1, l2, hwx⟩ := HA.out.facts
            rw [← HB12.out] at c7
            rw [← HB1.out] at r5
            have HLW := hide (HLOW.out.below HA.out.below)
            have HBW : Hid (LBlk w4 LB o ⟨p0, p1, p2, p3, k, s1, s2, s3⟩) := HLB.out.below HA.out.below hLl
            obtain ⟨g0, g4, g5, hLw⟩ := HBW.out
            simp only at g0 g4 g5
            go_upto_region 11 with fail
            refine wp_region_mixT (w4.heap.size) [3, 6] (by kernel_rfl) ?_
            refine mixT_slots [0, 1, 2, 4, 5] (fuel := 4) rfl (by kernel_rfl) (by kernel_rfl) (fun d _ _ _ _ h => by cases d <;> exact h) ?_
            simp only [opersAt, List.getElem?_toArray, List.getElem?_cons_zero, List.getElem?_cons_succ]
            repeat (go_big_quiet_step (fail))
            refine wpQuiet_nil ?_
            refine mixT_reads [3, 6] (fuel := 2) rfl (by kernel_rfl) (by decide) (by kernel_rfl) (fun d _ _ _ _ h => by cases d <;> exact h) (ext_drew _ _) ?_
            simp only [opersAt, List.getElem?_toArray, List.getElem?_cons_zero, List.getElem?_cons_succ]
            repeat (go_big_quiet_step (fail))
            refine wpQuiet_nil ?_
            refine mixT_one (k := 7) (by kernel_rfl) rfl ?_
            go_wp2_with (go_at_call 99; refine (hasVisit_calls _ ok _ _ _ _ L.pr.ver ver s.visit (HLW.out.pr.below (Below.refl _ _).drew).v hver hver0.1 hver0.2).mono ?_; rintro e w5 ⟨rfl, hb1⟩; rw [← HB8.out])
            have hbw : Below w4.heap.size w4 w5 := (Below.refl _ _).drew.trans hb1
            refine ⟨Or.inr (by intros; exact ⟨⟨_, hbw⟩, rfl⟩), ?_⟩
            clear hb1
            refine mixT_one (k := 8) (by kernel_rfl) rfl ?_
            go_wp2
            refine ⟨Or.inr (fun h => h), ?_⟩
            refine mixT_nil (by kernel_rfl) ?_
            have HA2 := hide (HA.out.next hbw)
            clear c0 c1 c2 c3 c4 c5 c6 c7 r1 r2 r3 r4 r5 l0 l1 l2 hwx
            clear g0 g4 g5 hLw HLW HBW HA hbw
            have HA := HA2
            clear HA2
            obtain ⟨⟨c0, c1, c2, c3, c4, c5, c6, c7⟩, ⟨r1, r2, r3, r4, r5⟩, l0, l1, l2, hwx⟩ := HA.out.facts
            rw [← HB12.out] at c7
            rw [← HB1.out] at r5
            go_upto_if 74 with fail
            go_cut [8] (fun x V => x = .int .u16 h4 ∧ w5 = V)
            case first =>
              as_aux_lemma =>
              cases hv with
              | true =>
                have hE : h4 = h3 := by rw [HE4.out]; rfl
                go_wp2
                go_meet
                case rel => exact ⟨by rw [hE], rfl⟩
              | false =>
                have hE : h4 = bits .or .u16 h3 8 := by rw [HE4.out]; rfl
                go_wp2
                go_meet
                case rel => exact ⟨by rw [hE], rfl⟩
            case rest =>
              as_aux_lemma =>
              obtain ⟨rfl, hcw⟩ := hcut
              subst hcw
              go_upto_region 13 with fail
              go_cut [88] (fun x V => x = .bool b5 ∧ w5 = V)
              case first =>
                as_aux_lemma =>
                cases t1 : decide (s.received < s.collected) with
                | true =>
                  have hE : b5 = true := by rw [HB9.out, t1]; rfl
                  go_wp2
                  go_meet
                  case rel => exact ⟨by rw [hE], rfl⟩
                | false =>
                  have hE : b5 = decide (r.tested < s.received) := by rw [HB9.out, t1]; rfl
                  go_wp2
                  go_meet
                  case rel => exact ⟨by rw [hE], rfl⟩
              case rest =>
                as_aux_lemma =>
                obtain ⟨rfl, hcw⟩ := hcut
                subst hcw
                go_upto_if 88 with fail
                go_cut [8] (fun x V => x = .int .u16 h5 ∧ w5 = V)
                case first =>
                  as_aux_lemma =>
                  cases b5 with
                  | true =>
                    have hE : h5 = bits .or .u16 h4 32 := by rw [HE5.out]; rfl
                    go_wp2
                    go_meet
                    case rel => exact ⟨by rw [hE], rfl⟩
                  | false =>
                    have hE : h5 = h4 := by rw [HE5.out]; rfl
                    go_wp2
                    go_meet
                    case rel => exact ⟨by rw [hE], rfl⟩
                case rest =>
                  as_aux_lemma =>
                  obtain ⟨rfl, hcw⟩ := hcut
                  subst hcw
                  have HLW := hide (HLOW.out.below HA.out.below)
                  have HBW : Hid (LBlk w5 LB o ⟨p0, p1, p2, p3, k, s1, s2, s3⟩) := HLB.out.below HA.out.below hLl
                  obtain ⟨g0, g4, g5, hLw⟩ := HBW.out
                  simp only at g0 g4 g5
                  go_upto_region 15 with fail
                  refine wp_region_mixT (w5.heap.size) [3, 5, 7] (by kernel_rfl) ?_
                  refine mixT_slots [0, 1, 2, 4, 6] (fuel := 9) rfl (by kernel_rfl) (by kernel_rfl) (fun d _ _ _ _ h => by cases d <;> exact h) ?_
                  simp only [opersAt, List.getElem?_toArray, List.getElem?_cons_zero, List.getElem?_cons_succ]
                  repeat (go_big_quiet_step (fail))
                  refine wpQuiet_nil ?_
                  refine mixT_reads [3, 5, 7] (fuel := 6) rfl (by kernel_rfl) (by decide) (by kernel_rfl) (fun d _ _ _ _ h => by cases d <;> exact h) (ext_drew _ _) ?_
                  simp only [opersAt, List.getElem?_toArray, List.getElem?_cons_zero, List.getElem?_cons_succ]
                  repeat (go_big_quiet_step (fail))
                  refine wpQuiet_nil ?_
                  refine mixT_one (k := 8) (by kernel_rfl) rfl ?_
                  go_wp2_with (go_at_call 98; refine (limit_calls _ ok _ _ _ _ L.pr.ana r.analyte s.cls (HLW.out.pr.below (Below.refl _ _).drew).a).mono ?_; rintro e w6 ⟨rfl, hb1⟩; rw [limV_get, ← HB10.out, ← HB11.out])
                  have hbw : Below w5.heap.size w5 w6 := (Below.refl _ _).drew.trans hb1
                  refine ⟨Or.inr (by intros; exact ⟨⟨_, hbw⟩, rfl⟩), ?_⟩
                  clear hb1
                  refine mixT_slots [9, 10, 11] (fuel := 2) rfl (by kernel_rfl) (by kernel_rfl) (fun d _ _ _ _ h => by cases d <;> exact h) ?_
                  simp only [opersAt, List.getElem?_toArray, List.getElem?_cons_zero, List.getElem?_cons_succ]
                  repeat (go_big_quiet_step (fail))
                  refine wpQuiet_nil ?_
                  refine mixT_one (k := 12) (by kernel_rfl) rfl ?_
                  go_wp2
                  refine ⟨Or.inr (fun h => h), ?_⟩
                  refine mixT_one (k := 13) (by kernel_rfl) rfl ?_
                  go_wp2
                  refine ⟨Or.inr (fun h => h), ?_⟩
                  refine mixT_nil (by kernel_rfl) ?_
                  have HA2 := hide (HA.out.next hbw)
                  clear c0 c1 c2 c3 c4 c5 c6 c7 r1 r2 r3 r4 r5 l0 l1 l2 hwx
                  clear g0 g4 g5 hLw HLW HBW HA hbw
                  have HA := HA2
                  clear HA2
                  obtain ⟨⟨c0, c1, c2, c3, c4, c5, c6, c7⟩, ⟨r1, r2, r3, r4, r5⟩, l0, l1, l2, hwx⟩ := HA.out.facts
                  rw [← HB12.out] at c7
                  rw [← HB1.out] at r5
                  go_upto_if 104 with fail
                  go_cut [8] (fun x V => x = .int .u16 h6 ∧ w6 = V)
                  case first =>
                    as_aux_lemma =>
                    cases df with
                    | false =>
                      have hE : h6 = bits .or .u16 h5 16 := by rw [HE6.out]; rfl
                      go_wp2
                      go_meet
                      case rel => exact ⟨by rw [hE], rfl⟩
                    | true =>
                      cases t1 : decide (lm < s.received - s.collected) with
                      | true =>
                        cases t2 : decide (lm < r.tested - s.collected) with
                        | true =>
                          have hE : h6 = bits .or .u16 (bits .or .u16 h5 64) 128 := by rw [HE6.out, t1, t2]; rfl
                          go_wp2
                          go_meet
                          case rel => exact ⟨by rw [hE], rfl⟩
                        | false =>
                          have hE : h6 = bits .or .u16 h5 64 := by rw [HE6.out, t1, t2]; rfl
                          go_wp2
                          go_meet
                          case rel => exact ⟨by rw [hE], rfl⟩
                      | false =>
                        cases t2 : decide (lm < r.tested - s.collected) with
                        | true =>
                          have hE : h6 = bits .or .u16 (h5) 128 := by rw [HE6.out, t1, t2]; rfl
                          go_wp2
                          go_meet
                          case rel => exact ⟨by rw [hE], rfl⟩
                        | false =>
                          have hE : h6 = h5 := by rw [HE6.out, t1, t2]; rfl
                          go_wp2
                          go_meet
                          case rel => exact ⟨by rw [hE], rfl⟩
                  case rest =>
                    as_aux_lemma =>
                    obtain ⟨rfl, hcw⟩ := hcut
                    subst hcw
                    go_upto_region 22 with fail
                    go_upto_if 126 with fail
                    go_cut [8] (fun x V => x = .int .u16 h7 ∧ w6 = V)
                    case first =>
                      as_aux_lemma =>
                      cases b7 with
                      | true =>
                        have hE : h7 = bits .or .u16 h6 256 := by rw [HE7.out]; rfl
                        go_wp2
                        go_meet
                        case rel => exact ⟨by rw [hE], rfl⟩
                      | false =>
                        have hE : h7 = h6 := by rw [HE7.out]; rfl
                        go_wp2
                        go_meet
                        case rel => exact ⟨by rw [hE], rfl⟩
                    case rest =>
                      as_aux_lemma =>
                      obtain ⟨rfl, hcw⟩ := hcut
                      subst hcw
                      have HLW := hide (HLOW.out.below HA.out.below)
                      have HBW : Hid (LBlk w6 LB o ⟨p0, p1, p2, p3, k, s1, s2, s3⟩) := HLB.out.below HA.out.below hLl
                      obtain ⟨g0, g4, g5, hLw⟩ := HBW.out
                      simp only at g0 g4 g5
                      go_upto_region 24 with fail
                      refine wp_region_mixT (w6.heap.size) [3, 5] (by kernel_rfl) ?_
                      refine mixT_slots [0, 1, 2, 4] (fuel := 3) rfl (by kernel_rfl) (by kernel_rfl) (fun d _ _ _ _ h => by cases d <;> exact h) ?_
                      simp only [opersAt, List.getElem?_toArray, List.getElem?_cons_zero, List.getElem?_cons_succ]
                      repeat (go_big_quiet_step (fail))
                      refine wpQuiet_nil ?_
                      refine mixT_reads [3, 5] (fuel := 1) rfl (by kernel_rfl) (by decide) (by kernel_rfl) (fun d _ _ _ _ h => by cases d <;> exact h) (ext_drew _ _) ?_
                      simp only [opersAt, List.getElem?_toArray, List.getElem?_cons_zero, List.getElem?_cons_succ]
                      repeat (go_big_quiet_step (fail))
                      refine wpQuiet_nil ?_
                      refine mixT_one (k := 6) (by kernel_rfl) rfl ?_
                      go_wp2_with (go_at_call 101; refine (unsettled_calls _ ok _ _ _ L.sm.qs s.id (HLW.out.sm.below (Below.refl _ _).drew).c).mono ?_; rintro e w7 ⟨rfl, hb1⟩; rw [findV_any, show (if L.sm.qs.any (fun x : Qry => (x.sample == s.id) && (x.stage != 3)) then Value.bool true else .bool false) = .bool us from by rw [HB13.out]; unfold unsettledB; cases L.sm.qs.any (fun x : Qry => (x.sample == s.id) && (x.stage != 3)) <;> rfl])
                      have hbw : Below w6.heap.size w6 w7 := (Below.refl _ _).drew.trans hb1
                      refine ⟨Or.inr (by intros; exact ⟨⟨_, hbw⟩, rfl⟩), ?_⟩
                      clear hb1
                      refine mixT_nil (by kernel_rfl) ?_
                      have HA2 := hide (HA.out.next hbw)
                      clear c0 c1 c2 c3 c4 c5 c6 c7 r1 r2 r3 r4 r5 l0 l1 l2 hwx
                      clear g0 g4 g5 hLw HLW HBW HA hbw
                      have HA := HA2
                      clear HA2
                      obtain ⟨⟨c0, c1, c2, c3, c4, c5, c6, c7⟩, ⟨r1, r2, r3, r4, r5⟩, l0, l1, l2, hwx⟩ := HA.out.facts
                      rw [← HB12.out] at c7
                      rw [← HB1.out] at r5
                      go_upto_if 135 with fail
                      go_cut [8] (fun x V => x = .int .u16 R ∧ w7 = V)
                      case first =>
                        as_aux_lemma =>
                        cases us with
                        | true =>
                          have hE : R = bits .or .u16 h7 512 := by rw [HR.out]; rfl
                          go_wp2
                          go_meet
                          case rel => exact ⟨by rw [hE], rfl⟩
                        | false =>
                          have hE : R = h7 := by rw [HR.out]; rfl
                          go_wp2
                          go_meet
                          case rel => exact ⟨by rw [hE], rfl⟩
                      case rest =>
                        as_aux_lemma =>
                        obtain ⟨rfl, hcw⟩ := hcut
                        subst hcw
                        have hrz : w7.heap[w.heap.size + 1 + 1]? = some (.cells #[.int .u32 0, .int .u32 0, .int .u32 0, .int .i64 0, .int .u32 0, .int .u32 0, .int .u32 0, .int .u32 0, .int .u32 0, .int .u8 0, .int .i64 0, .int .i64 0, .int .i64 0] 109 (0, 0)) := HA.out.row
                        have HRZ := hide hrz
                        have HBZ := hide HA.out.below
                        clear hrz HA HLOW HLB hc hrc ht
                        go_wp2
                        have hsx : w7.heap.size = (w7.setRow (w.heap.size + 1 + 1) (rowCs ⟨s.id, r.analyte, r.version, r.value, s.subject, site, s.visit, ver, s.kit, s.cls, s.collected, s.received, r.tested⟩)).heap.size := (by simp)
                        have hbx : Below w.heap.size w ((w7.setRow (w.heap.size + 1 + 1) (rowCs ⟨s.id, r.analyte, r.version, r.value, s.subject, site, s.visit, ver, s.kit, s.cls, s.collected, s.received, r.tested⟩)).alloc (.cells (rowCs ⟨s.id, r.analyte, r.version, r.value, s.subject, site, s.visit, ver, s.kit, s.cls, s.collected, s.received, r.tested⟩) 109)) := (HBZ.out.trans (below_setRow' _ _ (by omega))).alloc (by omega) _
                        have hhx := (Below.heap_alloc (w7.setRow (w.heap.size + 1 + 1) (rowCs ⟨s.id, r.analyte, r.version, r.value, s.subject, site, s.visit, ver, s.kit, s.cls, s.collected, s.received, r.tested⟩)) (.cells (rowCs ⟨s.id, r.analyte, r.version, r.value, s.subject, site, s.visit, ver, s.kit, s.cls, s.collected, s.received, r.tested⟩) 109) (w.heap.size + 1 + 1) (by omega)).trans (heap_setRow_at HRZ.out)
                        refine bodyPost_ret (results_cell_tmp Tryz.results221 _ _ (w.heap.size + 1 + 1) _ _ _ _ rfl hhx Tryz.underlying109 rfl (by kernel_rfl)) rfl ?_
                        exact ⟨by rw [HB2.out, HB7.out]; rfl, hbx⟩

end Go.Proofs.Qxb6500666aGreatDoor
