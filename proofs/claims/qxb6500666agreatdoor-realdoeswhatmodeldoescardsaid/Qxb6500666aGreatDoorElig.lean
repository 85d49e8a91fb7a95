/- eligible and held, walked. (Made by tools/mk_elig.py.) -/
import Derived.Test.Qxb6500666aGreatDoorAssess
import Derived.Test.Qxb6500666aGreatDoorSortZ
namespace Go.Proofs.Qxb6500666aGreatDoor
open Go.RowKit

structure Low.Times (L : Low) : Prop where
  s : ∀ x ∈ L.sm.ss, (0 ≤ x.collected ∧ x.collected ≤ 157785119) ∧ 0 ≤ x.received ∧ x.received ≤ 157785119
  r : ∀ x ∈ L.sm.rs, 0 ≤ x.tested ∧ x.tested ≤ 157785119
  v : L.pr.ver.length ≤ 1000000
def smp0 : Smp := ⟨0, 0, 0, 0, 0, 0, 0, false⟩
theorem smpGetV_get (o : Option Smp) : smpGetV o = .tuple #[.agg (smpCs (o.getD smp0)), .bool o.isSome] := by cases o <;> rfl
theorem smpGet_mem {T : Sm} {id : Int} {s : Smp} (h : smpGet T id = some s) : s ∈ T.ss := by
  unfold smpGet at h
  split at h
  · cases h
  · exact List.mem_of_getElem? h
def rowOkB (r : Row) : Bool := r.sample != 0 && r.analyte != 0 && r.version != 0 && r.subject != 0 && r.site != 0 && r.visit != 0 && r.proto != 0 && r.kit != 0 && decide (1 ≤ r.cls) && decide (r.cls ≤ 3) && decide (0 ≤ r.collected) && decide (r.collected ≤ r.received) && decide (r.received ≤ r.tested) && decide (r.tested ≤ 157785119)
theorem rowOkB_iff (r : Row) : rowOkB r = true ↔ RowOk r := by
  simp only [rowOkB, RowOk, IdsOk, TimesOk, Bool.and_eq_true, bne_iff_ne, decide_eq_true_eq]
  constructor
  · rintro ⟨⟨⟨⟨⟨⟨⟨⟨⟨⟨⟨⟨⟨a, b⟩, c⟩, d⟩, e⟩, f⟩, g⟩, h⟩, i⟩, j⟩, k⟩, l⟩, m⟩, n⟩
    exact ⟨⟨a, b, c, d, e, f, g, h⟩, ⟨i, j⟩, k, l, m, n⟩
  · rintro ⟨⟨a, b, c, d, e, f, g, h⟩, ⟨i, j⟩, k, l, m, n⟩
    exact ⟨⟨⟨⟨⟨⟨⟨⟨⟨⟨⟨⟨⟨a, b⟩, c⟩, d⟩, e⟩, f⟩, g⟩, h⟩, i⟩, j⟩, k⟩, l⟩, m⟩, n⟩

def eligGo (L : Low) : List Res → List Row → Option (List Row)
  | [], acc => some acc
  | r :: rs, acc => match smpGet L.sm r.sample with
    | none => none
    | some s => if holdsOf L s r != 0 then eligGo L rs acc else if rowOkB (rowOf L s r) then eligGo L rs (acc ++ [rowOf L s r]) else none
def eligR (L : Low) : Option (List Row) := (eligGo L L.sm.rs []).map (sortL rowLt)
def heldGo (L : Low) : List Res → List HeldR → Option (List HeldR)
  | [], acc => some acc
  | r :: rs, acc => match smpGet L.sm r.sample with
    | none => none
    | some s => if holdsOf L s r != 0 then heldGo L rs (acc ++ [⟨r.sample, r.analyte, holdsOf L s r⟩]) else heldGo L rs acc
def heldRs (L : Low) : Option (List HeldR) := (heldGo L L.sm.rs []).map (sortL heldLt)

def OwnRes {α : Type} (w w' : World) (t : TypeId) (size : Nat) (f : α → Array Value) (e : Ending) (c : Int) : Option (List α) → Prop
  | none => e = .returned (.tuple #[.slice none 0 0, errV c]) ∧ Below w.heap.size w w'
  | some l => ∃ v, e = .returned (.tuple #[v, .nilIface]) ∧ OwnR w' w.heap.size t size f v l ∧ Below w.heap.size w w'
theorem own_none {α : Type} {w w' : World} {t : TypeId} {size : Nat} {f : α → Array Value} {c : Int} {R : Option (List α)} (HE : Hid (R = none)) (hb : Below w.heap.size w w') (hc : c ≠ 0) : OwnRes w w' t size f (.returned (.tuple #[.slice none 0 0, .iface 63 (.int .u8 c)])) c R := by
  rw [HE.out]
  exact ⟨by rw [errV, if_neg hc], hb⟩

structure ElB (wr W : World) (r : Res) (rs : Array Value) : Prop where
  box : W.heap[wr.heap.size]? = some (.cells rs 92 (0, 0))
  hrs : rs = resCs r
  below : Below wr.heap.size wr W
theorem ElB.next {wr W W' : World} {r : Res} {rs : Array Value} (h : ElB wr W r rs) (hb : Below W.heap.size W W') : ElB wr W' r rs := by
  have := h.below.size
  exact ⟨(hb.block _ (blk_lt h.box)).trans h.box, h.hrs, h.below.trans (hb.mono this)⟩
theorem ElB.facts {wr W : World} {r : Res} {rs : Array Value} (h : ElB wr W r rs) : W.cell? ⟨wr.heap.size, 0, none⟩ = some (.int .u32 r.sample) ∧ W.cell? ⟨wr.heap.size, 1, none⟩ = some (.int .u32 r.analyte) ∧ rng W wr.heap.size 0 6 = some rs ∧ wr.heap.size < W.heap.size := by
  obtain ⟨h1, h2, h3⟩ := h
  subst h2
  refine ⟨?_, ?_, rng_whole h1, blk_lt h1⟩
  all_goals (rw [World.cell?, h1]; rfl)

theorem Tryz.info101_z : (Tryz.prog.info? 101).map (fun i => (i.zero, i.size, i.bytes)) = some (some (.agg #[.int .u32 0, .int .u32 0, .int .u16 0]), 3, 12) := by kernel_rfl
def bdHeldS (a b c : Value) : Sem Value := Instr.build 101 #[(0, a), (1, b), (2, c)]
theorem exec_bdHeld {ρ : Operand → Value} {dst a b c ty pos after guard} : execOp ρ { dst, op := .build 101 #[(0, a), (1, b), (2, c)], type := ty, pos, after, guard } = (do pure (.value (← bdHeldS (ρ a) (ρ b) (ρ c)))) := by simp [execOp, bdHeldS]
theorem run_bdHeld (w : World) (a b c : Int) : (bdHeldS (.int .u32 a) (.int .u32 b) (.int .u16 c)).run Tryz.prog w = .ok (.agg (heldCs ⟨a, b, c⟩)) w := by kernel_rfl
theorem run_bsHeld (w : World) (h : HeldR) : (bsS 73 (.agg (heldCs h))).run Tryz.prog w = .ok (.slice (some ⟨w.heap.size, 0, none⟩) 1 1) (w.alloc (.cells (heldCs h) 101)) := by kernel_rfl
theorem exec_bsHeld {ρ : Operand → Value} {dst x ty pos after guard} : execOp ρ { dst, op := .buildSlice 73 1 #[(0, x)], type := ty, pos, after, guard } = (do pure (.value (← bsS 73 (ρ x)))) := by simp [execOp, bsS]

attribute [local go_sem] ext_const Ext.cell Ext.frozen Ext.rng Ext.whole
attribute [local go_sem ↓] exec_ldPrS exec_ldKtS exec_ldSmS exec_ldRow exec_stRow exec_ldRes exec_stRes exec_ldSmp exec_stSmp exec_bsRow exec_bdHeld exec_bsHeld
attribute [local go_sem] run_ldPrS run_ldKtS run_ldSmS run_ldRow run_stRow run_ldRes run_stRes run_ldSmp run_stSmp run_bsRow run_bdHeld run_bsHeld rowCs_size rowCs_ones rowCs_all heldCs_size smpCs_size smpCs_ones resCs_size resCs_ones whole_alloc_lt whole_alloc_at whole_drew setRow_alloc_at setRow_alloc_lt rng_alloc_lt rng_alloc_at rng_drew rng_drewN



set_option maxRecDepth 100000 in
set_option maxHeartbeats 4000000 in
theorem eligible_calls (w : World) (LB o : Nat) (ok : Nat → Prop) (x : LV) (L : Low) (hL : LBlk w LB o x) (hlow : LowAt w ok x L) (hl : L.Small) (ht : L.Times) :
    Calls Tryz.prog 223 #[.pointer (some ⟨LB, o, none⟩)] w fun e w' => OwnRes w w' 109 13 rowCs e 28 (eligR L) := by
  obtain ⟨R, hR⟩ : ∃ R, R = eligGo L L.sm.rs [] := ⟨_, rfl⟩
  have HX : Hid (eligR L = R.map (sortL rowLt)) := by rw [hR]; exact rfl
  rw [HX.out]
  have HR : Hid (R = eligGo L (L.sm.rs.drop 0) []) := hR
  clear hR HX
  have HLB := hide hL
  have HLOW := hide hlow
  have hLl := hL.lt
  obtain ⟨p0, p1, p2, p3, k, s1, s2, s3⟩ := x
  obtain ⟨a, cap, b, off, hs2, hll, hm, hr, ha, hc⟩ := hlow.sm.b.lt
  simp only at hs2
  subst hs2
  obtain ⟨n, hn⟩ : ∃ n, n = L.sm.rs.length := ⟨_, rfl⟩
  have Hn : Hid (n = L.sm.rs.length) := hn
  have hnl : n ≤ 1000000 := by rw [hn]; exact hl.sm.b
  rw [← hn] at hll hr ha
  rw [← hn] at HLB HLOW
  have hi := run_indexAt_arr (P := Tryz.prog) (n := n) (cap := cap) Tryz.underlying37 Tryz.size92 (fun h => (ha h).1)
  have HB : Hid (0 < n → b < w.heap.size) := fun h => (ha h).2.2
  have HC := hide hc
  have g6 : w.cell? ⟨LB, o + 6, none⟩ = some (.slice a n cap) := by
    have := (rng_cell HLB.out.sm).2 1 (by decide)
    simpa using this
  clear ha hc hn hm hL hlow hll
  go_enter Tryz.func223, Tryz.ntmps223
  go_upto_region 3 with fail

  have HW := hide (Below.refl w.heap.size w)
  have HO0 := hide (OwnR.nil w w.heap.size 109 13 rowCs)
  go_loopg [4, 17] n (fun g v j wr => ∃ (q : Nat) (acc : List Row), q ≤ n ∧ g = n - q ∧ j = .int .i64 q ∧ acc.length ≤ q ∧ Hid (Below w.heap.size w wr) ∧ Hid (OwnR wr w.heap.size 109 13 rowCs v acc) ∧ Hid (R = eligGo L (L.sm.rs.drop q) acc))
  case atStart => exact ⟨0, [], by omega, by omega, rfl, by simp, HW, HO0, HR⟩
  clear HR HW HO0 g6
  case round =>
    obtain ⟨q, acc, hq, rfl, rfl, hal, HBR, HOW, HRQ⟩ := hrel
    have hsr := HBR.out.size
    by_cases hlt : q < n
    · have h1 : q < L.sm.rs.length := by rw [← Hn.out]; exact hlt
      have hbb := HB.out (by omega)
      have hrg := HC.out q h1
      rw [← rng_of_block (HBR.out.block b hbb)] at hrg
      have hbr : b < wr.heap.size := by omega
      have HT : Hid (0 ≤ (L.sm.rs[q]).tested ∧ (L.sm.rs[q]).tested ≤ 157785119) := ht.r _ (List.getElem_mem h1)
      have HS : Hid (R = eligGo L (L.sm.rs[q] :: L.sm.rs.drop (q + 1)) acc) := HRQ.out.trans (by rw [List.drop_eq_getElem_cons h1])
      generalize L.sm.rs[q] = r at *
      obtain ⟨rz, hrz⟩ : ∃ rz, rz = resCs r := ⟨_, rfl⟩
      have hz1 : ones rz 6 = true := by rw [hrz]; rfl
      have hz2 : rz.size = 6 := by rw [hrz]; rfl
      rw [← hrz] at hrg
      have HRZ := hide hrz
      clear HRQ hrz
      go_upto_region 5 with fail
      have HE0 : Hid (ElB wr (wr.alloc (.cells rz 92)) r rz) := ⟨heap_alloc_at _ _, HRZ.out, (Below.refl _ _).alloc (Nat.le_refl _) _⟩
      clear hrg hbr
      generalize (World.alloc wr _) = W1 at *
      obtain ⟨c0, -, c2, c3⟩ := HE0.out.facts
      have hb1 : Below w.heap.size w W1 := HBR.out.trans (HE0.out.below.mono hsr)
      have HB1 := hide hb1
      have HLW := hide (HLOW.out.below hb1)
      have HBW : Hid (LBlk W1 LB o ⟨p0, p1, p2, p3, k, s1, .slice a n cap, s3⟩) := HLB.out.below hb1 hLl
      obtain ⟨g0, g4, g5, hLw⟩ := HBW.out
      simp only at g0 g4 g5
      clear hb1
      obtain ⟨sd, B1⟩ : ∃ v, v = (smpGet L.sm r.sample).getD smp0 := ⟨_, rfl⟩
      obtain ⟨fd, B2⟩ : ∃ v, v = (smpGet L.sm r.sample).isSome := ⟨_, rfl⟩
      have HB1s := hide B1
      have HB2s := hide B2
      clear B1 B2
      go_cut [7, 8] (fun p v V => ∃ K, p = .pointer (some ⟨K, 0, none⟩) ∧ v = .bool fd ∧ V.heap[K]? = some (.cells (smpCs sd) 94 (0, 0)) ∧ Below W1.heap.size W1 V)
      case first =>
        as_aux_lemma =>
          have hov : ∀ x : Smp, ones (smpCs x) 8 = true := fun _ => rfl
          refine wp_region_mixT (W1.heap.size) [3, 5] (by kernel_rfl) ?_
          refine mixT_slots [0, 1, 2, 4] (fuel := 9) rfl (by kernel_rfl) (by kernel_rfl) (fun d _ _ _ _ h => by cases d <;> exact h) ?_
          simp only [opersAt, List.getElem?_toArray, List.getElem?_cons_zero, List.getElem?_cons_succ]
          repeat (go_big_quiet_step (fail))
          refine wpQuiet_nil ?_
          refine mixT_reads [3, 5] (fuel := 7) rfl (by kernel_rfl) (by decide) (by kernel_rfl) (fun d _ _ _ _ h => by cases d <;> exact h) (ext_drew _ _) ?_
          simp only [opersAt, List.getElem?_toArray, List.getElem?_cons_zero, List.getElem?_cons_succ]
          repeat (go_big_quiet_step (fail))
          refine wpQuiet_nil ?_
          refine mixT_two (k := 6) (k' := 10) (by kernel_rfl) rfl rfl ?_ ?_
          · go_wp2_with (go_at_call 28; refine (smpGet_calls _ ok _ _ _ L.sm r.sample (HLW.out.sm.below (Below.refl _ _).drew)).mono ?_; rintro e w2 ⟨rfl, hb1⟩; rw [smpGetV_get, ← HB1s.out, ← HB2s.out])
            have hbw : Below W1.heap.size W1 w2 := (Below.refl _ _).drew.trans hb1
            refine ⟨Or.inr (by intros; exact ⟨⟨_, hbw⟩, rfl⟩), ?_⟩
            have hzz := hbw.size
            refine mixT_slots [7, 8, 9] (fuel := 3) rfl (by kernel_rfl) (by kernel_rfl) (fun d _ _ _ _ h => by cases d <;> exact h) ?_
            simp only [opersAt, List.getElem?_toArray, List.getElem?_cons_zero, List.getElem?_cons_succ]
            repeat (go_big_quiet_step (fail))
            refine wpQuiet_nil ?_
            refine mixT_one (k := 10) (by kernel_rfl) rfl ?_
            go_wp2
            refine ⟨Or.inr (by intros; exact ⟨⟨_, hbw.alloc hzz _⟩, rfl⟩), ?_⟩
            refine mixT_one (k := 11) (by kernel_rfl) rfl ?_
            go_wp2
            refine ⟨Or.inl (by kernel_rfl), ?_⟩
            refine mixT_one (k := 12) (by kernel_rfl) rfl ?_
            go_wp2
            refine ⟨Or.inr (fun h => h), ?_⟩
            refine mixT_nil (by kernel_rfl) ?_
            go_wp2
            go_meet
            case rel => exact ⟨_, rfl, rfl, heap_alloc_at _ _, hbw.alloc hzz _⟩
          · go_wp2
            have hb0 : Below W1.heap.size W1 (W1.drew.alloc (.cells (smpCs smp0) 94)) := (Below.refl _ _).drew.alloc (Nat.le_refl _) _
            refine ⟨Or.inr (by intros; exact ⟨⟨_, hb0⟩, rfl⟩), ?_⟩
            refine mixT_one (k := 6) (by kernel_rfl) rfl ?_
            go_wp2_with (go_at_call 28; refine (smpGet_calls _ ok _ _ _ L.sm r.sample (HLW.out.sm.below hb0)).mono ?_; rintro e w2 ⟨rfl, hb1⟩; rw [smpGetV_get, ← HB1s.out, ← HB2s.out])
            have hbw : Below W1.heap.size W1 w2 := hb0.trans (hb1.mono hb0.size)
            refine ⟨Or.inr (by intros; exact ⟨⟨_, hbw⟩, rfl⟩), ?_⟩
            have hgb : w2.heap[W1.heap.size]? = some (.cells (smpCs smp0) 94 (0, 0)) := (hb1.block _ (by simp)).trans (heap_alloc_at _ _)
            have hwg : whole w2 W1.heap.size 8 = true := whole_blk hgb
            have hgl := blk_lt hgb
            refine mixT_slots [7, 8, 9] (fuel := 2) rfl (by kernel_rfl) (by kernel_rfl) (fun d _ _ _ _ h => by cases d <;> exact h) ?_
            simp only [opersAt, List.getElem?_toArray, List.getElem?_cons_zero, List.getElem?_cons_succ]
            repeat (go_big_quiet_step (fail))
            refine wpQuiet_nil ?_
            refine mixT_one (k := 11) (by kernel_rfl) rfl ?_
            go_wp2
            refine ⟨Or.inl (by kernel_rfl), ?_⟩
            refine mixT_one (k := 12) (by kernel_rfl) rfl ?_
            go_wp2
            refine ⟨Or.inr (fun h => h), ?_⟩
            refine mixT_nil (by kernel_rfl) ?_
            go_wp2
            go_meet
            case rel => exact ⟨_, rfl, rfl, heap_setRow_at hgb, hbw.trans (below_setRow' _ _ (Nat.le_refl _))⟩
      case rest =>
        as_aux_lemma =>
          obtain ⟨K, rfl, rfl, hkb, hbw⟩ := hcut
          have HE1 := hide (HE0.out.next hbw)
          have HB3 : Hid (Below w.heap.size w wc) := HB1.out.trans (hbw.mono HB1.out.size)
          have hkr : rng wc K 0 8 = some (smpCs sd) := rng_whole hkb
          have hkl := blk_lt hkb
          clear hkb hbw c0 c2 c3 g0 g4 g5 hLw HLW HBW HE0 HB1
          obtain ⟨c0, c1, c2, c3⟩ := HE1.out.facts
          generalize wc = W2 at *
          cases hfd : fd with
          | false =>
            have HE : Hid (R = none) := HS.out.trans (by
              have := HB2s.out
              rw [hfd] at this
              simp only [eligGo]
              cases hg : smpGet L.sm r.sample with
              | none => rfl
              | some s => rw [hg] at this; cases this)
            subst hfd
            go_wp2
            go_ret2
            rw [HE.out]
            exact own_none rfl HB3.out (by decide)
          | true =>
            have HG : Hid (smpGet L.sm r.sample = some sd) := by
              have h2 := HB2s.out
              have h3 := HB1s.out
              rw [hfd] at h2
              cases hg : smpGet L.sm r.sample with
              | none => rw [hg] at h2; cases h2
              | some s => rw [hg] at h3; exact congrArg some h3.symm
            subst hfd
            have hts := ht.s _ (smpGet_mem HG.out)
            have HAS0 := hide (fun (W : World) (hL : LBlk W LB o ⟨p0, p1, p2, p3, k, s1, .slice a n cap, s3⟩) (hlow : LowAt W ok ⟨p0, p1, p2, p3, k, s1, .slice a n cap, s3⟩ L) => assess_calls W LB o ok _ L sd r hL hlow hts.1 hts.2 HT.out ht.v)
            have HAS : Hid (∀ W : World, LBlk W LB o ⟨p0, p1, p2, p3, k, s1, .slice a n cap, s3⟩ → LowAt W ok ⟨p0, p1, p2, p3, k, s1, .slice a n cap, s3⟩ L → Calls Tryz.prog 221 #[.pointer (some ⟨LB, o, none⟩), .agg (smpCs sd), .agg rz] W fun e w' => e = .returned (.tuple #[.agg (rowCs (rowOf L sd r)), .int .u16 (holdsOf L sd r)]) ∧ Below W.heap.size W w') := by rw [HRZ.out]; exact HAS0.out
            clear HAS0
            obtain ⟨hv, hhv⟩ : ∃ h, h = holdsOf L sd r := ⟨_, rfl⟩
            obtain ⟨rw, hrw⟩ : ∃ h, h = rowOf L sd r := ⟨_, rfl⟩
            rw [← hhv, ← hrw] at HAS
            have HS2 : Hid (R = _) := HS.out.trans (show eligGo L (r :: L.sm.rs.drop (q + 1)) acc = _ by simp only [eligGo]; rw [HG.out])
            simp only at HS2
            rw [← hhv, ← hrw] at HS2
            clear hhv hrw hts HS
            go_upto_region 9 with (go_at_call 221; refine (HAS.out _ (HLB.out.below HB3.out hLl) (HLOW.out.below HB3.out)).mono ?_; rintro e w3 ⟨rfl, hb3⟩)
            have HB4 : Hid (Below w.heap.size w w3) := HB3.out.trans (hb3.mono HB3.out.size)
            have HE2 := hide (HE1.out.next hb3)
            have hs4 := HB4.out.size
            clear c0 c1 c2 c3 hkr hkl
            obtain ⟨c0, c1, c2, c3⟩ := HE2.out.facts
            have HOW2 := hide (HOW.out.below (HE2.out.below) (Nat.le_refl _))
            clear hb3 HE1 HB3 HOW
            cases h0 : (hv != 0) with
            | true =>
              have HN : Hid (R = eligGo L (L.sm.rs.drop (q + 1)) acc) := HS2.out.trans (by rw [h0]; rfl)
              go_wp2
              go_roundg (n - (q + 1))
              case measure => omega
              case rel => exact ⟨q + 1, acc, by omega, rfl, by go_num, by omega, HB4.out.alloc hs4 _, HOW2.out.below ((Below.refl _ _).alloc (Nat.le_refl _) _) (Nat.le_refl _), HN⟩
            | false =>
              have hB5 : Hid (Below w.heap.size w (w3.alloc (.cells (rowCs rw) 109))) := HB4.out.alloc hs4 _
              have hO5 := hide (HOW2.out.below ((Below.refl w3.heap.size w3).alloc (Nat.le_refl _) (.cells (rowCs rw) 109)) (Nat.le_refl _))
              have d0 : rng (w3.alloc (.cells (rowCs rw) 109)) w3.heap.size 0 13 = some (rowCs rw) := rng_whole (heap_alloc_at _ _)
              have hs5 := hB5.out.size
              have hl5 : w3.heap.size < (w3.alloc (.cells (rowCs rw) 109)).heap.size := by simp
              clear c0 c1 c2 c3
              have hx0 := h0
              go_upto_region 10 with fail
              generalize (World.alloc w3 _) = W5 at *
              cases h1 : rowOkB rw with
              | false =>
                have HE : Hid (R = none) := HS2.out.trans (by rw [hx0, h1]; rfl)
                go_wp2_with (go_at_call 111; refine (validRow_calls _ _ _ (rowOkB_iff rw)).mono ?_; rintro e w6 ⟨rfl, hb6⟩; rw [h1])
                go_ret2
                rw [HE.out]
                exact own_none rfl (hB5.out.trans (hb6.mono hs5)) (by decide)
              | true =>
                have HN : Hid (R = eligGo L (L.sm.rs.drop (q + 1)) (acc ++ [rw])) := HS2.out.trans (by rw [hx0, h1]; rfl)
                go_upto_region 12 with (go_at_call 111; refine (validRow_calls _ _ _ (rowOkB_iff rw)).mono ?_; rintro e w6 ⟨rfl, hb6⟩; rw [h1])
                have e0 : rng w6 w3.heap.size 0 13 = some (rowCs rw) := (rng_of_block (hb6.block _ hl5) _ _).trans d0
                have hO6 := hide (hO5.out.below hb6 (Nat.le_refl _))
                have hB6 : Hid (Below w.heap.size w w6) := hB5.out.trans (hb6.mono hs5)
                have hs6 := hB6.out.size
                have hl6 : w3.heap.size < w6.heap.size := Nat.lt_of_lt_of_le hl5 hb6.size
                clear hb6 d0 hO5 hB5
                go_wp2_with (at_builtin; refine wpList_app1 (α := Row) rfl _ _ 150 rfl w.heap.size 109 rowCs Tryz.underlying150 Tryz.info109 rfl (by decide) rowCs_size rowCs_one _ acc rfl (OwnR.below hO6.out ((Below.refl _ _).alloc (Nat.le_refl _) _) (Nat.le_refl _)) _ rfl rw (rng_whole (heap_alloc_at _ _)) (by omega) (by unfold maxLen; omega) (by simp only [World.size_alloc]; omega) ?_; intro v9 w9 hown9 hsame9 hbel9 hat9)
                go_roundg (n - (q + 1))
                case measure => omega
                case rel => exact ⟨q + 1, _, by omega, rfl, by go_num, by simp; omega, (hB6.out.alloc hs6 _).trans hbel9, hown9, HN⟩
    · have HE : Hid (R = some acc) := HRQ.out.trans (by rw [List.drop_of_length_le (by rw [← Hn.out]; omega)]; rfl)
      have hqn : q = n := by omega
      obtain ⟨va, vn, vc, hv⟩ := HOW.out.form3
      subst hv
      go_wp2_with (go_at_call 253; refine (sortRows_calls _ w.heap.size _ _ _ acc HOW.out hsr (by omega)).mono ?_; rintro e w5 ⟨rfl, ho5, -, hb5⟩)
      go_ret2
      rw [HE.out]
      exact ⟨_, rfl, ho5, HBR.out.trans hb5⟩

set_option maxRecDepth 100000 in
set_option maxHeartbeats 4000000 in
theorem held_calls (w : World) (LB o : Nat) (ok : Nat → Prop) (x : LV) (L : Low) (hL : LBlk w LB o x) (hlow : LowAt w ok x L) (hl : L.Small) (ht : L.Times) :
    Calls Tryz.prog 176 #[.pointer (some ⟨LB, o, none⟩)] w fun e w' => OwnRes w w' 101 3 heldCs e 28 (heldRs L) := by
  obtain ⟨R, hR⟩ : ∃ R, R = heldGo L L.sm.rs [] := ⟨_, rfl⟩
  have HX : Hid (heldRs L = R.map (sortL heldLt)) := by rw [hR]; exact rfl
  rw [HX.out]
  have HR : Hid (R = heldGo L (L.sm.rs.drop 0) []) := hR
  clear hR HX
  have HLB := hide hL
  have HLOW := hide hlow
  have hLl := hL.lt
  obtain ⟨p0, p1, p2, p3, k, s1, s2, s3⟩ := x
  obtain ⟨a, cap, b, off, hs2, hll, hm, hr, ha, hc⟩ := hlow.sm.b.lt
  simp only at hs2
  subst hs2
  obtain ⟨n, hn⟩ : ∃ n, n = L.sm.rs.length := ⟨_, rfl⟩
  have Hn : Hid (n = L.sm.rs.length) := hn
  have hnl : n ≤ 1000000 := by rw [hn]; exact hl.sm.b
  rw [← hn] at hll hr ha
  rw [← hn] at HLB HLOW
  have hi := run_indexAt_arr (P := Tryz.prog) (n := n) (cap := cap) Tryz.underlying37 Tryz.size92 (fun h => (ha h).1)
  have HB : Hid (0 < n → b < w.heap.size) := fun h => (ha h).2.2
  have HC := hide hc
  have g6 : w.cell? ⟨LB, o + 6, none⟩ = some (.slice a n cap) := by
    have := (rng_cell HLB.out.sm).2 1 (by decide)
    simpa using this
  clear ha hc hn hm hL hlow hll
  go_enter Tryz.func176, Tryz.ntmps176
  go_upto_region 3 with fail

  have HW := hide (Below.refl w.heap.size w)
  have HO0 := hide (OwnR.nil w w.heap.size 101 3 heldCs)
  go_loopg [4, 17] n (fun g v j wr => ∃ (q : Nat) (acc : List HeldR), q ≤ n ∧ g = n - q ∧ j = .int .i64 q ∧ acc.length ≤ q ∧ Hid (Below w.heap.size w wr) ∧ Hid (OwnR wr w.heap.size 101 3 heldCs v acc) ∧ Hid (R = heldGo L (L.sm.rs.drop q) acc))
  case atStart => exact ⟨0, [], by omega, by omega, rfl, by simp, HW, HO0, HR⟩
  clear HR HW HO0 g6
  case round =>
    obtain ⟨q, acc, hq, rfl, rfl, hal, HBR, HOW, HRQ⟩ := hrel
    have hsr := HBR.out.size
    by_cases hlt : q < n
    · have h1 : q < L.sm.rs.length := by rw [← Hn.out]; exact hlt
      have hbb := HB.out (by omega)
      have hrg := HC.out q h1
      rw [← rng_of_block (HBR.out.block b hbb)] at hrg
      have hbr : b < wr.heap.size := by omega
      have HT : Hid (0 ≤ (L.sm.rs[q]).tested ∧ (L.sm.rs[q]).tested ≤ 157785119) := ht.r _ (List.getElem_mem h1)
      have HS : Hid (R = heldGo L (L.sm.rs[q] :: L.sm.rs.drop (q + 1)) acc) := HRQ.out.trans (by rw [List.drop_eq_getElem_cons h1])
      generalize L.sm.rs[q] = r at *
      obtain ⟨rz, hrz⟩ : ∃ rz, rz = resCs r := ⟨_, rfl⟩
      have hz1 : ones rz 6 = true := by rw [hrz]; rfl
      have hz2 : rz.size = 6 := by rw [hrz]; rfl
      rw [← hrz] at hrg
      have HRZ := hide hrz
      clear HRQ hrz
      go_upto_region 5 with fail
      have HE0 : Hid (ElB wr (wr.alloc (.cells rz 92)) r rz) := ⟨heap_alloc_at _ _, HRZ.out, (Below.refl _ _).alloc (Nat.le_refl _) _⟩
      clear hrg hbr
      generalize (World.alloc wr _) = W1 at *
      obtain ⟨c0, -, c2, c3⟩ := HE0.out.facts
      have hb1 : Below w.heap.size w W1 := HBR.out.trans (HE0.out.below.mono hsr)
      have HB1 := hide hb1
      have HLW := hide (HLOW.out.below hb1)
      have HBW : Hid (LBlk W1 LB o ⟨p0, p1, p2, p3, k, s1, .slice a n cap, s3⟩) := HLB.out.below hb1 hLl
      obtain ⟨g0, g4, g5, hLw⟩ := HBW.out
      simp only at g0 g4 g5
      clear hb1
      obtain ⟨sd, B1⟩ : ∃ v, v = (smpGet L.sm r.sample).getD smp0 := ⟨_, rfl⟩
      obtain ⟨fd, B2⟩ : ∃ v, v = (smpGet L.sm r.sample).isSome := ⟨_, rfl⟩
      have HB1s := hide B1
      have HB2s := hide B2
      clear B1 B2
      go_cut [7, 8] (fun p v V => ∃ K, p = .pointer (some ⟨K, 0, none⟩) ∧ v = .bool fd ∧ V.heap[K]? = some (.cells (smpCs sd) 94 (0, 0)) ∧ Below W1.heap.size W1 V)
      case first =>
        as_aux_lemma =>
          have hov : ∀ x : Smp, ones (smpCs x) 8 = true := fun _ => rfl
          refine wp_region_mixT (W1.heap.size) [3, 5] (by kernel_rfl) ?_
          refine mixT_slots [0, 1, 2, 4] (fuel := 9) rfl (by kernel_rfl) (by kernel_rfl) (fun d _ _ _ _ h => by cases d <;> exact h) ?_
          simp only [opersAt, List.getElem?_toArray, List.getElem?_cons_zero, List.getElem?_cons_succ]
          repeat (go_big_quiet_step (fail))
          refine wpQuiet_nil ?_
          refine mixT_reads [3, 5] (fuel := 7) rfl (by kernel_rfl) (by decide) (by kernel_rfl) (fun d _ _ _ _ h => by cases d <;> exact h) (ext_drew _ _) ?_
          simp only [opersAt, List.getElem?_toArray, List.getElem?_cons_zero, List.getElem?_cons_succ]
          repeat (go_big_quiet_step (fail))
          refine wpQuiet_nil ?_
          refine mixT_two (k := 6) (k' := 10) (by kernel_rfl) rfl rfl ?_ ?_
          · go_wp2_with (go_at_call 28; refine (smpGet_calls _ ok _ _ _ L.sm r.sample (HLW.out.sm.below (Below.refl _ _).drew)).mono ?_; rintro e w2 ⟨rfl, hb1⟩; rw [smpGetV_get, ← HB1s.out, ← HB2s.out])
            have hbw : Below W1.heap.size W1 w2 := (Below.refl _ _).drew.trans hb1
            refine ⟨Or.inr (by intros; exact ⟨⟨_, hbw⟩, rfl⟩), ?_⟩
            have hzz := hbw.size
            refine mixT_slots [7, 8, 9] (fuel := 3) rfl (by kernel_rfl) (by kernel_rfl) (fun d _ _ _ _ h => by cases d <;> exact h) ?_
            simp only [opersAt, List.getElem?_toArray, List.getElem?_cons_zero, List.getElem?_cons_succ]
            repeat (go_big_quiet_step (fail))
            refine wpQuiet_nil ?_
            refine mixT_one (k := 10) (by kernel_rfl) rfl ?_
            go_wp2
            refine ⟨Or.inr (by intros; exact ⟨⟨_, hbw.alloc hzz _⟩, rfl⟩), ?_⟩
            refine mixT_one (k := 11) (by kernel_rfl) rfl ?_
            go_wp2
            refine ⟨Or.inl (by kernel_rfl), ?_⟩
            refine mixT_one (k := 12) (by kernel_rfl) rfl ?_
            go_wp2
            refine ⟨Or.inr (fun h => h), ?_⟩
            refine mixT_nil (by kernel_rfl) ?_
            go_wp2
            go_meet
            case rel => exact ⟨_, rfl, rfl, heap_alloc_at _ _, hbw.alloc hzz _⟩
          · go_wp2
            have hb0 : Below W1.heap.size W1 (W1.drew.alloc (.cells (smpCs smp0) 94)) := (Below.refl _ _).drew.alloc (Nat.le_refl _) _
            refine ⟨Or.inr (by intros; exact ⟨⟨_, hb0⟩, rfl⟩), ?_⟩
            refine mixT_one (k := 6) (by kernel_rfl) rfl ?_
            go_wp2_with (go_at_call 28; refine (smpGet_calls _ ok _ _ _ L.sm r.sample (HLW.out.sm.below hb0)).mono ?_; rintro e w2 ⟨rfl, hb1⟩; rw [smpGetV_get, ← HB1s.out, ← HB2s.out])
            have hbw : Below W1.heap.size W1 w2 := hb0.trans (hb1.mono hb0.size)
            refine ⟨Or.inr (by intros; exact ⟨⟨_, hbw⟩, rfl⟩), ?_⟩
            have hgb : w2.heap[W1.heap.size]? = some (.cells (smpCs smp0) 94 (0, 0)) := (hb1.block _ (by simp)).trans (heap_alloc_at _ _)
            have hwg : whole w2 W1.heap.size 8 = true := whole_blk hgb
            have hgl := blk_lt hgb
            refine mixT_slots [7, 8, 9] (fuel := 2) rfl (by kernel_rfl) (by kernel_rfl) (fun d _ _ _ _ h => by cases d <;> exact h) ?_
            simp only [opersAt, List.getElem?_toArray, List.getElem?_cons_zero, List.getElem?_cons_succ]
            repeat (go_big_quiet_step (fail))
            refine wpQuiet_nil ?_
            refine mixT_one (k := 11) (by kernel_rfl) rfl ?_
            go_wp2
            refine ⟨Or.inl (by kernel_rfl), ?_⟩
            refine mixT_one (k := 12) (by kernel_rfl) rfl ?_
            go_wp2
            refine ⟨Or.inr (fun h => h), ?_⟩
            refine mixT_nil (by kernel_rfl) ?_
            go_wp2
            go_meet
            case rel => exact ⟨_, rfl, rfl, heap_setRow_at hgb, hbw.trans (below_setRow' _ _ (Nat.le_refl _))⟩
      case rest =>
        as_aux_lemma =>
          obtain ⟨K, rfl, rfl, hkb, hbw⟩ := hcut
          have HE1 := hide (HE0.out.next hbw)
          have HB3 : Hid (Below w.heap.size w wc) := HB1.out.trans (hbw.mono HB1.out.size)
          have hkr : rng wc K 0 8 = some (smpCs sd) := rng_whole hkb
          have hkl := blk_lt hkb
          clear hkb hbw c0 c2 c3 g0 g4 g5 hLw HLW HBW HE0 HB1
          obtain ⟨c0, c1, c2, c3⟩ := HE1.out.facts
          generalize wc = W2 at *
          cases hfd : fd with
          | false =>
            have HE : Hid (R = none) := HS.out.trans (by
              have := HB2s.out
              rw [hfd] at this
              simp only [heldGo]
              cases hg : smpGet L.sm r.sample with
              | none => rfl
              | some s => rw [hg] at this; cases this)
            subst hfd
            go_wp2
            go_ret2
            rw [HE.out]
            exact own_none rfl HB3.out (by decide)
          | true =>
            have HG : Hid (smpGet L.sm r.sample = some sd) := by
              have h2 := HB2s.out
              have h3 := HB1s.out
              rw [hfd] at h2
              cases hg : smpGet L.sm r.sample with
              | none => rw [hg] at h2; cases h2
              | some s => rw [hg] at h3; exact congrArg some h3.symm
            subst hfd
            have hts := ht.s _ (smpGet_mem HG.out)
            have HAS0 := hide (fun (W : World) (hL : LBlk W LB o ⟨p0, p1, p2, p3, k, s1, .slice a n cap, s3⟩) (hlow : LowAt W ok ⟨p0, p1, p2, p3, k, s1, .slice a n cap, s3⟩ L) => assess_calls W LB o ok _ L sd r hL hlow hts.1 hts.2 HT.out ht.v)
            have HAS : Hid (∀ W : World, LBlk W LB o ⟨p0, p1, p2, p3, k, s1, .slice a n cap, s3⟩ → LowAt W ok ⟨p0, p1, p2, p3, k, s1, .slice a n cap, s3⟩ L → Calls Tryz.prog 221 #[.pointer (some ⟨LB, o, none⟩), .agg (smpCs sd), .agg rz] W fun e w' => e = .returned (.tuple #[.agg (rowCs (rowOf L sd r)), .int .u16 (holdsOf L sd r)]) ∧ Below W.heap.size W w') := by rw [HRZ.out]; exact HAS0.out
            clear HAS0
            obtain ⟨hv, hhv⟩ : ∃ h, h = holdsOf L sd r := ⟨_, rfl⟩
            obtain ⟨rw, hrw⟩ : ∃ h, h = rowOf L sd r := ⟨_, rfl⟩
            rw [← hhv, ← hrw] at HAS
            have HS2 : Hid (R = _) := HS.out.trans (show heldGo L (r :: L.sm.rs.drop (q + 1)) acc = _ by simp only [heldGo]; rw [HG.out])
            simp only at HS2
            rw [← hhv] at HS2
            clear hhv hrw hts HS
            go_upto_region 9 with (go_at_call 221; refine (HAS.out _ (HLB.out.below HB3.out hLl) (HLOW.out.below HB3.out)).mono ?_; rintro e w3 ⟨rfl, hb3⟩)
            have HB4 : Hid (Below w.heap.size w w3) := HB3.out.trans (hb3.mono HB3.out.size)
            have HE2 := hide (HE1.out.next hb3)
            have hs4 := HB4.out.size
            clear c0 c1 c2 c3 hkr hkl
            obtain ⟨c0, c1, c2, c3⟩ := HE2.out.facts
            have HOW2 := hide (HOW.out.below (HE2.out.below) (Nat.le_refl _))
            clear hb3 HE1 HB3 HOW
            cases h0 : (hv != 0) with
            | false =>
              have HN : Hid (R = heldGo L (L.sm.rs.drop (q + 1)) acc) := HS2.out.trans (by rw [h0]; rfl)
              go_wp2
              go_roundg (n - (q + 1))
              case measure => omega
              case rel => exact ⟨q + 1, acc, by omega, rfl, by go_num, by omega, HB4.out.alloc hs4 _, HOW2.out.below ((Below.refl _ _).alloc (Nat.le_refl _) _) (Nat.le_refl _), HN⟩
            | true =>
              have HN : Hid (R = heldGo L (L.sm.rs.drop (q + 1)) (acc ++ [⟨r.sample, r.analyte, hv⟩])) := HS2.out.trans (by rw [h0]; rfl)
              have hB5 : Hid (Below w.heap.size w (w3.alloc (.cells (rowCs rw) 109))) := HB4.out.alloc hs4 _
              have hO5 := hide (HOW2.out.below ((Below.refl w3.heap.size w3).alloc (Nat.le_refl _) (.cells (rowCs rw) 109)) (Nat.le_refl _))
              have d0 : (w3.alloc (.cells (rowCs rw) 109)).cell? ⟨wr.heap.size, 0, none⟩ = some (.int .u32 r.sample) := by simp only [World.cell?] at c0 ⊢; rw [Below.heap_alloc _ _ _ c3]; exact c0
              have d1 : (w3.alloc (.cells (rowCs rw) 109)).cell? ⟨wr.heap.size, 1, none⟩ = some (.int .u32 r.analyte) := by simp only [World.cell?] at c1 ⊢; rw [Below.heap_alloc _ _ _ c3]; exact c1
              have hs5 := hB5.out.size
              have hl5 : wr.heap.size < (w3.alloc (.cells (rowCs rw) 109)).heap.size := Nat.lt_of_lt_of_le c3 (by simp)
              generalize (World.alloc w3 _) = W5 at *
              go_wp2_with (at_builtin; refine wpList_app1 (α := HeldR) rfl _ _ 73 rfl w.heap.size 101 heldCs Tryz.underlying73 Tryz.info101_z rfl (by decide) heldCs_size heldCs_one _ acc rfl (OwnR.below hO5.out ((Below.refl _ _).alloc (Nat.le_refl _) _) (Nat.le_refl _)) _ rfl ⟨r.sample, r.analyte, hv⟩ (rng_whole (heap_alloc_at _ _)) (by omega) (by unfold maxLen; omega) (by simp only [World.size_alloc]; omega) ?_; intro v9 w9 hown9 hsame9 hbel9 hat9)
              go_roundg (n - (q + 1))
              case measure => omega
              case rel => exact ⟨q + 1, _, by omega, rfl, by go_num, by simp; omega, (hB5.out.alloc hs5 _).trans hbel9, hown9, HN⟩
    · have HE : Hid (R = some acc) := HRQ.out.trans (by rw [List.drop_of_length_le (by rw [← Hn.out]; omega)]; rfl)
      have hqn : q = n := by omega
      obtain ⟨va, vn, vc, hv⟩ := HOW.out.form3
      subst hv
      go_wp2_with (go_at_call 228; refine (sortHeld_calls _ w.heap.size _ _ _ acc HOW.out hsr (by omega)).mono ?_; rintro e w5 ⟨rfl, ho5, -, hb5⟩)
      go_ret2
      rw [HE.out]
      exact ⟨_, rfl, ho5, HBR.out.trans hb5⟩

end Go.Proofs.Qxb6500666aGreatDoor
