/- The samples' layer: Answer, Close, Reopen, Accession, Sample, Result, walked. -/
import Derived.Test.Qxb6500666aGreatDoorLowSmC
namespace Go.Proofs.Qxb6500666aGreatDoor
open Go.RowKit

theorem SmAt.apart {w W : World} {ok : Nat → Prop} {u1 u2 u3 : Value} {T : Sm} {r : Nat} (h : SmAt w ok u1 u2 u3 T) (hb : Below w.heap.size w W) (hr : w.heap.size ≤ r) : SmAt W (fun b => ok b ∧ b ≠ r) u1 u2 u3 T :=
  ⟨h.a.lt.mono (fun b hb' => hb.block b hb'.2) (fun b hb' => ⟨hb'.1, by have := hb'.2; omega⟩), h.b.lt.mono (fun b hb' => hb.block b hb'.2) (fun b hb' => ⟨hb'.1, by have := hb'.2; omega⟩), h.c.lt.mono (fun b hb' => hb.block b hb'.2) (fun b hb' => ⟨hb'.1, by have := hb'.2; omega⟩)⟩
theorem SmAt.join {w : World} {ok : Nat → Prop} {u1 u2 u3 : Value} {T : Sm} {r : Nat} {cs : Array Value} (h : SmAt w (fun b => ok b ∧ b ≠ r) u1 u2 u3 T) : SmAt (w.setRow r cs) ok u1 u2 u3 T :=
  ⟨h.a.mono (fun _ hb' => setRow_other _ _ _ _ hb'.2) (fun _ hb' => hb'.1), h.b.mono (fun _ hb' => setRow_other _ _ _ _ hb'.2) (fun _ hb' => hb'.1), h.c.mono (fun _ hb' => setRow_other _ _ _ _ hb'.2) (fun _ hb' => hb'.1)⟩

attribute [local go_sem] ext_const Ext.cell Ext.frozen Ext.rng Ext.whole
attribute [local go_sem ↓] exec_ldSmS exec_stSmS exec_bsSmp exec_bsRes exec_bsQry exec_ldSmp exec_stSmp exec_ldRes exec_stRes
attribute [local go_sem] run_ldSmS run_stSmS run_bsSmp run_bsRes run_bsQry run_ldSmp run_stSmp run_ldRes run_stRes whole_alloc_lt whole_alloc_at whole_drew setRow_alloc_at setRow_alloc_lt rng_alloc_lt rng_alloc_at rng_drew rng_drewN rng_setCell_other whole_setCell_other

set_option maxRecDepth 100000 in
set_option maxHeartbeats 1000000 in
theorem answerQ_calls (w : World) (ok : Nat → Prop) (u1 u2 u3 : Value) (T : Sm) (id : Int) (h : SmAt w ok u1 u2 u3 T) (hl : T.Small) (hok : ∀ b, w.heap.size ≤ b → ok b) :
    Calls Tryz.prog 201 #[.agg #[u1, u2, u3], .int .u32 id] w fun e w' => SmPost w w' ok e (moveQ T id 1 2) := by
  obtain ⟨R, hR⟩ : ∃ R, R = moveQ T id 1 2 := ⟨_, rfl⟩
  rw [← hR]
  have HR := hide hR
  have HH := hide h
  clear hR h
  go_enter Tryz.func201, Tryz.ntmps201
  go_upto_region 1 with fail
  have HB0 := hide (SmBox.start w u1 u2 u3)
  generalize ((w.alloc (.cells #[u1, u2, u3] 40)).alloc (.cells #[.slice none 0 0, .slice none 0 0, .slice none 0 0] 40)) = W at *
  obtain ⟨f1, f2, f3, f4, f5, f6, f7⟩ := HB0.out.facts
  go_wp2_with (go_at_call 244; refine (moveQ_calls _ (fun b => ok b ∧ b ≠ w.heap.size + 1) _ _ _ T id 1 2 (HH.out.apart HB0.out.below (by omega)) hl (fun b hb => ⟨hok b (by omega), by omega⟩)).mono ?_; rintro e w1 ⟨x1, x2, x3, rfl, hat, hb1⟩; obtain ⟨a1, n1, c1, rfl, -⟩ := Src.of hat.a; obtain ⟨a2, n2, c2, rfl, -⟩ := Src.of hat.b; obtain ⟨a3, n3, c3, rfl, -⟩ := Src.of hat.c; have HB1 := hide (HB0.out.next hb1); obtain ⟨g1, g2, g3, g4, -, -, -⟩ := HB1.out.facts; have hov : ones #[.slice a1 n1 c1, .slice a2 n2 c2, .slice a3 n3 c3] 3 = true := rfl)
  refine bodyPost_ret (results_cell_tmp Tryz.results201 _ _ (w.heap.size + 1) _ _ _ _ rfl (heap_setRow_at HB1.out.res) Tryz.underlying40 rfl (by kernel_rfl)) rfl ?_
  rw [HR.out]
  exact ⟨_, _, _, rfl, hat.join, HB1.out.below.trans (below_setRow' _ _ (by omega))⟩

set_option maxRecDepth 100000 in
set_option maxHeartbeats 1000000 in
theorem closeQ_calls (w : World) (ok : Nat → Prop) (u1 u2 u3 : Value) (T : Sm) (id : Int) (h : SmAt w ok u1 u2 u3 T) (hl : T.Small) (hok : ∀ b, w.heap.size ≤ b → ok b) :
    Calls Tryz.prog 202 #[.agg #[u1, u2, u3], .int .u32 id] w fun e w' => SmPost w w' ok e (moveQ T id 2 3) := by
  obtain ⟨R, hR⟩ : ∃ R, R = moveQ T id 2 3 := ⟨_, rfl⟩
  rw [← hR]
  have HR := hide hR
  have HH := hide h
  clear hR h
  go_enter Tryz.func202, Tryz.ntmps202
  go_upto_region 1 with fail
  have HB0 := hide (SmBox.start w u1 u2 u3)
  generalize ((w.alloc (.cells #[u1, u2, u3] 40)).alloc (.cells #[.slice none 0 0, .slice none 0 0, .slice none 0 0] 40)) = W at *
  obtain ⟨f1, f2, f3, f4, f5, f6, f7⟩ := HB0.out.facts
  go_wp2_with (go_at_call 244; refine (moveQ_calls _ (fun b => ok b ∧ b ≠ w.heap.size + 1) _ _ _ T id 2 3 (HH.out.apart HB0.out.below (by omega)) hl (fun b hb => ⟨hok b (by omega), by omega⟩)).mono ?_; rintro e w1 ⟨x1, x2, x3, rfl, hat, hb1⟩; obtain ⟨a1, n1, c1, rfl, -⟩ := Src.of hat.a; obtain ⟨a2, n2, c2, rfl, -⟩ := Src.of hat.b; obtain ⟨a3, n3, c3, rfl, -⟩ := Src.of hat.c; have HB1 := hide (HB0.out.next hb1); obtain ⟨g1, g2, g3, g4, -, -, -⟩ := HB1.out.facts; have hov : ones #[.slice a1 n1 c1, .slice a2 n2 c2, .slice a3 n3 c3] 3 = true := rfl)
  refine bodyPost_ret (results_cell_tmp Tryz.results202 _ _ (w.heap.size + 1) _ _ _ _ rfl (heap_setRow_at HB1.out.res) Tryz.underlying40 rfl (by kernel_rfl)) rfl ?_
  rw [HR.out]
  exact ⟨_, _, _, rfl, hat.join, HB1.out.below.trans (below_setRow' _ _ (by omega))⟩

set_option maxRecDepth 100000 in
set_option maxHeartbeats 1000000 in
theorem reopenQ_calls (w : World) (ok : Nat → Prop) (u1 u2 u3 : Value) (T : Sm) (id : Int) (h : SmAt w ok u1 u2 u3 T) (hl : T.Small) (hok : ∀ b, w.heap.size ≤ b → ok b) :
    Calls Tryz.prog 203 #[.agg #[u1, u2, u3], .int .u32 id] w fun e w' => SmPost w w' ok e (moveQ T id 2 1) := by
  obtain ⟨R, hR⟩ : ∃ R, R = moveQ T id 2 1 := ⟨_, rfl⟩
  rw [← hR]
  have HR := hide hR
  have HH := hide h
  clear hR h
  go_enter Tryz.func203, Tryz.ntmps203
  go_upto_region 1 with fail
  have HB0 := hide (SmBox.start w u1 u2 u3)
  generalize ((w.alloc (.cells #[u1, u2, u3] 40)).alloc (.cells #[.slice none 0 0, .slice none 0 0, .slice none 0 0] 40)) = W at *
  obtain ⟨f1, f2, f3, f4, f5, f6, f7⟩ := HB0.out.facts
  go_wp2_with (go_at_call 244; refine (moveQ_calls _ (fun b => ok b ∧ b ≠ w.heap.size + 1) _ _ _ T id 2 1 (HH.out.apart HB0.out.below (by omega)) hl (fun b hb => ⟨hok b (by omega), by omega⟩)).mono ?_; rintro e w1 ⟨x1, x2, x3, rfl, hat, hb1⟩; obtain ⟨a1, n1, c1, rfl, -⟩ := Src.of hat.a; obtain ⟨a2, n2, c2, rfl, -⟩ := Src.of hat.b; obtain ⟨a3, n3, c3, rfl, -⟩ := Src.of hat.c; have HB1 := hide (HB0.out.next hb1); obtain ⟨g1, g2, g3, g4, -, -, -⟩ := HB1.out.facts; have hov : ones #[.slice a1 n1 c1, .slice a2 n2 c2, .slice a3 n3 c3] 3 = true := rfl)
  refine bodyPost_ret (results_cell_tmp Tryz.results203 _ _ (w.heap.size + 1) _ _ _ _ rfl (heap_setRow_at HB1.out.res) Tryz.underlying40 rfl (by kernel_rfl)) rfl ?_
  rw [HR.out]
  exact ⟨_, _, _, rfl, hat.join, HB1.out.below.trans (below_setRow' _ _ (by omega))⟩

def smpGet (T : Sm) (id : Int) : Option Smp := if sIdx T.ss id < 0 then none else T.ss[(sIdx T.ss id).toNat]?
def smpGetV : Option Smp → Value
  | none => .tuple #[.agg (smpCs ⟨0, 0, 0, 0, 0, 0, 0, false⟩), .bool false]
  | some x => .tuple #[.agg (smpCs x), .bool true]
set_option maxRecDepth 100000 in
set_option maxHeartbeats 1000000 in
theorem smpGet_calls (w : World) (ok : Nat → Prop) (u1 u2 u3 : Value) (T : Sm) (id : Int) (h : SmAt w ok u1 u2 u3 T) :
    Calls Tryz.prog 28 #[.agg #[u1, u2, u3], .int .u32 id] w fun e w' => e = .returned (smpGetV (smpGet T id)) ∧ Below w.heap.size w w' := by
  obtain ⟨R, hR⟩ : ∃ R, R = smpGetV (smpGet T id) := ⟨_, rfl⟩
  rw [← hR]
  have HR := hide hR
  have HH := hide h
  obtain ⟨a1, n1, c1, rfl, S1⟩ := Src.of h.a
  have HS1 := hide S1
  clear hR h S1
  rcases findI_cases (fun x : Smp => (x.id == id)) T.ss with hi | ⟨q, hq, hi, -⟩
  · have HE : Hid (R = smpGetV none) := HR.out.trans (by simp [smpGet, sIdx, hi])
    go_enter Tryz.func28, Tryz.ntmps28
    go_upto_region 1 with fail
    have hb0 : Below w.heap.size w ((w.alloc (.cells #[.slice a1 n1 c1, u2, u3] 40)).alloc (.cells (smpCs ⟨0, 0, 0, 0, 0, 0, 0, false⟩) 94)) := ((Below.refl _ _).alloc (Nat.le_refl _) _).alloc (by simp) _
    have hx0 : ((w.alloc (.cells #[.slice a1 n1 c1, u2, u3] 40)).alloc (.cells (smpCs ⟨0, 0, 0, 0, 0, 0, 0, false⟩) 94)).heap[w.heap.size]? = some (.cells #[.slice a1 n1 c1, u2, u3] 40 (0, 0)) := (Below.heap_alloc _ _ _ (by simp)).trans (heap_alloc_at _ _)
    have hx1 : ((w.alloc (.cells #[.slice a1 n1 c1, u2, u3] 40)).alloc (.cells (smpCs ⟨0, 0, 0, 0, 0, 0, 0, false⟩) 94)).heap[w.heap.size + 1]? = some (.cells (smpCs ⟨0, 0, 0, 0, 0, 0, 0, false⟩) 94 (0, 0)) := box2 w _ _ _ _
    simp only [smpCs] at hb0 hx0 hx1
    generalize (World.alloc (World.alloc w _) _) = W at *
    have HB0 := hide hb0
    have HX1 := hide hx1
    have hf1 : rng W w.heap.size 0 3 = some #[.slice a1 n1 c1, u2, u3] := rng_whole hx0
    have hf2 := blk_lt hx0
    have hf3 := blk_lt hx1
    clear hb0 hx0 hx1
    go_upto_region 2 with (go_at_call 95; refine (sampleI_calls _ ok _ _ _ T.ss id (HH.out.below HB0.out).a).mono ?_; rintro e w1 ⟨rfl, hb1⟩; rw [hi])
    have hx1 := (hb1.block _ hf3).trans HX1.out
    have hw1 : whole w1 (w.heap.size + 1) 8 = true := whole_blk hx1
    have hz1 := blk_lt hx1
    have HX2 := hide hx1
    have HB1 := hide (HB0.out.trans (hb1.mono (by omega)))
    clear hx1 hb1 hf1 hf2 hf3
    have hov : ones (smpCs ⟨0, 0, 0, 0, 0, 0, 0, false⟩) 8 = true := rfl
    simp only [smpCs] at hov
    go_wp2
    refine bodyPost_ret (results_cell_tmp Tryz.results28 _ _ (w.heap.size + 1) _ _ _ _ rfl (heap_setRow_at HX2.out) Tryz.underlying94 rfl (by kernel_rfl)) rfl ?_
    exact ⟨ret_v HE, HB1.out.trans (below_setRow' _ _ (by omega))⟩
  · have HE : Hid (R = smpGetV (some T.ss[q])) := HR.out.trans (by simp only [smpGet, sIdx, hi]; rw [if_neg (by omega)]; simp [hq])
    have hn : n1 = T.ss.length := HS1.out.len
    obtain ⟨gb, go, hab, hrg⟩ := HS1.out.src w (Below.refl _ _) (by omega)
    subst hab
    have hrq := hrg q hq
    have hgl := rng_lt hrq
    have hqn : q < n1 := by omega
    have HNl := hide hn
    have hx := run_indexAt_arr (P := Tryz.prog) (n := n1) (cap := c1) (a := some ⟨gb, go, none⟩) (b := gb) (off := go) Tryz.underlying36 Tryz.size94 (fun _ => rfl)
    generalize T.ss[q] = y at HE hrq
    clear hrg hn
    go_enter Tryz.func28, Tryz.ntmps28
    go_upto_region 1 with fail
    have hb0 : Below w.heap.size w ((w.alloc (.cells #[.slice (some ⟨gb, go, none⟩) n1 c1, u2, u3] 40)).alloc (.cells (smpCs ⟨0, 0, 0, 0, 0, 0, 0, false⟩) 94)) := ((Below.refl _ _).alloc (Nat.le_refl _) _).alloc (by simp) _
    have hx0 : ((w.alloc (.cells #[.slice (some ⟨gb, go, none⟩) n1 c1, u2, u3] 40)).alloc (.cells (smpCs ⟨0, 0, 0, 0, 0, 0, 0, false⟩) 94)).heap[w.heap.size]? = some (.cells #[.slice (some ⟨gb, go, none⟩) n1 c1, u2, u3] 40 (0, 0)) := (Below.heap_alloc _ _ _ (by simp)).trans (heap_alloc_at _ _)
    have hx1 : ((w.alloc (.cells #[.slice (some ⟨gb, go, none⟩) n1 c1, u2, u3] 40)).alloc (.cells (smpCs ⟨0, 0, 0, 0, 0, 0, 0, false⟩) 94)).heap[w.heap.size + 1]? = some (.cells (smpCs ⟨0, 0, 0, 0, 0, 0, 0, false⟩) 94 (0, 0)) := box2 w _ _ _ _
    simp only [smpCs] at hb0 hx0 hx1
    generalize (World.alloc (World.alloc w _) _) = W at *
    have HB0 := hide hb0
    have HX0 := hide hx0
    have HX1 := hide hx1
    have hf1 : rng W w.heap.size 0 3 = some #[.slice (some ⟨gb, go, none⟩) n1 c1, u2, u3] := rng_whole hx0
    have hf2 := blk_lt hx0
    have hf3 := blk_lt hx1
    clear hb0 hx0 hx1
    go_upto_region 2 with (go_at_call 95; refine (sampleI_calls _ ok _ _ _ T.ss id (HH.out.below HB0.out).a).mono ?_; rintro e w1 ⟨rfl, hb1⟩; rw [hi])
    have hx1 := (hb1.block _ hf3).trans HX1.out
    have hw1 : whole w1 (w.heap.size + 1) 8 = true := whole_blk hx1
    obtain ⟨c0, c1', c2', -, hz0⟩ := cell_three ((hb1.block _ hf2).trans HX0.out)
    have hz1 := blk_lt hx1
    have HX2 := hide hx1
    have HB1 := hide (HB0.out.trans (hb1.mono (by omega)))
    rw [← rng_of_block (HB1.out.block gb hgl)] at hrq
    have hov := smpCs_ones y
    clear hx1 hb1 hf1 hf2 hf3
    go_wp2
    refine bodyPost_ret (results_cell_tmp Tryz.results28 _ _ (w.heap.size + 1) _ _ _ _ rfl (heap_setRow_at HX2.out) Tryz.underlying94 rfl (by rw [smpCs_size]; kernel_rfl)) rfl ?_
    exact ⟨ret_v HE, HB1.out.trans (below_setRow' _ _ (by omega))⟩

def resGet (T : Sm) (s a : Int) : Option Res := if rIdx T.rs s a < 0 then none else T.rs[(rIdx T.rs s a).toNat]?
def resGetV : Option Res → Value
  | none => .tuple #[.agg (resCs ⟨0, 0, 0, 0, 0, false⟩), .bool false]
  | some x => .tuple #[.agg (resCs x), .bool true]
set_option maxRecDepth 100000 in
set_option maxHeartbeats 1000000 in
theorem resGet_calls (w : World) (ok : Nat → Prop) (u1 u2 u3 : Value) (T : Sm) (s a : Int) (h : SmAt w ok u1 u2 u3 T) :
    Calls Tryz.prog 182 #[.agg #[u1, u2, u3], .int .u32 s, .int .u32 a] w fun e w' => e = .returned (resGetV (resGet T s a)) ∧ Below w.heap.size w w' := by
  obtain ⟨R, hR⟩ : ∃ R, R = resGetV (resGet T s a) := ⟨_, rfl⟩
  rw [← hR]
  have HR := hide hR
  have HH := hide h
  obtain ⟨a1, n1, c1, rfl, S1⟩ := Src.of h.b
  have HS1 := hide S1
  clear hR h S1
  rcases findI_cases (fun x : Res => (x.sample == s) && (x.analyte == a)) T.rs with hi | ⟨q, hq, hi, -⟩
  · have HE : Hid (R = resGetV none) := HR.out.trans (by simp [resGet, rIdx, hi])
    go_enter Tryz.func182, Tryz.ntmps182
    go_upto_region 1 with fail
    have hb0 : Below w.heap.size w ((w.alloc (.cells #[u1, .slice a1 n1 c1, u3] 40)).alloc (.cells (resCs ⟨0, 0, 0, 0, 0, false⟩) 92)) := ((Below.refl _ _).alloc (Nat.le_refl _) _).alloc (by simp) _
    have hx0 : ((w.alloc (.cells #[u1, .slice a1 n1 c1, u3] 40)).alloc (.cells (resCs ⟨0, 0, 0, 0, 0, false⟩) 92)).heap[w.heap.size]? = some (.cells #[u1, .slice a1 n1 c1, u3] 40 (0, 0)) := (Below.heap_alloc _ _ _ (by simp)).trans (heap_alloc_at _ _)
    have hx1 : ((w.alloc (.cells #[u1, .slice a1 n1 c1, u3] 40)).alloc (.cells (resCs ⟨0, 0, 0, 0, 0, false⟩) 92)).heap[w.heap.size + 1]? = some (.cells (resCs ⟨0, 0, 0, 0, 0, false⟩) 92 (0, 0)) := box2 w _ _ _ _
    simp only [resCs] at hb0 hx0 hx1
    generalize (World.alloc (World.alloc w _) _) = W at *
    have HB0 := hide hb0
    have HX1 := hide hx1
    have hf1 : rng W w.heap.size 0 3 = some #[u1, .slice a1 n1 c1, u3] := rng_whole hx0
    have hf2 := blk_lt hx0
    have hf3 := blk_lt hx1
    clear hb0 hx0 hx1
    go_upto_region 2 with (go_at_call 233; refine (resultI_calls _ ok _ _ _ T.rs s a (HH.out.below HB0.out).b).mono ?_; rintro e w1 ⟨rfl, hb1⟩; rw [hi])
    have hx1 := (hb1.block _ hf3).trans HX1.out
    have hw1 : whole w1 (w.heap.size + 1) 6 = true := whole_blk hx1
    have hz1 := blk_lt hx1
    have HX2 := hide hx1
    have HB1 := hide (HB0.out.trans (hb1.mono (by omega)))
    clear hx1 hb1 hf1 hf2 hf3
    have hov : ones (resCs ⟨0, 0, 0, 0, 0, false⟩) 6 = true := rfl
    simp only [resCs] at hov
    go_wp2
    refine bodyPost_ret (results_cell_tmp Tryz.results182 _ _ (w.heap.size + 1) _ _ _ _ rfl (heap_setRow_at HX2.out) Tryz.underlying92 rfl (by kernel_rfl)) rfl ?_
    exact ⟨ret_v HE, HB1.out.trans (below_setRow' _ _ (by omega))⟩
  · have HE : Hid (R = resGetV (some T.rs[q])) := HR.out.trans (by simp only [resGet, rIdx, hi]; rw [if_neg (by omega)]; simp [hq])
    have hn : n1 = T.rs.length := HS1.out.len
    obtain ⟨gb, go, hab, hrg⟩ := HS1.out.src w (Below.refl _ _) (by omega)
    subst hab
    have hrq := hrg q hq
    have hgl := rng_lt hrq
    have hqn : q < n1 := by omega
    have HNl := hide hn
    have hx := run_indexAt_arr (P := Tryz.prog) (n := n1) (cap := c1) (a := some ⟨gb, go, none⟩) (b := gb) (off := go) Tryz.underlying37 Tryz.size92 (fun _ => rfl)
    generalize T.rs[q] = y at HE hrq
    clear hrg hn
    go_enter Tryz.func182, Tryz.ntmps182
    go_upto_region 1 with fail
    have hb0 : Below w.heap.size w ((w.alloc (.cells #[u1, .slice (some ⟨gb, go, none⟩) n1 c1, u3] 40)).alloc (.cells (resCs ⟨0, 0, 0, 0, 0, false⟩) 92)) := ((Below.refl _ _).alloc (Nat.le_refl _) _).alloc (by simp) _
    have hx0 : ((w.alloc (.cells #[u1, .slice (some ⟨gb, go, none⟩) n1 c1, u3] 40)).alloc (.cells (resCs ⟨0, 0, 0, 0, 0, false⟩) 92)).heap[w.heap.size]? = some (.cells #[u1, .slice (some ⟨gb, go, none⟩) n1 c1, u3] 40 (0, 0)) := (Below.heap_alloc _ _ _ (by simp)).trans (heap_alloc_at _ _)
    have hx1 : ((w.alloc (.cells #[u1, .slice (some ⟨gb, go, none⟩) n1 c1, u3] 40)).alloc (.cells (resCs ⟨0, 0, 0, 0, 0, false⟩) 92)).heap[w.heap.size + 1]? = some (.cells (resCs ⟨0, 0, 0, 0, 0, false⟩) 92 (0, 0)) := box2 w _ _ _ _
    simp only [resCs] at hb0 hx0 hx1
    generalize (World.alloc (World.alloc w _) _) = W at *
    have HB0 := hide hb0
    have HX0 := hide hx0
    have HX1 := hide hx1
    have hf1 : rng W w.heap.size 0 3 = some #[u1, .slice (some ⟨gb, go, none⟩) n1 c1, u3] := rng_whole hx0
    have hf2 := blk_lt hx0
    have hf3 := blk_lt hx1
    clear hb0 hx0 hx1
    go_upto_region 2 with (go_at_call 233; refine (resultI_calls _ ok _ _ _ T.rs s a (HH.out.below HB0.out).b).mono ?_; rintro e w1 ⟨rfl, hb1⟩; rw [hi])
    have hx1 := (hb1.block _ hf3).trans HX1.out
    have hw1 : whole w1 (w.heap.size + 1) 6 = true := whole_blk hx1
    obtain ⟨c0, c1', c2', -, hz0⟩ := cell_three ((hb1.block _ hf2).trans HX0.out)
    have hz1 := blk_lt hx1
    have HX2 := hide hx1
    have HB1 := hide (HB0.out.trans (hb1.mono (by omega)))
    rw [← rng_of_block (HB1.out.block gb hgl)] at hrq
    have hov := resCs_ones y
    clear hx1 hb1 hf1 hf2 hf3
    go_wp2
    refine bodyPost_ret (results_cell_tmp Tryz.results182 _ _ (w.heap.size + 1) _ _ _ _ rfl (heap_setRow_at HX2.out) Tryz.underlying92 rfl (by rw [resCs_size]; kernel_rfl)) rfl ?_
    exact ⟨ret_v HE, HB1.out.trans (below_setRow' _ _ (by omega))⟩

end Go.Proofs.Qxb6500666aGreatDoor
