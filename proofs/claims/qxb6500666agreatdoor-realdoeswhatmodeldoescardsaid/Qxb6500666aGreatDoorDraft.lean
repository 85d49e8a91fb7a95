/- A command in the making: the draft, settle, walked. -/
import Derived.Test.Qxb6500666aGreatDoorLowKit
import Derived.Test.Qxb6500666aGreatDoorScript
namespace Go.Proofs.Qxb6500666aGreatDoor
open Go.RowKit

structure Stat where
  entries : Int
  transfers : Int
  lastCum : Int
  lastMin : Int
  deriving DecidableEq
structure Stat.Ok (s : Stat) : Prop where
  entries : U32 s.entries
  transfers : U32 s.transfers
  lastCum : U32 s.lastCum
  lastMin : I64 s.lastMin

/-- The eight slices of the layers beneath. -/
structure LV where
  p0 : Value
  p1 : Value
  p2 : Value
  p3 : Value
  k : Value
  s1 : Value
  s2 : Value
  s3 : Value
def lvCs (x : LV) : Array Value := #[x.p0, x.p1, x.p2, x.p3, x.k, x.s1, x.s2, x.s3]
structure LowAt (w : World) (ok : Nat → Prop) (x : LV) (L : Low) : Prop where
  pr : PrAt w ok x.p0 x.p1 x.p2 x.p3 L.pr
  kit : RArr w ok 2 kitCs x.k L.kit
  sm : SmAt w ok x.s1 x.s2 x.s3 L.sm
structure Low.Small (L : Low) : Prop where
  pr : L.pr.Small
  kit : L.kit.length ≤ 1000000
  sm : L.sm.Small
theorem SmAt.mono {w w' : World} {ok ok' : Nat → Prop} {u1 u2 u3 : Value} {T : Sm} (h : SmAt w ok u1 u2 u3 T) (hs : Same ok w w') (hk : ∀ b, ok b → ok' b) : SmAt w' ok' u1 u2 u3 T :=
  ⟨h.a.mono hs hk, h.b.mono hs hk, h.c.mono hs hk⟩
theorem SmAt.lt {w : World} {ok : Nat → Prop} {u1 u2 u3 : Value} {T : Sm} (h : SmAt w ok u1 u2 u3 T) : SmAt w (fun b => ok b ∧ b < w.heap.size) u1 u2 u3 T := ⟨h.a.lt, h.b.lt, h.c.lt⟩
theorem SmAt.forms {w : World} {ok : Nat → Prop} {u1 u2 u3 : Value} {T : Sm} (h : SmAt w ok u1 u2 u3 T) : (∃ a n c, u1 = .slice a n c) ∧ (∃ a n c, u2 = .slice a n c) ∧ (∃ a n c, u3 = .slice a n c) := by
  obtain ⟨a1, n1, c1, e1, -⟩ := Src.of h.a
  obtain ⟨a2, n2, c2, e2, -⟩ := Src.of h.b
  obtain ⟨a3, n3, c3, e3, -⟩ := Src.of h.c
  exact ⟨⟨_, _, _, e1⟩, ⟨_, _, _, e2⟩, ⟨_, _, _, e3⟩⟩
theorem LowAt.mono {w w' : World} {ok ok' : Nat → Prop} {x : LV} {L : Low} (h : LowAt w ok x L) (hs : Same ok w w') (hk : ∀ b, ok b → ok' b) : LowAt w' ok' x L :=
  ⟨h.pr.mono hs hk, h.kit.mono hs hk, h.sm.mono hs hk⟩
theorem LowAt.lt {w : World} {ok : Nat → Prop} {x : LV} {L : Low} (h : LowAt w ok x L) : LowAt w (fun b => ok b ∧ b < w.heap.size) x L := ⟨h.pr.lt, h.kit.lt, h.sm.lt⟩
theorem LowAt.below {w w' : World} {ok : Nat → Prop} {x : LV} {L : Low} (h : LowAt w ok x L) (hb : Below w.heap.size w w') : LowAt w' ok x L :=
  h.lt.mono (fun b hb' => hb.block b hb'.2) (fun _ hb' => hb'.1)

/-- The draft's cells. -/
def draftCs (r : Req) (lv : Value) (s : Stat) (x : LV) (wv : Value) (iss : Int) : Array Value :=
  #[.int .u8 r.kind, .int .u32 r.user, .int .i64 r.now, .int .u32 r.id, .int .u32 r.ref, .int .u32 r.kit, .int .u32 r.subject, .int .u32 r.visit, .int .u8 r.role, .int .u8 r.cls, .int .i64 r.time, .int .i64 r.till, .int .i64 r.value, .int .i64 r.l0, .int .i64 r.l1, .int .i64 r.l2, lv,
    .int .u32 s.entries, .int .u32 s.transfers, .int .u32 s.lastCum, .int .i64 s.lastMin, x.p0, x.p1, x.p2, x.p3, x.k, x.s1, x.s2, x.s3, wv, .int .u32 iss]
def DraftAt (w : World) (D : Nat) (r : Req) (lv : Value) (s : Stat) (x : LV) (wv : Value) (iss : Int) : Prop := w.heap[D]? = some (.cells (draftCs r lv s x wv iss) 330 (0, 0))

theorem DraftAt.lt {w : World} {D : Nat} {r : Req} {lv : Value} {s : Stat} {x : LV} {wv : Value} {iss : Int} (h : DraftAt w D r lv s x wv iss) : D < w.heap.size := blk_lt h
theorem DraftAt.cells {w : World} {D : Nat} {r : Req} {lv : Value} {s : Stat} {x : LV} {wv : Value} {iss : Int} (h : DraftAt w D r lv s x wv iss) : (∀ j, w.frozen? ⟨D, j, none⟩ = false) ∧ ∀ j, w.cell? ⟨D, j, none⟩ = (draftCs r lv s x wv iss)[j]? :=
  ⟨fun j => by rw [World.frozen?, h]; simp, fun j => by rw [World.cell?, h]; rfl⟩
theorem DraftAt.rng {w : World} {D : Nat} {r : Req} {lv : Value} {s : Stat} {x : LV} {wv : Value} {iss : Int} (h : DraftAt w D r lv s x wv iss) : rng w D 21 4 = some #[x.p0, x.p1, x.p2, x.p3] ∧ rng w D 25 1 = some #[x.k] ∧ rng w D 26 3 = some #[x.s1, x.s2, x.s3] := by
  refine ⟨?_, ?_, ?_⟩ <;> (unfold Qxb6500666aGreatDoor.rng; rw [h]; rfl)

theorem draft_set {r : Req} {lv : Value} {s : Stat} {x : LV} {wv : Value} {iss : Int} (v : Value) :
    (draftCs r lv s x wv iss).setIfInBounds 21 v = draftCs r lv s { x with p0 := v } wv iss ∧ (draftCs r lv s x wv iss).setIfInBounds 22 v = draftCs r lv s { x with p1 := v } wv iss ∧ (draftCs r lv s x wv iss).setIfInBounds 23 v = draftCs r lv s { x with p2 := v } wv iss ∧ (draftCs r lv s x wv iss).setIfInBounds 24 v = draftCs r lv s { x with p3 := v } wv iss ∧
    (draftCs r lv s x wv iss).setIfInBounds 25 v = draftCs r lv s { x with k := v } wv iss ∧ (draftCs r lv s x wv iss).setIfInBounds 26 v = draftCs r lv s { x with s1 := v } wv iss ∧ (draftCs r lv s x wv iss).setIfInBounds 27 v = draftCs r lv s { x with s2 := v } wv iss ∧ (draftCs r lv s x wv iss).setIfInBounds 28 v = draftCs r lv s { x with s3 := v } wv iss ∧
    (draftCs r lv s x wv iss).setIfInBounds 29 v = draftCs r lv s x v iss :=
  ⟨rfl, rfl, rfl, rfl, rfl, rfl, rfl, rfl, rfl⟩
theorem DraftAt.set {w : World} {D j : Nat} {r : Req} {lv : Value} {s : Stat} {x x' : LV} {wv wv' : Value} {iss : Int} {v : Value} (h : DraftAt w D r lv s x wv iss) (e : (draftCs r lv s x wv iss).setIfInBounds j v = draftCs r lv s x' wv' iss) : DraftAt (w.setCell ⟨D, j, none⟩ v) D r lv s x' wv' iss := by
  have := heap_set3 (j := j) (v := v) h
  rw [e] at this
  exact this
theorem DraftAt.alloc {w : World} {D : Nat} {r : Req} {lv : Value} {s : Stat} {x : LV} {wv : Value} {iss : Int} (h : DraftAt w D r lv s x wv iss) (o : Obj) : DraftAt (w.alloc o) D r lv s x wv iss := (Below.heap_alloc _ _ _ h.lt).trans h

/-- The error a command answers. -/
def errV (c : Int) : Value := if c = 0 then .nilIface else .iface 63 (.int .u8 c)

attribute [local go_sem] ext_const Ext.cell Ext.frozen Ext.rng Ext.whole

set_option maxRecDepth 100000 in
set_option maxHeartbeats 1000000 in
theorem settlePr_calls (W : World) (D : Nat) (r : Req) (lv : Value) (s : Stat) (x : LV) (wv : Value) (iss : Int) (h : DraftAt W D r lv s x wv iss) (y0 y1 y2 y3 : Value) (c : Int) (hf : ∀ v ∈ [y0, y1, y2, y3], ∃ a n k, v = .slice a n k) :
    Calls Tryz.prog 304 #[.pointer (some ⟨D, 21, none⟩), .agg #[y0, y1, y2, y3], .int .u8 c] W fun e w' => e = .returned (errV c) ∧ DraftAt w' D r lv s (if c = 0 then { x with p0 := y0, p1 := y1, p2 := y2, p3 := y3 } else x) wv iss ∧ (∀ b, b < W.heap.size → b ≠ D → w'.heap[b]? = W.heap[b]?) ∧ W.heap.size ≤ w'.heap.size ∧ Below D W w' := by
  have hD := h.lt
  have hc := h.cells
  have HD := hide h
  obtain ⟨a0, n0, k0, e0⟩ := hf y0 (by simp)
  obtain ⟨a1, n1, k1, e1⟩ := hf y1 (by simp)
  obtain ⟨a2, n2, k2, e2⟩ := hf y2 (by simp)
  obtain ⟨a3, n3, k3, e3⟩ := hf y3 (by simp)
  subst e0 e1 e2 e3
  have c0 := hc.2 21
  have c1 := hc.2 22
  have c2 := hc.2 23
  have c3 := hc.2 24
  have hfz := hc.1
  simp only [draftCs, List.getElem?_toArray, List.getElem?_cons_succ, List.getElem?_cons_zero] at c0 c1 c2 c3
  clear hc h hf
  by_cases h0 : c = 0
  · subst h0
    rw [if_pos rfl]
    go_enter Tryz.func304, Tryz.ntmps304
    go_wp2
    go_ret
    have HDD : Hid (DraftAt ((((W.setCell ⟨D, 21, none⟩ (.slice a0 n0 k0)).setCell ⟨D, 22, none⟩ (.slice a1 n1 k1)).setCell ⟨D, 23, none⟩ (.slice a2 n2 k2)).setCell ⟨D, 24, none⟩ (.slice a3 n3 k3)) D r lv s _ wv iss) := (DraftAt.set (DraftAt.set (DraftAt.set (DraftAt.set HD.out (draft_set _).1) (draft_set _).2.1) (draft_set _).2.2.1) (draft_set _).2.2.2.1)
    have hsz : (((((W.setCell ⟨D, 21, none⟩ (.slice a0 n0 k0)).setCell ⟨D, 22, none⟩ (.slice a1 n1 k1)).setCell ⟨D, 23, none⟩ (.slice a2 n2 k2)).setCell ⟨D, 24, none⟩ (.slice a3 n3 k3))).heap.size = W.heap.size := by simp
    have hot : ∀ b, b ≠ D → (((((W.setCell ⟨D, 21, none⟩ (.slice a0 n0 k0)).setCell ⟨D, 22, none⟩ (.slice a1 n1 k1)).setCell ⟨D, 23, none⟩ (.slice a2 n2 k2)).setCell ⟨D, 24, none⟩ (.slice a3 n3 k3))).heap[b]? = W.heap[b]? := fun b hb => (Below.heap_setCell _ ⟨D, 24, none⟩ _ _ hb).trans ((Below.heap_setCell _ ⟨D, 23, none⟩ _ _ hb).trans ((Below.heap_setCell _ ⟨D, 22, none⟩ _ _ hb).trans ((Below.heap_setCell _ ⟨D, 21, none⟩ _ _ hb).trans (rfl))))
    have hbl : Below D W ((((W.setCell ⟨D, 21, none⟩ (.slice a0 n0 k0)).setCell ⟨D, 22, none⟩ (.slice a1 n1 k1)).setCell ⟨D, 23, none⟩ (.slice a2 n2 k2)).setCell ⟨D, 24, none⟩ (.slice a3 n3 k3)) := (Below.setCell (p := ⟨D, 24, none⟩) (Below.setCell (p := ⟨D, 23, none⟩) (Below.setCell (p := ⟨D, 22, none⟩) (Below.setCell (p := ⟨D, 21, none⟩) (Below.refl _ _) (Nat.le_refl _) _) (Nat.le_refl _) _) (Nat.le_refl _) _) (Nat.le_refl _) _)
    generalize ((((W.setCell ⟨D, 21, none⟩ (.slice a0 n0 k0)).setCell ⟨D, 22, none⟩ (.slice a1 n1 k1)).setCell ⟨D, 23, none⟩ (.slice a2 n2 k2)).setCell ⟨D, 24, none⟩ (.slice a3 n3 k3)) = V at *
    exact ⟨rfl, HDD.out.alloc _, fun b hl hb => (Below.heap_alloc _ _ _ (by omega)).trans (hot b hb), by simp only [World.size_alloc]; omega, hbl.alloc (by omega) _⟩
  · have t0 : (c != 0) = true := by simpa using h0
    rw [if_neg h0]
    have he : errV c = .iface 63 (.int .u8 c) := by rw [errV, if_neg h0]
    rw [he]
    clear h0 he
    go_enter Tryz.func304, Tryz.ntmps304
    go_wp2
    go_ret
    exact ⟨rfl, (Below.heap_alloc _ _ _ hD).trans HD.out, fun b hl _ => Below.heap_alloc _ _ _ hl, by simp, (Below.refl _ _).alloc (by omega) _⟩

set_option maxRecDepth 100000 in
set_option maxHeartbeats 1000000 in
theorem settleKt_calls (W : World) (D : Nat) (r : Req) (lv : Value) (s : Stat) (x : LV) (wv : Value) (iss : Int) (h : DraftAt W D r lv s x wv iss) (y0 : Value) (c : Int) (hf : ∀ v ∈ [y0], ∃ a n k, v = .slice a n k) :
    Calls Tryz.prog 305 #[.pointer (some ⟨D, 25, none⟩), .agg #[y0], .int .u8 c] W fun e w' => e = .returned (errV c) ∧ DraftAt w' D r lv s (if c = 0 then { x with k := y0 } else x) wv iss ∧ (∀ b, b < W.heap.size → b ≠ D → w'.heap[b]? = W.heap[b]?) ∧ W.heap.size ≤ w'.heap.size ∧ Below D W w' := by
  have hD := h.lt
  have hc := h.cells
  have HD := hide h
  obtain ⟨a0, n0, k0, e0⟩ := hf y0 (by simp)
  subst e0
  have c0 := hc.2 25
  have hfz := hc.1
  simp only [draftCs, List.getElem?_toArray, List.getElem?_cons_succ, List.getElem?_cons_zero] at c0
  clear hc h hf
  by_cases h0 : c = 0
  · subst h0
    rw [if_pos rfl]
    go_enter Tryz.func305, Tryz.ntmps305
    go_wp2
    go_ret
    have HDD : Hid (DraftAt (W.setCell ⟨D, 25, none⟩ (.slice a0 n0 k0)) D r lv s _ wv iss) := (DraftAt.set HD.out (draft_set _).2.2.2.2.1)
    have hsz : ((W.setCell ⟨D, 25, none⟩ (.slice a0 n0 k0))).heap.size = W.heap.size := by simp
    have hot : ∀ b, b ≠ D → ((W.setCell ⟨D, 25, none⟩ (.slice a0 n0 k0))).heap[b]? = W.heap[b]? := fun b hb => (Below.heap_setCell _ ⟨D, 25, none⟩ _ _ hb).trans (rfl)
    have hbl : Below D W (W.setCell ⟨D, 25, none⟩ (.slice a0 n0 k0)) := (Below.setCell (p := ⟨D, 25, none⟩) (Below.refl _ _) (Nat.le_refl _) _)
    generalize (W.setCell ⟨D, 25, none⟩ (.slice a0 n0 k0)) = V at *
    exact ⟨rfl, HDD.out.alloc _, fun b hl hb => (Below.heap_alloc _ _ _ (by omega)).trans (hot b hb), by simp only [World.size_alloc]; omega, hbl.alloc (by omega) _⟩
  · have t0 : (c != 0) = true := by simpa using h0
    rw [if_neg h0]
    have he : errV c = .iface 63 (.int .u8 c) := by rw [errV, if_neg h0]
    rw [he]
    clear h0 he
    go_enter Tryz.func305, Tryz.ntmps305
    go_wp2
    go_ret
    exact ⟨rfl, (Below.heap_alloc _ _ _ hD).trans HD.out, fun b hl _ => Below.heap_alloc _ _ _ hl, by simp, (Below.refl _ _).alloc (by omega) _⟩

set_option maxRecDepth 100000 in
set_option maxHeartbeats 1000000 in
theorem settleSm_calls (W : World) (D : Nat) (r : Req) (lv : Value) (s : Stat) (x : LV) (wv : Value) (iss : Int) (h : DraftAt W D r lv s x wv iss) (y0 y1 y2 : Value) (c : Int) (hf : ∀ v ∈ [y0, y1, y2], ∃ a n k, v = .slice a n k) :
    Calls Tryz.prog 306 #[.pointer (some ⟨D, 26, none⟩), .agg #[y0, y1, y2], .int .u8 c] W fun e w' => e = .returned (errV c) ∧ DraftAt w' D r lv s (if c = 0 then { x with s1 := y0, s2 := y1, s3 := y2 } else x) wv iss ∧ (∀ b, b < W.heap.size → b ≠ D → w'.heap[b]? = W.heap[b]?) ∧ W.heap.size ≤ w'.heap.size ∧ Below D W w' := by
  have hD := h.lt
  have hc := h.cells
  have HD := hide h
  obtain ⟨a0, n0, k0, e0⟩ := hf y0 (by simp)
  obtain ⟨a1, n1, k1, e1⟩ := hf y1 (by simp)
  obtain ⟨a2, n2, k2, e2⟩ := hf y2 (by simp)
  subst e0 e1 e2
  have c0 := hc.2 26
  have c1 := hc.2 27
  have c2 := hc.2 28
  have hfz := hc.1
  simp only [draftCs, List.getElem?_toArray, List.getElem?_cons_succ, List.getElem?_cons_zero] at c0 c1 c2
  clear hc h hf
  by_cases h0 : c = 0
  · subst h0
    rw [if_pos rfl]
    go_enter Tryz.func306, Tryz.ntmps306
    go_wp2
    go_ret
    have HDD : Hid (DraftAt (((W.setCell ⟨D, 26, none⟩ (.slice a0 n0 k0)).setCell ⟨D, 27, none⟩ (.slice a1 n1 k1)).setCell ⟨D, 28, none⟩ (.slice a2 n2 k2)) D r lv s _ wv iss) := (DraftAt.set (DraftAt.set (DraftAt.set HD.out (draft_set _).2.2.2.2.2.1) (draft_set _).2.2.2.2.2.2.1) (draft_set _).2.2.2.2.2.2.2.1)
    have hsz : ((((W.setCell ⟨D, 26, none⟩ (.slice a0 n0 k0)).setCell ⟨D, 27, none⟩ (.slice a1 n1 k1)).setCell ⟨D, 28, none⟩ (.slice a2 n2 k2))).heap.size = W.heap.size := by simp
    have hot : ∀ b, b ≠ D → ((((W.setCell ⟨D, 26, none⟩ (.slice a0 n0 k0)).setCell ⟨D, 27, none⟩ (.slice a1 n1 k1)).setCell ⟨D, 28, none⟩ (.slice a2 n2 k2))).heap[b]? = W.heap[b]? := fun b hb => (Below.heap_setCell _ ⟨D, 28, none⟩ _ _ hb).trans ((Below.heap_setCell _ ⟨D, 27, none⟩ _ _ hb).trans ((Below.heap_setCell _ ⟨D, 26, none⟩ _ _ hb).trans (rfl)))
    have hbl : Below D W (((W.setCell ⟨D, 26, none⟩ (.slice a0 n0 k0)).setCell ⟨D, 27, none⟩ (.slice a1 n1 k1)).setCell ⟨D, 28, none⟩ (.slice a2 n2 k2)) := (Below.setCell (p := ⟨D, 28, none⟩) (Below.setCell (p := ⟨D, 27, none⟩) (Below.setCell (p := ⟨D, 26, none⟩) (Below.refl _ _) (Nat.le_refl _) _) (Nat.le_refl _) _) (Nat.le_refl _) _)
    generalize (((W.setCell ⟨D, 26, none⟩ (.slice a0 n0 k0)).setCell ⟨D, 27, none⟩ (.slice a1 n1 k1)).setCell ⟨D, 28, none⟩ (.slice a2 n2 k2)) = V at *
    exact ⟨rfl, HDD.out.alloc _, fun b hl hb => (Below.heap_alloc _ _ _ (by omega)).trans (hot b hb), by simp only [World.size_alloc]; omega, hbl.alloc (by omega) _⟩
  · have t0 : (c != 0) = true := by simpa using h0
    rw [if_neg h0]
    have he : errV c = .iface 63 (.int .u8 c) := by rw [errV, if_neg h0]
    rw [he]
    clear h0 he
    go_enter Tryz.func306, Tryz.ntmps306
    go_wp2
    go_ret
    exact ⟨rfl, (Below.heap_alloc _ _ _ hD).trans HD.out, fun b hl _ => Below.heap_alloc _ _ _ hl, by simp, (Below.refl _ _).alloc (by omega) _⟩

end Go.Proofs.Qxb6500666aGreatDoor
