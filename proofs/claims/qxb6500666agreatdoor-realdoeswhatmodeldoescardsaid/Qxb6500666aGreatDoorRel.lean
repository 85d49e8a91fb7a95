/- released, walked. -/
import Derived.Test.Qxb6500666aGreatDoorEligib
import Derived.Test.Qxb6500666aGreatDoorScanWalk
namespace Go.Proofs.Qxb6500666aGreatDoor
open Go.RowKit

theorem dig4_u32 {r : Rd} (h : ByteL r.rest) : U32 (rdDig 4 r).1 := by
  have := rdDig_bound (c := 4) h
  rw [show (256 : Int) ^ 4 = 4294967296 from rfl] at this
  exact ⟨this.1, by omega⟩
theorem decPlc_ok {bs : List Int} {p : Int × Int} (hb : ByteL bs) (h : decPlc bs = some p) : U32 p.1 ∧ U32 p.2 := by
  simp only [decPlc] at h
  split at h
  · cases h
  · split at h
    · cases h
    · injection h with h
      subst h
      exact ⟨dig4_u32 hb, dig4_u32 (rdDig_bytes hb)⟩
noncomputable def relStep (ps : List KV) (p : KV) : Option Row := match splitK 114 p.1 with
  | none => none
  | some q => match decPlc p.2 with
    | none => none
    | some f => match chgR ps f.1 f.2 with
      | .error _ => none
      | .ok c => if (c.action == 87) then none else if (c.row.sample != q.1) then none else if (c.row.analyte != q.2) then none else some c.row
noncomputable def relAdd (ps : List KV) (acc : Option (List Row)) (p : KV) : Option (List Row) := match acc with
  | none => none
  | some rows => match relStep ps p with
    | none => none
    | some r => some (rows ++ [r])
noncomputable def relL (ps : List KV) (l : List KV) : Option (List Row) := l.foldl (relAdd ps) (some [])
theorem relL_snoc (ps l : List KV) (p : KV) : relL ps (l ++ [p]) = relAdd ps (relL ps l) p := by simp [relL, List.foldl_append]
theorem relL_none {ps l : List KV} (h : relL ps l = none) (r : List KV) : relL ps (l ++ r) = none := by
  unfold relL at *
  rw [List.foldl_append, h]
  induction r with
  | nil => rfl
  | cons x r ih => exact ih
theorem relL_len {ps : List KV} : ∀ {l : List KV} {acc : Option (List Row)} {rows : List Row}, l.foldl (relAdd ps) acc = some rows → ∃ a, acc = some a ∧ rows.length = a.length + l.length
  | [], acc, rows, h => ⟨rows, h, by simp⟩
  | x :: r, acc, rows, h => by
    obtain ⟨b, hb, hl⟩ := relL_len (l := r) h
    unfold relAdd at hb
    split at hb
    · cases hb
    · rename_i a
      split at hb
      · cases hb
      · injection hb with hb
        subst hb
        exact ⟨a, rfl, by simp at hl ⊢; omega⟩
noncomputable def relR (ps : List KV) : Option (List Row) := relL ps (scanB ps (key0B 114) (key0B 115) (ps.length + 1) none)
theorem chgR_err {ps : List KV} {f l c : Int} (h : chgR ps f l = .error c) : c = 28 := by
  unfold chgR at h
  split at h
  · injection h with h; exact h.symm
  · unfold ofOpt at h
    split at h
    · injection h with h; exact h.symm
    · cases h

theorem heap_set1 {w : World} {g : Nat} {v u : Value} {t : TypeId} (h : w.heap[g]? = some (.cells #[v] t (0, 0))) : (w.setCell ⟨g, 0, none⟩ u).heap[g]? = some (.cells #[u] t (0, 0)) := by
  simp [World.setCell, Array.getElem?_modify, h]

/-- What has been scanned so far has left. -/
structure RelI (ws : World) (RW E : Nat) (ps : List KV) (W : World) (l : List KV) (b : Bool) : Prop where
  same : ∀ k, k < ws.heap.size → k ≠ RW → k ≠ E → W.heap[k]? = ws.heap[k]?
  below : Below RW ws W
  res : if b then ∃ rows v, relL ps l = some rows ∧ W.heap[RW]? = some (.cells #[v] 150 (0, 0)) ∧ OwnR W ws.heap.size 109 13 rowCs v rows ∧ W.heap[E]? = some (.cells #[.nilIface] 113 (0, 0))
    else relL ps l = none ∧ W.heap[E]? = some (.cells #[.iface 63 (.int .u8 28)] 113 (0, 0))

theorem RelI.grow {ws W W' : World} {RW E : Nat} {ps l : List KV} {b : Bool} (h : RelI ws RW E ps W l b) (hb : Below W.heap.size W W') (ho : RW < ws.heap.size ∧ E < ws.heap.size) : RelI ws RW E ps W' l b := by
  have hs := h.below.size
  refine ⟨fun k h1 h2 h3 => (hb.block k (by omega)).trans (h.same k h1 h2 h3), h.below.trans (hb.mono (by omega)), ?_⟩
  have hres := h.res
  cases b with
  | true =>
    obtain ⟨rows, v, h1, h2, h3, h4⟩ := hres
    exact ⟨rows, v, h1, (hb.block _ (by omega)).trans h2, h3.below hb (Nat.le_refl _), (hb.block _ (by omega)).trans h4⟩
  | false => exact ⟨hres.1, (hb.block _ (by omega)).trans hres.2⟩

structure RelPost (ws : World) (RW E : Nat) (ps : List KV) (w' : World) (l : List KV) (e : Ending) : Prop where
  ex : ∃ b : Bool, e = .returned (.bool b) ∧ RelI ws RW E ps w' l b

structure RelX (ws W V : World) (RW E : Nat) (ev v : Value) (pl : Int × Int) (c : Change) : Prop where
  same : ∀ k, k < ws.heap.size → k ≠ RW → k ≠ E → V.heap[k]? = ws.heap[k]?
  below : Below RW ws V
  e : V.heap[E]? = some (.cells #[ev] 113 (0, 0))
  r : V.heap[RW]? = some (.cells #[v] 150 (0, 0))
  p : V.heap[W.heap.size]? = some (.cells (plcCs pl) 405 (0, 0))
  c : V.heap[W.heap.size + 1]? = some (.cells (changeCs c) 111 (0, 0))
  old : ∀ k, k < W.heap.size → k ≠ RW → k ≠ E → V.heap[k]? = W.heap[k]?
  size : W.heap.size + 2 ≤ V.heap.size
  wsz : ws.heap.size ≤ W.heap.size
  ord : RW < E ∧ E < ws.heap.size
theorem RelX.next {ws W V V' : World} {RW E : Nat} {ev v : Value} {pl : Int × Int} {c : Change} (h : RelX ws W V RW E ev v pl c) (hb : Below V.heap.size V V') : RelX ws W V' RW E ev v pl c := by
  obtain ⟨h1, h2, h3, h4, h5, h6, h7, h8, h9, h10⟩ := h
  have := hb.size
  exact ⟨fun k a b d => (hb.block _ (by omega)).trans (h1 k a b d), h2.trans (hb.mono (by omega)), (hb.block _ (by omega)).trans h3, (hb.block _ (by omega)).trans h4, (hb.block _ (by omega)).trans h5, (hb.block _ (by omega)).trans h6, fun k a b d => (hb.block _ (by omega)).trans (h7 k a b d), by omega, h9, h10⟩
theorem RelX.setE {ws W V : World} {RW E : Nat} {ev v : Value} {pl : Int × Int} {c : Change} (h : RelX ws W V RW E ev v pl c) (u : Value) : RelX ws W (V.setCell ⟨E, 0, none⟩ u) RW E u v pl c := by
  obtain ⟨h1, h2, h3, h4, h5, h6, h7, h8, h9, h10⟩ := h
  have ho : ∀ k, k ≠ E → (V.setCell ⟨E, 0, none⟩ u).heap[k]? = V.heap[k]? := fun k hk => Below.heap_setCell _ _ _ _ hk
  exact ⟨fun k a b d => (ho k d).trans (h1 k a b d), h2.setCell (p := ⟨E, 0, none⟩) (Nat.le_of_lt h10.1) u, heap_set1 h3, (ho _ (by omega)).trans h4, (ho _ (by omega)).trans h5, (ho _ (by omega)).trans h6, fun k a b d => (ho k d).trans (h7 k a b d), by simpa [World.setCell] using h8, h9, h10⟩
theorem RelX.setP {ws W V : World} {RW E : Nat} {ev v : Value} {pl : Int × Int} {c : Change} (h : RelX ws W V RW E ev v pl c) (u : Int × Int) : RelX ws W (V.setRow W.heap.size (plcCs u)) RW E ev v u c := by
  obtain ⟨h1, h2, h3, h4, h5, h6, h7, h8, h9, h10⟩ := h
  have ho : ∀ k, k ≠ W.heap.size → (V.setRow W.heap.size (plcCs u)).heap[k]? = V.heap[k]? := fun k hk => setRow_other _ _ _ _ hk
  exact ⟨fun k a b d => (ho k (by omega)).trans (h1 k a b d), h2.trans (below_setRow' _ _ (by omega)), (ho _ (by omega)).trans h3, (ho _ (by omega)).trans h4, heap_setRow_at h5, (ho _ (by omega)).trans h6, fun k a b d => (ho k (by omega)).trans (h7 k a b d), by simpa using h8, h9, h10⟩
theorem RelX.setC {ws W V : World} {RW E : Nat} {ev v : Value} {pl : Int × Int} {c : Change} (h : RelX ws W V RW E ev v pl c) (u : Change) : RelX ws W (V.setRow (W.heap.size + 1) (changeCs u)) RW E ev v pl u := by
  obtain ⟨h1, h2, h3, h4, h5, h6, h7, h8, h9, h10⟩ := h
  have ho : ∀ k, k ≠ W.heap.size + 1 → (V.setRow (W.heap.size + 1) (changeCs u)).heap[k]? = V.heap[k]? := fun k hk => setRow_other _ _ _ _ hk
  exact ⟨fun k a b d => (ho k (by omega)).trans (h1 k a b d), h2.trans (below_setRow' _ _ (by omega)), (ho _ (by omega)).trans h3, (ho _ (by omega)).trans h4, (ho _ (by omega)).trans h5, heap_setRow_at h6, fun k a b d => (ho k (by omega)).trans (h7 k a b d), by simpa using h8, h9, h10⟩
theorem RelX.facts {ws W V : World} {RW E : Nat} {ev v : Value} {pl : Int × Int} {c : Change} (h : RelX ws W V RW E ev v pl c) : (V.cell? ⟨E, 0, none⟩ = some ev ∧ V.frozen? ⟨E, 0, none⟩ = false ∧ E < V.heap.size) ∧ (V.cell? ⟨RW, 0, none⟩ = some v ∧ V.frozen? ⟨RW, 0, none⟩ = false ∧ RW < V.heap.size) ∧ (rng V W.heap.size 0 2 = some (plcCs pl) ∧ whole V W.heap.size 2 = true ∧ W.heap.size < V.heap.size) ∧ (whole V (W.heap.size + 1) 14 = true ∧ W.heap.size + 1 < V.heap.size) :=
  ⟨cell_one h.e, cell_one h.r, ⟨rng_whole h.p, whole_blk h.p, blk_lt h.p⟩, whole_blk h.c, blk_lt h.c⟩
theorem RelX.fail {ws W V : World} {RW E : Nat} {v : Value} {pl : Int × Int} {c : Change} {ps l : List KV} (h : RelX ws W V RW E (.iface 63 (.int .u8 28)) v pl c) (hr : relL ps l = none) : RelI ws RW E ps V l false :=
  ⟨h.same, h.below, hr, h.e⟩

/-- Behind the scan. -/
structure RelEnd (w W : World) (RW E : Nat) (R : Option (List Row)) : Prop where
  below : Below w.heap.size w W
  res : match R with
    | some rows => ∃ v, W.heap[RW]? = some (.cells #[v] 150 (0, 0)) ∧ OwnR W w.heap.size 109 13 rowCs v rows ∧ W.heap[E]? = some (.cells #[.nilIface] 113 (0, 0))
    | none => W.heap[E]? = some (.cells #[.iface 63 (.int .u8 28)] 113 (0, 0))
theorem RelEnd.of {w ws W : World} {RW E : Nat} {ps L : List KV} {b : Bool} {R : Option (List Row)} (HR : Hid (R = relR ps)) (hb : Below w.heap.size w ws) (hRW : w.heap.size ≤ RW) (h : RelI ws RW E ps W L b)
    (hL : (b = true ∧ L = scanB ps (key0B 114) (key0B 115) (ps.length + 1) none) ∨ (b = false ∧ ∃ r, L ++ r = scanB ps (key0B 114) (key0B 115) (ps.length + 1) none)) : RelEnd w W RW E R := by
  refine ⟨hb.trans (h.below.mono hRW), ?_⟩
  have hres := h.res
  rcases hL with ⟨rfl, rfl⟩ | ⟨rfl, r, hr⟩
  · obtain ⟨rows, v, h1, h2, h3, h4⟩ := hres
    have : R = some rows := HR.out.trans h1
    subst this
    exact ⟨v, h2, h3.lower hb.size, h4⟩
  · obtain ⟨h1, h2⟩ := hres
    have : R = none := HR.out.trans (by rw [relR, ← hr]; exact relL_none h1 r)
    subst this
    exact h2

attribute [local go_sem] ext_const Ext.cell Ext.frozen Ext.rng Ext.whole
attribute [local go_sem ↓] exec_ldPlc exec_stPlc exec_stChange exec_ldRow exec_bsRow
attribute [local go_sem] run_ldPlc run_stPlc run_stChange run_ldRow run_bsRow rowCs_size rowCs_ones rowCs_all changeCs_size changeCs_ones changeCs_all whole_alloc_lt whole_alloc_at whole_drew setRow_alloc_at setRow_alloc_lt rng_alloc_lt rng_alloc_at rng_drew rng_drewN

set_option maxRecDepth 100000 in
set_option maxHeartbeats 4000000 in
theorem rel1_calls (ws W : World) (Y S LB SB RW E : Nat) (A : Nat → Prop) (ps : List KV) (full : Bool) (l : List KV) (p : KV) (kv vv : Value) (hY : SysAt ws Y S LB) (hS : StoreAt ws S A ps full) (hps : PsOk ps) (hp : p ∈ ps)
    (hSB : ws.heap[SB]? = some (.cells #[.pointer (some ⟨Y, 0, none⟩)] 86 (0, 0))) (ho : RW < E ∧ E < ws.heap.size) (hlo : Y < RW ∧ S < RW ∧ SB < RW) (hA : ∀ b, A b → b < RW) (hll : l.length ≤ 100000001) (hI : RelI ws RW E ps W l true) (hk : BytesAt W (ws.heap.size ≤ ·) kv p.1) (hv : BytesAt W (ws.heap.size ≤ ·) vv p.2) :
    Calls Tryz.prog 250 #[kv, vv, .pointer (some ⟨E, 0, none⟩), .pointer (some ⟨SB, 0, none⟩), .pointer (some ⟨RW, 0, none⟩)] W fun e w' => RelPost ws RW E ps w' (l ++ [p]) e := by
  obtain ⟨rows, v, hrel, hRW, hown, hE⟩ := hI.res
  obtain ⟨va, vn, vc, rfl⟩ := hown.form3
  have hrl : rows.length ≤ 100000001 := by
    obtain ⟨a, ha, hl2⟩ := relL_len hrel
    injection ha with ha
    subst ha
    simp at hl2
    omega
  have hws : ws.heap.size ≤ W.heap.size := hI.below.size
  have HREL := hide hrel
  have HOWN := hide hown
  have HK := hide hk
  have HV := hide hv
  have HI := hide hI
  have HY := hide hY
  have HSS := hide hS
  have HSB := hide hSB
  have hpo := hps p hp
  clear hI hY hS hk hv hown hrel hSB
  go_enter Tryz.func250, Tryz.ntmps250
  go_upto_region 4 with fail
  have HX0 : Hid (RelX ws W ((W.alloc (.cells (plcCs (0, 0)) 405)).alloc (.cells (changeCs zeroChg) 111)) RW E .nilIface (.slice va vn vc) (0, 0) zeroChg) := by
    have hb : Below W.heap.size W ((W.alloc (.cells (plcCs (0, 0)) 405)).alloc (.cells (changeCs zeroChg) 111)) := ((Below.refl _ _).alloc (Nat.le_refl _) _).alloc (by simp) _
    refine ⟨fun k a b d => (hb.block _ (by omega)).trans (HI.out.same k a b d), HI.out.below.trans (hb.mono (by omega)), (hb.block _ (by omega)).trans hE, (hb.block _ (by omega)).trans hRW, (Below.heap_alloc _ _ _ (by simp)).trans (heap_alloc_at _ _), box2 W _ _ _ _, fun k a b d => hb.block _ a, by simp, hws, ho⟩
  have HIS := hide HI.out.same
  clear HI hE hRW
  simp only [plcCs, changeCs, zeroChg] at HX0
  generalize (World.alloc (World.alloc W _) _) = V at *
  have HX : Hid (RelX ws W V RW E .nilIface (.slice va vn vc) (0, 0) zeroChg) := HX0.out
  clear HX0
  have HVB : Hid (∀ V' ev pl c x bs, RelX ws W V' RW E ev (.slice va vn vc) pl c → BytesAt W (ws.heap.size ≤ ·) x bs → BytesAt V' (ws.heap.size ≤ ·) x bs) := fun V' ev pl c x bs h hx => (RArr.lt hx).mono (fun b hb => h.old b hb.2 (by omega) (by omega)) (fun b hb => hb.1)
  have hof : ones #[.iface 63 (.int .u8 28)] 1 = true := rfl
  obtain ⟨⟨e0, e1, e2⟩, ⟨r0, r1, r2⟩, ⟨p0, p1, p2⟩, c0, c1⟩ := HX.out.facts
  cases hsk : splitK 114 p.1 with
  | none =>
    have HN : Hid (relL ps (l ++ [p]) = none) := by show _ = _; rw [relL_snoc, HREL.out]; simp [relAdd, relStep, hsk]
    go_wp2_with (go_at_call 251; refine (splitK_calls _ 114 _ _ p.1 (HVB.out _ _ _ _ _ _ HX.out HK.out) hpo.1).mono ?_; rintro e w1 ⟨rfl, hb1⟩; rw [hsk]; have HX1 := hide (HX.out.next hb1); clear e0 e1 e2 r0 r1 r2 p0 p1 p2 c0 c1; obtain ⟨⟨e0, e1, e2⟩, ⟨r0, r1, r2⟩, ⟨p0, p1, p2⟩, c0, c1⟩ := HX1.out.facts; simp only [splitV])
    go_ret
    exact ⟨⟨false, rfl, (HX1.out.setE _).fail HN.out⟩⟩
  | some q =>
    obtain ⟨qs, qa⟩ := q
    go_upto_region 7 with (go_at_call 251; refine (splitK_calls _ 114 _ _ p.1 (HVB.out _ _ _ _ _ _ HX.out HK.out) hpo.1).mono ?_; rintro e w1 ⟨rfl, hb1⟩; rw [hsk]; have HX1 := hide (HX.out.next hb1); clear e0 e1 e2 r0 r1 r2 p0 p1 p2 c0 c1; obtain ⟨⟨e0, e1, e2⟩, ⟨r0, r1, r2⟩, ⟨p0, p1, p2⟩, c0, c1⟩ := HX1.out.facts; simp only [splitV])
    have HX2 := hide (HX1.out.setE .nilIface)
    clear HX HX1 hb1 e0 e1 e2 r0 r1 r2 p0 p1 p2 c0 c1
    generalize (World.setCell w1 _ _) = V2 at *
    obtain ⟨⟨e0, e1, e2⟩, ⟨r0, r1, r2⟩, ⟨p0, p1, p2⟩, c0, c1⟩ := HX2.out.facts
    have hov : ∀ x, ones (plcCs x) 2 = true := fun _ => rfl
    simp only [plcCs] at hov
    cases hdp : decPlc p.2 with
    | none =>
      have HN : Hid (relL ps (l ++ [p]) = none) := by show _ = _; rw [relL_snoc, HREL.out]; simp [relAdd, relStep, hsk, hdp]
      go_wp2_with (go_at_call 252; refine (decPlc_calls _ _ _ p.2 (HVB.out _ _ _ _ _ _ HX2.out HV.out) hpo.2).mono ?_; rintro e w3 ⟨hd3, hb3⟩; rw [hdp] at hd3; have hd4 : e = .returned (.tuple #[.agg (plcCs (0, 0)), .iface 63 (.int .u8 28)]) := hd3; subst hd4; have HX3 := hide (HX2.out.next hb3); clear e0 e1 e2 r0 r1 r2 p0 p1 p2 c0 c1; obtain ⟨⟨e0, e1, e2⟩, ⟨r0, r1, r2⟩, ⟨p0, p1, p2⟩, c0, c1⟩ := HX3.out.facts; obtain ⟨⟨s0, s1, s2⟩, -⟩ := (HX3.out.setP (0, 0)).facts; simp only [plcCs] at s0 s1 s2 ⊢)
      go_ret
      exact ⟨⟨false, rfl, ((HX3.out.setP (0, 0)).setE _).fail HN.out⟩⟩
    | some f =>
      have hfo := decPlc_ok hpo.2 hdp
      obtain ⟨ff, fl⟩ := f
      go_upto_region 10 with (go_at_call 252; refine (decPlc_calls _ _ _ p.2 (HVB.out _ _ _ _ _ _ HX2.out HV.out) hpo.2).mono ?_; rintro e w3 ⟨hd3, hb3⟩; rw [hdp] at hd3; have hd4 : e = .returned (.tuple #[.agg (plcCs (ff, fl)), .nilIface]) := hd3; subst hd4; have HX3 := hide (HX2.out.next hb3); clear e0 e1 e2 r0 r1 r2 p0 p1 p2 c0 c1; obtain ⟨⟨e0, e1, e2⟩, ⟨r0, r1, r2⟩, ⟨p0, p1, p2⟩, c0, c1⟩ := HX3.out.facts; obtain ⟨⟨s0, s1, s2⟩, -⟩ := (HX3.out.setP (ff, fl)).facts; simp only [plcCs] at s0 s1 s2 ⊢)
      have HX4 : Hid (RelX ws W ((w3.setRow W.heap.size (plcCs (ff, fl))).setCell ⟨E, 0, none⟩ .nilIface) RW E .nilIface (.slice va vn vc) (ff, fl) zeroChg) := (HX3.out.setP (ff, fl)).setE .nilIface
      clear HX2 HX3 hd3 hb3 s0 s1 s2 e0 e1 e2 r0 r1 r2 p0 p1 p2 c0 c1
      simp only [plcCs] at HX4
      generalize (World.setCell (World.setRow w3 _ _) _ _) = V4 at *
      obtain ⟨⟨e0, e1, e2⟩, ⟨r0, r1, r2⟩, ⟨p0, p1, p2⟩, c0, c1⟩ := HX4.out.facts
      have hsb : V4.cell? ⟨SB, 0, none⟩ = some (.pointer (some ⟨Y, 0, none⟩)) := (cell_one ((HX4.out.same SB (by omega) (by omega) (by omega)).trans HSB.out)).1
      have hsl : SB < V4.heap.size := by have := HX4.out.size; omega
      have hov1 : ∀ x, ones (changeCs x) 14 = true := fun _ => rfl
      have HY4 : Hid (SysAt V4 Y S LB) := (HX4.out.same Y (by omega) (by omega) (by omega)).trans HY.out
      have HS4 : Hid (StoreAt V4 S A ps full) := HSS.out.mono (fun b hb => HX4.out.same b (by rcases hb with hb | rfl; have := hA b hb; omega; omega) (by rcases hb with hb | rfl; have := hA b hb; omega; omega) (by rcases hb with hb | rfl; have := hA b hb; omega; omega)) (by have := HX4.out.size; omega)
      cases hcg : chgR ps ff fl with
      | error cc =>
        have hcc := chgR_err hcg
        subst hcc
        have HN : Hid (relL ps (l ++ [p]) = none) := by show _ = _; rw [relL_snoc, HREL.out]; simp [relAdd, relStep, hsk, hdp, hcg]
        go_wp2_with (go_at_call 245; refine (chgR_calls _ Y S LB A ps full ff fl HY4.out HS4.out hps hfo.1 hfo.2).mono ?_; rintro e w5 ⟨hd5, hb5⟩; rw [hcg] at hd5; have hd6 : e = .returned (.tuple #[.agg (changeCs zeroChg), .iface 63 (.int .u8 28)]) := hd5; subst hd6; have HX5 := hide (HX4.out.next hb5); clear e0 e1 e2 r0 r1 r2 p0 p1 p2 c0 c1 hsb hsl; obtain ⟨⟨e0, e1, e2⟩, ⟨r0, r1, r2⟩, ⟨p0, p1, p2⟩, c0, c1⟩ := HX5.out.facts; obtain ⟨⟨s0, s1, s2⟩, -⟩ := (HX5.out.setC zeroChg).facts)
        go_ret
        exact ⟨⟨false, rfl, ((HX5.out.setC zeroChg).setE _).fail HN.out⟩⟩
      | ok c =>
        go_upto_region 13 with (go_at_call 245; refine (chgR_calls _ Y S LB A ps full ff fl HY4.out HS4.out hps hfo.1 hfo.2).mono ?_; rintro e w5 ⟨hd5, hb5⟩; rw [hcg] at hd5; have hd6 : e = .returned (.tuple #[.agg (changeCs c), .nilIface]) := hd5; subst hd6; have HX5 := hide (HX4.out.next hb5); clear e0 e1 e2 r0 r1 r2 p0 p1 p2 c0 c1 hsb hsl; obtain ⟨⟨e0, e1, e2⟩, ⟨r0, r1, r2⟩, ⟨p0, p1, p2⟩, c0, c1⟩ := HX5.out.facts; obtain ⟨⟨s0, s1, s2⟩, -⟩ := (HX5.out.setC c).facts)
        have HX6 : Hid (RelX ws W ((w5.setRow (W.heap.size + 1) (changeCs c)).setCell ⟨E, 0, none⟩ .nilIface) RW E .nilIface (.slice va vn vc) (ff, fl) c) := (HX5.out.setC c).setE .nilIface
        clear HX4 HX5 hd5 hb5 s0 s1 s2 e0 e1 e2 r0 r1 r2 p0 p1 p2 c0 c1 HY4 HS4
        generalize (World.setCell (World.setRow w5 _ _) _ _) = V6 at *
        obtain ⟨⟨e0, e1, e2⟩, ⟨r0, r1, r2⟩, -, -, c1⟩ := HX6.out.facts
        have k0 : V6.cell? ⟨W.heap.size + 1, 0, none⟩ = some (.int .u8 c.action) := by rw [World.cell?, HX6.out.c]; rfl
        have k1 : V6.cell? ⟨W.heap.size + 1, 1, none⟩ = some (.int .u32 c.row.sample) := by rw [World.cell?, HX6.out.c]; rfl
        have k2 : V6.cell? ⟨W.heap.size + 1, 2, none⟩ = some (.int .u32 c.row.analyte) := by rw [World.cell?, HX6.out.c]; rfl
        have k3 : rng V6 (W.heap.size + 1) 1 13 = some (rowCs c.row) := by unfold Qxb6500666aGreatDoor.rng; rw [HX6.out.c]; rfl
        cases t0 : (c.action == 87) with
        | true =>
          have HN : Hid (relL ps (l ++ [p]) = none) := by show _ = _; rw [relL_snoc, HREL.out]; simp only [relAdd, relStep, hsk, hdp, hcg, t0]; rfl
          go_wp2
          go_ret
          exact ⟨⟨false, rfl, (HX6.out.setE _).fail HN.out⟩⟩
        | false =>
          cases t1 : (c.row.sample != qs) with
          | true =>
            have HN : Hid (relL ps (l ++ [p]) = none) := by show _ = _; rw [relL_snoc, HREL.out]; simp only [relAdd, relStep, hsk, hdp, hcg, t0, t1]; rfl
            go_wp2
            go_ret
            exact ⟨⟨false, rfl, (HX6.out.setE _).fail HN.out⟩⟩
          | false =>
            cases t2 : (c.row.analyte != qa) with
            | true =>
              have HN : Hid (relL ps (l ++ [p]) = none) := by show _ = _; rw [relL_snoc, HREL.out]; simp only [relAdd, relStep, hsk, hdp, hcg, t0, t1, t2]; rfl
              go_wp2
              go_ret
              exact ⟨⟨false, rfl, (HX6.out.setE _).fail HN.out⟩⟩
            | false =>
              have HN : Hid (relL ps (l ++ [p]) = some (rows ++ [c.row])) := by show _ = _; rw [relL_snoc, HREL.out]; simp only [relAdd, relStep, hsk, hdp, hcg, t0, t1, t2]; rfl
              have HO6 : Hid (OwnR V6 ws.heap.size 109 13 rowCs (.slice va vn vc) rows) := HOWN.out.mono fun b hb => HX6.out.old b (HOWN.out.block b hb).2 (by have := (HOWN.out.block b hb).1; omega) (by have := (HOWN.out.block b hb).1; omega)
              have hz6 := HX6.out.size
              have hb7 : Below V6.heap.size V6 (V6.alloc (.cells (rowCs c.row) 109)) := (Below.refl _ _).alloc (Nat.le_refl _) _
              have HO7 := hide (OwnR.below HO6.out hb7 (Nat.le_refl _))
              go_wp2_with (at_builtin; refine wpList_app1 (α := Row) rfl _ _ 150 rfl ws.heap.size 109 rowCs Tryz.underlying150 Tryz.info109 rfl (by decide) rowCs_size rowCs_one _ rows rfl HO7.out _ rfl c.row (rng_whole (heap_alloc_at _ _)) (by omega) (by unfold maxLen; omega) (by simp only [World.size_alloc]; omega) ?_; intro v9 w9 hown9 hsame9 hbel9 hat9; obtain ⟨xa, xn, xc, ex⟩ := hown9.form3; subst ex; have hr9 := (hbel9.block RW (by omega)).trans ((hb7.block RW (by omega)).trans HX6.out.r); obtain ⟨r0, r1, r2⟩ := cell_one hr9)
              go_ret
              have hx7 : ∀ k, k < ws.heap.size → w9.heap[k]? = V6.heap[k]? := fun k hk => (hbel9.block k hk).trans (hb7.block k (by omega))
              have ho9 : ∀ k, k ≠ RW → (w9.setCell ⟨RW, 0, none⟩ (.slice xa xn xc)).heap[k]? = w9.heap[k]? := fun k hk => Below.heap_setCell _ _ _ _ hk
              refine ⟨⟨true, rfl, fun k h1 h2 h3 => (ho9 k h2).trans ((hx7 k h1).trans (HX6.out.same k h1 h2 h3)), ?_, rows ++ [c.row], _, HN.out, heap_set1 hr9, hown9.mono (fun b hb => ho9 b (by have := (hown9.block b hb).1; omega)), (ho9 E (by omega)).trans ((hx7 E (by omega)).trans HX6.out.e)⟩⟩
              exact (HX6.out.below.trans ((hb7.mono (by omega)).trans (hbel9.mono (by omega)))).setCell (p := ⟨RW, 0, none⟩) (Nat.le_refl _) _

/-- The scan, from where the two keys are made. -/
theorem relScan (w W0 w5 : World) (Y S LB : Nat) (A : Nat → Prop) (ps : List KV) (full : Bool) (R : Option (List Row)) (HR : Hid (R = relR ps)) (hY : SysAt w Y S LB) (hS : StoreAt w S A ps full) (hps : PsOk ps) (hpl : ps.length ≤ 100000000)
    (hb0 : Below w.heap.size w W0) (hz0 : W0.heap.size = w.heap.size + 3) (hx0 : W0.heap[w.heap.size]? = some (.cells #[.pointer (some ⟨Y, 0, none⟩)] 86 (0, 0))) (hx1 : W0.heap[w.heap.size + 1]? = some (.cells #[.slice none 0 0] 150 (0, 0))) (hx2 : W0.heap[w.heap.size + 1 + 1]? = some (.cells #[.nilIface] 113 (0, 0)))
    (hb5 : Below W0.heap.size W0 w5) (ka ta : Option Addr) (kn kc tn tc : Nat) (hk : BytesAt w5 (W0.heap.size ≤ ·) (.slice ka kn kc) (key0B 114)) (ht : BytesAt w5 (W0.heap.size ≤ ·) (.slice ta tn tc) (key0B 115)) :
    Calls Tryz.prog 249 #[.pointer (some ⟨S, 0, none⟩), .slice ka kn kc, .slice ta tn tc, .func (.func 250) #[] #[.pointer (some ⟨w.heap.size + 1 + 1, 0, none⟩), .pointer (some ⟨w.heap.size, 0, none⟩), .pointer (some ⟨w.heap.size + 1, 0, none⟩)]] w5 fun e w' => e = .returned (.tuple #[]) ∧ RelEnd w w' (w.heap.size + 1) (w.heap.size + 1 + 1) R := by
  have hYl := blk_lt hY
  have hSl := hS.ex.elim fun _ h => h.elim fun _ h => h.elim fun _ h => blk_lt h.1
  have hs5 := hb5.size
  have hw5 : Below w.heap.size w w5 := hb0.trans (hb5.mono (by omega))
  have hYw : SysAt w5 Y S LB := (hw5.block _ hYl).trans hY
  have hSw : StoreAt w5 S A ps full := hS.below hw5
  have hta : ta ≠ none := by
    obtain ⟨a, cap, b, off, h1, -, -, -, h5, -⟩ := ht
    injection h1 with h1 _ _
    rw [h1, (h5 (by decide)).1]
    intro h; cases h
  have hI0 : RelI w5 (w.heap.size + 1) (w.heap.size + 1 + 1) ps w5 [] true :=
    ⟨fun _ _ _ _ => rfl, Below.refl _ _, [], _, rfl, (hb5.block _ (by omega)).trans hx1, OwnR.nil _ _ _ _ _, (hb5.block _ (by omega)).trans hx2⟩
  have hstore : ∀ W l b, RelI w5 (w.heap.size + 1) (w.heap.size + 1 + 1) ps W l b → StoreAt W S A ps full := fun W l b h => hSw.mono (fun k hk => h.same k (by rcases hk with hk | rfl; exact hSw.lt k hk; omega) (by rcases hk with hk | rfl; have := hS.lt k hk; omega; omega) (by rcases hk with hk | rfl; have := hS.lt k hk; omega; omega)) h.below.size
  have hbytes : ∀ W l b v xs, RelI w5 (w.heap.size + 1) (w.heap.size + 1 + 1) ps W l b → BytesAt w5 (W0.heap.size ≤ ·) v xs → ∃ ok, BytesAt W ok v xs := fun W l b v xs h hx => ⟨_, (RArr.lt hx).mono (fun k hk => h.same k hk.2 (by have := hk.1; omega) (by have := hk.1; omega)) (fun _ h => h)⟩
  have hV : Vis S A ps full (w.heap.size + 1 + 1) w.heap.size (w.heap.size + 1) w5.heap.size (.slice ka kn kc) (.slice ta tn tc) (key0B 114) (key0B 115) (RelI w5 (w.heap.size + 1) (w.heap.size + 1 + 1) ps) :=
    ⟨fun W W' l b h hb => h.grow hb (by omega), fun W l h => hstore W l true h, fun W l h => h.below.size, fun W l h => hbytes W l true _ _ h hk, fun W l h => hbytes W l true _ _ h ht, fun W l p kv vv hI hl hp _ hkv hvv => by
      refine (rel1_calls w5 W Y S LB w.heap.size (w.heap.size + 1) (w.heap.size + 1 + 1) A ps full l p kv vv hYw hSw hps hp ((hb5.block _ (by omega)).trans hx0) (by omega) (by omega) (fun b hb => by have := hS.lt b hb; omega) (by omega) hI hkv hvv).mono ?_
      rintro e w' ⟨b, rfl, hI'⟩
      refine ⟨b, rfl, hI', fun k hk => ?_⟩
      have := hS.lt k hk
      exact (hI'.same k (by omega) (by omega) (by omega)).trans (hI.same k (by omega) (by omega) (by omega)).symm⟩
  refine (scan_calls w5 S A ps full (w.heap.size + 1 + 1) w.heap.size (w.heap.size + 1) w5.heap.size ka ta kn kc tn tc (key0B 114) (key0B 115) _ hV hta hI0).mono ?_
  rintro e w' ⟨rfl, L, b, hI, hL⟩
  exact ⟨rfl, RelEnd.of HR hw5 (by omega) hI hL⟩

set_option maxRecDepth 100000 in
set_option maxHeartbeats 4000000 in
theorem released_calls (w : World) (Y S LB : Nat) (A : Nat → Prop) (ps : List KV) (full : Bool) (hY : SysAt w Y S LB) (hS : StoreAt w S A ps full) (hps : PsOk ps) (hpl : ps.length ≤ 100000000) :
    Calls Tryz.prog 222 #[.pointer (some ⟨Y, 0, none⟩)] w fun e w' => OwnRes w w' 109 13 rowCs e 28 (relR ps) := by
  obtain ⟨R, hR⟩ : ∃ R, R = relR ps := ⟨_, rfl⟩
  rw [← hR]
  have HR := hide hR
  have HY := hide hY
  have HS := hide hS
  have hYl := blk_lt hY
  have hSl := hS.ex.elim fun _ h => h.elim fun _ h => h.elim fun _ h => blk_lt h.1
  clear hR hY hS
  go_enter Tryz.func222, Tryz.ntmps222
  go_upto_region 3 with fail
  have hb0 : Below w.heap.size w (((w.alloc (.cells #[.pointer (some ⟨Y, 0, none⟩)] 86)).alloc (.cells #[.slice none 0 0] 150)).alloc (.cells #[.nilIface] 113)) := (((Below.refl _ _).alloc (Nat.le_refl _) _).alloc (by simp) _).alloc (by simp; omega) _
  have hz0 : (((w.alloc (.cells #[.pointer (some ⟨Y, 0, none⟩)] 86)).alloc (.cells #[.slice none 0 0] 150)).alloc (.cells #[.nilIface] 113)).heap.size = w.heap.size + 3 := by simp
  have hx0 : (((w.alloc (.cells #[.pointer (some ⟨Y, 0, none⟩)] 86)).alloc (.cells #[.slice none 0 0] 150)).alloc (.cells #[.nilIface] 113)).heap[w.heap.size]? = some (.cells #[.pointer (some ⟨Y, 0, none⟩)] 86 (0, 0)) := (Below.heap_alloc _ _ _ (by simp; omega)).trans ((Below.heap_alloc _ _ _ (by simp)).trans (heap_alloc_at _ _))
  have hx1 : (((w.alloc (.cells #[.pointer (some ⟨Y, 0, none⟩)] 86)).alloc (.cells #[.slice none 0 0] 150)).alloc (.cells #[.nilIface] 113)).heap[w.heap.size + 1]? = some (.cells #[.slice none 0 0] 150 (0, 0)) := (Below.heap_alloc _ _ _ (by simp)).trans (box2 w _ _ _ _)
  have hx2 : (((w.alloc (.cells #[.pointer (some ⟨Y, 0, none⟩)] 86)).alloc (.cells #[.slice none 0 0] 150)).alloc (.cells #[.nilIface] 113)).heap[w.heap.size + 1 + 1]? = some (.cells #[.nilIface] 113 (0, 0)) := by
    have := heap_alloc_at ((w.alloc (.cells #[.pointer (some ⟨Y, 0, none⟩)] 86)).alloc (.cells #[.slice none 0 0] 150)) (.cells #[.nilIface] 113)
    simpa using this
  generalize (World.alloc (World.alloc (World.alloc w _) _) _) = W0 at *
  have HB0 := hide hb0
  have HX0 := hide hx0
  have HX1 := hide hx1
  have HX2 := hide hx2
  have HY0 : Hid (SysAt W0 Y S LB) := (hb0.block _ hYl).trans HY.out
  have y0 : W0.cell? ⟨Y, 0, none⟩ = some (.pointer (some ⟨S, 0, none⟩)) := by rw [World.cell?, HY0.out]; rfl
  have hyl : Y < W0.heap.size := by omega
  obtain ⟨x0, -, xl⟩ := cell_one hx0
  have HZ0 := hide hz0
  clear hb0 hx0 hx1 hx2 hz0
  go_cut [] (fun W => RelEnd w W (w.heap.size + 1) (w.heap.size + 1 + 1) R)
  case first =>
    as_aux_lemma =>
      refine wp_region_mixT (W0.heap.size) [0, 1, 2, 3] (by kernel_rfl) ?_
      refine mixT_reads [0, 1, 2, 3] (fuel := 4) rfl (by kernel_rfl) (by decide) (by kernel_rfl) (fun d _ _ _ _ h => by cases d <;> exact h) (ext_drew _ _) ?_
      simp only [opersAt, List.getElem?_toArray, List.getElem?_cons_zero, List.getElem?_cons_succ]
      repeat (go_big_quiet_step (fail))
      refine wpQuiet_nil ?_
      refine mixT_two (k := 4) (k' := 6) (by kernel_rfl) rfl rfl ?_ ?_
      · go_wp2_with (go_at_call 161; refine (key0_calls _ 114).mono ?_; rintro e w3 ⟨kv, rfl, hk3, hb3⟩)
        have hbk : Below W0.heap.size W0 w3 := (Below.refl _ _).drew.trans hb3
        refine ⟨Or.inr (by intros; exact ⟨⟨_, hbk⟩, rfl⟩), ?_⟩
        refine mixT_two (k := 5) (k' := 6) (by kernel_rfl) rfl rfl ?_ ?_
        · skip
          go_wp2_with (go_at_call 161; refine (key0_calls _ 115).mono ?_; rintro e w4 ⟨kv2, rfl, hk4, hb4⟩)
          have hbv : Below W0.heap.size W0 w4 := hbk.trans (hb4.mono hbk.size)
          refine ⟨Or.inr (by intros; exact ⟨⟨_, hbv⟩, rfl⟩), ?_⟩
          refine mixT_one (k := 6) (by kernel_rfl) rfl ?_
          go_wp2
          refine ⟨Or.inr (by intros; exact ⟨⟨_, hbv⟩, rfl⟩), ?_⟩
          obtain ⟨ka, kn, kc, ek⟩ := hk3.form3
          subst ek
          obtain ⟨ta, tn, tc, et⟩ := hk4.form3
          subst et
          have HK : Hid (BytesAt w4 (W0.heap.size ≤ ·) (.slice ka kn kc) (key0B 114)) := RArr.below (hk3.rows byteCs_size (by decide) (by decide)) hb4
          have HT : Hid (BytesAt w4 (W0.heap.size ≤ ·) (.slice ta tn tc) (key0B 115)) := RArr.mono (hk4.rows byteCs_size (by decide) (by decide)) (Same.refl _ _) (fun b hb => Nat.le_trans hbk.size hb)
          have HBV := hide hbv
          clear hk3 hb3 hk4 hb4 hbk hbv
          refine mixT_one (k := 7) (by kernel_rfl) rfl ?_
          go_wp2_with (go_at_call 249; refine (relScan w W0 _ Y S LB A ps full R HR HY.out HS.out hps hpl HB0.out HZ0.out HX0.out HX1.out HX2.out HBV.out _ _ _ _ _ _ HK.out HT.out).mono ?_; rintro e w9 ⟨rfl, hend⟩)
          refine ⟨Or.inl (by kernel_rfl), ?_⟩
          refine mixT_nil (by kernel_rfl) ?_
          go_wp2
          go_meet
          case rel => exact hend
        · go_wp2
          refine ⟨Or.inr (by intros; exact ⟨⟨_, hbk⟩, rfl⟩), ?_⟩
          refine mixT_one (k := 5) (by kernel_rfl) rfl ?_
          go_wp2_with (go_at_call 161; refine (key0_calls _ 115).mono ?_; rintro e w4 ⟨kv2, rfl, hk4, hb4⟩)
          have hbv : Below W0.heap.size W0 w4 := hbk.trans (hb4.mono hbk.size)
          refine ⟨Or.inr (by intros; exact ⟨⟨_, hbv⟩, rfl⟩), ?_⟩
          obtain ⟨ka, kn, kc, ek⟩ := hk3.form3
          subst ek
          obtain ⟨ta, tn, tc, et⟩ := hk4.form3
          subst et
          have HK : Hid (BytesAt w4 (W0.heap.size ≤ ·) (.slice ka kn kc) (key0B 114)) := RArr.below (hk3.rows byteCs_size (by decide) (by decide)) hb4
          have HT : Hid (BytesAt w4 (W0.heap.size ≤ ·) (.slice ta tn tc) (key0B 115)) := RArr.mono (hk4.rows byteCs_size (by decide) (by decide)) (Same.refl _ _) (fun b hb => Nat.le_trans hbk.size hb)
          have HBV := hide hbv
          clear hk3 hb3 hk4 hb4 hbk hbv
          refine mixT_one (k := 7) (by kernel_rfl) rfl ?_
          go_wp2_with (go_at_call 249; refine (relScan w W0 _ Y S LB A ps full R HR HY.out HS.out hps hpl HB0.out HZ0.out HX0.out HX1.out HX2.out HBV.out _ _ _ _ _ _ HK.out HT.out).mono ?_; rintro e w9 ⟨rfl, hend⟩)
          refine ⟨Or.inl (by kernel_rfl), ?_⟩
          refine mixT_nil (by kernel_rfl) ?_
          go_wp2
          go_meet
          case rel => exact hend
      · go_wp2
        refine ⟨Or.inr (by intros; exact ⟨⟨_, (Below.refl _ _).drew⟩, rfl⟩), ?_⟩
        refine mixT_one (k := 4) (by kernel_rfl) rfl ?_
        go_wp2_with (go_at_call 161; refine (key0_calls _ 114).mono ?_; rintro e w3 ⟨kv, rfl, hk3, hb3⟩)
        have hbk : Below W0.heap.size W0 w3 := (Below.refl _ _).drew.trans hb3
        refine ⟨Or.inr (by intros; exact ⟨⟨_, hbk⟩, rfl⟩), ?_⟩
        refine mixT_one (k := 5) (by kernel_rfl) rfl ?_
        go_wp2_with (go_at_call 161; refine (key0_calls _ 115).mono ?_; rintro e w4 ⟨kv2, rfl, hk4, hb4⟩)
        have hbv : Below W0.heap.size W0 w4 := hbk.trans (hb4.mono hbk.size)
        refine ⟨Or.inr (by intros; exact ⟨⟨_, hbv⟩, rfl⟩), ?_⟩
        obtain ⟨ka, kn, kc, ek⟩ := hk3.form3
        subst ek
        obtain ⟨ta, tn, tc, et⟩ := hk4.form3
        subst et
        have HK : Hid (BytesAt w4 (W0.heap.size ≤ ·) (.slice ka kn kc) (key0B 114)) := RArr.below (hk3.rows byteCs_size (by decide) (by decide)) hb4
        have HT : Hid (BytesAt w4 (W0.heap.size ≤ ·) (.slice ta tn tc) (key0B 115)) := RArr.mono (hk4.rows byteCs_size (by decide) (by decide)) (Same.refl _ _) (fun b hb => Nat.le_trans hbk.size hb)
        have HBV := hide hbv
        clear hk3 hb3 hk4 hb4 hbk hbv
        refine mixT_one (k := 7) (by kernel_rfl) rfl ?_
        go_wp2_with (go_at_call 249; refine (relScan w W0 _ Y S LB A ps full R HR HY.out HS.out hps hpl HB0.out HZ0.out HX0.out HX1.out HX2.out HBV.out _ _ _ _ _ _ HK.out HT.out).mono ?_; rintro e w9 ⟨rfl, hend⟩)
        refine ⟨Or.inl (by kernel_rfl), ?_⟩
        refine mixT_nil (by kernel_rfl) ?_
        go_wp2
        go_meet
        case rel => exact hend
  case rest =>
    as_aux_lemma =>
      have hend := hide hcut
      clear x0 xl y0 hyl hcut
      cases hRc : R with
      | none =>
        have h := hend.out.res
        rw [hRc] at h
        obtain ⟨e0, e1, e2⟩ := cell_one h
        clear h
        go_upto_region 5 with fail
        go_region
        all_goals (go_wp2; go_ret2; rw [hRc]; exact own_none rfl hend.out.below.drew (by decide))
      | some rows =>
        have h := hend.out.res
        rw [hRc] at h
        obtain ⟨v, h1, h2, h3⟩ := h
        obtain ⟨e0, e1, e2⟩ := cell_one h3
        obtain ⟨r0, r1, r2⟩ := cell_one h1
        have HO := hide h2
        clear h1 h2 h3
        go_wp2
        go_ret2
        rw [hRc]
        exact ⟨_, rfl, HO.out, hend.out.below⟩

end Go.Proofs.Qxb6500666aGreatDoor
