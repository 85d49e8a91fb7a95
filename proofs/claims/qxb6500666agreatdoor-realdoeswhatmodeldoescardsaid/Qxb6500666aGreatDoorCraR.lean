/- sameResponse, walked. -/
import Derived.Test.Qxb6500666aGreatDoorCraW
namespace Go.Proofs.Qxb6500666aGreatDoor
open Go.RowKit

/-- Two responses that read alike. -/
structure RS (W : World) (x y : Rsp) : Prop where
  e : y = { x with el := y.el, chg := y.chg, bytes := y.bytes, diffs := y.diffs, held := y.held }
  el : RArr W (fun _ => True) 1 u32Cs (sv x.el) x.en.req.list ∧ RArr W (fun _ => True) 1 u32Cs (sv y.el) x.en.req.list
  chg : ∃ cs, RWk W 14 changeCs (sv x.chg) cs ∧ RWk W 14 changeCs (sv y.chg) cs
  bytes : ∃ bs, RWk W 1 byteCs (sv x.bytes) bs ∧ RWk W 1 byteCs (sv y.bytes) bs
  diffs : ∃ ds, RWk W 5 diffCs (sv x.diffs) ds ∧ RWk W 5 diffCs (sv y.diffs) ds
  held : ∃ hs, RWk W 3 heldCs (sv x.held) hs ∧ RWk W 3 heldCs (sv y.held) hs
theorem RS.below {W W' : World} {x y : Rsp} (h : RS W x y) (hb : Below W.heap.size W W') : RS W' x y := by
  obtain ⟨h1, ⟨h2, h3⟩, ⟨cs, h4, h5⟩, ⟨bs, h6, h7⟩, ⟨ds, h8, h9⟩, ⟨hs, h10, h11⟩⟩ := h
  exact ⟨h1, ⟨RArr.below h2 hb, RArr.below h3 hb⟩, ⟨cs, h4.below hb, h5.below hb⟩, ⟨bs, h6.below hb, h7.below hb⟩, ⟨ds, h8.below hb, h9.below hb⟩, ⟨hs, h10.below hb, h11.below hb⟩⟩
/-- The two boxes. -/
structure R2 (w W : World) (x y : Rsp) : Prop where
  a : W.heap[w.heap.size]? = some (.cells (respCs x) 75 (0, 0))
  b : W.heap[w.heap.size + 1]? = some (.cells (respCs y) 75 (0, 0))
  bel : Below w.heap.size w W
theorem R2.start (w : World) (x y : Rsp) : R2 w ((w.alloc (.cells (respCs x) 75)).alloc (.cells (respCs y) 75)) x y :=
  ⟨(Below.heap_alloc _ _ _ (by simp)).trans (heap_alloc_at _ _), box2 w _ _ _ _, ((Below.refl _ _).alloc (Nat.le_refl _) _).alloc (by simp) _⟩
theorem R2.below {w W W' : World} {x y : Rsp} (h : R2 w W x y) (hb : Below W.heap.size W W') : R2 w W' x y :=
  ⟨(hb.block _ (blk_lt h.a)).trans h.a, (hb.block _ (blk_lt h.b)).trans h.b, h.bel.trans (hb.mono h.bel.size)⟩
/-- The facts read out of one box. -/
structure B1 (W : World) (B : Nat) (x : Rsp) : Prop where
  c0 : W.cell? ⟨B, 0, none⟩ = some (.int .u8 x.code)
  c1 : W.cell? ⟨B, 1, none⟩ = some (.int .u32 x.issued)
  c2 : W.cell? ⟨B, 2, none⟩ = some (.int .u8 x.role)
  c3 : W.cell? ⟨B, 3, none⟩ = some (.bool x.active)
  st : rng W B 4 4 = some (statCs x.st)
  en : rng W B 8 20 = some (entA x.en (sv x.el))
  c28 : W.cell? ⟨B, 28, none⟩ = some (.int .u16 x.holds)
  c29 : W.cell? ⟨B, 29, none⟩ = some (sv x.chg)
  hd : rng W B 30 7 = some (hdrCs x.hd)
  c37 : W.cell? ⟨B, 37, none⟩ = some (sv x.bytes)
  c38 : W.cell? ⟨B, 38, none⟩ = some (sv x.diffs)
  c39 : W.cell? ⟨B, 39, none⟩ = some (sv x.held)
theorem respCs_st (x : Rsp) : (respCs x).extract 4 (4 + 4) = statCs x.st := by kernel_rfl
theorem respCs_en (x : Rsp) : (respCs x).extract 8 (8 + 20) = entA x.en (sv x.el) := by kernel_rfl
theorem respCs_hd (x : Rsp) : (respCs x).extract 30 (30 + 7) = hdrCs x.hd := by kernel_rfl
theorem B1.of {W : World} {B : Nat} {x : Rsp} {t : TypeId} (h : W.heap[B]? = some (.cells (respCs x) t (0, 0))) : B1 W B x := by
  have h40 : rng W B 0 40 = some (respCs x) := rng_whole h
  have s1 := rng_sub (o := 4) (m := 4) h40 (by decide)
  have s2 := rng_sub (o := 8) (m := 20) h40 (by decide)
  have s3 := rng_sub (o := 30) (m := 7) h40 (by decide)
  rw [respCs_st, Nat.zero_add] at s1
  rw [respCs_en, Nat.zero_add] at s2
  rw [respCs_hd, Nat.zero_add] at s3
  exact ⟨cells_all h 0, cells_all h 1, cells_all h 2, cells_all h 3, s1, s2, cells_all h 28, cells_all h 29, s3, cells_all h 37, cells_all h 38, cells_all h 39⟩
attribute [local go_sem] ext_const Ext.cell Ext.frozen Ext.rng Ext.whole
attribute [local go_sem ↓] exec_ldStat exec_ldHd exec_ldEnt exec_eqlSta exec_eqlHdr
attribute [local go_sem] run_ldStat run_ldHd run_ldEnt run_eqlSta run_eqlHdr entA_size
set_option maxRecDepth 100000 in
set_option maxHeartbeats 4000000 in
theorem sameResp_calls (w : World) (x y : Rsp) (h : RS w x y) :
    Calls Tryz.prog 77 #[.agg (respCs x), .agg (respCs y)] w fun e w' => e = .returned (.bool true) ∧ Below w.heap.size w w' := by
  have HRS := hide (fun W (hb : Below w.heap.size w W) => h.below hb)
  obtain ⟨y1, y2, y3, y4, y5, y6, yel, y8, ychg, y10, yby, ydi, yhe⟩ := y
  have he := h.e
  simp only [Rsp.mk.injEq] at he
  obtain ⟨rfl, rfl, rfl, rfl, rfl, rfl, -, rfl, -, rfl, -, -, -⟩ := he
  obtain ⟨Y, hY⟩ : ∃ Y : Rsp, Y = { x with el := yel, chg := ychg, bytes := yby, diffs := ydi, held := yhe } := ⟨_, rfl⟩
  have HY := hide hY
  change Calls _ _ #[_, .agg (respCs { x with el := yel, chg := ychg, bytes := yby, diffs := ydi, held := yhe })] _ _
  rw [← hY]
  have HR0 := hide (R2.start w x Y)
  have HB : Hid (∀ W, R2 w W x Y → B1 W w.heap.size x ∧ B1 W (w.heap.size + 1) { x with el := yel, chg := ychg, bytes := yby, diffs := ydi, held := yhe }) := fun W hr => ⟨B1.of hr.a, by have h1 := B1.of hr.b; rw [HY.out] at h1; exact h1⟩
  clear h hY
  go_enter Tryz.func77, Tryz.ntmps77
  obtain ⟨bx, byy⟩ := HB.out _ HR0.out
  have pc0 : ((w.alloc (.cells (respCs x) 75)).alloc (.cells (respCs Y) 75)).cell? ⟨w.heap.size, 0, none⟩ = some (.int .u8 x.code) := bx.c0
  have qc0 : ((w.alloc (.cells (respCs x) 75)).alloc (.cells (respCs Y) 75)).cell? ⟨w.heap.size + 1, 0, none⟩ = some (.int .u8 x.code) := byy.c0
  have pc1 : ((w.alloc (.cells (respCs x) 75)).alloc (.cells (respCs Y) 75)).cell? ⟨w.heap.size, 1, none⟩ = some (.int .u32 x.issued) := bx.c1
  have qc1 : ((w.alloc (.cells (respCs x) 75)).alloc (.cells (respCs Y) 75)).cell? ⟨w.heap.size + 1, 1, none⟩ = some (.int .u32 x.issued) := byy.c1
  have pc2 : ((w.alloc (.cells (respCs x) 75)).alloc (.cells (respCs Y) 75)).cell? ⟨w.heap.size, 2, none⟩ = some (.int .u8 x.role) := bx.c2
  have qc2 : ((w.alloc (.cells (respCs x) 75)).alloc (.cells (respCs Y) 75)).cell? ⟨w.heap.size + 1, 2, none⟩ = some (.int .u8 x.role) := byy.c2
  have pc3 : ((w.alloc (.cells (respCs x) 75)).alloc (.cells (respCs Y) 75)).cell? ⟨w.heap.size, 3, none⟩ = some (.bool x.active) := bx.c3
  have qc3 : ((w.alloc (.cells (respCs x) 75)).alloc (.cells (respCs Y) 75)).cell? ⟨w.heap.size + 1, 3, none⟩ = some (.bool x.active) := byy.c3
  have pst : rng ((w.alloc (.cells (respCs x) 75)).alloc (.cells (respCs Y) 75)) w.heap.size 4 4 = some (statCs x.st) := bx.st
  have qst : rng ((w.alloc (.cells (respCs x) 75)).alloc (.cells (respCs Y) 75)) (w.heap.size + 1) 4 4 = some (statCs x.st) := byy.st
  have pen : rng ((w.alloc (.cells (respCs x) 75)).alloc (.cells (respCs Y) 75)) w.heap.size 8 20 = some (entA x.en (sv x.el)) := bx.en
  have qen : rng ((w.alloc (.cells (respCs x) 75)).alloc (.cells (respCs Y) 75)) (w.heap.size + 1) 8 20 = some (entA x.en (sv yel)) := byy.en
  clear bx byy
  go_wp2_with (first
    | (go_at_call 36; refine (sameEntry_calls _ _ _ x.en (sv x.el) (sv yel) (HRS.out _ HR0.out.bel).el.1 (HRS.out _ HR0.out.bel).el.2).mono ?_; rintro e W1 ⟨rfl, hb1⟩; have HR1 := hide (HR0.out.below hb1); clear hb1 pc0 qc0 pc1 qc1 pc2 qc2 pc3 qc3 pst qst pen qen; obtain ⟨bx, byy⟩ := HB.out _ HR1.out; have pc28 : W1.cell? ⟨w.heap.size, 28, none⟩ = some (.int .u16 x.holds) := bx.c28; have qc28 : W1.cell? ⟨w.heap.size + 1, 28, none⟩ = some (.int .u16 x.holds) := byy.c28; have pc29 : W1.cell? ⟨w.heap.size, 29, none⟩ = some (sv x.chg) := bx.c29; have qc29 : W1.cell? ⟨w.heap.size + 1, 29, none⟩ = some (sv ychg) := byy.c29; clear bx byy)
    | (go_at_call 118; obtain ⟨ll, h1, h2⟩ := (HRS.out _ HR1.out.bel).chg; refine (sameChgW_calls _ _ _ ll h1 h2).mono ?_; rintro e W2' ⟨rfl, k2, rfl⟩; have HR2 := hide (HR1.out.below (below_drewN (Below.refl _ _) k2)); clear h1 h2; generalize W1.drewN k2 = W2 at *; obtain ⟨bx, byy⟩ := HB.out _ HR2.out; have phd : rng W2 w.heap.size 30 7 = some (hdrCs x.hd) := bx.hd; have qhd : rng W2 (w.heap.size + 1) 30 7 = some (hdrCs x.hd) := byy.hd; have pc37 : W2.cell? ⟨w.heap.size, 37, none⟩ = some (sv x.bytes) := bx.c37; have qc37 : W2.cell? ⟨w.heap.size + 1, 37, none⟩ = some (sv yby) := byy.c37; clear bx byy)
    | (go_at_call 48; obtain ⟨ll, h1, h2⟩ := (HRS.out _ HR2.out.bel).bytes; refine (sameBytW_calls _ _ _ ll h1 h2).mono ?_; rintro e W3' ⟨rfl, k2, rfl⟩; have HR3 := hide (HR2.out.below (below_drewN (Below.refl _ _) k2)); clear h1 h2; generalize W2.drewN k2 = W3 at *; obtain ⟨bx, byy⟩ := HB.out _ HR3.out; have pc38 : W3.cell? ⟨w.heap.size, 38, none⟩ = some (sv x.diffs) := bx.c38; have qc38 : W3.cell? ⟨w.heap.size + 1, 38, none⟩ = some (sv ydi) := byy.c38; clear bx byy)
    | (go_at_call 74; obtain ⟨ll, h1, h2⟩ := (HRS.out _ HR3.out.bel).diffs; refine (sameDifW_calls _ _ _ ll h1 h2).mono ?_; rintro e W4' ⟨rfl, k2, rfl⟩; have HR4 := hide (HR3.out.below (below_drewN (Below.refl _ _) k2)); clear h1 h2; generalize W3.drewN k2 = W4 at *; obtain ⟨bx, byy⟩ := HB.out _ HR4.out; have pc39 : W4.cell? ⟨w.heap.size, 39, none⟩ = some (sv x.held) := bx.c39; have qc39 : W4.cell? ⟨w.heap.size + 1, 39, none⟩ = some (sv yhe) := byy.c39; clear bx byy)
    | (go_at_call 125; obtain ⟨ll, h1, h2⟩ := (HRS.out _ HR4.out.bel).held; refine (sameHelW_calls _ _ _ ll h1 h2).mono ?_; rintro e W5' ⟨rfl, k2, rfl⟩; have HR5 := hide (HR4.out.below (below_drewN (Below.refl _ _) k2)); clear h1 h2; generalize W4.drewN k2 = W5 at *))
  go_ret
  exact ⟨rfl, HR5.out.bel⟩

theorem RS.bare {W : World} {x : Rsp} (h1 : x.el = noS) (h2 : x.chg = noS) (h3 : x.bytes = noS) (h4 : x.diffs = noS) (h5 : x.held = noS) (h6 : x.en.req.list = []) : RS W x x := by
  refine ⟨rfl, ?_, ?_, ?_, ?_, ?_⟩
  · rw [h1, h6]
    exact ⟨RArr.nil _ _ _ _, RArr.nil _ _ _ _⟩
  · rw [h2]
    exact ⟨[], RWk.nil, RWk.nil⟩
  · rw [h3]
    exact ⟨[], RWk.nil, RWk.nil⟩
  · rw [h4]
    exact ⟨[], RWk.nil, RWk.nil⟩
  · rw [h5]
    exact ⟨[], RWk.nil, RWk.nil⟩
theorem RS.code {W : World} (c : Int) (i : Int) : RS W { rsp0 with code := c, issued := i } { rsp0 with code := c, issued := i } := RS.bare rfl rfl rfl rfl rfl rfl
end Go.Proofs.Qxb6500666aGreatDoor
