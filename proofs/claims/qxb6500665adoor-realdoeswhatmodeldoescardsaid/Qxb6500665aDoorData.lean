/- The script's data, and how they lie in memory. -/
import Derived.Test.Qxb6500665aDoorProg
import Derived.Test.Qxb6500665aDoorBase
namespace Go.Proofs.Qxb6500665aDoor
open Go.RowKit

structure Visit where
  id : Int
  target : Int
  early : Int
  late : Int
  panels : List Int

structure Op where
  kind : Int
  id : Int
  ref : Int
  minute : Int
  delta : Int
  l0 : Int
  l1 : Int
  l2 : Int
  list : List Int
  visits : List Visit

/-- The bounds of the integer kinds. -/
def U8 (x : Int) : Prop := 0 ≤ x ∧ x ≤ 255
def U32 (x : Int) : Prop := 0 ≤ x ∧ x ≤ 4294967295
def I64 (x : Int) : Prop := -9223372036854775808 ≤ x ∧ x ≤ 9223372036854775807

/-- One cell that is a uint32. -/
def EU32 (cs : List Value) (x : Int) : Prop := cs = [.int .u32 x] ∧ U32 x

/-- The five cells of a visit. -/
def EVisit (w : World) (ok : Nat → Prop) (cs : List Value) (v : Visit) : Prop :=
  ∃ pv, cs = [.int .u32 v.id, .int .i64 v.target, .int .i64 v.early, .int .i64 v.late, pv] ∧ U32 v.id ∧ I64 v.target ∧ I64 v.early ∧ I64 v.late ∧ Arr w ok 1 EU32 pv v.panels

/-- The ten cells of a step. -/
def EOp (w : World) (ok : Nat → Prop) (cs : List Value) (o : Op) : Prop :=
  ∃ lv vv, cs = [.int .u8 o.kind, .int .u32 o.id, .int .u32 o.ref, .int .i64 o.minute, .int .i64 o.delta, .int .i64 o.l0, .int .i64 o.l1, .int .i64 o.l2, lv, vv] ∧
    U8 o.kind ∧ U32 o.id ∧ U32 o.ref ∧ I64 o.minute ∧ I64 o.delta ∧ I64 o.l0 ∧ I64 o.l1 ∧ I64 o.l2 ∧ Arr w ok 1 EU32 lv o.list ∧ Arr w ok 5 (EVisit w ok) vv o.visits

theorem EVisit.mono {w w' : World} {ok ok' : Nat → Prop} (hs : Same ok w w') (hok : ∀ b, ok b → ok' b) {cs : List Value} {v : Visit} (h : EVisit w ok cs v) : EVisit w' ok' cs v := by
  obtain ⟨pv, h1, h2, h3, h4, h5, h6⟩ := h
  exact ⟨pv, h1, h2, h3, h4, h5, h6.mono hs hok (fun _ _ _ h => h)⟩

theorem EOp.mono {w w' : World} {ok ok' : Nat → Prop} (hs : Same ok w w') (hok : ∀ b, ok b → ok' b) {cs : List Value} {o : Op} (h : EOp w ok cs o) : EOp w' ok' cs o := by
  obtain ⟨lv, vv, h1, a1, a2, a3, a4, a5, a6, a7, a8, h2, h3⟩ := h
  exact ⟨lv, vv, h1, a1, a2, a3, a4, a5, a6, a7, a8, h2.mono hs hok (fun _ _ _ h => h), h3.mono hs hok (fun _ _ _ h => h.mono hs hok)⟩

/-- The script. -/
def Script (w : World) (ok : Nat → Prop) (v : Value) (s : List Op) : Prop := Arr w ok 10 (EOp w ok) v s

theorem Script.mono {w w' : World} {ok ok' : Nat → Prop} (hs : Same ok w w') (hok : ∀ b, ok b → ok' b) {v : Value} {s : List Op} (h : Script w ok v s) : Script w' ok' v s :=
  Arr.mono h hs hok (fun _ _ _ h => h.mono hs hok)

theorem Tryd.cells34 : Tryd.prog.cellsOf 34 = 10 := by kernel_rfl
theorem Tryd.cells63 : Tryd.prog.cellsOf 63 = 5 := by kernel_rfl
theorem Tryd.cells30 : Tryd.prog.cellsOf 30 = 3 := by kernel_rfl
theorem Tryd.cells29 : Tryd.prog.cellsOf 29 = 1 := by kernel_rfl
theorem Tryd.cells2 : Tryd.prog.cellsOf 2 = 1 := by kernel_rfl
theorem Tryd.cells28 : Tryd.prog.cellsOf 28 = 1 := by kernel_rfl
theorem Tryd.cells31 : Tryd.prog.cellsOf 31 = 1 := by kernel_rfl
theorem Tryd.cells32 : Tryd.prog.cellsOf 32 = 1 := by kernel_rfl
theorem Tryd.bytes34 : Tryd.prog.bytesOf 34 = 104 := by kernel_rfl
theorem Tryd.bytes63 : Tryd.prog.bytesOf 63 = 56 := by kernel_rfl
theorem Tryd.bytes29 : Tryd.prog.bytesOf 29 = 4 := by kernel_rfl
theorem Tryd.size34 (w : World) : (sizeOf 34).run Tryd.prog w = .ok 10 w := by kernel_rfl
theorem Tryd.size63 (w : World) : (sizeOf 63).run Tryd.prog w = .ok 5 w := by kernel_rfl
theorem Tryd.size29 (w : World) : (sizeOf 29).run Tryd.prog w = .ok 1 w := by kernel_rfl

theorem list5 {l : List Value} (h : l.length = 5) : ∃ a b c d e, l = [a, b, c, d, e] := by
  match l, h with
  | [a, b, c, d, e], _ => exact ⟨a, b, c, d, e, rfl⟩
theorem list10 {l : List Value} (h : l.length = 10) : ∃ a b c d e f g i j k, l = [a, b, c, d, e, f, g, i, j, k] := by
  match l, h with
  | [a, b, c, d, e, f, g, i, j, k], _ => exact ⟨a, b, c, d, e, f, g, i, j, k, rfl⟩

theorem u8_of_wf {x : Int} (h : (Lit.int .u8 x).wf = true) : U8 x := by have := bounds_u8 h; unfold U8; omega
theorem u32_of_wf {x : Int} (h : (Lit.int .u32 x).wf = true) : U32 x := by have := bounds_u32 h; unfold U32; omega
theorem i64_of_wf {x : Int} (h : (Lit.int .i64 x).wf = true) : I64 x := by have := bounds_i64 h; unfold I64; omega

section
variable {H : Type} {enc : TypeId × Value → H} {w : World} {base : Nat} {spare : Nat → Bool} {held : Bool}

theorem eu32_of_trod (n : Nat) (cs : List Value) (y : DataW H × List MemPlace) (h : DataW.trod enc Tryd.prog w base spare held n 29 cs = some y) (_ : Light Tryd.prog 29 y.1) : ∃ z, EU32 cs z := by
  obtain ⟨x, rfl, _, hw⟩ := DataW.trod_int Tryd.underlying29 h
  exact ⟨x, rfl, u32_of_wf hw⟩

theorem i64_of_trod {n : Nat} {c : Value} {y : DataW H × List MemPlace} (h : DataW.trod enc Tryd.prog w base spare held n 2 [c] = some y) : ∃ z, c = .int .i64 z ∧ I64 z := by
  obtain ⟨x, hc, _, hw⟩ := DataW.trod_int Tryd.underlying2 h
  simp at hc
  exact ⟨x, hc, i64_of_wf hw⟩

theorem u32_of_trod {n : Nat} {c : Value} {y : DataW H × List MemPlace} (h : DataW.trod enc Tryd.prog w base spare held n 29 [c] = some y) : ∃ z, c = .int .u32 z ∧ U32 z := by
  obtain ⟨x, hc, _, hw⟩ := DataW.trod_int Tryd.underlying29 h
  simp at hc
  exact ⟨x, hc, u32_of_wf hw⟩

theorem list_of_trod {n : Nat} {c : Value} {y : DataW H × List MemPlace} (h : DataW.trod enc Tryd.prog w base spare held n 31 [c] = some y) (hl : Light Tryd.prog 31 y.1) : ∃ z, Arr w (· < w.heap.size) 1 EU32 c z := by
  obtain ⟨v, xs, hc, ha⟩ := arr_of_trod (α := Int) (E := EU32) Tryd.underlying31 Tryd.cells29 (by decide) (by rw [Tryd.bytes29]; decide) eu32_of_trod h hl
  simp at hc
  subst hc
  exact ⟨xs, ha⟩

theorem visit_of_trod (n : Nat) (cs : List Value) (y : DataW H × List MemPlace) (h : DataW.trod enc Tryd.prog w base spare held n 63 cs = some y) (hl : Light Tryd.prog 63 y.1) : ∃ z, EVisit w (· < w.heap.size) cs z := by
  obtain ⟨xs, m, _, rfl, hlen, hxl, hf⟩ := DataW.trod_struct Tryd.underlying63 h
  rw [Tryd.cells63] at hlen
  obtain ⟨c0, c1, c2, c3, c4, rfl⟩ := list5 hlen
  obtain ⟨y0, hy0⟩ := getElem_fields xs 5 hxl 0 (by decide)
  obtain ⟨y1, hy1⟩ := getElem_fields xs 5 hxl 1 (by decide)
  obtain ⟨y2, hy2⟩ := getElem_fields xs 5 hxl 2 (by decide)
  obtain ⟨y3, hy3⟩ := getElem_fields xs 5 hxl 3 (by decide)
  obtain ⟨y4, hy4⟩ := getElem_fields xs 5 hxl 4 (by decide)
  have h0 := hf 0 _ rfl
  have h1 := hf 1 _ rfl
  have h2 := hf 2 _ rfl
  have h3 := hf 3 _ rfl
  have h4 := hf 4 _ rfl
  rw [hy0] at h0; rw [hy1] at h1; rw [hy2] at h2; rw [hy3] at h3; rw [hy4] at h4
  obtain ⟨z0, rfl, b0⟩ := u32_of_trod (c := c0) (by simpa [Tryd.cells29] using h0)
  obtain ⟨z1, rfl, b1⟩ := i64_of_trod (c := c1) (by simpa [Tryd.cells2] using h1)
  obtain ⟨z2, rfl, b2⟩ := i64_of_trod (c := c2) (by simpa [Tryd.cells2] using h2)
  obtain ⟨z3, rfl, b3⟩ := i64_of_trod (c := c3) (by simpa [Tryd.cells2] using h3)
  obtain ⟨z4, b4⟩ := list_of_trod (c := c4) (by simpa [Tryd.cells31] using h4) (light_field Tryd.underlying63 hl (i := 4) rfl (by simp [hy4]))
  exact ⟨⟨z0, z1, z2, z3, z4⟩, c4, rfl, b0, b1, b2, b3, b4⟩

theorem visits_of_trod {n : Nat} {c : Value} {y : DataW H × List MemPlace} (h : DataW.trod enc Tryd.prog w base spare held n 32 [c] = some y) (hl : Light Tryd.prog 32 y.1) : ∃ z, Arr w (· < w.heap.size) 5 (EVisit w (· < w.heap.size)) c z := by
  obtain ⟨v, xs, hc, ha⟩ := arr_of_trod (α := Visit) (E := EVisit w (· < w.heap.size)) Tryd.underlying32 Tryd.cells63 (by decide) (by rw [Tryd.bytes63]; decide) visit_of_trod h hl
  simp at hc
  subst hc
  exact ⟨xs, ha⟩

theorem op_of_trod (n : Nat) (cs : List Value) (y : DataW H × List MemPlace) (h : DataW.trod enc Tryd.prog w base spare held n 34 cs = some y) (hl : Light Tryd.prog 34 y.1) : ∃ z, EOp w (· < w.heap.size) cs z := by
  obtain ⟨xs, m, _, rfl, hlen, hxl, hf⟩ := DataW.trod_struct Tryd.underlying34 h
  rw [Tryd.cells34] at hlen
  obtain ⟨c0, c1, c2, c3, c4, c5, c6, c7, c8, c9, rfl⟩ := list10 hlen
  obtain ⟨y0, hy0⟩ := getElem_fields xs 8 hxl 0 (by decide)
  obtain ⟨y1, hy1⟩ := getElem_fields xs 8 hxl 1 (by decide)
  obtain ⟨y2, hy2⟩ := getElem_fields xs 8 hxl 2 (by decide)
  obtain ⟨y3, hy3⟩ := getElem_fields xs 8 hxl 3 (by decide)
  obtain ⟨y4, hy4⟩ := getElem_fields xs 8 hxl 4 (by decide)
  obtain ⟨y5, hy5⟩ := getElem_fields xs 8 hxl 5 (by decide)
  obtain ⟨y6, hy6⟩ := getElem_fields xs 8 hxl 6 (by decide)
  obtain ⟨y7, hy7⟩ := getElem_fields xs 8 hxl 7 (by decide)
  have h0 := hf 0 _ rfl
  have h1 := hf 1 _ rfl
  have h2 := hf 2 _ rfl
  have h3 := hf 3 _ rfl
  have h4 := hf 4 _ rfl
  have h5 := hf 5 _ rfl
  have h6 := hf 6 _ rfl
  have h7 := hf 7 _ rfl
  rw [hy0] at h0; rw [hy1] at h1; rw [hy2] at h2; rw [hy3] at h3; rw [hy4] at h4; rw [hy5] at h5; rw [hy6] at h6; rw [hy7] at h7
  obtain ⟨z0, e0, _, b0⟩ := DataW.trod_int (cs := [c0]) Tryd.underlying28 (by simpa [Tryd.cells28] using h0)
  simp at e0
  subst e0
  obtain ⟨z1, rfl, b1⟩ := u32_of_trod (c := c1) (by simpa [Tryd.cells29] using h1)
  obtain ⟨z2, rfl, b2⟩ := u32_of_trod (c := c2) (by simpa [Tryd.cells29] using h2)
  obtain ⟨z3, rfl, b3⟩ := i64_of_trod (c := c3) (by simpa [Tryd.cells2] using h3)
  obtain ⟨z4, rfl, b4⟩ := i64_of_trod (c := c4) (by simpa [Tryd.cells2] using h4)
  obtain ⟨us, m', _, _, _, hul, huf⟩ := DataW.trod_array (cs := [c5, c6, c7]) Tryd.underlying30 (by simpa [Tryd.cells30] using h5)
  obtain ⟨u0, hu0⟩ := getElem_fields us 3 hul 0 (by decide)
  obtain ⟨u1, hu1⟩ := getElem_fields us 3 hul 1 (by decide)
  obtain ⟨u2, hu2⟩ := getElem_fields us 3 hul 2 (by decide)
  have g0 := huf 0 (by decide)
  have g1 := huf 1 (by decide)
  have g2 := huf 2 (by decide)
  rw [hu0] at g0; rw [hu1] at g1; rw [hu2] at g2
  obtain ⟨z5, rfl, b5⟩ := i64_of_trod (c := c5) (by simpa [Tryd.cells2] using g0)
  obtain ⟨z6, rfl, b6⟩ := i64_of_trod (c := c6) (by simpa [Tryd.cells2] using g1)
  obtain ⟨z7, rfl, b7⟩ := i64_of_trod (c := c7) (by simpa [Tryd.cells2] using g2)
  obtain ⟨z8, b8⟩ := list_of_trod (c := c8) (by simpa [Tryd.cells31] using h6) (light_field Tryd.underlying34 hl (i := 6) rfl (by simp [hy6]))
  obtain ⟨z9, b9⟩ := visits_of_trod (c := c9) (by simpa [Tryd.cells32] using h7) (light_field Tryd.underlying34 hl (i := 7) rfl (by simp [hy7]))
  exact ⟨⟨z0, z1, z2, z3, z4, z5, z6, z7, z8, z9⟩, c8, c9, rfl, u8_of_wf b0, b1, b2, b3, b4, b5, b6, b7, b8, b9⟩

theorem script_of_trod {n : Nat} {c : Value} {y : DataW H × List MemPlace} (h : DataW.trod enc Tryd.prog w base spare held n 22 [c] = some y) (hl : Light Tryd.prog 22 y.1) : ∃ z, Script w (· < w.heap.size) c z := by
  obtain ⟨v, xs, hc, ha⟩ := arr_of_trod (α := Op) (E := EOp w (· < w.heap.size)) Tryd.underlying22 Tryd.cells34 (by decide) (by rw [Tryd.bytes34]; decide) op_of_trod h hl
  simp at hc
  subst hc
  exact ⟨xs, ha⟩
end
end Go.Proofs.Qxb6500665aDoor
