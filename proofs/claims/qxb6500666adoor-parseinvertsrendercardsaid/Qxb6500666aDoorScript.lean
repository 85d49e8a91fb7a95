/- The script's data, and how they lie in memory. -/
import Derived.Test.Qxb6500666aDoorRowsOf
namespace Go.Proofs.Qxb6500666aDoor
open Go.RowKit

structure Req where
  kind : Int
  user : Int
  now : Int
  id : Int
  ref : Int
  kit : Int
  subject : Int
  visit : Int
  role : Int
  cls : Int
  time : Int
  till : Int
  value : Int
  l0 : Int
  l1 : Int
  l2 : Int
  list : List Int

structure FileD where
  kind : Int
  seq : Int
  issued : Int
  base : Int
  changes : List Change

structure Op where
  kind : Int
  req : Req
  seq : Int
  mode : Int
  num : Int
  data : List Int
  file : FileD

def EU8 (cs : List Value) (x : Int) : Prop := cs = [.int .u8 x] ∧ U8 x
def EU32 (cs : List Value) (x : Int) : Prop := cs = [.int .u32 x] ∧ U32 x

structure Req.Ok (r : Req) : Prop where
  kind : U8 r.kind
  user : U32 r.user
  now : I64 r.now
  id : U32 r.id
  ref : U32 r.ref
  kit : U32 r.kit
  subject : U32 r.subject
  visit : U32 r.visit
  role : U8 r.role
  cls : U8 r.cls
  time : I64 r.time
  till : I64 r.till
  value : I64 r.value
  l0 : I64 r.l0
  l1 : I64 r.l1
  l2 : I64 r.l2

structure FileD.Ok (f : FileD) : Prop where
  kind : U8 f.kind
  seq : U32 f.seq
  issued : I64 f.issued
  base : U32 f.base

/-- The cells of a request ahead of its list. -/
def reqCs (r : Req) : List Value := [.int .u8 r.kind, .int .u32 r.user, .int .i64 r.now, .int .u32 r.id, .int .u32 r.ref, .int .u32 r.kit, .int .u32 r.subject, .int .u32 r.visit, .int .u8 r.role, .int .u8 r.cls, .int .i64 r.time, .int .i64 r.till, .int .i64 r.value, .int .i64 r.l0, .int .i64 r.l1, .int .i64 r.l2]
def fileHd (f : FileD) : List Value := [.int .u8 f.kind, .int .u32 f.seq, .int .i64 f.issued, .int .u32 f.base]

def EReq (w : World) (ok : Nat → Prop) (cs : List Value) (r : Req) : Prop := ∃ lv, cs = reqCs r ++ [lv] ∧ r.Ok ∧ Arr w ok 1 EU32 lv r.list
def EFile (w : World) (ok : Nat → Prop) (cs : List Value) (f : FileD) : Prop := ∃ cv, cs = fileHd f ++ [cv] ∧ f.Ok ∧ Arr w ok 14 EChange cv f.changes
def EOp (w : World) (ok : Nat → Prop) (cs : List Value) (o : Op) : Prop :=
  ∃ rs fs dv, cs = [.int .u8 o.kind] ++ rs ++ [.int .u32 o.seq, .int .u8 o.mode, .int .u64 o.num, dv] ++ fs ∧ U8 o.kind ∧ U32 o.seq ∧ U8 o.mode ∧ U64 o.num ∧ EReq w ok rs o.req ∧ Arr w ok 1 EU8 dv o.data ∧ EFile w ok fs o.file

theorem EReq.mono {w w' : World} {ok ok' : Nat → Prop} (hs : Same ok w w') (hok : ∀ b, ok b → ok' b) {cs : List Value} {o : Req} (h : EReq w ok cs o) : EReq w' ok' cs o :=
  let ⟨lv, h1, h2, h3⟩ := h
  ⟨lv, h1, h2, h3.mono hs hok (fun _ _ _ h => h)⟩
theorem EFile.mono {w w' : World} {ok ok' : Nat → Prop} (hs : Same ok w w') (hok : ∀ b, ok b → ok' b) {cs : List Value} {o : FileD} (h : EFile w ok cs o) : EFile w' ok' cs o :=
  let ⟨lv, h1, h2, h3⟩ := h
  ⟨lv, h1, h2, h3.mono hs hok (fun _ _ _ h => h)⟩
theorem EOp.mono {w w' : World} {ok ok' : Nat → Prop} (hs : Same ok w w') (hok : ∀ b, ok b → ok' b) {cs : List Value} {o : Op} (h : EOp w ok cs o) : EOp w' ok' cs o :=
  let ⟨rs, fs, dv, h1, a1, a2, a3, a4, h2, h3, h4⟩ := h
  ⟨rs, fs, dv, h1, a1, a2, a3, a4, h2.mono hs hok, h3.mono hs hok (fun _ _ _ h => h), h4.mono hs hok⟩

def Script (w : World) (ok : Nat → Prop) (v : Value) (s : List Op) : Prop := Arr w ok 27 (EOp w ok) v s
theorem Script.mono {w w' : World} {ok ok' : Nat → Prop} (hs : Same ok w w') (hok : ∀ b, ok b → ok' b) {v : Value} {s : List Op} (h : Script w ok v s) : Script w' ok' v s :=
  Arr.mono h hs hok (fun _ _ _ h => h.mono hs hok)

theorem Tryd.cells40 : Tryd.prog.cellsOf 40 = 27 := by kernel_rfl
theorem Tryd.cells32 : Tryd.prog.cellsOf 32 = 17 := by kernel_rfl
theorem Tryd.cells38 : Tryd.prog.cellsOf 38 = 5 := by kernel_rfl
theorem Tryd.cells71 : Tryd.prog.cellsOf 71 = 14 := by kernel_rfl
theorem Tryd.cells61 : Tryd.prog.cellsOf 61 = 13 := by kernel_rfl
theorem Tryd.cells29 : Tryd.prog.cellsOf 29 = 3 := by kernel_rfl
theorem Tryd.cells26 : Tryd.prog.cellsOf 26 = 1 := by kernel_rfl
theorem Tryd.cells2 : Tryd.prog.cellsOf 2 = 1 := by kernel_rfl
theorem Tryd.cells33 : Tryd.prog.cellsOf 33 = 1 := by kernel_rfl
theorem Tryd.cells5 : Tryd.prog.cellsOf 5 = 1 := by kernel_rfl
theorem Tryd.cells24 : Tryd.prog.cellsOf 24 = 1 := by kernel_rfl
theorem Tryd.cells25 : Tryd.prog.cellsOf 25 = 1 := by kernel_rfl
theorem Tryd.cells27 : Tryd.prog.cellsOf 27 = 1 := by kernel_rfl
theorem Tryd.cells28 : Tryd.prog.cellsOf 28 = 1 := by kernel_rfl
theorem Tryd.cells35 : Tryd.prog.cellsOf 35 = 1 := by kernel_rfl
theorem Tryd.cells67 : Tryd.prog.cellsOf 67 = 1 := by kernel_rfl
theorem Tryd.cells30 : Tryd.prog.cellsOf 30 = 1 := by kernel_rfl
theorem Tryd.cells34 : Tryd.prog.cellsOf 34 = 1 := by kernel_rfl
theorem Tryd.cells36 : Tryd.prog.cellsOf 36 = 1 := by kernel_rfl
theorem Tryd.bytes40 : Tryd.prog.bytesOf 40 = 208 := by kernel_rfl
theorem Tryd.bytes71 : Tryd.prog.bytesOf 71 = 80 := by kernel_rfl
theorem Tryd.bytes26 : Tryd.prog.bytesOf 26 = 4 := by kernel_rfl
theorem Tryd.bytes5 : Tryd.prog.bytesOf 5 = 1 := by kernel_rfl
theorem Tryd.size40 (w : World) : (sizeOf 40).run Tryd.prog w = .ok 27 w := by kernel_rfl

theorem u8_of_wf {x : Int} (h : (Lit.int .u8 x).wf = true) : U8 x := by have := bounds_u8 h; unfold U8; omega
theorem u32_of_wf {x : Int} (h : (Lit.int .u32 x).wf = true) : U32 x := by have := bounds_u32 h; unfold U32; omega
theorem i64_of_wf {x : Int} (h : (Lit.int .i64 x).wf = true) : I64 x := by have := bounds_i64 h; unfold I64; omega
theorem u64_of_wf {x : Int} (h : (Lit.int .u64 x).wf = true) : U64 x := by simp [Lit.wf, IntKind.min, IntKind.max, IntKind.signed, IntKind.bits] at h; unfold U64; omega
theorem list5 {l : List Value} (h : l.length = 5) : ∃ c0 c1 c2 c3 c4, l = [c0, c1, c2, c3, c4] := by
  match l, h with
  | [c0, c1, c2, c3, c4], _ => exact ⟨c0, c1, c2, c3, c4, rfl⟩
theorem list13 {l : List Value} (h : l.length = 13) : ∃ c0 c1 c2 c3 c4 c5 c6 c7 c8 c9 c10 c11 c12, l = [c0, c1, c2, c3, c4, c5, c6, c7, c8, c9, c10, c11, c12] := by
  match l, h with
  | [c0, c1, c2, c3, c4, c5, c6, c7, c8, c9, c10, c11, c12], _ => exact ⟨c0, c1, c2, c3, c4, c5, c6, c7, c8, c9, c10, c11, c12, rfl⟩
theorem list14 {l : List Value} (h : l.length = 14) : ∃ c0 c1 c2 c3 c4 c5 c6 c7 c8 c9 c10 c11 c12 c13, l = [c0, c1, c2, c3, c4, c5, c6, c7, c8, c9, c10, c11, c12, c13] := by
  match l, h with
  | [c0, c1, c2, c3, c4, c5, c6, c7, c8, c9, c10, c11, c12, c13], _ => exact ⟨c0, c1, c2, c3, c4, c5, c6, c7, c8, c9, c10, c11, c12, c13, rfl⟩
theorem list17 {l : List Value} (h : l.length = 17) : ∃ c0 c1 c2 c3 c4 c5 c6 c7 c8 c9 c10 c11 c12 c13 c14 c15 c16, l = [c0, c1, c2, c3, c4, c5, c6, c7, c8, c9, c10, c11, c12, c13, c14, c15, c16] := by
  match l, h with
  | [c0, c1, c2, c3, c4, c5, c6, c7, c8, c9, c10, c11, c12, c13, c14, c15, c16], _ => exact ⟨c0, c1, c2, c3, c4, c5, c6, c7, c8, c9, c10, c11, c12, c13, c14, c15, c16, rfl⟩
theorem list27 {l : List Value} (h : l.length = 27) : ∃ c0 c1 c2 c3 c4 c5 c6 c7 c8 c9 c10 c11 c12 c13 c14 c15 c16 c17 c18 c19 c20 c21 c22 c23 c24 c25 c26, l = [c0, c1, c2, c3, c4, c5, c6, c7, c8, c9, c10, c11, c12, c13, c14, c15, c16, c17, c18, c19, c20, c21, c22, c23, c24, c25, c26] := by
  match l, h with
  | [c0, c1, c2, c3, c4, c5, c6, c7, c8, c9, c10, c11, c12, c13, c14, c15, c16, c17, c18, c19, c20, c21, c22, c23, c24, c25, c26], _ => exact ⟨c0, c1, c2, c3, c4, c5, c6, c7, c8, c9, c10, c11, c12, c13, c14, c15, c16, c17, c18, c19, c20, c21, c22, c23, c24, c25, c26, rfl⟩

section
variable {H : Type} {enc : TypeId × Value → H} {w : World} {base : Nat} {spare : Nat → Bool} {held : Bool}

theorem i64_of_trod {n : Nat} {c : Value} {y : DataW H × List MemPlace} (h : DataW.trod enc Tryd.prog w base spare held n 2 [c] = some y) : ∃ z, c = .int .i64 z ∧ I64 z := by
  obtain ⟨x, hc, _, hw⟩ := DataW.trod_int Tryd.underlying2 h
  simp at hc
  exact ⟨x, hc, i64_of_wf hw⟩

theorem u32_of_trod {n : Nat} {c : Value} {y : DataW H × List MemPlace} (h : DataW.trod enc Tryd.prog w base spare held n 26 [c] = some y) : ∃ z, c = .int .u32 z ∧ U32 z := by
  obtain ⟨x, hc, _, hw⟩ := DataW.trod_int Tryd.underlying26 h
  simp at hc
  exact ⟨x, hc, u32_of_wf hw⟩

theorem u64_of_trod {n : Nat} {c : Value} {y : DataW H × List MemPlace} (h : DataW.trod enc Tryd.prog w base spare held n 33 [c] = some y) : ∃ z, c = .int .u64 z ∧ U64 z := by
  obtain ⟨x, hc, _, hw⟩ := DataW.trod_int Tryd.underlying33 h
  simp at hc
  exact ⟨x, hc, u64_of_wf hw⟩

theorem u8_of_trod {n : Nat} {c : Value} {y : DataW H × List MemPlace} (h : DataW.trod enc Tryd.prog w base spare held n 5 [c] = some y) : ∃ z, c = .int .u8 z ∧ U8 z := by
  obtain ⟨x, hc, _, hw⟩ := DataW.trod_int Tryd.underlying5 h
  simp at hc
  exact ⟨x, hc, u8_of_wf hw⟩

theorem opKind_of_trod {n : Nat} {c : Value} {y : DataW H × List MemPlace} (h : DataW.trod enc Tryd.prog w base spare held n 24 [c] = some y) : ∃ z, c = .int .u8 z ∧ U8 z := by
  obtain ⟨x, hc, _, hw⟩ := DataW.trod_int Tryd.underlying24 h
  simp at hc
  exact ⟨x, hc, u8_of_wf hw⟩

theorem kind_of_trod {n : Nat} {c : Value} {y : DataW H × List MemPlace} (h : DataW.trod enc Tryd.prog w base spare held n 25 [c] = some y) : ∃ z, c = .int .u8 z ∧ U8 z := by
  obtain ⟨x, hc, _, hw⟩ := DataW.trod_int Tryd.underlying25 h
  simp at hc
  exact ⟨x, hc, u8_of_wf hw⟩

theorem role_of_trod {n : Nat} {c : Value} {y : DataW H × List MemPlace} (h : DataW.trod enc Tryd.prog w base spare held n 27 [c] = some y) : ∃ z, c = .int .u8 z ∧ U8 z := by
  obtain ⟨x, hc, _, hw⟩ := DataW.trod_int Tryd.underlying27 h
  simp at hc
  exact ⟨x, hc, u8_of_wf hw⟩

theorem cls_of_trod {n : Nat} {c : Value} {y : DataW H × List MemPlace} (h : DataW.trod enc Tryd.prog w base spare held n 28 [c] = some y) : ∃ z, c = .int .u8 z ∧ U8 z := by
  obtain ⟨x, hc, _, hw⟩ := DataW.trod_int Tryd.underlying28 h
  simp at hc
  exact ⟨x, hc, u8_of_wf hw⟩

theorem fileKind_of_trod {n : Nat} {c : Value} {y : DataW H × List MemPlace} (h : DataW.trod enc Tryd.prog w base spare held n 35 [c] = some y) : ∃ z, c = .int .u8 z ∧ U8 z := by
  obtain ⟨x, hc, _, hw⟩ := DataW.trod_int Tryd.underlying35 h
  simp at hc
  exact ⟨x, hc, u8_of_wf hw⟩

theorem action_of_trod {n : Nat} {c : Value} {y : DataW H × List MemPlace} (h : DataW.trod enc Tryd.prog w base spare held n 67 [c] = some y) : ∃ z, c = .int .u8 z ∧ U8 z := by
  obtain ⟨x, hc, _, hw⟩ := DataW.trod_int Tryd.underlying67 h
  simp at hc
  exact ⟨x, hc, u8_of_wf hw⟩

theorem eu32_of_trod (n : Nat) (cs : List Value) (y : DataW H × List MemPlace) (h : DataW.trod enc Tryd.prog w base spare held n 26 cs = some y) (_ : Light Tryd.prog 26 y.1) : ∃ z, EU32 cs z := by
  obtain ⟨x, rfl, _, hw⟩ := DataW.trod_int Tryd.underlying26 h
  exact ⟨x, rfl, u32_of_wf hw⟩

theorem eu8_of_trod (n : Nat) (cs : List Value) (y : DataW H × List MemPlace) (h : DataW.trod enc Tryd.prog w base spare held n 5 cs = some y) (_ : Light Tryd.prog 5 y.1) : ∃ z, EU8 cs z := by
  obtain ⟨x, rfl, _, hw⟩ := DataW.trod_int Tryd.underlying5 h
  exact ⟨x, rfl, u8_of_wf hw⟩

theorem list_of_trod {n : Nat} {c : Value} {y : DataW H × List MemPlace} (h : DataW.trod enc Tryd.prog w base spare held n 30 [c] = some y) (hl : Light Tryd.prog 30 y.1) : ∃ z, Arr w (· < w.heap.size) 1 EU32 c z := by
  obtain ⟨v, xs, hc, ha⟩ := arr_of_trod (α := Int) (E := EU32) Tryd.underlying30 Tryd.cells26 (by decide) (by rw [Tryd.bytes26]; decide) eu32_of_trod h hl
  simp at hc
  subst hc
  exact ⟨xs, ha⟩

theorem bytes_of_trod {n : Nat} {c : Value} {y : DataW H × List MemPlace} (h : DataW.trod enc Tryd.prog w base spare held n 34 [c] = some y) (hl : Light Tryd.prog 34 y.1) : ∃ z, Arr w (· < w.heap.size) 1 EU8 c z := by
  obtain ⟨v, xs, hc, ha⟩ := arr_of_trod (α := Int) (E := EU8) Tryd.underlying34 Tryd.cells5 (by decide) (by rw [Tryd.bytes5]; decide) eu8_of_trod h hl
  simp at hc
  subst hc
  exact ⟨xs, ha⟩

theorem row_of_trod (n : Nat) (cs : List Value) (y : DataW H × List MemPlace) (h : DataW.trod enc Tryd.prog w base spare held n 61 cs = some y) (_ : Light Tryd.prog 61 y.1) : ∃ z, ERow cs z := by
  obtain ⟨xs, m, _, rfl, hlen, hxl, hf⟩ := DataW.trod_struct Tryd.underlying61 h
  rw [Tryd.cells61] at hlen
  obtain ⟨c0, c1, c2, c3, c4, c5, c6, c7, c8, c9, c10, c11, c12, rfl⟩ := list13 hlen
  obtain ⟨y0, hy0⟩ := getElem_fields xs 13 hxl 0 (by decide)
  have h0 := hf 0 _ rfl
  rw [hy0] at h0
  obtain ⟨y1, hy1⟩ := getElem_fields xs 13 hxl 1 (by decide)
  have h1 := hf 1 _ rfl
  rw [hy1] at h1
  obtain ⟨y2, hy2⟩ := getElem_fields xs 13 hxl 2 (by decide)
  have h2 := hf 2 _ rfl
  rw [hy2] at h2
  obtain ⟨y3, hy3⟩ := getElem_fields xs 13 hxl 3 (by decide)
  have h3 := hf 3 _ rfl
  rw [hy3] at h3
  obtain ⟨y4, hy4⟩ := getElem_fields xs 13 hxl 4 (by decide)
  have h4 := hf 4 _ rfl
  rw [hy4] at h4
  obtain ⟨y5, hy5⟩ := getElem_fields xs 13 hxl 5 (by decide)
  have h5 := hf 5 _ rfl
  rw [hy5] at h5
  obtain ⟨y6, hy6⟩ := getElem_fields xs 13 hxl 6 (by decide)
  have h6 := hf 6 _ rfl
  rw [hy6] at h6
  obtain ⟨y7, hy7⟩ := getElem_fields xs 13 hxl 7 (by decide)
  have h7 := hf 7 _ rfl
  rw [hy7] at h7
  obtain ⟨y8, hy8⟩ := getElem_fields xs 13 hxl 8 (by decide)
  have h8 := hf 8 _ rfl
  rw [hy8] at h8
  obtain ⟨y9, hy9⟩ := getElem_fields xs 13 hxl 9 (by decide)
  have h9 := hf 9 _ rfl
  rw [hy9] at h9
  obtain ⟨y10, hy10⟩ := getElem_fields xs 13 hxl 10 (by decide)
  have h10 := hf 10 _ rfl
  rw [hy10] at h10
  obtain ⟨y11, hy11⟩ := getElem_fields xs 13 hxl 11 (by decide)
  have h11 := hf 11 _ rfl
  rw [hy11] at h11
  obtain ⟨y12, hy12⟩ := getElem_fields xs 13 hxl 12 (by decide)
  have h12 := hf 12 _ rfl
  rw [hy12] at h12
  obtain ⟨z0, rfl, b0⟩ := u32_of_trod (c := c0) (by simpa [Tryd.cells26] using h0)
  obtain ⟨z1, rfl, b1⟩ := u32_of_trod (c := c1) (by simpa [Tryd.cells26] using h1)
  obtain ⟨z2, rfl, b2⟩ := u32_of_trod (c := c2) (by simpa [Tryd.cells26] using h2)
  obtain ⟨z3, rfl, b3⟩ := i64_of_trod (c := c3) (by simpa [Tryd.cells2] using h3)
  obtain ⟨z4, rfl, b4⟩ := u32_of_trod (c := c4) (by simpa [Tryd.cells26] using h4)
  obtain ⟨z5, rfl, b5⟩ := u32_of_trod (c := c5) (by simpa [Tryd.cells26] using h5)
  obtain ⟨z6, rfl, b6⟩ := u32_of_trod (c := c6) (by simpa [Tryd.cells26] using h6)
  obtain ⟨z7, rfl, b7⟩ := u32_of_trod (c := c7) (by simpa [Tryd.cells26] using h7)
  obtain ⟨z8, rfl, b8⟩ := u32_of_trod (c := c8) (by simpa [Tryd.cells26] using h8)
  obtain ⟨z9, rfl, b9⟩ := cls_of_trod (c := c9) (by simpa [Tryd.cells28] using h9)
  obtain ⟨z10, rfl, b10⟩ := i64_of_trod (c := c10) (by simpa [Tryd.cells2] using h10)
  obtain ⟨z11, rfl, b11⟩ := i64_of_trod (c := c11) (by simpa [Tryd.cells2] using h11)
  obtain ⟨z12, rfl, b12⟩ := i64_of_trod (c := c12) (by simpa [Tryd.cells2] using h12)
  exact ⟨⟨z0, z1, z2, z3, z4, z5, z6, z7, z8, z9, z10, z11, z12⟩, rfl, ⟨b0, b1, b2, b3, b4, b5, b6, b7, b8, b9, b10, b11, b12⟩⟩

theorem change_of_trod (n : Nat) (cs : List Value) (y : DataW H × List MemPlace) (h : DataW.trod enc Tryd.prog w base spare held n 71 cs = some y) (hl : Light Tryd.prog 71 y.1) : ∃ z, EChange cs z := by
  obtain ⟨xs, m, _, rfl, hlen, hxl, hf⟩ := DataW.trod_struct Tryd.underlying71 h
  rw [Tryd.cells71] at hlen
  obtain ⟨c0, c1, c2, c3, c4, c5, c6, c7, c8, c9, c10, c11, c12, c13, rfl⟩ := list14 hlen
  obtain ⟨y0, hy0⟩ := getElem_fields xs 2 hxl 0 (by decide)
  have h0 := hf 0 _ rfl
  rw [hy0] at h0
  obtain ⟨y1, hy1⟩ := getElem_fields xs 2 hxl 1 (by decide)
  have h1 := hf 1 _ rfl
  rw [hy1] at h1
  obtain ⟨z0, rfl, b0⟩ := action_of_trod (c := c0) (by simpa [Tryd.cells67] using h0)
  obtain ⟨z1, b1⟩ := row_of_trod _ [c1, c2, c3, c4, c5, c6, c7, c8, c9, c10, c11, c12, c13] _ (by simpa [Tryd.cells61] using h1) (light_field Tryd.underlying71 hl (i := 1) rfl (by simp [hy1]))
  obtain ⟨e1, b2⟩ := b1
  simp only [rowCs, List.cons.injEq, and_true] at e1
  obtain ⟨rfl, rfl, rfl, rfl, rfl, rfl, rfl, rfl, rfl, rfl, rfl, rfl, rfl⟩ := e1
  exact ⟨⟨z0, z1⟩, rfl, ⟨b0, b2⟩⟩

theorem changes_of_trod {n : Nat} {c : Value} {y : DataW H × List MemPlace} (h : DataW.trod enc Tryd.prog w base spare held n 36 [c] = some y) (hl : Light Tryd.prog 36 y.1) : ∃ z, Arr w (· < w.heap.size) 14 EChange c z := by
  obtain ⟨v, xs, hc, ha⟩ := arr_of_trod (α := Change) (E := EChange) Tryd.underlying36 Tryd.cells71 (by decide) (by rw [Tryd.bytes71]; decide) change_of_trod h hl
  simp at hc
  subst hc
  exact ⟨xs, ha⟩

theorem req_of_trod (n : Nat) (cs : List Value) (y : DataW H × List MemPlace) (h : DataW.trod enc Tryd.prog w base spare held n 32 cs = some y) (hl : Light Tryd.prog 32 y.1) : ∃ z, EReq w (· < w.heap.size) cs z := by
  obtain ⟨xs, m, _, rfl, hlen, hxl, hf⟩ := DataW.trod_struct Tryd.underlying32 h
  rw [Tryd.cells32] at hlen
  obtain ⟨c0, c1, c2, c3, c4, c5, c6, c7, c8, c9, c10, c11, c12, c13, c14, c15, c16, rfl⟩ := list17 hlen
  obtain ⟨y0, hy0⟩ := getElem_fields xs 15 hxl 0 (by decide)
  have h0 := hf 0 _ rfl
  rw [hy0] at h0
  obtain ⟨y1, hy1⟩ := getElem_fields xs 15 hxl 1 (by decide)
  have h1 := hf 1 _ rfl
  rw [hy1] at h1
  obtain ⟨y2, hy2⟩ := getElem_fields xs 15 hxl 2 (by decide)
  have h2 := hf 2 _ rfl
  rw [hy2] at h2
  obtain ⟨y3, hy3⟩ := getElem_fields xs 15 hxl 3 (by decide)
  have h3 := hf 3 _ rfl
  rw [hy3] at h3
  obtain ⟨y4, hy4⟩ := getElem_fields xs 15 hxl 4 (by decide)
  have h4 := hf 4 _ rfl
  rw [hy4] at h4
  obtain ⟨y5, hy5⟩ := getElem_fields xs 15 hxl 5 (by decide)
  have h5 := hf 5 _ rfl
  rw [hy5] at h5
  obtain ⟨y6, hy6⟩ := getElem_fields xs 15 hxl 6 (by decide)
  have h6 := hf 6 _ rfl
  rw [hy6] at h6
  obtain ⟨y7, hy7⟩ := getElem_fields xs 15 hxl 7 (by decide)
  have h7 := hf 7 _ rfl
  rw [hy7] at h7
  obtain ⟨y8, hy8⟩ := getElem_fields xs 15 hxl 8 (by decide)
  have h8 := hf 8 _ rfl
  rw [hy8] at h8
  obtain ⟨y9, hy9⟩ := getElem_fields xs 15 hxl 9 (by decide)
  have h9 := hf 9 _ rfl
  rw [hy9] at h9
  obtain ⟨y10, hy10⟩ := getElem_fields xs 15 hxl 10 (by decide)
  have h10 := hf 10 _ rfl
  rw [hy10] at h10
  obtain ⟨y11, hy11⟩ := getElem_fields xs 15 hxl 11 (by decide)
  have h11 := hf 11 _ rfl
  rw [hy11] at h11
  obtain ⟨y12, hy12⟩ := getElem_fields xs 15 hxl 12 (by decide)
  have h12 := hf 12 _ rfl
  rw [hy12] at h12
  obtain ⟨y13, hy13⟩ := getElem_fields xs 15 hxl 13 (by decide)
  have h13 := hf 13 _ rfl
  rw [hy13] at h13
  obtain ⟨y14, hy14⟩ := getElem_fields xs 15 hxl 14 (by decide)
  have h14 := hf 14 _ rfl
  rw [hy14] at h14
  obtain ⟨z0, rfl, b0⟩ := kind_of_trod (c := c0) (by simpa [Tryd.cells25] using h0)
  obtain ⟨z1, rfl, b1⟩ := u32_of_trod (c := c1) (by simpa [Tryd.cells26] using h1)
  obtain ⟨z2, rfl, b2⟩ := i64_of_trod (c := c2) (by simpa [Tryd.cells2] using h2)
  obtain ⟨z3, rfl, b3⟩ := u32_of_trod (c := c3) (by simpa [Tryd.cells26] using h3)
  obtain ⟨z4, rfl, b4⟩ := u32_of_trod (c := c4) (by simpa [Tryd.cells26] using h4)
  obtain ⟨z5, rfl, b5⟩ := u32_of_trod (c := c5) (by simpa [Tryd.cells26] using h5)
  obtain ⟨z6, rfl, b6⟩ := u32_of_trod (c := c6) (by simpa [Tryd.cells26] using h6)
  obtain ⟨z7, rfl, b7⟩ := u32_of_trod (c := c7) (by simpa [Tryd.cells26] using h7)
  obtain ⟨z8, rfl, b8⟩ := role_of_trod (c := c8) (by simpa [Tryd.cells27] using h8)
  obtain ⟨z9, rfl, b9⟩ := cls_of_trod (c := c9) (by simpa [Tryd.cells28] using h9)
  obtain ⟨z10, rfl, b10⟩ := i64_of_trod (c := c10) (by simpa [Tryd.cells2] using h10)
  obtain ⟨z11, rfl, b11⟩ := i64_of_trod (c := c11) (by simpa [Tryd.cells2] using h11)
  obtain ⟨z12, rfl, b12⟩ := i64_of_trod (c := c12) (by simpa [Tryd.cells2] using h12)
  obtain ⟨us, m', _, _, _, hul, huf⟩ := DataW.trod_array (cs := [c13, c14, c15]) Tryd.underlying29 (by simpa [Tryd.cells29] using h13)
  obtain ⟨u0, hu0⟩ := getElem_fields us 3 hul 0 (by decide)
  obtain ⟨u1, hu1⟩ := getElem_fields us 3 hul 1 (by decide)
  obtain ⟨u2, hu2⟩ := getElem_fields us 3 hul 2 (by decide)
  have g0 := huf 0 (by decide)
  have g1 := huf 1 (by decide)
  have g2 := huf 2 (by decide)
  rw [hu0] at g0; rw [hu1] at g1; rw [hu2] at g2
  obtain ⟨a0, rfl, d0⟩ := i64_of_trod (c := c13) (by simpa [Tryd.cells2] using g0)
  obtain ⟨a1, rfl, d1⟩ := i64_of_trod (c := c14) (by simpa [Tryd.cells2] using g1)
  obtain ⟨a2, rfl, d2⟩ := i64_of_trod (c := c15) (by simpa [Tryd.cells2] using g2)
  obtain ⟨z14, b14⟩ := list_of_trod (c := c16) (by simpa [Tryd.cells30] using h14) (light_field Tryd.underlying32 hl (i := 14) rfl (by simp [hy14]))
  exact ⟨⟨z0, z1, z2, z3, z4, z5, z6, z7, z8, z9, z10, z11, z12, a0, a1, a2, z14⟩, c16, rfl, ⟨b0, b1, b2, b3, b4, b5, b6, b7, b8, b9, b10, b11, b12, d0, d1, d2⟩, b14⟩

theorem file_of_trod (n : Nat) (cs : List Value) (y : DataW H × List MemPlace) (h : DataW.trod enc Tryd.prog w base spare held n 38 cs = some y) (hl : Light Tryd.prog 38 y.1) : ∃ z, EFile w (· < w.heap.size) cs z := by
  obtain ⟨xs, m, _, rfl, hlen, hxl, hf⟩ := DataW.trod_struct Tryd.underlying38 h
  rw [Tryd.cells38] at hlen
  obtain ⟨c0, c1, c2, c3, c4, rfl⟩ := list5 hlen
  obtain ⟨y0, hy0⟩ := getElem_fields xs 5 hxl 0 (by decide)
  have h0 := hf 0 _ rfl
  rw [hy0] at h0
  obtain ⟨y1, hy1⟩ := getElem_fields xs 5 hxl 1 (by decide)
  have h1 := hf 1 _ rfl
  rw [hy1] at h1
  obtain ⟨y2, hy2⟩ := getElem_fields xs 5 hxl 2 (by decide)
  have h2 := hf 2 _ rfl
  rw [hy2] at h2
  obtain ⟨y3, hy3⟩ := getElem_fields xs 5 hxl 3 (by decide)
  have h3 := hf 3 _ rfl
  rw [hy3] at h3
  obtain ⟨y4, hy4⟩ := getElem_fields xs 5 hxl 4 (by decide)
  have h4 := hf 4 _ rfl
  rw [hy4] at h4
  obtain ⟨z0, rfl, b0⟩ := fileKind_of_trod (c := c0) (by simpa [Tryd.cells35] using h0)
  obtain ⟨z1, rfl, b1⟩ := u32_of_trod (c := c1) (by simpa [Tryd.cells26] using h1)
  obtain ⟨z2, rfl, b2⟩ := i64_of_trod (c := c2) (by simpa [Tryd.cells2] using h2)
  obtain ⟨z3, rfl, b3⟩ := u32_of_trod (c := c3) (by simpa [Tryd.cells26] using h3)
  obtain ⟨z4, b4⟩ := changes_of_trod (c := c4) (by simpa [Tryd.cells36] using h4) (light_field Tryd.underlying38 hl (i := 4) rfl (by simp [hy4]))
  exact ⟨⟨z0, z1, z2, z3, z4⟩, c4, rfl, ⟨b0, b1, b2, b3⟩, b4⟩

theorem op_of_trod (n : Nat) (cs : List Value) (y : DataW H × List MemPlace) (h : DataW.trod enc Tryd.prog w base spare held n 40 cs = some y) (hl : Light Tryd.prog 40 y.1) : ∃ z, EOp w (· < w.heap.size) cs z := by
  obtain ⟨xs, m, _, rfl, hlen, hxl, hf⟩ := DataW.trod_struct Tryd.underlying40 h
  rw [Tryd.cells40] at hlen
  obtain ⟨c0, c1, c2, c3, c4, c5, c6, c7, c8, c9, c10, c11, c12, c13, c14, c15, c16, c17, c18, c19, c20, c21, c22, c23, c24, c25, c26, rfl⟩ := list27 hlen
  obtain ⟨y0, hy0⟩ := getElem_fields xs 7 hxl 0 (by decide)
  have h0 := hf 0 _ rfl
  rw [hy0] at h0
  obtain ⟨y1, hy1⟩ := getElem_fields xs 7 hxl 1 (by decide)
  have h1 := hf 1 _ rfl
  rw [hy1] at h1
  obtain ⟨y2, hy2⟩ := getElem_fields xs 7 hxl 2 (by decide)
  have h2 := hf 2 _ rfl
  rw [hy2] at h2
  obtain ⟨y3, hy3⟩ := getElem_fields xs 7 hxl 3 (by decide)
  have h3 := hf 3 _ rfl
  rw [hy3] at h3
  obtain ⟨y4, hy4⟩ := getElem_fields xs 7 hxl 4 (by decide)
  have h4 := hf 4 _ rfl
  rw [hy4] at h4
  obtain ⟨y5, hy5⟩ := getElem_fields xs 7 hxl 5 (by decide)
  have h5 := hf 5 _ rfl
  rw [hy5] at h5
  obtain ⟨y6, hy6⟩ := getElem_fields xs 7 hxl 6 (by decide)
  have h6 := hf 6 _ rfl
  rw [hy6] at h6
  obtain ⟨z0, rfl, b0⟩ := opKind_of_trod (c := c0) (by simpa [Tryd.cells24] using h0)
  obtain ⟨z1, b1⟩ := req_of_trod _ [c1, c2, c3, c4, c5, c6, c7, c8, c9, c10, c11, c12, c13, c14, c15, c16, c17] _ (by simpa [Tryd.cells32] using h1) (light_field Tryd.underlying40 hl (i := 1) rfl (by simp [hy1]))
  obtain ⟨z2, rfl, b2⟩ := u32_of_trod (c := c18) (by simpa [Tryd.cells26] using h2)
  obtain ⟨z3, rfl, b3⟩ := u8_of_trod (c := c19) (by simpa [Tryd.cells5] using h3)
  obtain ⟨z4, rfl, b4⟩ := u64_of_trod (c := c20) (by simpa [Tryd.cells33] using h4)
  obtain ⟨z5, b5⟩ := bytes_of_trod (c := c21) (by simpa [Tryd.cells34] using h5) (light_field Tryd.underlying40 hl (i := 5) rfl (by simp [hy5]))
  obtain ⟨z6, b6⟩ := file_of_trod _ [c22, c23, c24, c25, c26] _ (by simpa [Tryd.cells38] using h6) (light_field Tryd.underlying40 hl (i := 6) rfl (by simp [hy6]))
  exact ⟨⟨z0, z1, z2, z3, z4, z5, z6⟩, _, _, c21, rfl, b0, b2, b3, b4, b1, b5, b6⟩

theorem script_of_trod {n : Nat} {c : Value} {y : DataW H × List MemPlace} (h : DataW.trod enc Tryd.prog w base spare held n 22 [c] = some y) (hl : Light Tryd.prog 22 y.1) : ∃ z, Script w (· < w.heap.size) c z := by
  obtain ⟨v, xs, hc, ha⟩ := arr_of_trod (α := Op) (E := EOp w (· < w.heap.size)) Tryd.underlying22 Tryd.cells40 (by decide) (by rw [Tryd.bytes40]; decide) op_of_trod h hl
  simp at hc
  subst hc
  exact ⟨xs, ha⟩
end

end Go.Proofs.Qxb6500666aDoor
