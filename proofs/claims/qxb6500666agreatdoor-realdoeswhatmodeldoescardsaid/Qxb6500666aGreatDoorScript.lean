/- The script's data, and how they lie in memory. -/
import Derived.Test.Qxb6500666aGreatDoorRowsOf
namespace Go.Proofs.Qxb6500666aGreatDoor
open Go.RowKit

structure Req where
  kind : Int
  user : Int
  now : Int
  id : Int
  ref : Int
  kit : Int
  subject : Int
  visit : Int
  role : Int
  cls : Int
  time : Int
  till : Int
  value : Int
  l0 : Int
  l1 : Int
  l2 : Int
  list : List Int

structure FileD where
  kind : Int
  seq : Int
  issued : Int
  base : Int
  changes : List Change

structure Op where
  kind : Int
  req : Req
  seq : Int
  mode : Int
  num : Int
  data : List Int
  file : FileD

def EU8 (cs : List Value) (x : Int) : Prop := cs = [.int .u8 x] ∧ U8 x
def EU32 (cs : List Value) (x : Int) : Prop := cs = [.int .u32 x] ∧ U32 x

structure Req.Ok (r : Req) : Prop where
  kind : U8 r.kind
  user : U32 r.user
  now : I64 r.now
  id : U32 r.id
  ref : U32 r.ref
  kit : U32 r.kit
  subject : U32 r.subject
  visit : U32 r.visit
  role : U8 r.role
  cls : U8 r.cls
  time : I64 r.time
  till : I64 r.till
  value : I64 r.value
  l0 : I64 r.l0
  l1 : I64 r.l1
  l2 : I64 r.l2

structure FileD.Ok (f : FileD) : Prop where
  kind : U8 f.kind
  seq : U32 f.seq
  issued : I64 f.issued
  base : U32 f.base

/-- The cells of a request ahead of its list. -/
def reqCs (r : Req) : List Value := [.int .u8 r.kind, .int .u32 r.user, .int .i64 r.now, .int .u32 r.id, .int .u32 r.ref, .int .u32 r.kit, .int .u32 r.subject, .int .u32 r.visit, .int .u8 r.role, .int .u8 r.cls, .int .i64 r.time, .int .i64 r.till, .int .i64 r.value, .int .i64 r.l0, .int .i64 r.l1, .int .i64 r.l2]
def fileHd (f : FileD) : List Value := [.int .u8 f.kind, .int .u32 f.seq, .int .i64 f.issued, .int .u32 f.base]

def EReq (w : World) (ok : Nat → Prop) (cs : List Value) (r : Req) : Prop := ∃ lv, cs = reqCs r ++ [lv] ∧ r.Ok ∧ Arr w ok 1 EU32 lv r.list
def EFile (w : World) (ok : Nat → Prop) (cs : List Value) (f : FileD) : Prop := ∃ cv, cs = fileHd f ++ [cv] ∧ f.Ok ∧ Arr w ok 14 EChange cv f.changes
def EOp (w : World) (ok : Nat → Prop) (cs : List Value) (o : Op) : Prop :=
  ∃ rs fs dv, cs = [.int .u8 o.kind] ++ rs ++ [.int .u32 o.seq, .int .u8 o.mode, .int .u64 o.num, dv] ++ fs ∧ U8 o.kind ∧ U32 o.seq ∧ U8 o.mode ∧ U64 o.num ∧ EReq w ok rs o.req ∧ Arr w ok 1 EU8 dv o.data ∧ EFile w ok fs o.file

theorem EReq.mono {w w' : World} {ok ok' : Nat → Prop} (hs : Same ok w w') (hok : ∀ b, ok b → ok' b) {cs : List Value} {o : Req} (h : EReq w ok cs o) : EReq w' ok' cs o :=
  let ⟨lv, h1, h2, h3⟩ := h
  ⟨lv, h1, h2, h3.mono hs hok (fun _ _ _ h => h)⟩
theorem EFile.mono {w w' : World} {ok ok' : Nat → Prop} (hs : Same ok w w') (hok : ∀ b, ok b → ok' b) {cs : List Value} {o : FileD} (h : EFile w ok cs o) : EFile w' ok' cs o :=
  let ⟨lv, h1, h2, h3⟩ := h
  ⟨lv, h1, h2, h3.mono hs hok (fun _ _ _ h => h)⟩
theorem EOp.mono {w w' : World} {ok ok' : Nat → Prop} (hs : Same ok w w') (hok : ∀ b, ok b → ok' b) {cs : List Value} {o : Op} (h : EOp w ok cs o) : EOp w' ok' cs o :=
  let ⟨rs, fs, dv, h1, a1, a2, a3, a4, h2, h3, h4⟩ := h
  ⟨rs, fs, dv, h1, a1, a2, a3, a4, h2.mono hs hok, h3.mono hs hok (fun _ _ _ h => h), h4.mono hs hok⟩

def Script (w : World) (ok : Nat → Prop) (v : Value) (s : List Op) : Prop := Arr w ok 27 (EOp w ok) v s
theorem Script.mono {w w' : World} {ok ok' : Nat → Prop} (hs : Same ok w w') (hok : ∀ b, ok b → ok' b) {v : Value} {s : List Op} (h : Script w ok v s) : Script w' ok' v s :=
  Arr.mono h hs hok (fun _ _ _ h => h.mono hs hok)

theorem Tryz.cells61 : Tryz.prog.cellsOf 61 = 27 := by kernel_rfl
theorem Tryz.cells53 : Tryz.prog.cellsOf 53 = 17 := by kernel_rfl
theorem Tryz.cells59 : Tryz.prog.cellsOf 59 = 5 := by kernel_rfl
theorem Tryz.cells111 : Tryz.prog.cellsOf 111 = 14 := by kernel_rfl
theorem Tryz.cells109 : Tryz.prog.cellsOf 109 = 13 := by kernel_rfl
theorem Tryz.cells51 : Tryz.prog.cellsOf 51 = 3 := by kernel_rfl
theorem Tryz.cells48 : Tryz.prog.cellsOf 48 = 1 := by kernel_rfl
theorem Tryz.cells2 : Tryz.prog.cellsOf 2 = 1 := by kernel_rfl
theorem Tryz.cells54 : Tryz.prog.cellsOf 54 = 1 := by kernel_rfl
theorem Tryz.cells5 : Tryz.prog.cellsOf 5 = 1 := by kernel_rfl
theorem Tryz.cells46 : Tryz.prog.cellsOf 46 = 1 := by kernel_rfl
theorem Tryz.cells47 : Tryz.prog.cellsOf 47 = 1 := by kernel_rfl
theorem Tryz.cells49 : Tryz.prog.cellsOf 49 = 1 := by kernel_rfl
theorem Tryz.cells50 : Tryz.prog.cellsOf 50 = 1 := by kernel_rfl
theorem Tryz.cells56 : Tryz.prog.cellsOf 56 = 1 := by kernel_rfl
theorem Tryz.cells107 : Tryz.prog.cellsOf 107 = 1 := by kernel_rfl
theorem Tryz.cells29 : Tryz.prog.cellsOf 29 = 1 := by kernel_rfl
theorem Tryz.cells55 : Tryz.prog.cellsOf 55 = 1 := by kernel_rfl
theorem Tryz.cells57 : Tryz.prog.cellsOf 57 = 1 := by kernel_rfl
theorem Tryz.bytes61 : Tryz.prog.bytesOf 61 = 208 := by kernel_rfl
theorem Tryz.bytes111 : Tryz.prog.bytesOf 111 = 80 := by kernel_rfl
theorem Tryz.bytes48 : Tryz.prog.bytesOf 48 = 4 := by kernel_rfl
theorem Tryz.bytes5 : Tryz.prog.bytesOf 5 = 1 := by kernel_rfl
theorem Tryz.size61 (w : World) : (sizeOf 61).run Tryz.prog w = .ok 27 w := by kernel_rfl

theorem u8_of_wf {x : Int} (h : (Lit.int .u8 x).wf = true) : U8 x := by have := bounds_u8 h; unfold U8; omega
theorem u32_of_wf {x : Int} (h : (Lit.int .u32 x).wf = true) : U32 x := by have := bounds_u32 h; unfold U32; omega
theorem i64_of_wf {x : Int} (h : (Lit.int .i64 x).wf = true) : I64 x := by have := bounds_i64 h; unfold I64; omega
theorem u64_of_wf {x : Int} (h : (Lit.int .u64 x).wf = true) : U64 x := by simp [Lit.wf, IntKind.min, IntKind.max, IntKind.signed, IntKind.bits] at h; unfold U64; omega
theorem list5 {l : List Value} (h : l.length = 5) : ∃ c0 c1 c2 c3 c4, l = [c0, c1, c2, c3, c4] := by
  match l, h with
  | [c0, c1, c2, c3, c4], _ => exact ⟨c0, c1, c2, c3, c4, rfl⟩
theorem list13 {l : List Value} (h : l.length = 13) : ∃ c0 c1 c2 c3 c4 c5 c6 c7 c8 c9 c10 c11 c12, l = [c0, c1, c2, c3, c4, c5, c6, c7, c8, c9, c10, c11, c12] := by
  match l, h with
  | [c0, c1, c2, c3, c4, c5, c6, c7, c8, c9, c10, c11, c12], _ => exact ⟨c0, c1, c2, c3, c4, c5, c6, c7, c8, c9, c10, c11, c12, rfl⟩
theorem list14 {l : List Value} (h : l.length = 14) : ∃ c0 c1 c2 c3 c4 c5 c6 c7 c8 c9 c10 c11 c12 c13, l = [c0, c1, c2, c3, c4, c5, c6, c7, c8, c9, c10, c11, c12, c13] := by
  match l, h with
  | [c0, c1, c2, c3, c4, c5, c6, c7, c8, c9, c10, c11, c12, c13], _ => exact ⟨c0, c1, c2, c3, c4, c5, c6, c7, c8, c9, c10, c11, c12, c13, rfl⟩
theorem list17 {l : List Value} (h : l.length = 17) : ∃ c0 c1 c2 c3 c4 c5 c6 c7 c8 c9 c10 c11 c12 c13 c14 c15 c16, l = [c0, c1, c2, c3, c4, c5, c6, c7, c8, c9, c10, c11, c12, c13, c14, c15, c16] := by
  match l, h with
  | [c0, c1, c2, c3, c4, c5, c6, c7, c8, c9, c10, c11, c12, c13, c14, c15, c16], _ => exact ⟨c0, c1, c2, c3, c4, c5, c6, c7, c8, c9, c10, c11, c12, c13, c14, c15, c16, rfl⟩
theorem list27 {l : List Value} (h : l.length = 27) : ∃ c0 c1 c2 c3 c4 c5 c6 c7 c8 c9 c10 c11 c12 c13 c14 c15 c16 c17 c18 c19 c20 c21 c22 c23 c24 c25 c26, l = [c0, c1, c2, c3, c4, c5, c6, c7, c8, c9, c10, c11, c12, c13, c14, c15, c16, c17, c18, c19, c20, c21, c22, c23, c24, c25, c26] := by
  match l, h with
  | [c0, c1, c2, c3, c4, c5, c6, c7, c8, c9, c10, c11, c12, c13, c14, c15, c16, c17, c18, c19, c20, c21, c22, c23, c24, c25, c26], _ => exact ⟨c0, c1, c2, c3, c4, c5, c6, c7, c8, c9, c10, c11, c12, c13, c14, c15, c16, c17, c18, c19, c20, c21, c22, c23, c24, c25, c26, rfl⟩

section
variable {H : Type} {enc : TypeId × Value → H} {w : World} {base : Nat} {spare : Nat → Bool} {held : Bool}

theorem i64_of_trod {n : Nat} {c : Value} {y : DataW H × List MemPlace} (h : DataW.trod enc Tryz.prog w base spare held n 2 [c] = some y) : ∃ z, c = .int .i64 z ∧ I64 z := by
  obtain ⟨x, hc, _, hw⟩ := DataW.trod_int Tryz.underlying2 h
  simp at hc
  exact ⟨x, hc, i64_of_wf hw⟩

theorem u32_of_trod {n : Nat} {c : Value} {y : DataW H × List MemPlace} (h : DataW.trod enc Tryz.prog w base spare held n 48 [c] = some y) : ∃ z, c = .int .u32 z ∧ U32 z := by
  obtain ⟨x, hc, _, hw⟩ := DataW.trod_int Tryz.underlying48 h
  simp at hc
  exact ⟨x, hc, u32_of_wf hw⟩

theorem u64_of_trod {n : Nat} {c : Value} {y : DataW H × List MemPlace} (h : DataW.trod enc Tryz.prog w base spare held n 54 [c] = some y) : ∃ z, c = .int .u64 z ∧ U64 z := by
  obtain ⟨x, hc, _, hw⟩ := DataW.trod_int Tryz.underlying54 h
  simp at hc
  exact ⟨x, hc, u64_of_wf hw⟩

theorem u8_of_trod {n : Nat} {c : Value} {y : DataW H × List MemPlace} (h : DataW.trod enc Tryz.prog w base spare held n 5 [c] = some y) : ∃ z, c = .int .u8 z ∧ U8 z := by
  obtain ⟨x, hc, _, hw⟩ := DataW.trod_int Tryz.underlying5 h
  simp at hc
  exact ⟨x, hc, u8_of_wf hw⟩

theorem opKind_of_trod {n : Nat} {c : Value} {y : DataW H × List MemPlace} (h : DataW.trod enc Tryz.prog w base spare held n 46 [c] = some y) : ∃ z, c = .int .u8 z ∧ U8 z := by
  obtain ⟨x, hc, _, hw⟩ := DataW.trod_int Tryz.underlying46 h
  simp at hc
  exact ⟨x, hc, u8_of_wf hw⟩

theorem kind_of_trod {n : Nat} {c : Value} {y : DataW H × List MemPlace} (h : DataW.trod enc Tryz.prog w base spare held n 47 [c] = some y) : ∃ z, c = .int .u8 z ∧ U8 z := by
  obtain ⟨x, hc, _, hw⟩ := DataW.trod_int Tryz.underlying47 h
  simp at hc
  exact ⟨x, hc, u8_of_wf hw⟩

theorem role_of_trod {n : Nat} {c : Value} {y : DataW H × List MemPlace} (h : DataW.trod enc Tryz.prog w base spare held n 49 [c] = some y) : ∃ z, c = .int .u8 z ∧ U8 z := by
  obtain ⟨x, hc, _, hw⟩ := DataW.trod_int Tryz.underlying49 h
  simp at hc
  exact ⟨x, hc, u8_of_wf hw⟩

theorem cls_of_trod {n : Nat} {c : Value} {y : DataW H × List MemPlace} (h : DataW.trod enc Tryz.prog w base spare held n 50 [c] = some y) : ∃ z, c = .int .u8 z ∧ U8 z := by
  obtain ⟨x, hc, _, hw⟩ := DataW.trod_int Tryz.underlying50 h
  simp at hc
  exact ⟨x, hc, u8_of_wf hw⟩

theorem fileKind_of_trod {n : Nat} {c : Value} {y : DataW H × List MemPlace} (h : DataW.trod enc Tryz.prog w base spare held n 56 [c] = some y) : ∃ z, c = .int .u8 z ∧ U8 z := by
  obtain ⟨x, hc, _, hw⟩ := DataW.trod_int Tryz.underlying56 h
  simp at hc
  exact ⟨x, hc, u8_of_wf hw⟩

theorem action_of_trod {n : Nat} {c : Value} {y : DataW H × List MemPlace} (h : DataW.trod enc Tryz.prog w base spare held n 107 [c] = some y) : ∃ z, c = .int .u8 z ∧ U8 z := by
  obtain ⟨x, hc, _, hw⟩ := DataW.trod_int Tryz.underlying107 h
  simp at hc
  exact ⟨x, hc, u8_of_wf hw⟩

theorem eu32_of_trod (n : Nat) (cs : List Value) (y : DataW H × List MemPlace) (h : DataW.trod enc Tryz.prog w base spare held n 48 cs = some y) (_ : Light Tryz.prog 48 y.1) : ∃ z, EU32 cs z := by
  obtain ⟨x, rfl, _, hw⟩ := DataW.trod_int Tryz.underlying48 h
  exact ⟨x, rfl, u32_of_wf hw⟩

theorem eu8_of_trod (n : Nat) (cs : List Value) (y : DataW H × List MemPlace) (h : DataW.trod enc Tryz.prog w base spare held n 5 cs = some y) (_ : Light Tryz.prog 5 y.1) : ∃ z, EU8 cs z := by
  obtain ⟨x, rfl, _, hw⟩ := DataW.trod_int Tryz.underlying5 h
  exact ⟨x, rfl, u8_of_wf hw⟩

theorem list_of_trod {n : Nat} {c : Value} {y : DataW H × List MemPlace} (h : DataW.trod enc Tryz.prog w base spare held n 29 [c] = some y) (hl : Light Tryz.prog 29 y.1) : ∃ z, Arr w (· < w.heap.size) 1 EU32 c z := by
  obtain ⟨v, xs, hc, ha⟩ := arr_of_trod (α := Int) (E := EU32) Tryz.underlying29 Tryz.cells48 (by decide) (by rw [Tryz.bytes48]; decide) eu32_of_trod h hl
  simp at hc
  subst hc
  exact ⟨xs, ha⟩

theorem bytes_of_trod {n : Nat} {c : Value} {y : DataW H × List MemPlace} (h : DataW.trod enc Tryz.prog w base spare held n 55 [c] = some y) (hl : Light Tryz.prog 55 y.1) : ∃ z, Arr w (· < w.heap.size) 1 EU8 c z := by
  obtain ⟨v, xs, hc, ha⟩ := arr_of_trod (α := Int) (E := EU8) Tryz.underlying55 Tryz.cells5 (by decide) (by rw [Tryz.bytes5]; decide) eu8_of_trod h hl
  simp at hc
  subst hc
  exact ⟨xs, ha⟩

theorem row_of_trod (n : Nat) (cs : List Value) (y : DataW H × List MemPlace) (h : DataW.trod enc Tryz.prog w base spare held n 109 cs = some y) (_ : Light Tryz.prog 109 y.1) : ∃ z, ERow cs z := by
  obtain ⟨xs, m, _, rfl, hlen, hxl, hf⟩ := DataW.trod_struct Tryz.underlying109 h
  rw [Tryz.cells109] at hlen
  obtain ⟨c0, c1, c2, c3, c4, c5, c6, c7, c8, c9, c10, c11, c12, rfl⟩ := list13 hlen
  obtain ⟨y0, hy0⟩ := getElem_fields xs 13 hxl 0 (by decide)
  have h0 := hf 0 _ rfl
  rw [hy0] at h0
  obtain ⟨y1, hy1⟩ := getElem_fields xs 13 hxl 1 (by decide)
  have h1 := hf 1 _ rfl
  rw [hy1] at h1
  obtain ⟨y2, hy2⟩ := getElem_fields xs 13 hxl 2 (by decide)
  have h2 := hf 2 _ rfl
  rw [hy2] at h2
  obtain ⟨y3, hy3⟩ := getElem_fields xs 13 hxl 3 (by decide)
  have h3 := hf 3 _ rfl
  rw [hy3] at h3
  obtain ⟨y4, hy4⟩ := getElem_fields xs 13 hxl 4 (by decide)
  have h4 := hf 4 _ rfl
  rw [hy4] at h4
  obtain ⟨y5, hy5⟩ := getElem_fields xs 13 hxl 5 (by decide)
  have h5 := hf 5 _ rfl
  rw [hy5] at h5
  obtain ⟨y6, hy6⟩ := getElem_fields xs 13 hxl 6 (by decide)
  have h6 := hf 6 _ rfl
  rw [hy6] at h6
  obtain ⟨y7, hy7⟩ := getElem_fields xs 13 hxl 7 (by decide)
  have h7 := hf 7 _ rfl
  rw [hy7] at h7
  obtain ⟨y8, hy8⟩ := getElem_fields xs 13 hxl 8 (by decide)
  have h8 := hf 8 _ rfl
  rw [hy8] at h8
  obtain ⟨y9, hy9⟩ := getElem_fields xs 13 hxl 9 (by decide)
  have h9 := hf 9 _ rfl
  rw [hy9] at h9
  obtain ⟨y10, hy10⟩ := getElem_fields xs 13 hxl 10 (by decide)
  have h10 := hf 10 _ rfl
  rw [hy10] at h10
  obtain ⟨y11, hy11⟩ := getElem_fields xs 13 hxl 11 (by decide)
  have h11 := hf 11 _ rfl
  rw [hy11] at h11
  obtain ⟨y12, hy12⟩ := getElem_fields xs 13 hxl 12 (by decide)
  have h12 := hf 12 _ rfl
  rw [hy12] at h12
  obtain ⟨z0, rfl, b0⟩ := u32_of_trod (c := c0) (by simpa [Tryz.cells48] using h0)
  obtain ⟨z1, rfl, b1⟩ := u32_of_trod (c := c1) (by simpa [Tryz.cells48] using h1)
  obtain ⟨z2, rfl, b2⟩ := u32_of_trod (c := c2) (by simpa [Tryz.cells48] using h2)
  obtain ⟨z3, rfl, b3⟩ := i64_of_trod (c := c3) (by simpa [Tryz.cells2] using h3)
  obtain ⟨z4, rfl, b4⟩ := u32_of_trod (c := c4) (by simpa [Tryz.cells48] using h4)
  obtain ⟨z5, rfl, b5⟩ := u32_of_trod (c := c5) (by simpa [Tryz.cells48] using h5)
  obtain ⟨z6, rfl, b6⟩ := u32_of_trod (c := c6) (by simpa [Tryz.cells48] using h6)
  obtain ⟨z7, rfl, b7⟩ := u32_of_trod (c := c7) (by simpa [Tryz.cells48] using h7)
  obtain ⟨z8, rfl, b8⟩ := u32_of_trod (c := c8) (by simpa [Tryz.cells48] using h8)
  obtain ⟨z9, rfl, b9⟩ := cls_of_trod (c := c9) (by simpa [Tryz.cells50] using h9)
  obtain ⟨z10, rfl, b10⟩ := i64_of_trod (c := c10) (by simpa [Tryz.cells2] using h10)
  obtain ⟨z11, rfl, b11⟩ := i64_of_trod (c := c11) (by simpa [Tryz.cells2] using h11)
  obtain ⟨z12, rfl, b12⟩ := i64_of_trod (c := c12) (by simpa [Tryz.cells2] using h12)
  exact ⟨⟨z0, z1, z2, z3, z4, z5, z6, z7, z8, z9, z10, z11, z12⟩, rfl, ⟨b0, b1, b2, b3, b4, b5, b6, b7, b8, b9, b10, b11, b12⟩⟩

theorem change_of_trod (n : Nat) (cs : List Value) (y : DataW H × List MemPlace) (h : DataW.trod enc Tryz.prog w base spare held n 111 cs = some y) (hl : Light Tryz.prog 111 y.1) : ∃ z, EChange cs z := by
  obtain ⟨xs, m, _, rfl, hlen, hxl, hf⟩ := DataW.trod_struct Tryz.underlying111 h
  rw [Tryz.cells111] at hlen
  obtain ⟨c0, c1, c2, c3, c4, c5, c6, c7, c8, c9, c10, c11, c12, c13, rfl⟩ := list14 hlen
  obtain ⟨y0, hy0⟩ := getElem_fields xs 2 hxl 0 (by decide)
  have h0 := hf 0 _ rfl
  rw [hy0] at h0
  obtain ⟨y1, hy1⟩ := getElem_fields xs 2 hxl 1 (by decide)
  have h1 := hf 1 _ rfl
  rw [hy1] at h1
  obtain ⟨z0, rfl, b0⟩ := action_of_trod (c := c0) (by simpa [Tryz.cells107] using h0)
  obtain ⟨z1, b1⟩ := row_of_trod _ [c1, c2, c3, c4, c5, c6, c7, c8, c9, c10, c11, c12, c13] _ (by simpa [Tryz.cells109] using h1) (light_field Tryz.underlying111 hl (i := 1) rfl (by simp [hy1]))
  obtain ⟨e1, b2⟩ := b1
  simp only [rowCs, List.cons.injEq, and_true] at e1
  obtain ⟨rfl, rfl, rfl, rfl, rfl, rfl, rfl, rfl, rfl, rfl, rfl, rfl, rfl⟩ := e1
  exact ⟨⟨z0, z1⟩, rfl, ⟨b0, b2⟩⟩

theorem changes_of_trod {n : Nat} {c : Value} {y : DataW H × List MemPlace} (h : DataW.trod enc Tryz.prog w base spare held n 57 [c] = some y) (hl : Light Tryz.prog 57 y.1) : ∃ z, Arr w (· < w.heap.size) 14 EChange c z := by
  obtain ⟨v, xs, hc, ha⟩ := arr_of_trod (α := Change) (E := EChange) Tryz.underlying57 Tryz.cells111 (by decide) (by rw [Tryz.bytes111]; decide) change_of_trod h hl
  simp at hc
  subst hc
  exact ⟨xs, ha⟩

theorem req_of_trod (n : Nat) (cs : List Value) (y : DataW H × List MemPlace) (h : DataW.trod enc Tryz.prog w base spare held n 53 cs = some y) (hl : Light Tryz.prog 53 y.1) : ∃ z, EReq w (· < w.heap.size) cs z := by
  obtain ⟨xs, m, _, rfl, hlen, hxl, hf⟩ := DataW.trod_struct Tryz.underlying53 h
  rw [Tryz.cells53] at hlen
  obtain ⟨c0, c1, c2, c3, c4, c5, c6, c7, c8, c9, c10, c11, c12, c13, c14, c15, c16, rfl⟩ := list17 hlen
  obtain ⟨y0, hy0⟩ := getElem_fields xs 15 hxl 0 (by decide)
  have h0 := hf 0 _ rfl
  rw [hy0] at h0
  obtain ⟨y1, hy1⟩ := getElem_fields xs 15 hxl 1 (by decide)
  have h1 := hf 1 _ rfl
  rw [hy1] at h1
  obtain ⟨y2, hy2⟩ := getElem_fields xs 15 hxl 2 (by decide)
  have h2 := hf 2 _ rfl
  rw [hy2] at h2
  obtain ⟨y3, hy3⟩ := getElem_fields xs 15 hxl 3 (by decide)
  have h3 := hf 3 _ rfl
  rw [hy3] at h3
  obtain ⟨y4, hy4⟩ := getElem_fields xs 15 hxl 4 (by decide)
  have h4 := hf 4 _ rfl
  rw [hy4] at h4
  obtain ⟨y5, hy5⟩ := getElem_fields xs 15 hxl 5 (by decide)
  have h5 := hf 5 _ rfl
  rw [hy5] at h5
  obtain ⟨y6, hy6⟩ := getElem_fields xs 15 hxl 6 (by decide)
  have h6 := hf 6 _ rfl
  rw [hy6] at h6
  obtain ⟨y7, hy7⟩ := getElem_fields xs 15 hxl 7 (by decide)
  have h7 := hf 7 _ rfl
  rw [hy7] at h7
  obtain ⟨y8, hy8⟩ := getElem_fields xs 15 hxl 8 (by decide)
  have h8 := hf 8 _ rfl
  rw [hy8] at h8
  obtain ⟨y9, hy9⟩ := getElem_fields xs 15 hxl 9 (by decide)
  have h9 := hf 9 _ rfl
  rw [hy9] at h9
  obtain ⟨y10, hy10⟩ := getElem_fields xs 15 hxl 10 (by decide)
  have h10 := hf 10 _ rfl
  rw [hy10] at h10
  obtain ⟨y11, hy11⟩ := getElem_fields xs 15 hxl 11 (by decide)
  have h11 := hf 11 _ rfl
  rw [hy11] at h11
  obtain ⟨y12, hy12⟩ := getElem_fields xs 15 hxl 12 (by decide)
  have h12 := hf 12 _ rfl
  rw [hy12] at h12
  obtain ⟨y13, hy13⟩ := getElem_fields xs 15 hxl 13 (by decide)
  have h13 := hf 13 _ rfl
  rw [hy13] at h13
  obtain ⟨y14, hy14⟩ := getElem_fields xs 15 hxl 14 (by decide)
  have h14 := hf 14 _ rfl
  rw [hy14] at h14
  obtain ⟨z0, rfl, b0⟩ := kind_of_trod (c := c0) (by simpa [Tryz.cells47] using h0)
  obtain ⟨z1, rfl, b1⟩ := u32_of_trod (c := c1) (by simpa [Tryz.cells48] using h1)
  obtain ⟨z2, rfl, b2⟩ := i64_of_trod (c := c2) (by simpa [Tryz.cells2] using h2)
  obtain ⟨z3, rfl, b3⟩ := u32_of_trod (c := c3) (by simpa [Tryz.cells48] using h3)
  obtain ⟨z4, rfl, b4⟩ := u32_of_trod (c := c4) (by simpa [Tryz.cells48] using h4)
  obtain ⟨z5, rfl, b5⟩ := u32_of_trod (c := c5) (by simpa [Tryz.cells48] using h5)
  obtain ⟨z6, rfl, b6⟩ := u32_of_trod (c := c6) (by simpa [Tryz.cells48] using h6)
  obtain ⟨z7, rfl, b7⟩ := u32_of_trod (c := c7) (by simpa [Tryz.cells48] using h7)
  obtain ⟨z8, rfl, b8⟩ := role_of_trod (c := c8) (by simpa [Tryz.cells49] using h8)
  obtain ⟨z9, rfl, b9⟩ := cls_of_trod (c := c9) (by simpa [Tryz.cells50] using h9)
  obtain ⟨z10, rfl, b10⟩ := i64_of_trod (c := c10) (by simpa [Tryz.cells2] using h10)
  obtain ⟨z11, rfl, b11⟩ := i64_of_trod (c := c11) (by simpa [Tryz.cells2] using h11)
  obtain ⟨z12, rfl, b12⟩ := i64_of_trod (c := c12) (by simpa [Tryz.cells2] using h12)
  obtain ⟨us, m', _, _, _, hul, huf⟩ := DataW.trod_array (cs := [c13, c14, c15]) Tryz.underlying51 (by simpa [Tryz.cells51] using h13)
  obtain ⟨u0, hu0⟩ := getElem_fields us 3 hul 0 (by decide)
  obtain ⟨u1, hu1⟩ := getElem_fields us 3 hul 1 (by decide)
  obtain ⟨u2, hu2⟩ := getElem_fields us 3 hul 2 (by decide)
  have g0 := huf 0 (by decide)
  have g1 := huf 1 (by decide)
  have g2 := huf 2 (by decide)
  rw [hu0] at g0; rw [hu1] at g1; rw [hu2] at g2
  obtain ⟨a0, rfl, d0⟩ := i64_of_trod (c := c13) (by simpa [Tryz.cells2] using g0)
  obtain ⟨a1, rfl, d1⟩ := i64_of_trod (c := c14) (by simpa [Tryz.cells2] using g1)
  obtain ⟨a2, rfl, d2⟩ := i64_of_trod (c := c15) (by simpa [Tryz.cells2] using g2)
  obtain ⟨z14, b14⟩ := list_of_trod (c := c16) (by simpa [Tryz.cells29] using h14) (light_field Tryz.underlying53 hl (i := 14) rfl (by simp [hy14]))
  exact ⟨⟨z0, z1, z2, z3, z4, z5, z6, z7, z8, z9, z10, z11, z12, a0, a1, a2, z14⟩, c16, rfl, ⟨b0, b1, b2, b3, b4, b5, b6, b7, b8, b9, b10, b11, b12, d0, d1, d2⟩, b14⟩

theorem file_of_trod (n : Nat) (cs : List Value) (y : DataW H × List MemPlace) (h : DataW.trod enc Tryz.prog w base spare held n 59 cs = some y) (hl : Light Tryz.prog 59 y.1) : ∃ z, EFile w (· < w.heap.size) cs z := by
  obtain ⟨xs, m, _, rfl, hlen, hxl, hf⟩ := DataW.trod_struct Tryz.underlying59 h
  rw [Tryz.cells59] at hlen
  obtain ⟨c0, c1, c2, c3, c4, rfl⟩ := list5 hlen
  obtain ⟨y0, hy0⟩ := getElem_fields xs 5 hxl 0 (by decide)
  have h0 := hf 0 _ rfl
  rw [hy0] at h0
  obtain ⟨y1, hy1⟩ := getElem_fields xs 5 hxl 1 (by decide)
  have h1 := hf 1 _ rfl
  rw [hy1] at h1
  obtain ⟨y2, hy2⟩ := getElem_fields xs 5 hxl 2 (by decide)
  have h2 := hf 2 _ rfl
  rw [hy2] at h2
  obtain ⟨y3, hy3⟩ := getElem_fields xs 5 hxl 3 (by decide)
  have h3 := hf 3 _ rfl
  rw [hy3] at h3
  obtain ⟨y4, hy4⟩ := getElem_fields xs 5 hxl 4 (by decide)
  have h4 := hf 4 _ rfl
  rw [hy4] at h4
  obtain ⟨z0, rfl, b0⟩ := fileKind_of_trod (c := c0) (by simpa [Tryz.cells56] using h0)
  obtain ⟨z1, rfl, b1⟩ := u32_of_trod (c := c1) (by simpa [Tryz.cells48] using h1)
  obtain ⟨z2, rfl, b2⟩ := i64_of_trod (c := c2) (by simpa [Tryz.cells2] using h2)
  obtain ⟨z3, rfl, b3⟩ := u32_of_trod (c := c3) (by simpa [Tryz.cells48] using h3)
  obtain ⟨z4, b4⟩ := changes_of_trod (c := c4) (by simpa [Tryz.cells57] using h4) (light_field Tryz.underlying59 hl (i := 4) rfl (by simp [hy4]))
  exact ⟨⟨z0, z1, z2, z3, z4⟩, c4, rfl, ⟨b0, b1, b2, b3⟩, b4⟩

theorem op_of_trod (n : Nat) (cs : List Value) (y : DataW H × List MemPlace) (h : DataW.trod enc Tryz.prog w base spare held n 61 cs = some y) (hl : Light Tryz.prog 61 y.1) : ∃ z, EOp w (· < w.heap.size) cs z := by
  obtain ⟨xs, m, _, rfl, hlen, hxl, hf⟩ := DataW.trod_struct Tryz.underlying61 h
  rw [Tryz.cells61] at hlen
  obtain ⟨c0, c1, c2, c3, c4, c5, c6, c7, c8, c9, c10, c11, c12, c13, c14, c15, c16, c17, c18, c19, c20, c21, c22, c23, c24, c25, c26, rfl⟩ := list27 hlen
  obtain ⟨y0, hy0⟩ := getElem_fields xs 7 hxl 0 (by decide)
  have h0 := hf 0 _ rfl
  rw [hy0] at h0
  obtain ⟨y1, hy1⟩ := getElem_fields xs 7 hxl 1 (by decide)
  have h1 := hf 1 _ rfl
  rw [hy1] at h1
  obtain ⟨y2, hy2⟩ := getElem_fields xs 7 hxl 2 (by decide)
  have h2 := hf 2 _ rfl
  rw [hy2] at h2
  obtain ⟨y3, hy3⟩ := getElem_fields xs 7 hxl 3 (by decide)
  have h3 := hf 3 _ rfl
  rw [hy3] at h3
  obtain ⟨y4, hy4⟩ := getElem_fields xs 7 hxl 4 (by decide)
  have h4 := hf 4 _ rfl
  rw [hy4] at h4
  obtain ⟨y5, hy5⟩ := getElem_fields xs 7 hxl 5 (by decide)
  have h5 := hf 5 _ rfl
  rw [hy5] at h5
  obtain ⟨y6, hy6⟩ := getElem_fields xs 7 hxl 6 (by decide)
  have h6 := hf 6 _ rfl
  rw [hy6] at h6
  obtain ⟨z0, rfl, b0⟩ := opKind_of_trod (c := c0) (by simpa [Tryz.cells46] using h0)
  obtain ⟨z1, b1⟩ := req_of_trod _ [c1, c2, c3, c4, c5, c6, c7, c8, c9, c10, c11, c12, c13, c14, c15, c16, c17] _ (by simpa [Tryz.cells53] using h1) (light_field Tryz.underlying61 hl (i := 1) rfl (by simp [hy1]))
  obtain ⟨z2, rfl, b2⟩ := u32_of_trod (c := c18) (by simpa [Tryz.cells48] using h2)
  obtain ⟨z3, rfl, b3⟩ := u8_of_trod (c := c19) (by simpa [Tryz.cells5] using h3)
  obtain ⟨z4, rfl, b4⟩ := u64_of_trod (c := c20) (by simpa [Tryz.cells54] using h4)
  obtain ⟨z5, b5⟩ := bytes_of_trod (c := c21) (by simpa [Tryz.cells55] using h5) (light_field Tryz.underlying61 hl (i := 5) rfl (by simp [hy5]))
  obtain ⟨z6, b6⟩ := file_of_trod _ [c22, c23, c24, c25, c26] _ (by simpa [Tryz.cells59] using h6) (light_field Tryz.underlying61 hl (i := 6) rfl (by simp [hy6]))
  exact ⟨⟨z0, z1, z2, z3, z4, z5, z6⟩, _, _, c21, rfl, b0, b2, b3, b4, b1, b5, b6⟩

theorem script_of_trod {n : Nat} {c : Value} {y : DataW H × List MemPlace} (h : DataW.trod enc Tryz.prog w base spare held n 22 [c] = some y) (hl : Light Tryz.prog 22 y.1) : ∃ z, Script w (· < w.heap.size) c z := by
  obtain ⟨v, xs, hc, ha⟩ := arr_of_trod (α := Op) (E := EOp w (· < w.heap.size)) Tryz.underlying22 Tryz.cells61 (by decide) (by rw [Tryz.bytes61]; decide) op_of_trod h hl
  simp at hc
  subst hc
  exact ⟨xs, ha⟩
end

end Go.Proofs.Qxb6500666aGreatDoor
