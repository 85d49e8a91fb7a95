/- Parse on bytes of every kind: weak. -/
import Derived.Test.Qxb6500666aGreatDoorWkLst
import Derived.Test.Qxb6500666aGreatDoorParseWalk
import Derived.Test.Qxb6500666aGreatDoorFile
namespace Go.Proofs.Qxb6500666aGreatDoor
open Go.RowKit
attribute [local go_sem ↓] exec_ldRow exec_ldChange exec_ldFile exec_stRow exec_stChange exec_stFile exec_bsRow exec_bsChange exec_slRows exec_bdChange exec_eqlRow exec_neqRow
attribute [local go_sem] run_ldRow run_ldChange run_ldFile run_stRow run_stChange run_stFile run_bsRow run_bsChange run_bdChange run_neqRow run_eqlRow rng_alloc_lt rng_alloc_at rng_drew rng_drewN rng_setCell_other rng_setRow_other whole_alloc_lt whole_alloc_at whole_drew whole_setCell_other whole_setRow_other setRow_alloc_at setRow_alloc_lt setRow_drew rowCs_size rowCs_ones rowCs_0 rowCs_1 rowCs_2 rowCs_3 rowCs_4 rowCs_5 rowCs_6 rowCs_7 rowCs_8 rowCs_9 rowCs_10 rowCs_11 rowCs_12 rowCs_all changeCs_size changeCs_ones changeCs_0 changeCs_row changeCs_all fileCs_size fileCs_ones fileCs_0 fileCs_1 fileCs_2 fileCs_3 fileCs_4 fileCs_all ext_const Ext.cell Ext.frozen Ext.rng Ext.whole
attribute [local go_sem] file_ones change_ones
attribute [local go_sem ↓] exec_bdRow
attribute [local go_sem] run_bdRow

set_option maxRecDepth 100000 in
theorem next_empty (w : World) (R cap : Nat) (a : Option Addr) (ln : Int) (want : Nat) (hR : ReaderAt w R (.slice a 0 cap) 0 ln) (hln : 0 ≤ ln ∧ ln ≤ 1000000000000000) :
    Calls Tryz.prog 103 #[.pointer (some ⟨R, 0, none⟩), .int .i64 want] w fun e w' => ∃ E, e = .returned (.tuple #[.pointer none, .iface 241 (.pointer (some ⟨E, 0, none⟩))]) ∧ w.heap.size ≤ E ∧ PErr w' E ∧ RdSt w w' R := by
  obtain ⟨r0, r1, r2, rf, hRl⟩ := cell3 hR
  go_enter Tryz.func103, Tryz.ntmps103
  go_upto_region 2 with fail
  have hR1 : ReaderAt (w.setCell ⟨R, 2, none⟩ (.int .i64 (ln + 1))) R (.slice a 0 cap) 0 (ln + 1) := by
    have := heap_set3 (j := 2) (v := .int .i64 (ln + 1)) hR
    simpa [ReaderAt] using this
  have hB1 : Below R w (w.setCell ⟨R, 2, none⟩ (.int .i64 (ln + 1))) := (Below.refl _ _).setCell (p := ⟨R, 2, none⟩) (Nat.le_refl _) _
  have hS1 : Same (fun k => k ≠ R) w (w.setCell ⟨R, 2, none⟩ (.int .i64 (ln + 1))) := fun k hk => Below.heap_setCell _ _ _ _ hk
  have hz1 : (w.setCell ⟨R, 2, none⟩ (.int .i64 (ln + 1))).heap.size = w.heap.size := by simp [World.setCell]
  clear r0 r1 r2 rf hR
  generalize w.setCell ⟨R, 2, none⟩ (.int .i64 (ln + 1)) = W1 at *
  obtain ⟨r0, r1, r2, rf, hRl1⟩ := cell3 hR1
  have HR1 := hide hR1
  have HS1 : Hid (RdSt w W1 R) := ⟨hB1, fun k hk => hS1 k hk.2⟩
  have HZ1 : Hid (W1.heap.size = w.heap.size) := hz1
  clear hR1 hB1 hS1 hz1
  go_upto_region 3 with fail
  go_loopg [6] 0 (fun gk j W => j = .int .i64 0 ∧ W1 = W)
  case atStart => exact ⟨rfl, rfl⟩
  case round =>
    obtain ⟨rfl, rfl⟩ := hrel
    go_wp2_with (go_at_call 108; refine (fail_any _ R _ _ _ 1 HR1.out ⟨by omega, by omega⟩ ⟨by decide, by decide⟩).mono ?_; rintro e w5 ⟨E, rfl, hE, hp5, hb5⟩)
    go_ret2
    have hz := HZ1.out
    exact ⟨E, rfl, by omega, hp5, HS1.out.grow (by omega) (by omega) hb5⟩

def zFile : Array Value := #[.int .u8 0, .int .u32 0, .int .i64 0, .int .u32 0, .slice none 0 0]
/-- What Parse answers. -/
inductive ParseAns (w w' : World) (e : Ending) : Prop
  | bad (E : Nat) (he : e = .returned (.tuple #[.agg zFile, .iface 241 (.pointer (some ⟨E, 0, none⟩))])) (hE : w.heap.size ≤ E) (hp : PErr w' E) (hb : Below w.heap.size w w') : ParseAns w w' e
  | good (k s i bb : Int) (a : Option Addr) (cap : Nat) (cs : List Change) (he : e = .returned (.tuple #[.agg (fileCs k s i bb a cs.length cap), .nilIface])) (hF : FileOk k s i bb cs) (hs : U32 s) (hi : I64 i) (hbb : U32 bb) (hok : ∀ c ∈ cs, c.Ok) (hch : ChangesAt w' (w.heap.size ≤ ·) (.slice a cs.length cap) cs) (hb : Below w.heap.size w w') : ParseAns w w' e

/-- Where Parse stands behind q lines. -/
structure PW (w W : World) (G F b off n cap : Nat) (k s i bb : Int) (cs : List Change) (q pos : Nat) (a : Option Addr) (capq : Nat) : Prop where
  rd : ReaderAt W (G + 1) (.slice (some ⟨b, off, none⟩) n cap) pos (1 + q)
  fl : W.heap[F]? = some (.cells (fileCs k s i bb a q capq) 59 (0, 0))
  own : OwnR W (F + 1) 111 14 changeCs (.slice a q capq) cs
  len : cs.length = q
  ok : ∀ c ∈ cs, c.row.Ok
  res : W.heap[G]? = some (.cells zFile 59 (0, 0))
  blw : Below G w W
  pos : pos ≤ n
/-- The result's variable lies ready. -/
structure PR (w W : World) (G : Nat) : Prop where
  res : W.heap[G]? = some (.cells zFile 59 (0, 0))
  blw : Below G w W
theorem PR.whole {w W : World} {G : Nat} (h : PR w W G) : whole W G 5 = true := by unfold Qxb6500666aGreatDoor.whole; rw [h.res]; rfl
theorem PR.below {w W W' : World} {G B : Nat} (h : PR w W G) (hb : Below B W W') (hB : G < B) : PR w W' G := ⟨(hb.block _ hB).trans h.res, h.blw.trans (hb.mono (by omega))⟩
theorem PR.rd {w W W' : World} {G R : Nat} (h : PR w W G) (hb : RdSt W W' R) (hB : G < R) : PR w W' G := h.below hb.below hB
/-- The fields of a line in hand, out of the world in which the line was read. -/
structure Fst (w0 w : World) (g b : Nat) (ps : List (List Int)) (k : Nat) (f : Int) : Prop where
  fl : FieldsAt w g b ps (k : Int) f
  flt : Flt f
  upn : Upn g w0 w
  blw : Below g w0 w
theorem Fst.next {w0 w w' : World} {g b : Nat} {ps : List (List Int)} {k k' : Nat} {f f' : Int} (h : Fst w0 w g b ps k f) (hF : FieldsAt w' g b ps (k' : Int) f') (hf : Flt f') (hU : Upd g w w') : Fst w0 w' g b ps k' f' := ⟨hF, hf, h.upn.trans hU.upn, h.blw.trans hU.below⟩
theorem Fst.fault {w0 w : World} {g b : Nat} {ps : List (List Int)} {k : Nat} {f : Int} (h : Fst w0 w g b ps k f) : w.cell? ⟨g, 2, none⟩ = some (.int .u8 f) ∧ g < w.heap.size := by
  obtain ⟨pv, vals, h1, -⟩ := h.fl
  exact ⟨(cell3 h1).2.2.1, (cell3 h1).2.2.2.2⟩
theorem Fst.grow {w0 w w' : World} {g b : Nat} {ps : List (List Int)} {k : Nat} {f : Int} (h : Fst w0 w g b ps k f) (hb : Below w.heap.size w w') : Fst w0 w' g b ps k f :=
  ⟨h.fl.grow (fun k hk => hb.block k hk) hb.size, h.flt, h.upn.trans (below_upn hb (Nat.le_refl _)), h.blw.trans (hb.mono (by have := h.fault.2; omega))⟩
/-- Behind the header's line. -/
structure HdSt (w V W : World) (G F g b off n cap : Nat) (ps : List (List Int)) (P1 j : Nat) (k s i bb f : Int) : Prop where
  pr : PR w W G
  rd : ReaderAt W (G + 1) (.slice (some ⟨b, off, none⟩) n cap) P1 1
  fl : W.heap[F]? = some (.cells (fileCs k s i bb none 0 0) 59 (0, 0))
  fs : Fst V W g b ps j f
theorem Fst.comp {w0 w w' : World} {g b : Nat} {ps : List (List Int)} {k k' : Nat} {f f' : Int} (h : Fst w0 w g b ps k f) (q : Fst w w' g b ps k' f') : Fst w0 w' g b ps k' f' := ⟨q.fl, q.flt, h.upn.trans q.upn, h.blw.trans q.blw⟩
theorem Fst.again {w0 w : World} {g b : Nat} {ps : List (List Int)} {k : Nat} {f : Int} (h : Fst w0 w g b ps k f) : Fst w w g b ps k f := ⟨h.fl, h.flt, ⟨Same.refl _ _, Nat.le_refl _⟩, Below.refl _ _⟩
theorem HdSt.next {w V W W' : World} {G F g b off n cap : Nat} {ps : List (List Int)} {P1 j j' : Nat} {k s i bb f f' : Int} (h : HdSt w V W G F g b off n cap ps P1 j k s i bb f) (q : Fst W W' g b ps j' f') (h1 : G + 1 < g) (h2 : F ≠ g) : HdSt w V W' G F g b off n cap ps P1 j' k s i bb f' :=
  have hg := h.fs.fault.2
  ⟨h.pr.below q.blw (by omega), (q.upn.same (G + 1) ⟨by omega, by omega⟩).trans h.rd, (q.upn.same F ⟨blk_lt h.fl, h2⟩).trans h.fl, h.fs.comp q⟩
/-- In the midst of a line: the blocks below S are as they were. -/
structure PX (w W : World) (S G F b off n cap : Nat) (k s i bb : Int) (cs : List Change) (q pos : Nat) (ln : Int) (a : Option Addr) (capq : Nat) : Prop where
  rd : ReaderAt W (G + 1) (.slice (some ⟨b, off, none⟩) n cap) pos ln
  fl : W.heap[F]? = some (.cells (fileCs k s i bb a q capq) 59 (0, 0))
  own : OwnR W (F + 1) 111 14 changeCs (.slice a q capq) cs
  res : W.heap[G]? = some (.cells zFile 59 (0, 0))
  blw : Below G w W
  lo : F < S ∧ G + 1 < S
  ob : ∀ x, (Value.slice a q capq).ownBlock = some x → x < S
theorem PX.step {w W W' : World} {S G F b off n cap : Nat} {k s i bb : Int} {cs : List Change} {q pos : Nat} {ln : Int} {a : Option Addr} {capq : Nat} (h : PX w W S G F b off n cap k s i bb cs q pos ln a capq) (hb : Below S W W') : PX w W' S G F b off n cap k s i bb cs q pos ln a capq :=
  have h1 := h.lo
  ⟨(hb.block _ (by omega)).trans h.rd, (hb.block _ (by omega)).trans h.fl, h.own.mono fun x hx => hb.block _ (h.ob x hx), (hb.block _ (by omega)).trans h.res, h.blw.trans (hb.mono (by omega)), h.lo, h.ob⟩
theorem PW.line {w W W' : World} {G F b off n cap : Nat} {k s i bb : Int} {cs : List Change} {q pos pos' : Nat} {ln' : Int} {a : Option Addr} {capq : Nat} (h : PW w W G F b off n cap k s i bb cs q pos a capq) (hs : RdSt W W' (G + 1)) (hR : ReaderAt W' (G + 1) (.slice (some ⟨b, off, none⟩) n cap) pos' ln') (hGF : G + 2 ≤ F) : PX w W' W.heap.size G F b off n cap k s i bb cs q pos' ln' a capq :=
  have hF := blk_lt h.fl
  ⟨hR, (hs.same F ⟨hF, by omega⟩).trans h.fl, h.own.mono fun x hx => hs.same x ⟨(h.own.block x hx).2, by have := (h.own.block x hx).1; omega⟩, (hs.below.block _ (by omega)).trans h.res, h.blw.trans (hs.below.mono (by omega)), ⟨hF, by omega⟩, fun x hx => (h.own.block x hx).2⟩
theorem PX.pr {w W : World} {S G F b off n cap : Nat} {k s i bb : Int} {cs : List Change} {q pos : Nat} {ln : Int} {a : Option Addr} {capq : Nat} (h : PX w W S G F b off n cap k s i bb cs q pos ln a capq) : PR w W G := ⟨h.res, h.blw⟩
theorem PW.tail {w W W' : World} {G F b off n cap : Nat} {k s i bb : Int} {cs : List Change} {q pos : Nat} {a : Option Addr} {capq : Nat} (h : PW w W G F b off n cap k s i bb cs q pos a capq) (hs : RdSt W W' (G + 1)) (hGF : G + 2 ≤ F) : W'.heap[F]? = some (.cells (fileCs k s i bb a q capq) 59 (0, 0)) ∧ OwnR W' (F + 1) 111 14 changeCs (.slice a q capq) cs :=
  have hF := blk_lt h.fl
  ⟨(hs.same F ⟨hF, by omega⟩).trans h.fl, h.own.mono fun x hx => hs.same x ⟨(h.own.block x hx).2, by have := (h.own.block x hx).1; omega⟩⟩
theorem file_acts {k s i bb : Int} {cs : List Change} (h : FileOk k s i bb cs) (hr : ∀ c ∈ cs, c.row.Ok) : ∀ c ∈ cs, c.Ok := fun c hc => by
  obtain ⟨q, hq, rfl⟩ := List.getElem_of_mem hc
  have h1 := (h.2.2.2 q hq).1
  refine ⟨?_, hr _ hc⟩
  unfold ActOk at h1
  constructor <;> omega
inductive ErrCase (w w' : World) (R : Nat) (v : Value) : Prop
  | ok (he : v = .nilIface) (hs : RdSt w w' R) : ErrCase w w' R v
  | bad (E : Nat) (he : v = .iface 241 (.pointer (some ⟨E, 0, none⟩))) (hE : w.heap.size ≤ E) (hp : PErr w' E) (hs : RdSt w w' R) : ErrCase w w' R v
theorem ErrAns.one {w w' : World} {R : Nat} {e : Ending} (h : ErrAns w w' R e) : ∃ v, e = .returned v ∧ ErrCase w w' R v := by
  cases h with
  | ok h1 h2 => exact ⟨_, h1, .ok rfl h2⟩
  | bad E h1 h2 h3 h4 => exact ⟨_, h1, .bad E rfl h2 h3 h4⟩
theorem flt4 : Flt 4 := ⟨by decide, by decide⟩
theorem flt3 : Flt 3 := ⟨by decide, by decide⟩
theorem flt_or {f f' t : Int} (h : Flt f) (ht : Flt t) (k : f' = f ∨ f' = spf f t) : Flt f' := by
  rcases k with rfl | rfl
  · exact h
  · exact spf_flt h ht
theorem ltrF_flt {f : Int} {p : List Int} (h : Flt f) : Flt (ltrF f p) := by unfold ltrF; split; exact spf_flt h flt3; exact h

section
variable {w0 : World} {g b : Nat} {ps : List (List Int)} {k : Nat} {f : Int}
theorem expect_w (w : World) (x : Int) (h : Fst w0 w g b ps k f) (hk : k < ps.length) (hp : PsL ps) :
    Calls Tryz.prog 104 #[.pointer (some ⟨g, 0, none⟩), .int .u8 x] w fun e w' => ∃ f', e = .returned (.tuple #[]) ∧ Hid (Fst w0 w' g b ps (k + 1) f') :=
  (expect_any w g b ps k f x h.fl hk hp).mono fun _ _ ⟨h1, h2, h3⟩ => ⟨_, h1, h.next h2 (by split; exact spf_flt (ltrF_flt h.flt) flt3; exact ltrF_flt h.flt) h3⟩
theorem letter_w (w : World) (h : Fst w0 w g b ps k f) (hk : k < ps.length) (hp : PsL ps) :
    Calls Tryz.prog 105 #[.pointer (some ⟨g, 0, none⟩)] w fun e w' => ∃ x f', e = .returned (.int .u8 x) ∧ Hid (Fst w0 w' g b ps (k + 1) f') ∧ Hid (w'.heap.size = w.heap.size) :=
  (letter_any w g b ps k f h.fl hk hp).mono fun _ _ ⟨h1, h2, h3⟩ => ⟨_, _, h1, h.next h2 (ltrF_flt h.flt) h3, h3.size⟩
theorem id_w (w : World) (h : Fst w0 w g b ps k f) (hk : k < ps.length) (hp : PsL ps) :
    Calls Tryz.prog 106 #[.pointer (some ⟨g, 0, none⟩)] w fun e w' => ∃ x f', e = .returned (.int .u32 x) ∧ Hid (U32 x) ∧ Hid (Fst w0 w' g b ps (k + 1) f') ∧ Hid (w'.heap.size = w.heap.size) :=
  (id_any w g b ps k f h.fl hk hp).mono fun _ _ ⟨x, f', h1, h2, h3, h4, h5⟩ => ⟨x, f', h1, h2, h.next h4 (flt_or h.flt flt4 h3) h5, h5.size⟩
theorem any_w (w : World) (h : Fst w0 w g b ps k f) (hk : k < ps.length) (hp : PsL ps) :
    Calls Tryz.prog 107 #[.pointer (some ⟨g, 0, none⟩)] w fun e w' => ∃ x f', e = .returned (.int .i64 x) ∧ Hid (I64 x) ∧ Hid (Fst w0 w' g b ps (k + 1) f') ∧ Hid (w'.heap.size = w.heap.size) :=
  (any_any w g b ps k f h.fl hk hp).mono fun _ _ ⟨x, f', h1, h2, h3, h4, h5⟩ => ⟨x, f', h1, h2, h.next h4 (flt_or h.flt flt4 h3) h5, h5.size⟩
theorem byte_w (w : World) (h : Fst w0 w g b ps k f) (hk : k < ps.length) (hp : PsL ps) :
    Calls Tryz.prog 109 #[.pointer (some ⟨g, 0, none⟩), .int .i64 0, .int .i64 255] w fun e w' => ∃ x f', e = .returned (.int .i64 x) ∧ (0 ≤ x ∧ x ≤ 255) ∧ Hid (Fst w0 w' g b ps (k + 1) f') ∧ Hid (w'.heap.size = w.heap.size) :=
  (number_any w g b ps k f 0 255 h.fl hk hp ⟨by decide, by decide⟩).mono fun _ _ ⟨x, f', h1, h2, h3, h4, h5⟩ => ⟨x, f', h1, h2, h.next h4 (flt_or h.flt flt4 h3) h5, h5.size⟩
end

theorem PErr.setRow {w : World} {E G : Nat} {cs : Array Value} (h : PErr w E) (hE : E ≠ G) : PErr (w.setRow G cs) E := by
  obtain ⟨l, f, h1, h2⟩ := h
  exact ⟨l, f, (setRow_other _ _ _ _ hE).trans h1, h2⟩

set_option maxRecDepth 100000 in
set_option maxHeartbeats 8000000 in
theorem parse_some (w : World) (b off n cap : Nat) (data : List Int) (hcap : n ≤ cap ∧ cap ≤ maxLen) (hbl : b < w.heap.size) (hd : ∀ t (h : t < data.length), w.cell? ⟨b, off + t, none⟩ = some (.int .u8 data[t])) (hn : data.length = n) (hn2 : n ≤ 1000000000000) (hn0 : 0 < n) :
    Calls Tryz.prog 33 #[.slice (some ⟨b, off, none⟩) n cap] w fun e w' => ParseAns w w' e := by
  have HD := hide hd
  have HN := hide hn
  have HCP := hide hcap
  clear hd hn hcap
  go_enter Tryz.func33, Tryz.ntmps33
  go_upto_region 2 with fail
  obtain ⟨G, hG⟩ : ∃ G, w.heap.size = G := ⟨_, rfl⟩
  have hb1 := below2 w (.cells #[.int .u8 0, .int .u32 0, .int .i64 0, .int .u32 0, .slice none 0 0] 59) (.cells #[.slice (some ⟨b, off, none⟩) n cap, .int .i64 0, .int .i64 0] 224)
  have hk0 : ((w.alloc (.cells #[.int .u8 0, .int .u32 0, .int .i64 0, .int .u32 0, .slice none 0 0] 59)).alloc (.cells #[.slice (some ⟨b, off, none⟩) n cap, .int .i64 0, .int .i64 0] 224)).heap[w.heap.size]? = some (.cells zFile 59 (0, 0)) := by rw [Below.heap_alloc _ _ _ (by simp), heap_alloc_at]; rfl
  have hk1 : ReaderAt ((w.alloc (.cells #[.int .u8 0, .int .u32 0, .int .i64 0, .int .u32 0, .slice none 0 0] 59)).alloc (.cells #[.slice (some ⟨b, off, none⟩) n cap, .int .i64 0, .int .i64 0] 224)) (w.heap.size + 1) (.slice (some ⟨b, off, none⟩) n cap) ((0 : Nat) : Int) 0 := by
    have := heap_alloc_at (w.alloc (.cells #[.int .u8 0, .int .u32 0, .int .i64 0, .int .u32 0, .slice none 0 0] 59)) (.cells #[.slice (some ⟨b, off, none⟩) n cap, .int .i64 0, .int .i64 0] 224)
    simpa [ReaderAt] using this
  have hz1 : ((w.alloc (.cells #[.int .u8 0, .int .u32 0, .int .i64 0, .int .u32 0, .slice none 0 0] 59)).alloc (.cells #[.slice (some ⟨b, off, none⟩) n cap, .int .i64 0, .int .i64 0] 224)).heap.size = w.heap.size + 2 := by simp
  generalize ((w.alloc (.cells #[.int .u8 0, .int .u32 0, .int .i64 0, .int .u32 0, .slice none 0 0] 59)).alloc (.cells #[.slice (some ⟨b, off, none⟩) n cap, .int .i64 0, .int .i64 0] 224)) = W1 at *
  rw [hG] at hb1 hk0 hk1 hz1 ⊢
  have hbG : b < G := by omega
  have HG := hide hG
  have HPR1 : Hid (PR w W1 G) := ⟨hk0, hb1⟩
  have HRD1 := hide hk1
  have HBAD : Hid (∀ (W : World) (E : Nat), PR w W G → PErr W E → G + 2 ≤ E → ParseAns w (W.setRow G zFile) (.returned (.tuple #[.agg zFile, .iface 241 (.pointer (some ⟨E, 0, none⟩))]))) := fun W E h1 h2 h3 => by
    refine .bad E rfl (by omega) (h2.setRow (by omega)) ?_
    rw [HG.out]
    exact h1.blw.trans ⟨rfl, rfl, rfl, by simp, fun k hk => setRow_other _ _ _ _ (by omega)⟩
  have HNX : Hid (∀ (W : World) (pos : Nat) (ln : Int) (want : Nat), Below G w W → ReaderAt W (G + 1) (.slice (some ⟨b, off, none⟩) n cap) pos ln → pos ≤ n → 1 ≤ want → want ≤ 100 → 0 ≤ ln ∧ ln ≤ 1000000000000000 → Calls Tryz.prog 103 #[.pointer (some ⟨G + 1, 0, none⟩), .int .i64 want] W fun e w' => ∃ pv ev, e = .returned (.tuple #[pv, ev]) ∧ Hid (NextCase W w' (G + 1) b off n cap data pos ln want pv ev)) := fun W pos ln want hW hR hp h1 h2 h3 =>
    (next_any W (G + 1) n cap b off data pos ln want hR (by omega) HCP.out (by have := hW.size; omega) (fun t h => (hW.cell (p := ⟨b, off + t, none⟩) (by dsimp only; omega)).trans (HD.out t h)) HN.out (by omega) hp h1 h2 h3).mono (fun e w' h => h.two)
  clear hG hb1 hk0 hk1
  go_cut [5, 6] (fun pv ev W => Hid (NextCase W1 W (G + 1) b off n cap data 0 0 6 pv ev))
  case first =>
    as_aux_lemma =>
      --B
      go_wp2_with (go_at_call 103; refine (HNX.out W1 0 0 6 HPR1.out.blw HRD1.out (by omega) (by omega) (by omega) ⟨by omega, by omega⟩).mono ?_; rintro e w2 ⟨pv, ev, rfl, HC⟩)
      go_meet
      case rel => exact HC
      --E
  case rest =>
  have hcc := hcut.out
  clear hcut
  cases hcc with
  | bad E hpv hev hE hp hs =>
    subst hpv hev
    have HPR2 : Hid (PR w wc G) := HPR1.out.rd hs (by omega)
    have hwh := HPR2.out.whole
    have HPE := hide hp
    clear hp hs
    --B
    go_wp2
    have hfin := heap_setRow_at (ds := zFile) HPR2.out.res
    refine bodyPost_ret (results_cell_tmp Tryz.results33 _ _ G _ _ _ _ rfl hfin Tryz.underlying59 rfl (by kernel_rfl)) rfl ?_
    exact HBAD.out wc E HPR2.out HPE.out (by omega)
    --E
  | good g ps line hpv hev hg hF hwl hP hR hpos hline hcat hs =>
  subst hpv hev
  have HPR2 : Hid (PR w wc G) := HPR1.out.rd hs (by omega)
  have HR2 := hide hR
  have HF0 : Hid (Fst wc wc g b ps 0 0) := ⟨hF, ⟨by decide, by decide⟩, ⟨Same.refl _ _, Nat.le_refl _⟩, Below.refl _ _⟩
  generalize 0 + line.length + 1 = P1 at *
  have hgl := HF0.out.fault.2
  generalize wc = V at *
  have hgG : G + 2 ≤ g := by omega
  clear hF hR hline hcat hs HPR1 HRD1 hz1
  go_upto_region 6 with (go_at_call 104; refine (expect_w _ 72 HF0.out (by omega) hP).mono ?_; rintro e V1 ⟨f1, rfl, HF1⟩)
  clear HF0
  go_cut [7] (fun p W => ∃ F k s i bb f, p = .pointer (some ⟨F, 0, none⟩) ∧ V.heap.size ≤ F ∧ Hid (U32 s) ∧ Hid (I64 i) ∧ Hid (U32 bb) ∧ Hid (HdSt w V W G F g b off n cap ps P1 5 k s i bb f))
  case first =>
    as_aux_lemma =>
      --B
      go_wp2_with (first
        | (go_at_call 105; refine (letter_w _ HF1.out (by omega) hP).mono ?_; rintro e V2 ⟨k, f2, rfl, HF2, hz2⟩)
        | (go_at_call 106; refine (id_w _ HF2.out (by omega) hP).mono ?_; rintro e V3 ⟨s, f3, rfl, Hs, HF3, hz3⟩)
        | (go_at_call 107; refine (any_w _ HF3.out (by omega) hP).mono ?_; rintro e V4 ⟨i, f4, rfl, Hi, HF4, hz4⟩)
        | (go_at_call 106; refine (id_w _ HF4.out (by omega) hP).mono ?_; rintro e V5 ⟨bb, f5, rfl, Hbb, HF5, hz5⟩))
      go_meet
      case rel =>
        have hz := HF5.out.upn.size
        have HA : Below V5.heap.size V5 (V5.alloc (.cells (fileCs k s i bb none 0 0) 59)) := (Below.refl _ _).alloc (Nat.le_refl _) _
        have HQ : Fst V (V5.alloc (.cells (fileCs k s i bb none 0 0) 59)) g b ps 5 f5 := HF5.out.grow HA
        refine ⟨V5.heap.size, k, s, i, bb, f5, rfl, hz, Hs, Hi, Hbb, ⟨⟨?_, ?_⟩, ?_, heap_alloc_at _ _, HQ⟩⟩
        · exact (HQ.upn.same G ⟨by omega, by omega⟩).trans HPR2.out.res
        · exact HPR2.out.blw.trans (HQ.blw.mono (by omega))
        · exact (HQ.upn.same (G + 1) ⟨by omega, by omega⟩).trans HR2.out
      --E
  case rest =>
  obtain ⟨F, k, s, i, bb, f, rfl, hVF, Hs, Hi, Hbb, HHd⟩ := hcut
  clear HF1
  go_upto_region 7 with fail
  generalize wc = W6 at *
  have HFA := hide HHd.out.fs.again
  go_upto_region 8 with (go_at_call 106; refine (id_w _ HFA.out (by omega) hP).mono ?_; rintro e W7 ⟨cnt, f7, rfl, HCn, HF7, -⟩)
  have HH7 : Hid (HdSt w V W7 G F g b off n cap ps P1 6 k s i bb f7) := HHd.out.next HF7.out (by omega) (by omega)
  obtain ⟨hf0, hg7⟩ := HH7.out.fs.fault
  have hc0 := HCn.out.1
  have hc1 := HCn.out.2
  obtain ⟨m, rfl⟩ : ∃ m : Nat, cnt = m := ⟨cnt.toNat, by omega⟩
  have hff := HH7.out.fs.flt
  have hwh := HH7.out.pr.whole
  have hGl : G + 1 < W7.heap.size := by omega
  clear HFA HHd HF7
  cases t1 : (f7 != 0) with
  | true =>
    have h7 : f7 ≠ 0 := by simpa using t1
    have h8 := hff.1
    have h9 := hff.2
    have HPR7 := hide HH7.out.pr
    have HFC := hide (fail_any W7 (G + 1) _ _ _ f7 HH7.out.rd ⟨by omega, by omega⟩ ⟨by omega, by omega⟩)
    clear h7
    --B
    go_wp2_with (go_at_call 108; refine HFC.out.mono ?_; rintro e w5 ⟨E, rfl, hE, hp5, hb5⟩; have HPR8 := hide (HPR7.out.below hb5 (by omega)); have hwh8 := HPR8.out.whole)
    have hfin := heap_setRow_at (ds := zFile) HPR8.out.res
    refine bodyPost_ret (results_cell_tmp Tryz.results33 _ _ G _ _ _ _ rfl hfin Tryz.underlying59 rfl (by kernel_rfl)) rfl ?_
    exact HBAD.out w5 E HPR8.out hp5 (by omega)
    --E
  | false =>
  go_upto_region 10 with fail
  have hk0 : W7.cell? ⟨F, 0, none⟩ = some (.int .u8 k) := by rw [World.cell?, HH7.out.fl]; rfl
  have hFl := blk_lt HH7.out.fl
  go_cut [54] (fun v W => (∃ t, v = .bool t) ∧ W7 = W)
  case first =>
    as_aux_lemma =>
      --B
      cases t2 : (k == 73) with
      | true =>
        go_wp2
        go_meet
        case rel => exact ⟨⟨_, rfl⟩, rfl⟩
      | false =>
        go_wp2
        go_meet
        case rel => exact ⟨⟨_, rfl⟩, rfl⟩
      --E
  case rest =>
  obtain ⟨⟨t2, rfl⟩, rfl⟩ := hcut
  clear hk0 hf0
  have HFC : Hid (∀ W' (ln fl : Int), 1 ≤ fl ∧ fl ≤ 8 → PR w W' G → (∃ P : Nat, ReaderAt W' (G + 1) (.slice (some ⟨b, off, none⟩) n cap) P ln) → 1 ≤ ln ∧ ln ≤ 1000000000000000 → Calls Tryz.prog 108 #[.pointer (some ⟨G + 1, 0, none⟩), .int .u8 fl] W' fun e w5 => ∃ E, e = .returned (.iface 241 (.pointer (some ⟨E, 0, none⟩))) ∧ Hid (PR w w5 G) ∧ Hid (PErr w5 E) ∧ W'.heap.size ≤ E ∧ whole w5 G 5 = true ∧ W'.heap.size ≤ w5.heap.size) := fun W' ln fl hfl h1 ⟨P, h2⟩ h3 =>
    (fail_any W' (G + 1) _ _ _ fl h2 ⟨by omega, by omega⟩ hfl).mono fun _ w5 ⟨E, a1, a2, a3, a4⟩ => by
      have hl := (cell3 h2).2.2.2.2
      have hh := h1.below a4 (by omega)
      exact ⟨E, a1, hh, a3, a2, hh.whole, a4.size⟩
  cases t2 with
  | true =>
    have HCC := hide (HFC.out W7 1 5 ⟨by decide, by decide⟩ HH7.out.pr ⟨P1, HH7.out.rd⟩ ⟨by omega, by omega⟩)
    --B
    go_wp2_with (go_at_call 108; refine HCC.out.mono ?_; rintro e w5 ⟨E, rfl, HPR8, HPE, hE, hwh8, hz8⟩)
    have hfin := heap_setRow_at (ds := zFile) HPR8.out.res
    refine bodyPost_ret (results_cell_tmp Tryz.results33 _ _ G _ _ _ _ rfl hfin Tryz.underlying59 rfl (by kernel_rfl)) rfl ?_
    exact HBAD.out w5 E HPR8.out HPE.out (by omega)
    --E
  | false =>
  have HP0 : Hid (PW w W7 G F b off n cap k s i bb [] 0 P1 none 0) := ⟨HH7.out.rd, HH7.out.fl, OwnR.nil _ _ _ _ _, rfl, by simp, HH7.out.pr.res, HH7.out.pr.blw, hpos⟩
  have hGF : G + 2 ≤ F := by omega
  clear HH7 hg hgl hwl hP hVF t1 hff hg7 hwh hFl hpos HR2 HPR2 HCn
  go_upto_region 13 with fail
  go_loopg [9] m (fun gk j W => ∃ (q P : Nat) (cs : List Change) (a : Option Addr) (capq : Nat), q ≤ m ∧ gk = m - q ∧ j = .int .u32 q ∧ Hid (PW w W G F b off n cap k s i bb cs q P a capq))
  case atStart => exact ⟨0, P1, [], none, 0, by omega, by omega, rfl, HP0⟩
  clear HP0
  case round =>
    obtain ⟨q, P, cs, a, capq, hq, rfl, rfl, HP⟩ := hrel
    have hGl : G + 1 < wr.heap.size := (cell3 HP.out.rd).2.2.2.2
    have hFl : F < wr.heap.size := blk_lt HP.out.fl
    have HPR : Hid (PR w wr G) := ⟨HP.out.res, HP.out.blw⟩
    have hPn := HP.out.pos
    by_cases hlt : q < m
    · go_upto_region 15 with fail
      go_cut [10, 11] (fun pv ev W => Hid (NextCase wr W (G + 1) b off n cap data P (1 + (q : Int)) 14 pv ev))
      case first =>
        as_aux_lemma =>
          --B
          go_wp2_with (go_at_call 103; refine (HNX.out wr P (1 + (q : Int)) 14 HP.out.blw HP.out.rd hPn (by omega) (by omega) ⟨by omega, by omega⟩).mono ?_; rintro e w2 ⟨pv, ev, rfl, HC⟩)
          go_meet
          case rel => exact HC
          --E
      case rest =>
      have hcc := hcut.out
      clear hcut
      cases hcc with
      | bad E hpv hev hE hp hs =>
        subst hpv hev
        have HPR2 : Hid (PR w wc G) := HPR.out.rd hs (by omega)
        have hwh := HPR2.out.whole
        have HPE := hide hp
        clear hp hs
        --B
        go_wp2
        have hfin := heap_setRow_at (ds := zFile) HPR2.out.res
        refine bodyPost_ret (results_cell_tmp Tryz.results33 _ _ G _ _ _ _ rfl hfin Tryz.underlying59 rfl (by kernel_rfl)) rfl ?_
        exact HBAD.out wc E HPR2.out HPE.out (by omega)
        --E
      | good g ps line hpv hev hg hF hwl hP hR hpos hline hcat hs =>
      subst hpv hev
      have HX0 : Hid (PX w wc wr.heap.size G F b off n cap k s i bb cs q (P + line.length + 1) (1 + (q : Int) + 1) a capq) := HP.out.line hs hR hGF
      have HF0 : Hid (Fst wc wc g b ps 0 0) := ⟨hF, ⟨by decide, by decide⟩, ⟨Same.refl _ _, Nat.le_refl _⟩, Below.refl _ _⟩
      generalize P + line.length + 1 = P2 at *
      have hgl := HF0.out.fault.2
      have hSV : wr.heap.size ≤ wc.heap.size := by omega
      have HLen := hide HP.out.len
      have HOk := hide HP.out.ok
      generalize wc = V at *
      clear hF hR hline hcat hs HP HPR
      generalize wr.heap.size = S at *
      go_upto_region 18 with fail
      go_cut [12] (fun p W => ∃ C act f, p = .pointer (some ⟨C, 0, none⟩) ∧ V.heap.size ≤ C ∧ Hid (PX w W S G F b off n cap k s i bb cs q P2 (1 + (q : Int) + 1) a capq) ∧ Hid (Fst V W g b ps 1 f) ∧ Hid (W.heap[C]? = some (.cells (changeCs ⟨act, zeroRow⟩) 111 (0, 0))))
      case first =>
        as_aux_lemma =>
          --B
          go_wp2_with (go_at_call 105; refine (letter_w _ HF0.out (by omega) hP).mono ?_; rintro e V2 ⟨act, f2, rfl, HF2, -⟩)
          go_meet
          case rel =>
            have hz := HF2.out.upn.size
            have HA : Below V2.heap.size V2 (V2.alloc (.cells (changeCs ⟨act, zeroRow⟩) 111)) := (Below.refl _ _).alloc (Nat.le_refl _) _
            have HQ : Fst V (V2.alloc (.cells (changeCs ⟨act, zeroRow⟩) 111)) g b ps 1 f2 := HF2.out.grow HA
            exact ⟨V2.heap.size, act, f2, rfl, hz, HX0.out.step (HQ.blw.mono (by omega)), HQ, heap_alloc_at _ _⟩
          --E
      case rest =>
      obtain ⟨C, act, f, rfl, hVC, HX1, HF1, HC0⟩ := hcut
      generalize wc = U1 at *
      clear HX0 HF0
      go_upto_region 19 with fail
      go_cut [] (fun W => ∃ r f, Hid (Row.Ok r) ∧ Hid (PX w W S G F b off n cap k s i bb cs q P2 (1 + (q : Int) + 1) a capq) ∧ Hid (W.cell? ⟨g, 2, none⟩ = some (.int .u8 f) ∧ g < W.heap.size ∧ V.heap.size ≤ W.heap.size) ∧ Hid (Flt f) ∧ Hid (W.heap[C]? = some (.cells (changeCs ⟨act, r⟩) 111 (0, 0))))
      case first =>
        as_aux_lemma =>
          --B
          have HG1 := hide HF1.out.again
          have hCl := blk_lt HC0.out
          go_wp2_with fail
          go_at_call 106
          refine (id_w _ HG1.out (by omega) hP).mono ?_
          rintro e U2 ⟨x1, f2, rfl, Hsample, HG2, -⟩
          go_wp2_with fail
          go_at_call 106
          refine (id_w _ HG2.out (by omega) hP).mono ?_
          rintro e U3 ⟨x2, f3, rfl, Hanalyte, HG3, -⟩
          go_wp2_with fail
          go_at_call 106
          refine (id_w _ HG3.out (by omega) hP).mono ?_
          rintro e U4 ⟨x3, f4, rfl, Hversion, HG4, -⟩
          go_wp2_with fail
          go_at_call 107
          refine (any_w _ HG4.out (by omega) hP).mono ?_
          rintro e U5 ⟨x4, f5, rfl, Hvalue, HG5, -⟩
          go_wp2_with fail
          go_at_call 106
          refine (id_w _ HG5.out (by omega) hP).mono ?_
          rintro e U6 ⟨x5, f6, rfl, Hsubject, HG6, -⟩
          go_wp2_with fail
          go_at_call 106
          refine (id_w _ HG6.out (by omega) hP).mono ?_
          rintro e U7 ⟨x6, f7, rfl, Hsite, HG7, -⟩
          go_wp2_with fail
          go_at_call 106
          refine (id_w _ HG7.out (by omega) hP).mono ?_
          rintro e U8 ⟨x7, f8, rfl, Hvisit, HG8, -⟩
          go_wp2_with fail
          go_at_call 106
          refine (id_w _ HG8.out (by omega) hP).mono ?_
          rintro e U9 ⟨x8, f9, rfl, Hproto, HG9, -⟩
          go_wp2_with fail
          go_at_call 106
          refine (id_w _ HG9.out (by omega) hP).mono ?_
          rintro e U10 ⟨x9, f10, rfl, Hkit, HG10, -⟩
          go_wp2_with fail
          go_at_call 109
          refine (byte_w _ HG10.out (by omega) hP).mono ?_
          rintro e U11 ⟨x10, f11, rfl, ⟨hcl1, hcl2⟩, HG11, -⟩
          go_wp2_with fail
          go_at_call 107
          refine (any_w _ HG11.out (by omega) hP).mono ?_
          rintro e U12 ⟨x11, f12, rfl, Hcollected, HG12, -⟩
          go_wp2_with fail
          go_at_call 107
          refine (any_w _ HG12.out (by omega) hP).mono ?_
          rintro e U13 ⟨x12, f13, rfl, Hreceived, HG13, -⟩
          go_wp2_with fail
          go_at_call 107
          refine (any_w _ HG13.out (by omega) hP).mono ?_
          rintro e U14 ⟨x13, f14, rfl, Htested, HG14, -⟩
          have hkV := (HG14.out.upn.same C ⟨hCl, by omega⟩).trans HC0.out
          have hst := run_stRow1 _ C act zeroRow ⟨x1, x2, x3, x4, x5, x6, x7, x8, x9, x10, x11, x12, x13⟩ hkV
          have HKV := hide hkV
          have HRo : Hid (Row.Ok ⟨x1, x2, x3, x4, x5, x6, x7, x8, x9, x10, x11, x12, x13⟩) := ⟨Hsample.out, Hanalyte.out, Hversion.out, Hvalue.out, Hsubject.out, Hsite.out, Hvisit.out, Hproto.out, Hkit.out, ⟨hcl1, hcl2⟩, Hcollected.out, Hreceived.out, Htested.out⟩
          clear hkV
          clear Hsample Hanalyte Hversion Hvalue Hsubject Hsite Hvisit Hproto Hkit Hcollected Hreceived Htested HG1 HG2 HG3 HG4 HG5 HG6 HG7 HG8 HG9 HG10 HG11 HG12 HG13
          go_wp2
          go_meet
          case rel =>
            have HQ := HG14.out
            have hz := HQ.upn.size
            refine ⟨_, f14, HRo, ?_, ⟨?_, ?_, ?_⟩, HQ.flt, heap_setRow_at HKV.out⟩
            · exact (HX1.out.step (HQ.blw.mono (by omega))).step ⟨rfl, rfl, rfl, by simp, fun k hk => setRow_other _ _ _ _ (by omega)⟩
            · rw [World.cell?_of_block (w := U14) (setRow_other _ _ _ _ (show g ≠ C by omega))]; exact HQ.fault.1
            · simp; exact HQ.fault.2
            · simp; exact Nat.le_trans HF1.out.upn.size hz
          --E
      case rest =>
      obtain ⟨r, f, Hr, HX2, HFc, HFl, HC2⟩ := hcut
      obtain ⟨hfc, hgl2, hVz⟩ := HFc.out
      clear HFc HX1 HF1 HC0
      generalize wc = U2 at *
      have h8 := HFl.out.1
      have h9 := HFl.out.2
      cases t5 : (f != 0) with
      | true =>
        have h7 : f ≠ 0 := by simpa using t5
        have HCC := hide (HFC.out U2 (1 + (q : Int) + 1) f ⟨by omega, by omega⟩ HX2.out.pr ⟨P2, HX2.out.rd⟩ ⟨by omega, by omega⟩)
        clear h7
        --B
        go_wp2_with (go_at_call 108; refine HCC.out.mono ?_; rintro e w5 ⟨E, rfl, HPR8, HPE, hE, hwh8, hz8⟩)
        have hfin := heap_setRow_at (ds := zFile) HPR8.out.res
        refine bodyPost_ret (results_cell_tmp Tryz.results33 _ _ G _ _ _ _ rfl hfin Tryz.underlying59 rfl (by kernel_rfl)) rfl ?_
        exact HBAD.out w5 E HPR8.out HPE.out (by omega)
        --E
      | false =>
      have hFl2 : F < U2.heap.size := blk_lt HX2.out.fl
      have hCl2 : C < U2.heap.size := blk_lt HC2.out
      go_upto_region 22 with fail
      clear hfc t5
      go_cut [124] (fun v W => (∃ t, v = .bool t) ∧ Hid (Below U2.heap.size U2 W))
      case first =>
        as_aux_lemma =>
          --B
          have f0 : U2.cell? ⟨F, 0, none⟩ = some (.int .u8 k) := cells_all HX2.out.fl 0
          have d0 : U2.cell? ⟨C, 0, none⟩ = some (.int .u8 act) := by rw [cells_all HC2.out 0]; rfl
          have hrx : rng U2 C 1 13 = some (rowCs r) := by
            have h1 : rng U2 C 0 14 = some (changeCs ⟨act, r⟩) := by unfold rng; rw [HC2.out]; rfl
            have := rng_sub (o := 1) (m := 13) h1 (by decide)
            rw [changeCs_row] at this
            simpa using this
          obtain ⟨t6, ht6⟩ := bool_for (ActOk k act)
          obtain ⟨t7, ht7⟩ := bool_for (RowOk r)
          have H6 := hide ht6
          have H7 := hide ht7
          clear ht6 ht7
          cases t6 with
          | false =>
            go_wp2_with (go_at_call 110; refine (validAction_calls _ _ _ false H6.out).mono ?_; rintro e w1 ⟨rfl, rfl⟩)
            go_meet
            case rel => exact ⟨⟨_, rfl⟩, Below.refl _ _⟩
          | true =>
            go_wp2_with (first
              | (go_at_call 110; refine (validAction_calls _ _ _ true H6.out).mono ?_; rintro e w1 ⟨rfl, rfl⟩)
              | (go_at_call 111; refine (validRow_calls _ _ t7 H7.out).mono ?_; rintro e w1 ⟨rfl, hb1⟩))
            go_meet
            case rel => exact ⟨⟨_, rfl⟩, hb1⟩
          --E
      case rest =>
      obtain ⟨⟨t6, rfl⟩, HB6⟩ := hcut
      have HX3 := hide (HX2.out.step (HB6.out.mono (by omega)))
      have HC3 := hide ((HB6.out.block _ hCl2).trans HC2.out)
      have hz3 := HB6.out.size
      generalize wc = U3 at *
      clear HB6 HX2 HC2
      have hG3 : G + 1 < U3.heap.size := (cell3 HX3.out.rd).2.2.2.2
      cases t6 with
      | true =>
        have HCC := hide (HFC.out U3 (1 + (q : Int) + 1) 5 ⟨by decide, by decide⟩ HX3.out.pr ⟨P2, HX3.out.rd⟩ ⟨by omega, by omega⟩)
        --B
        go_wp2_with (go_at_call 108; refine HCC.out.mono ?_; rintro e w5 ⟨E, rfl, HPR8, HPE, hE, hwh8, hz8⟩)
        have hfin := heap_setRow_at (ds := zFile) HPR8.out.res
        refine bodyPost_ret (results_cell_tmp Tryz.results33 _ _ G _ _ _ _ rfl hfin Tryz.underlying59 rfl (by kernel_rfl)) rfl ?_
        exact HBAD.out w5 E HPR8.out HPE.out (by omega)
        --E
      | false =>
      have hFl3 : F < U3.heap.size := blk_lt HX3.out.fl
      have hCl3 : C < U3.heap.size := blk_lt HC3.out
      go_upto_region 24 with fail
      go_cut [141] (fun v W => (∃ t, v = .bool t) ∧ Hid (Below U3.heap.size U3 W))
      case first =>
        as_aux_lemma =>
          --B
          have f4 : U3.cell? ⟨F, 4, none⟩ = some (.slice a q capq) := cells_all HX3.out.fl 4
          have hrx : rng U3 C 1 13 = some (rowCs r) := by
            have h1 : rng U3 C 0 14 = some (changeCs ⟨act, r⟩) := by unfold rng; rw [HC3.out]; rfl
            have := rng_sub (o := 1) (m := 13) h1 (by decide)
            rw [changeCs_row] at this
            simpa using this
          by_cases hq0 : 0 < q
          · obtain ⟨aa, ca, ba, oa, hva, -, -, -, haa, hca⟩ := RArr.lt (HX3.out.own.rows changeCs_size (by decide) (by rw [HLen.out]; omega))
            rw [HLen.out] at hva haa
            injection hva with hv1 hv2 hv3
            obtain ⟨ha1, ha2, ha3⟩ := haa hq0
            rw [← hv1] at ha1
            have hix := run_indexAt_u32 (P := Tryz.prog) (n := q) (cap := capq) Tryz.underlying57 Tryz.size111 (fun _ => ha1)
            have c1 := hca (q - 1) (by rw [HLen.out]; omega)
            generalize cs[q - 1]'(by rw [HLen.out]; omega) = cp at *
            have c2 := rng_sub (o := 1) (m := 13) c1 (by decide)
            rw [changeCs_row] at c2
            have e1 : ((q : Int) - 1).toNat = q - 1 := by omega
            have hi1 := fun w => hix w ((q : Int) - 1) (by omega) (by omega)
            simp only [e1] at hi1
            clear e1 c1 hca haa hv1 hv2 hv3 ha1 hix
            refine wp_region_ext U3.heap.size (by kernel_rfl) (by kernel_rfl) ?_
            repeat (go_big_quiet_step ((go_at_call 112; refine ext_call (Nat.le_refl _) (compareKeys_calls _ _ _))))
            refine wpQuiet_nil ?_
            intro _ hw'
            obtain ⟨x, hw2⟩ := hw'
            subst hw2
            obtain ⟨w2, hb2⟩ := x
            simp only []
            go_wp2_with fail
            go_meet
            case rel => exact ⟨⟨_, rfl⟩, hb2⟩
          · obtain rfl : q = 0 := by omega
            refine wp_region_ext U3.heap.size (by kernel_rfl) (by kernel_rfl) ?_
            repeat (go_big_quiet_step (fail))
            refine wpQuiet_nil ?_
            intro _ hw'
            obtain ⟨x, hw2⟩ := hw'
            subst hw2
            obtain ⟨w2, hb2⟩ := x
            simp only []
            go_wp2_with fail
            go_meet
            case rel => exact ⟨⟨_, rfl⟩, hb2⟩
          --E
      case rest =>
      obtain ⟨⟨t8, rfl⟩, HB8⟩ := hcut
      have HX4 := hide (HX3.out.step (HB8.out.mono (by omega)))
      have HC4 := hide ((HB8.out.block _ hCl3).trans HC3.out)
      have hz4 := HB8.out.size
      generalize wc = U4 at *
      clear HB8 HX3 HC3
      have hG4 : G + 1 < U4.heap.size := (cell3 HX4.out.rd).2.2.2.2
      cases t8 with
      | true =>
        have HCC := hide (HFC.out U4 (1 + (q : Int) + 1) 5 ⟨by decide, by decide⟩ HX4.out.pr ⟨P2, HX4.out.rd⟩ ⟨by omega, by omega⟩)
        --B
        go_wp2_with (go_at_call 108; refine HCC.out.mono ?_; rintro e w5 ⟨E, rfl, HPR8, HPE, hE, hwh8, hz8⟩)
        have hfin := heap_setRow_at (ds := zFile) HPR8.out.res
        refine bodyPost_ret (results_cell_tmp Tryz.results33 _ _ G _ _ _ _ rfl hfin Tryz.underlying59 rfl (by kernel_rfl)) rfl ?_
        exact HBAD.out w5 E HPR8.out HPE.out (by omega)
        --E
      | false =>
      have hFx : F < U4.heap.size := blk_lt HX4.out.fl
      have hCx : C < U4.heap.size := blk_lt HC4.out
      have hcX : rng U4 C 0 14 = some (changeCs ⟨act, r⟩) := by unfold rng; rw [HC4.out]; rfl
      have f4X : U4.cell? ⟨F, 4, none⟩ = some (.slice a q capq) := cells_all HX4.out.fl 4
      generalize hcg : (⟨act, r⟩ : Change) = c at hcX
      have Hcg := hide hcg
      clear hcg
      --B
      go_wp2_with (at_builtin; (refine wpList_app1 (α := Change) rfl _ _ 57 rfl (F + 1) 111 changeCs Tryz.underlying57 Tryz.info111 rfl (by decide) changeCs_size changeCs_one (.slice a q capq) cs rfl (OwnR.below HX4.out.own ((Below.refl _ _).alloc (Nat.le_refl _) _) (Nat.le_refl _)) _ rfl c (by rw [rng_alloc_at _ _ _ _ _ _ _ rfl, changeCs_size] <;> rfl) (by rw [HLen.out] <;> omega) (by rw [HLen.out] <;> (unfold maxLen; omega)) (by simp <;> omega) ?_); intro v1 w1 hown1 hsame1 hbel1 hat1; have hfl1 : w1.heap[F]? = some (.cells (fileCs k s i bb a q capq) 59 (0, 0)) := (by rw [hbel1.block _ (by omega), Below.heap_alloc _ _ _ hFx]; exact HX4.out.fl); have f41 : w1.cell? ⟨F, 4, none⟩ = some (.slice a q capq) := cells_all hfl1 4; have fz1 : w1.frozen? ⟨F, 4, none⟩ = false := (by simp [World.frozen?, hfl1]); obtain ⟨a1, cap1, hv1⟩ := hown1.form; rw [List.length_append, HLen.out] at hv1; subst hv1)
      go_roundg (m - (q + 1))
      case measure => omega
      case rel =>
        have hB26 : Below (F + 1) U4 w1 := ((Below.refl _ _).alloc (by omega) _).trans hbel1
        refine ⟨q + 1, P2, cs ++ [c], a1, cap1, by omega, rfl, by go_num, ?_, ?_, ?_, ?_, ?_, ?_, ?_, ?_⟩
        · unfold ReaderAt
          rw [Below.heap_setCell _ _ _ _ (by simp; omega), hB26.block _ (by omega)]
          have e2 : (1 + ((q + 1 : Nat) : Int)) = 1 + (q : Int) + 1 := by omega
          rw [e2]
          exact HX4.out.rd
        · have := heap_set3 (j := 4) (v := .slice a1 (q + 1) cap1) hfl1
          exact this
        · exact hown1.mono fun x hx => Below.heap_setCell _ _ _ _ (by have := (hown1.block x hx).1; simp; omega)
        · simp [HLen.out]
        · intro y hy
          rcases List.mem_append.1 hy with hy | hy
          · exact HOk.out y hy
          · obtain rfl : y = c := by simpa using hy
            rw [← Hcg.out]; exact Hr.out
        · rw [Below.heap_setCell _ _ _ _ (by simp; omega), hB26.block _ (by omega)]
          exact HX4.out.res
        · exact (HX4.out.blw.trans (hB26.mono (by omega))).setCell (p := ⟨F, 4, none⟩) (by simp; omega) _
        · exact hpos
      --E
    · obtain rfl : q = m := by omega
      have HTR := hide (trailer_any wr (G + 1) n cap b off data P (1 + (q : Int)) q HP.out.rd (by omega) HCP.out (by have := HP.out.blw.size; omega) (fun t h => (HP.out.blw.cell (p := ⟨b, off + t, none⟩) (by dsimp only; omega)).trans (HD.out t h)) HN.out (by omega) hPn hn0 ⟨by omega, by omega⟩)
      go_upto_region 27 with fail
      go_cut [13] (fun v W => Hid (ErrCase wr W (G + 1) v))
      case first =>
        as_aux_lemma =>
          --B
          go_wp2_with (go_at_call 113; refine HTR.out.mono ?_; rintro e w2 hw2; obtain ⟨v, rfl, hv⟩ := hw2.one; have HV := hide hv; clear hv hw2)
          go_meet
          case rel => exact HV
          --E
      case rest =>
      have hcc := hcut.out
      clear hcut HTR
      cases hcc with
      | bad E hev hE hp hs =>
        subst hev
        have HPR2 : Hid (PR w wc G) := HPR.out.rd hs (by omega)
        have hwh := HPR2.out.whole
        have HPE := hide hp
        clear hp hs
        --B
        go_wp2
        have hfin := heap_setRow_at (ds := zFile) HPR2.out.res
        refine bodyPost_ret (results_cell_tmp Tryz.results33 _ _ G _ _ _ _ rfl hfin Tryz.underlying59 rfl (by kernel_rfl)) rfl ?_
        exact HBAD.out wc E HPR2.out HPE.out (by omega)
        --E
      | ok hev hs =>
      subst hev
      obtain ⟨hfl2, hown2⟩ := HP.out.tail hs hGF
      have HPR2 : Hid (PR w wc G) := HPR.out.rd hs (by omega)
      have hz2 := hs.below.size
      have HLen := hide HP.out.len
      have hch2 : ChangesAt wc (F + 1 ≤ ·) (.slice a cs.length capq) cs := by
        rw [HLen.out]
        exact hown2.rows changeCs_size (by decide) (by rw [HLen.out]; omega)
      have hrf2 : rng wc F 0 5 = some (fileCs k s i bb a q capq) := rng_whole hfl2
      have hFl2 := blk_lt hfl2
      have HCh := hide hch2
      have HOk := hide HP.out.ok
      have hG2 := blk_lt HPR2.out.res
      clear hs hown2 hfl2 HP HPR
      by_cases hFO : FileOk k s i bb cs
      · have hcf := checkFile_calls wc (F + 1 ≤ ·) k s i bb a capq cs hch2 .nilIface (fun _ => rfl) (fun h => absurd hFO h)
        rw [HLen.out] at hcf
        have Hcf := hide hcf
        have HFO := hide hFO
        clear hcf hch2 hFO
        --B
        go_upto_region 32 with (go_at_call 114; refine Hcf.out.mono ?_; rintro e w3 ⟨rfl, hb3⟩)
        have hz3 := hb3.size
        have hrf3 : rng w3 F 0 5 = some (fileCs k s i bb a q capq) := by rw [rng_of_block (hb3.block _ (by omega))]; exact hrf2
        have HPR3 := hide (HPR2.out.below hb3 (by omega))
        have hwh := HPR3.out.whole
        have HCh3 := hide (RArr.below HCh.out hb3)
        clear Hcf
        go_wp2
        have hfin := heap_setRow_at (ds := fileCs k s i bb a q capq) HPR3.out.res
        refine bodyPost_ret (results_cell_tmp Tryz.results33 _ _ G _ _ _ _ rfl hfin Tryz.underlying59 rfl (by kernel_rfl)) rfl ?_
        refine .good k s i bb a capq cs (by rw [HLen.out]; rfl) HFO.out Hs.out Hi.out Hbb.out (file_acts HFO.out HOk.out) ?_ ?_
        · exact RArr.mono HCh3.out (fun k hk => setRow_other _ _ _ _ (by omega)) (fun b hb => by have := HG.out; omega)
        · rw [HG.out]
          exact HPR3.out.blw.trans ⟨rfl, rfl, rfl, by simp, fun k hk => setRow_other _ _ _ _ (by omega)⟩
        --E
      · have hcf := checkFile_calls wc (F + 1 ≤ ·) k s i bb a capq cs hch2 (.iface 63 (.int .u8 29)) (fun h => absurd h hFO) (fun _ => rfl)
        rw [HLen.out] at hcf
        have Hcf := hide hcf
        clear hcf hch2 hFO
        --B
        go_upto_region 31 with (go_at_call 114; refine Hcf.out.mono ?_; rintro e w3 ⟨rfl, hb3⟩)
        have hz3 := hb3.size
        have HPR3 := hide (HPR2.out.below hb3 (by omega))
        have HPR4 : Hid (PR w (w3.alloc (.cells #[.int .i64 1, .int .u8 5] 243)) G) := HPR3.out.below ((Below.refl _ _).alloc (Nat.le_refl _) _) (by omega)
        have hwh := HPR4.out.whole
        clear Hcf
        go_wp2
        have hfin := heap_setRow_at (ds := zFile) HPR4.out.res
        refine bodyPost_ret (results_cell_tmp Tryz.results33 _ _ G _ _ _ _ rfl hfin Tryz.underlying59 rfl (by kernel_rfl)) rfl ?_
        exact HBAD.out _ w3.heap.size HPR4.out ⟨1, 5, heap_alloc_at _ _, ⟨by decide, by decide⟩, ⟨by decide, by decide⟩⟩ (by omega)
        --E

set_option maxRecDepth 100000 in
set_option maxHeartbeats 2000000 in
theorem parse_none (w : World) (a : Option Addr) (cap : Nat) :
    Calls Tryz.prog 33 #[.slice a 0 cap] w fun e w' => ParseAns w w' e := by
  go_enter Tryz.func33, Tryz.ntmps33
  go_upto_region 2 with fail
  obtain ⟨G, hG⟩ : ∃ G, w.heap.size = G := ⟨_, rfl⟩
  have hb1 := below2 w (.cells #[.int .u8 0, .int .u32 0, .int .i64 0, .int .u32 0, .slice none 0 0] 59) (.cells #[.slice a 0 cap, .int .i64 0, .int .i64 0] 224)
  have hk0 : ((w.alloc (.cells #[.int .u8 0, .int .u32 0, .int .i64 0, .int .u32 0, .slice none 0 0] 59)).alloc (.cells #[.slice a 0 cap, .int .i64 0, .int .i64 0] 224)).heap[w.heap.size]? = some (.cells zFile 59 (0, 0)) := by rw [Below.heap_alloc _ _ _ (by simp), heap_alloc_at]; rfl
  have hk1 : ReaderAt ((w.alloc (.cells #[.int .u8 0, .int .u32 0, .int .i64 0, .int .u32 0, .slice none 0 0] 59)).alloc (.cells #[.slice a 0 cap, .int .i64 0, .int .i64 0] 224)) (w.heap.size + 1) (.slice a 0 cap) 0 0 := by
    have := heap_alloc_at (w.alloc (.cells #[.int .u8 0, .int .u32 0, .int .i64 0, .int .u32 0, .slice none 0 0] 59)) (.cells #[.slice a 0 cap, .int .i64 0, .int .i64 0] 224)
    simpa [ReaderAt] using this
  have hz1 : ((w.alloc (.cells #[.int .u8 0, .int .u32 0, .int .i64 0, .int .u32 0, .slice none 0 0] 59)).alloc (.cells #[.slice a 0 cap, .int .i64 0, .int .i64 0] 224)).heap.size = w.heap.size + 2 := by simp
  generalize ((w.alloc (.cells #[.int .u8 0, .int .u32 0, .int .i64 0, .int .u32 0, .slice none 0 0] 59)).alloc (.cells #[.slice a 0 cap, .int .i64 0, .int .i64 0] 224)) = W1 at *
  rw [hG] at hb1 hk0 hk1 hz1 ⊢
  have HG := hide hG
  have HPR1 : Hid (PR w W1 G) := ⟨hk0, hb1⟩
  have HNX := hide (next_empty W1 (G + 1) cap a 0 6 hk1 ⟨by omega, by omega⟩)
  clear hG hb1 hk0 hk1
  go_wp2_with (go_at_call 103; refine HNX.out.mono ?_; rintro e w2 ⟨E, rfl, hE, hp, hs⟩; have HPR2 := hide (HPR1.out.rd hs (by omega)); have hwh := HPR2.out.whole; have HP := hide hp; clear hp hs)
  have hfin := heap_setRow_at (ds := zFile) HPR2.out.res
  refine bodyPost_ret (results_cell_tmp Tryz.results33 _ _ G _ _ _ _ rfl hfin Tryz.underlying59 rfl (by kernel_rfl)) rfl ?_
  refine .bad E rfl (by have := HG.out; omega) (HP.out.setRow (by omega)) ?_
  rw [HG.out]
  exact HPR2.out.blw.trans ⟨rfl, rfl, rfl, by simp, fun k hk => setRow_other _ _ _ _ (by omega)⟩

theorem parse_any (w : World) (ok : Nat → Prop) (v : Value) (bs : List Int) (h : BytesAt w ok v bs) (hn : bs.length ≤ 1000000000000) :
    Calls Tryz.prog 33 #[v] w fun e w' => ParseAns w w' e := by
  obtain ⟨a, cap, b, off, rfl, hl, hm, hr, ha, hc⟩ := h.lt
  by_cases h0 : 0 < bs.length
  · obtain ⟨rfl, -, hb⟩ := ha h0
    exact parse_some w b off bs.length cap bs ⟨hl, hm.1⟩ hb (fun t ht => by have := (rng_cell (hc t ht)).2 0 (by decide); simpa [byteCs] using this) rfl hn h0
  · rw [show bs.length = 0 by omega]
    exact parse_none w a cap

end Go.Proofs.Qxb6500666aGreatDoor

