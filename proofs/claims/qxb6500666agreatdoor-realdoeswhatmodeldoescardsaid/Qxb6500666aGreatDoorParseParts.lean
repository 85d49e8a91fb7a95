/- What the walk of Parse uses. -/
import Derived.Test.Qxb6500666aGreatDoorTrailWalk
namespace Go.Proofs.Qxb6500666aGreatDoor
open Go.RowKit
attribute [local go_sem ↓] exec_ldRow exec_ldChange exec_ldFile exec_stRow exec_stChange exec_stFile exec_bsRow exec_bsChange exec_slRows exec_bdChange exec_eqlRow exec_neqRow
attribute [local go_sem] run_ldRow run_ldChange run_ldFile run_stRow run_stChange run_stFile run_bsRow run_bsChange run_bdChange run_neqRow run_eqlRow rng_alloc_lt rng_alloc_at rng_drew rng_drewN rng_setCell_other rng_setRow_other whole_alloc_lt whole_alloc_at whole_drew whole_setCell_other whole_setRow_other setRow_alloc_at setRow_alloc_lt setRow_drew rowCs_size rowCs_ones rowCs_0 rowCs_1 rowCs_2 rowCs_3 rowCs_4 rowCs_5 rowCs_6 rowCs_7 rowCs_8 rowCs_9 rowCs_10 rowCs_11 rowCs_12 rowCs_all changeCs_size changeCs_ones changeCs_0 changeCs_row changeCs_all fileCs_size fileCs_ones fileCs_0 fileCs_1 fileCs_2 fileCs_3 fileCs_4 fileCs_all ext_const Ext.cell Ext.frozen Ext.rng Ext.whole
theorem file_ones (k s i b : Int) : ones #[.int .u8 k, .int .u32 s, .int .i64 i, .int .u32 b, .slice none 0 0] 5 = true := rfl
attribute [local go_sem] file_ones

/-- A row, stored into a line's own field. -/
theorem store_cells_off {P : Program} (g o : Nat) (t : TypeId) : ∀ (vs : List Value) (w : World) (i : Nat) (pre post : List Value), (∀ v ∈ vs, v.oneCell' = true) → o + i = pre.length → vs.length = post.length → w.heap[g]? = some (.cells (pre ++ post).toArray t (0, 0)) →
    (storeCells ⟨g, o, none⟩ vs i).run P w = .ok () (w.setRow g (pre ++ vs).toArray) := by
  intro vs
  induction vs with
  | nil =>
    intro w i pre post _ hi hp hw
    have : post = [] := List.length_eq_zero_iff.1 (by simpa using hp.symm)
    subst this
    simp only [storeCells, List.append_nil] at hw ⊢
    rw [setRow_self w g _ t _ hw]
    rfl
  | cons v rest ih =>
    intro w i pre post hone hi hp hw
    cases post with
    | nil => simp at hp
    | cons q post =>
      unfold storeCells
      rw [Sem.run_bind]
      have hcell : w.cell? ⟨g, o + i, none⟩ = some q := by
        simp only [World.cell?, hw, Option.isSome_none, Bool.false_eq_true, if_false]
        rw [hi]
        simp
      have hfz : w.frozen? ⟨g, o + i, none⟩ = false := frozen_of_row w g (o + i) _ t hw
      have hst : (store (Addr.add ⟨g, o, none⟩ i) v).run P w = .ok () (w.setCell ⟨g, o + i, none⟩ v) := by
        rw [Addr.add_lit, run_store P w _ v .plain (hone v (by simp))]
        simp [hcell, hfz]
      rw [hst]
      simp only [Result.andThen_ok]
      have hw2 := heap_setCell_same w g (o + i) _ t v hw
      have e : ((pre ++ q :: post).toArray.setIfInBounds (o + i) v) = ((pre ++ [v]) ++ post).toArray := by
        rw [hi]
        simp
      rw [e] at hw2
      rw [ih (w.setCell ⟨g, o + i, none⟩ v) (i + 1) (pre ++ [v]) post (fun x hx => hone x (by simp [hx])) (by simp; omega) (by simpa using hp) hw2]
      rw [setCell_eq_setRow w g (o + i) _ t _ v hw, setRow_setRow]
      simp

theorem run_stRow1 (w : World) (C : Nat) (x : Int) (r0 r : Row) (h : w.heap[C]? = some (.cells (changeCs ⟨x, r0⟩) 111 (0, 0))) :
    (stS 109 (.pointer (some ⟨C, 1, none⟩)) (.agg (rowCs r))).run Tryz.prog w = .ok () (w.setRow C (changeCs ⟨x, r⟩)) := by
  have := store_cells_off (P := Tryz.prog) C 1 111 (rowCs r).toList w 0 [.int .u8 x] (rowCs r0).toList (fun v hv => rowCs_one r v (by simpa using hv)) rfl rfl h
  simp [stS, Instr.storeAt, Instr.sureAddr, storeVar, Sem.run_bind, Value.cells]
  exact this

theorem run_indexAt_u32 {P : Program} {t e : TypeId} {size : Nat} (ht : P.underlying t = some (.slice e)) (hs : ∀ w, (sizeOf e).run P w = .ok size w) {a : Option Addr} {b off n cap : Nat}
    (ha : 0 < n → a = some ⟨b, off, none⟩) (w : World) (k : Int) (h0 : 0 ≤ k) (h1 : k < n) :
    (Instr.indexAt t (.slice a n cap) (.int .u32 k)).run P w = .ok (.pointer (some ⟨b, off + k.toNat * size, none⟩)) w := by
  have hn : 0 < n := by omega
  rw [ha hn, run_indexAt_slice (P := P) w t ⟨b, off, none⟩ n cap .u32 k (by simp [Program.elem, ht])]
  simp [h0, h1, Program.elem, ht, hs, Addr.add_lit]

theorem FieldsAt.grow {w w' : World} {g b : Nat} {ps : List (List Int)} {at' f : Int} (h : FieldsAt w g b ps at' f) (hs : Same (fun k => k < w.heap.size) w w') (hz : w.heap.size ≤ w'.heap.size) : FieldsAt w' g b ps at' f := by
  obtain ⟨pv, vals, hg, hr, hl, hv, hb, hbl⟩ := h
  refine ⟨pv, vals, (hs g (Array.getElem?_eq_some_iff.1 hg).1).trans hg, RArr.mono (RArr.lt hr) (fun k hk => hs k hk.2) (fun _ hk => hk.1), hl, fun t h h' => ?_, hb, by omega⟩
  obtain ⟨v1, v2, v3, v4⟩ := hv t h h'
  exact ⟨v1, v2, v3, fun u hu' => by rw [hs.cell (b := b) hbl]; exact v4 u hu'⟩

theorem dec_part (x : Int) : PartOk (dec x) := ⟨fun h => by have := dec_pos x; rw [h] at this; simp at this, fun c hc => by have := dec_range x c hc; omega⟩

def rowParts (r : Row) : List (List Int) := [dec r.sample, dec r.analyte, dec r.version, dec r.value, dec r.subject, dec r.site, dec r.visit, dec r.proto, dec r.kit, dec r.cls, dec r.collected, dec r.received, dec r.tested]
def headParts (k s i b n : Int) : List (List Int) := [[k], dec s, dec i, dec b, dec n]

theorem rowText_parts (c : Change) : rowText c = ([c.action] ++ tailT (rowParts c.row)) ++ [10] := by simp [rowText, rowParts, tailT, fld]
theorem headText_parts (k s i b n : Int) : headText k s i b n = ([72] ++ tailT (headParts k s i b n)) ++ [10] := by simp [headText, headParts, tailT, fld]

theorem rowParts_ok {k : Int} {c : Change} (h : ActOk k c.action) : ∀ p ∈ [c.action] :: rowParts c.row, PartOk p := by
  have ha : PartOk [c.action] := ⟨by simp, by
    intro x hx
    simp only [List.mem_singleton] at hx
    subst hx
    unfold ActOk at h
    omega⟩
  intro p hp
  simp only [rowParts, List.mem_cons, List.not_mem_nil, or_false] at hp
  rcases hp with rfl | rfl | rfl | rfl | rfl | rfl | rfl | rfl | rfl | rfl | rfl | rfl | rfl | rfl
  · exact ha
  all_goals exact dec_part _

theorem headParts_ok {k s i b n : Int} (h : KindOk k) : ∀ p ∈ [72] :: headParts k s i b n, PartOk p := by
  have ha : PartOk [k] := ⟨by simp, by
    intro x hx
    simp only [List.mem_singleton] at hx
    subst hx
    unfold KindOk at h
    omega⟩
  intro p hp
  simp only [headParts, List.mem_cons, List.not_mem_nil, or_false] at hp
  rcases hp with rfl | rfl | rfl | rfl | rfl | rfl
  · exact ⟨by simp, by simp⟩
  · exact ha
  all_goals exact dec_part _

/-- Where Parse stands behind q lines: the reader, the file as gathered, the result's variable. -/
structure PSt (w W : World) (G F b off n cap : Nat) (k s i bb : Int) (cs : List Change) (m q : Nat) (a : Option Addr) (capq : Nat) : Prop where
  rd : ReaderAt W (G + 1) (.slice (some ⟨b, off, none⟩) n cap) (headText k s i bb m ++ linesText (cs.take q)).length (1 + q)
  fl : W.heap[F]? = some (.cells (fileCs k s i bb a q capq) 59 (0, 0))
  own : OwnR W (F + 1) 111 14 changeCs (.slice a q capq) (cs.take q)
  res : W.heap[G]? = some (.cells #[.int .u8 0, .int .u32 0, .int .i64 0, .int .u32 0, .slice none 0 0] 59 (0, 0))
  blw : Below G w W

theorem lines_split (cs : List Change) (q : Nat) (h : q < cs.length) : linesText cs = linesText (cs.take q) ++ (rowText cs[q] ++ linesText (cs.drop (q + 1))) := by
  have happ : ∀ (a b : List Change), linesText (a ++ b) = linesText a ++ linesText b := fun a b => by
    unfold linesText
    induction a with
    | nil => rfl
    | cons x a ih => simp [flatL, ih]
  have e : cs = cs.take q ++ (cs[q] :: cs.drop (q + 1)) := by rw [List.getElem_cons_drop, List.take_append_drop]
  conv => lhs; rw [e]
  rw [happ]
  rfl

theorem text_at (k s i bb : Int) (cs : List Change) (m q : Nat) (hm : cs.length = m) (h : q < cs.length) :
    fileText k s i bb cs = (headText k s i bb m ++ linesText (cs.take q)) ++ (([cs[q].action] ++ tailT (rowParts cs[q].row)) ++ 10 :: (linesText (cs.drop (q + 1)) ++ ([84] ++ fld m ++ fld (crc (bodyText k s i bb cs)) ++ [10]))) := by
  unfold fileText trailText
  conv => lhs; enter [1, 1, 1, 1]; unfold bodyText
  rw [lines_split cs q h, rowText_parts, hm]
  simp only [List.append_assoc, List.cons_append, List.nil_append]

theorem text_next (k s i bb : Int) (cs : List Change) (m q : Nat) (h : q < cs.length) :
    (headText k s i bb m ++ linesText (cs.take q)) ++ (([cs[q].action] ++ tailT (rowParts cs[q].row)) ++ [10]) = headText k s i bb m ++ linesText (cs.take (q + 1)) := by
  have : linesText (cs.take (q + 1)) = linesText (cs.take q) ++ rowText cs[q] := by
    rw [List.take_succ_eq_append_getElem h]; exact flatL_snoc _ _ _
  rw [this, rowText_parts]
  simp only [List.append_assoc]

def zeroRow : Row := ⟨0, 0, 0, 0, 0, 0, 0, 0, 0, 0, 0, 0, 0⟩

theorem change_ones (k : Int) : ones #[.int .u8 k, .int .u32 0, .int .u32 0, .int .u32 0, .int .i64 0, .int .u32 0, .int .u32 0, .int .u32 0, .int .u32 0, .int .u32 0, .int .u8 0, .int .i64 0, .int .i64 0, .int .i64 0] 14 = true := rfl

end Go.Proofs.Qxb6500666aGreatDoor
