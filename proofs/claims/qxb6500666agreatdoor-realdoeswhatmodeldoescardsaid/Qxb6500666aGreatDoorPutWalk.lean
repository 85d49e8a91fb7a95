/- put and drop: a write more in the draft, walked. -/
import Derived.Test.Qxb6500666aGreatDoorApplyZ
import Derived.Test.Qxb6500666aGreatDoorHand1
namespace Go.Proofs.Qxb6500666aGreatDoor
open Go.RowKit

section
variable (ρ : Operand → Value) (dst : Option Tmp) (x : Operand) (ty : TypeId) (pos : String) (after : Array Edge) (guard : Option (Nat × Bool))
theorem exec_bsWr : execOp ρ { dst, op := .buildSlice 328 1 #[(0, x)], type := ty, pos, after, guard } = (do pure (.value (← bsS 328 (ρ x)))) := by simp [execOp, bsS]
end
theorem run_bsWr (w : World) (a b : Option Addr) (n c m d : Nat) (x : Bool) : (bsS 328 (.agg #[.slice a n c, .slice b m d, .bool x])).run Tryz.prog w = .ok (.slice (some ⟨w.heap.size, 0, none⟩) 1 1) (w.alloc (.cells #[.slice a n c, .slice b m d, .bool x] 388)) := by kernel_rfl
theorem Tryz.info388 : (Tryz.prog.info? 388).map (fun i => (i.zero, i.size, i.bytes)) = some (some (.agg #[.slice none 0 0, .slice none 0 0, .bool false]), 3, 56) := by kernel_rfl

/-- The draft with its writes. -/
structure DrW (w : World) (D bd : Nat) (r : Req) (lv : Value) (s : Stat) (x : LV) (wv : Value) (iss : Int) (B : Nat → Prop) (zs : List ZW) : Prop where
  at' : DraftAt w D r lv s x wv iss
  own : OwnR w bd 388 3 zwCs wv zs
  zip : ZipW w B zs
  sep : ∀ b, wv.ownBlock = some b → b ≠ D ∧ ¬ B b
  out : ¬ B D
  lt : ∀ b, B b → b < w.heap.size
  baseD : bd ≤ D
/-- What a write leaves of the rest. -/
structure DrStep (w w' : World) (D bd : Nat) (wv wv' : Value) : Prop where
  fr : ∀ b, b < w.heap.size → b ≠ D → wv.ownBlock ≠ some b → w'.heap[b]? = w.heap[b]?
  bel : Below bd w w'
  own : wv'.ownBlock = wv.ownBlock ∨ ∀ b, wv'.ownBlock = some b → w.heap.size ≤ b
theorem DrStep.trans {w w1 w2 : World} {D bd : Nat} {pv pv1 pv2 : Value} (h : DrStep w w1 D bd pv pv1) (k : DrStep w1 w2 D bd pv1 pv2) : DrStep w w2 D bd pv pv2 := by
  have hs := h.bel.size
  refine ⟨fun b h1 h2 h3 => (k.fr b (by omega) h2 (fun e => ?_)).trans (h.fr b h1 h2 h3), h.bel.trans k.bel, ?_⟩
  · rcases h.own with e1 | e1
    · exact h3 (e1 ▸ e)
    · have := e1 b e; omega
  · rcases k.own with e1 | e1
    · rcases h.own with e2 | e2
      · exact Or.inl (e1.trans e2)
      · exact Or.inr (fun b hb => e2 b (e1 ▸ hb))
    · exact Or.inr (fun b hb => by have := e1 b hb; omega)
theorem DrStep.of_below {w w' : World} {D bd : Nat} {wv : Value} (hb : Below w.heap.size w w') (hB : bd ≤ w.heap.size) : DrStep w w' D bd wv wv :=
  ⟨fun b h1 _ _ => hb.block b h1, hb.mono hB, Or.inl rfl⟩
theorem DrW.below {w w' : World} {D bd : Nat} {r : Req} {lv : Value} {s : Stat} {x : LV} {wv : Value} {iss : Int} {B : Nat → Prop} {zs : List ZW} (h : DrW w D bd r lv s x wv iss B zs) (hb : Below w.heap.size w w') : DrW w' D bd r lv s x wv iss B zs :=
  ⟨h.at'.below hb, h.own.below hb (Nat.le_refl _), h.zip.mono (fun b hb' => hb.block b (h.lt b hb')) (fun _ h => h), h.sep, h.out, fun b hb' => Nat.lt_of_lt_of_le (h.lt b hb') hb.size, h.baseD⟩

attribute [local go_sem] ext_const Ext.cell Ext.frozen Ext.rng Ext.whole
attribute [local go_sem ↓] exec_bsWr
attribute [local go_sem] run_bsWr whole_alloc_lt whole_alloc_at whole_drew setRow_alloc_at setRow_alloc_lt rng_alloc_lt rng_alloc_at rng_drew rng_drewN

/-- Behind the append and the store. -/
theorem DrW.add {w w1 : World} {D bd : Nat} {r : Req} {lv : Value} {s : Stat} {x : LV} {wv v1 : Value} {iss : Int} {B B1 : Nat → Prop} {zs zs1 : List ZW} {o : Obj} (h : DrW w D bd r lv s x wv iss B zs) (hown : OwnR w1 bd 388 3 zwCs v1 zs1) (hs : Same (fun b => b < (w.alloc o).heap.size ∧ wv.ownBlock ≠ some b) (w.alloc o) w1) (hb : Below bd (w.alloc o) w1) (hat : v1.ownBlock = wv.ownBlock ∨ v1.ownBlock = some (w.alloc o).heap.size)
    (hz : ZipW w B1 zs1) (hB : ∀ b, B1 b → b < w.heap.size ∧ b ≠ D ∧ wv.ownBlock ≠ some b) : DrW (w1.setCell ⟨D, 29, none⟩ v1) D bd r lv s x v1 iss B1 zs1 ∧ DrStep w (w1.setCell ⟨D, 29, none⟩ v1) D bd wv v1 := by
  have hD := h.at'.lt
  have hbd := h.baseD
  have hsz : (w.alloc o).heap.size = w.heap.size + 1 := by simp
  have hrow : ∀ b, b < w.heap.size → wv.ownBlock ≠ some b → w1.heap[b]? = w.heap[b]? := fun b h1 h2 => (hs b ⟨by omega, h2⟩).trans (Below.heap_alloc _ _ _ h1)
  have hD1 : DraftAt w1 D r lv s x wv iss := (hrow D hD (fun e => (h.sep D e).1 rfl)).trans h.at'
  have hv : ∀ b, v1.ownBlock = some b → b ≠ D ∧ ¬ B1 b := fun b hb' => by
    rcases hat with e | e
    · exact ⟨(h.sep b (e ▸ hb')).1, fun ha => (hB b ha).2.2 (e ▸ hb')⟩
    · rw [e] at hb'; injection hb' with hb'; exact ⟨by omega, fun ha => by have := (hB _ ha).1; omega⟩
  have hoth : ∀ b, b ≠ D → (w1.setCell ⟨D, 29, none⟩ v1).heap[b]? = w1.heap[b]? := fun b hb' => Below.heap_setCell _ _ _ _ hb'
  have hbw : Below bd w w1 := ((Below.refl _ _).alloc (by omega) _).trans hb
  refine ⟨⟨hD1.set (draft_set v1).2.2.2.2.2.2.2.2, hown.mono (fun b hb' => hoth b (hv b hb').1), hz.mono (fun b hb' => (hoth b (hB b hb').2.1).trans (hrow b (hB b hb').1 (hB b hb').2.2)) (fun _ h => h), hv, fun e => (hB D e).2.1 rfl, fun b hb' => by have := (hB b hb').1; have := hbw.size; simp only [World.size_setCell]; omega, h.baseD⟩, ⟨fun b h1 h2 h3 => (hoth b h2).trans (hrow b h1 h3), hbw.setCell (p := ⟨D, 29, none⟩) h.baseD _, hat.imp id (fun e b hb' => by rw [e] at hb'; injection hb' with hb'; omega)⟩⟩

set_option maxRecDepth 100000 in
set_option maxHeartbeats 1000000 in
theorem put_calls (w : World) (D bd : Nat) (r : Req) (lv : Value) (s : Stat) (x : LV) (wv : Value) (iss : Int) (B B1 : Nat → Prop) (zs : List ZW) (ka : Option Addr) (kn kc : Nat) (kb : List Int) (h : DrW w D bd r lv s x wv iss B zs) (hk : BytesAt w B1 (.slice ka kn kc) kb) (va : Option Addr) (vn vc : Nat) (vb : List Int) (hv : BytesAt w B1 (.slice va vn vc) vb) (hBB : ∀ b, B b → B1 b) (hB1 : ∀ b, B1 b → b < w.heap.size ∧ b ≠ D ∧ wv.ownBlock ≠ some b) (hl : zs.length ≤ 100000) :
    Calls Tryz.prog 177 #[.pointer (some ⟨D, 0, none⟩), .slice ka kn kc, .slice va vn vc] w fun e w' => e = .returned (.tuple #[]) ∧ ∃ wv', DrW w' D bd r lv s x wv' iss B1 (zs ++ [(((ka, kn, kc), (va, vn, vc)), ((kb, vb), false))]) ∧ DrStep w w' D bd wv wv' := by
  have HH := hide h
  have hDl := h.at'.lt
  have hc := h.at'.cells
  have q29 := hc.2 29
  have hfz := hc.1
  simp only [draftCs, List.getElem?_toArray, List.getElem?_cons_succ, List.getElem?_cons_zero] at q29
  obtain ⟨a1, m1, c1, ef⟩ := h.own.form3
  subst ef
  have hbd := h.baseD
  have HZIP : Hid (ZipW w B1 (zs ++ [(((ka, kn, kc), (va, vn, vc)), ((kb, vb), false))])) := by
    intro z hz
    rcases List.mem_append.1 hz with hz | hz
    · exact ⟨(h.zip z hz).1.mono (Same.refl _ _) hBB, (h.zip z hz).2.mono (Same.refl _ _) hBB⟩
    · rw [List.mem_singleton.1 hz]
      exact ⟨hk, hv⟩
  have hsepD : (Value.slice a1 m1 c1).ownBlock ≠ some D := fun e => (h.sep D e).1 rfl
  clear h hc
  go_enter Tryz.func177, Tryz.ntmps177
  go_wp2_with (at_builtin; refine wpList_app1 (α := ZW) rfl _ _ 328 rfl bd 388 zwCs Tryz.underlying328 Tryz.info388 rfl (by decide) zwCs_size zwCs_one (.slice a1 m1 c1) zs rfl (OwnR.below HH.out.own ((Below.refl _ _).alloc (Nat.le_refl _) _) (Nat.le_refl _)) _ rfl (((ka, kn, kc), (va, vn, vc)), ((kb, vb), false)) (rng_whole (heap_alloc_at _ _)) (by omega) (by unfold maxLen; omega) (by simp only [World.size_alloc]; omega) ?_; intro v9 w9 hown9 hsame9 hbel9 hat9; obtain ⟨A9, m9, k9, e9⟩ := hown9.form3; subst e9; have hD9 : w9.heap[D]? = some (.cells (draftCs r lv s x (.slice a1 m1 c1) iss) 330 (0, 0)) := (hsame9 D ⟨by simp only [World.size_alloc]; omega, hsepD⟩).trans ((Below.heap_alloc _ _ _ hDl).trans HH.out.at'); have q9 : w9.cell? ⟨D, 29, none⟩ = some (.slice a1 m1 c1) := (by rw [World.cell?, hD9]; rfl); have f9 : ∀ j, w9.frozen? ⟨D, j, none⟩ = false := (fun j => by rw [World.frozen?, hD9]; simp); have hl9 := blk_lt hD9)
  go_end0
  exact ⟨rfl, _, HH.out.add hown9 hsame9 hbel9 hat9 HZIP.out hB1⟩

set_option maxRecDepth 100000 in
set_option maxHeartbeats 1000000 in
theorem dropW_calls (w : World) (D bd : Nat) (r : Req) (lv : Value) (s : Stat) (x : LV) (wv : Value) (iss : Int) (B B1 : Nat → Prop) (zs : List ZW) (ka : Option Addr) (kn kc : Nat) (kb : List Int) (h : DrW w D bd r lv s x wv iss B zs) (hk : BytesAt w B1 (.slice ka kn kc) kb) (hBB : ∀ b, B b → B1 b) (hB1 : ∀ b, B1 b → b < w.heap.size ∧ b ≠ D ∧ wv.ownBlock ≠ some b) (hl : zs.length ≤ 100000) :
    Calls Tryz.prog 279 #[.pointer (some ⟨D, 0, none⟩), .slice ka kn kc] w fun e w' => e = .returned (.tuple #[]) ∧ ∃ wv', DrW w' D bd r lv s x wv' iss B1 (zs ++ [(((ka, kn, kc), (none, 0, 0)), ((kb, []), true))]) ∧ DrStep w w' D bd wv wv' := by
  have HH := hide h
  have hDl := h.at'.lt
  have hc := h.at'.cells
  have q29 := hc.2 29
  have hfz := hc.1
  simp only [draftCs, List.getElem?_toArray, List.getElem?_cons_succ, List.getElem?_cons_zero] at q29
  obtain ⟨a1, m1, c1, ef⟩ := h.own.form3
  subst ef
  have hbd := h.baseD
  have HZIP : Hid (ZipW w B1 (zs ++ [(((ka, kn, kc), (none, 0, 0)), ((kb, []), true))])) := by
    intro z hz
    rcases List.mem_append.1 hz with hz | hz
    · exact ⟨(h.zip z hz).1.mono (Same.refl _ _) hBB, (h.zip z hz).2.mono (Same.refl _ _) hBB⟩
    · rw [List.mem_singleton.1 hz]
      exact ⟨hk, BytesAt.nil _ _⟩
  have hsepD : (Value.slice a1 m1 c1).ownBlock ≠ some D := fun e => (h.sep D e).1 rfl
  clear h hc
  go_enter Tryz.func279, Tryz.ntmps279
  go_wp2_with (at_builtin; refine wpList_app1 (α := ZW) rfl _ _ 328 rfl bd 388 zwCs Tryz.underlying328 Tryz.info388 rfl (by decide) zwCs_size zwCs_one (.slice a1 m1 c1) zs rfl (OwnR.below HH.out.own ((Below.refl _ _).alloc (Nat.le_refl _) _) (Nat.le_refl _)) _ rfl (((ka, kn, kc), (none, 0, 0)), ((kb, []), true)) (rng_whole (heap_alloc_at _ _)) (by omega) (by unfold maxLen; omega) (by simp only [World.size_alloc]; omega) ?_; intro v9 w9 hown9 hsame9 hbel9 hat9; obtain ⟨A9, m9, k9, e9⟩ := hown9.form3; subst e9; have hD9 : w9.heap[D]? = some (.cells (draftCs r lv s x (.slice a1 m1 c1) iss) 330 (0, 0)) := (hsame9 D ⟨by simp only [World.size_alloc]; omega, hsepD⟩).trans ((Below.heap_alloc _ _ _ hDl).trans HH.out.at'); have q9 : w9.cell? ⟨D, 29, none⟩ = some (.slice a1 m1 c1) := (by rw [World.cell?, hD9]; rfl); have f9 : ∀ j, w9.frozen? ⟨D, j, none⟩ = false := (fun j => by rw [World.frozen?, hD9]; simp); have hl9 := blk_lt hD9)
  go_end0
  exact ⟨rfl, _, HH.out.add hown9 hsame9 hbel9 hat9 HZIP.out hB1⟩

end Go.Proofs.Qxb6500666aGreatDoor
