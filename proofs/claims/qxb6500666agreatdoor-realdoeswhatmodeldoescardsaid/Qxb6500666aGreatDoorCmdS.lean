/- The state in the midst of a command. -/
import Derived.Test.Qxb6500666aGreatDoorSize
import Derived.Test.Qxb6500666aGreatDoorFresh
namespace Go.Proofs.Qxb6500666aGreatDoor
open Go.RowKit

structure CS (w V W : World) (D : Nat) (q : Array Value) (ok : Nat → Prop) (r : Req) (lv : Value) (s : Stat) (x : LV) (wv : Value) (iss : Int) (B : Nat → Prop) (zs : List ZW) (L : Low) : Prop where
  cb : CB w W q
  dr : DrW W D D r lv s x wv iss B zs
  low : LowAt W (fun b => ok b ∧ wv.ownBlock ≠ some b ∧ b < W.heap.size) x L
  fr : ∀ b, b < V.heap.size → b ≠ D → W.heap[b]? = V.heap[b]?
  bel : Below D V W
  new : ∀ b, B b → V.heap.size ≤ b
  wvn : ∀ b, wv.ownBlock = some b → V.heap.size ≤ b
  okD : ∀ b, ok b → b ≠ D
  lo : w.heap.size + 1 < D ∧ D < V.heap.size
section
variable {w V W W' : World} {D : Nat} {q : Array Value} {ok : Nat → Prop} {r : Req} {lv : Value} {s : Stat} {x : LV} {wv : Value} {iss : Int} {B : Nat → Prop} {zs : List ZW} {L : Low}
theorem CS.next (h : CS w V W D q ok r lv s x wv iss B zs L) (hb : Below W.heap.size W W') : CS w V W' D q ok r lv s x wv iss B zs L :=
  ⟨h.cb.next hb, h.dr.below hb, h.low.mono (fun b p => hb.block b p.2.2) (fun _ p => ⟨p.1, p.2.1, Nat.lt_of_lt_of_le p.2.2 hb.size⟩), fun b h1 h2 => (hb.block b (Nat.lt_of_lt_of_le h1 h.bel.size)).trans (h.fr b h1 h2), h.bel.trans (hb.mono (by have := h.dr.at'.lt; omega)), h.new, h.wvn, h.okD, h.lo⟩
theorem CS.cell (h : CS w V W D q ok r lv s x wv iss B zs L) {s' : Stat} {j : Nat} {v : Value} (e : (draftCs r lv s x wv iss).setIfInBounds j v = draftCs r lv s' x wv iss) : CS w V (W.setCell ⟨D, j, none⟩ v) D q ok r lv s' x wv iss B zs L := by
  have hlo := h.lo
  have ho : ∀ b, b ≠ D → (W.setCell ⟨D, j, none⟩ v).heap[b]? = W.heap[b]? := fun b hb => Below.heap_setCell _ _ _ _ hb
  have hbs : Below D W (W.setCell ⟨D, j, none⟩ v) := (Below.refl _ _).setCell (p := ⟨D, j, none⟩) (Nat.le_refl _) _
  refine ⟨⟨(ho _ (by omega)).trans h.cb.rq, (ho _ (by omega)).trans h.cb.rs, h.cb.blw.trans (hbs.mono (by omega))⟩, ⟨?_, h.dr.own.mono (fun b hb => ho b (h.dr.sep b hb).1), h.dr.zip.mono (fun b hb => ho b (fun e => h.dr.out (e ▸ hb))) (fun _ h => h), h.dr.sep, h.dr.out, fun b hb => by simp only [World.size_setCell]; exact h.dr.lt b hb, h.dr.baseD⟩, h.low.mono (fun b p => ho b (h.okD b p.1)) (fun _ p => ⟨p.1, p.2.1, by simp only [World.size_setCell]; exact p.2.2⟩), fun b h1 h2 => (ho b h2).trans (h.fr b h1 h2), h.bel.trans hbs, h.new, h.wvn, h.okD, h.lo⟩
  have := heap_set3 (j := j) (v := v) h.dr.at'
  rw [e] at this
  exact this
theorem CS.put (h : CS w V W D q ok r lv s x wv iss B zs L) {wv' : Value} {B' : Nat → Prop} {zs' : List ZW} (hd : DrW W' D D r lv s x wv' iss B' zs') (hs : DrStep W W' D D wv wv') (hB : ∀ b, B' b → V.heap.size ≤ b) : CS w V W' D q ok r lv s x wv' iss B' zs' L := by
  have hlo := h.lo
  have hz := h.bel.size
  have hzW := hs.bel.size
  have hn : ∀ b, b < V.heap.size → wv.ownBlock ≠ some b := fun b hb e => by have := h.wvn b e; omega
  have hw' : ∀ b, wv'.ownBlock = some b → V.heap.size ≤ b := fun b hb => by
    rcases hs.own with e | e
    · exact h.wvn b (e ▸ hb)
    · have := e b hb; omega
  refine ⟨⟨(hs.fr _ (by omega) (by omega) (hn _ (by omega))).trans h.cb.rq, (hs.fr _ (by omega) (by omega) (hn _ (by omega))).trans h.cb.rs, h.cb.blw.trans (hs.bel.mono (by omega))⟩, hd, h.low.mono (fun b p => hs.fr b p.2.2 (h.okD b p.1) p.2.1) (fun b p => ⟨p.1, fun e => ?_, by omega⟩), fun b h1 h2 => (hs.fr b (by omega) h2 (hn b h1)).trans (h.fr b h1 h2), h.bel.trans hs.bel, hB, hw', h.okD, h.lo⟩
  rcases hs.own with e1 | e1
  · exact p.2.1 (e1 ▸ e)
  · have := e1 b e; have := p.2.2; omega
theorem CS.batch (h : CS w V W D q ok r lv s x wv iss B zs L) (hl : zs.length ≤ 100000) : BatchAt W (fun b => V.heap.size ≤ b) wv (zs.map (·.2)) := by
  obtain ⟨a, cap, b, o, e1, e2, e3, e4, e5, e6⟩ := h.dr.own.rows zwCs_size (by decide) (by omega)
  refine ⟨zs, ⟨a, cap, b, o, e1, e2, e3, e4, fun hp => ⟨(e5 hp).1, h.wvn b ?_⟩, e6⟩, rfl, h.dr.zip.mono (Same.refl _ _) h.new⟩
  rw [e1, (e5 hp).1]
  rfl
end

section
variable {w W W' : World} {Y S LB base : Nat} {pv pv' : Value} {A A' ok : Nat → Prop} {zs zs' : List ZP} {full : Bool} {off lar off' lar' : Int} {x : LV} {L : Low}
theorem BS.apply (h : BS w Y S LB base pv A ok zs full off lar x L) (hb : Below w.heap.size w W) (hm : StM W' S base pv' A' zs' full off' lar') (hs : StStep W W' S base pv pv' A A') : BS W' Y S LB base pv' A' ok zs' full off' lar' x L ∧ Fr w W' S LB base pv pv' := by
  have hz := hb.size
  have hz' := hs.bel.size
  have hYl := blk_lt h.sys
  have hLl := blk_lt h.lb
  have hSl := blk_lt h.stm.top
  have hB := h.bs
  have hpY : pv.ownBlock ≠ some Y := fun e => (h.pvn Y e).2 rfl
  have hpL : pv.ownBlock ≠ some LB := fun e => (h.pvn LB e).1 rfl
  have hfr : ∀ b, b < w.heap.size → b ≠ S → pv.ownBlock ≠ some b → W'.heap[b]? = w.heap[b]? := fun b h1 h2 h3 => (hs.fr b (by omega) h2 h3).trans (hb.block b h1)
  have hown : ∀ b, b < w.heap.size → pv.ownBlock ≠ some b → pv'.ownBlock ≠ some b := fun b h1 h2 e => by
    rcases hs.own with e1 | e1
    · exact h2 (e1 ▸ e)
    · have := e1 b e; omega
  refine ⟨⟨(hfr Y hYl h.ne.2.1 hpY).trans h.sys, hm, (hfr LB hLl h.ne.1 hpL).trans h.lb, h.low.lt.mono (fun b p => hfr b p.2 (h.okl b p.1).2.1 (h.okl b p.1).2.2.2) (fun _ p => p.1), fun b p => ⟨by have := (h.okl b p).1; omega, (h.okl b p).2.1, (h.okl b p).2.2.1, hown b (h.okl b p).1 (h.okl b p).2.2.2⟩, h.ne, fun b e => ⟨fun e' => ?_, fun e' => ?_⟩, fun b p => ?_, hB⟩, ⟨fun b h1 h2 _ h4 => hfr b h1 h2 h4, (hb.mono (by omega)).trans hs.bel, ?_⟩⟩
  · exact hown LB hLl hpL (e' ▸ e)
  · exact hown Y hYl hpY (e' ▸ e)
  · rcases hs.new b p with p | p
    · exact h.an b p
    · omega
  · rcases hs.own with e1 | e1
    · exact Or.inl e1
    · exact Or.inr (fun b e => by have := e1 b e; omega)
theorem BS.commit {okN : Nat → Prop} {x' : LV} {L' : Low} (h : BS W Y S LB base pv A ok zs full off lar x L) (hl : LowAt W okN x' L') (hokN : ∀ b, okN b → b < W.heap.size ∧ b ≠ S ∧ b ≠ LB ∧ pv.ownBlock ≠ some b) : BS (W.setRow LB (lvCs x')) Y S LB base pv A okN zs full off lar x' L' := by
  have ho : ∀ b, b ≠ LB → (W.setRow LB (lvCs x')).heap[b]? = W.heap[b]? := fun b hb => setRow_other _ _ _ _ hb
  have hz : (W.setRow LB (lvCs x')).heap.size = W.heap.size := by simp
  exact ⟨(ho Y h.ne.2.2).trans h.sys, ⟨(ho S (fun e => h.ne.1 e.symm)).trans h.stm.top, h.stm.own.mono (fun b e => ho b (h.pvn b e).1), h.stm.zip.mono (fun b p => ho b (h.an b p)) (fun _ p => p), h.stm.sep, h.stm.out, fun b p => by rw [hz]; exact h.stm.lt b p, h.stm.baseS⟩, heap_setRow_at h.lb, hl.mono (fun b p => ho b (hokN b p).2.2.1) (fun _ p => p), fun b p => by rw [hz]; exact hokN b p, h.ne, h.pvn, h.an, h.bs⟩
theorem BS.other (h : BS W Y S LB base pv A ok zs full off lar x L) {g : Nat} {cs : Array Value} (h1 : g ≠ Y ∧ g ≠ S ∧ g ≠ LB) (h2 : pv.ownBlock ≠ some g) (h3 : ¬ A g) (h4 : ¬ ok g) : BS (W.setRow g cs) Y S LB base pv A ok zs full off lar x L := by
  have ho : ∀ b, b ≠ g → (W.setRow g cs).heap[b]? = W.heap[b]? := fun b hb => setRow_other _ _ _ _ hb
  have hz : (W.setRow g cs).heap.size = W.heap.size := by simp
  exact ⟨(ho Y (fun e => h1.1 e.symm)).trans h.sys, ⟨(ho S (fun e => h1.2.1 e.symm)).trans h.stm.top, h.stm.own.mono (fun b e => ho b (fun e' => h2 (e' ▸ e))), h.stm.zip.mono (fun b p => ho b (fun e' => h3 (e' ▸ p))) (fun _ p => p), h.stm.sep, h.stm.out, fun b p => by rw [hz]; exact h.stm.lt b p, h.stm.baseS⟩, (ho LB (fun e => h1.2.2 e.symm)).trans h.lb, h.low.mono (fun b p => ho b (fun e' => h4 (e' ▸ p))) (fun _ p => p), fun b p => by rw [hz]; exact h.okl b p, h.ne, h.pvn, h.an, h.bs⟩
end
theorem Fr.after {w W W' : World} {S LB base : Nat} {pv pv' : Value} (h : Fr w W S LB base pv pv') (hb : Below W.heap.size W W') (hB : base ≤ W.heap.size) : Fr w W' S LB base pv pv' :=
  ⟨fun b h1 h2 h3 h4 => (hb.block b (Nat.lt_of_lt_of_le h1 h.bel.size)).trans (h.fr b h1 h2 h3 h4), h.bel.trans (hb.mono hB), h.own⟩
theorem Fr.row {w W : World} {S LB base : Nat} {pv pv' : Value} (h : Fr w W S LB base pv pv') {g : Nat} {cs : Array Value} (hg : w.heap.size ≤ g ∨ g = LB) (hB : base ≤ g) : Fr w (W.setRow g cs) S LB base pv pv' :=
  ⟨fun b h1 h2 h3 h4 => (setRow_other _ _ _ _ (by rcases hg with hg | hg; omega; exact fun e => h3 (e.trans hg))).trans (h.fr b h1 h2 h3 h4), h.bel.trans ⟨rfl, rfl, rfl, by simp, fun k hk => setRow_other _ _ _ _ (by omega)⟩, h.own⟩
/-- What Apply leaves of the midst of a command. -/
structure CA (w V W W' : World) (Y S LB base D : Nat) (pv pv' : Value) (A A' ok : Nat → Prop) (zs' : List ZP) (full : Bool) (off' lar' : Int) (x x' : LV) (L L' : Low) (cs : Array Value) : Prop where
  bs : BS W' Y S LB base pv' A' ok zs' full off' lar' x L
  fr : Fr w W' S LB base pv pv'
  rs : W'.heap[w.heap.size + 1]? = some (.cells (respCs rsp0) 75 (0, 0))
  dr : W'.heap[D]? = some (.cells cs 330 (0, 0))
  low : LowAt W' (fun b => (ok b ∨ V.heap.size ≤ b) ∧ b < W.heap.size) x' L'
  okn : ∀ b, ((ok b ∨ V.heap.size ≤ b) ∧ b < W.heap.size) → b < W'.heap.size ∧ b ≠ S ∧ b ≠ LB ∧ pv'.ownBlock ≠ some b
  n1 : w.heap.size + 1 ≠ Y ∧ w.heap.size + 1 ≠ S ∧ w.heap.size + 1 ≠ LB
  n2 : pv'.ownBlock ≠ some (w.heap.size + 1)
  n3 : ¬ A' (w.heap.size + 1)
  n4 : ¬ ok (w.heap.size + 1) ∧ ¬ ((ok (w.heap.size + 1) ∨ V.heap.size ≤ w.heap.size + 1) ∧ w.heap.size + 1 < W.heap.size)
  bl : base ≤ w.heap.size
  an : Nw w A A'
  on : Nw w ok (fun b => (ok b ∨ V.heap.size ≤ b) ∧ b < W.heap.size)
theorem CS.apply {w V W W' : World} {Y S LB base D : Nat} {pv pv' : Value} {A A' ok : Nat → Prop} {zs zs' : List ZP} {full : Bool} {off lar off' lar' : Int} {x x' : LV} {L L' : Low} {q : Array Value} {r : Req} {lv : Value} {s : Stat} {wv : Value} {iss : Int} {B : Nat → Prop} {zw : List ZW} (h : BS w Y S LB base pv A ok zs full off lar x L) (k : CS w V W D q (fun b => ok b ∨ V.heap.size ≤ b) r lv s x' wv iss B zw L') (hm : StM W' S base pv' A' zs' full off' lar') (hs : StStep W W' S base pv pv' A A') : CA w V W W' Y S LB base D pv pv' A A' ok zs' full off' lar' x x' L L' (draftCs r lv s x' wv iss) := by
  obtain ⟨h1, h2⟩ := h.apply k.cb.blw hm hs
  have hlo := k.lo
  have hz := k.cb.blw.size
  have hz' := hs.bel.size
  have hVW := k.bel.size
  have hYl := blk_lt h.sys
  have hLl := blk_lt h.lb
  have hSl := blk_lt h.stm.top
  have hDl := k.dr.at'.lt
  have hB := h.bs
  have hN : w.heap.size + 1 < W.heap.size := blk_lt k.cb.rs
  have hpl : ∀ b, pv.ownBlock = some b → b < w.heap.size := fun b e => (h.stm.own.block b e).2
  have hfr : ∀ b, w.heap.size ≤ b → b < W.heap.size → W'.heap[b]? = W.heap[b]? := fun b p1 p2 => hs.fr b p2 (by omega) (fun e => by have := hpl b e; omega)
  have hp' : ∀ b, w.heap.size ≤ b → b < W.heap.size → pv'.ownBlock ≠ some b := fun b p1 p2 e => by
    rcases hs.own with e1 | e1
    · have := hpl b (e1 ▸ e); omega
    · have := e1 b e; omega
  refine ⟨h1, h2, (hfr _ (by omega) hN).trans k.cb.rs, (hfr _ (by omega) hDl).trans k.dr.at', k.low.mono (fun b p => ?_) (fun b p => ⟨p.1, p.2.2⟩), fun b p => ?_, ⟨by omega, by omega, by omega⟩, hp' _ (by omega) hN, fun p => ?_, ⟨fun p => ?_, fun p => ?_⟩, by omega, fun b p => (hs.new b p).imp id (fun p => by omega), fun b p => p.1.imp id (fun p => by omega)⟩
  · rcases p.1 with p1 | p1
    · exact hs.fr b p.2.2 (h.okl b p1).2.1 (h.okl b p1).2.2.2
    · exact hfr b (by omega) p.2.2
  · rcases p.1 with p1 | p1
    · exact h1.okl b p1
    · exact ⟨by omega, by omega, by omega, hp' b (by omega) p.2⟩
  · rcases hs.new _ p with p | p
    · have := h.stm.lt _ p; omega
    · omega
  · have := (h.okl _ p).1; omega
  · rcases p.1 with p1 | p1
    · have := (h.okl _ p1).1; omega
    · omega
theorem incR_st {ps : List KV} {L : Low} {now : Int} {s : Stat} (h : s.Ok) : (incR ps L now s 0).2.1.Ok ∧ U32 (incR ps L now s 0).2.2.1 := by
  have hz : U32 ((s.transfers + 1) % 4294967296) := by unfold U32; omega
  have h0 : U32 0 := u32z
  unfold incR
  split
  · exact ⟨h, h0⟩
  · split
    · exact ⟨⟨h.entries, hz, h.lastCum, h.lastMin⟩, hz⟩
    · exact ⟨h, h0⟩
theorem cumR_st {ps : List KV} {L : Low} {now : Int} {s : Stat} (h : s.Ok) : (cumR ps L now s 0).2.1.Ok ∧ U32 (cumR ps L now s 0).2.2.1 := by
  have hz : U32 ((s.transfers + 1) % 4294967296) := by unfold U32; omega
  have h0 : U32 0 := u32z
  unfold cumR
  split
  · exact ⟨h, h0⟩
  · split
    · exact ⟨h, h0⟩
    · split
      · exact ⟨h, h0⟩
      · split
        · exact ⟨⟨h.entries, hz, hz, h.lastMin⟩, hz⟩
        · exact ⟨h, h0⟩
def StR (R : HR) : Prop := R.st.Ok ∧ U32 R.iss
theorem ite_st {c : Prop} [Decidable c] {a b : HR} (h1 : StR a) (h2 : StR b) : StR (if c then a else b) := by
  split
  · exact h1
  · exact h2
theorem handR_st (ps : List KV) (L : Low) (s : Stat) (r : Req) (h : s.Ok) : (handR ps L s r).st.Ok ∧ U32 (handR ps L s r).iss := by
  show StR (handR ps L s r)
  unfold handR
  have z : ∀ (c : Int) (ws : List WR) (l : Low), StR ⟨c, s, 0, ws, l⟩ := fun _ _ _ => ⟨h, u32z⟩
  refine ite_st (z _ _ _) (ite_st (z _ _ _) (ite_st (z _ _ _) (ite_st (z _ _ _) (ite_st (z _ _ _) (ite_st (z _ _ _) (ite_st (z _ _ _) (ite_st (z _ _ _) (ite_st (z _ _ _) (ite_st (z _ _ _) (ite_st (z _ _ _) (ite_st (z _ _ _) (ite_st (z _ _ _) (ite_st (z _ _ _) (ite_st (z _ _ _) (ite_st (z _ _ _) (ite_st (z _ _ _) (ite_st (z _ _ _) (ite_st (incR_st h) (cumR_st h)))))))))))))))))))
theorem stNext_ok {s : Stat} {now : Int} (h : s.Ok) (hn : I64 now) : (stNext s now).Ok := ⟨by show U32 ((s.entries + 1) % 4294967296); unfold U32; omega, h.transfers, h.lastCum, hn⟩

end Go.Proofs.Qxb6500666aGreatDoor
