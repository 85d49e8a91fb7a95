/- The model beside the bench. -/
import Derived.Test.Qxb6500666aGreatDoorMdV4
import Derived.Test.Qxb6500666aGreatDoorTieF
import Derived.Test.Qxb6500666aGreatDoorLawX
namespace Go.Proofs.Qxb6500666aGreatDoor
open Go.RowKit
theorem OpIn.wide {w : World} {ok ok' : Nat → Prop} {o : Op} {lv dv : Value} {ca : Option Addr} {cn cc : Nat} (h : OpIn w ok o lv dv ca cn cc) (hk : ∀ b, ok b → ok' b) : OpIn w ok' o lv dv ca cn cc :=
  ⟨h.kind, h.req, h.seq, h.mode, h.num, RArr.mono h.list (Same.refl _ _) hk, h.ids, RArr.mono h.data (Same.refl _ _) hk, RArr.mono h.ch (Same.refl _ _) hk, h.fok, h.cok, h.ld, h.lf⟩
/-- The bench survives what the law does in one of its own blocks, and new memory. -/
theorem BX.but {w W W' : World} {K : Nat → Prop} {t : ST} {M : Nat} (h : BX w W K t) (hM : K M) (hl : w.heap.size ≤ M) (hb : But M W W') : BX w W' (fun g => K g ∨ (W.heap.size ≤ g ∧ g < W'.heap.size)) t := by
  obtain ⟨Y, pv, A, ok, zs, x, hn, hz, hbl, hk⟩ := h
  obtain ⟨hMl, hMa⟩ := hk M hM
  have hz' := hb.size
  refine ⟨Y, pv, A, ok, zs, x, hn.mono (fun b hb1 hb2 => hb.fr b hb1 ?_) hz', hz, hbl.trans (hb.bel.mono hl), fun g hg => ?_⟩
  · rintro rfl
    obtain ⟨⟨a1, a2, a3⟩, a4, a5, a6, a7⟩ := hMa
    rcases hb2 with e | e | e | e | e | e | e
    · exact a4 e
    · exact a1 e
    · exact a2 e
    · exact a3 e
    · exact a5 e
    · exact a6 e
    · exact a7 e
  · rcases hg with hg | hg
    · exact ⟨Nat.lt_of_lt_of_le (hk g hg).1 hz', (hk g hg).2⟩
    · exact ⟨hg.2, hn.aw hg.1⟩
/-- The model's memory: the script's, and the law's blocks. -/
def okM (w : World) (K : Nat → Prop) (M : Nat) : Nat → Prop := fun b => b < w.heap.size ∨ (K b ∧ b ≠ M)
structure MX (w W : World) (M : Nat) (K : Nat → Prop) (t : ST) (m : Mod) : Prop where
  bx : BX w W K t
  md : ∃ v, MAt W M (okM w K M) v m
  km : K M
  lo : w.heap.size ≤ M
theorem MX.below {w W W' : World} {M : Nat} {K : Nat → Prop} {t : ST} {m : Mod} (h : MX w W M K t m) (hb : Below W.heap.size W W') : MX w W' M K t m := by
  obtain ⟨v, hv⟩ := h.md
  exact ⟨h.bx.below hb, ⟨v, hv.below hb⟩, h.km, h.lo⟩
/-- New memory of the law's. -/
theorem MX.more {w W W' : World} {M : Nat} {K K' : Nat → Prop} {t : ST} {m : Mod} (h : MX w W M K t m) (hb : Below W.heap.size W W') (hK : ∀ g, K' g → K g ∨ (W.heap.size ≤ g ∧ g < W'.heap.size)) (hs : ∀ g, K g → K' g) : MX w W' M K' t m := by
  obtain ⟨v, hv⟩ := h.md
  have h1 := hv.below hb
  exact ⟨h.bx.more hb hK, ⟨v, h1.top, h1.inn.mono (Same.refl _ _) (fun b q => q.imp id (fun q => ⟨hs b q.1, q.2⟩))⟩, hs _ h.km, h.lo⟩
/-- The bench's step leaves the model. -/
theorem MX.real {w W W' : World} {M : Nat} {K : Nat → Prop} {t t' : ST} {m : Mod} (h : MX w W M K t m) (hx : BX w W' K t') (hf : ∀ g, K g → W'.heap[g]? = W.heap[g]?) : MX w W' M K t' m := by
  obtain ⟨v, hv⟩ := h.md
  refine ⟨hx, ⟨v, (hf M h.km).trans hv.top, hv.inn.mono (fun b q => ?_) (fun _ q => q)⟩, h.km, h.lo⟩
  rcases q with q | q
  · exact (hx.blw.block b q).trans (h.bx.blw.block b q).symm
  · exact hf b q.1
/-- A step of both: the model's. -/
theorem MX.step {w W : World} {M : Nat} {K : Nat → Prop} {t : ST} {m : Mod} {o : Op} {lv dv : Value} {ca : Option Addr} {cn cc : Nat} {rn kn ft : Nat → ByteArray} {okg : Nat → Prop} (h : MX w W M K t m) (hi : MInv m) (ho : OpIn W (· < w.heap.size) o lv dv ca cn cc) (hB : ByteL o.data) (hgl : Gl W w.heap.size rn kn ft okg) (hg : NmG rn kn) :
    Calls Tryz.prog 22 #[.pointer (some ⟨M, 0, none⟩), .agg (opA o lv dv ca cn cc)] W fun e W' => ∃ a, e = .returned (.agg (ansCs a)) ∧ MX w W' M (fun g => K g ∨ (W.heap.size ≤ g ∧ g < W'.heap.size)) t (mStep m o) ∧ But M W W' ∧ AnsM rn kn (fun b => okM w K M b ∧ b < W.heap.size) W W' m o a := by
  obtain ⟨v, hv⟩ := h.md
  have hws := h.bx.blw.size
  have hMl := blk_lt hv.top
  have hok : ∀ b, okM w K M b → b < W.heap.size := fun b q => by
    rcases q with q | q
    · omega
    · obtain ⟨Y, pv, A, ok, zs, x, -, -, -, hk⟩ := h.bx
      exact (hk b q.1).1
  have hsi : StI rn kn ft okg W M (fun b => okM w K M b ∨ W.heap.size ≤ b) v m o lv dv ca cn cc :=
    ⟨⟨hv.top, hv.inn.mono (Same.refl _ _) (fun b q => Or.inl q)⟩, fun b q => by
      rcases q with (q | q) | q
      · have := h.lo; omega
      · exact q.2
      · omega, fun b q => Or.inr q, hi, ho.wide (fun b q => Or.inl (Or.inl q)), hB, hgl.nm, hg, hgl.gr⟩
  refine (mStep_calls rn kn ft okg W M _ v m o lv dv ca cn cc hsi).mono ?_
  rintro e W' ⟨⟨v', hm'⟩, hbt, a, rfl, ha⟩
  refine ⟨a, rfl, ⟨h.bx.but h.km h.lo hbt, ⟨v', hm'.top, ?_⟩, Or.inl h.km, h.lo⟩, hbt, ?_⟩
  · refine hm'.inn.lt.mono (Same.refl _ _) (fun b q => ?_)
    rcases q.1 with (q1 | q1) | q1
    · exact Or.inl q1
    · exact Or.inr ⟨Or.inl q1.1, q1.2⟩
    · exact Or.inr ⟨Or.inr ⟨q1, q.2⟩, by omega⟩
  · have e : (fun b => (okM w K M b ∨ W.heap.size ≤ b) ∧ b < W.heap.size) = fun b => okM w K M b ∧ b < W.heap.size := by
      funext b
      refine propext ⟨fun q => ⟨q.1.elim id (fun q2 => by omega), q.2⟩, fun q => ⟨Or.inl q.1, q.2⟩⟩
    rw [e] at ha
    exact ha
/-- The model at its start. -/
def mv0 : MV := ⟨⟨.slice none 0 0, .slice none 0 0, .slice none 0 0, .slice none 0 0, .slice none 0 0, .slice none 0 0, .slice none 0 0, .slice none 0 0⟩, noS, noS, noS⟩
def mod0 : Mod := ⟨low0, [], [], [], false⟩
theorem MAt.start {W : World} {M : Nat} (ok : Nat → Prop) (h : W.heap[M]? = some (.cells (mvCs mv0 false) 45 (0, 0))) : MAt W M ok mv0 mod0 :=
  ⟨h, ⟨⟨RArr.nil _ _ _ _, ⟨[], RArr.nil _ _ _ _, rfl, fun _ h => by cases h⟩, RArr.nil _ _ _ _, RArr.nil _ _ _ _⟩, RArr.nil _ _ _ _, ⟨RArr.nil _ _ _ _, RArr.nil _ _ _ _, RArr.nil _ _ _ _⟩⟩, RArr.nil _ _ _ _, ⟨[], RArr.nil _ _ _ _, (fun _ h => by cases h), rfl⟩, ⟨[], RArr.nil _ _ _ _, rfl, fun _ h => by cases h⟩⟩
end Go.Proofs.Qxb6500666aGreatDoor
