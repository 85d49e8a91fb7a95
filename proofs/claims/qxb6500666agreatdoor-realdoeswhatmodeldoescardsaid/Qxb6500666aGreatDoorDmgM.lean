/- The damaged store: the bench beside what the law keeps; the store laid anew, and damaged. -/
import Derived.Test.Qxb6500666aGreatDoorDmgP
import Derived.Test.Qxb6500666aGreatDoorSnapO
import Derived.Test.Qxb6500666aGreatDoorAskB
namespace Go.Proofs.Qxb6500666aGreatDoor
open Go.RowKit

/-- Blocks that no step writes: they only lie there. -/
def Ly (w W : World) (pv : Value) (J : Nat → Prop) : Prop := ∀ g, J g → g < W.heap.size ∧ g ≠ w.heap.size ∧ g ≠ w.heap.size + 1 ∧ g ≠ w.heap.size + 2 ∧ pv.ownBlock ≠ some g
/-- The bench beside the law's own blocks K and the blocks J that only lie there. -/
def BJ (w W : World) (K J : Nat → Prop) (t : ST) : Prop := ∃ Y pv A ok zs x, BN W (w.heap.size + 2) Y w.heap.size (w.heap.size + 1) w.heap.size pv A ok zs t.full t.off t.lar x t.low ∧ zs.map (·.2) = t.ps ∧ Below w.heap.size w W ∧ (∀ g, K g → g < W.heap.size ∧ Aw g (w.heap.size + 2) Y w.heap.size (w.heap.size + 1) pv A ok) ∧ Ly w W pv J
section
variable {w W W' : World} {K K' J J' : Nat → Prop} {t : ST}
theorem BJ.bx (h : BJ w W K J t) : BX w W K t := by
  obtain ⟨Y, pv, A, ok, zs, x, h1, h2, h3, h4, -⟩ := h
  exact ⟨Y, pv, A, ok, zs, x, h1, h2, h3, h4⟩
theorem BJ.lt (h : BJ w W K J t) {g : Nat} (hg : K g ∨ J g) : g < W.heap.size := by
  obtain ⟨Y, pv, A, ok, zs, x, h1, h2, h3, h4, h5⟩ := h
  exact hg.elim (fun q => (h4 g q).1) (fun q => (h5 g q).1)
/-- The bench, and the layers as they are now. -/
theorem BX.keep (h : BX w W K t) : ∃ x ok, W.heap[w.heap.size + 1]? = some (.cells (lvCs x) 83 (0, 0)) ∧ LowAt W ok x t.low ∧ BJ w W K ok t := by
  obtain ⟨Y, pv, A, ok, zs, x, h1, h2, h3, h4⟩ := h
  refine ⟨x, ok, h1.bs.lb, h1.bs.low, Y, pv, A, ok, zs, x, h1, h2, h3, h4, fun g hg => ?_⟩
  have q := h1.bs.okl g hg
  exact ⟨q.1, q.2.1, q.2.2.1, fun e => h1.n4 (e ▸ hg), q.2.2.2⟩
theorem BJ.more (h : BJ w W K J t) (hb : Below W.heap.size W W') (hK : ∀ g, K' g → K g ∨ (W.heap.size ≤ g ∧ g < W'.heap.size)) (hJ : ∀ g, J' g → J g ∨ (W.heap.size ≤ g ∧ g < W'.heap.size)) : BJ w W' K' J' t := by
  obtain ⟨Y, pv, A, ok, zs, x, h1, h2, h3, h4, h5⟩ := h
  refine ⟨Y, pv, A, ok, zs, x, h1.below hb, h2, h3.trans (hb.mono h3.size), fun g hg => ?_, fun g hg => ?_⟩
  · rcases hK g hg with q | q
    · exact ⟨Nat.lt_of_lt_of_le (h4 g q).1 hb.size, (h4 g q).2⟩
    · exact ⟨q.2, h1.aw q.1⟩
  · rcases hJ g hg with q | q
    · exact ⟨Nat.lt_of_lt_of_le (h5 g q).1 hb.size, (h5 g q).2⟩
    · have a := h1.aw q.1
      exact ⟨q.2, a.1.2.1, a.1.2.2, a.2.1, a.2.2.1⟩
theorem BJ.below (h : BJ w W K J t) (hb : Below W.heap.size W W') : BJ w W' K J t := h.more hb (fun _ q => Or.inl q) (fun _ q => Or.inl q)
theorem BJ.mine (h : BJ w W K J t) (hs : ∀ b, b < W.heap.size → ¬ K b → W'.heap[b]? = W.heap[b]?) (hz : W.heap.size ≤ W'.heap.size) (hb : Below w.heap.size w W') : BJ w W' K J t := by
  obtain ⟨Y, pv, A, ok, zs, x, h1, h2, h3, h4, h5⟩ := h
  refine ⟨Y, pv, A, ok, zs, x, h1.mono (fun b hl hq => hs b hl (fun hK => ?_)) hz, h2, hb, fun g hg => ⟨Nat.lt_of_lt_of_le (h4 g hg).1 hz, (h4 g hg).2⟩, fun g hg => ⟨Nat.lt_of_lt_of_le (h5 g hg).1 hz, (h5 g hg).2⟩⟩
  obtain ⟨⟨a1, a2, a3⟩, a4, a5, a6, a7⟩ := (h4 b hK).2
  rcases hq with e | e | e | e | e | e | e
  · exact a4 e
  · exact a1 e
  · exact a2 e
  · exact a3 e
  · exact a5 e
  · exact a6 e
  · exact a7 e
theorem BJ.step {oko okg : Nat → Prop} {o : Op} {lv dv : Value} {ca : Option Addr} {cn cc : Nat} {rn kn ft : Nat → ByteArray} (h : BJ w W K J t) (hp : PO t.ps t.low) (ho : OpIn W oko o lv dv ca cn cc) (hgl : Gl W w.heap.size rn kn ft okg) (hoff : 0 ≤ t.off ∧ t.off ≤ 1000000000000000) :
    Calls Tryz.prog 21 #[.pointer (some ⟨w.heap.size + 2, 0, none⟩), .agg (opA o lv dv ca cn cc)] W fun e w' => ∃ ans, e = .returned (.agg (ansCs ans)) ∧ BJ w w' K J (stepR t o) ∧ (∀ g, K g ∨ J g → w'.heap[g]? = W.heap[g]?) ∧ W.heap.size ≤ w'.heap.size := by
  obtain ⟨Y, pv, A, ok, zs, x, h1, h2, h3, h4, h5⟩ := h
  obtain ⟨ps, full, off, lar, low⟩ := t
  dsimp only at h2 hp hoff h1
  subst h2
  refine (step_x W _ Y _ _ _ pv A ok oko okg zs full off lar x low o lv dv ca cn cc rn kn ft h1 hp ho hgl hoff).mono ?_
  rintro e w' ⟨Y', pv', A', ok', zs', x', ans, k1, k2, k3, k4, k5⟩
  refine ⟨ans, k3, ⟨Y', pv', A', ok', zs', x', k1, k2, h3.trans k4.bel, fun g hg => ⟨?_, (k4.aw (h4 g hg).1 (h4 g hg).2).1⟩, fun g hg => ?_⟩, fun g hg => ?_, k4.bel.size⟩
  · exact Nat.lt_of_lt_of_le (h4 g hg).1 k4.bel.size
  · obtain ⟨q1, q2, q3, q4, q5⟩ := h5 g hg
    refine ⟨Nat.lt_of_lt_of_le q1 k4.bel.size, q2, q3, q4, fun e => ?_⟩
    rcases k4.own with e1 | e1
    · exact q5 (e1 ▸ e)
    · have := e1 g e; omega
  · rcases hg with hg | hg
    · exact (k4.aw (h4 g hg).1 (h4 g hg).2).2
    · obtain ⟨q1, q2, q3, q4, q5⟩ := h5 g hg
      exact k4.fr g q1 q2 q3 q4 q5
end

section
variable {W W2 : World} {Bn Y S LB base : Nat} {pv pv' : Value} {A ok A' okx : Nat → Prop} {zs zs' : List ZP} {full : Bool} {off lar : Int} {x x0 : LV} {L L0 : Low}
/-- Store and layers laid anew. -/
theorem BN.reset (h : BN W Bn Y S LB base pv A ok zs full off lar x L) (hz : W.heap.size ≤ W2.heap.size) (hY : W2.heap[Y]? = W.heap[Y]?) (hBn : W2.heap[Bn]? = W.heap[Bn]?) (htop : W2.heap[S]? = some (.cells #[pv', .bool full, .int .i64 off, .int .i64 lar] 131 (0, 0))) (hlb : W2.heap[LB]? = some (.cells (lvCs x0) 83 (0, 0))) (hown : OwnR W2 base 171 2 zCs pv' zs') (hzip : Zip W2 A' zs') (hsep : ∀ b, pv'.ownBlock = some b → W.heap.size ≤ b ∧ ¬ A' b) (hA : ∀ b, A' b → W.heap.size ≤ b ∧ b < W2.heap.size) (hlow : LowAt W2 okx x0 L0) (hok : ∀ b, okx b → b < W.heap.size ∧ b ≠ S ∧ b ≠ LB ∧ b ≠ Bn) : BN W2 Bn Y S LB base pv' A' okx zs' full off lar x0 L0 := by
  have h1 := blk_lt h.bs.sys
  have h2 := blk_lt h.bs.lb
  have h3 := blk_lt h.bs.stm.top
  have h4 := blk_lt h.bn
  have k := h.bs
  refine ⟨⟨hY.trans k.sys, ⟨htop, hown, hzip, fun b e => ⟨by have := (hsep b e).1; omega, (hsep b e).2⟩, fun e => by (have := (hA S e).1; omega), fun b e => (hA b e).2, k.stm.baseS⟩, hlb, hlow, fun b e => ⟨by have := (hok b e).1; omega, (hok b e).2.1, (hok b e).2.2.1, fun e' => by (have := (hsep b e').1; have := (hok b e).1; omega)⟩, k.ne, fun b e => ⟨by have := (hsep b e).1; omega, by have := (hsep b e).1; omega⟩, fun b e => by (have := (hA b e).1; omega), k.bs⟩, hBn.trans h.bn, h.ne, fun e => by (have := (hsep Bn e).1; omega), fun e => by (have := (hA Bn e).1; omega), fun e => (hok Bn e).2.2.2 rfl, h.bb⟩
end

theorem flat_fst : ∀ {zs zs' : List ZP}, zs'.map (·.1) = zs.map (·.1) → flat zCs zs' = flat zCs zs
  | [], [], _ => rfl
  | [], _ :: _, h => by cases h
  | _ :: _, [], h => by cases h
  | z :: r, z' :: r', h => by
    simp only [List.map_cons, List.cons.injEq] at h
    simp only [flat, flat_fst h.2]
    congr 2
    unfold zCs
    rw [h.1]
/-- One byte in memory is written: a string of bytes is one still. -/
theorem BytesAt.wrote {W : World} {ok : Nat → Prop} {v : Value} {bs : List Int} (h : BytesAt W ok v bs) (hb : ByteL bs) {g i : Nat} {cs : Array Value} {T : TypeId} (hg : W.heap[g]? = some (.cells cs T (0, 0))) {c : Int} (hc : 0 ≤ c ∧ c ≤ 255) : ∃ bs', BytesAt (W.setCell ⟨g, i, none⟩ (.int .u8 c)) ok v bs' ∧ ByteL bs' ∧ bs'.length = bs.length := by
  obtain ⟨a, cap, b, off, rfl, h1, h2, h3, h4, h5⟩ := h
  refine ⟨bs.mapIdx fun j x => if b = g ∧ off + j * 1 = i then c else x, ⟨a, cap, b, off, by rw [List.length_mapIdx], by rw [List.length_mapIdx]; exact h1, h2, by rw [List.length_mapIdx]; exact h3, by rw [List.length_mapIdx]; exact h4, fun j hj => ?_⟩, ?_, by rw [List.length_mapIdx]⟩
  · rw [List.length_mapIdx] at hj
    have q := h5 j hj
    rw [List.getElem_mapIdx]
    by_cases hbg : b = g
    · subst hbg
      have hs := heap_set3 (j := i) (v := (.int .u8 c)) hg
      have q0 : cs[off + j * 1]? = some (.int .u8 bs[j]) := by
        have := (rng_cell q).2 0 (by decide)
        rw [World.cell?, hg] at this
        simpa [byteCs] using this
      have hlt := (Array.getElem?_eq_some_iff.1 q0).1
      have := rng_of_cells (w := W.setCell ⟨b, i, none⟩ (.int .u8 c)) (b := b) (off := off + j * 1) (cs := [Value.int .u8 (if b = b ∧ off + j * 1 = i then c else bs[j])]) (by simp) (fun k hk => by
        obtain rfl : k = 0 := by simpa using hk
        rw [World.cell?, hs]
        by_cases e : off + j * 1 = i
        · rw [if_pos ⟨rfl, e⟩]
          subst e
          simp only [Nat.add_zero]
          rw [Array.getElem?_setIfInBounds_self_of_lt hlt]
          rfl
        · rw [if_neg (fun q => e q.2)]
          simp only [Nat.add_zero]
          rw [Array.getElem?_setIfInBounds_ne (Ne.symm e), q0]
          rfl)
      exact this
    · rw [if_neg (fun e => hbg e.1)]
      rw [rng_of_block (Below.heap_setCell _ _ _ _ hbg)]
      exact q
  · intro y hy
    obtain ⟨j, hj, rfl⟩ := List.mem_mapIdx.1 hy
    split
    · exact hc
    · exact hb _ (List.getElem_mem _)
theorem Zip.wrote {W : World} {A : Nat → Prop} {g i : Nat} {cs : Array Value} {T : TypeId} (hg : W.heap[g]? = some (.cells cs T (0, 0))) {c : Int} (hc : 0 ≤ c ∧ c ≤ 255) : ∀ {zs : List ZP}, Zip W A zs → PsOk (zs.map (·.2)) → ∃ zs', zs'.map (·.1) = zs.map (·.1) ∧ Zip (W.setCell ⟨g, i, none⟩ (.int .u8 c)) A zs' ∧ PsOk (zs'.map (·.2))
  | [], _, _ => ⟨[], rfl, (fun z hz => (by cases hz)), (fun z hz => (by cases hz))⟩
  | z :: r, h, hp => by
    obtain ⟨r', k1, k2, k3⟩ := Zip.wrote hg hc (zs := r) (fun y hy => h y (List.mem_cons_of_mem _ hy)) (fun y hy => hp y (List.mem_cons_of_mem _ hy))
    obtain ⟨h1, h2⟩ := h z (by simp)
    obtain ⟨p1, p2⟩ := hp z.2 (by simp)
    obtain ⟨b1, q1, q2, -⟩ := h1.wrote p1 (i := i) hg hc
    obtain ⟨b2, q3, q4, -⟩ := h2.wrote p2 (i := i) hg hc
    refine ⟨(z.1, (b1, b2)) :: r', by simp [k1], fun y hy => ?_, fun y hy => ?_⟩
    · rcases List.mem_cons.1 hy with rfl | hy
      · exact ⟨q1, q3⟩
      · exact k2 y hy
    · rcases List.mem_cons.1 hy with rfl | hy
      · exact ⟨q2, q4⟩
      · exact k3 y hy
section
variable {W W2 : World} {Bn Y S LB base : Nat} {pv pv' : Value} {A ok A' okx : Nat → Prop} {zs zs' : List ZP} {full : Bool} {off lar : Int} {x x0 : LV} {L L0 : Low}
/-- A byte of a record is written. -/
theorem BN.byte (h : BN W Bn Y S LB base pv A ok zs full off lar x L) (hp : PsOk (zs.map (·.2))) {g i : Nat} {cs : Array Value} {T : TypeId} (hg : W.heap[g]? = some (.cells cs T (0, 0))) (hA : A g) (hY : g ≠ Y) (hk : ¬ ok g) {c : Int} (hc : 0 ≤ c ∧ c ≤ 255) : ∃ zs', BN (W.setCell ⟨g, i, none⟩ (.int .u8 c)) Bn Y S LB base pv A ok zs' full off lar x L ∧ PsOk (zs'.map (·.2)) ∧ zs'.length = zs.length := by
  have k := h.bs
  obtain ⟨zs', e1, e2, e3⟩ := Zip.wrote (i := i) hg hc k.stm.zip hp
  have ho : ∀ b, b ≠ g → (W.setCell ⟨g, i, none⟩ (.int .u8 c)).heap[b]? = W.heap[b]? := fun b hb => Below.heap_setCell _ _ _ _ hb
  have hz : (W.setCell ⟨g, i, none⟩ (.int .u8 c)).heap.size = W.heap.size := by simp
  have hl : zs'.length = zs.length := by have := congrArg List.length e1; simpa using this
  have how : OwnR (W.setCell ⟨g, i, none⟩ (.int .u8 c)) base 171 2 zCs pv zs' := by
    have := k.stm.own.mono (fun b e => ho b (fun e' => (k.stm.sep b e).2 (e' ▸ hA)))
    unfold OwnR at this ⊢
    rw [hl, flat_fst e1]
    exact this
  refine ⟨zs', ⟨⟨(ho Y (Ne.symm hY)).trans k.sys, ⟨(ho S (fun e => k.stm.out (e ▸ hA))).trans k.stm.top, how, e2, k.stm.sep, k.stm.out, fun b p => by rw [hz]; exact k.stm.lt b p, k.stm.baseS⟩, (ho LB (fun e => k.an g hA e.symm)).trans k.lb, k.low.mono (fun b p => ho b (fun e => hk (e ▸ p))) (fun _ p => p), fun b p => by rw [hz]; exact k.okl b p, k.ne, k.pvn, k.an, k.bs⟩, (ho Bn (fun e => h.n3 (e ▸ hA))).trans h.bn, h.ne, h.n2, h.n3, h.n4, h.bb⟩, e3, hl⟩
/-- A record's bytes are put away for others. -/
theorem BN.newval (h : BN W Bn Y S LB base pv A ok zs full off lar x L) (hp : PsOk (zs.map (·.2))) {q N : Nat} (hq : q < zs.length) {a : Option Addr} {n c : Nat} {bs : List Int} (hb : BytesAt W (N ≤ ·) (.slice a n c) bs) (hbs : ByteL bs) (hN : Bn < N ∧ Y < N ∧ S < N ∧ LB < N ∧ (∀ b, pv.ownBlock = some b → b < N) ∧ ∀ b, ok b → b < N) : ∃ g zs', (∃ cap, pv = .slice (some ⟨g, 0, none⟩) zs.length cap) ∧ (∃ cl, W.cell? ⟨g, q * 2 + 1, none⟩ = some cl) ∧ W.frozen? ⟨g, q * 2 + 1, none⟩ = false ∧ BN (W.setCell ⟨g, q * 2 + 1, none⟩ (.slice a n c)) Bn Y S LB base pv (fun b => A b ∨ (N ≤ b ∧ b < W.heap.size)) ok zs' full off lar x L ∧ PsOk (zs'.map (·.2)) ∧ zs'.length = zs.length := by
  have k := h.bs
  obtain ⟨n1, n2, n3, n4, n5, n6⟩ := hN
  obtain ⟨a', cap, hpv⟩ := k.stm.own.form
  have hown := k.stm.own
  rw [hpv] at hown
  obtain ⟨g, cl, e1, -, e3, e4, e5, e6, -, e8⟩ := hown.cell1 zCs_size q hq 1 (by decide) ((zs[q].1.1, (a, n, c)), (zs[q].2.1, bs)) (.slice a n c) (by simp [zCs, sv])
  subst e1
  rw [← hpv] at e8
  have hgo : pv.ownBlock = some g := by rw [hpv]; rfl
  have hgN := n5 g hgo
  have ho : ∀ b, b ≠ g → (W.setCell ⟨g, q * 2 + 1, none⟩ (.slice a n c)).heap[b]? = W.heap[b]? := fun b hb => Below.heap_setCell _ _ _ _ hb
  have hz : (W.setCell ⟨g, q * 2 + 1, none⟩ (.slice a n c)).heap.size = W.heap.size := by simp
  have hs := k.stm.sep g hgo
  have hv := k.pvn g hgo
  refine ⟨g, _, ⟨cap, hpv⟩, ⟨cl, e5⟩, e6, ⟨⟨(ho Y (fun e => hv.2 e.symm)).trans k.sys, ⟨(ho S (fun e => hs.1 e.symm)).trans k.stm.top, e8, fun z hz' => ?_, fun b e => ⟨(k.stm.sep b e).1, fun q' => q'.elim (k.stm.sep b e).2 (fun q' => by have := n5 b e; omega)⟩, fun e => e.elim k.stm.out (fun e => by omega), fun b e => by rw [hz]; exact e.elim (k.stm.lt b) (fun e => e.2), k.stm.baseS⟩, (ho LB (fun e => hv.1 e.symm)).trans k.lb, k.low.mono (fun b p => ho b (fun e => (k.okl b p).2.2.2 (e ▸ hgo))) (fun _ p => p), fun b p => by rw [hz]; exact k.okl b p, k.ne, k.pvn, fun b e => e.elim (k.an b) (fun e => by omega), k.bs⟩, (ho Bn (fun e => h.n2 (e ▸ hgo))).trans h.bn, h.ne, h.n2, fun e => e.elim h.n3 (fun e => by omega), h.n4, h.bb⟩, fun p hp' => ?_, by rw [List.length_set]⟩
  · have hm : ∀ {v : Value} {l : List Int}, BytesAt W A v l → BytesAt (W.setCell ⟨g, q * 2 + 1, none⟩ (.slice a n c)) (fun b => A b ∨ (N ≤ b ∧ b < W.heap.size)) v l := fun h => RArr.mono h (fun b p => ho b (fun e => hs.2 (e ▸ p))) (fun _ p => Or.inl p)
    rcases List.mem_or_eq_of_mem_set hz' with q1 | q1
    · exact ⟨hm (k.stm.zip z q1).1, hm (k.stm.zip z q1).2⟩
    · rw [q1]
      exact ⟨hm (k.stm.zip _ (List.getElem_mem hq)).1, RArr.mono (RArr.lt hb) (fun b p => ho b (by have := p.1; omega)) (fun _ p => Or.inr p)⟩
  · obtain ⟨z, z1, z2⟩ := List.mem_map.1 hp'
    rcases List.mem_or_eq_of_mem_set z1 with q1 | q1
    · exact hp p (List.mem_map.2 ⟨z, q1, z2⟩)
    · rw [← z2, q1]
      exact ⟨(hp _ (List.mem_map.2 ⟨_, List.getElem_mem hq, rfl⟩)).1, hbs⟩
end

end Go.Proofs.Qxb6500666aGreatDoor
