/- BatchesFitTheStore, walked. -/
import Derived.Test.Qxb6500666aGreatDoorLawB
namespace Go.Proofs.Qxb6500666aGreatDoor
open Go.RowKit
attribute [local go_sem] ext_const Ext.cell Ext.frozen Ext.rng Ext.whole
attribute [local go_sem ↓] exec_ldOpz exec_stOpz
attribute [local go_sem] run_ldOpz run_stOpz opA_size whole_alloc_lt whole_alloc_at whole_drew setRow_alloc_at setRow_alloc_lt rng_alloc_lt rng_alloc_at rng_drew rng_drewN

theorem inv_at {s : List Op} (h : ∀ k (hk : k < s.length), s[k].req.Ok) : ∀ q, q ≤ s.length → Inv q (stAt s q)
  | 0, _ => Inv.zero
  | q + 1, hq => by
    rw [stAt_succ (by omega)]
    exact (inv_at h q (by omega)).step (h q (by omega))
/-- The bench behind some steps. -/
def BQ (w W : World) (t : ST) : Prop := ∃ Y pv A ok zs x, BN W (w.heap.size + 2) Y w.heap.size (w.heap.size + 1) w.heap.size pv A ok zs t.full t.off t.lar x t.low ∧ zs.map (·.2) = t.ps ∧ Below w.heap.size w W
theorem BQ.blw {w W : World} {t : ST} (h : BQ w W t) : Below w.heap.size w W := by
  obtain ⟨_, _, _, _, _, _, _, _, h⟩ := h
  exact h
theorem BQ.cells {w W : World} {t : ST} (h : BQ w W t) : W.cell? ⟨w.heap.size + 2, 0, none⟩ = some (.pointer (some ⟨w.heap.size, 0, none⟩)) ∧ W.cell? ⟨w.heap.size, 3, none⟩ = some (.int .i64 t.lar) := by
  obtain ⟨_, _, _, _, _, _, h1, _, _⟩ := h
  exact ⟨cells_all h1.bn 0, cells_all h1.bs.stm.top 3⟩
theorem BQ.step {w W : World} {t : ST} {oko okg : Nat → Prop} {o : Op} {lv dv : Value} {ca : Option Addr} {cn cc : Nat} {rn kn ft : Nat → ByteArray} (h : BQ w W t) (hp : PO t.ps t.low) (ho : OpIn W oko o lv dv ca cn cc) (hgl : Gl W w.heap.size rn kn ft okg) (hoff : 0 ≤ t.off ∧ t.off ≤ 100000000) :
    Calls Tryz.prog 21 #[.pointer (some ⟨w.heap.size + 2, 0, none⟩), .agg (opA o lv dv ca cn cc)] W fun e w' => ∃ ans, e = .returned (.agg (ansCs ans)) ∧ BQ w w' (stepR t o) := by
  obtain ⟨Y, pv, A, ok, zs, x, h1, h2, h3⟩ := h
  rw [← h2] at hp
  refine (step_any W _ Y _ _ _ pv A ok oko okg zs t.full t.off t.lar x t.low o lv dv ca cn cc rn kn ft h1 hp ho hgl hoff).mono ?_
  rintro e w' ⟨Y', pv', A', ok', zs', x', ans, k1, k2, k3, k4⟩
  rw [h2] at k1 k2
  exact ⟨ans, k3, Y', pv', A', ok', zs', x', k1, k2, h3.trans k4⟩
theorem BQ.below {w W W' : World} {t : ST} (h : BQ w W t) (hb : Below W.heap.size W W') : BQ w W' t := by
  obtain ⟨Y, pv, A, ok, zs, x, h1, h2, h3⟩ := h
  exact ⟨Y, pv, A, ok, zs, x, h1.below hb, h2, h3.trans (hb.mono h3.size)⟩

set_option maxRecDepth 100000 in
set_option maxHeartbeats 4000000 in
theorem bat_walk (w : World) (v : Value) (s : List Op) (rn kn ft : Nat → ByteArray) (okg : Nat → Prop) (h : Script w (· < w.heap.size) v s) (hgl : Gl w w.heap.size rn kn ft okg) :
    Calls Tryz.prog 17 #[v] w fun e w' => e = .returned (.bool true) ∧ Below w.heap.size w w' := by
  have HSm := hide (small_calls w _ v s h)
  have HGL := hide (fun W (hb : Below w.heap.size w W) => hgl.same hb (Nat.le_refl _))
  have HNB := hide (newBench_calls w)
  obtain ⟨a, cap, b, off, rfl, hl, hm, hr, ha, hc⟩ := h
  obtain ⟨n, hn⟩ : ∃ n, n = s.length := ⟨_, rfl⟩
  have Hn : Hid (n = s.length) := hn
  rw [← hn] at hl hr ha HSm ⊢
  have hi := run_indexAt_arr (P := Tryz.prog) (cap := cap) Tryz.underlying22 Tryz.size61 (fun h => (ha h).1)
  have HB : Hid (0 < n → b < w.heap.size) := fun h => (ha h).2
  by_cases hsm : total s ≤ 65536
  · have HC : Hid (∀ k (h : k < s.length), ∃ lv dv ca cn cc, rng w b (off + k * 27) 27 = some (opA s[k] lv dv ca cn cc) ∧ OpIn w (· < w.heap.size) s[k] lv dv ca cn cc ∧ ones (opA s[k] lv dv ca cn cc) 27 = true) := fun k h => by
      obtain ⟨cs, hlen, hE, hcell⟩ := hc k h
      have ht := total_le h hsm
      obtain ⟨lv, dv, ca, cn, cc, e, hO, h1⟩ := opIn_of hE ht.2.1 ht.2.2
      refine ⟨lv, dv, ca, cn, cc, ?_, hO, h1⟩
      rw [← e]
      have hl27 : cs.length = 27 := by have := congrArg Array.size e; simpa [opA] using this
      have := rng_of_cells (w := w) (b := b) (off := off + k * 27) (by omega) hcell
      rw [hl27] at this
      exact this
    have HIV : Hid (∀ q, q ≤ s.length → Inv q (stAt s q)) := inv_at (fun k hk => by
      obtain ⟨_, _, _, _, _, _, h1, _⟩ := HC.out k hk
      exact h1.req)
    have hn2 : n ≤ 65536 := by have := hsm; unfold total at this; omega
    have hd : decide (total s ≤ 65536) = true := by simpa using hsm
    rw [hd] at HSm
    clear hd hsm ha hc hn hgl
    go_enter Tryz.func17, Tryz.ntmps17
    go_upto_region 3 with (go_at_call 18; refine HSm.out.mono ?_; rintro e w1 ⟨rfl, rfl⟩)
    go_upto_region 4 with (go_at_call 19; refine HNB.out.mono ?_; rintro e W0 ⟨rfl, hbn, hb0⟩)
    have HQ0 : Hid (BQ w W0 (stAt s 0)) := ⟨_, _, _, _, [], lv0, hbn, rfl, hb0⟩
    clear hbn hb0 HSm HNB
    go_upto_region 5 with fail
    go_loopg [12] n (fun g j wr => ∃ q : Nat, q ≤ n ∧ g = n - q ∧ j = .int .i64 q ∧ Hid (BQ w wr (stAt s q)))
    case atStart => exact ⟨0, by omega, by omega, rfl, HQ0⟩
    clear HQ0
    case round =>
      obtain ⟨q, hq, rfl, rfl, HQ⟩ := hrel
      by_cases hlt : q < n
      · have hqs : q < s.length := by rw [← Hn.out]; exact hlt
        have hbb := HB.out (by omega)
        obtain ⟨lv, dv, ca, cn, cc, hcl, hO, hones⟩ := HC.out q hqs
        have HIQ := hide (HIV.out q (by omega))
        have HSQ := hide (stAt_succ hqs)
        generalize s[q] = p at *
        have hcells : rng wr b (off + q * 27) 27 = some (opA p lv dv ca cn cc) := by rw [rng_of_block (HQ.out.blw.block _ hbb)]; exact hcl
        have hbw : b < wr.heap.size := by have := HQ.out.blw.size; omega
        have HOI := hide hO
        clear hO hcl
        go_upto_region 7 with fail
        have HQ1 : Hid (BQ w (wr.alloc (.cells (opA p lv dv ca cn cc) 61)) (stAt s q)) := HQ.out.below ((Below.refl _ _).alloc (Nat.le_refl _) _)
        have hk1 : (wr.alloc (.cells (opA p lv dv ca cn cc) 61)).heap[wr.heap.size]? = some (.cells (opA p lv dv ca cn cc) 61 (0, 0)) := heap_alloc_at _ _
        have hz1 : wr.heap.size < (wr.alloc (.cells (opA p lv dv ca cn cc) 61)).heap.size := by simp
        generalize wr.alloc (.cells (opA p lv dv ca cn cc) 61) = W1 at *
        generalize wr.heap.size = D at *
        have hr1 : rng W1 D 0 27 = some (opA p lv dv ca cn cc) := rng_whole hk1
        have HST := hide (HQ1.out.step (HIQ.out.po (by omega)) (HOI.out.below HQ1.out.blw) (HGL.out _ HQ1.out.blw) ⟨HIQ.out.off.1, by have := HIQ.out.off.2; omega⟩)
        rw [← HSQ.out] at HST
        go_wp2_with (go_at_call 21; refine HST.out.mono ?_; rintro e W2 ⟨ans, rfl, hq2⟩; have HQ2 := hide hq2; clear hq2)
        go_roundg (n - (q + 1))
        case measure => omega
        case rel => exact ⟨q + 1, by omega, rfl, by go_num, HQ2⟩
      · obtain rfl : q = n := by omega
        have HIQ := hide (HIV.out q (by rw [← Hn.out]; omega))
        obtain ⟨c1, c2⟩ := HQ.out.cells
        have hle := HIQ.out.lar
        have HBW := hide HQ.out.blw
        generalize (stAt s q).lar = lr at *
        go_wp2
        go_ret
        exact ⟨by first | rfl | simp [hle], HBW.out⟩
  · have hd : decide (total s ≤ 65536) = false := by simpa using hsm
    rw [hd] at HSm
    clear hd hsm ha hc hn hgl HNB
    go_enter Tryz.func17, Tryz.ntmps17
    go_wp2_with (go_at_call 18; refine HSm.out.mono ?_; rintro e w1 ⟨rfl, rfl⟩)
    go_ret
    exact ⟨rfl, Below.refl _ _⟩

end Go.Proofs.Qxb6500666aGreatDoor
