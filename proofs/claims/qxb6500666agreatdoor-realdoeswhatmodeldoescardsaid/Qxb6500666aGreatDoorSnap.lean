/- snapshot, walked. -/
import Derived.Test.Qxb6500666aGreatDoorSameP
import Derived.Test.Qxb6500666aGreatDoorAsCur
import Derived.Test.Qxb6500666aGreatDoorStM
namespace Go.Proofs.Qxb6500666aGreatDoor
open Go.RowKit

def zeroZ : ZP := (((none, 0, 0), (none, 0, 0)), ([], []))
theorem stPair_eq (w : World) (g o : Nat) (cs : Array Value) (hcs : cs.size = 2) : (stS 171 (.pointer (some ⟨g, o, none⟩)) (.agg cs)).run Tryz.prog w = (storeCells ⟨g, o, none⟩ cs.toList 0).run Tryz.prog w := by
  simp [stS, Instr.storeAt, Instr.sureAddr, storeVar, Sem.run_bind, Value.cells, hcs]
section
variable (ρ : Operand → Value) (dst : Option Tmp) (x y : Operand) (ty : TypeId) (pos : String) (after : Array Edge) (guard : Option (Nat × Bool))
theorem exec_stPairS : execOp ρ { dst, op := .store 171 x y, type := ty, pos, after, guard } = (do stS 171 (ρ x) (ρ y); pure .skip) := rfl
end
theorem run_stPairS (w : World) (b : Nat) (cs : Array Value) : (stS 171 (.pointer (some ⟨b, 0, none⟩)) (.agg cs)).run Tryz.prog w = if whole w b 2 = true ∧ ones cs 2 = true then .ok () (w.setRow b cs) else (Instr.storeAt 171 (.pointer (some ⟨b, 0, none⟩)) (.agg cs)).run Tryz.prog w :=
  run_stS Tryz.size171 w b cs
theorem ones_two (a b : Option Addr) (n c m d : Nat) : ones #[.slice a n c, .slice b m d] 2 = true := rfl
/-- What the loop has copied. -/
structure SnI (w W : World) (n q : Nat) (ps : List KV) (ns : List ZP) : Prop where
  own : OwnR W w.heap.size 171 2 zCs (.slice (some ⟨w.heap.size, 0, none⟩) n n) (ns ++ List.replicate (n - q) zeroZ)
  len : ns.length = q
  zip : Zip W (fun b => w.heap.size < b ∧ b < W.heap.size) ns
  eq : ns.map (·.2) = ps.take q
  bel : Below w.heap.size w W

attribute [local go_sem] ext_const Ext.cell Ext.frozen Ext.rng Ext.whole
attribute [local go_sem ↓] exec_stPairS
attribute [local go_sem] run_stPairS ones_two whole_alloc_lt whole_alloc_at whole_drew setRow_alloc_at setRow_alloc_lt rng_alloc_lt rng_alloc_at rng_drew rng_drewN

set_option maxRecDepth 100000 in
set_option maxHeartbeats 4000000 in
theorem snapshot_calls (w : World) (S : Nat) (A : Nat → Prop) (pv : Value) (ps : List KV) (full : Bool) (off0 lar0 : Int) (hS : w.heap[S]? = some (.cells #[pv, .bool full, .int .i64 off0, .int .i64 lar0] 131 (0, 0))) (hp : PairsAt w A pv ps) (hlen : ps.length ≤ 4000000) :
    Calls Tryz.prog 41 #[.pointer (some ⟨S, 0, none⟩)] w fun e w' => ∃ v', e = .returned v' ∧ PairsAt w' (fun b => w.heap.size ≤ b ∧ b < w'.heap.size) v' ps ∧ Below w.heap.size w w' ∧ ∃ a n c, v' = .slice a n c := by
  obtain ⟨zs, hR, hzm, hzip⟩ := hp.zs
  obtain ⟨a, cap, b, off, rfl, hl, hm, hr, ha, hc⟩ := hR.lt
  have hzl : zs.length = ps.length := by rw [← hzm, List.length_map]
  obtain ⟨n, hn⟩ : ∃ n, n = zs.length := ⟨_, rfl⟩
  have Hn : Hid (n = zs.length) := hn
  have hn4 : n ≤ 4000000 := by omega
  have hSl := blk_lt hS
  have s0 := cells_all hS 0
  simp only [List.getElem?_toArray, List.getElem?_cons_zero] at s0
  rw [← hn] at hl hr ha s0
  have hi := run_indexAt_arr (P := Tryz.prog) (cap := cap) Tryz.underlying129 Tryz.size171 (fun h => (ha h).1)
  have HB : Hid (0 < n → b < w.heap.size) := fun h => (ha h).2.2
  have HC := hide hc
  have HZ := hide hzip
  have HM := hide hzm
  have HPL : Hid (ps.length = n) := by show _ = _; omega
  clear ha hc hn hm hl hp hR hzip hzm hzl hS hlen
  go_enter Tryz.func41, Tryz.ntmps41
  obtain ⟨i0, hi0, hz0, hz1, hz2⟩ := info_parts Tryz.info171
  go_upto_region 2 with (at_make; refine wpList_make_full w rfl _ _ 129 rfl w.heap.size 171 i0 _ 2 Tryz.underlying129 hi0 hz0 hz1 _ _ _ _ n rfl rfl rfl rfl (by rw [hz2]; omega) (by unfold maxLen; omega) (Nat.le_refl _) ?_; intro W0 hown0 hgr0)
  have hbel0 : Below w.heap.size w W0 := (Below.refl _ _).grown hgr0 (Nat.le_refl _) (fun k hk => by simp at hk)
  have HI0 : Hid (SnI w W0 n 0 ps []) := by
    refine ⟨?_, rfl, fun z hz => (by cases hz), rfl, hbel0⟩
    unfold OwnR
    rw [List.nil_append, Nat.sub_zero, ← flat_made zCs zeroZ 2 n zCs_size (by decide), List.length_replicate]
    exact hown0
  have s0' : W0.cell? ⟨S, 0, none⟩ = some (.slice a n cap) := (hbel0.cell (p := ⟨S, 0, none⟩) hSl).trans s0
  have hS0 : S < W0.heap.size := by have := hbel0.size; omega
  clear hown0 hgr0 hi0 hz0 hz1 hz2 s0 hbel0
  go_upto_region 3 with fail
  clear s0'
  go_loopg [17] n (fun gk j wr => ∃ q : Nat, q ≤ n ∧ gk = n - q ∧ j = .int .i64 q ∧ Hid (∃ ns, SnI w wr n q ps ns))
  case atStart => exact ⟨0, by omega, by omega, rfl, ⟨[], HI0.out⟩⟩
  clear HI0
  case round =>
    obtain ⟨q, hq, rfl, rfl, HQ⟩ := hrel
    obtain ⟨ns, hI⟩ := HQ.out
    have HI := hide hI
    have hsr := hI.bel.size
    clear hI HQ
    by_cases hlt : q < n
    · have hqs : q < zs.length := by rw [← Hn.out]; exact hlt
      have hqp : q < ps.length := by rw [HPL.out]; exact hlt
      have hbb := HB.out (by omega)
      have c0 := HC.out q hqs
      rw [← rng_of_block (HI.out.bel.block _ hbb)] at c0
      have hbw : b < wr.heap.size := by omega
      obtain ⟨y1, y2⟩ := HZ.out _ (List.getElem_mem hqs)
      have he : zs[q].2 = ps[q] := by
        have := congrArg (fun l : List KV => l[q]?) HM.out
        simpa [hqs, hqp] using this
      rw [he] at y1 y2
      have HTK : Hid (ps.take (q + 1) = ps.take q ++ [ps[q]]) := List.take_succ_eq_append_getElem hqp
      have f0 := (rng_cell c0).2 0 (by decide)
      have f1 := (rng_cell c0).2 1 (by decide)
      simp only [zCs, List.getElem?_toArray, List.getElem?_cons_zero, List.getElem?_cons_succ, Nat.add_zero] at f0 f1
      clear c0 he
      generalize ps[q] = p at *
      obtain ⟨a1, n1, c1, g1, S1⟩ := Src.of y1
      obtain ⟨a2, n2, c2, g2, S2⟩ := Src.of y2
      rw [g1] at f0
      rw [g2] at f1
      have l1 := y1.len
      have l2 := y2.len
      have HS1 := hide S1
      have HS2 := hide S2
      have hn1 : n1 = p.1.length := S1.len
      have hn2 : n2 = p.2.length := S2.len
      have HN1 := hide hn1
      have HN2 := hide hn2
      have hl1 : n1 ≤ 140737488355328 := by omega
      have hl2 : n2 ≤ 140737488355328 := by omega
      clear g1 g2 S1 S2 y1 y2 hn1 hn2 l1 l2
      go_upto_region 5 with fail
      have HB1 : Hid (Below wr.heap.size wr (wr.alloc (.cells #[.slice a1 n1 c1, .slice a2 n2 c2] 171))) := (Below.refl _ _).alloc (Nat.le_refl _) _
      have k0 : (wr.alloc (.cells #[.slice a1 n1 c1, .slice a2 n2 c2] 171)).heap[wr.heap.size]? = some (.cells #[.slice a1 n1 c1, .slice a2 n2 c2] 171 (0, 0)) := heap_alloc_at _ _
      have hzz : (wr.alloc (.cells #[.slice a1 n1 c1, .slice a2 n2 c2] 171)).heap.size = wr.heap.size + 1 := by simp
      generalize wr.alloc (.cells #[.slice a1 n1 c1, .slice a2 n2 c2] 171) = W1 at *
      have k1 := cells_all k0 0
      have k2 := cells_all k0 1
      simp only [List.getElem?_toArray, List.getElem?_cons_zero, List.getElem?_cons_succ] at k1 k2
      have HW1 : Hid (Below w.heap.size w W1) := HI.out.bel.trans (HB1.out.mono hsr)
      have hi1 := run_indexAt_arr (P := Tryz.prog) (n := n) (cap := n) (a := some ⟨w.heap.size, 0, none⟩) (b := w.heap.size) (off := 0) Tryz.underlying129 Tryz.size171 (fun _ => rfl)
      have hlz : wr.heap.size < W1.heap.size := by omega
      clear k0 f0 f1 hi
      refine wp_region_mixT (W1.heap.size) [3, 6] (by kernel_rfl) ?_
      refine mixT_slots [0, 1, 2, 5] (fuel := 7) rfl (by kernel_rfl) (by kernel_rfl) (fun d _ _ _ _ h => by cases d <;> exact h) ?_
      simp only [opersAt, List.getElem?_toArray, List.getElem?_cons_zero, List.getElem?_cons_succ]
      repeat (go_big_quiet_step (fail))
      refine wpQuiet_nil ?_
      refine mixT_reads [3, 6] (fuel := 5) rfl (by kernel_rfl) (by decide) (by kernel_rfl) (fun d _ _ _ _ h => by cases d <;> exact h) (ext_drew _ _) ?_
      simp only [opersAt, List.getElem?_toArray, List.getElem?_cons_zero, List.getElem?_cons_succ]
      repeat (go_big_quiet_step (fail))
      refine wpQuiet_nil ?_
      refine mixT_one (k := 4) (by kernel_rfl) rfl ?_
      refine wpList_appN (α := Int) rfl _ _ 55 rfl W1.heap.size 5 byteCs Tryz.underlying55 Tryz.info5 rfl (by decide) byteCs_size byteCs_one (.slice none 0 0) [] rfl (OwnR.nil _ _ _ _ _) a1 n1 c1 rfl p.1 HN1.out HS1.out.nil (HS1.out.src _ HW1.out.drew) (by simp only [List.length_nil]; omega) (by simp only [List.length_nil]; unfold maxLen; omega) (Nat.le_refl _) ?_
      intro x1 v1 hown1 hsame1 hbel1 hat1
      rw [List.nil_append] at hown1
      have hb1 : Below W1.heap.size W1 v1 := (Below.refl _ _).drew.trans hbel1
      refine ⟨Or.inr (by intros; exact ⟨⟨_, hb1⟩, rfl⟩), ?_⟩
      have HV1 := hide hb1
      have HO1 := hide hown1
      have hz1 := hb1.size
      clear hown1 hsame1 hbel1 hat1 hb1
      refine mixT_one (k := 7) (by kernel_rfl) rfl ?_
      refine wpList_appN (α := Int) rfl _ _ 55 rfl v1.heap.size 5 byteCs Tryz.underlying55 Tryz.info5 rfl (by decide) byteCs_size byteCs_one (.slice none 0 0) [] rfl (OwnR.nil _ _ _ _ _) a2 n2 c2 rfl p.2 HN2.out HS2.out.nil (HS2.out.src _ (HW1.out.trans (HV1.out.mono (by omega)))) (by simp only [List.length_nil]; omega) (by simp only [List.length_nil]; unfold maxLen; omega) (Nat.le_refl _) ?_
      intro x2 v2 hown2 hsame2 hbel2 hat2
      rw [List.nil_append] at hown2
      have hb2 : Below v1.heap.size v1 v2 := hbel2
      refine ⟨Or.inr (by intros; exact ⟨⟨_, HV1.out.trans (hb2.mono hz1)⟩, rfl⟩), ?_⟩
      have hz2 := hb2.size
      obtain ⟨b1, d1, hx1⟩ := HO1.out.form
      obtain ⟨b2, d2, hx2⟩ := hown2.form
      have HBV : Hid (Below wr.heap.size wr v2) := HB1.out.trans ((HV1.out.trans (hb2.mono hz1)).mono (by omega))
      obtain ⟨z, hz⟩ : ∃ z : ZP, z = (((b1, p.1.length, d1), (b2, p.2.length, d2)), p) := ⟨_, rfl⟩
      have hzC : zCs z = #[x1, x2] := by rw [hz, hx1, hx2]; rfl
      have HZN : Hid (Zip v2 (fun b => w.heap.size < b ∧ b < v2.heap.size) [z]) := by
        intro y hy
        rw [List.mem_singleton.mp hy, hz]
        have o1 := ((HO1.out.below hb2 (Nat.le_refl _)).rows byteCs_size (by decide) (by rw [← HN1.out]; omega)).lt
        have o2 := (hown2.rows byteCs_size (by decide) (by rw [← HN2.out]; omega)).lt
        rw [hx1] at o1
        rw [hx2] at o2
        exact ⟨o1.mono (Same.refl _ _) (fun b q => ⟨by have := q.1; omega, q.2⟩), o2.mono (Same.refl _ _) (fun b q => ⟨by have := q.1; omega, q.2⟩)⟩
      have HZP : Hid (z.2 = p) := by show _ = _; rw [hz]
      obtain ⟨g, w3, hg, hst, hown3, hoth3, hsz3, hbel3, -, -⟩ := OwnR.put (P := Tryz.prog) (HI.out.own.below HBV.out (Nat.le_refl _)) zCs_size zCs_one q (by rw [List.length_append, HI.out.len, List.length_replicate]; omega) z
      injection hg with hg
      injection hg with hg _
      subst hg
      rw [← stPair_eq _ _ _ _ (zCs_size _), hzC] at hst
      rw [show n - q = n - (q + 1) + 1 by omega] at hown3
      have hset : (ns ++ List.replicate (n - (q + 1) + 1) zeroZ).set q z = (ns ++ [z]) ++ List.replicate (n - (q + 1)) zeroZ := by
        have := set_mid ns (n - (q + 1)) zeroZ z
        rw [HI.out.len] at this
        exact this
      rw [hset] at hown3
      have HN : Hid (SnI w w3 n (q + 1) ps (ns ++ [z])) := by
        refine ⟨hown3, by simp [HI.out.len], ?_, by rw [List.map_append, HI.out.eq, HTK.out]; simp [HZP.out], (HI.out.bel.trans (HBV.out.mono hsr)).trans hbel3⟩
        have h1 : Zip v2 (fun b => w.heap.size < b ∧ b < v2.heap.size) (ns ++ [z]) := (HI.out.zip.mono (fun b hb => HBV.out.block b hb.2) (fun b hb => ⟨hb.1, Nat.lt_of_lt_of_le hb.2 HBV.out.size⟩)).append HZN.out
        exact h1.mono (fun b hb => hoth3 b (by have := hb.1; omega)) (fun b hb => ⟨hb.1, by rw [hsz3]; exact hb.2⟩)
      subst hx1 hx2
      clear hset hown3 hoth3 hsz3 hbel3 hzC hz hown2 hsame2 hbel2 hat2 HO1
      refine mixT_one (k := 8) (by kernel_rfl) rfl ?_
      go_wp2
      refine mixT_one (k := 9) (by kernel_rfl) rfl ?_
      go_wp2
      refine ⟨Or.inr (fun h => h), ?_⟩
      refine mixT_one (k := 10) (by kernel_rfl) rfl ?_
      go_wp2
      refine ⟨Or.inl (by kernel_rfl), ?_⟩
      refine mixT_nil (by kernel_rfl) ?_
      go_wp2
      go_roundg (n - (q + 1))
      case measure => omega
      case rel => exact ⟨q + 1, by omega, rfl, by go_num, ⟨_, HN.out⟩⟩
    · have hqe : q = n := by omega
      have HF : Hid (PairsAt wr (fun b => w.heap.size ≤ b ∧ b < wr.heap.size) (.slice (some ⟨w.heap.size, 0, none⟩) n n) ps) := by
        have h1 := HI.out.own
        rw [hqe, Nat.sub_self, List.replicate_zero, List.append_nil] at h1
        have h2 := HI.out.eq
        rw [hqe, List.take_of_length_le (by rw [HPL.out]; omega)] at h2
        have h3 := (h1.rows zCs_size (by decide) (by rw [HI.out.len]; omega)).lt
        show PairsAt _ _ _ _
        rw [← h2]
        exact PairsAt.of_zs h3 (HI.out.zip.mono (Same.refl _ _) (fun b hb => ⟨by have := hb.1; omega, hb.2⟩))
      have HBF := hide HI.out.bel
      clear HI
      go_wp2
      go_ret
      exact ⟨_, rfl, HF.out, HBF.out, _, _, _, rfl⟩

end Go.Proofs.Qxb6500666aGreatDoor
