/- asCurrent, walked. -/
import Derived.Test.Qxb6500666aGreatDoorLines
namespace Go.Proofs.Qxb6500666aGreatDoor
open Go.RowKit

theorem flat_rep_get {α : Type} (f : α → Array Value) (x : α) (s : Nat) (hs : (f x).size = s) (hp : 0 < s) : ∀ (m i : Nat), i < m * s → (flat f (List.replicate m x))[i]? = (f x).toList[i % s]?
  | 0, i, h => by omega
  | m + 1, i, h => by
    have hl : (f x).toList.length = s := by simpa using hs
    have e : flat f (List.replicate (m + 1) x) = (f x).toList ++ flat f (List.replicate m x) := rfl
    rw [e]
    by_cases hi : i < s
    · rw [List.getElem?_append_left (by omega), Nat.mod_eq_of_lt hi]
    · have e2 : i % s = (i - s) % s := Nat.mod_eq_sub_mod (by omega)
      have e3 : (m + 1) * s = m * s + s := Nat.succ_mul m s
      rw [e2, List.getElem?_append_right (by omega), hl, flat_rep_get f x s hs hp m (i - s) (by omega)]
theorem flat_made {α : Type} (f : α → Array Value) (x : α) (s m : Nat) (hf : ∀ x, (f x).size = s) (hp : 0 < s) : (madeCells (f x) (m * s)).toList = flat f (List.replicate m x) := by
  refine List.ext_getElem? fun i => ?_
  by_cases hi : i < m * s
  · rw [flat_rep_get f x s (hf x) hp m i hi]
    have hm : i % s < (f x).size := by rw [hf x]; exact Nat.mod_lt _ hp
    have h1 : (madeCells (f x) (m * s)).toList[i]? = some ((f x)[i % (f x).size]!) := by
      simp [madeCells, hi]
    rw [h1, hf x]
    simp [hm]
  · rw [List.getElem?_eq_none (by simp [size_madeCells]; omega), List.getElem?_eq_none (by rw [flat_length hf]; simp; omega)]

def asCur (rows : List Row) : List Change := rows.map (fun r => ⟨82, r⟩)
theorem set_mid {α : Type} (l : List α) (k : Nat) (z y : α) : (l ++ List.replicate (k + 1) z).set l.length y = (l ++ [y]) ++ List.replicate k z := by
  rw [List.set_append_right _ _ (Nat.le_refl _)]
  simp [List.replicate_succ]
theorem stChange_eq (w : World) (g o : Nat) (cs : Array Value) (hcs : cs.size = 14) : (stS 111 (.pointer (some ⟨g, o, none⟩)) (.agg cs)).run Tryz.prog w = (storeCells ⟨g, o, none⟩ cs.toList 0).run Tryz.prog w := by
  simp [stS, Instr.storeAt, Instr.sureAddr, storeVar, Sem.run_bind, Value.cells, hcs]

attribute [local go_sem] ext_const Ext.cell Ext.frozen Ext.rng Ext.whole
attribute [local go_sem ↓] exec_stChange exec_bdChange exec_ldRow exec_stRow
attribute [local go_sem] run_bdChange run_ldRow run_stRow rowCs_size rowCs_ones rowCs_all changeCs_size changeCs_ones changeCs_all whole_alloc_lt whole_alloc_at whole_drew setRow_alloc_at setRow_alloc_lt rng_alloc_lt rng_alloc_at rng_drew rng_drewN

set_option maxRecDepth 100000 in
set_option maxHeartbeats 2000000 in
theorem asCurrent_calls (w : World) (ok : Nat → Prop) (v : Value) (rows : List Row) (h : RowsAt w ok v rows) (hlen : rows.length ≤ 100000000) :
    Calls Tryz.prog 208 #[v] w fun e w' => ∃ v', e = .returned v' ∧ OwnR w' w.heap.size 111 14 changeCs v' (asCur rows) ∧ Below w.heap.size w w' := by
  obtain ⟨a, cap, b, off, rfl, hl, hm, hr, ha, hc⟩ := RArr.lt h
  obtain ⟨n, hn⟩ : ∃ n, n = rows.length := ⟨_, rfl⟩
  have Hn : Hid (n = rows.length) := hn
  rw [← hn] at hl hr ha hlen ⊢
  have hi := run_indexAt_arr (P := Tryz.prog) (cap := cap) Tryz.underlying150 Tryz.size109 (fun h => (ha h).1)
  have HB : Hid (0 < n → b < w.heap.size) := fun h => (ha h).2.2
  have HC := hide hc
  clear ha hc hn hm hl h
  go_enter Tryz.func208, Tryz.ntmps208
  obtain ⟨i0, hi0, hz0, hz1, hz2⟩ := info_parts Tryz.info111
  go_upto_region 3 with (at_make; refine wpList_make_full w rfl _ _ 57 rfl w.heap.size 111 i0 _ 14 Tryz.underlying57 hi0 hz0 hz1 _ _ _ _ n rfl rfl rfl rfl (by rw [hz2]; omega) (by unfold maxLen; omega) (Nat.le_refl _) ?_; intro W0 hown0 hgr0)
  have hbel0 : Below w.heap.size w W0 := (Below.refl _ _).grown hgr0 (Nat.le_refl _) (fun k hk => by simp at hk)
  have ho0 : OwnR W0 w.heap.size 111 14 changeCs (.slice (some ⟨w.heap.size, 0, none⟩) n n) (List.replicate n zeroChg) := by
    unfold OwnR
    rw [← flat_made changeCs zeroChg 14 n changeCs_size (by decide), List.length_replicate]
    exact hown0
  clear hown0 hgr0 hi0 hz0 hz1 hz2
  go_loopg [11] n (fun gk j wr => ∃ q : Nat, q ≤ n ∧ gk = n - q ∧ j = .int .i64 q ∧ Hid (OwnR wr w.heap.size 111 14 changeCs (.slice (some ⟨w.heap.size, 0, none⟩) n n) (asCur (rows.take q) ++ List.replicate (n - q) zeroChg)) ∧ Hid (Below w.heap.size w wr))
  case atStart => exact ⟨0, by omega, by omega, rfl, ho0, hbel0⟩
  clear ho0 hbel0
  case round =>
    obtain ⟨q, hq, rfl, rfl, HO, HBL⟩ := hrel
    have hsr := HBL.out.size
    by_cases hlt : q < n
    · have hqs : q < rows.length := by rw [← Hn.out]; exact hlt
      have c0 := HC.out q hqs
      have hbb := HB.out (by omega)
      rw [← rng_of_block (HBL.out.block _ hbb)] at c0
      have hbw : b < wr.heap.size := by omega
      have HL : Hid (asCur (rows.take (q + 1)) = asCur (rows.take q) ++ [⟨82, rows[q]⟩]) := by
        show _ = _
        rw [List.take_succ_eq_append_getElem hqs, asCur, List.map_append]
        rfl
      have hll : (asCur (rows.take q)).length = q := by simp [asCur]; omega
      generalize rows[q] = r at *
      have hb1 : Below wr.heap.size wr (wr.alloc (.cells (rowCs r) 109)) := (Below.refl _ _).alloc (Nat.le_refl _) _
      obtain ⟨g, w3, hg, hst, hown3, hoth3, hsz3, hbel3, -, -⟩ := OwnR.put (P := Tryz.prog) (HO.out.below hb1 (Nat.le_refl _)) changeCs_size changeCs_one q (by rw [List.length_append, hll, List.length_replicate]; omega) ⟨82, r⟩
      injection hg with hg
      injection hg with hg _
      subst hg
      rw [← stChange_eq _ _ _ _ (changeCs_size _)] at hst
      rw [show n - q = n - (q + 1) + 1 by omega] at hown3
      have hset : (asCur (rows.take q) ++ List.replicate (n - (q + 1) + 1) zeroChg).set q ⟨82, r⟩ = asCur (rows.take (q + 1)) ++ List.replicate (n - (q + 1)) zeroChg := by
        have := set_mid (asCur (rows.take q)) (n - (q + 1)) zeroChg ⟨82, r⟩
        rw [hll] at this
        rw [this, HL.out]
      rw [hset] at hown3
      have HO3 := hide hown3
      have HB3 := hide ((HBL.out.alloc hsr _).trans hbel3)
      clear hset hown3 hoth3 hsz3 hbel3 hb1
      go_wp2
      go_roundg (n - (q + 1))
      case measure => omega
      case rel => exact ⟨q + 1, by omega, rfl, by go_num, HO3, HB3⟩
    · have hqe : q = n := by omega
      have HL : Hid (asCur (rows.take q) ++ List.replicate (n - q) zeroChg = asCur rows) := by
        show _ = _
        rw [List.take_of_length_le (by rw [← Hn.out]; omega), hqe]
        simp
      go_wp2
      go_ret
      exact ⟨_, rfl, by rw [← HL.out]; exact HO.out, HBL.out⟩

end Go.Proofs.Qxb6500666aGreatDoor
