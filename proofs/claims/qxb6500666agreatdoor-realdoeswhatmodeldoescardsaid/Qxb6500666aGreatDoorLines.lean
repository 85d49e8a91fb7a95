/- lines: all lines of an incremental file, walked. -/
import Derived.Test.Qxb6500666aGreatDoorRel
import Derived.Test.Qxb6500666aGreatDoorApplyWalk
import Derived.Test.Qxb6500666aGreatDoorRowsOf
namespace Go.Proofs.Qxb6500666aGreatDoor
open Go.RowKit

noncomputable def linesGo (ps : List KV) (seq : Int) : Nat → Nat → List Change → Option (List Change)
  | 0, _, acc => some acc
  | n + 1, i, acc => match chgR ps seq i with
    | .error _ => none
    | .ok c => linesGo ps seq n (i + 1) (acc ++ [c])
noncomputable def linesR (ps : List KV) (h : Hdr) : Option (List Change) := if 20 < h.count then none else linesGo ps h.seq h.count.toNat 0 []
theorem linesGo_len {ps : List KV} {seq : Int} : ∀ {n i : Nat} {acc out : List Change}, linesGo ps seq n i acc = some out → out.length = acc.length + n
  | 0, i, acc, out, h => by injection h with h; subst h; rfl
  | n + 1, i, acc, out, h => by
    simp only [linesGo] at h
    split at h
    · cases h
    · have := linesGo_len h; simp at this; omega
theorem linesR_len {ps : List KV} {h : Hdr} {out : List Change} (hl : linesR ps h = some out) : out.length ≤ 20 := by
  unfold linesR at hl
  split at hl
  · cases hl
  · have := linesGo_len hl
    simp at this
    omega
attribute [local go_sem] ext_const Ext.cell Ext.frozen Ext.rng Ext.whole
attribute [local go_sem ↓] exec_ldPlc exec_stPlc exec_stChange exec_ldChange exec_ldRow exec_bsRow exec_bsChange exec_ldHd exec_stHd
attribute [local go_sem] run_ldPlc run_stPlc run_stChange run_ldChange run_ldRow run_bsRow run_bsChange run_ldHd run_stHd rowCs_size rowCs_ones rowCs_all changeCs_size changeCs_ones changeCs_all whole_alloc_lt whole_alloc_at whole_drew setRow_alloc_at setRow_alloc_lt rng_alloc_lt rng_alloc_at rng_drew rng_drewN

set_option maxRecDepth 100000 in
set_option maxHeartbeats 4000000 in
theorem lines_calls (w : World) (Y S LB : Nat) (A : Nat → Prop) (ps : List KV) (full : Bool) (h : Hdr) (hY : SysAt w Y S LB) (hS : StoreAt w S A ps full) (hps : PsOk ps) (hok : h.Ok) :
    Calls Tryz.prog 206 #[.pointer (some ⟨Y, 0, none⟩), .agg (hdrCs h)] w fun e w' => OwnRes w w' 111 14 changeCs e 28 (linesR ps h) := by
  obtain ⟨R, hR⟩ : ∃ R, R = linesR ps h := ⟨_, rfl⟩
  rw [← hR]
  have HR := hide hR
  have HY := hide hY
  have HS := hide hS
  have hYl := blk_lt hY
  have hSl := hok.seq
  have hc1 := hok.count.1
  clear hR hY hS
  obtain ⟨hk, hq, hi, hb, hc, hm, hn⟩ := h
  simp only at hSl hc1
  go_enter Tryz.func206, Tryz.ntmps206
  go_upto_region 1 with fail
  have hb0 : Below w.heap.size w (w.alloc (.cells (hdrCs ⟨hk, hq, hi, hb, hc, hm, hn⟩) 71)) := (Below.refl _ _).alloc (Nat.le_refl _) _
  have hx0 : (w.alloc (.cells (hdrCs ⟨hk, hq, hi, hb, hc, hm, hn⟩) 71)).heap[w.heap.size]? = some (.cells (hdrCs ⟨hk, hq, hi, hb, hc, hm, hn⟩) 71 (0, 0)) := heap_alloc_at _ _
  simp only [hdrCs] at hb0 hx0 ⊢
  generalize (World.alloc w _) = W at *
  have c4 : W.cell? ⟨w.heap.size, 4, none⟩ = some (.int .u32 hc) := by rw [World.cell?, hx0]; rfl
  have hl0 := blk_lt hx0
  have HB0 := hide hb0
  have HX0 := hide hx0
  clear hb0 hx0
  cases t0 : decide (20 < hc) with
  | true =>
    have t1 : 20 < hc := of_decide_eq_true t0
    have HE : Hid (R = none) := HR.out.trans (by simp [linesR, t1])
    go_wp2
    go_ret2
    exact own_none HE HB0.out (by decide)
  | false =>
    have t1 : ¬ 20 < hc := of_decide_eq_false t0
    have HE : Hid (R = linesGo ps hq (hc.toNat - 0) 0 []) := HR.out.trans (by simp [linesR, t1])
    obtain ⟨n, hnn⟩ : ∃ n, n = hc.toNat := ⟨_, rfl⟩
    have hcn : hc = (n : Int) := by omega
    rw [← hnn] at HE
    subst hcn
    clear hnn HR
    have hz0 := HB0.out.size
    obtain ⟨i0, hi0, hq0, hq1, hq2⟩ := info_parts Tryz.info111
    go_upto_region 5 with (at_make; refine wpList_make_own W rfl _ _ 57 rfl w.heap.size 111 i0 _ 14 Tryz.underlying57 hi0 hq0 hq1 _ _ _ n rfl rfl rfl (by rw [hq2]; omega) (by unfold maxLen; omega) hz0 ?_; intro W2 hown0 hgr0)
    have hb2 : Below w.heap.size w W2 := HB0.out.trans ((Below.refl _ _).grown hgr0 hz0 (fun k hk => by simp at hk))
    have ho2 : OwnR W2 w.heap.size 111 14 changeCs (.slice (some ⟨W.heap.size, 0, none⟩) 0 n) [] := hown0
    have hx2 : W2.heap[w.heap.size]? = some (.cells #[.int .u8 hk, .int .u32 hq, .int .i64 hi, .int .u32 hb, .int .u32 (n : Int), .int .u32 hm, .int .u32 hn] 71 (0, 0)) := (((Below.refl _ _).grown (B := W.heap.size) hgr0 (Nat.le_refl _) (fun k hk => by simp at hk)).block _ hl0).trans HX0.out
    have hlw : w.heap.size < W.heap.size := hl0
    have HB2 := hide hb2
    have HO2 := hide ho2
    have HX2 := hide hx2
    clear hown0 hgr0 hi0 hq0 hq1 hq2 c4 hl0 HX0 HB0 hb2 ho2 hx2 hz0
    go_loopg [6, 7] n (fun gk v j wr => ∃ (q : Nat) (acc : List Change), q ≤ n ∧ gk = n - q ∧ j = .int .u32 q ∧ acc.length ≤ q ∧ Hid (Below w.heap.size w wr) ∧ Hid (OwnR wr w.heap.size 111 14 changeCs v acc) ∧ Hid (wr.heap[w.heap.size]? = some (.cells #[.int .u8 hk, .int .u32 hq, .int .i64 hi, .int .u32 hb, .int .u32 (n : Int), .int .u32 hm, .int .u32 hn] 71 (0, 0))) ∧ Hid (R = linesGo ps hq (n - q) q acc) ∧ Hid (v.ownBlock ≠ some w.heap.size))
    case atStart => exact ⟨0, [], by omega, by omega, rfl, by simp, HB2, HO2, HX2, HE, by show _ ≠ _; simp [Value.ownBlock]; omega⟩
    clear HB2 HO2 HX2 HE
    case round =>
      obtain ⟨q, acc, hqn, rfl, rfl, hal, HB, HO, HX, HE, HNE⟩ := hrel
      have c4 : wr.cell? ⟨w.heap.size, 4, none⟩ = some (.int .u32 n) := by rw [World.cell?, HX.out]; rfl
      have c1 : wr.cell? ⟨w.heap.size, 1, none⟩ = some (.int .u32 hq) := by rw [World.cell?, HX.out]; rfl
      have hl0 := blk_lt HX.out
      have hsr := HB.out.size
      by_cases hlt : q < n
      · have HYr : Hid (SysAt wr Y S LB) := (HB.out.block _ hYl).trans HY.out
        have HSr := hide (HS.out.below HB.out)
        cases hcg : chgR ps hq q with
        | error cc =>
          have hcc := chgR_err hcg
          subst hcc
          have HF : Hid (R = none) := HE.out.trans (by rw [show n - q = n - (q + 1) + 1 by omega]; simp only [linesGo]; rw [hcg])
          go_wp2_with (go_at_call 245; refine (chgR_calls _ Y S LB A ps full hq q HYr.out HSr.out hps hSl ⟨by omega, by omega⟩).mono ?_; rintro e w5 ⟨hd5, hb5⟩; rw [hcg] at hd5; have hd6 : e = .returned (.tuple #[.agg (changeCs zeroChg), .iface 63 (.int .u8 28)]) := hd5; subst hd6)
          go_ret2
          have := hb5.size
          exact own_none HF ((HB.out.trans (hb5.mono hsr)).alloc (by omega) _) (by decide)
        | ok c =>
          have HF : Hid (R = linesGo ps hq (n - (q + 1)) (q + 1) (acc ++ [c])) := HE.out.trans (by rw [show n - q = n - (q + 1) + 1 by omega]; simp only [linesGo]; rw [hcg])
          go_upto_region 10 with (go_at_call 245; refine (chgR_calls _ Y S LB A ps full hq q HYr.out HSr.out hps hSl ⟨by omega, by omega⟩).mono ?_; rintro e w5 ⟨hd5, hb5⟩; rw [hcg] at hd5; have hd6 : e = .returned (.tuple #[.agg (changeCs c), .nilIface]) := hd5; subst hd6)
          have hs5 := hb5.size
          have hb6 : Below wr.heap.size wr (w5.alloc (.cells (changeCs c) 111)) := hb5.alloc hs5 _
          have hr6 : rng (w5.alloc (.cells (changeCs c) 111)) w5.heap.size 0 14 = some (changeCs c) := rng_whole (heap_alloc_at _ _)
          have hl6 : w5.heap.size < (w5.alloc (.cells (changeCs c) 111)).heap.size := by simp
          clear hd5 hb5 hs5 c4 c1 hl0
          generalize (World.alloc w5 _) = W6 at *
          have HB6 := hide (HB.out.trans (hb6.mono hsr))
          have HO6 := hide (HO.out.below hb6 (Nat.le_refl _))
          have HX6 := hide ((hb6.block _ (blk_lt HX.out)).trans HX.out)
          have hz6 := HB6.out.size
          clear hb6
          go_wp2_with (at_builtin; refine wpList_app1 (α := Change) rfl _ _ 57 rfl w.heap.size 111 changeCs Tryz.underlying57 Tryz.info111 rfl (by decide) changeCs_size changeCs_one _ acc rfl (OwnR.below HO6.out ((Below.refl _ _).alloc (Nat.le_refl _) _) (Nat.le_refl _)) _ rfl c (rng_whole (heap_alloc_at _ _)) (by omega) (by unfold maxLen; omega) (by simp only [World.size_alloc]; omega) ?_; intro v9 w9 hown9 hsame9 hbel9 hat9)
          go_roundg (n - (q + 1))
          case measure => omega
          case rel => exact ⟨q + 1, acc ++ [c], by omega, rfl, by go_num, by simp; omega, (HB6.out.alloc hz6 _).trans hbel9, hown9, (hsame9 _ ⟨by have := blk_lt HX6.out; simp only [World.size_alloc]; omega, HNE.out⟩).trans ((Below.heap_alloc _ _ _ (blk_lt HX6.out)).trans HX6.out), HF, hat9.elim (fun h => by show _ ≠ _; rw [h]; exact HNE.out) (fun h => by show _ ≠ _; rw [h]; intro e; injection e with e; have h6 := blk_lt HX6.out; simp only [World.size_alloc] at e; omega)⟩
      · have HF : Hid (R = some acc) := HE.out.trans (by rw [show n - q = 0 by omega]; rfl)
        go_wp2
        go_ret2
        rw [HF.out]
        exact ⟨_, rfl, HO.out, HB.out⟩

end Go.Proofs.Qxb6500666aGreatDoor
