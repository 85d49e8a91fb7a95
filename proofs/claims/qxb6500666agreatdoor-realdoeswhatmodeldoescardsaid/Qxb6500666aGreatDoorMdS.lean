/- The model's Status. -/
import Derived.Test.Qxb6500666aGreatDoorMdR
namespace Go.Proofs.Qxb6500666aGreatDoor
open Go.RowKit
/-- The counts. -/
def mStat (m : Mod) : Stat := ⟨m.au.length, m.fs.length, cumOf m.fs, (m.au.getLast?.map (fun e => e.req.now)).getD 0⟩
section
variable (ρ : Operand → Value) (dst : Option Tmp) (x y : Operand) (ty : TypeId) (pos : String) (after : Array Edge) (guard : Option (Nat × Bool))
def bdSt2S (a b : Value) : Sem Value := Instr.build 65 #[(0, a), (1, b)]
theorem exec_bdSt2 : execOp ρ { dst, op := .build 65 #[(0, x), (1, y)], type := ty, pos, after, guard } = (do pure (.value (← bdSt2S (ρ x) (ρ y)))) := by simp [execOp, bdSt2S]
end
theorem run_bdSt2 (w : World) (a b : Int) : (bdSt2S (.int .u32 a) (.int .u32 b)).run Tryz.prog w = .ok (.agg (statCs ⟨a, b, 0, 0⟩)) w := by kernel_rfl
theorem stM_ones (s : Stat) : ones (statCs s) 4 = true := rfl
theorem stM_size (s : Stat) : (statCs s).size = 4 := rfl
theorem cumOf_take {fs : List File} {q : Nat} (h : q < fs.length) : cumOf (fs.take (q + 1)) = if fs[q].kind = 67 then fs[q].seq else cumOf (fs.take q) := by
  rw [List.take_succ_eq_append_getElem h, cumOf_snoc]
attribute [local go_sem] ext_const Ext.cell Ext.frozen Ext.rng Ext.whole
attribute [local go_sem ↓] exec_ldFile exec_stFile exec_ldStat exec_stStat exec_bdSt2
attribute [local go_sem] run_ldFile run_stFile run_ldStat run_stStat run_bdSt2 stM_ones stM_size fileCs_size fileCs_ones fileCs_all file_ones zfCs_size whole_alloc_lt whole_alloc_at whole_drew setRow_alloc_at setRow_alloc_lt setRow_drew rng_alloc_lt rng_alloc_at rng_drew rng_drewN

set_option maxRecDepth 100000 in
set_option maxHeartbeats 8000000 in
theorem mStat_calls (w : World) (M : Nat) (ok : Nat → Prop) (v : MV) (m : Mod) (h : MAt w M ok v m) (hl : m.fs.length ≤ 100000000) (hla : m.au.length ≤ 100000000) :
    Calls Tryz.prog 23 #[.pointer (some ⟨M, 0, none⟩)] w fun e w' => e = .returned (.agg (statCs (mStat m))) ∧ Below w.heap.size w w' := by
  obtain ⟨R, hR⟩ : ∃ R, R = mStat m := ⟨_, rfl⟩
  rw [← hR]
  have HR := hide hR
  obtain ⟨zs, hz1, hz2, hz3⟩ := h.inn.au
  obtain ⟨zf, hf1, hf2, hf3⟩ := h.inn.fs
  obtain ⟨a, cap, b, off, hv, hl1, hm, hr, ha, hc⟩ := RArr.lt hz1
  obtain ⟨af, capf, bf, offf, hvf, hlf, hmf, hrf, haf, hcf⟩ := RArr.lt hf1
  obtain ⟨n, hn⟩ : ∃ n, n = zs.length := ⟨_, rfl⟩
  obtain ⟨k, hk⟩ : ∃ k, k = zf.length := ⟨_, rfl⟩
  have han : m.au.length = n := by rw [← hz3, List.length_map, hn]
  have hfn : m.fs.length = k := by rw [← hf2, List.length_map, hk]
  rw [← hn] at ha hv
  rw [← hk] at haf hvf
  have Hn := hide hn
  have Hk := hide hk
  have HAN := hide han
  have HFN := hide hfn
  have HZ3 := hide hz3
  have HF2 := hide hf2
  have ca : w.cell? ⟨M, 9, none⟩ = some (.slice a n cap) := by rw [← hv]; exact cells_all h.top 9
  have cf : w.cell? ⟨M, 10, none⟩ = some (.slice af k capf) := by rw [← hvf]; exact cells_all h.top 10
  have zM := blk_lt h.top
  have hia := run_indexAt_arr (P := Tryz.prog) (n := n) (cap := cap) Tryz.underlying42 Tryz.size67_z (fun h => (ha h).1)
  have hif := run_indexAt_arr (P := Tryz.prog) (n := k) (cap := capf) Tryz.underlying43 Tryz.size59 (fun h => (haf h).1)
  have HBA : Hid (0 < n → b < w.heap.size) := fun h => (ha h).2.2
  have HBF : Hid (0 < k → bf < w.heap.size) := fun h => (haf h).2.2
  have HCA := hide hc
  have HCF := hide hcf
  have hnb : n ≤ 100000000 := by omega
  have hkb : k ≤ 100000000 := by omega
  have hm1 : (n : Int) % 4294967296 = n := by omega
  have hm2 : (k : Int) % 4294967296 = k := by omega
  clear ha hc hn hm hl h hR hv hz1 hz2 hz3 hf1 hf2 hf3 hvf hlf hmf hrf haf hcf hk han hfn hla hl1 hr
  go_enter Tryz.func23, Tryz.ntmps23
  go_upto_region 1 with fail
  have hb1 : Below w.heap.size w (w.alloc (.cells #[.int .u32 0, .int .u32 0, .int .u32 0, .int .i64 0] 65)) := (Below.refl _ _).alloc (Nat.le_refl _) _
  have hk1 : (w.alloc (.cells #[.int .u32 0, .int .u32 0, .int .u32 0, .int .i64 0] 65)).heap[w.heap.size]? = some (.cells (statCs ⟨0, 0, 0, 0⟩) 65 (0, 0)) := heap_alloc_at _ _
  generalize w.alloc (.cells #[.int .u32 0, .int .u32 0, .int .u32 0, .int .i64 0] 65) = W1 at *
  have ca1 : W1.cell? ⟨M, 9, none⟩ = some (.slice a n cap) := (hb1.cell (p := ⟨M, 9, none⟩) zM).trans ca
  have cf1 : W1.cell? ⟨M, 10, none⟩ = some (.slice af k capf) := (hb1.cell (p := ⟨M, 10, none⟩) zM).trans cf
  have zM1 : M < W1.heap.size := Nat.lt_of_lt_of_le zM hb1.size
  have HB1 := hide hb1
  have HK1 := hide hk1
  have zG := blk_lt hk1
  have hz1 := hb1.size
  clear hb1 hk1 ca cf
  obtain ⟨G, hG⟩ : ∃ G, w.heap.size = G := ⟨_, rfl⟩
  rw [hG] at HK1 HB1 zG hz1 HBA HBF zM ⊢
  have HG := hide hG
  clear hG
  go_cut [3] (fun pv W => ∃ S, pv = .pointer (some ⟨S, 0, none⟩) ∧ Hid (W1.heap.size ≤ S) ∧ Hid (W.heap[S]? = some (.cells (statCs ⟨n, k, 0, 0⟩) 65 (0, 0))) ∧ Hid (Below W1.heap.size W1 W))
  case first =>
    as_aux_lemma =>
      refine wp_region_mixT (W1.heap.size) [3, 9] (by kernel_rfl) ?_
      refine mixT_slots [0, 1, 2, 6, 7, 8] (fuel := 9) rfl (by kernel_rfl) (by kernel_rfl) (fun d _ _ _ _ h => by cases d <;> exact h) ?_
      simp only [opersAt, List.getElem?_toArray, List.getElem?_cons_zero, List.getElem?_cons_succ]
      repeat (go_big_quiet_step (fail))
      refine wpQuiet_nil ?_
      refine mixT_reads [3, 9] (fuel := 7) rfl (by kernel_rfl) (by decide) (by kernel_rfl) (fun d _ _ _ _ h => by cases d <;> exact h) (ext_drew _ _) ?_
      simp only [opersAt, List.getElem?_toArray, List.getElem?_cons_zero, List.getElem?_cons_succ]
      repeat (go_big_quiet_step (fail))
      refine wpQuiet_nil ?_
      refine mixT_slots [4, 5, 10, 11, 12] (fuel := 2) rfl (by kernel_rfl) (by kernel_rfl) (fun d _ _ _ _ h => by cases d <;> exact h) ?_
      simp only [opersAt, List.getElem?_toArray, List.getElem?_cons_zero, List.getElem?_cons_succ]
      repeat (go_big_quiet_step (fail))
      refine wpQuiet_nil ?_
      refine mixT_one (k := 13) (by kernel_rfl) rfl ?_
      go_wp2
      have HC1 : Hid (Below W1.heap.size W1 (W1.alloc (.cells #[.int .u32 0, .int .u32 0, .int .u32 0, .int .i64 0] 65)).drew) := ((Below.refl _ _).alloc (Nat.le_refl _) _).drew
      have HF1 : Hid ((W1.alloc (.cells #[.int .u32 0, .int .u32 0, .int .u32 0, .int .i64 0] 65)).drew.heap[W1.heap.size]? = some (.cells (statCs ⟨0, 0, 0, 0⟩) 65 (0, 0))) := heap_alloc_at W1 _
      refine ⟨Or.inr (by intros; exact ⟨⟨_, HC1.out⟩, rfl⟩), ?_⟩
      generalize (W1.alloc (.cells #[.int .u32 0, .int .u32 0, .int .u32 0, .int .i64 0] 65)).drew = A1 at *
      have hwh : whole A1 W1.heap.size 4 = true := by unfold whole; rw [HF1.out]; rfl
      have hzS := blk_lt HF1.out
      refine mixT_one (k := 14) (by kernel_rfl) rfl ?_
      go_wp2
      refine ⟨Or.inl (by kernel_rfl), ?_⟩
      refine mixT_nil (by kernel_rfl) ?_
      go_wp2
      go_meet
      case rel => exact ⟨W1.heap.size, rfl, Nat.le_refl _, heap_setRow_at HF1.out, HC1.out.trans ⟨rfl, rfl, rfl, by simp, fun q hq => setRow_other _ _ _ _ (by omega)⟩⟩
  case rest =>
  obtain ⟨S, rfl, HLS, HKS, HBS⟩ := hcut
  have hS := HLS.out
  have cf2 : wc.cell? ⟨M, 10, none⟩ = some (.slice af k capf) := (HBS.out.cell (p := ⟨M, 10, none⟩) zM1).trans cf1
  have zMc : M < wc.heap.size := Nat.lt_of_lt_of_le zM1 HBS.out.size
  go_upto_region 3 with fail
  clear cf2 zMc cf1
  have HK0 : Hid (wc.heap[S]? = some (.cells (statCs ⟨n, k, cumOf (m.fs.take 0), 0⟩) 65 (0, 0))) := HKS
  go_loopg [25] k (fun gk j W => ∃ q : Nat, q ≤ k ∧ gk = k - q ∧ j = .int .i64 q ∧ Hid (W.heap[S]? = some (.cells (statCs ⟨n, k, cumOf (m.fs.take q), 0⟩) 65 (0, 0))) ∧ Hid (Below W1.heap.size W1 W))
  case atStart => exact ⟨0, by omega, by omega, rfl, HK0, HBS⟩
  clear HK0 HKS HBS
  case round =>
    obtain ⟨q, hq, rfl, rfl, HKS, HBR⟩ := hrel
    have hsr := HBR.out.size
    have HWr : Hid (Below G w wr) := HB1.out.trans (HBR.out.mono hz1)
    have zS := blk_lt HKS.out
    by_cases hlt : q < k
    · have hqz : q < zf.length := by rw [← Hk.out]; exact hlt
      have hqs : q < m.fs.length := by rw [HFN.out]; exact hlt
      have hbb := HBF.out (by omega)
      have c0 := HCF.out q hqz
      rw [← rng_of_block (HWr.out.block _ hbb)] at c0
      have hbw : bf < wr.heap.size := by have := HWr.out.size; omega
      have HTK := hide (cumOf_take hqs)
      have hzq : zf[q].1 = m.fs[q] := by
        have := HF2.out
        subst_vars
        simp [← this]
      rw [← hzq] at HTK
      generalize zf[q] = z at *
      obtain ⟨f, a3, n3, c3⟩ := z
      have rz : rng wr bf (offf + q * 5) 5 = some (fileCs f.kind f.seq f.issued f.base a3 n3 c3) := c0
      clear c0 hzq
      go_upto_region 5 with fail
      have hb2 : Below wr.heap.size wr (wr.alloc (.cells (fileCs f.kind f.seq f.issued f.base a3 n3 c3) 59)) := (Below.refl _ _).alloc (Nat.le_refl _) _
      have hkx : (wr.alloc (.cells (fileCs f.kind f.seq f.issued f.base a3 n3 c3) 59)).heap[wr.heap.size]? = some (.cells (fileCs f.kind f.seq f.issued f.base a3 n3 c3) 59 (0, 0)) := heap_alloc_at _ _
      generalize wr.alloc (.cells (fileCs f.kind f.seq f.issued f.base a3 n3 c3) 59) = V at *
      have HV : Hid (Below W1.heap.size W1 V) := HBR.out.trans (hb2.mono hsr)
      have HKV : Hid (V.heap[S]? = some (.cells (statCs ⟨n, k, cumOf (m.fs.take q), 0⟩) 65 (0, 0))) := (hb2.block _ zS).trans HKS.out
      have d0 : V.cell? ⟨wr.heap.size, 0, none⟩ = some (.int .u8 f.kind) := cells_all hkx 0
      have d1 : V.cell? ⟨wr.heap.size, 1, none⟩ = some (.int .u32 f.seq) := cells_all hkx 1
      have zx := blk_lt hkx
      have s2 : V.cell? ⟨S, 2, none⟩ = some (.int .u32 (cumOf (m.fs.take q))) := cells_all HKV.out 2
      have sf : V.frozen? ⟨S, 2, none⟩ = false := by simp [World.frozen?, HKV.out]
      have zS2 := blk_lt HKV.out
      clear hb2 hkx HBR HKS rz hbw
      generalize wr.heap.size = D at *
      cases t67 : (f.kind == 67) with
      | true =>
        have HF : Hid (cumOf (m.fs.take (q + 1)) = f.seq) := HTK.out.trans (if_pos (by simpa using t67))
        clear HTK
        go_wp2
        go_roundg (k - (q + 1))
        case measure => omega
        case rel => exact ⟨q + 1, by omega, rfl, by go_num, by show _ = _; rw [HF.out]; exact heap_set3 (j := 2) (v := .int .u32 f.seq) HKV.out, HV.out.setCell (p := ⟨S, 2, none⟩) hS _⟩
      | false =>
        have HF : Hid (cumOf (m.fs.take (q + 1)) = cumOf (m.fs.take q)) := HTK.out.trans (if_neg (by simpa using t67))
        clear HTK
        go_wp2
        go_roundg (k - (q + 1))
        case measure => omega
        case rel => exact ⟨q + 1, by omega, rfl, by go_num, by show _ = _; rw [HF.out]; exact HKV.out, HV⟩
    · obtain rfl : q = k := by omega
      rw [List.take_of_length_le (by rw [HFN.out]; omega)] at HKS
      have ca2 : wr.cell? ⟨M, 9, none⟩ = some (.slice a n cap) := (HBR.out.cell (p := ⟨M, 9, none⟩) zM1).trans ca1
      have zMr : M < wr.heap.size := by omega
      have HKG : Hid (wr.heap[G]? = some (.cells (statCs ⟨0, 0, 0, 0⟩) 65 (0, 0))) := (HBR.out.block _ zG).trans HK1.out
      have hwg : whole wr G 4 = true := by unfold whole; rw [HKG.out]; rfl
      have hGS : G ≠ S := by omega
      by_cases h0 : 0 < n
      · have hlast : n - 1 < zs.length := by rw [← Hn.out]; omega
        have hbb := HBA.out h0
        have c0 := HCA.out (n - 1) hlast
        rw [← rng_of_block (HWr.out.block _ hbb)] at c0
        have HLA : Hid (R = ⟨n, q, cumOf m.fs, zs[n - 1].1.req.now⟩) := HR.out.trans (by
          unfold mStat
          rw [HAN.out, HFN.out, ← HZ3.out, List.getLast?_map, List.getLast?_eq_getElem?, ← Hn.out, List.getElem?_eq_getElem hlast]
          rfl)
        generalize zs[n - 1] = z at *
        obtain ⟨x, la, ln, lc⟩ := z
        have cx : wr.cell? ⟨b, off + (n - 1) * 20 + 5, none⟩ = some (.int .i64 x.req.now) := (rng_cell c0).2 5 (by decide)
        have zb : b < wr.heap.size := by have := HWr.out.size; omega
        have hix : ∀ W : World, (Instr.indexAt 42 (.slice a n cap) (.int .i64 ((n : Int) - 1))).run Tryz.prog W = .ok (.pointer (some ⟨b, off + (n - 1) * 20, none⟩)) W := fun W => by
          have := hia W ((n : Int) - 1) (by omega) (by omega)
          rwa [show ((n : Int) - 1).toNat = n - 1 by omega] at this
        have s3 : wr.cell? ⟨S, 3, none⟩ = some (.int .i64 0) := cells_all HKS.out 3
        have sf : wr.frozen? ⟨S, 3, none⟩ = false := by simp [World.frozen?, HKS.out]
        have t0 : decide ((0 : Int) < n) = true := by simpa using h0
        clear c0
        go_upto_region 11 with fail
        have HS9 : Hid ((wr.setCell ⟨S, 3, none⟩ (.int .i64 x.req.now)).heap[S]? = some (.cells (statCs ⟨n, q, cumOf m.fs, x.req.now⟩) 65 (0, 0))) := heap_set3 (j := 3) (v := .int .i64 x.req.now) HKS.out
        have HG9 : Hid ((wr.setCell ⟨S, 3, none⟩ (.int .i64 x.req.now)).heap[G]? = some (.cells (statCs ⟨0, 0, 0, 0⟩) 65 (0, 0))) := (Below.heap_setCell _ _ _ _ hGS).trans HKG.out
        have HB9 : Hid (Below G w (wr.setCell ⟨S, 3, none⟩ (.int .i64 x.req.now))) := HWr.out.setCell (p := ⟨S, 3, none⟩) (by show G ≤ S; omega) _
        generalize wr.setCell ⟨S, 3, none⟩ (.int .i64 x.req.now) = U at *
        have rS : rng U S 0 4 = some (statCs ⟨n, q, cumOf m.fs, x.req.now⟩) := rng_whole HS9.out
        have hwu : whole U G 4 = true := by unfold whole; rw [HG9.out]; rfl
        have zSU := blk_lt HS9.out
        have HFIN := hide (heap_setRow_at (ds := statCs ⟨n, q, cumOf m.fs, x.req.now⟩) HG9.out)
        go_wp2
        refine bodyPost_ret (results_cell1 Tryz.results23 _ _ G _ _ _ _ rfl HFIN.out Tryz.underlying65 rfl (by kernel_rfl)) rfl ?_
        refine ⟨by rw [HLA.out], ?_⟩
        rw [HG.out]
        exact HB9.out.trans ⟨rfl, rfl, rfl, by simp, fun k hk => setRow_other _ _ _ _ (by omega)⟩
      · obtain rfl : n = 0 := by omega
        have HLA : Hid (R = ⟨0, q, cumOf m.fs, 0⟩) := HR.out.trans (by
          unfold mStat
          have h9 : m.au = [] := List.length_eq_zero_iff.1 HAN.out
          rw [h9, HFN.out]
          rfl)
        have rS : rng wr S 0 4 = some (statCs ⟨((0 : Nat) : Int), q, cumOf m.fs, 0⟩) := rng_whole HKS.out
        have HFIN := hide (heap_setRow_at (ds := statCs ⟨((0 : Nat) : Int), q, cumOf m.fs, 0⟩) HKG.out)
        go_wp2
        refine bodyPost_ret (results_cell1 Tryz.results23 _ _ G _ _ _ _ rfl HFIN.out Tryz.underlying65 rfl (by kernel_rfl)) rfl ?_
        refine ⟨by rw [HLA.out]; rfl, ?_⟩
        rw [HG.out]
        exact HWr.out.trans ⟨rfl, rfl, rfl, by simp, fun k hk => setRow_other _ _ _ _ (by omega)⟩
end Go.Proofs.Qxb6500666aGreatDoor
