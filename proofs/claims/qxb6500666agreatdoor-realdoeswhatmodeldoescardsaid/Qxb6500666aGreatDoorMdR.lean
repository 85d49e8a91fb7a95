/- The model's rows, issued. -/
import Derived.Test.Qxb6500666aGreatDoorMdM
namespace Go.Proofs.Qxb6500666aGreatDoor
open Go.RowKit
attribute [local go_sem] ext_const Ext.cell Ext.frozen Ext.rng Ext.whole
attribute [local go_sem ↓] exec_ldRow exec_stRow exec_bsRow exec_ldChange exec_stChange exec_ldFile exec_stFile exec_bdFile0
attribute [local go_sem] run_ldRow run_stRow run_bsRow rowCs_size rowCs_ones rowCs_all run_ldChange run_stChange changeCs_size changeCs_ones changeCs_row changeCs_all run_ldFile run_stFile run_bdFile0 fileCs_size fileCs_ones fileCs_all file_ones zfCs_size whole_alloc_lt whole_alloc_at whole_drew setRow_alloc_at setRow_alloc_lt setRow_drew rng_alloc_lt rng_alloc_at rng_drew rng_drewN

set_option maxRecDepth 100000 in
set_option maxHeartbeats 4000000 in
theorem mrows_calls (w : World) (ok : Nat → Prop) (k s i bb : Int) (a : Option Addr) (n cap : Nat) (cs : List Change) (h : ChangesAt w ok (.slice a n cap) cs) (hlen : n ≤ 10000000) :
    Calls Tryz.prog 185 #[.agg (fileCs k s i bb a n cap)] w fun e w' => ∃ v, e = .returned v ∧ OwnR w' w.heap.size 109 13 rowCs v (cs.map (·.row)) ∧ Below w.heap.size w w' := by
  obtain ⟨a', cap', b, off, hv, hl, hm, hr, ha, hc⟩ := RArr.lt h
  simp only [Value.slice.injEq] at hv
  obtain ⟨rfl, hn, rfl⟩ := hv
  have Hn : Hid (n = cs.length) := hn
  rw [← hn] at hl hr ha
  have hi := run_indexAt_arr (P := Tryz.prog) (n := n) (cap := cap) Tryz.underlying57 Tryz.size111 (fun h => (ha h).1)
  have HB : Hid (0 < n → b < w.heap.size) := fun h => (ha h).2.2
  have HC := hide hc
  clear ha hc hn hm hl h
  go_enter Tryz.func185, Tryz.ntmps185
  go_upto_region 1 with fail
  have hb1 : Below w.heap.size w (w.alloc (.cells (fileCs k s i bb a n cap) 59)) := (Below.refl _ _).alloc (Nat.le_refl _) _
  have hk1 : (w.alloc (.cells (fileCs k s i bb a n cap) 59)).heap[w.heap.size]? = some (.cells (fileCs k s i bb a n cap) 59 (0, 0)) := heap_alloc_at _ _
  generalize w.alloc (.cells (fileCs k s i bb a n cap) 59) = W1 at *
  have f4 : W1.cell? ⟨w.heap.size, 4, none⟩ = some (.slice a n cap) := cells_all hk1 4
  have z1 := blk_lt hk1
  have HB1 := hide hb1
  have HO0 : Hid (OwnR W1 w.heap.size 109 13 rowCs (.slice none 0 0) ((cs.take 0).map (·.row))) := OwnR.nil _ _ _ _ _
  clear hb1 hk1
  go_upto_region 3 with fail
  clear f4
  go_loopg [3, 9] n (fun gk ov j W => ∃ (q : Nat) (oa : Option Addr) (oc : Nat), q ≤ n ∧ gk = n - q ∧ ov = .slice oa q oc ∧ j = .int .i64 q ∧ Hid (OwnR W w.heap.size 109 13 rowCs (.slice oa q oc) ((cs.take q).map (·.row))) ∧ Hid (Below w.heap.size w W))
  case atStart => exact ⟨0, none, 0, by omega, by omega, rfl, rfl, HO0, HB1⟩
  clear HO0 HB1
  case round =>
    obtain ⟨q, oa, oc, hq, rfl, rfl, rfl, HOW, HBR⟩ := hrel
    have hsr := HBR.out.size
    by_cases hlt : q < n
    · have hqs : q < cs.length := by rw [← Hn.out]; exact hlt
      have hbb := HB.out (by omega)
      have c0 := HC.out q hqs
      rw [← rng_of_block (HBR.out.block _ hbb)] at c0
      have hbw : b < wr.heap.size := by omega
      have HTK : Hid ((cs.take (q + 1)).map (·.row) = (cs.take q).map (·.row) ++ [cs[q].row]) := by show _ = _; rw [List.take_succ_eq_append_getElem hqs, List.map_append]; rfl
      have HLn : Hid (((cs.take q).map (·.row)).length = q) := by show _ = _; rw [List.length_map, List.length_take]; omega
      generalize cs[q] = c at *
      go_upto_region 5 with fail
      have hb2 : Below wr.heap.size wr (wr.alloc (.cells (changeCs c) 111)) := (Below.refl _ _).alloc (Nat.le_refl _) _
      have hkx : (wr.alloc (.cells (changeCs c) 111)).heap[wr.heap.size]? = some (.cells (changeCs c) 111 (0, 0)) := heap_alloc_at _ _
      generalize wr.alloc (.cells (changeCs c) 111) = V at *
      have HV : Hid (Below w.heap.size w V) := HBR.out.trans (hb2.mono hsr)
      have HOV := hide (HOW.out.below hb2 (Nat.le_refl _))
      have rr : rng V wr.heap.size 1 13 = some (rowCs c.row) := by
        have := rng_sub (o := 1) (m := 13) (rng_whole hkx) (by rw [changeCs_size]; decide)
        rw [changeCs_row] at this
        simpa using this
      have zx := blk_lt hkx
      have hzV := HV.out.size
      clear c0 hbw hb2 hkx HBR HOW
      generalize wr.heap.size = D at *
      go_wp2_with (at_builtin; refine wpList_app1 (α := Row) rfl _ _ 150 rfl w.heap.size 109 rowCs Tryz.underlying150 Tryz.info109 rfl (by decide) rowCs_size rowCs_one (.slice oa q oc) ((cs.take q).map (·.row)) rfl (OwnR.below HOV.out ((Below.refl _ _).alloc (Nat.le_refl _) _) (Nat.le_refl _)) _ rfl c.row (rng_whole (heap_alloc_at _ _)) (by rw [HLn.out]; omega) (by rw [HLn.out]; unfold maxLen; omega) (by simp only [World.size_alloc]; omega) ?_; intro v8 w8 hown8 hsame8 hbel8 hat8; obtain ⟨a8, c8, hv8⟩ := hown8.form; rw [List.length_append, HLn.out, List.length_singleton] at hv8; subst hv8)
      go_roundg (n - (q + 1))
      case measure => omega
      case rel => exact ⟨q + 1, a8, c8, by omega, rfl, rfl, by go_num, by rw [HTK.out]; exact hown8, (HV.out.alloc hzV _).trans hbel8⟩
    · obtain rfl : q = n := by omega
      rw [List.take_of_length_le (by rw [← Hn.out]; omega)] at HOW
      go_wp2
      go_ret
      exact ⟨_, rfl, HOW.out, HBR.out⟩
/-- File number seq. -/
def mIss (m : Mod) (seq : Int) : Option File := if seq = 0 ∨ (m.fs.length : Int) < seq then none else m.fs[(seq - 1).toNat]?
/-- What issued answers. -/
def IssP (w' : World) (ok : Nat → Prop) (R : Option File) (e : Ending) : Prop := match R with
  | none => e = .returned (.tuple #[.agg zFile, .bool false])
  | some f => ∃ a n c, e = .returned (.tuple #[.agg (fileCs f.kind f.seq f.issued f.base a n c), .bool true]) ∧ ChangesAt w' ok (.slice a n c) f.changes

set_option maxRecDepth 100000 in
set_option maxHeartbeats 4000000 in
theorem mIss_calls (w : World) (M : Nat) (ok : Nat → Prop) (v : MV) (m : Mod) (seq : Int) (h : MAt w M ok v m) (hs : U32 seq) (hl : m.fs.length ≤ 100000000) :
    Calls Tryz.prog 83 #[.pointer (some ⟨M, 0, none⟩), .int .u32 seq] w fun e w' => IssP w' ok (mIss m seq) e ∧ Below w.heap.size w w' := by
  obtain ⟨R, hR⟩ : ∃ R, R = mIss m seq := ⟨_, rfl⟩
  rw [← hR]
  have HR := hide hR
  obtain ⟨zf, hz1, hz2, hz3⟩ := h.inn.fs
  have HZ3 := hide hz3
  obtain ⟨a, cap, b, off, hv, hl1, hm, hr, ha, hc⟩ := RArr.lt hz1
  obtain ⟨n, hn⟩ : ∃ n, n = zf.length := ⟨_, rfl⟩
  have hfl : m.fs.length = n := by rw [← hz2, List.length_map, hn]
  rw [← hn] at hl1 hr ha hv
  have Hn := hide hn
  have HFL := hide hfl
  have HZ2 := hide hz2
  have cu : w.cell? ⟨M, 10, none⟩ = some (.slice a n cap) := by rw [← hv]; exact cells_all h.top 10
  have zM := blk_lt h.top
  have hi := run_indexAt_u32 (P := Tryz.prog) (n := n) (cap := cap) Tryz.underlying43 Tryz.size59 (fun h => (ha h).1)
  have HB : Hid (0 < n → b < w.heap.size) := fun h => (ha h).2.2
  have HC := hide hc
  have hs0 := hs.1
  have hs1 := hs.2
  have hnb : n ≤ 100000000 := by omega
  clear ha hc hn hm hl h hR hv hz1 hz2 hz3 hfl
  go_enter Tryz.func83, Tryz.ntmps83
  go_upto_region 1 with fail
  have hb1 : Below w.heap.size w (w.alloc (.cells #[.int .u8 0, .int .u32 0, .int .i64 0, .int .u32 0, .slice none 0 0] 59)) := (Below.refl _ _).alloc (Nat.le_refl _) _
  have hk1 : (w.alloc (.cells #[.int .u8 0, .int .u32 0, .int .i64 0, .int .u32 0, .slice none 0 0] 59)).heap[w.heap.size]? = some (.cells zFile 59 (0, 0)) := heap_alloc_at _ _
  generalize w.alloc (.cells #[.int .u8 0, .int .u32 0, .int .i64 0, .int .u32 0, .slice none 0 0] 59) = W1 at *
  have cu1 : W1.cell? ⟨M, 10, none⟩ = some (.slice a n cap) := (hb1.cell (p := ⟨M, 10, none⟩) zM).trans cu
  have zM1 : M < W1.heap.size := Nat.lt_of_lt_of_le zM hb1.size
  have hwz : whole W1 w.heap.size 5 = true := by unfold whole; rw [hk1]; rfl
  have HB1 := hide hb1
  have HK1 := hide hk1
  have hz1 := hb1.size
  clear hb1 hk1 cu
  have HNB : Hid (R = none → ∀ W', W' = W1.setRow w.heap.size (fileCs 0 0 0 0 none 0 0) → IssP W' ok R (.returned (.tuple #[.agg (fileCs 0 0 0 0 none 0 0), .bool false])) ∧ Below w.heap.size w W') := fun e W' hW => by
    rw [e, hW]
    exact ⟨rfl, HB1.out.trans ⟨rfl, rfl, rfl, by simp, fun k hk => setRow_other _ _ _ _ (by omega)⟩⟩
  have HF0 := hide (heap_setRow_at (ds := fileCs 0 0 0 0 none 0 0) HK1.out)
  cases t1 : (seq == 0) with
  | true =>
    have HE : Hid (R = none) := HR.out.trans (by unfold mIss; rw [if_pos (Or.inl (by simpa using t1))])
    go_wp2
    refine bodyPost_ret (results_cell_tmp Tryz.results83 _ _ w.heap.size _ _ _ _ rfl HF0.out Tryz.underlying59 rfl (by kernel_rfl)) rfl ?_
    exact HNB.out HE.out _ rfl
  | false =>
    have hne : seq ≠ 0 := by simpa using t1
    cases t2 : decide ((n : Int) < seq) with
    | true =>
      have HE : Hid (R = none) := HR.out.trans (by unfold mIss; rw [if_pos (Or.inr (by rw [HFL.out]; simpa using t2))])
      clear hne
      go_wp2
      refine bodyPost_ret (results_cell_tmp Tryz.results83 _ _ w.heap.size _ _ _ _ rfl HF0.out Tryz.underlying59 rfl (by kernel_rfl)) rfl ?_
      exact HNB.out HE.out _ rfl
    | false =>
      have hle : seq ≤ n := by simpa using t2
      obtain ⟨i, hi2⟩ : ∃ i : Nat, seq = (i : Int) + 1 := ⟨(seq - 1).toNat, by omega⟩
      have hin : i < n := by omega
      have hiz : i < zf.length := by rw [← Hn.out]; exact hin
      have HE : Hid (R = some zf[i].1) := HR.out.trans (by
        unfold mIss
        rw [if_neg (by rw [HFL.out]; omega), ← HZ2.out, show (seq - 1).toNat = i by omega, List.getElem?_map, List.getElem?_eq_getElem hiz]
        rfl)
      have hbb := HB.out (by omega)
      have c0 := HC.out i hiz
      rw [← rng_of_block (HB1.out.block _ hbb)] at c0
      have hch := HZ3.out _ (List.getElem_mem hiz)
      generalize zf[i] = z at *
      obtain ⟨f, a3, n3, c3⟩ := z
      have HCH := hide hch
      have hix : ∀ W, (Instr.indexAt 43 (.slice a n cap) (.int .u32 (seq - 1))).run Tryz.prog W = .ok (.pointer (some ⟨b, off + i * 5, none⟩)) W := fun W => by
        have h9 := hi W (seq - 1) (by omega) (by omega)
        rwa [show (seq - 1).toNat = i by omega] at h9
      have hsm : (seq - 1) % 4294967296 = seq - 1 := by omega
      have rz : rng W1 b (off + i * 5) 5 = some (fileCs f.kind f.seq f.issued f.base a3 n3 c3) := c0
      have zb : b < W1.heap.size := by omega
      have HFF := hide (heap_setRow_at (ds := fileCs f.kind f.seq f.issued f.base a3 n3 c3) HK1.out)
      clear hi c0 hne hch hi2
      go_wp2
      refine bodyPost_ret (results_cell_tmp Tryz.results83 _ _ w.heap.size _ _ _ _ rfl HFF.out Tryz.underlying59 rfl (by kernel_rfl)) rfl ?_
      rw [HE.out]
      have hbz : Below w.heap.size w (W1.setRow w.heap.size (fileCs f.kind f.seq f.issued f.base a3 n3 c3)) := HB1.out.trans ⟨rfl, rfl, rfl, by simp, fun k hk => setRow_other _ _ _ _ (by omega)⟩
      exact ⟨⟨a3, n3, c3, rfl, RArr.below HCH.out hbz⟩, hbz⟩
end Go.Proofs.Qxb6500666aGreatDoor
