/- The model's ReleasedBefore. -/
import Derived.Test.Qxb6500666aGreatDoorMdE
namespace Go.Proofs.Qxb6500666aGreatDoor
open Go.RowKit
/-- One line of an incremental file. -/
def mrlStep (rows : List Row) (c : Change) : List Row := rows.filter (fun r => ! sameK r c.row) ++ (if c.action = 87 then [] else [c.row])
def mrlFile (rows : List Row) (f : File) : List Row := if f.kind = 73 then f.changes.foldl mrlStep rows else rows
def mrl (fs : List File) (n : Nat) : List Row := (fs.take n).foldl mrlFile []
theorem mrlStep_len (rows : List Row) (c : Change) : (mrlStep rows c).length ≤ rows.length + 1 := by
  have := List.length_filter_le (fun r => ! sameK r c.row) rows
  unfold mrlStep
  rw [List.length_append]
  split <;> simp <;> omega
theorem filter_take {f : Row → Bool} {l : List Row} {q : Nat} (h : q < l.length) : (l.take (q + 1)).filter f = (l.take q).filter f ++ (if f l[q] then [l[q]] else []) := by
  rw [List.take_succ_eq_append_getElem h, List.filter_append]
  congr 1
  simp only [List.filter_cons, List.filter_nil]
theorem run_slToE {P : Program} {t e : TypeId} (ht : P.underlying t = some (.slice e)) {size : Nat} (hs : ∀ w, (sizeOf e).run P w = .ok size w) {a : Option Addr} {b off n cap : Nat} (ha : 0 < n → a = some ⟨b, off, none⟩) (hcap : n ≤ cap) (i : Nat) (hi : i ≤ n) :
    ∃ a' : Option Addr, (∀ w, (Instr.sliceAt t (.slice a n cap) none (some (.int .i64 (i : Int))) none).run P w = .ok (.slice a' i cap) w) ∧ (0 < i → a' = some ⟨b, off, none⟩) := by
  refine ⟨if cap = 0 then a else a.map (·.add (0 * size)), fun w => ?_, fun h => ?_⟩
  · have h2 : i ≤ cap := by omega
    simp [Instr.sliceAt, Instr.slice, run_underlying ht, hs, Instr.sliceBounds, Instr.sliceBound, asIntOf, h2]
  · rw [if_neg (by omega), ha (by omega)]
    simp [Addr.add_lit]
attribute [local go_sem] ext_const Ext.cell Ext.frozen Ext.rng Ext.whole
attribute [local go_sem ↓] exec_ldRow exec_stRow exec_bsRow exec_ldChange exec_stChange exec_ldFile exec_stFile
attribute [local go_sem] run_ldRow run_stRow run_bsRow rowCs_size rowCs_ones rowCs_all run_ldChange run_stChange changeCs_size changeCs_ones changeCs_row changeCs_all run_ldFile run_stFile fileCs_size fileCs_ones fileCs_all file_ones zfCs_size whole_alloc_lt whole_alloc_at whole_drew setRow_alloc_at setRow_alloc_lt setRow_drew rng_alloc_lt rng_alloc_at rng_drew rng_drewN

set_option maxRecDepth 100000 in
set_option maxHeartbeats 16000000 in
theorem mRel_calls (w : World) (M : Nat) (ok : Nat → Prop) (v : MV) (m : Mod) (cnt : Nat) (h : MAt w M ok v m) (hcn : cnt ≤ m.fs.length) (hl : m.fs.length ≤ 100000) (hcl : ∀ f ∈ m.fs, f.changes.length ≤ 65536) (hfin : (mrl m.fs cnt).length ≤ 10000000) :
    Calls Tryz.prog 234 #[.pointer (some ⟨M, 0, none⟩), .int .i64 cnt] w fun e w' => ∃ v, e = .returned v ∧ OwnR w' w.heap.size 109 13 rowCs v (ordK (mrl m.fs cnt)) ∧ Below w.heap.size w w' := by
  obtain ⟨R, hR⟩ : ∃ R, R = mrl m.fs cnt := ⟨_, rfl⟩
  rw [← hR] at hfin ⊢
  have HR := hide hR
  have HFIN := hide hfin
  obtain ⟨zf, hf1, hf2, hf3⟩ := h.inn.fs
  have HF3 : Hid (∀ z ∈ zf, ∀ W, Below w.heap.size w W → ChangesAt W (fun b => ok b ∧ b < w.heap.size) (sv z.2) z.1.changes) := fun z hz W hW => RArr.mono (hf3 z hz).lt (fun b q => hW.block b q.2) (fun _ q => q)
  obtain ⟨af, capf, bf, offf, hvf, hlf, hmf, hrf, haf, hcf⟩ := RArr.lt hf1
  obtain ⟨k, hk⟩ : ∃ k, k = zf.length := ⟨_, rfl⟩
  have hfn : m.fs.length = k := by rw [← hf2, List.length_map, hk]
  rw [← hk] at haf hvf hlf
  have Hk := hide hk
  have HFN := hide hfn
  have HF2 := hide hf2
  have HCL := hide hcl
  have cf : w.cell? ⟨M, 10, none⟩ = some (.slice af k capf) := by rw [← hvf]; exact cells_all h.top 10
  have zM := blk_lt h.top
  obtain ⟨aS, hsl, has⟩ := run_slToE (P := Tryz.prog) Tryz.underlying43 Tryz.size59 (a := af) (b := bf) (off := offf) (n := k) (cap := capf) (fun h => (haf h).1) hlf cnt (by omega)
  have hif := run_indexAt_arr (P := Tryz.prog) (n := cnt) (cap := capf) (a := aS) (b := bf) (off := offf) Tryz.underlying43 Tryz.size59 has
  have HBF : Hid (0 < k → bf < w.heap.size) := fun h => (haf h).2.2
  have HCF := hide hcf
  have hkb : k ≤ 100000 := by omega
  have hck : cnt ≤ k := by omega
  clear h hl hR hfin hf1 hf2 hf3 hvf hmf hrf haf hcf hk hfn hcl hcn has hlf
  have HO0 : Hid (OwnR w w.heap.size 109 13 rowCs (.slice none 0 0) (mrl m.fs 0)) := OwnR.nil _ _ _ _ _
  have HB0 := hide (Below.refl w.heap.size w)
  go_enter Tryz.func234, Tryz.ntmps234
  go_upto_region 3 with fail
  clear cf hsl
  go_loopg [5, 20] cnt (fun gk ov j W => ∃ (q n : Nat) (oa : Option Addr) (oc : Nat), q ≤ cnt ∧ gk = cnt - q ∧ ov = .slice oa n oc ∧ j = .int .i64 q ∧ Hid (n = (mrl m.fs q).length) ∧ n ≤ 65536 * q ∧ Hid (OwnR W w.heap.size 109 13 rowCs (.slice oa n oc) (mrl m.fs q)) ∧ Hid (Below w.heap.size w W))
  case atStart => exact ⟨0, 0, none, 0, by omega, by omega, rfl, rfl, rfl, by omega, HO0, HB0⟩
  clear HO0 HB0
  case round =>
    obtain ⟨q, n, oa, oc, hq, rfl, rfl, rfl, HNN, hnb, HOW, HBR⟩ := hrel
    have hsr := HBR.out.size
    by_cases hlt : q < cnt
    · have hqk : q < k := by omega
      have hqz : q < zf.length := by rw [← Hk.out]; exact hqk
      have hqs : q < m.fs.length := by rw [HFN.out]; exact hqk
      have hbb := HBF.out (by omega)
      have c0 := HCF.out q hqz
      rw [← rng_of_block (HBR.out.block _ hbb)] at c0
      have hbw : bf < wr.heap.size := by omega
      have hzq : zf[q].1 = m.fs[q] := by
        have := HF2.out
        subst_vars
        simp [← this]
      have HTK : Hid (mrl m.fs (q + 1) = mrlFile (mrl m.fs q) zf[q].1) := by
        show _ = _
        rw [hzq, mrl, List.take_succ_eq_append_getElem hqs, List.foldl_append]
        rfl
      have HCQ := hide (HF3.out _ (List.getElem_mem hqz))
      have HCQL : Hid (zf[q].1.changes.length ≤ 65536) := by rw [hzq]; exact HCL.out _ (List.getElem_mem hqs)
      generalize zf[q] = z at *
      obtain ⟨f, a3, n3, c3⟩ := z
      have rz : rng wr bf (offf + q * 5) 5 = some (fileCs f.kind f.seq f.issued f.base a3 n3 c3) := c0
      clear c0 hzq
      go_upto_region 5 with fail
      have hb2 : Below wr.heap.size wr (wr.alloc (.cells (fileCs f.kind f.seq f.issued f.base a3 n3 c3) 59)) := (Below.refl _ _).alloc (Nat.le_refl _) _
      have hkx : (wr.alloc (.cells (fileCs f.kind f.seq f.issued f.base a3 n3 c3) 59)).heap[wr.heap.size]? = some (.cells (fileCs f.kind f.seq f.issued f.base a3 n3 c3) 59 (0, 0)) := heap_alloc_at _ _
      generalize wr.alloc (.cells (fileCs f.kind f.seq f.issued f.base a3 n3 c3) 59) = V at *
      have HV : Hid (Below w.heap.size w V) := HBR.out.trans (hb2.mono hsr)
      have HOV := hide (HOW.out.below hb2 (Nat.le_refl _))
      have d0 : V.cell? ⟨wr.heap.size, 0, none⟩ = some (.int .u8 f.kind) := cells_all hkx 0
      have d4 : V.cell? ⟨wr.heap.size, 4, none⟩ = some (.slice a3 n3 c3) := cells_all hkx 4
      have zx := blk_lt hkx
      clear hb2 hkx HBR HOW rz hbw hsr
      generalize wr.heap.size = D at *
      cases t73 : (f.kind != 73) with
      | true =>
        have HF : Hid (mrl m.fs (q + 1) = mrl m.fs q) := HTK.out.trans (by unfold mrlFile; rw [if_neg (by simpa using t73)])
        go_wp2
        go_roundg (cnt - (q + 1))
        case measure => omega
        case rel => exact ⟨q + 1, n, oa, oc, by omega, rfl, rfl, by go_num, by rw [HF.out]; exact HNN, by omega, by rw [HF.out]; exact HOV, HV⟩
      | false =>
      have HF : Hid (mrl m.fs (q + 1) = f.changes.foldl mrlStep (mrl m.fs q)) := HTK.out.trans (by unfold mrlFile; rw [if_pos (by simpa using t73)])
      clear HTK
      obtain ⟨a4, c4, b4, o4, hv4, hl4, hm4, hr4, ha4, hc4⟩ := RArr.lt (HCQ.out V HV.out)
      simp only [sv, Value.slice.injEq] at hv4
      obtain ⟨rfl, hn4, rfl⟩ := hv4
      have HN4 := hide hn4
      rw [← hn4] at ha4
      have hi4 := run_indexAt_arr (P := Tryz.prog) (n := n3) (cap := c3) Tryz.underlying57 Tryz.size111 (fun h => (ha4 h).1)
      have HB4 : Hid (0 < n3 → b4 < V.heap.size) := fun h => (ha4 h).2.2
      have HC4 := hide hc4
      have HCQL : Hid (f.changes.length ≤ 65536) := HCQL
      have hn4b : n3 ≤ 65536 := by have := HCQL.out; omega
      have HP0 : Hid (OwnR V w.heap.size 109 13 rowCs (.slice oa n oc) ((f.changes.take 0).foldl mrlStep (mrl m.fs q))) := HOV
      have HL0 : Hid (n = ((f.changes.take 0).foldl mrlStep (mrl m.fs q)).length) := HNN
      have HBV := hide (Below.refl V.heap.size V)
      clear hn4 hl4 hm4 hr4 ha4 hc4 HCQ HCQL HOV
      go_upto_region 7 with fail
      clear d0 d4
      go_loopg [5, 30] n3 (fun gk ov j W => ∃ (p n5 : Nat) (a5 : Option Addr) (c5 : Nat), p ≤ n3 ∧ gk = n3 - p ∧ ov = .slice a5 n5 c5 ∧ j = .int .i64 p ∧ n5 ≤ 65536 * q + p ∧ Hid (n5 = ((f.changes.take p).foldl mrlStep (mrl m.fs q)).length) ∧ Hid (OwnR W w.heap.size 109 13 rowCs (.slice a5 n5 c5) ((f.changes.take p).foldl mrlStep (mrl m.fs q))) ∧ Hid (Below V.heap.size V W))
      case atStart => exact ⟨0, n, oa, oc, by omega, by omega, rfl, rfl, by omega, HL0, HP0, HBV⟩
      clear HP0 HL0 HBV HNN hnb
      case round =>
        obtain ⟨p, n5, a5, c5, hp, rfl, rfl, rfl, hn5, HN5, HO5, HB5⟩ := hrel
        have hs5 := HB5.out.size
        have HW5 : Hid (Below w.heap.size w wr) := HV.out.trans (HB5.out.mono HV.out.size)
        by_cases hltp : p < n3
        · have hps : p < f.changes.length := by rw [← HN4.out]; exact hltp
          have hbb4 := HB4.out (by omega)
          have c0 := HC4.out p hps
          rw [← rng_of_block (HB5.out.block _ hbb4)] at c0
          have hbw : b4 < wr.heap.size := by omega
          have HTP : Hid ((f.changes.take (p + 1)).foldl mrlStep (mrl m.fs q) = mrlStep ((f.changes.take p).foldl mrlStep (mrl m.fs q)) f.changes[p]) := by
            show _ = _
            rw [List.take_succ_eq_append_getElem hps, List.foldl_append]
            rfl
          generalize f.changes[p] = c at *
          generalize (f.changes.take p).foldl mrlStep (mrl m.fs q) = rs at *
          go_upto_region 9 with fail
          have hb2 : Below wr.heap.size wr (wr.alloc (.cells (changeCs c) 111)) := (Below.refl _ _).alloc (Nat.le_refl _) _
          have hkx : (wr.alloc (.cells (changeCs c) 111)).heap[wr.heap.size]? = some (.cells (changeCs c) 111 (0, 0)) := heap_alloc_at _ _
          generalize wr.alloc (.cells (changeCs c) 111) = X at *
          have HX : Hid (Below V.heap.size V X) := HB5.out.trans (hb2.mono hs5)
          have HWX : Hid (Below w.heap.size w X) := HV.out.trans (HX.out.mono HV.out.size)
          have HOX := hide (HO5.out.below hb2 (Nat.le_refl _))
          have HKX := hide hkx
          have zX := blk_lt hkx
          obtain ⟨a6, c6, b6, o6, hv6, hl6, hm6, hr6, ha6, hc6⟩ := RArr.lt (HOX.out.rows rowCs_size (by decide) (by rw [← HN5.out]; omega))
          simp only [Value.slice.injEq] at hv6
          obtain ⟨rfl, -, rfl⟩ := hv6
          rw [← HN5.out] at ha6
          have hi6 := run_indexAt_arr (P := Tryz.prog) (n := n5) (cap := c5) Tryz.underlying150 Tryz.size109 (fun h => (ha6 h).1)
          have HB6 : Hid (0 < n5 → b6 < X.heap.size) := fun h => (ha6 h).2.2
          have HC6 := hide hc6
          have hXw := HWX.out.size
          clear hb2 hkx c0 hbw hl6 hm6 hr6 ha6 hc6 HO5 HB5 HW5
          generalize wr.heap.size = E at *
          have HP0 : Hid (OwnR X w.heap.size 109 13 rowCs (.slice none 0 0) ((rs.take 0).filter (fun r => ! sameK r c.row))) := OwnR.nil _ _ _ _ _
          have HBX := hide (Below.refl X.heap.size X)
          go_upto_region 11 with fail
          go_loopg [10, 36] n5 (fun gk kv j W => ∃ (u n7 : Nat) (a7 : Option Addr) (c7 : Nat), u ≤ n5 ∧ gk = n5 - u ∧ kv = .slice a7 n7 c7 ∧ j = .int .i64 u ∧ n7 ≤ u ∧ Hid (n7 = ((rs.take u).filter (fun r => ! sameK r c.row)).length) ∧ Hid (OwnR W w.heap.size 109 13 rowCs (.slice a7 n7 c7) ((rs.take u).filter (fun r => ! sameK r c.row))) ∧ Hid (∀ y, (Value.slice a7 n7 c7).ownBlock = some y → X.heap.size ≤ y) ∧ Hid (Below X.heap.size X W))
          case atStart => exact ⟨0, 0, none, 0, by omega, by omega, rfl, rfl, by omega, rfl, HP0, (fun y e => nomatch (show (none : Option Nat) = some y from e)), HBX⟩
          clear HP0 HBX
          case round =>
            obtain ⟨u, n7, a7, c7, hu, rfl, rfl, rfl, hn7, HN7, HO7, HS7, HB7⟩ := hrel
            have hs7 := HB7.out.size
            have HW7 : Hid (Below w.heap.size w wr) := HWX.out.trans (HB7.out.mono HWX.out.size)
            have HKE : Hid (wr.heap[E]? = some (.cells (changeCs c) 111 (0, 0))) := (HB7.out.block _ zX).trans HKX.out
            have rE : rng wr E 1 13 = some (rowCs c.row) := by
              have := rng_sub (o := 1) (m := 13) (rng_whole HKE.out) (by rw [changeCs_size]; decide)
              rw [changeCs_row] at this
              simpa using this
            have zE : E < wr.heap.size := by omega
            have hw7 := HW7.out.size
            by_cases hltu : u < n5
            · have hus : u < rs.length := by rw [← HN5.out]; exact hltu
              have hbb6 := HB6.out (by omega)
              have c0 := HC6.out u hus
              rw [← rng_of_block (HB7.out.block _ hbb6)] at c0
              have hbw : b6 < wr.heap.size := by omega
              have HTU := hide (filter_take (f := fun r => ! sameK r c.row) hus)
              generalize rs[u] = x at *
              go_upto_region 13 with fail
              have hb2 : Below wr.heap.size wr (wr.alloc (.cells (rowCs x) 109)) := (Below.refl _ _).alloc (Nat.le_refl _) _
              have hkx : (wr.alloc (.cells (rowCs x) 109)).heap[wr.heap.size]? = some (.cells (rowCs x) 109 (0, 0)) := heap_alloc_at _ _
              have rE2 : rng (wr.alloc (.cells (rowCs x) 109)) E 1 13 = some (rowCs c.row) := (rng_of_block (hb2.block _ zE) _ _).trans rE
              generalize wr.alloc (.cells (rowCs x) 109) = Z at *
              have HZ : Hid (Below X.heap.size X Z) := HB7.out.trans (hb2.mono hs7)
              have HWZ : Hid (Below w.heap.size w Z) := HW7.out.trans (hb2.mono hw7)
              have HOZ := hide (HO7.out.below hb2 (Nat.le_refl _))
              have rx : rng Z wr.heap.size 0 13 = some (rowCs x) := rng_whole hkx
              have zx := blk_lt hkx
              have zE2 : E < Z.heap.size := Nat.lt_of_lt_of_le zE hb2.size
              clear hb2 hkx c0 hbw HO7 HB7 HW7 rE zE HKE
              generalize wr.heap.size = F at *
              cases ts : sameK x c.row with
              | true =>
                have HFU : Hid ((rs.take (u + 1)).filter (fun r => ! sameK r c.row) = (rs.take u).filter (fun r => ! sameK r c.row)) := HTU.out.trans (by rw [ts]; simp)
                clear HTU
                go_wp2_with (go_at_call 257; refine (sameKey_calls _ x c.row).mono ?_; rw [ts]; rintro e Z2 ⟨rfl, hbz⟩)
                go_roundg (n5 - (u + 1))
                case measure => omega
                case rel => exact ⟨u + 1, n7, a7, c7, by omega, rfl, rfl, by go_num, by omega, by rw [HFU.out]; exact HN7, by rw [HFU.out]; exact HOZ.out.below hbz (Nat.le_refl _), HS7, HZ.out.trans (hbz.mono HZ.out.size)⟩
              | false =>
                have HFU : Hid ((rs.take (u + 1)).filter (fun r => ! sameK r c.row) = (rs.take u).filter (fun r => ! sameK r c.row) ++ [x]) := HTU.out.trans (by rw [ts]; rfl)
                clear HTU
                go_upto_region 14 with (go_at_call 257; refine (sameKey_calls _ x c.row).mono ?_; rw [ts]; rintro e Z2 ⟨rfl, hbz⟩)
                have rx2 : rng Z2 F 0 13 = some (rowCs x) := (rng_of_block (hbz.block _ zx) _ _).trans rx
                have zx2 : F < Z2.heap.size := Nat.lt_of_lt_of_le zx hbz.size
                have HO2 := hide (HOZ.out.below hbz (Nat.le_refl _))
                have HZ2 : Hid (Below X.heap.size X Z2) := HZ.out.trans (hbz.mono HZ.out.size)
                have hz2 := HZ2.out.size
                clear hbz rx zx rE2 zE2 HOZ HZ HWZ
                go_wp2_with (at_builtin; refine wpList_app1 (α := Row) rfl _ _ 150 rfl w.heap.size 109 rowCs Tryz.underlying150 Tryz.info109 rfl (by decide) rowCs_size rowCs_one (.slice a7 n7 c7) ((rs.take u).filter (fun r => ! sameK r c.row)) rfl (OwnR.below HO2.out ((Below.refl _ _).alloc (Nat.le_refl _) _) (Nat.le_refl _)) _ rfl x (rng_whole (heap_alloc_at _ _)) (by rw [← HN7.out]; omega) (by rw [← HN7.out]; unfold maxLen; omega) (by simp only [World.size_alloc]; omega) ?_; intro v8 w8 hown8 hsame8 hbel8 hat8; obtain ⟨a8, c8, hv8⟩ := hown8.form; rw [List.length_append, ← HN7.out, List.length_singleton] at hv8; subst hv8)
                go_roundg (n5 - (u + 1))
                case measure => omega
                case rel =>
                  have hsx : Below X.heap.size X w8 := by
                    have ha := HZ2.out.alloc hz2 (.cells (rowCs x) 109)
                    refine ⟨hbel8.os.trans ha.os, hbel8.tape.trans ha.tape, hbel8.output.trans ha.output, Nat.le_trans ha.size hbel8.size, fun y hy => ?_⟩
                    exact (hsame8 y ⟨by simp only [World.size_alloc]; omega, fun e => by have := HS7.out y e; omega⟩).trans (ha.block y hy)
                  refine ⟨u + 1, n7 + 1, a8, c8, by omega, rfl, rfl, by go_num, by omega, by rw [HFU.out]; show _ = _; rw [List.length_append, ← HN7.out]; rfl, by rw [HFU.out]; exact hown8, fun y e => ?_, hsx⟩
                  exact hat8.elim (fun h => HS7.out y (h.symm.trans e)) (fun h => by have e := Option.some.inj (h.symm.trans e); rw [World.size_alloc] at e; omega)
            · obtain rfl : u = n5 := by omega
              rw [List.take_of_length_le (by rw [← HN5.out]; omega)] at HN7 HO7
              have d0 : wr.cell? ⟨E, 0, none⟩ = some (.int .u8 c.action) := cells_all HKE.out 0
              cases t87 : (c.action != 87) with
              | false =>
                have HFS : Hid (mrlStep rs c = rs.filter (fun r => ! sameK r c.row)) := by
                  show _ = _
                  unfold mrlStep
                  rw [if_pos (by simpa using t87), List.append_nil]
                have HBW : Hid (Below V.heap.size V wr) := HX.out.trans (HB7.out.mono HX.out.size)
                go_wp2
                go_roundg (n3 - (p + 1))
                case measure => omega
                case rel => exact ⟨p + 1, n7, a7, c7, by omega, rfl, rfl, by go_num, by omega, by rw [HTP.out, HFS.out]; exact HN7, by rw [HTP.out, HFS.out]; exact HO7, HBW⟩
              | true =>
                have HFS : Hid (mrlStep rs c = rs.filter (fun r => ! sameK r c.row) ++ [c.row]) := by
                  show _ = _
                  unfold mrlStep
                  rw [if_neg (by simpa using t87)]
                have HBW : Hid (Below V.heap.size V wr) := HX.out.trans (HB7.out.mono HX.out.size)
                have hVz := HBW.out.size
                have hXV := HX.out.size
                go_wp2_with (at_builtin; refine wpList_app1 (α := Row) rfl _ _ 150 rfl w.heap.size 109 rowCs Tryz.underlying150 Tryz.info109 rfl (by decide) rowCs_size rowCs_one (.slice a7 n7 c7) (rs.filter (fun r => ! sameK r c.row)) rfl (OwnR.below HO7.out ((Below.refl _ _).alloc (Nat.le_refl _) _) (Nat.le_refl _)) _ rfl c.row (rng_whole (heap_alloc_at _ _)) (by rw [← HN7.out]; omega) (by rw [← HN7.out]; unfold maxLen; omega) (by simp only [World.size_alloc]; omega) ?_; intro v8 w8 hown8 hsame8 hbel8 hat8; obtain ⟨a8, c8, hv8⟩ := hown8.form; rw [List.length_append, ← HN7.out, List.length_singleton] at hv8; subst hv8)
                go_roundg (n3 - (p + 1))
                case measure => omega
                case rel =>
                  have hsx : Below V.heap.size V w8 := by
                    have ha := HBW.out.alloc hVz (.cells (rowCs c.row) 109)
                    refine ⟨hbel8.os.trans ha.os, hbel8.tape.trans ha.tape, hbel8.output.trans ha.output, Nat.le_trans ha.size hbel8.size, fun y hy => ?_⟩
                    exact (hsame8 y ⟨by simp only [World.size_alloc]; omega, fun e => by have := HS7.out y e; omega⟩).trans (ha.block y hy)
                  exact ⟨p + 1, n7 + 1, a8, c8, by omega, rfl, rfl, by go_num, by omega, by rw [HTP.out, HFS.out]; show _ = _; rw [List.length_append, ← HN7.out]; rfl, by rw [HTP.out, HFS.out]; exact hown8, hsx⟩
        · obtain rfl : p = n3 := by omega
          rw [List.take_of_length_le (by rw [← HN4.out]; omega), ← HF.out] at HN5 HO5
          go_wp2
          go_roundg (cnt - (q + 1))
          case measure => omega
          case rel => exact ⟨q + 1, n5, a5, c5, by omega, rfl, rfl, by go_num, HN5, by omega, HO5, HW5⟩
    · obtain rfl : q = cnt := by omega
      rw [← HR.out] at HNN HOW
      have HIK := hide (inKey_calls wr (w.heap.size ≤ ·) oa n oc R (HOW.out.rows rowCs_size (by decide) (by have := HFIN.out; omega)) (by rw [HNN.out]; exact HFIN.out))
      go_wp2_with (go_at_call 186; refine HIK.out.mono ?_; rintro e w2 ⟨v2, rfl, hown2, hb2⟩)
      go_ret
      exact ⟨v2, rfl, hown2.baseLe hsr, HBR.out.trans (hb2.mono hsr)⟩
end Go.Proofs.Qxb6500666aGreatDoor
