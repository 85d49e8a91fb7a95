/- The model's Parse, walked: what it guesses, and when it takes the guess. (Made by tools/mk_mpar.py.) -/
import Derived.Test.Qxb6500666aGreatDoorMRen
import Derived.Test.Qxb6500666aGreatDoorMParP
import Derived.Test.Qxb6500666aGreatDoorModelValid
import Derived.Test.Qxb6500666aGreatDoorDamR
import Derived.Test.Qxb6500666aGreatDoorMask
import Derived.BigQuiet
namespace Go.Proofs.Qxb6500666aGreatDoor
open Go.RowKit
theorem conv_str {w : World} {ok : Nat → Prop} {v : Value} {bs : List Int} (h : BytesAt w ok v bs) : (convert 55 9 v).run Tryz.prog w = .ok (.string (strOfNums bs)) w := by
  obtain ⟨a, cap, b, off, rfl, h1, h2, h3, h4, h5⟩ := h
  rcases Nat.eq_zero_or_pos bs.length with h0 | h0
  · obtain rfl : bs = [] := List.length_eq_zero_iff.1 h0
    rw [run_convert_bytes_string w 55 9 5 _ _ _ Tryz.underlying55 Tryz.underlying5 Tryz.underlying9]
    cases a with
    | none => simp [Conv.bytesToString, strOfNums]; rfl
    | some a => simp [Conv.bytesToString, strOfNums, loadCells]; rfl
  · obtain ⟨rfl, -⟩ := h4 h0
    exact run_convert_bytes_arg (P := Tryz.prog) w 55 5 Tryz.underlying55 Tryz.underlying5 b off bs.length cap bs rfl (fun i hi => by
      have := (rng_cell (h5 i hi)).2 0 (by decide)
      simp only [byteCs, Nat.mul_one, Nat.add_zero, List.getElem?_toArray, List.getElem?_cons_zero] at this
      rw [this]
      simp [List.getD, hi]) 9 Tryz.underlying9
theorem str_cells {w : World} {B : Nat} {v : Value} {ps : List (List Int)} (h : OwnR w B 9 1 strCs v ps) (hp : 0 < ps.length) (hl : ps.length ≤ 140737488355328) : ∃ g cap, v = .slice (some ⟨g, 0, none⟩) ps.length cap ∧ B ≤ g ∧ g < w.heap.size ∧ ps.length ≤ cap ∧ ∀ i (hi : i < ps.length), w.cell? ⟨g, i, none⟩ = some (.string (strOfNums ps[i])) := by
  obtain ⟨g, cap, e, h1, h2, h3⟩ := h.elem strCs_size (by decide) hl hp
  obtain ⟨a', c', b', o', e', k1, k2, k3, k4, k5⟩ := h.rows strCs_size (by decide) hl
  rw [e] at e'
  injection e' with p1 p2 p3
  refine ⟨g, cap, e, h1, h2, by rw [p3]; exact k1, fun i hi => ?_⟩
  have := (rng_cell (h3 i hi)).2 0 (by decide)
  simp only [strCs, Nat.mul_one, Nat.add_zero, List.getElem?_toArray, List.getElem?_cons_zero] at this
  exact this
theorem Tryz.size9_s (w : World) : (sizeOf 9).run Tryz.prog w = .ok 1 w := by kernel_rfl
/-- What the model's Parse answers. -/
inductive MPar (w w' : World) (bs : List Int) (e : Ending) : Prop
  | bad (he : e = .returned (.tuple #[.agg zFile, .int .u8 29])) (hno : ∀ k s i bb cs, FileOk k s i bb cs → U32 s → I64 i → U32 bb → (∀ c ∈ cs, c.Ok) → bs ≠ fileText k s i bb cs) (hb : Below w.heap.size w w') : MPar w w' bs e
  | good (k s i bb : Int) (a : Option Addr) (cap : Nat) (cs : List Change) (he : e = .returned (.tuple #[.agg (fileCs k s i bb a cs.length cap), .int .u8 0])) (hF : FileOk k s i bb cs) (hs : U32 s) (hi : I64 i) (hbb : U32 bb) (hok : ∀ c ∈ cs, c.Ok) (hch : ChangesAt w' (w.heap.size ≤ ·) (.slice a cs.length cap) cs) (hb : Below w.heap.size w w') (htx : bs = fileText k s i bb cs) : MPar w w' bs e
/-- Behind q guessed lines. -/
structure MLp (w W3 W : World) (F : Nat) (k s i bb : Int) (lines : List (List Int)) (cs : List Change) (q : Nat) (a : Option Addr) (capq : Nat) : Prop where
  fl : W.heap[F]? = some (.cells (fileCs k s i bb a q capq) 59 (0, 0))
  own : OwnR W (F + 1) 111 14 changeCs (.slice a q capq) cs
  len : cs.length = q
  lin : ∀ j (h : j < cs.length), ∃ l, lines[j + 1]? = some l ∧ LineG (splitB 124 l) cs[j]
  ok : ∀ c ∈ cs, c.Ok
  bel : Below W3.heap.size W3 W
theorem MLp.below {w W3 W W' : World} {F : Nat} {k s i bb : Int} {lines : List (List Int)} {cs : List Change} {q : Nat} {a : Option Addr} {capq : Nat} (h : MLp w W3 W F k s i bb lines cs q a capq) (hb : Below W.heap.size W W') : MLp w W3 W' F k s i bb lines cs q a capq :=
  ⟨(hb.block _ (blk_lt h.fl)).trans h.fl, h.own.below hb (Nat.le_refl _), h.len, h.lin, h.ok, h.bel.trans (hb.mono h.bel.size)⟩
theorem MLp.res {w W3 W : World} {F : Nat} {k s i bb : Int} {lines : List (List Int)} {cs : List Change} {q : Nat} {a : Option Addr} {capq : Nat} (h : MLp w W3 W F k s i bb lines cs q a capq) (h1 : W3.heap[w.heap.size]? = some (.cells zFile 59 (0, 0))) (_h2 : Below w.heap.size w W3) : W.heap[w.heap.size]? = some (.cells zFile 59 (0, 0)) := (h.bel.block _ (blk_lt h1)).trans h1
theorem zFile_ones' : ones zFile 5 = true := rfl
theorem u8s_inj : ∀ {a b : List Int}, ByteL a → ByteL b → u8s a = u8s b → a = b
  | [], [], _, _, _ => rfl
  | [], _ :: _, _, _, h => by simp [u8s] at h
  | _ :: _, [], _, _, h => by simp [u8s] at h
  | x :: a, y :: b, ha, hb, h => by
    simp only [u8s, List.map_cons, List.cons.injEq] at h
    have hx := ha x (List.mem_cons_self ..)
    have hy := hb y (List.mem_cons_self ..)
    have h1 := congrArg UInt8.toNat h.1
    have e1 : (UInt8.ofNat x.toNat).toNat = x.toNat := by simp; omega
    have e2 : (UInt8.ofNat y.toNat).toNat = y.toNat := by simp; omega
    rw [e1, e2] at h1
    rw [show x = y by omega, u8s_inj (fun d hd => ha d (List.mem_cons_of_mem _ hd)) (fun d hd => hb d (List.mem_cons_of_mem _ hd)) h.2]
theorem u32m (x : Int) : U32 (x % 4294967296) := ⟨by omega, by omega⟩
attribute [local go_sem] ext_const Ext.cell Ext.frozen Ext.rng Ext.whole exS_const ExS.cell ExS.rng
attribute [local go_sem ↓] exec_ldFile exec_stFile exec_ldChange exec_stChange exec_ldRow exec_stRow exec_bsChange exec_bdChange exec_bdRow
attribute [local go_sem] run_ldFile run_stFile run_ldChange run_stChange run_ldRow run_stRow run_bsChange run_bdChange run_bdRow fileCs_size fileCs_ones fileCs_all file_ones changeCs_size changeCs_ones changeCs_0 changeCs_row changeCs_all rowCs_size rowCs_ones rowCs_all whole_alloc_lt whole_alloc_at whole_drew setRow_alloc_at setRow_alloc_lt setRow_drew rng_alloc_lt rng_alloc_at rng_drew rng_drewN

set_option maxRecDepth 100000 in
set_option maxHeartbeats 8000000 in
theorem mparse_calls (w : World) (ok : Nat → Prop) (v : Value) (bs : List Int) (h : BytesAt w ok v bs) (hB : ByteL bs) (hl : bs.length ≤ 900000000) :
    Calls Tryz.prog 82 #[v] w fun e w' => MPar w w' bs e := by
  have HBT := hide (fun W (hb : Below w.heap.size w W) => RArr.mono h.lt (fun b q => hb.block b q.2) (fun b q => q.1))
  have HBY := hide hB
  have HLN := hide hl
  clear h hB hl
  go_enter Tryz.func82, Tryz.ntmps82
  go_upto_region 1 with fail
  have hb1 : Below w.heap.size w (w.alloc (.cells #[.int .u8 0, .int .u32 0, .int .i64 0, .int .u32 0, .slice none 0 0] 59)) := (Below.refl _ _).alloc (Nat.le_refl _) _
  have hk1 : (w.alloc (.cells #[.int .u8 0, .int .u32 0, .int .i64 0, .int .u32 0, .slice none 0 0] 59)).heap[w.heap.size]? = some (.cells zFile 59 (0, 0)) := heap_alloc_at _ _
  generalize w.alloc (.cells #[.int .u8 0, .int .u32 0, .int .i64 0, .int .u32 0, .slice none 0 0] 59) = W1 at *
  have hcv := conv_str (HBT.out W1 hb1)
  have HB1 := hide hb1
  have HK1 := hide hk1
  clear hb1 hk1
  have HSP := hide (msplit_calls W1 bs 10 HBY.out (by have := HLN.out; omega))
  go_upto_region 2 with (go_at_call 147; refine HSP.out.mono ?_; rintro e W2 ⟨lv, rfl, hown2, hb2⟩; have HO2 := hide hown2; have HB2 := hide hb2; clear hown2 hb2)
  clear hcv HSP
  obtain ⟨lines, hlines⟩ : ∃ lines, lines = splitB 10 bs := ⟨_, rfl⟩
  have hl0 : 0 < lines.length := by rw [hlines]; exact List.length_pos_iff.2 (splitB_ne _ _)
  have hlL : lines.length ≤ 900000001 := by have h1 := splitB_len 10 bs; rw [hlines]; have := HLN.out; omega
  rw [← hlines] at HO2
  have HLB : Hid (∀ p ∈ lines, ByteL p ∧ p.length ≤ 900000000) := fun p hp => by
    rw [hlines] at hp
    exact ⟨fun d hd => HBY.out d (splitB_mem hp d hd), Nat.le_trans (splitB_plen hp) HLN.out⟩
  have HLS := hide hlines
  obtain ⟨lg, lc, hlv, hlg1, hlg2, hlcap, hlcell⟩ := str_cells HO2.out hl0 (by omega)
  subst hlv
  obtain ⟨N, hN⟩ : ∃ N, N = lines.length := ⟨_, rfl⟩
  have HN := hide hN
  rw [← hN] at hl0 hlL hlcap ⊢
  have hiL := run_indexAt_arr (P := Tryz.prog) (n := N) (cap := lc) (a := some ⟨lg, 0, none⟩) (b := lg) (off := 0) Tryz.underlying98 Tryz.size9_s (fun _ => rfl)
  have hL0 : W2.cell? ⟨lg, 0, none⟩ = some (.string (strOfNums (lines[0]'(by omega)))) := hlcell 0 (by omega)
  have HLC := hide hlcell
  have HL0B := hide (HLB.out (lines[0]'(by omega)) (List.getElem_mem _))
  generalize hl0e : lines[0]'(by omega) = l0 at *
  have HL0E : Hid (lines[0]? = some l0) := by show _ = _; rw [← hl0e]; exact List.getElem?_eq_getElem _
  clear hlines hN hlcell hl0e
  have HSP2 := hide (msplit_calls W2 l0 124 HL0B.out.1 (by have := HL0B.out.2; omega))
  go_upto_region 3 with (go_at_call 147; refine HSP2.out.mono ?_; rintro e W3 ⟨hv, rfl, hown3, hb3⟩; have HO3 := hide hown3; have HB3 := hide hb3; clear hown3 hb3)
  clear HSP2 hL0
  obtain ⟨hps, hhps⟩ : ∃ hps, hps = splitB 124 l0 := ⟨_, rfl⟩
  rw [← hhps] at HO3
  have hh0 : 0 < hps.length := by rw [hhps]; exact List.length_pos_iff.2 (splitB_ne _ _)
  have hhL : hps.length ≤ 900000001 := by have h1 := splitB_len 124 l0; rw [hhps]; have := HL0B.out.2; omega
  obtain ⟨hg, hc, hhv, hhg1, hhg2, hhcap, hhcell⟩ := str_cells HO3.out hh0 (by omega)
  subst hhv
  have HHC := hide hhcell
  have HHS := hide hhps
  obtain ⟨M, hM⟩ : ∃ M, M = hps.length := ⟨_, rfl⟩
  have HM := hide hM
  rw [← hM] at hh0 hhL hhcap ⊢
  clear hhcell hhps hM
  have HBW : Hid (Below w.heap.size w W3) := HB1.out.trans ((HB2.out.trans (HB3.out.mono HB2.out.size)).mono HB1.out.size)
  have HK3 : Hid (W3.heap[w.heap.size]? = some (.cells zFile 59 (0, 0))) := (HB3.out.block _ (by have := blk_lt HK1.out; have := HB2.out.size; omega)).trans ((HB2.out.block _ (blk_lt HK1.out)).trans HK1.out)
  have HBAD : Hid (∀ W : World, W.heap[w.heap.size]? = some (.cells zFile 59 (0, 0)) → Below w.heap.size w W → (∀ k s i bb cs, FileOk k s i bb cs → U32 s → I64 i → U32 bb → (∀ c ∈ cs, c.Ok) → bs ≠ fileText k s i bb cs) → MPar w (W.setRow w.heap.size zFile) bs (.returned (.tuple #[.agg zFile, .int .u8 29]))) := fun W _ h2 h3 => .bad rfl h3 (h2.trans ⟨rfl, rfl, rfl, by simp, fun k hk => setRow_other _ _ _ _ (by omega)⟩)
  have hwh3 : whole W3 w.heap.size 5 = true := by unfold whole; rw [HK3.out]; rfl
  have HFIN := hide (heap_setRow_at (ds := zFile) HK3.out)
  by_cases hN3 : N < 3
  · have HNO : Hid (∀ k s i bb cs, FileOk k s i bb cs → U32 s → I64 i → U32 bb → (∀ c ∈ cs, c.Ok) → bs ≠ fileText k s i bb cs) := fun k s i bb cs hF _ _ _ _ he => by
      have := (text_shape he hF).1
      rw [← HLS.out, ← HN.out] at this
      omega
    go_wp2
    refine bodyPost_ret (results_cell_tmp Tryz.results82 _ _ w.heap.size _ _ _ _ rfl HFIN.out Tryz.underlying59 rfl (by kernel_rfl)) rfl ?_
    exact HBAD.out W3 HK3.out HBW.out HNO.out
  by_cases hM6 : M = 6
  case neg =>
    have t6 : ((M : Int) != 6) = true := by simp; omega
    have HNO : Hid (∀ k s i bb cs, FileOk k s i bb cs → U32 s → I64 i → U32 bb → (∀ c ∈ cs, c.Ok) → bs ≠ fileText k s i bb cs) := fun k s i bb cs hF _ _ _ _ he => by
      have := (text_shape he hF).2.1 l0 (by rw [← HLS.out]; exact HL0E.out)
      rw [← HHS.out, ← HM.out] at this
      exact hM6 this
    go_wp2
    refine bodyPost_ret (results_cell_tmp Tryz.results82 _ _ w.heap.size _ _ _ _ rfl HFIN.out Tryz.underlying59 rfl (by kernel_rfl)) rfl ?_
    exact HBAD.out W3 HK3.out HBW.out HNO.out
  case pos =>
  subst hM6
  obtain ⟨p0, p1, p2, p3, p4, p5, hpe⟩ : ∃ p0 p1 p2 p3 p4 p5, hps = [p0, p1, p2, p3, p4, p5] := by
    match hps, HM with
    | [a, b, c, d, e, f], _ => exact ⟨a, b, c, d, e, f, rfl⟩
  subst hpe
  have HPB : Hid (∀ p ∈ [p0, p1, p2, p3, p4, p5], ByteL p) := fun p hp d hd => by
    rw [HHS.out] at hp
    exact HL0B.out.1 d (splitB_mem hp d hd)
  have HPL : Hid (∀ p ∈ [p0, p1, p2, p3, p4, p5], p.length ≤ 900000000) := fun p hp => by
    rw [HHS.out] at hp
    exact Nat.le_trans (splitB_plen hp) HL0B.out.2
  have c1 : W3.cell? ⟨hg, 1, none⟩ = some (.string (strOfNums p1)) := HHC.out 1 (by simp)
  have c2 : W3.cell? ⟨hg, 2, none⟩ = some (.string (strOfNums p2)) := HHC.out 2 (by simp)
  have c3 : W3.cell? ⟨hg, 3, none⟩ = some (.string (strOfNums p3)) := HHC.out 3 (by simp)
  have c4 : W3.cell? ⟨hg, 4, none⟩ = some (.string (strOfNums p4)) := HHC.out 4 (by simp)
  have hiH := run_indexAt_arr (P := Tryz.prog) (n := 6) (cap := hc) (a := some ⟨hg, 0, none⟩) (b := hg) (off := 0) Tryz.underlying98 Tryz.size9_s (fun _ => rfl)
  clear HHC HO3 hh0 hhL hwh3 HFIN
  go_upto_region 5 with fail
  go_cut [6] (fun p W => ∃ F k s i bb, p = .pointer (some ⟨F, 0, none⟩) ∧ Hid (W3.heap.size ≤ F) ∧ Hid (HeadG [p0, p1, p2, p3, p4, p5] k s i bb) ∧ Hid (W.heap[F]? = some (.cells (fileCs k s i bb none 0 0) 59 (0, 0))) ∧ Hid (Below W3.heap.size W3 W))
  case first =>
    as_aux_lemma =>
    refine wp_region_mixT (W3.heap.size) [2, 6, 11, 15] (by kernel_rfl) ?_
    refine mixT_slots [0, 1, 4, 5, 9, 10, 13, 14] (fuel := 13) rfl (by kernel_rfl) (by kernel_rfl) (fun d _ _ _ _ h => by cases d <;> exact h) ?_
    simp only [opersAt, List.getElem?_toArray, List.getElem?_cons_zero, List.getElem?_cons_succ]
    repeat (go_big_quiet_step (fail))
    refine wpQuiet_nil ?_
    refine mixT_reads [2, 6, 11, 15] (fuel := 9) rfl (by kernel_rfl) (by decide) (by kernel_rfl) (fun d _ _ _ _ h => by cases d <;> exact h) (ext_drew _ _) ?_
    simp only [opersAt, List.getElem?_toArray, List.getElem?_cons_zero, List.getElem?_cons_succ]
    repeat (go_big_quiet_step (fail))
    refine wpQuiet_nil ?_
    refine mixT_two (k := 3) (k' := 19) (by kernel_rfl) rfl rfl ?_ ?_
    ·
      go_wp2_with (go_at_call 148; refine (mletter_calls _ p1 (HPB.out _ (by simp))).mono ?_; rintro e V0 ⟨rfl, rfl⟩)
      refine ⟨Or.inr (by intros; exact ⟨⟨_, (Below.refl W3.heap.size W3).drew⟩, rfl⟩), ?_⟩
      refine mixT_two (k := 7) (k' := 19) (by kernel_rfl) rfl rfl ?_ ?_
      ·
        go_wp2_with (go_at_call 149; refine (mguess_calls _ p2 (HPB.out _ (by simp)) (by have := HPL.out p2 (by simp); omega)).mono ?_; rintro e V14 ⟨x1, rfl, hx1, hg1, hb1⟩)
        have HBV14 : Hid (Below W3.heap.size W3 V14) := ((Below.refl W3.heap.size W3).drew).trans (hb1.mono ((Below.refl W3.heap.size W3).drew).size)
        have HG1 : Hid (GNum p2 x1) := ⟨hx1, hg1⟩
        refine ⟨Or.inr (by intros; exact ⟨⟨_, HBV14.out⟩, rfl⟩), ?_⟩
        clear hb1 hg1 hx1
        refine mixT_slots [8] (fuel := 6) rfl (by kernel_rfl) (by kernel_rfl) (fun d _ _ _ _ h => by cases d <;> exact h) ?_
        simp only [opersAt, List.getElem?_toArray, List.getElem?_cons_zero, List.getElem?_cons_succ]
        repeat (go_big_quiet_step (fail))
        refine wpQuiet_nil ?_
        refine mixT_two (k := 12) (k' := 19) (by kernel_rfl) rfl rfl ?_ ?_
        ·
          go_wp2_with (go_at_call 149; refine (mguess_calls _ p3 (HPB.out _ (by simp)) (by have := HPL.out p3 (by simp); omega)).mono ?_; rintro e V24 ⟨x2, rfl, hx2, hg2, hb2⟩)
          have HBV24 : Hid (Below W3.heap.size W3 V24) := (HBV14.out).trans (hb2.mono (HBV14.out).size)
          have HG2 : Hid (GNum p3 x2) := ⟨hx2, hg2⟩
          refine ⟨Or.inr (by intros; exact ⟨⟨_, HBV24.out⟩, rfl⟩), ?_⟩
          clear hb2 hg2 hx2
          refine mixT_two (k := 16) (k' := 19) (by kernel_rfl) rfl rfl ?_ ?_
          ·
            go_wp2_with (go_at_call 149; refine (mguess_calls _ p4 (HPB.out _ (by simp)) (by have := HPL.out p4 (by simp); omega)).mono ?_; rintro e V44 ⟨x4, rfl, hx4, hg4, hb4⟩)
            have HBV44 : Hid (Below W3.heap.size W3 V44) := (HBV24.out).trans (hb4.mono (HBV24.out).size)
            have HG4 : Hid (GNum p4 x4) := ⟨hx4, hg4⟩
            refine ⟨Or.inr (by intros; exact ⟨⟨_, HBV44.out⟩, rfl⟩), ?_⟩
            clear hb4 hg4 hx4
            refine mixT_slots [17, 18] (fuel := 2) rfl (by kernel_rfl) (by kernel_rfl) (fun d _ _ _ _ h => by cases d <;> exact h) ?_
            simp only [opersAt, List.getElem?_toArray, List.getElem?_cons_zero, List.getElem?_cons_succ]
            repeat (go_big_quiet_step (fail))
            refine wpQuiet_nil ?_
            refine mixT_one (k := 19) (by kernel_rfl) rfl ?_
            go_wp2
            obtain ⟨A44, hA44⟩ : ∃ A44, A44 = (V44.alloc (.cells #[.int .u8 0, .int .u32 0, .int .i64 0, .int .u32 0, .slice none 0 0] 59)) := ⟨_, rfl⟩
            rw [← hA44]
            have HBA44 : Hid (Below W3.heap.size W3 A44) := by show Below _ _ _; rw [hA44]; exact HBV44.out.alloc HBV44.out.size _
            have HFA44 : Hid (A44.heap[V44.heap.size]? = some (.cells zFile 59 (0, 0))) := by show _ = _; rw [hA44]; exact heap_alloc_at V44 _
            have HLA44 : Hid (W3.heap.size ≤ V44.heap.size) := HBV44.out.size
            refine ⟨Or.inr (by intros; exact ⟨⟨_, HBA44.out⟩, rfl⟩), ?_⟩
            generalize V44.heap.size = F at *
            clear hA44
            refine mixT_one (k := 20) (by kernel_rfl) rfl ?_
            have hwh : whole A44 (F) 5 = true := by unfold whole; rw [HFA44.out]; rfl
            go_wp2
            refine ⟨Or.inl (by kernel_rfl), ?_⟩
            refine mixT_nil (by kernel_rfl) ?_
            go_wp2
            go_meet
            case rel =>
              exact ⟨F, _, _, _, _, rfl, HLA44, ⟨p0, p1, p2, p3, p4, p5, x1, x4, rfl, rfl, HG1.out, rfl, HG2.out, HG4.out, rfl⟩, heap_setRow_at HFA44.out, HBA44.out.trans ⟨rfl, rfl, rfl, by simp, fun q hq => setRow_other _ _ _ _ (by have := HLA44.out; omega)⟩⟩
          ·
            go_wp2
            obtain ⟨A34, hA34⟩ : ∃ A34, A34 = (V24.alloc (.cells #[.int .u8 0, .int .u32 0, .int .i64 0, .int .u32 0, .slice none 0 0] 59)) := ⟨_, rfl⟩
            rw [← hA34]
            have HBA34 : Hid (Below W3.heap.size W3 A34) := by show Below _ _ _; rw [hA34]; exact HBV24.out.alloc HBV24.out.size _
            have HFA34 : Hid (A34.heap[V24.heap.size]? = some (.cells zFile 59 (0, 0))) := by show _ = _; rw [hA34]; exact heap_alloc_at V24 _
            have HLA34 : Hid (W3.heap.size ≤ V24.heap.size) := HBV24.out.size
            refine ⟨Or.inr (by intros; exact ⟨⟨_, HBA34.out⟩, rfl⟩), ?_⟩
            generalize V24.heap.size = F at *
            clear hA34
            refine mixT_one (k := 16) (by kernel_rfl) rfl ?_
            go_wp2_with (go_at_call 149; refine (mguess_calls _ p4 (HPB.out _ (by simp)) (by have := HPL.out p4 (by simp); omega)).mono ?_; rintro e V44 ⟨x4, rfl, hx4, hg4, hb4⟩)
            have HBV44 : Hid (Below W3.heap.size W3 V44) := (HBA34.out).trans (hb4.mono (HBA34.out).size)
            have HG4 : Hid (GNum p4 x4) := ⟨hx4, hg4⟩
            have HFV44 : Hid (V44.heap[F]? = some (.cells zFile 59 (0, 0))) := (hb4.block _ (blk_lt HFA34.out)).trans HFA34.out
            have HLV44 := HLA34
            refine ⟨Or.inr (by intros; exact ⟨⟨_, HBV44.out⟩, rfl⟩), ?_⟩
            clear hb4 hg4 hx4
            refine mixT_slots [17, 18] (fuel := 1) rfl (by kernel_rfl) (by kernel_rfl) (fun d _ _ _ _ h => by cases d <;> exact h) ?_
            simp only [opersAt, List.getElem?_toArray, List.getElem?_cons_zero, List.getElem?_cons_succ]
            repeat (go_big_quiet_step (fail))
            refine wpQuiet_nil ?_
            refine mixT_one (k := 20) (by kernel_rfl) rfl ?_
            have hwh : whole V44 (F) 5 = true := by unfold whole; rw [HFV44.out]; rfl
            go_wp2
            refine ⟨Or.inl (by kernel_rfl), ?_⟩
            refine mixT_nil (by kernel_rfl) ?_
            go_wp2
            go_meet
            case rel =>
              exact ⟨F, _, _, _, _, rfl, HLV44, ⟨p0, p1, p2, p3, p4, p5, x1, x4, rfl, rfl, HG1.out, rfl, HG2.out, HG4.out, rfl⟩, heap_setRow_at HFV44.out, HBV44.out.trans ⟨rfl, rfl, rfl, by simp, fun q hq => setRow_other _ _ _ _ (by have := HLV44.out; omega)⟩⟩
        ·
          go_wp2
          obtain ⟨A24, hA24⟩ : ∃ A24, A24 = (V14.alloc (.cells #[.int .u8 0, .int .u32 0, .int .i64 0, .int .u32 0, .slice none 0 0] 59)) := ⟨_, rfl⟩
          rw [← hA24]
          have HBA24 : Hid (Below W3.heap.size W3 A24) := by show Below _ _ _; rw [hA24]; exact HBV14.out.alloc HBV14.out.size _
          have HFA24 : Hid (A24.heap[V14.heap.size]? = some (.cells zFile 59 (0, 0))) := by show _ = _; rw [hA24]; exact heap_alloc_at V14 _
          have HLA24 : Hid (W3.heap.size ≤ V14.heap.size) := HBV14.out.size
          refine ⟨Or.inr (by intros; exact ⟨⟨_, HBA24.out⟩, rfl⟩), ?_⟩
          generalize V14.heap.size = F at *
          clear hA24
          refine mixT_one (k := 12) (by kernel_rfl) rfl ?_
          go_wp2_with (go_at_call 149; refine (mguess_calls _ p3 (HPB.out _ (by simp)) (by have := HPL.out p3 (by simp); omega)).mono ?_; rintro e V24 ⟨x2, rfl, hx2, hg2, hb2⟩)
          have HBV24 : Hid (Below W3.heap.size W3 V24) := (HBA24.out).trans (hb2.mono (HBA24.out).size)
          have HG2 : Hid (GNum p3 x2) := ⟨hx2, hg2⟩
          have HFV24 : Hid (V24.heap[F]? = some (.cells zFile 59 (0, 0))) := (hb2.block _ (blk_lt HFA24.out)).trans HFA24.out
          have HLV24 := HLA24
          refine ⟨Or.inr (by intros; exact ⟨⟨_, HBV24.out⟩, rfl⟩), ?_⟩
          clear hb2 hg2 hx2
          refine mixT_one (k := 16) (by kernel_rfl) rfl ?_
          go_wp2_with (go_at_call 149; refine (mguess_calls _ p4 (HPB.out _ (by simp)) (by have := HPL.out p4 (by simp); omega)).mono ?_; rintro e V44 ⟨x4, rfl, hx4, hg4, hb4⟩)
          have HBV44 : Hid (Below W3.heap.size W3 V44) := (HBV24.out).trans (hb4.mono (HBV24.out).size)
          have HG4 : Hid (GNum p4 x4) := ⟨hx4, hg4⟩
          have HFV44 : Hid (V44.heap[F]? = some (.cells zFile 59 (0, 0))) := (hb4.block _ (blk_lt HFV24.out)).trans HFV24.out
          have HLV44 := HLV24
          refine ⟨Or.inr (by intros; exact ⟨⟨_, HBV44.out⟩, rfl⟩), ?_⟩
          clear hb4 hg4 hx4
          refine mixT_slots [17, 18] (fuel := 1) rfl (by kernel_rfl) (by kernel_rfl) (fun d _ _ _ _ h => by cases d <;> exact h) ?_
          simp only [opersAt, List.getElem?_toArray, List.getElem?_cons_zero, List.getElem?_cons_succ]
          repeat (go_big_quiet_step (fail))
          refine wpQuiet_nil ?_
          refine mixT_one (k := 20) (by kernel_rfl) rfl ?_
          have hwh : whole V44 (F) 5 = true := by unfold whole; rw [HFV44.out]; rfl
          go_wp2
          refine ⟨Or.inl (by kernel_rfl), ?_⟩
          refine mixT_nil (by kernel_rfl) ?_
          go_wp2
          go_meet
          case rel =>
            exact ⟨F, _, _, _, _, rfl, HLV44, ⟨p0, p1, p2, p3, p4, p5, x1, x4, rfl, rfl, HG1.out, rfl, HG2.out, HG4.out, rfl⟩, heap_setRow_at HFV44.out, HBV44.out.trans ⟨rfl, rfl, rfl, by simp, fun q hq => setRow_other _ _ _ _ (by have := HLV44.out; omega)⟩⟩
      ·
        go_wp2
        obtain ⟨A14, hA14⟩ : ∃ A14, A14 = (W3.alloc (.cells #[.int .u8 0, .int .u32 0, .int .i64 0, .int .u32 0, .slice none 0 0] 59)).drew := ⟨_, rfl⟩
        rw [← hA14]
        have HBA14 : Hid (Below W3.heap.size W3 A14) := by show Below _ _ _; rw [hA14]; exact ((Below.refl _ _).alloc (Nat.le_refl _) _).drew
        have HFA14 : Hid (A14.heap[W3.heap.size]? = some (.cells zFile 59 (0, 0))) := by show _ = _; rw [hA14]; exact heap_alloc_at W3 _
        have HLA14 : Hid (W3.heap.size ≤ W3.heap.size) := Nat.le_refl _
        refine ⟨Or.inr (by intros; exact ⟨⟨_, HBA14.out⟩, rfl⟩), ?_⟩
        clear hA14
        refine mixT_one (k := 7) (by kernel_rfl) rfl ?_
        go_wp2_with (go_at_call 149; refine (mguess_calls _ p2 (HPB.out _ (by simp)) (by have := HPL.out p2 (by simp); omega)).mono ?_; rintro e V14 ⟨x1, rfl, hx1, hg1, hb1⟩)
        have HBV14 : Hid (Below W3.heap.size W3 V14) := (HBA14.out).trans (hb1.mono (HBA14.out).size)
        have HG1 : Hid (GNum p2 x1) := ⟨hx1, hg1⟩
        have HFV14 : Hid (V14.heap[W3.heap.size]? = some (.cells zFile 59 (0, 0))) := (hb1.block _ (blk_lt HFA14.out)).trans HFA14.out
        have HLV14 := HLA14
        refine ⟨Or.inr (by intros; exact ⟨⟨_, HBV14.out⟩, rfl⟩), ?_⟩
        clear hb1 hg1 hx1
        refine mixT_slots [8] (fuel := 5) rfl (by kernel_rfl) (by kernel_rfl) (fun d _ _ _ _ h => by cases d <;> exact h) ?_
        simp only [opersAt, List.getElem?_toArray, List.getElem?_cons_zero, List.getElem?_cons_succ]
        repeat (go_big_quiet_step (fail))
        refine wpQuiet_nil ?_
        refine mixT_one (k := 12) (by kernel_rfl) rfl ?_
        go_wp2_with (go_at_call 149; refine (mguess_calls _ p3 (HPB.out _ (by simp)) (by have := HPL.out p3 (by simp); omega)).mono ?_; rintro e V24 ⟨x2, rfl, hx2, hg2, hb2⟩)
        have HBV24 : Hid (Below W3.heap.size W3 V24) := (HBV14.out).trans (hb2.mono (HBV14.out).size)
        have HG2 : Hid (GNum p3 x2) := ⟨hx2, hg2⟩
        have HFV24 : Hid (V24.heap[W3.heap.size]? = some (.cells zFile 59 (0, 0))) := (hb2.block _ (blk_lt HFV14.out)).trans HFV14.out
        have HLV24 := HLV14
        refine ⟨Or.inr (by intros; exact ⟨⟨_, HBV24.out⟩, rfl⟩), ?_⟩
        clear hb2 hg2 hx2
        refine mixT_one (k := 16) (by kernel_rfl) rfl ?_
        go_wp2_with (go_at_call 149; refine (mguess_calls _ p4 (HPB.out _ (by simp)) (by have := HPL.out p4 (by simp); omega)).mono ?_; rintro e V44 ⟨x4, rfl, hx4, hg4, hb4⟩)
        have HBV44 : Hid (Below W3.heap.size W3 V44) := (HBV24.out).trans (hb4.mono (HBV24.out).size)
        have HG4 : Hid (GNum p4 x4) := ⟨hx4, hg4⟩
        have HFV44 : Hid (V44.heap[W3.heap.size]? = some (.cells zFile 59 (0, 0))) := (hb4.block _ (blk_lt HFV24.out)).trans HFV24.out
        have HLV44 := HLV24
        refine ⟨Or.inr (by intros; exact ⟨⟨_, HBV44.out⟩, rfl⟩), ?_⟩
        clear hb4 hg4 hx4
        refine mixT_slots [17, 18] (fuel := 1) rfl (by kernel_rfl) (by kernel_rfl) (fun d _ _ _ _ h => by cases d <;> exact h) ?_
        simp only [opersAt, List.getElem?_toArray, List.getElem?_cons_zero, List.getElem?_cons_succ]
        repeat (go_big_quiet_step (fail))
        refine wpQuiet_nil ?_
        refine mixT_one (k := 20) (by kernel_rfl) rfl ?_
        have hwh : whole V44 (W3.heap.size) 5 = true := by unfold whole; rw [HFV44.out]; rfl
        go_wp2
        refine ⟨Or.inl (by kernel_rfl), ?_⟩
        refine mixT_nil (by kernel_rfl) ?_
        go_wp2
        go_meet
        case rel =>
          exact ⟨W3.heap.size, _, _, _, _, rfl, HLV44, ⟨p0, p1, p2, p3, p4, p5, x1, x4, rfl, rfl, HG1.out, rfl, HG2.out, HG4.out, rfl⟩, heap_setRow_at HFV44.out, HBV44.out.trans ⟨rfl, rfl, rfl, by simp, fun q hq => setRow_other _ _ _ _ (by have := HLV44.out; omega)⟩⟩
    ·
      go_wp2
      obtain ⟨A04, hA04⟩ : ∃ A04, A04 = (W3.alloc (.cells #[.int .u8 0, .int .u32 0, .int .i64 0, .int .u32 0, .slice none 0 0] 59)).drew := ⟨_, rfl⟩
      rw [← hA04]
      have HBA04 : Hid (Below W3.heap.size W3 A04) := by show Below _ _ _; rw [hA04]; exact ((Below.refl _ _).alloc (Nat.le_refl _) _).drew
      have HFA04 : Hid (A04.heap[W3.heap.size]? = some (.cells zFile 59 (0, 0))) := by show _ = _; rw [hA04]; exact heap_alloc_at W3 _
      have HLA04 : Hid (W3.heap.size ≤ W3.heap.size) := Nat.le_refl _
      refine ⟨Or.inr (by intros; exact ⟨⟨_, HBA04.out⟩, rfl⟩), ?_⟩
      clear hA04
      refine mixT_one (k := 3) (by kernel_rfl) rfl ?_
      go_wp2_with (go_at_call 148; refine (mletter_calls _ p1 (HPB.out _ (by simp))).mono ?_; rintro e V0 ⟨rfl, rfl⟩)
      refine ⟨Or.inr (by intros; exact ⟨⟨_, HBA04.out⟩, rfl⟩), ?_⟩
      refine mixT_one (k := 7) (by kernel_rfl) rfl ?_
      go_wp2_with (go_at_call 149; refine (mguess_calls _ p2 (HPB.out _ (by simp)) (by have := HPL.out p2 (by simp); omega)).mono ?_; rintro e V14 ⟨x1, rfl, hx1, hg1, hb1⟩)
      have HBV14 : Hid (Below W3.heap.size W3 V14) := (HBA04.out).trans (hb1.mono (HBA04.out).size)
      have HG1 : Hid (GNum p2 x1) := ⟨hx1, hg1⟩
      have HFV14 : Hid (V14.heap[W3.heap.size]? = some (.cells zFile 59 (0, 0))) := (hb1.block _ (blk_lt HFA04.out)).trans HFA04.out
      have HLV14 := HLA04
      refine ⟨Or.inr (by intros; exact ⟨⟨_, HBV14.out⟩, rfl⟩), ?_⟩
      clear hb1 hg1 hx1
      refine mixT_slots [8] (fuel := 5) rfl (by kernel_rfl) (by kernel_rfl) (fun d _ _ _ _ h => by cases d <;> exact h) ?_
      simp only [opersAt, List.getElem?_toArray, List.getElem?_cons_zero, List.getElem?_cons_succ]
      repeat (go_big_quiet_step (fail))
      refine wpQuiet_nil ?_
      refine mixT_one (k := 12) (by kernel_rfl) rfl ?_
      go_wp2_with (go_at_call 149; refine (mguess_calls _ p3 (HPB.out _ (by simp)) (by have := HPL.out p3 (by simp); omega)).mono ?_; rintro e V24 ⟨x2, rfl, hx2, hg2, hb2⟩)
      have HBV24 : Hid (Below W3.heap.size W3 V24) := (HBV14.out).trans (hb2.mono (HBV14.out).size)
      have HG2 : Hid (GNum p3 x2) := ⟨hx2, hg2⟩
      have HFV24 : Hid (V24.heap[W3.heap.size]? = some (.cells zFile 59 (0, 0))) := (hb2.block _ (blk_lt HFV14.out)).trans HFV14.out
      have HLV24 := HLV14
      refine ⟨Or.inr (by intros; exact ⟨⟨_, HBV24.out⟩, rfl⟩), ?_⟩
      clear hb2 hg2 hx2
      refine mixT_one (k := 16) (by kernel_rfl) rfl ?_
      go_wp2_with (go_at_call 149; refine (mguess_calls _ p4 (HPB.out _ (by simp)) (by have := HPL.out p4 (by simp); omega)).mono ?_; rintro e V44 ⟨x4, rfl, hx4, hg4, hb4⟩)
      have HBV44 : Hid (Below W3.heap.size W3 V44) := (HBV24.out).trans (hb4.mono (HBV24.out).size)
      have HG4 : Hid (GNum p4 x4) := ⟨hx4, hg4⟩
      have HFV44 : Hid (V44.heap[W3.heap.size]? = some (.cells zFile 59 (0, 0))) := (hb4.block _ (blk_lt HFV24.out)).trans HFV24.out
      have HLV44 := HLV24
      refine ⟨Or.inr (by intros; exact ⟨⟨_, HBV44.out⟩, rfl⟩), ?_⟩
      clear hb4 hg4 hx4
      refine mixT_slots [17, 18] (fuel := 1) rfl (by kernel_rfl) (by kernel_rfl) (fun d _ _ _ _ h => by cases d <;> exact h) ?_
      simp only [opersAt, List.getElem?_toArray, List.getElem?_cons_zero, List.getElem?_cons_succ]
      repeat (go_big_quiet_step (fail))
      refine wpQuiet_nil ?_
      refine mixT_one (k := 20) (by kernel_rfl) rfl ?_
      have hwh : whole V44 (W3.heap.size) 5 = true := by unfold whole; rw [HFV44.out]; rfl
      go_wp2
      refine ⟨Or.inl (by kernel_rfl), ?_⟩
      refine mixT_nil (by kernel_rfl) ?_
      go_wp2
      go_meet
      case rel =>
        exact ⟨W3.heap.size, _, _, _, _, rfl, HLV44, ⟨p0, p1, p2, p3, p4, p5, x1, x4, rfl, rfl, HG1.out, rfl, HG2.out, HG4.out, rfl⟩, heap_setRow_at HFV44.out, HBV44.out.trans ⟨rfl, rfl, rfl, by simp, fun q hq => setRow_other _ _ _ _ (by have := HLV44.out; omega)⟩⟩
  case rest =>
  obtain ⟨F, k, s, i, bb, rfl, HLF, HHD, HKF, HWF⟩ := hcut
  have hlF := HLF.out
  have hzF := blk_lt HKF.out
  have hlcw : lg < W3.heap.size := by have := HB3.out.size; omega
  have hsl : ∀ W, (Instr.sliceAt 98 (.slice (some ⟨lg, 0, none⟩) N lc) (some (.int .i64 1)) (some (.int .i64 ((N : Int) - 2))) none).run Tryz.prog W = .ok (.slice (some ⟨lg, 1, none⟩) (N - 3) (lc - 1)) W := fun W => by
    obtain ⟨N', rfl⟩ : ∃ N', N = N' + 3 := ⟨N - 3, by omega⟩
    obtain ⟨lc', rfl⟩ : ∃ lc', lc = lc' + 3 := ⟨lc - 3, by omega⟩
    have e1 : (((N' + 3 : Nat) : Int) - 2) = ((N' + 1 : Nat) : Int) := by omega
    rw [e1]
    have h2 : N' + 1 ≤ lc' + 3 := by omega
    simp [Instr.sliceAt, Instr.slice, run_underlying Tryz.underlying98, Instr.sliceBounds, Instr.sliceBound, asIntOf, Addr.add_lit]
    rw [if_pos ⟨by omega, by omega⟩, if_pos (by omega)]
  obtain ⟨K0, hK0⟩ : ∃ K0, K0 = N - 3 := ⟨_, rfl⟩
  have HK0 := hide hK0
  rw [← hK0] at hsl
  have hK3 : K0 ≤ 900000001 := by omega
  clear hK0
  have hiS := run_indexAt_arr (P := Tryz.prog) (n := K0) (cap := lc - 1) (a := some ⟨lg, 1, none⟩) (b := lg) (off := 1) Tryz.underlying98 Tryz.size9_s (fun _ => rfl)
  have HI0 : Hid (MLp w W3 wc F k s i bb lines [] 0 none 0) := ⟨HKF.out, OwnR.nil _ _ _ _ _, rfl, fun j h => (by simp at h), fun c hc => (by cases hc), HWF.out⟩
  go_upto_region 7 with fail
  clear hsl
  go_loopg [53] K0 (fun gk j W => ∃ (q : Nat) (cs : List Change) (a : Option Addr) (capq : Nat), q ≤ K0 ∧ gk = K0 - q ∧ j = .int .i64 q ∧ Hid (MLp w W3 W F k s i bb lines cs q a capq))
  case atStart => exact ⟨0, [], none, 0, by omega, by omega, rfl, HI0⟩
  clear HI0 HKF HWF
  case round =>
    obtain ⟨q, cs, a, capq, hq, rfl, rfl, HI⟩ := hrel
    by_cases hlt : q < K0
    · have hq1 : q + 1 < lines.length := by have h1 := HN.out; have h2 := HK0.out; omega
      have hcq : wr.cell? ⟨lg, 1 + q, none⟩ = some (.string (strOfNums lines[q + 1])) := by
        have h1 := HLC.out (q + 1) hq1
        rw [Nat.add_comm 1 q, (HI.out.bel.cell (p := ⟨lg, q + 1, none⟩) hlcw), (HB3.out.cell (p := ⟨lg, q + 1, none⟩) hlg2)]
        exact h1
      have hlgr : lg < wr.heap.size := by have := HI.out.bel.size; omega
      have HLQ : Hid (lines[q + 1]? = some lines[q + 1]) := List.getElem?_eq_getElem hq1
      have HLQB := hide (HLB.out _ (List.getElem_mem hq1))
      generalize lines[q + 1] = l at *
      have HSP := hide (msplit_calls wr l 124 HLQB.out.1 (by have := HLQB.out.2; omega))
      go_upto_region 10 with (go_at_call 147; refine HSP.out.mono ?_; rintro e X ⟨pv, rfl, hownp, hbp⟩; have HOP := hide hownp; have HBP := hide hbp; clear hownp hbp)
      clear HSP hcq
      obtain ⟨ps, hps⟩ : ∃ ps, ps = splitB 124 l := ⟨_, rfl⟩
      rw [← hps] at HOP
      have hp0 : 0 < ps.length := by rw [hps]; exact List.length_pos_iff.2 (splitB_ne _ _)
      have hpL : ps.length ≤ 900000001 := by have h1 := splitB_len 124 l; rw [hps]; have := HLQB.out.2; omega
      obtain ⟨pg, pc, hpv, hpg1, hpg2, hpcap, hpcell⟩ := str_cells HOP.out hp0 (by omega)
      subst hpv
      have HPS := hide hps
      obtain ⟨P, hP⟩ : ∃ P, P = ps.length := ⟨_, rfl⟩
      have HP := hide hP
      rw [← hP] at hp0 hpL hpcap ⊢
      have HPC := hide hpcell
      have HIX := hide (HI.out.below HBP.out)
      have HOB : Hid (∀ y, (Value.slice a q capq).ownBlock = some y → y < wr.heap.size) := fun y hy => (HI.out.own.block y hy).2
      clear hps hP hpcell HI
      by_cases h14 : P = 14
      case neg =>
        have t14 : ((P : Int) != 14) = true := by simp; omega
        have HNO : Hid (∀ k s i bb cs, FileOk k s i bb cs → U32 s → I64 i → U32 bb → (∀ c ∈ cs, c.Ok) → bs ≠ fileText k s i bb cs) := fun k s i bb cs hF _ _ _ _ he => by
          have := (text_shape he hF).2.2 q l (by rw [← HLS.out, ← HN.out]; have := HK0.out; omega) (by rw [← HLS.out]; exact HLQ.out)
          rw [← HPS.out, ← HP.out] at this
          exact h14 this
        have hkX := HIX.out.res HK3.out HBW.out
        have hwhX : whole X w.heap.size 5 = true := by unfold whole; rw [hkX]; rfl
        have HKX := hide hkX
        have HBX : Hid (Below w.heap.size w X) := HBW.out.trans (HIX.out.bel.mono HBW.out.size)
        have HFIN := hide (heap_setRow_at (ds := zFile) hkX)
        clear hkX
        go_wp2
        refine bodyPost_ret (results_cell_tmp Tryz.results82 _ _ w.heap.size _ _ _ _ rfl HFIN.out Tryz.underlying59 rfl (by kernel_rfl)) rfl ?_
        exact HBAD.out X HKX.out HBX.out HNO.out
      case pos =>
      subst h14
      obtain ⟨p0, p1, p2, p3, p4, p5, p6, p7, p8, p9, p10, p11, p12, p13, hpe⟩ : ∃ p0 p1 p2 p3 p4 p5 p6 p7 p8 p9 p10 p11 p12 p13, ps = [p0, p1, p2, p3, p4, p5, p6, p7, p8, p9, p10, p11, p12, p13] := by
        match ps, HP with
        | [a0, a1, a2, a3, a4, a5, a6, a7, a8, a9, b0, b1, b2, b3], _ => exact ⟨a0, a1, a2, a3, a4, a5, a6, a7, a8, a9, b0, b1, b2, b3, rfl⟩
      subst hpe
      have HPB2 : Hid (∀ p ∈ [p0, p1, p2, p3, p4, p5, p6, p7, p8, p9, p10, p11, p12, p13], ByteL p) := fun p hp d hd => by
        rw [HPS.out] at hp
        exact HLQB.out.1 d (splitB_mem hp d hd)
      have HPL2 : Hid (∀ p ∈ [p0, p1, p2, p3, p4, p5, p6, p7, p8, p9, p10, p11, p12, p13], p.length ≤ 900000000) := fun p hp => by
        rw [HPS.out] at hp
        exact Nat.le_trans (splitB_plen hp) HLQB.out.2
      have d0 : X.cell? ⟨pg, 0, none⟩ = some (.string (strOfNums p0)) := HPC.out 0 (by simp)
      have d1 : X.cell? ⟨pg, 1, none⟩ = some (.string (strOfNums p1)) := HPC.out 1 (by simp)
      have d2 : X.cell? ⟨pg, 2, none⟩ = some (.string (strOfNums p2)) := HPC.out 2 (by simp)
      have d3 : X.cell? ⟨pg, 3, none⟩ = some (.string (strOfNums p3)) := HPC.out 3 (by simp)
      have d4 : X.cell? ⟨pg, 4, none⟩ = some (.string (strOfNums p4)) := HPC.out 4 (by simp)
      have d5 : X.cell? ⟨pg, 5, none⟩ = some (.string (strOfNums p5)) := HPC.out 5 (by simp)
      have d6 : X.cell? ⟨pg, 6, none⟩ = some (.string (strOfNums p6)) := HPC.out 6 (by simp)
      have d7 : X.cell? ⟨pg, 7, none⟩ = some (.string (strOfNums p7)) := HPC.out 7 (by simp)
      have d8 : X.cell? ⟨pg, 8, none⟩ = some (.string (strOfNums p8)) := HPC.out 8 (by simp)
      have d9 : X.cell? ⟨pg, 9, none⟩ = some (.string (strOfNums p9)) := HPC.out 9 (by simp)
      have d10 : X.cell? ⟨pg, 10, none⟩ = some (.string (strOfNums p10)) := HPC.out 10 (by simp)
      have d11 : X.cell? ⟨pg, 11, none⟩ = some (.string (strOfNums p11)) := HPC.out 11 (by simp)
      have d12 : X.cell? ⟨pg, 12, none⟩ = some (.string (strOfNums p12)) := HPC.out 12 (by simp)
      have d13 : X.cell? ⟨pg, 13, none⟩ = some (.string (strOfNums p13)) := HPC.out 13 (by simp)
      have f4 : X.cell? ⟨F, 4, none⟩ = some (.slice a q capq) := cells_all HIX.out.fl 4
      have zFX := blk_lt HIX.out.fl
      have hiP := run_indexAt_arr (P := Tryz.prog) (n := 14) (cap := pc) (a := some ⟨pg, 0, none⟩) (b := pg) (off := 0) Tryz.underlying98 Tryz.size9_s (fun _ => rfl)
      obtain ⟨S0, hS0, hSp, hSF⟩ : ∃ S0, (∀ x, (Value.slice a q capq).ownBlock = some x → x = S0) ∧ S0 ≠ pg ∧ S0 ≠ F := by
        cases ha : (Value.slice a q capq).ownBlock with
        | none => exact ⟨X.heap.size, fun x e => (by cases e), by omega, by omega⟩
        | some y => exact ⟨y, fun x e => (Option.some.inj e).symm, by have := HOB.out y ha; omega, by have := (HIX.out.own.block y ha).1; omega⟩
      have HS0 := hide hS0
      have hpS : pg ≠ S0 := fun e => hSp e.symm
      have hFS : F ≠ S0 := fun e => hSF e.symm
      clear hS0 hSp hSF
      clear HPC HOP hp0 hpL HK1 HB1 HB2 HO2 c1 c2 c3 c4 hiH hiL
      go_upto_region 12 with fail
      simp only [List.append_eq, List.cons_append, List.nil_append]
      refine wp_region_mixX X.heap.size S0 [1, 4, 8, 13, 18, 23, 27, 32, 37, 42, 47, 52, 57, 61, 65] (by kernel_rfl) ?_
      refine mixT_slots [0, 2, 3, 6, 7, 11, 12, 16, 17, 21, 22, 25, 26, 30, 31, 35, 36, 40, 41, 45, 46, 50, 51, 55, 56, 59, 60, 63, 64] (fuel := 44) rfl (by kernel_rfl) (by kernel_rfl) (fun d _ _ _ _ h => by cases d <;> exact h) ?_
      simp only [opersAt, List.getElem?_toArray, List.getElem?_cons_zero, List.getElem?_cons_succ]
      repeat (go_big_quiet_step (fail))
      refine wpQuiet_nil ?_
      refine mixT_reads [1, 4, 8, 13, 18, 23, 27, 32, 37, 42, 47, 52, 57, 61, 65] (fuel := 29) rfl (by kernel_rfl) (by decide) (by kernel_rfl) (fun d _ _ _ _ h => by cases d <;> exact h) (exS_drew _ _ _) ?_
      simp only [opersAt, List.getElem?_toArray, List.getElem?_cons_zero, List.getElem?_cons_succ]
      repeat (go_big_quiet_step (fail))
      refine wpQuiet_nil ?_
      refine mixT_one (k := 5) (by kernel_rfl) rfl ?_
      go_wp2_with (go_at_call 148; refine (mletter_calls _ p0 (HPB2.out _ (by simp))).mono ?_; rintro e V0 ⟨rfl, rfl⟩)
      have HC0 : Hid (Below X.heap.size X X.drew) := (Below.refl X.heap.size X).drew
      refine ⟨Or.inr (by intros; exact exS_below HC0.out), ?_⟩
      refine mixT_one (k := 9) (by kernel_rfl) rfl ?_
      go_wp2_with (go_at_call 149; refine (mguess_calls _ p1 (HPB2.out _ (by simp)) (by have := HPL2.out p1 (by simp); omega)).mono ?_; rintro e V1 ⟨x1, rfl, hx1, hg1, hb1⟩)
      have HC1 : Hid (Below X.heap.size X V1) := HC0.out.trans (hb1.mono HC0.out.size)
      have HG1 : Hid (GNum p1 x1) := ⟨hx1, hg1⟩
      refine ⟨Or.inr (by intros; exact exS_below HC1.out), ?_⟩
      clear hb1 hg1 hx1
      refine mixT_slots [10] (fuel := 26) rfl (by kernel_rfl) (by kernel_rfl) (fun d _ _ _ _ h => by cases d <;> exact h) ?_
      simp only [opersAt, List.getElem?_toArray, List.getElem?_cons_zero, List.getElem?_cons_succ]
      repeat (go_big_quiet_step (fail))
      refine wpQuiet_nil ?_
      refine mixT_one (k := 14) (by kernel_rfl) rfl ?_
      go_wp2_with (go_at_call 149; refine (mguess_calls _ p2 (HPB2.out _ (by simp)) (by have := HPL2.out p2 (by simp); omega)).mono ?_; rintro e V2 ⟨x2, rfl, hx2, hg2, hb2⟩)
      have HC2 : Hid (Below X.heap.size X V2) := HC1.out.trans (hb2.mono HC1.out.size)
      have HG2 : Hid (GNum p2 x2) := ⟨hx2, hg2⟩
      refine ⟨Or.inr (by intros; exact exS_below HC2.out), ?_⟩
      clear hb2 hg2 hx2
      refine mixT_slots [15] (fuel := 24) rfl (by kernel_rfl) (by kernel_rfl) (fun d _ _ _ _ h => by cases d <;> exact h) ?_
      simp only [opersAt, List.getElem?_toArray, List.getElem?_cons_zero, List.getElem?_cons_succ]
      repeat (go_big_quiet_step (fail))
      refine wpQuiet_nil ?_
      refine mixT_one (k := 19) (by kernel_rfl) rfl ?_
      go_wp2_with (go_at_call 149; refine (mguess_calls _ p3 (HPB2.out _ (by simp)) (by have := HPL2.out p3 (by simp); omega)).mono ?_; rintro e V3 ⟨x3, rfl, hx3, hg3, hb3⟩)
      have HC3 : Hid (Below X.heap.size X V3) := HC2.out.trans (hb3.mono HC2.out.size)
      have HG3 : Hid (GNum p3 x3) := ⟨hx3, hg3⟩
      refine ⟨Or.inr (by intros; exact exS_below HC3.out), ?_⟩
      clear hb3 hg3 hx3
      refine mixT_slots [20] (fuel := 22) rfl (by kernel_rfl) (by kernel_rfl) (fun d _ _ _ _ h => by cases d <;> exact h) ?_
      simp only [opersAt, List.getElem?_toArray, List.getElem?_cons_zero, List.getElem?_cons_succ]
      repeat (go_big_quiet_step (fail))
      refine wpQuiet_nil ?_
      refine mixT_one (k := 24) (by kernel_rfl) rfl ?_
      go_wp2_with (go_at_call 149; refine (mguess_calls _ p4 (HPB2.out _ (by simp)) (by have := HPL2.out p4 (by simp); omega)).mono ?_; rintro e V4 ⟨x4, rfl, hx4, hg4, hb4⟩)
      have HC4 : Hid (Below X.heap.size X V4) := HC3.out.trans (hb4.mono HC3.out.size)
      have HG4 : Hid (GNum p4 x4) := ⟨hx4, hg4⟩
      refine ⟨Or.inr (by intros; exact exS_below HC4.out), ?_⟩
      clear hb4 hg4 hx4
      refine mixT_one (k := 28) (by kernel_rfl) rfl ?_
      go_wp2_with (go_at_call 149; refine (mguess_calls _ p5 (HPB2.out _ (by simp)) (by have := HPL2.out p5 (by simp); omega)).mono ?_; rintro e V5 ⟨x5, rfl, hx5, hg5, hb5⟩)
      have HC5 : Hid (Below X.heap.size X V5) := HC4.out.trans (hb5.mono HC4.out.size)
      have HG5 : Hid (GNum p5 x5) := ⟨hx5, hg5⟩
      refine ⟨Or.inr (by intros; exact exS_below HC5.out), ?_⟩
      clear hb5 hg5 hx5
      refine mixT_slots [29] (fuel := 19) rfl (by kernel_rfl) (by kernel_rfl) (fun d _ _ _ _ h => by cases d <;> exact h) ?_
      simp only [opersAt, List.getElem?_toArray, List.getElem?_cons_zero, List.getElem?_cons_succ]
      repeat (go_big_quiet_step (fail))
      refine wpQuiet_nil ?_
      refine mixT_one (k := 33) (by kernel_rfl) rfl ?_
      go_wp2_with (go_at_call 149; refine (mguess_calls _ p6 (HPB2.out _ (by simp)) (by have := HPL2.out p6 (by simp); omega)).mono ?_; rintro e V6 ⟨x6, rfl, hx6, hg6, hb6⟩)
      have HC6 : Hid (Below X.heap.size X V6) := HC5.out.trans (hb6.mono HC5.out.size)
      have HG6 : Hid (GNum p6 x6) := ⟨hx6, hg6⟩
      refine ⟨Or.inr (by intros; exact exS_below HC6.out), ?_⟩
      clear hb6 hg6 hx6
      refine mixT_slots [34] (fuel := 17) rfl (by kernel_rfl) (by kernel_rfl) (fun d _ _ _ _ h => by cases d <;> exact h) ?_
      simp only [opersAt, List.getElem?_toArray, List.getElem?_cons_zero, List.getElem?_cons_succ]
      repeat (go_big_quiet_step (fail))
      refine wpQuiet_nil ?_
      refine mixT_one (k := 38) (by kernel_rfl) rfl ?_
      go_wp2_with (go_at_call 149; refine (mguess_calls _ p7 (HPB2.out _ (by simp)) (by have := HPL2.out p7 (by simp); omega)).mono ?_; rintro e V7 ⟨x7, rfl, hx7, hg7, hb7⟩)
      have HC7 : Hid (Below X.heap.size X V7) := HC6.out.trans (hb7.mono HC6.out.size)
      have HG7 : Hid (GNum p7 x7) := ⟨hx7, hg7⟩
      refine ⟨Or.inr (by intros; exact exS_below HC7.out), ?_⟩
      clear hb7 hg7 hx7
      refine mixT_slots [39] (fuel := 15) rfl (by kernel_rfl) (by kernel_rfl) (fun d _ _ _ _ h => by cases d <;> exact h) ?_
      simp only [opersAt, List.getElem?_toArray, List.getElem?_cons_zero, List.getElem?_cons_succ]
      repeat (go_big_quiet_step (fail))
      refine wpQuiet_nil ?_
      refine mixT_one (k := 43) (by kernel_rfl) rfl ?_
      go_wp2_with (go_at_call 149; refine (mguess_calls _ p8 (HPB2.out _ (by simp)) (by have := HPL2.out p8 (by simp); omega)).mono ?_; rintro e V8 ⟨x8, rfl, hx8, hg8, hb8⟩)
      have HC8 : Hid (Below X.heap.size X V8) := HC7.out.trans (hb8.mono HC7.out.size)
      have HG8 : Hid (GNum p8 x8) := ⟨hx8, hg8⟩
      refine ⟨Or.inr (by intros; exact exS_below HC8.out), ?_⟩
      clear hb8 hg8 hx8
      refine mixT_slots [44] (fuel := 13) rfl (by kernel_rfl) (by kernel_rfl) (fun d _ _ _ _ h => by cases d <;> exact h) ?_
      simp only [opersAt, List.getElem?_toArray, List.getElem?_cons_zero, List.getElem?_cons_succ]
      repeat (go_big_quiet_step (fail))
      refine wpQuiet_nil ?_
      refine mixT_one (k := 48) (by kernel_rfl) rfl ?_
      go_wp2_with (go_at_call 149; refine (mguess_calls _ p9 (HPB2.out _ (by simp)) (by have := HPL2.out p9 (by simp); omega)).mono ?_; rintro e V9 ⟨x9, rfl, hx9, hg9, hb9⟩)
      have HC9 : Hid (Below X.heap.size X V9) := HC8.out.trans (hb9.mono HC8.out.size)
      have HG9 : Hid (GNum p9 x9) := ⟨hx9, hg9⟩
      refine ⟨Or.inr (by intros; exact exS_below HC9.out), ?_⟩
      clear hb9 hg9 hx9
      refine mixT_slots [49] (fuel := 11) rfl (by kernel_rfl) (by kernel_rfl) (fun d _ _ _ _ h => by cases d <;> exact h) ?_
      simp only [opersAt, List.getElem?_toArray, List.getElem?_cons_zero, List.getElem?_cons_succ]
      repeat (go_big_quiet_step (fail))
      refine wpQuiet_nil ?_
      refine mixT_one (k := 53) (by kernel_rfl) rfl ?_
      go_wp2_with (go_at_call 149; refine (mguess_calls _ p10 (HPB2.out _ (by simp)) (by have := HPL2.out p10 (by simp); omega)).mono ?_; rintro e V10 ⟨x10, rfl, hx10, hg10, hb10⟩)
      have HC10 : Hid (Below X.heap.size X V10) := HC9.out.trans (hb10.mono HC9.out.size)
      have HG10 : Hid (GNum p10 x10) := ⟨hx10, hg10⟩
      refine ⟨Or.inr (by intros; exact exS_below HC10.out), ?_⟩
      clear hb10 hg10 hx10
      refine mixT_slots [54] (fuel := 9) rfl (by kernel_rfl) (by kernel_rfl) (fun d _ _ _ _ h => by cases d <;> exact h) ?_
      simp only [opersAt, List.getElem?_toArray, List.getElem?_cons_zero, List.getElem?_cons_succ]
      repeat (go_big_quiet_step (fail))
      refine wpQuiet_nil ?_
      refine mixT_one (k := 58) (by kernel_rfl) rfl ?_
      go_wp2_with (go_at_call 149; refine (mguess_calls _ p11 (HPB2.out _ (by simp)) (by have := HPL2.out p11 (by simp); omega)).mono ?_; rintro e V11 ⟨x11, rfl, hx11, hg11, hb11⟩)
      have HC11 : Hid (Below X.heap.size X V11) := HC10.out.trans (hb11.mono HC10.out.size)
      have HG11 : Hid (GNum p11 x11) := ⟨hx11, hg11⟩
      refine ⟨Or.inr (by intros; exact exS_below HC11.out), ?_⟩
      clear hb11 hg11 hx11
      refine mixT_one (k := 62) (by kernel_rfl) rfl ?_
      go_wp2_with (go_at_call 149; refine (mguess_calls _ p12 (HPB2.out _ (by simp)) (by have := HPL2.out p12 (by simp); omega)).mono ?_; rintro e V12 ⟨x12, rfl, hx12, hg12, hb12⟩)
      have HC12 : Hid (Below X.heap.size X V12) := HC11.out.trans (hb12.mono HC11.out.size)
      have HG12 : Hid (GNum p12 x12) := ⟨hx12, hg12⟩
      refine ⟨Or.inr (by intros; exact exS_below HC12.out), ?_⟩
      clear hb12 hg12 hx12
      refine mixT_one (k := 66) (by kernel_rfl) rfl ?_
      go_wp2_with (go_at_call 149; refine (mguess_calls _ p13 (HPB2.out _ (by simp)) (by have := HPL2.out p13 (by simp); omega)).mono ?_; rintro e V13 ⟨x13, rfl, hx13, hg13, hb13⟩)
      have HC13 : Hid (Below X.heap.size X V13) := HC12.out.trans (hb13.mono HC12.out.size)
      have HG13 : Hid (GNum p13 x13) := ⟨hx13, hg13⟩
      refine ⟨Or.inr (by intros; exact exS_below HC13.out), ?_⟩
      clear hb13 hg13 hx13
      refine mixT_slots [67, 68] (fuel := 4) rfl (by kernel_rfl) (by kernel_rfl) (fun d _ _ _ _ h => by cases d <;> exact h) ?_
      simp only [opersAt, List.getElem?_toArray, List.getElem?_cons_zero, List.getElem?_cons_succ]
      repeat (go_big_quiet_step (fail))
      refine wpQuiet_nil ?_
      refine mixT_one (k := 69) (by kernel_rfl) rfl ?_
      go_wp2
      obtain ⟨c, hc⟩ : ∃ c : Change, c = ⟨ltrV p0, ⟨x1 % 4294967296, x2 % 4294967296, x3 % 4294967296, x4, x5 % 4294967296, x6 % 4294967296, x7 % 4294967296, x8 % 4294967296, x9 % 4294967296, x10 % 256, x11, x12, x13⟩⟩ := ⟨_, rfl⟩
      rw [← hc]
      have HB14 : Hid (Below X.heap.size X (V13.alloc (.cells (changeCs c) 111))) := HC13.out.alloc HC13.out.size _
      refine ⟨Or.inr (by intros; exact exS_below HB14.out), ?_⟩
      refine mixT_one (k := 70) (by kernel_rfl) rfl ?_
      have HLG : Hid (LineG (splitB 124 l) c) := by
        show LineG _ _
        rw [← HPS.out, hc]
        exact ⟨p0, [p1, p2, p3, p4, p5, p6, p7, p8, p9, p10, p11, p12, p13], rfl, rfl, rfl, ⟨⟨p1, x1, rfl, HG1.out, rfl⟩, ⟨p2, x2, rfl, HG2.out, rfl⟩, ⟨p3, x3, rfl, HG3.out, rfl⟩, ⟨p4, rfl, HG4.out⟩, ⟨p5, x5, rfl, HG5.out, rfl⟩, ⟨p6, x6, rfl, HG6.out, rfl⟩, ⟨p7, x7, rfl, HG7.out, rfl⟩, ⟨p8, x8, rfl, HG8.out, rfl⟩, ⟨p9, x9, rfl, HG9.out, rfl⟩, ⟨p10, x10, rfl, HG10.out, rfl⟩, ⟨p11, rfl, HG11.out⟩, ⟨p12, rfl, HG12.out⟩, ⟨p13, rfl, HG13.out⟩⟩⟩
      have HCO : Hid (c.Ok) := by
        show Change.Ok c
        rw [hc]
        exact ⟨ltrV_u8 (HPB2.out p0 (by simp)), ⟨u32m _, u32m _, u32m _, HG4.out.1, u32m _, u32m _, u32m _, u32m _, u32m _, ⟨by show 0 ≤ x10 % 256; omega, by show x10 % 256 ≤ 255; omega⟩, HG11.out.1, HG12.out.1, HG13.out.1⟩⟩
      have HO15 := hide ((HIX.out.own.below HC13.out (Nat.le_refl _)).below ((Below.refl V13.heap.size V13).alloc (Nat.le_refl _) (.cells (changeCs c) 111)) (Nat.le_refl _))
      have HR15 : Hid (rng (V13.alloc (.cells (changeCs c) 111)) V13.heap.size 0 14 = some (changeCs c)) := rng_whole (heap_alloc_at _ _)
      have hz15 : F + 1 ≤ (V13.alloc (.cells (changeCs c) 111)).heap.size := by have := HC13.out.size; simp; omega
      have HLN2 := hide HIX.out.len
      clear hc
      refine wpList_app1 (α := Change) rfl _ _ 57 rfl (F + 1) 111 changeCs Tryz.underlying57 Tryz.info111 rfl (by decide) changeCs_size changeCs_one _ cs rfl HO15.out _ rfl c HR15.out (by rw [HLN2.out]; omega) (by rw [HLN2.out]; unfold maxLen; omega) hz15 ?_
      intro v16 U hown16 hsame16 hbel16 hat16
      have hFU : U.heap[F]? = some (.cells (fileCs k s i bb a q capq) 59 (0, 0)) := (hbel16.block F (by omega)).trans ((HB14.out.block _ zFX).trans HIX.out.fl)
      have HSU : Hid (∀ b, b < X.heap.size → b ≠ S0 → U.heap[b]? = X.heap[b]?) := fun b h1 h2 => (hsame16 b ⟨by have := HB14.out.size; omega, fun e => h2 (HS0.out b e)⟩).trans (HB14.out.block b h1)
      refine ⟨Or.inr (by intros; exact ⟨⟨U, HSU.out⟩, rfl⟩), ?_⟩
      have HBU : Hid (Below W3.heap.size W3 U) := HIX.out.bel.trans ((HB14.out.mono HIX.out.bel.size).trans (hbel16.mono (by omega)))
      obtain ⟨a1, cap1, hv1⟩ := hown16.form
      rw [List.length_append, HLN2.out] at hv1
      subst hv1
      have HO16 := hide hown16
      have u4 : U.cell? ⟨F, 4, none⟩ = some (.slice a q capq) := cells_all hFU 4
      have uf : U.frozen? ⟨F, 4, none⟩ = false := by simp [World.frozen?, hFU]
      have zFU := blk_lt hFU
      have HFU := hide hFU
      clear hown16 hsame16 hbel16 hat16 hFU HO15 HR15
      refine mixT_one (k := 71) (by kernel_rfl) rfl ?_
      go_wp2
      refine ⟨Or.inr (by intros; exact ⟨⟨U, HSU.out⟩, rfl⟩), ?_⟩
      refine mixT_one (k := 72) (by kernel_rfl) rfl ?_
      go_wp2
      refine ⟨Or.inl (by kernel_rfl), ?_⟩
      refine mixT_nil (by kernel_rfl) ?_
      go_wp2
      go_roundg (K0 - (q + 1))
      case measure => omega
      case rel =>
        refine ⟨q + 1, cs ++ [c], a1, cap1, by omega, rfl, by go_num, ⟨?_, ?_, by simp [HLN2.out], fun j hj => ?_, fun y hy => ?_, ?_⟩⟩
        · exact heap_set3 (j := 4) (v := .slice a1 (q + 1) cap1) HFU.out
        · exact HO16.out.mono fun x hx => Below.heap_setCell _ _ _ _ (by have := (HO16.out.block x hx).1; show x ≠ F; omega)
        · rw [List.length_append] at hj
          have hj : j < cs.length + 1 := hj
          by_cases hjq : j < cs.length
          · obtain ⟨l', h1, h2⟩ := HIX.out.lin j hjq
            exact ⟨l', h1, by rw [List.getElem_append_left hjq]; exact h2⟩
          · obtain rfl : j = cs.length := by omega
            refine ⟨l, by rw [HLN2.out]; exact HLQ.out, ?_⟩
            have e : (cs ++ [c])[cs.length]'(by simp) = c := by simp
            rw [e]
            exact HLG.out
        · rcases List.mem_append.1 hy with hy | hy
          · exact HIX.out.ok y hy
          · rw [List.mem_singleton.1 hy]; exact HCO.out
        · exact HBU.out.setCell (p := ⟨F, 4, none⟩) hlF _
    · obtain rfl : q = K0 := by omega
      have HFG : Hid (FileG bs k s i bb cs) := ⟨by rw [← HLS.out, ← HN.out]; omega, ⟨l0, by rw [← HLS.out]; exact HL0E.out, by rw [← HHS.out]; exact HHD.out⟩, by rw [← HLS.out, ← HN.out, HI.out.len]; have := HK0.out; omega, fun j h => by
        obtain ⟨l, h1, h2⟩ := HI.out.lin j h
        exact ⟨l, by rw [← HLS.out]; exact h1, h2⟩⟩
      have HUS : Hid (U32 s ∧ I64 i ∧ U32 bb) := by
        obtain ⟨_, _, _, _, _, _, x2, x4, _, _, _, e2, g3, _, e4⟩ := HHD.out
        exact ⟨by rw [e2]; exact u32m _, g3.1, by rw [e4]; exact u32m _⟩
      have HLen := hide HI.out.len
      have HOk := hide HI.out.ok
      have hrF : rng wr F 0 5 = some (fileCs k s i bb a q capq) := rng_whole HI.out.fl
      have zFr := blk_lt HI.out.fl
      have hch : ChangesAt wr (F + 1 ≤ ·) (.slice a cs.length capq) cs := by rw [HLen.out]; exact HI.out.own.rows changeCs_size (by decide) (by rw [HLen.out]; omega)
      have HKR := hide (HI.out.res HK3.out HBW.out)
      have HBR : Hid (Below w.heap.size w wr) := HBW.out.trans (HI.out.bel.mono HBW.out.size)
      have HCH := hide hch
      clear hch HI
      by_cases hFO : FileOk k s i bb cs
      · as_aux_lemma =>
        have hva := valid_calls wr (F + 1 ≤ ·) k s i bb a capq cs HCH.out HUS.out.1 HOk.out (.bool true) (fun _ => rfl) (fun h => absurd hFO h)
        rw [HLen.out] at hva
        have HVA := hide hva
        have HFO := hide hFO
        clear hva hFO
        go_upto_region 16 with (go_at_call 85; refine HVA.out.mono ?_; rintro e Y1 ⟨rfl, hb1⟩; have HB1y := hide hb1; have hrF1 : rng Y1 F 0 5 = some (fileCs k s i bb a q capq) := ((rng_of_block (hb1.block _ zFr) _ _).trans hrF); have zF1 : F < Y1.heap.size := Nat.lt_of_lt_of_le zFr hb1.size; clear hb1)
        clear HVA hrF
        have HCH1 := hide (RArr.below HCH.out HB1y.out)
        have HRE := hide (mrender_calls Y1 _ k s i bb a q capq cs HLen.out.symm (by have h1 := HCH1.out; rw [HLen.out] at h1; exact h1) HFO.out HUS.out.1 HUS.out.2.1 HUS.out.2.2 HOk.out (by omega))
        go_upto_region 17 with (go_at_call 84; refine HRE.out.mono ?_; rintro e Y2 ⟨tv, rfl, htv⟩; have HTV := hide htv; clear htv)
        clear HRE
        have hb2 := HTV.out.bel
        have hrF2 : rng Y2 F 0 5 = some (fileCs k s i bb a q capq) := (rng_of_block (hb2.block _ zF1) _ _).trans hrF1
        have zF2 : F < Y2.heap.size := Nat.lt_of_lt_of_le zF1 hb2.size
        have HB2y : Hid (Below wr.heap.size wr Y2) := HB1y.out.trans (hb2.mono HB1y.out.size)
        have HBY2 : Hid (Below w.heap.size w Y2) := HBR.out.trans (HB2y.out.mono HBR.out.size)
        have hcv1 := conv_str HTV.out.at'
        have hcv2 := conv_str (HBT.out Y2 HBY2.out)
        have hkY := (HB2y.out.block _ (blk_lt HKR.out)).trans HKR.out
        have hwhY : whole Y2 w.heap.size 5 = true := by unfold whole; rw [hkY]; rfl
        have HKY := hide hkY
        clear hkY hb2 hrF1 zF1
        by_cases heq : fileText k s i bb cs = bs
        · have t1 : ((strOfNums (fileText k s i bb cs)).toList == (strOfNums bs).toList) = true := by rw [heq]; simp
          have HEQ := hide heq
          have HCH2 := hide (RArr.below HCH.out HB2y.out)
          have HFIN := hide (heap_setRow_at (ds := fileCs k s i bb a q capq) HKY.out)
          clear heq
          go_wp2
          refine bodyPost_ret (results_cell_tmp Tryz.results82 _ _ w.heap.size _ _ _ _ rfl HFIN.out Tryz.underlying59 rfl (by kernel_rfl)) rfl ?_
          refine .good k s i bb a capq cs (by rw [HLen.out]; rfl) HFO.out HUS.out.1 HUS.out.2.1 HUS.out.2.2 HOk.out ?_ ?_ HEQ.out.symm
          · exact RArr.mono HCH2.out (fun y hy => setRow_other _ _ _ _ (by have h1 : F + 1 ≤ y := hy; have := HBW.out.size; omega)) (fun y hy => by have h1 : F + 1 ≤ y := hy; have := HBW.out.size; show w.heap.size ≤ y; omega)
          · exact HBY2.out.trans ⟨rfl, rfl, rfl, by simp, fun y hy => setRow_other _ _ _ _ (by omega)⟩
        · have t1 : ((strOfNums (fileText k s i bb cs)).toList == (strOfNums bs).toList) = false := by
            rw [strNums_inj, strNums_inj]
            cases hx : (u8s (fileText k s i bb cs) == u8s bs) with
            | false => rfl
            | true => exact absurd (u8s_inj (show ByteL (fileText k s i bb cs) from trail_bytes (body_bytes HFO.out) _) HBY.out (by simpa using hx)) heq
          have HNO : Hid (∀ k s i bb cs, FileOk k s i bb cs → U32 s → I64 i → U32 bb → (∀ c ∈ cs, c.Ok) → bs ≠ fileText k s i bb cs) := fun k' s' i' b' cs' hF' g1 g2 g3 g4 he => by
            obtain ⟨e1, e2, e3, e4, e5⟩ := HFG.out.right he hF' g1 g2 g3 g4
            apply heq
            rw [e1, e2, e3, e4, e5, he]
          have HFIN := hide (heap_setRow_at (ds := zFile) HKY.out)
          clear heq
          go_wp2
          refine bodyPost_ret (results_cell_tmp Tryz.results82 _ _ w.heap.size _ _ _ _ rfl HFIN.out Tryz.underlying59 rfl (by kernel_rfl)) rfl ?_
          exact HBAD.out Y2 HKY.out HBY2.out HNO.out
      · as_aux_lemma =>
        have hva := valid_calls wr (F + 1 ≤ ·) k s i bb a capq cs HCH.out HUS.out.1 HOk.out (.bool false) (fun h => absurd h hFO) (fun _ => rfl)
        rw [HLen.out] at hva
        have HVA := hide hva
        have HNO : Hid (∀ k s i bb cs, FileOk k s i bb cs → U32 s → I64 i → U32 bb → (∀ c ∈ cs, c.Ok) → bs ≠ fileText k s i bb cs) := fun k' s' i' b' cs' hF' g1 g2 g3 g4 he => by
          obtain ⟨e1, e2, e3, e4, e5⟩ := HFG.out.right he hF' g1 g2 g3 g4
          apply hFO
          rw [e1, e2, e3, e4, e5]
          exact hF'
        clear hva hFO
        go_wp2_with (go_at_call 85; refine HVA.out.mono ?_; rintro e Y1 ⟨rfl, hb1⟩; have hkY := (hb1.block _ (blk_lt HKR.out)).trans HKR.out; have hwhY : whole Y1 w.heap.size 5 = true := (by unfold whole; rw [hkY]; rfl); have HKY := hide hkY; have HBY2 : Hid (Below w.heap.size w Y1) := (HBR.out.trans (hb1.mono HBR.out.size)); have HFIN := hide (heap_setRow_at (ds := zFile) hkY); clear hb1 hkY)
        refine bodyPost_ret (results_cell_tmp Tryz.results82 _ _ w.heap.size _ _ _ _ rfl HFIN.out Tryz.underlying59 rfl (by kernel_rfl)) rfl ?_
        exact HBAD.out Y1 HKY.out HBY2.out HNO.out
end Go.Proofs.Qxb6500666aGreatDoor
