/- RenderReport, walked. (Made by tools/mk_rep3.py.) -/
import Derived.Test.Qxb6500666aGreatDoorRep2
namespace Go.Proofs.Qxb6500666aGreatDoor
open Go.RowKit

def repHead (ea la n : Int) : List Int := [72] ++ [124, 88] ++ fld ea ++ fld la ++ fld n ++ [10]
def repLine (d : Diff) : List Int := [d.action] ++ fld d.sample ++ fld d.analyte ++ fld d.before ++ fld d.after ++ [10]
def repText (ea la : Int) (ds : List Diff) : List Int := trailText (repHead ea la ds.length ++ flatL repLine ds) ds.length
structure Diff.Ok (d : Diff) : Prop where
  action : U8 d.action
  sample : U32 d.sample
  analyte : U32 d.analyte
  before : U32 d.before
  after : U32 d.after
def repR (ea la : Int) (ds : List Diff) : Except Int (List Int) := if rpC ea la ds = 0 then .ok (repText ea la ds) else .error 29
theorem rpC_cases (ea la : Int) (ds : List Diff) : rpC ea la ds = 0 ∨ rpC ea la ds = 29 := by
  unfold rpC
  split
  · exact Or.inr rfl
  · split
    · exact Or.inl rfl
    · exact Or.inr rfl

attribute [local go_sem] ext_const Ext.cell Ext.frozen Ext.rng Ext.whole
attribute [local go_sem ↓] exec_ldDiff exec_stDiff
attribute [local go_sem] run_ldDiff run_stDiff diffCs_size whole_alloc_lt whole_alloc_at whole_drew setRow_alloc_at setRow_alloc_lt rng_alloc_lt rng_alloc_at rng_drew rng_drewN

set_option maxRecDepth 100000 in
set_option maxHeartbeats 4000000 in
theorem renderReport_calls (w : World) (ok : Nat → Prop) (ea la : Int) (a : Option Addr) (n cap : Nat) (ds : List Diff) (h : RArr w ok 5 diffCs (.slice a n cap) ds) (hlen : n ≤ 200000000) (he : U32 ea) (hla : U32 la) (hok : ∀ d ∈ ds, d.Ok) :
    Calls Tryz.prog 121 #[.int .u32 ea, .int .u32 la, .slice a n cap] w fun e w' => OwnX w w' 5 1 byteCs e (repR ea la ds) := by
  obtain ⟨R, hR⟩ : ∃ R, R = repR ea la ds := ⟨_, rfl⟩
  rw [← hR]
  have HR := hide hR
  have HCK := hide (checkReport_calls w ok ea la a n cap ds h)
  obtain ⟨a', cap', b, off, hv, hl, hm, hr, ha, hc⟩ := RArr.lt h
  simp only [Value.slice.injEq] at hv
  obtain ⟨rfl, hn, rfl⟩ := hv
  have Hn : Hid (n = ds.length) := hn
  rw [← hn] at hl hr ha
  have hi := run_indexAt_arr (P := Tryz.prog) (n := n) (cap := cap) Tryz.underlying72 Tryz.size166_z (fun h => (ha h).1)
  have HB : Hid (0 < n → b < w.heap.size) := fun h => (ha h).2.2
  have HC := hide hc
  have HOk := hide hok
  have hov : ∀ x : Diff, ones (diffCs x) 5 = true := fun _ => rfl
  clear ha hc hn hm hl h hR hok
  rcases rpC_cases ea la ds with hcc | hcc
  · have HE : Hid (R = .ok (repText ea la ds)) := HR.out.trans (by simp [repR, hcc])
    rw [hcc] at HCK
    go_enter Tryz.func121, Tryz.ntmps121
    go_upto_region 4 with (go_at_call 124; refine HCK.out.mono ?_; rintro e w1 ⟨rfl, hb1⟩; simp only [errV, if_true])
    have hz1 := hb1.size
    have HB1 := hide hb1
    clear hb1 HCK HR
    obtain ⟨i0, hi0, hq0, hq1, hq2⟩ := info_parts Tryz.info5
    go_upto_region 5 with (at_make; refine wpList_make_own w1 rfl _ _ 55 rfl w1.heap.size 5 i0 _ 1 Tryz.underlying55 hi0 hq0 hq1 _ _ _ (48 + 32 * n) rfl rfl (by omega) (by rw [hq2]; omega) (by unfold maxLen; omega) (Nat.le_refl _) ?_; intro W2 hown0 hgr0)
    have hb2 : Below w1.heap.size w1 W2 := (Below.refl _ _).grown hgr0 (Nat.le_refl _) (fun k hk => by simp at hk)
    have hown1 : OwnR W2 w1.heap.size 5 1 byteCs (.slice (some ⟨w1.heap.size, 0, none⟩) 0 (48 + 32 * n)) [] := hown0
    have hlt2 : w1.heap.size < W2.heap.size := (hown1.block _ rfl).2
    have hT0 : TextAt (W2.alloc (.cells #[.slice (some ⟨w1.heap.size, 0, none⟩) 0 (48 + 32 * n)] 271)) w1.heap.size W2.heap.size (fun _ => False) [] :=
      ⟨_, _, heap_alloc_at _ _, by omega, hown1.below ((Below.refl _ _).alloc (Nat.le_refl _) _) (Nat.le_refl _), by simp [Value.ownBlock]; omega, fun h => h, fun b hb h => h, fun b hb => hb.elim⟩
    have hWw : Below w1.heap.size w1 (W2.alloc (.cells #[.slice (some ⟨w1.heap.size, 0, none⟩) 0 (48 + 32 * n)] 271)) := hb2.alloc (by omega) _
    generalize W2.alloc (.cells #[.slice (some ⟨w1.heap.size, 0, none⟩) 0 (48 + 32 * n)] 271) = W3 at *
    generalize W2.heap.size = T at *
    obtain ⟨G, hG⟩ : ∃ G, w1.heap.size = G := ⟨_, rfl⟩
    rw [hG] at hT0 hWw hz1 ⊢
    have HG := hide hG
    have HT0 := hide hT0
    have HWw := hide hWw
    clear hown0 hown1 hgr0 hb2 hlt2 hi0 hq0 hq1 hq2 hG hT0 hWw
    have hW0 : Wrote W3 W3 G T (fun _ => False) [] := ⟨HT0.out, Below.refl _ _, Same.refl _ _⟩
    have l0 : ([] : List Int).length ≤ 0 := by simp
    obtain ⟨x0, e0⟩ : ∃ x0, ([] : List Int) = x0 := ⟨_, rfl⟩
    rw [e0] at hW0 l0
    obtain ⟨x1, e1⟩ : ∃ x, x0 ++ [72] = x := ⟨_, rfl⟩
    go_upto_region 6 with (go_at_call 130; refine (open_calls _ G T _ x0 72 hW0.text (by omega)).mono ?_; rintro e v1 ⟨rfl, hV⟩)
    rw [e1] at hV
    have l1 : x1.length ≤ 1 := by rw [← e1, List.length_append]; simp only [List.length_cons, List.length_nil]; omega
    have hW1 := hW0.trans hV
    clear hV hW0
    obtain ⟨x2, e2⟩ : ∃ x, x1 ++ [124, 88] = x := ⟨_, rfl⟩
    go_upto_region 7 with (go_at_call 131; refine (letter_calls _ G T _ x1 88 hW1.text (by omega)).mono ?_; rintro e v2 ⟨rfl, hV⟩)
    rw [e2] at hV
    have l2 : x2.length ≤ 3 := by rw [← e2, List.length_append]; simp only [List.length_cons, List.length_nil]; omega
    have hW2 := hW1.trans hV
    clear hV hW1
    obtain ⟨x3, e3⟩ : ∃ x, x2 ++ fld ea = x := ⟨_, rfl⟩
    go_upto_region 8 with (go_at_call 135; refine (id_fld _ G T _ x2 x3 ea _ hW2.text l2 (by omega) he e3).mono ?_; rintro e v3 ⟨rfl, hV, l3⟩)
    have hW3 := hW2.trans hV
    clear hV hW2
    obtain ⟨x4, e4⟩ : ∃ x, x3 ++ fld la = x := ⟨_, rfl⟩
    go_upto_region 9 with (go_at_call 135; refine (id_fld _ G T _ x3 x4 la _ hW3.text l3 (by omega) hla e4).mono ?_; rintro e v4 ⟨rfl, hV, l4⟩)
    have hW4 := hW3.trans hV
    clear hV hW3
    obtain ⟨x5, e5⟩ : ∃ x, x4 ++ fld (n : Int) = x := ⟨_, rfl⟩
    go_upto_region 10 with (go_at_call 132; refine (number_fld _ G T _ x4 x5 (n : Int) _ hW4.text l4 (by omega) ⟨by omega, by omega⟩ e5).mono ?_; rintro e v5 ⟨rfl, hV, l5⟩)
    have hW5 := hW4.trans hV
    clear hV hW4
    go_upto_region 11 with (go_at_call 133; refine (close_calls _ G T _ x5 hW5.text (by omega)).mono ?_; rintro e v6 ⟨rfl, hV⟩)
    have e9 : x5 ++ [10] = repHead ea la n := by rw [← e5, ← e4, ← e3, ← e2, ← e1, ← e0]; rfl
    rw [e9] at hV
    have hW9 := hide (hW5.trans hV)
    have l9 : (repHead ea la n).length ≤ 128 := by rw [← e9]; simp; omega
    have L9 := hide l9
    clear hV hW5 e0 l0 e1 l1 e2 l2 e3 l3 e4 l4 e5 l5 e9 l9
    go_upto_region 12 with fail
    go_loopg [37] n (fun gk j W => ∃ q : Nat, q ≤ n ∧ gk = n - q ∧ j = .int .i64 q ∧ Hid (Wrote W3 W G T (fun _ => False) (repHead ea la n ++ flatL repLine (ds.take q))) ∧ Hid ((repHead ea la n ++ flatL repLine (ds.take q)).length ≤ 128 + 128 * q))
    case atStart => exact ⟨0, by omega, by omega, rfl, by simpa [flatL] using hW9, by simpa [flatL] using L9⟩
    clear hW9 L9
    case round =>
      obtain ⟨q, hq, rfl, rfl, HWq, HLq⟩ := hrel
      have hzw := HWw.out.size
      have hzq := HWq.out.below.size
      by_cases hlt : q < n
      · have hqs : q < ds.length := by rw [← Hn.out]; exact hlt
        have hbb := HB.out (by omega)
        have c0 := HC.out q hqs
        have hbG : b < G := by omega
        rw [← rng_of_block (HB1.out.block _ hbb), ← rng_of_block (HWw.out.block _ hbG), ← rng_of_block (HWq.out.below.block _ hbG)] at c0
        have hbw : b < wr.heap.size := by have := HG.out; omega
        have hcO := HOk.out _ (List.getElem_mem hqs)
        have HLT : Hid (flatL repLine (ds.take (q + 1)) = flatL repLine (ds.take q) ++ repLine ds[q]) := by
          show _ = _
          rw [List.take_succ_eq_append_getElem hqs]
          exact flatL_snoc _ _ _
        generalize ds[q] = d at *
        obtain ⟨y, hy⟩ : ∃ y, repHead ea la n ++ flatL repLine (ds.take q) = y := ⟨_, rfl⟩
        rw [hy] at HWq HLq
        have HY := hide hy
        have hT1 := HWq.out.text.alloc (.cells (diffCs d) 166)
        have hk1 : (wr.alloc (.cells (diffCs d) 166)).heap[wr.heap.size]? = some (.cells (diffCs d) 166 (0, 0)) := heap_alloc_at _ _
        have hGs : G ≤ wr.heap.size := by have := HG.out; omega
        have hb1 : Below G wr (wr.alloc (.cells (diffCs d) 166)) := (Below.refl _ _).alloc hGs _
        have hyl := HLq.out
        clear hy
        go_upto_region 14 with fail
        generalize hD : wr.heap.size = D at *
        generalize (World.alloc wr _) = V at *
        have hW0 : Wrote V V G T (fun b => False ∨ b = D) y := ⟨hT1, Below.refl _ _, Same.refl _ _⟩
        have HB9 := hide hb1
        clear hT1 c0 hD hb1
        have c0 : V.cell? ⟨D, 0, none⟩ = some (.int .u8 d.action) := by rw [World.cell?, hk1]; rfl
        have k0 := hk1
        have hDl0 := blk_lt hk1
        clear hk1
        have l0 : y.length ≤ 128 + 128 * q := hyl
        clear hyl
        obtain ⟨x0, e0⟩ : ∃ x0, y = x0 := ⟨_, rfl⟩
        rw [e0] at hW0 l0
        obtain ⟨x1, e1⟩ : ∃ x, x0 ++ [d.action] = x := ⟨_, rfl⟩
        go_upto_region 15 with (go_at_call 130; refine (open_calls _ G T _ x0 d.action hW0.text (by omega)).mono ?_; rintro e v1 ⟨rfl, hV⟩)
        rw [e1] at hV
        have l1 : x1.length ≤ 128 + 128 * q + 1 := by rw [← e1, List.length_append]; simp only [List.length_cons, List.length_nil]; omega
        have hW1 := hW0.trans hV
        have k1 := (hV.same D (Or.inr rfl)).trans k0
        have c1 : v1.cell? ⟨D, 1, none⟩ = some (.int .u32 d.sample) := by rw [World.cell?, k1]; rfl
        have hDl1 := blk_lt k1
        clear hV hW0 c0 k0 hDl0
        obtain ⟨x2, e2⟩ : ∃ x, x1 ++ fld d.sample = x := ⟨_, rfl⟩
        go_upto_region 16 with (go_at_call 135; refine (id_fld _ G T _ x1 x2 d.sample _ hW1.text l1 (by omega) hcO.sample e2).mono ?_; rintro e v2 ⟨rfl, hV, l2⟩)
        have hW2 := hW1.trans hV
        have k2 := (hV.same D (Or.inr rfl)).trans k1
        have c2 : v2.cell? ⟨D, 2, none⟩ = some (.int .u32 d.analyte) := by rw [World.cell?, k2]; rfl
        have hDl2 := blk_lt k2
        clear hV hW1 c1 k1 hDl1
        obtain ⟨x3, e3⟩ : ∃ x, x2 ++ fld d.analyte = x := ⟨_, rfl⟩
        go_upto_region 17 with (go_at_call 135; refine (id_fld _ G T _ x2 x3 d.analyte _ hW2.text l2 (by omega) hcO.analyte e3).mono ?_; rintro e v3 ⟨rfl, hV, l3⟩)
        have hW3 := hW2.trans hV
        have k3 := (hV.same D (Or.inr rfl)).trans k2
        have c3 : v3.cell? ⟨D, 3, none⟩ = some (.int .u32 d.before) := by rw [World.cell?, k3]; rfl
        have hDl3 := blk_lt k3
        clear hV hW2 c2 k2 hDl2
        obtain ⟨x4, e4⟩ : ∃ x, x3 ++ fld d.before = x := ⟨_, rfl⟩
        go_upto_region 18 with (go_at_call 135; refine (id_fld _ G T _ x3 x4 d.before _ hW3.text l3 (by omega) hcO.before e4).mono ?_; rintro e v4 ⟨rfl, hV, l4⟩)
        have hW4 := hW3.trans hV
        have k4 := (hV.same D (Or.inr rfl)).trans k3
        have c4 : v4.cell? ⟨D, 4, none⟩ = some (.int .u32 d.after) := by rw [World.cell?, k4]; rfl
        have hDl4 := blk_lt k4
        clear hV hW3 c3 k3 hDl3
        obtain ⟨x5, e5⟩ : ∃ x, x4 ++ fld d.after = x := ⟨_, rfl⟩
        go_upto_region 19 with (go_at_call 135; refine (id_fld _ G T _ x4 x5 d.after _ hW4.text l4 (by omega) hcO.after e5).mono ?_; rintro e v5 ⟨rfl, hV, l5⟩)
        have hW5 := hW4.trans hV
        have k5 := (hV.same D (Or.inr rfl)).trans k4
        have c5 : v5.cell? ⟨D, 4, none⟩ = some (.int .u32 d.after) := by rw [World.cell?, k5]; rfl
        have hDl5 := blk_lt k5
        clear hV hW4 c4 k4 hDl4
        go_wp2_with (go_at_call 133; refine (close_calls _ G T _ x5 hW5.text (by omega)).mono ?_; rintro e v9 ⟨rfl, hV⟩)
        go_roundg (n - (q + 1))
        case measure => omega
        case rel =>
          have hE : repHead ea la n ++ flatL repLine (ds.take (q + 1)) = x5 ++ [10] := by
            rw [HLT.out, ← List.append_assoc, HY.out, ← e5, ← e4, ← e3, ← e2, ← e1, ← e0]
            simp only [repLine, List.append_assoc]
          have hF := hW5.trans hV
          refine ⟨q + 1, by omega, rfl, by go_num, ?_, by show _ ≤ _; rw [hE]; simp; omega⟩
          show Wrote _ _ _ _ _ _
          rw [hE]
          exact ⟨hF.text.sub fun b hb => Or.inl hb, HWq.out.below.trans (HB9.out.trans hF.below), fun b hb => hb.elim⟩
      · have hE : ds.take q = ds := List.take_of_length_le (by rw [← Hn.out]; omega)
        rw [hE] at HWq HLq
        obtain ⟨y, hy⟩ : ∃ y, repHead ea la n ++ flatL repLine ds = y := ⟨_, rfl⟩
        rw [hy] at HWq HLq
        have HY := hide hy
        have hyl := HLq.out
        clear hy
        go_upto_region 22 with (go_at_call 140; refine (trailer_calls _ G T _ y n HWq.out.text (by omega) ⟨by omega, by omega⟩).mono ?_; rintro e w9 ⟨rfl, hV⟩)
        have hWf := hide (HWq.out.trans hV)
        obtain ⟨ax, capx, hgx, -, hownx, -, -, -, -⟩ := hV.text
        obtain ⟨hcx, -, hTl⟩ := cell_one hgx
        have HOX := hide hownx
        clear hV hgx hownx
        go_wp2
        go_ret2
        rw [HE.out]
        have hE2 : repText ea la ds = trailText y n := by rw [← HY.out, repText, ← Hn.out]
        rw [hE2]
        exact ⟨_, rfl, HOX.out.lower (by omega), HB1.out.trans ((HWw.out.trans hWf.out.below).mono (by omega))⟩
  · have HE : Hid (R = .error 29) := HR.out.trans (by simp [repR, hcc])
    rw [hcc] at HCK
    go_enter Tryz.func121, Tryz.ntmps121
    go_wp2_with (go_at_call 124; refine HCK.out.mono ?_; rintro e w1 ⟨rfl, hb1⟩; simp only [errV, show ¬ ((29 : Int) = 0) by decide, if_false])
    go_ret2
    exact ownx_err HE hb1
  
end Go.Proofs.Qxb6500666aGreatDoor
