/- Classify, walked. -/
import Derived.Test.Qxb6500665aDoorClassWalk
namespace Go.Proofs.Qxb6500665aDoor
open Go.RowKit Go.Proofs.Qxb6500665aDoor.Cal

attribute [local go_sem ↓] exec_stVersion exec_stSubject exec_stPlacement
attribute [local go_sem] run_stVersion run_stSubject run_stPlacement ones_iis ones_iii ones_iiii whole_alloc_lt whole_alloc_at whole_drew whole_setCell_other whole_setRow_other setRow_alloc_at setRow_alloc_lt

theorem ret_cl {w w' : World} {e : Ending} {p q : Pl} (h : Hid (p = q)) (hp : ClPost w w' e q) : ClPost w w' e p := by rw [h.out]; exact hp

abbrev zeroPl : Array Value := #[.int .u32 0, .int .u8 0, .int .i64 0, .int .i64 0]

theorem cl_no {w w' : World} {k : Int} (hk : k ≠ 0) (hb : Below w.heap.size w w') : ClPost w w' (.returned (.tuple #[.agg zeroPl, errW k])) (noPl k) :=
  ⟨by rw [show errOr (noPl k).code = errW k from errOr_pos hk]; rfl, hb⟩

set_option maxRecDepth 100000 in
set_option maxHeartbeats 1000000 in
theorem classify_bad (w : World) (P : Nat) (sid vid m : Int) (hm : m < 0 ∨ 157785119 < m) :
    Calls Tryd.prog 21 #[.pointer (some ⟨P, 0, none⟩), .int .u32 sid, .int .u32 vid, .int .i64 m] w fun e w' => ClPost w w' e (noPl 3) := by
  have HM := hide hm
  clear hm
  go_enter Tryd.func21, Tryd.ntmps21
  go_wp2_with (go_at_call 31; refine (dayOf_bad _ _ HM.out).mono ?_; rintro e w' ⟨rfl, rfl⟩)
  refine bodyPost_ret (results_cell_tmp Tryd.results21 _ _ w.heap.size _ _ _ _ rfl (heap_alloc_at _ _) Tryd.underlying39 rfl (by kernel_rfl)) rfl ?_
  exact cl_no (by decide) ((Below.refl _ _).alloc (Nat.le_refl _) _)

set_option maxRecDepth 100000 in
set_option maxHeartbeats 1000000 in
theorem classify_nosub (w : World) (P S : Nat) (A : Nat → Prop) (ps : List KV) (full : Bool) (sid vid m : Int) (h : PAt w P S A ps full) (m1 : 0 ≤ m) (m2 : m ≤ 157785119) (hs : U32 sid) (hO : getB ps (keyB 117 sid) = none) :
    Calls Tryd.prog 21 #[.pointer (some ⟨P, 0, none⟩), .int .u32 sid, .int .u32 vid, .int .i64 m] w fun e w' => ClPost w w' e (noPl 17) := by
  have hbw0 : Below w.heap.size w (w.alloc (.cells zeroPl 39)) := (Below.refl _ _).alloc (Nat.le_refl _) _
  have hG0 : (w.alloc (.cells zeroPl 39)).heap[w.heap.size]? = some (.cells zeroPl 39 (0, 0)) := heap_alloc_at _ _
  have HSU := hide (subject_none _ P S A ps full sid (h.below hbw0) hs hO)
  clear h hO
  go_enter Tryd.func21, Tryd.ntmps21
  go_upto_region 4 with (go_at_call 31; refine (dayOf_ok _ _ m1 m2).mono ?_; rintro e w' ⟨rfl, rfl⟩)
  go_upto_region 5 with (go_at_call 26; refine HSU.out.mono ?_; rintro e w1 ⟨rfl, hb1⟩)
  have hl1 : w.heap.size < w1.heap.size := by have := hb1.size; simp at this; omega
  have hG1 : w1.heap[w.heap.size]? = some (.cells zeroPl 39 (0, 0)) := (hb1.block _ (by simp)).trans hG0
  have hG2 : (w1.alloc (.cells #[.int .u32 0, .int .u32 0, .int .i64 0] 45)).heap[w.heap.size]? = some (.cells zeroPl 39 (0, 0)) := (Below.heap_alloc _ _ _ hl1).trans hG1
  have hwh := whole_of_heap hG1
  simp only [zeroPl, List.size_toArray, List.length_cons, List.length_nil] at hwh
  go_wp2
  have hfin : ((w1.setRow w.heap.size zeroPl).alloc (.cells #[.int .u32 0, .int .u32 0, .int .i64 0] 45)).heap[w.heap.size]? = some (.cells zeroPl 39 (0, 0)) := (Below.heap_alloc _ _ _ (by simpa using hl1)).trans (heap_setRow_at hG1)
  refine bodyPost_ret (results_cell_tmp Tryd.results21 _ _ w.heap.size _ _ _ _ rfl hfin Tryd.underlying39 rfl (by kernel_rfl)) rfl ?_
  exact cl_no (by decide) (((hbw0.trans (hb1.mono (by simp))).trans (below_setRow' _ _ (Nat.le_refl _))).alloc (by simp; omega) _)

set_option maxRecDepth 100000 in
set_option maxHeartbeats 1000000 in
theorem classify_nover (w : World) (P S : Nat) (A : Nat → Prop) (ps : List KV) (full : Bool) (vers : List Ver) (sid vid m site anchor : Int) (h : PAt w P S A ps full) (hv : VersRep ps vers) (m1 : 0 ≤ m) (m2 : m ≤ 157785119) (hs : U32 sid) (hO : getB ps (keyB 117 sid) = some (subB site anchor)) (k0 : U32 site) (k1 : I64 anchor) (hin : inF vers m = none) :
    Calls Tryd.prog 21 #[.pointer (some ⟨P, 0, none⟩), .int .u32 sid, .int .u32 vid, .int .i64 m] w fun e w' => ClPost w w' e (noPl 20) := by
  have hbw0 : Below w.heap.size w (w.alloc (.cells zeroPl 39)) := (Below.refl _ _).alloc (Nat.le_refl _) _
  have hG0 : (w.alloc (.cells zeroPl 39)).heap[w.heap.size]? = some (.cells zeroPl 39 (0, 0)) := heap_alloc_at _ _
  have HSU := hide (subject_some _ P S A ps full sid site anchor (h.below hbw0) hs hO k0 k1)
  have HP := hide h
  have HV := hide hv
  clear h hO hv
  go_enter Tryd.func21, Tryd.ntmps21
  go_upto_region 4 with (go_at_call 31; refine (dayOf_ok _ _ m1 m2).mono ?_; rintro e w' ⟨rfl, rfl⟩)
  go_upto_region 7 with (go_at_call 26; refine HSU.out.mono ?_; rintro e w1 ⟨rfl, hb1⟩)
  obtain ⟨w2, hw2⟩ : ∃ w2, w2 = w1.alloc (.cells #[.int .u32 sid, .int .u32 site, .int .i64 anchor] 45) := ⟨_, rfl⟩
  have hl1 : w.heap.size < w1.heap.size := by have := hb1.size; simp at this; omega
  have hbw1 : Below w.heap.size w w1 := hbw0.trans (hb1.mono (by simp))
  have hbw2 : Below w.heap.size w w2 := by rw [hw2]; exact hbw1.alloc hbw1.size _
  have hG2 : w2.heap[w.heap.size]? = some (.cells zeroPl 39 (0, 0)) := by rw [hw2, Below.heap_alloc _ _ _ hl1]; exact (hb1.block _ (by simp)).trans hG0
  have hl2 : w.heap.size < w2.heap.size := by rw [hw2]; simp; omega
  have HW2 := hide hw2
  rw [← HW2.out]
  have HVA := hide (versionAt_calls w2 P S A ps full vers m (HP.out.below hbw2) HV.out m1 m2)
  rw [hin] at HVA
  clear hw2 hin
  go_upto_region 8 with (go_at_call 22; refine HVA.out.mono ?_; rintro e w3 ⟨hres, hb3⟩; have hres' : e = .returned (.tuple #[.agg #[.int .u32 0, .int .i64 0, .slice none 0 0], errV 20]) := hres; clear hres; subst hres')
  have hl3 : w.heap.size < w3.heap.size := Nat.lt_of_lt_of_le hl2 hb3.size
  have hG3 : w3.heap[w.heap.size]? = some (.cells zeroPl 39 (0, 0)) := (hb3.block _ hl2).trans hG2
  have hbw3 : Below w.heap.size w w3 := hbw2.trans (hb3.mono hbw2.size)
  have hwh := whole_of_heap hG3
  simp only [zeroPl, List.size_toArray, List.length_cons, List.length_nil] at hwh
  go_wp2
  have hfin : ((w3.setRow w.heap.size zeroPl).alloc (.cells #[.int .u32 0, .int .i64 0, .slice none 0 0] 41)).heap[w.heap.size]? = some (.cells zeroPl 39 (0, 0)) := (Below.heap_alloc _ _ _ (by simpa using hl3)).trans (heap_setRow_at hG3)
  refine bodyPost_ret (results_cell_tmp Tryd.results21 _ _ w.heap.size _ _ _ _ rfl hfin Tryd.underlying39 rfl (by kernel_rfl)) rfl ?_
  exact cl_no (by decide) ((hbw3.trans (below_setRow' _ _ (Nat.le_refl _))).alloc (by simp; omega) _)

set_option maxRecDepth 100000 in
set_option maxHeartbeats 4000000 in
theorem classify_main (w : World) (P S : Nat) (A : Nat → Prop) (ps : List KV) (full : Bool) (vers : List Ver) (sid vid m site anchor : Int) (k : Nat) (hk : k < vers.length) (h : PAt w P S A ps full) (hv : VersRep ps vers) (m1 : 0 ≤ m) (m2 : m ≤ 157785119) (hs : U32 sid) (hO : getB ps (keyB 117 sid) = some (subB site anchor)) (k0 : U32 site) (k1 : 0 ≤ anchor ∧ anchor ≤ 157785119) (hin : inF vers m = some k) (hvb : ∀ v ∈ vers[k].2, VB v) :
    Calls Tryd.prog 21 #[.pointer (some ⟨P, 0, none⟩), .int .u32 sid, .int .u32 vid, .int .i64 m] w fun e w' => ClPost w w' e (clsT ((k : Int) + 1) (anchor / 1440) (m / 1440) vid vers[k].2) := by
  obtain ⟨R, hR⟩ : ∃ R, R = clsT ((k : Int) + 1) (anchor / 1440) (m / 1440) vid vers[k].2 := ⟨_, rfl⟩
  have HR0 := hide hR
  rw [← hR]
  have hbw0 : Below w.heap.size w (w.alloc (.cells zeroPl 39)) := (Below.refl _ _).alloc (Nat.le_refl _) _
  have hG0 : (w.alloc (.cells zeroPl 39)).heap[w.heap.size]? = some (.cells zeroPl 39 (0, 0)) := heap_alloc_at _ _
  have HSU := hide (subject_some _ P S A ps full sid site anchor (h.below hbw0) hs hO k0 ⟨by omega, by omega⟩)
  have HP := hide h
  have HV := hide hv
  have hkl : k ≤ 1000000 := by have := hv.len; omega
  clear h hO hv hR
  go_enter Tryd.func21, Tryd.ntmps21
  go_upto_region 4 with (go_at_call 31; refine (dayOf_ok _ _ m1 m2).mono ?_; rintro e w' ⟨rfl, rfl⟩)
  go_upto_region 7 with (go_at_call 26; refine HSU.out.mono ?_; rintro e w1 ⟨rfl, hb1⟩)
  obtain ⟨w2, hw2⟩ : ∃ w2, w2 = w1.alloc (.cells #[.int .u32 sid, .int .u32 site, .int .i64 anchor] 45) := ⟨_, rfl⟩
  have hl1 : w.heap.size < w1.heap.size := by have := hb1.size; simp at this; omega
  have hbw1 : Below w.heap.size w w1 := hbw0.trans (hb1.mono (by simp))
  have hbw2 : Below w.heap.size w w2 := by rw [hw2]; exact hbw1.alloc hbw1.size _
  have hG2 : w2.heap[w.heap.size]? = some (.cells zeroPl 39 (0, 0)) := by rw [hw2, Below.heap_alloc _ _ _ hl1]; exact (hb1.block _ (by simp)).trans hG0
  have hs2 : w2.heap.size = w1.heap.size + 1 := by rw [hw2]; simp
  have hA2 : w2.cell? ⟨w1.heap.size, 2, none⟩ = some (.int .i64 anchor) := by rw [hw2]; simp
  have HW2 := hide hw2
  rw [← HW2.out]
  have HVA := hide (versionAt_calls w2 P S A ps full vers m (HP.out.below hbw2) HV.out m1 m2)
  rw [hin] at HVA
  clear hw2 hin
  go_upto_region 10 with (go_at_call 22; refine HVA.out.mono ?_; rintro e w3 ⟨⟨hk', iv, rfl, hvis⟩, hb3⟩; obtain ⟨ia, icap, hiv⟩ := hvis.form; subst hiv)
  obtain ⟨vs, hvs⟩ : ∃ vs, vs = vers[k].2 := ⟨_, rfl⟩
  obtain ⟨EF, hEF⟩ : ∃ EF, EF = vers[k].1 := ⟨_, rfl⟩
  rw [← hvs] at hvis HR0 hvb ⊢
  rw [← hEF]
  clear hvs hEF
  obtain ⟨zs, hRR, hzm, hzp⟩ := hvis.lt
  obtain ⟨a, cap, b, off, hv0, hl, hm, hr, ha, hc⟩ := hRR
  obtain ⟨n, hn⟩ : ∃ n, n = zs.length := ⟨_, rfl⟩
  have hnv : vs.length = n := by rw [hn, ← hzm]; simp
  rw [hnv] at hv0 ⊢
  rw [← hn] at hv0
  injection hv0 with q1 q2 q3
  subst q1 q3
  rw [← hn] at hl hr ha
  have hi := run_indexAt_arr (P := Tryd.prog) (n := n) (cap := icap) Tryd.underlying32 Tryd.size63 (fun h => (ha h).1)
  have HB : Hid (0 < n → w2.heap.size ≤ b ∧ b < w3.heap.size) := fun h => ⟨(ha h).2.1, (ha h).2.2⟩
  have HC := hide hc
  have HZM := hide hzm
  have HN := hide hn
  have HNV := hide hnv
  have HVB := hide hvb
  obtain ⟨w4, hw4⟩ : ∃ w4, w4 = w3.alloc (.cells #[.int .u32 ((k : Int) + 1), .int .i64 EF, .slice ia n icap] 41) := ⟨_, rfl⟩
  have hbw3 : Below w.heap.size w w3 := hbw2.trans (hb3.mono hbw2.size)
  have hbw4 : Below w.heap.size w w4 := by rw [hw4]; exact hbw3.alloc hbw3.size _
  have hl3 : w2.heap.size ≤ w3.heap.size := hb3.size
  have hs4 : w4.heap.size = w3.heap.size + 1 := by rw [hw4]; simp
  have hG4 : w4.heap[w.heap.size]? = some (.cells zeroPl 39 (0, 0)) := by
    rw [hw4, Below.heap_alloc _ _ _ (by omega), hb3.block _ (by omega)]; exact hG2
  have hA4 : w4.cell? ⟨w1.heap.size, 2, none⟩ = some (.int .i64 anchor) := by
    rw [hw4, Below.cell ((Below.refl w3.heap.size w3).alloc (Nat.le_refl _) _) (p := ⟨w1.heap.size, 2, none⟩) (by show w1.heap.size < _; omega), hb3.cell (p := ⟨w1.heap.size, 2, none⟩) (by show w1.heap.size < _; omega)]
    exact hA2
  have f0 : w4.cell? ⟨w3.heap.size, 0, none⟩ = some (.int .u32 ((k : Int) + 1)) := by rw [hw4]; simp
  have f2 : w4.cell? ⟨w3.heap.size, 2, none⟩ = some (.slice ia n icap) := by rw [hw4]; simp
  have HRG : Hid (∀ i (hi : i < zs.length), rng w4 b (off + i * 5) 5 = some (vzCs zs[i])) := fun i hi => by
    have hbl := HB.out (by rw [HN.out]; omega)
    rw [hw4, rng_of_block (Below.heap_alloc _ _ b hbl.2)]
    exact HC.out i hi
  have HW4 := hide hw4
  rw [← HW4.out]
  have hAd : 0 ≤ anchor / 1440 ∧ anchor / 1440 ≤ 109572 := by omega
  have hR1 : Hid (R = clsT ((k : Int) + 1) (anchor / 1440) (m / 1440) vid (vs.drop 0)) := HR0
  clear hw4 hc hzm hn hnv ha hvis hzp hvb hm hG2 hA2 hG0 HR0 HVA HSU q2 hb3
  go_wp2
  go_loopw [14] (fun j wr => ∃ q : Nat, q ≤ n ∧ j = .int .i64 q ∧ w4 = wr ∧ Hid (R = clsT ((k : Int) + 1) (anchor / 1440) (m / 1440) vid (vs.drop q))) (fun j _ => n - (intOf j).toNat)
  case atStart => exact ⟨0, by omega, rfl, rfl, hR1⟩
  case round =>
    obtain ⟨q, hq, rfl, rfl, HRQ⟩ := hrel
    have hwh := whole_of_heap hG4
    simp only [zeroPl, List.size_toArray, List.length_cons, List.length_nil] at hwh
    by_cases hlt : q < n
    · have h1 : q < zs.length := by rw [← HN.out]; exact hlt
      have h2 : q < vs.length := by rw [HNV.out]; exact hlt
      have hvq : vs[q] = zs[q].1 := by simp [← HZM.out]
      have hrg := HRG.out q h1
      have hVBq := HVB.out vs[q] (List.getElem_mem h2)
      have hRs : R = if vs[q].id = vid then clsEnd ((k : Int) + 1) (anchor / 1440) (m / 1440) vs[q] (vs.drop (q + 1)) else clsT ((k : Int) + 1) (anchor / 1440) (m / 1440) vid (vs.drop (q + 1)) := by
        rw [HRQ.out, List.drop_eq_getElem_cons h2, clsT]
      rw [hvq] at hRs hVBq
      have HCALLB := hide (fun W => window_bad W (anchor / 1440) zs[q] hAd.1 hAd.2 hVBq)
      have HCALLO := hide (fun W => window_ok W (anchor / 1440) zs[q] hAd.1 hAd.2 hVBq)
      generalize zs[q] = z at *
      obtain ⟨⟨xid, xta, xea, xla, xpa⟩, ⟨pa, pn, pc⟩⟩ := z
      have c0 := (rng_cell hrg).2 0 (by decide)
      have c1 := (rng_cell hrg).2 1 (by decide)
      have c2 := (rng_cell hrg).2 2 (by decide)
      have c3 := (rng_cell hrg).2 3 (by decide)
      have c4 := (rng_cell hrg).2 4 (by decide)
      simp only [vzCs, sv, List.getElem?_toArray, List.getElem?_cons_zero, List.getElem?_cons_succ, Nat.add_zero] at c0 c1 c2 c3 c4
      simp only [vzCs, sv] at HCALLB HCALLO
      simp only at hRs
      have hne1 : decide ((q : Int) < (n : Int)) = true := decide_eq_true (by omega)
      have hne2 : ((q : Int) == (n : Int)) = false := by simp; omega
      clear hrg hvq hVBq
      by_cases hid : xid = vid
      · rw [if_pos hid] at hRs
        have HRS := hide hRs
        have hbid : (xid != vid) = false := by simp [hid]
        clear hRs hid HRQ
        by_cases hout : outD (anchor / 1440 + xta - xea) ∨ outD (anchor / 1440 + xta + xla)
        · have HF : Hid (R = noPl 4) := by show _ = _; rw [HRS.out]; unfold clsEnd; exact if_pos hout
          have HW := hide (HCALLB.out w4 hout)
          clear hout
          go_upto_region 17 with (go_at_call 61; refine HW.out.mono ?_; rintro e w5 ⟨rfl, hb5⟩)
          have hG5 : w5.heap[w.heap.size]? = some (.cells zeroPl 39 (0, 0)) := (hb5.block _ (by omega)).trans hG4
          have hwh5 := whole_of_heap hG5
          simp only [zeroPl, List.size_toArray, List.length_cons, List.length_nil] at hwh5
          go_wp2
          have hfin := heap_setRow_at (ds := zeroPl) hG5
          refine bodyPost_ret (results_cell_tmp Tryd.results21 _ _ w.heap.size _ _ _ _ rfl hfin Tryd.underlying39 rfl (by kernel_rfl)) rfl ?_
          exact ret_cl HF (cl_no (by decide) ((hbw4.trans (hb5.mono hbw4.size)).trans (below_setRow' _ _ (Nat.le_refl _))))
        · have HRS1 : Hid (R = match vs.drop (q + 1) with
            | [] => ⟨0, (k : Int) + 1, if m / 1440 < anchor / 1440 + xta - xea then 1 else if m / 1440 ≤ anchor / 1440 + xta + xla then 2 else 3, anchor / 1440 + xta - xea, anchor / 1440 + xta + xla⟩
            | x :: _ => if outD (anchor / 1440 + x.target - x.early) then noPl 4
              else ⟨0, (k : Int) + 1, if m / 1440 < anchor / 1440 + xta - xea then 1 else if m / 1440 ≤ anchor / 1440 + xta + xla then 2 else if anchor / 1440 + x.target - x.early ≤ m / 1440 then 4 else 3, anchor / 1440 + xta - xea, anchor / 1440 + xta + xla⟩) := by show _ = _; rw [HRS.out]; unfold clsEnd; exact if_neg hout
          have HW := hide (HCALLO.out w4 (fun h => hout (Or.inl h)) (fun h => hout (Or.inr h)))
          clear hout HRS HCALLB HCALLO
          generalize hOPN : anchor / 1440 + xta - xea = OPN at *
          generalize hCLO : anchor / 1440 + xta + xla = CLO at *
          clear hOPN hCLO
          go_upto_region 19 with (go_at_call 61; refine HW.out.mono ?_; rintro e w5 ⟨rfl, hb5⟩)
          have hl5 : w4.heap.size ≤ w5.heap.size := hb5.size
          have hG5 : w5.heap[w.heap.size]? = some (.cells zeroPl 39 (0, 0)) := (hb5.block _ (by omega)).trans hG4
          have hbw5 : Below w.heap.size w w5 := hbw4.trans (hb5.mono hbw4.size)
          have f05 : w5.cell? ⟨w3.heap.size, 0, none⟩ = some (.int .u32 ((k : Int) + 1)) := (hb5.cell (p := ⟨w3.heap.size, 0, none⟩) (by show w3.heap.size < _; omega)).trans f0
          have f25 : w5.cell? ⟨w3.heap.size, 2, none⟩ = some (.slice ia n icap) := (hb5.cell (p := ⟨w3.heap.size, 2, none⟩) (by show w3.heap.size < _; omega)).trans f2
          go_upto_region 20 with fail
          obtain ⟨w6, hw6⟩ : ∃ w6, w6 = w5.alloc (.cells #[.int .u32 ((k : Int) + 1), .int .u8 3, .int .i64 OPN, .int .i64 CLO] 39) := ⟨_, rfl⟩
          have hc6 : w6.heap[w5.heap.size]? = some (.cells #[.int .u32 ((k : Int) + 1), .int .u8 3, .int .i64 OPN, .int .i64 CLO] 39 (0, 0)) := by rw [hw6]; exact heap_alloc_at _ _
          have hG6 : w6.heap[w.heap.size]? = some (.cells zeroPl 39 (0, 0)) := by rw [hw6, Below.heap_alloc _ _ _ (by omega)]; exact hG5
          have hbw6 : Below w.heap.size w w6 := by rw [hw6]; exact hbw5.alloc hbw5.size _
          have hs6 : w6.heap.size = w5.heap.size + 1 := by rw [hw6]; simp
          have f26 : w6.cell? ⟨w3.heap.size, 2, none⟩ = some (.slice ia n icap) := by
            rw [hw6, Below.cell ((Below.refl w5.heap.size w5).alloc (Nat.le_refl _) _) (p := ⟨w3.heap.size, 2, none⟩) (by show w3.heap.size < _; omega)]; exact f25
          have g1c : w6.cell? ⟨w5.heap.size, 1, none⟩ = some (.int .u8 3) := by rw [World.cell?, hc6]; rfl
          have g1f : w6.frozen? ⟨w5.heap.size, 1, none⟩ = false := by rw [World.frozen?, hc6]; rfl
          have HRG6 : Hid (∀ i (hi : i < zs.length), rng w6 b (off + i * 5) 5 = some (vzCs zs[i])) := fun i hi => by
            have hbl := HB.out (by rw [HN.out]; omega)
            rw [hw6, rng_of_block (Below.heap_alloc _ _ b (by omega)), rng_of_block (hb5.block b (by omega))]
            exact HRG.out i hi
          have HW6 := hide hw6
          rw [← HW6.out]
          clear hw6 HW
          by_cases hnx : q + 1 < n
          · have h3 : q + 1 < zs.length := by rw [← HN.out]; exact hnx
            have h4 : q + 1 < vs.length := by rw [HNV.out]; exact hnx
            have hvn : vs[q + 1] = zs[q + 1].1 := by simp [← HZM.out]
            have hrg2 := HRG6.out (q + 1) h3
            have hVBn := HVB.out vs[q + 1] (List.getElem_mem h4)
            have hR3 := HRS1.out
            rw [List.drop_eq_getElem_cons h4] at hR3
            simp only [hvn] at hR3
            rw [hvn] at hVBn
            generalize zs[q + 1] = z at *
            obtain ⟨⟨yid, yta, yea, yla, ypa⟩, ⟨ya, yn, yc⟩⟩ := z
            obtain ⟨v1, v2, v3, v4, -, -⟩ := hVBn
            simp only at v1 v2 v3 v4 hR3
            have y0 := (rng_cell hrg2).2 0 (by decide)
            have y1 := (rng_cell hrg2).2 1 (by decide)
            have y2 := (rng_cell hrg2).2 2 (by decide)
            have y3 := (rng_cell hrg2).2 3 (by decide)
            have y4 := (rng_cell hrg2).2 4 (by decide)
            simp only [vzCs, sv, List.getElem?_toArray, List.getElem?_cons_zero, List.getElem?_cons_succ, Nat.add_zero] at y0 y1 y2 y3 y4
            have HR3 := hide hR3
            have hi2 := fun W => hi W ((q : Int) + 1) (by omega) (by omega)
            rw [show ((q : Int) + 1).toNat = q + 1 by omega] at hi2
            have hnd : decide ((q : Int) + 1 < (n : Int)) = true := decide_eq_true (by omega)
            clear hrg2 hvn hR3 HRS1
            go_upto_region 22 with fail
            obtain ⟨wB, hwB⟩ : ∃ wB, wB = w6.alloc (.cells #[.int .u32 yid, .int .i64 yta, .int .i64 yea, .int .i64 yla, .slice ya yn yc] 63) := ⟨_, rfl⟩
            have hcB : wB.heap[w5.heap.size]? = some (.cells #[.int .u32 ((k : Int) + 1), .int .u8 3, .int .i64 OPN, .int .i64 CLO] 39 (0, 0)) := by rw [hwB, Below.heap_alloc _ _ _ (by omega)]; exact hc6
            have hGB : wB.heap[w.heap.size]? = some (.cells zeroPl 39 (0, 0)) := by rw [hwB, Below.heap_alloc _ _ _ (by omega)]; exact hG6
            have hbB : Below w.heap.size w wB := by rw [hwB]; exact hbw6.alloc hbw6.size _
            have n1 : wB.cell? ⟨w6.heap.size, 1, none⟩ = some (.int .i64 yta) := by rw [hwB]; simp
            have n2 : wB.cell? ⟨w6.heap.size, 2, none⟩ = some (.int .i64 yea) := by rw [hwB]; simp
            rw [hs6] at n1 n2
            have b1c : wB.cell? ⟨w5.heap.size, 1, none⟩ = some (.int .u8 3) := by rw [World.cell?, hcB]; rfl
            have b1f : wB.frozen? ⟨w5.heap.size, 1, none⟩ = false := by rw [World.frozen?, hcB]; rfl
            have HWB := hide hwB
            rw [← HWB.out]
            clear hwB
            by_cases hno : outD (anchor / 1440 + yta - yea)
            · have HF : Hid (R = noPl 4) := by show _ = _; rw [HR3.out, if_pos hno]
              have HAD := hide (fun W => addDays_over (anchor / 1440) (yta - yea) W hAd.1 hAd.2 (by unfold outD at hno; omega))
              have hwhB := whole_of_heap hGB
              simp only [zeroPl, List.size_toArray, List.length_cons, List.length_nil] at hwhB
              clear hno
              go_wp2_with (go_at_call 32; refine (HAD.out _).mono ?_; rintro e w9 ⟨rfl, rfl⟩)
              have hfin := heap_setRow_at (ds := zeroPl) hGB
              refine bodyPost_ret (results_cell_tmp Tryd.results21 _ _ w.heap.size _ _ _ _ rfl hfin Tryd.underlying39 rfl (by kernel_rfl)) rfl ?_
              exact ret_cl HF (cl_no (by decide) (hbB.trans (below_setRow' _ _ (Nat.le_refl _))))
            · have HAD := hide (fun W => addDays_ok (anchor / 1440) (yta - yea) W hAd.1 hAd.2 (by unfold outD at hno; omega) (by unfold outD at hno; omega))
              have HRS1b : Hid (R = ⟨0, (k : Int) + 1, if m / 1440 < OPN then 1 else if m / 1440 ≤ CLO then 2 else if anchor / 1440 + yta - yea ≤ m / 1440 then 4 else 3, OPN, CLO⟩) := by show _ = _; rw [HR3.out, if_neg hno]
              have E1 : Hid (anchor / 1440 + (yta - yea) = anchor / 1440 + yta - yea) := by show _ = _; omega
              clear hno HR3
              go_upto_region 25 with (go_at_call 32; refine (HAD.out _).mono ?_; rintro e w9 ⟨rfl, rfl⟩; rw [E1.out])
              generalize hNO : anchor / 1440 + yta - yea = NO at *
              clear hNO
              by_cases d3 : NO ≤ m / 1440
              · have HRS2 : Hid (R = ⟨0, (k : Int) + 1, if m / 1440 < OPN then 1 else if m / 1440 ≤ CLO then 2 else 4, OPN, CLO⟩) := by show _ = _; rw [HRS1b.out, if_pos d3]
                by_cases d1 : m / 1440 < OPN
                · have HF : Hid (R = ⟨0, (k : Int) + 1, 1, OPN, CLO⟩) := by show _ = _; rw [HRS2.out, if_pos d1]
                  go_upto_region 31 with fail
                  obtain ⟨wB0, hw0⟩ : ∃ wB0, wB0 = wB.setCell ⟨w5.heap.size, 1, none⟩ (.int .u8 4) := ⟨_, rfl⟩
                  have hcB0 : wB0.heap[w5.heap.size]? = some (.cells #[.int .u32 ((k : Int) + 1), .int .u8 4, .int .i64 OPN, .int .i64 CLO] 39 (0, 0)) := by rw [hw0, heap_setCell_same _ _ _ _ _ _ hcB]; rfl
                  have hGB0 : wB0.heap[w.heap.size]? = some (.cells zeroPl 39 (0, 0)) := by rw [hw0, Below.heap_setCell _ _ _ _ (by show w.heap.size ≠ w5.heap.size; omega)]; exact hGB
                  have hbB0 : Below w.heap.size w wB0 := by rw [hw0]; exact (hbB).setCell (p := ⟨w5.heap.size, 1, none⟩) (by show w.heap.size ≤ w5.heap.size; omega) _
                  rw [← hw0]
                  clear hw0
                  obtain ⟨wB1, hw1⟩ : ∃ wB1, wB1 = wB0.setCell ⟨w5.heap.size, 1, none⟩ (.int .u8 1) := ⟨_, rfl⟩
                  have hcB1 : wB1.heap[w5.heap.size]? = some (.cells #[.int .u32 ((k : Int) + 1), .int .u8 1, .int .i64 OPN, .int .i64 CLO] 39 (0, 0)) := by rw [hw1, heap_setCell_same _ _ _ _ _ _ hcB0]; rfl
                  have hGB1 : wB1.heap[w.heap.size]? = some (.cells zeroPl 39 (0, 0)) := by rw [hw1, Below.heap_setCell _ _ _ _ (by show w.heap.size ≠ w5.heap.size; omega)]; exact hGB0
                  have hbB1 : Below w.heap.size w wB1 := by rw [hw1]; exact (hbB0).setCell (p := ⟨w5.heap.size, 1, none⟩) (by show w.heap.size ≤ w5.heap.size; omega) _
                  rw [← hw1]
                  clear hw1
                  have g0 : wB1.cell? ⟨w5.heap.size, 0, none⟩ = some (.int .u32 ((k : Int) + 1)) := by rw [World.cell?, hcB1]; rfl
                  have g1 : wB1.cell? ⟨w5.heap.size, 1, none⟩ = some (.int .u8 1) := by rw [World.cell?, hcB1]; rfl
                  have g2 : wB1.cell? ⟨w5.heap.size, 2, none⟩ = some (.int .i64 OPN) := by rw [World.cell?, hcB1]; rfl
                  have g3 : wB1.cell? ⟨w5.heap.size, 3, none⟩ = some (.int .i64 CLO) := by rw [World.cell?, hcB1]; rfl
                  have hwh := whole_of_heap hGB1
                  simp only [zeroPl, List.size_toArray, List.length_cons, List.length_nil] at hwh
                  go_wp2
                  have hfin := heap_setRow_at (ds := #[.int .u32 ((k : Int) + 1), .int .u8 1, .int .i64 OPN, .int .i64 CLO]) hGB1
                  refine bodyPost_ret (results_cell_tmp Tryd.results21 _ _ w.heap.size _ _ _ _ rfl hfin Tryd.underlying39 rfl (by kernel_rfl)) rfl ?_
                  exact ret_cl HF ⟨rfl, hbB1.trans (below_setRow' _ _ (Nat.le_refl _))⟩
                · by_cases d2 : m / 1440 ≤ CLO
                  · have HF : Hid (R = ⟨0, (k : Int) + 1, 2, OPN, CLO⟩) := by show _ = _; rw [HRS2.out, if_neg d1, if_pos d2]
                    go_upto_region 31 with fail
                    obtain ⟨wB0, hw0⟩ : ∃ wB0, wB0 = wB.setCell ⟨w5.heap.size, 1, none⟩ (.int .u8 4) := ⟨_, rfl⟩
                    have hcB0 : wB0.heap[w5.heap.size]? = some (.cells #[.int .u32 ((k : Int) + 1), .int .u8 4, .int .i64 OPN, .int .i64 CLO] 39 (0, 0)) := by rw [hw0, heap_setCell_same _ _ _ _ _ _ hcB]; rfl
                    have hGB0 : wB0.heap[w.heap.size]? = some (.cells zeroPl 39 (0, 0)) := by rw [hw0, Below.heap_setCell _ _ _ _ (by show w.heap.size ≠ w5.heap.size; omega)]; exact hGB
                    have hbB0 : Below w.heap.size w wB0 := by rw [hw0]; exact (hbB).setCell (p := ⟨w5.heap.size, 1, none⟩) (by show w.heap.size ≤ w5.heap.size; omega) _
                    rw [← hw0]
                    clear hw0
                    obtain ⟨wB1, hw1⟩ : ∃ wB1, wB1 = wB0.setCell ⟨w5.heap.size, 1, none⟩ (.int .u8 2) := ⟨_, rfl⟩
                    have hcB1 : wB1.heap[w5.heap.size]? = some (.cells #[.int .u32 ((k : Int) + 1), .int .u8 2, .int .i64 OPN, .int .i64 CLO] 39 (0, 0)) := by rw [hw1, heap_setCell_same _ _ _ _ _ _ hcB0]; rfl
                    have hGB1 : wB1.heap[w.heap.size]? = some (.cells zeroPl 39 (0, 0)) := by rw [hw1, Below.heap_setCell _ _ _ _ (by show w.heap.size ≠ w5.heap.size; omega)]; exact hGB0
                    have hbB1 : Below w.heap.size w wB1 := by rw [hw1]; exact (hbB0).setCell (p := ⟨w5.heap.size, 1, none⟩) (by show w.heap.size ≤ w5.heap.size; omega) _
                    rw [← hw1]
                    clear hw1
                    have g0 : wB1.cell? ⟨w5.heap.size, 0, none⟩ = some (.int .u32 ((k : Int) + 1)) := by rw [World.cell?, hcB1]; rfl
                    have g1 : wB1.cell? ⟨w5.heap.size, 1, none⟩ = some (.int .u8 2) := by rw [World.cell?, hcB1]; rfl
                    have g2 : wB1.cell? ⟨w5.heap.size, 2, none⟩ = some (.int .i64 OPN) := by rw [World.cell?, hcB1]; rfl
                    have g3 : wB1.cell? ⟨w5.heap.size, 3, none⟩ = some (.int .i64 CLO) := by rw [World.cell?, hcB1]; rfl
                    have hwh := whole_of_heap hGB1
                    simp only [zeroPl, List.size_toArray, List.length_cons, List.length_nil] at hwh
                    go_wp2
                    have hfin := heap_setRow_at (ds := #[.int .u32 ((k : Int) + 1), .int .u8 2, .int .i64 OPN, .int .i64 CLO]) hGB1
                    refine bodyPost_ret (results_cell_tmp Tryd.results21 _ _ w.heap.size _ _ _ _ rfl hfin Tryd.underlying39 rfl (by kernel_rfl)) rfl ?_
                    exact ret_cl HF ⟨rfl, hbB1.trans (below_setRow' _ _ (Nat.le_refl _))⟩
                  · have HF : Hid (R = ⟨0, (k : Int) + 1, 4, OPN, CLO⟩) := by show _ = _; rw [HRS2.out, if_neg d1, if_neg d2]
                    go_upto_region 31 with fail
                    obtain ⟨wB0, hw0⟩ : ∃ wB0, wB0 = wB.setCell ⟨w5.heap.size, 1, none⟩ (.int .u8 4) := ⟨_, rfl⟩
                    have hcB0 : wB0.heap[w5.heap.size]? = some (.cells #[.int .u32 ((k : Int) + 1), .int .u8 4, .int .i64 OPN, .int .i64 CLO] 39 (0, 0)) := by rw [hw0, heap_setCell_same _ _ _ _ _ _ hcB]; rfl
                    have hGB0 : wB0.heap[w.heap.size]? = some (.cells zeroPl 39 (0, 0)) := by rw [hw0, Below.heap_setCell _ _ _ _ (by show w.heap.size ≠ w5.heap.size; omega)]; exact hGB
                    have hbB0 : Below w.heap.size w wB0 := by rw [hw0]; exact (hbB).setCell (p := ⟨w5.heap.size, 1, none⟩) (by show w.heap.size ≤ w5.heap.size; omega) _
                    rw [← hw0]
                    clear hw0
                    have g0 : wB0.cell? ⟨w5.heap.size, 0, none⟩ = some (.int .u32 ((k : Int) + 1)) := by rw [World.cell?, hcB0]; rfl
                    have g1 : wB0.cell? ⟨w5.heap.size, 1, none⟩ = some (.int .u8 4) := by rw [World.cell?, hcB0]; rfl
                    have g2 : wB0.cell? ⟨w5.heap.size, 2, none⟩ = some (.int .i64 OPN) := by rw [World.cell?, hcB0]; rfl
                    have g3 : wB0.cell? ⟨w5.heap.size, 3, none⟩ = some (.int .i64 CLO) := by rw [World.cell?, hcB0]; rfl
                    have hwh := whole_of_heap hGB0
                    simp only [zeroPl, List.size_toArray, List.length_cons, List.length_nil] at hwh
                    go_wp2
                    have hfin := heap_setRow_at (ds := #[.int .u32 ((k : Int) + 1), .int .u8 4, .int .i64 OPN, .int .i64 CLO]) hGB0
                    refine bodyPost_ret (results_cell_tmp Tryd.results21 _ _ w.heap.size _ _ _ _ rfl hfin Tryd.underlying39 rfl (by kernel_rfl)) rfl ?_
                    exact ret_cl HF ⟨rfl, hbB0.trans (below_setRow' _ _ (Nat.le_refl _))⟩
              · have HRS2 : Hid (R = ⟨0, (k : Int) + 1, if m / 1440 < OPN then 1 else if m / 1440 ≤ CLO then 2 else 3, OPN, CLO⟩) := by show _ = _; rw [HRS1b.out, if_neg d3]
                by_cases d1 : m / 1440 < OPN
                · have HF : Hid (R = ⟨0, (k : Int) + 1, 1, OPN, CLO⟩) := by show _ = _; rw [HRS2.out, if_pos d1]
                  go_upto_region 31 with fail
                  obtain ⟨wB0, hw0⟩ : ∃ wB0, wB0 = wB.setCell ⟨w5.heap.size, 1, none⟩ (.int .u8 1) := ⟨_, rfl⟩
                  have hcB0 : wB0.heap[w5.heap.size]? = some (.cells #[.int .u32 ((k : Int) + 1), .int .u8 1, .int .i64 OPN, .int .i64 CLO] 39 (0, 0)) := by rw [hw0, heap_setCell_same _ _ _ _ _ _ hcB]; rfl
                  have hGB0 : wB0.heap[w.heap.size]? = some (.cells zeroPl 39 (0, 0)) := by rw [hw0, Below.heap_setCell _ _ _ _ (by show w.heap.size ≠ w5.heap.size; omega)]; exact hGB
                  have hbB0 : Below w.heap.size w wB0 := by rw [hw0]; exact (hbB).setCell (p := ⟨w5.heap.size, 1, none⟩) (by show w.heap.size ≤ w5.heap.size; omega) _
                  rw [← hw0]
                  clear hw0
                  have g0 : wB0.cell? ⟨w5.heap.size, 0, none⟩ = some (.int .u32 ((k : Int) + 1)) := by rw [World.cell?, hcB0]; rfl
                  have g1 : wB0.cell? ⟨w5.heap.size, 1, none⟩ = some (.int .u8 1) := by rw [World.cell?, hcB0]; rfl
                  have g2 : wB0.cell? ⟨w5.heap.size, 2, none⟩ = some (.int .i64 OPN) := by rw [World.cell?, hcB0]; rfl
                  have g3 : wB0.cell? ⟨w5.heap.size, 3, none⟩ = some (.int .i64 CLO) := by rw [World.cell?, hcB0]; rfl
                  have hwh := whole_of_heap hGB0
                  simp only [zeroPl, List.size_toArray, List.length_cons, List.length_nil] at hwh
                  go_wp2
                  have hfin := heap_setRow_at (ds := #[.int .u32 ((k : Int) + 1), .int .u8 1, .int .i64 OPN, .int .i64 CLO]) hGB0
                  refine bodyPost_ret (results_cell_tmp Tryd.results21 _ _ w.heap.size _ _ _ _ rfl hfin Tryd.underlying39 rfl (by kernel_rfl)) rfl ?_
                  exact ret_cl HF ⟨rfl, hbB0.trans (below_setRow' _ _ (Nat.le_refl _))⟩
                · by_cases d2 : m / 1440 ≤ CLO
                  · have HF : Hid (R = ⟨0, (k : Int) + 1, 2, OPN, CLO⟩) := by show _ = _; rw [HRS2.out, if_neg d1, if_pos d2]
                    go_upto_region 31 with fail
                    obtain ⟨wB0, hw0⟩ : ∃ wB0, wB0 = wB.setCell ⟨w5.heap.size, 1, none⟩ (.int .u8 2) := ⟨_, rfl⟩
                    have hcB0 : wB0.heap[w5.heap.size]? = some (.cells #[.int .u32 ((k : Int) + 1), .int .u8 2, .int .i64 OPN, .int .i64 CLO] 39 (0, 0)) := by rw [hw0, heap_setCell_same _ _ _ _ _ _ hcB]; rfl
                    have hGB0 : wB0.heap[w.heap.size]? = some (.cells zeroPl 39 (0, 0)) := by rw [hw0, Below.heap_setCell _ _ _ _ (by show w.heap.size ≠ w5.heap.size; omega)]; exact hGB
                    have hbB0 : Below w.heap.size w wB0 := by rw [hw0]; exact (hbB).setCell (p := ⟨w5.heap.size, 1, none⟩) (by show w.heap.size ≤ w5.heap.size; omega) _
                    rw [← hw0]
                    clear hw0
                    have g0 : wB0.cell? ⟨w5.heap.size, 0, none⟩ = some (.int .u32 ((k : Int) + 1)) := by rw [World.cell?, hcB0]; rfl
                    have g1 : wB0.cell? ⟨w5.heap.size, 1, none⟩ = some (.int .u8 2) := by rw [World.cell?, hcB0]; rfl
                    have g2 : wB0.cell? ⟨w5.heap.size, 2, none⟩ = some (.int .i64 OPN) := by rw [World.cell?, hcB0]; rfl
                    have g3 : wB0.cell? ⟨w5.heap.size, 3, none⟩ = some (.int .i64 CLO) := by rw [World.cell?, hcB0]; rfl
                    have hwh := whole_of_heap hGB0
                    simp only [zeroPl, List.size_toArray, List.length_cons, List.length_nil] at hwh
                    go_wp2
                    have hfin := heap_setRow_at (ds := #[.int .u32 ((k : Int) + 1), .int .u8 2, .int .i64 OPN, .int .i64 CLO]) hGB0
                    refine bodyPost_ret (results_cell_tmp Tryd.results21 _ _ w.heap.size _ _ _ _ rfl hfin Tryd.underlying39 rfl (by kernel_rfl)) rfl ?_
                    exact ret_cl HF ⟨rfl, hbB0.trans (below_setRow' _ _ (Nat.le_refl _))⟩
                  · have HF : Hid (R = ⟨0, (k : Int) + 1, 3, OPN, CLO⟩) := by show _ = _; rw [HRS2.out, if_neg d1, if_neg d2]
                    go_upto_region 31 with fail
                    have g0 : wB.cell? ⟨w5.heap.size, 0, none⟩ = some (.int .u32 ((k : Int) + 1)) := by rw [World.cell?, hcB]; rfl
                    have g1 : wB.cell? ⟨w5.heap.size, 1, none⟩ = some (.int .u8 3) := by rw [World.cell?, hcB]; rfl
                    have g2 : wB.cell? ⟨w5.heap.size, 2, none⟩ = some (.int .i64 OPN) := by rw [World.cell?, hcB]; rfl
                    have g3 : wB.cell? ⟨w5.heap.size, 3, none⟩ = some (.int .i64 CLO) := by rw [World.cell?, hcB]; rfl
                    have hwh := whole_of_heap hGB
                    simp only [zeroPl, List.size_toArray, List.length_cons, List.length_nil] at hwh
                    go_wp2
                    have hfin := heap_setRow_at (ds := #[.int .u32 ((k : Int) + 1), .int .u8 3, .int .i64 OPN, .int .i64 CLO]) hGB
                    refine bodyPost_ret (results_cell_tmp Tryd.results21 _ _ w.heap.size _ _ _ _ rfl hfin Tryd.underlying39 rfl (by kernel_rfl)) rfl ?_
                    exact ret_cl HF ⟨rfl, hbB.trans (below_setRow' _ _ (Nat.le_refl _))⟩
          · have HRS2 : Hid (R = ⟨0, (k : Int) + 1, if m / 1440 < OPN then 1 else if m / 1440 ≤ CLO then 2 else 3, OPN, CLO⟩) := by
              show _ = _
              have := HRS1.out
              rw [List.drop_of_length_le (by rw [HNV.out]; omega)] at this
              exact this
            have hnd : decide ((q : Int) + 1 < (n : Int)) = false := decide_eq_false (by omega)
            obtain ⟨wB, hwB⟩ : ∃ wB, wB = w6 := ⟨_, rfl⟩
            subst hwB
            have hcB := hc6
            have hGB := hG6
            have hbB := hbw6
            clear HRS1
            by_cases d1 : m / 1440 < OPN
            · have HF : Hid (R = ⟨0, (k : Int) + 1, 1, OPN, CLO⟩) := by show _ = _; rw [HRS2.out, if_pos d1]
              go_upto_region 31 with fail
              obtain ⟨wB0, hw0⟩ : ∃ wB0, wB0 = wB.setCell ⟨w5.heap.size, 1, none⟩ (.int .u8 1) := ⟨_, rfl⟩
              have hcB0 : wB0.heap[w5.heap.size]? = some (.cells #[.int .u32 ((k : Int) + 1), .int .u8 1, .int .i64 OPN, .int .i64 CLO] 39 (0, 0)) := by rw [hw0, heap_setCell_same _ _ _ _ _ _ hcB]; rfl
              have hGB0 : wB0.heap[w.heap.size]? = some (.cells zeroPl 39 (0, 0)) := by rw [hw0, Below.heap_setCell _ _ _ _ (by show w.heap.size ≠ w5.heap.size; omega)]; exact hGB
              have hbB0 : Below w.heap.size w wB0 := by rw [hw0]; exact (hbB).setCell (p := ⟨w5.heap.size, 1, none⟩) (by show w.heap.size ≤ w5.heap.size; omega) _
              rw [← hw0]
              clear hw0
              have g0 : wB0.cell? ⟨w5.heap.size, 0, none⟩ = some (.int .u32 ((k : Int) + 1)) := by rw [World.cell?, hcB0]; rfl
              have g1 : wB0.cell? ⟨w5.heap.size, 1, none⟩ = some (.int .u8 1) := by rw [World.cell?, hcB0]; rfl
              have g2 : wB0.cell? ⟨w5.heap.size, 2, none⟩ = some (.int .i64 OPN) := by rw [World.cell?, hcB0]; rfl
              have g3 : wB0.cell? ⟨w5.heap.size, 3, none⟩ = some (.int .i64 CLO) := by rw [World.cell?, hcB0]; rfl
              have hwh := whole_of_heap hGB0
              simp only [zeroPl, List.size_toArray, List.length_cons, List.length_nil] at hwh
              go_wp2
              have hfin := heap_setRow_at (ds := #[.int .u32 ((k : Int) + 1), .int .u8 1, .int .i64 OPN, .int .i64 CLO]) hGB0
              refine bodyPost_ret (results_cell_tmp Tryd.results21 _ _ w.heap.size _ _ _ _ rfl hfin Tryd.underlying39 rfl (by kernel_rfl)) rfl ?_
              exact ret_cl HF ⟨rfl, hbB0.trans (below_setRow' _ _ (Nat.le_refl _))⟩
            · by_cases d2 : m / 1440 ≤ CLO
              · have HF : Hid (R = ⟨0, (k : Int) + 1, 2, OPN, CLO⟩) := by show _ = _; rw [HRS2.out, if_neg d1, if_pos d2]
                go_upto_region 31 with fail
                obtain ⟨wB0, hw0⟩ : ∃ wB0, wB0 = wB.setCell ⟨w5.heap.size, 1, none⟩ (.int .u8 2) := ⟨_, rfl⟩
                have hcB0 : wB0.heap[w5.heap.size]? = some (.cells #[.int .u32 ((k : Int) + 1), .int .u8 2, .int .i64 OPN, .int .i64 CLO] 39 (0, 0)) := by rw [hw0, heap_setCell_same _ _ _ _ _ _ hcB]; rfl
                have hGB0 : wB0.heap[w.heap.size]? = some (.cells zeroPl 39 (0, 0)) := by rw [hw0, Below.heap_setCell _ _ _ _ (by show w.heap.size ≠ w5.heap.size; omega)]; exact hGB
                have hbB0 : Below w.heap.size w wB0 := by rw [hw0]; exact (hbB).setCell (p := ⟨w5.heap.size, 1, none⟩) (by show w.heap.size ≤ w5.heap.size; omega) _
                rw [← hw0]
                clear hw0
                have g0 : wB0.cell? ⟨w5.heap.size, 0, none⟩ = some (.int .u32 ((k : Int) + 1)) := by rw [World.cell?, hcB0]; rfl
                have g1 : wB0.cell? ⟨w5.heap.size, 1, none⟩ = some (.int .u8 2) := by rw [World.cell?, hcB0]; rfl
                have g2 : wB0.cell? ⟨w5.heap.size, 2, none⟩ = some (.int .i64 OPN) := by rw [World.cell?, hcB0]; rfl
                have g3 : wB0.cell? ⟨w5.heap.size, 3, none⟩ = some (.int .i64 CLO) := by rw [World.cell?, hcB0]; rfl
                have hwh := whole_of_heap hGB0
                simp only [zeroPl, List.size_toArray, List.length_cons, List.length_nil] at hwh
                go_wp2
                have hfin := heap_setRow_at (ds := #[.int .u32 ((k : Int) + 1), .int .u8 2, .int .i64 OPN, .int .i64 CLO]) hGB0
                refine bodyPost_ret (results_cell_tmp Tryd.results21 _ _ w.heap.size _ _ _ _ rfl hfin Tryd.underlying39 rfl (by kernel_rfl)) rfl ?_
                exact ret_cl HF ⟨rfl, hbB0.trans (below_setRow' _ _ (Nat.le_refl _))⟩
              · have HF : Hid (R = ⟨0, (k : Int) + 1, 3, OPN, CLO⟩) := by show _ = _; rw [HRS2.out, if_neg d1, if_neg d2]
                go_upto_region 31 with fail
                have g0 : wB.cell? ⟨w5.heap.size, 0, none⟩ = some (.int .u32 ((k : Int) + 1)) := by rw [World.cell?, hcB]; rfl
                have g1 : wB.cell? ⟨w5.heap.size, 1, none⟩ = some (.int .u8 3) := by rw [World.cell?, hcB]; rfl
                have g2 : wB.cell? ⟨w5.heap.size, 2, none⟩ = some (.int .i64 OPN) := by rw [World.cell?, hcB]; rfl
                have g3 : wB.cell? ⟨w5.heap.size, 3, none⟩ = some (.int .i64 CLO) := by rw [World.cell?, hcB]; rfl
                have hwh := whole_of_heap hGB
                simp only [zeroPl, List.size_toArray, List.length_cons, List.length_nil] at hwh
                go_wp2
                have hfin := heap_setRow_at (ds := #[.int .u32 ((k : Int) + 1), .int .u8 3, .int .i64 OPN, .int .i64 CLO]) hGB
                refine bodyPost_ret (results_cell_tmp Tryd.results21 _ _ w.heap.size _ _ _ _ rfl hfin Tryd.underlying39 rfl (by kernel_rfl)) rfl ?_
                exact ret_cl HF ⟨rfl, hbB.trans (below_setRow' _ _ (Nat.le_refl _))⟩
      · rw [if_neg hid] at hRs
        have HRS := hide hRs
        have hbid : (xid != vid) = true := by simp [hid]
        clear hRs hid
        go_wp2
        go_roundw
        case measure => simp [intOf]; omega
        case rel => exact ⟨q + 1, by omega, by go_num, by first | rfl | trivial, HRS⟩
    · have hqn : q = n := by omega
      have HRS : Hid (R = ⟨0, (k : Int) + 1, 5, 0, 0⟩) := by
        show _ = _
        rw [HRQ.out, List.drop_of_length_le (by rw [HNV.out]; omega)]; rfl
      have hne1 : decide ((q : Int) < (n : Int)) = false := decide_eq_false (by omega)
      have hne2 : ((q : Int) == (n : Int)) = true := by simp; omega
      clear hqn HRQ
      go_wp2
      have hfin := heap_setRow_at (ds := #[.int .u32 ((k : Int) + 1), .int .u8 5, .int .i64 0, .int .i64 0]) hG4
      refine bodyPost_ret (results_cell_tmp Tryd.results21 _ _ w.heap.size _ _ _ _ rfl hfin Tryd.underlying39 rfl (by kernel_rfl)) rfl ?_
      exact ret_cl HRS ⟨rfl, hbw4.trans (below_setRow' _ _ (Nat.le_refl _))⟩

end Go.Proofs.Qxb6500665aDoor
