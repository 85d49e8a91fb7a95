/- classify of the model, walked. -/
import Derived.Test.Qxb6500665aDoorModPan
namespace Go.Proofs.Qxb6500665aDoor
open Go.RowKit Go.Proofs.Qxb6500665aDoor.Cal

attribute [local go_sem ↓] exec_stVersion exec_stSubject exec_stPlacement
attribute [local go_sem] run_stVersion run_stSubject run_stPlacement ones_iis ones_iii ones_iiii whole_alloc_lt whole_alloc_at whole_drew whole_setCell_other whole_setRow_other setRow_alloc_at setRow_alloc_lt ext_const Ext.cell Ext.frozen Ext.rng Ext.whole

def McPost (w w' : World) (e : Ending) (p : Pl) : Prop := e = .returned (.tuple #[.agg (plCs p), .int .u8 p.code]) ∧ Below w.heap.size w w'
theorem ret_mc {w w' : World} {e : Ending} {p q : Pl} (h : Hid (p = q)) (hp : McPost w w' e q) : McPost w w' e p := by rw [h.out]; exact hp

theorem clsT_none {num ad day visit : Int} : ∀ {vs : List Visit}, (∀ v ∈ vs, v.id ≠ visit) → clsT num ad day visit vs = ⟨0, num, 5, 0, 0⟩
  | [], _ => rfl
  | v :: r, h => by
    rw [clsT, if_neg (h v (List.mem_cons_self ..))]
    exact clsT_none (fun x hx => h x (List.mem_cons_of_mem _ hx))
theorem clsT_at {num ad day visit : Int} : ∀ {vs : List Visit} {k : Nat} (hk : k < vs.length), vs[k].id = visit → (vs.map (·.id)).Nodup → clsT num ad day visit vs = clsEnd num ad day vs[k] (vs.drop (k + 1))
  | [], k, hk, _, _ => absurd hk (by simp)
  | v :: r, 0, _, h, _ => by simp only [List.getElem_cons_zero] at h; rw [clsT, if_pos h]; rfl
  | v :: r, k + 1, hk, h, hn => by
    simp only [List.getElem_cons_succ] at h
    have hk' : k < r.length := by simpa using hk
    have hne : v.id ≠ visit := fun e => by
      rw [List.map_cons, List.nodup_cons] at hn
      exact hn.1 (by rw [e, ← h]; exact List.mem_map.2 ⟨r[k], List.getElem_mem hk', rfl⟩)
    rw [clsT, if_neg hne, clsT_at hk' h (by rw [List.map_cons, List.nodup_cons] at hn; exact hn.2)]
    rfl

/-- The visit that was found among the first q. -/
def fi (vid : Int) (vs : List Visit) : Nat → Option Nat
  | 0 => none
  | q + 1 => match vs[q]? with
    | some v => if v.id = vid then some q else fi vid vs q
    | none => fi vid vs q
theorem fi_some {vid : Int} {vs : List Visit} : ∀ {q k : Nat}, fi vid vs q = some k → ∃ h : k < vs.length, vs[k].id = vid
  | 0, k, h => by cases h
  | q + 1, k, h => by
    simp only [fi] at h
    cases hq : vs[q]? with
    | none => rw [hq] at h; exact fi_some h
    | some v =>
      rw [hq] at h
      simp only at h
      split at h
      · cases h
        obtain ⟨h1, h2⟩ := List.getElem?_eq_some_iff.1 hq
        exact ⟨h1, by rw [h2]; assumption⟩
      · exact fi_some h
theorem fi_none {vid : Int} {vs : List Visit} : ∀ {q : Nat}, fi vid vs q = none → ∀ j (hj : j < vs.length), j < q → vs[j].id ≠ vid
  | 0, _, j, hj, h => by omega
  | q + 1, h, j, hj, hlt => by
    simp only [fi] at h
    cases hq : vs[q]? with
    | none => rw [hq] at h; exact fi_none h j hj (by have := List.getElem?_eq_none_iff.1 hq; omega)
    | some v =>
      rw [hq] at h
      simp only at h
      split at h
      · cases h
      · by_cases he : j = q
        · subst he
          obtain ⟨h1, h2⟩ := List.getElem?_eq_some_iff.1 hq
          rw [h2]; assumption
        · exact fi_none h j hj (by omega)
def ptrV (b off : Nat) : Option Nat → Value
  | none => .pointer none
  | some k => .pointer (some ⟨b, off + k * 5, none⟩)

theorem verAtR_vis {T : Tab} {m : Int} (P : List Visit → Prop) (h0 : P []) (h : ∀ x ∈ T.vers, P x.2) : P (verAtR T m).2.2.2 := by
  rw [verAtR]
  split
  · exact h0
  · split
    · exact h0
    · rename_i k hk
      have hk' := inFrom_lt hk
      simp only [List.getElem?_eq_getElem hk', Option.getD_some]
      exact h _ (List.getElem_mem hk')
theorem clsR_eq {T : Tab} {sid vid m : Int} {s : Int × Int} (hm : 0 ≤ m ∧ m ≤ 157785119) (hs : T.sub sid = some s) : clsR T sid vid m = if (verAtR T m).1 = 0 then clsT (verAtR T m).2.1 (s.2 / 1440) (m / 1440) vid (verAtR T m).2.2.2 else noPl (verAtR T m).1 := by
  have hm' : ¬ (m < 0 ∨ 157785119 < m) := by omega
  unfold clsR verAtR
  simp only [if_neg hm', hs]
  cases inF T.vers m <;> rfl

set_option maxRecDepth 100000 in
set_option maxHeartbeats 8000000 in
theorem classify_m (w : World) (M base N a p s u : Nat) (v : Value) (C : Nat → Prop) (T : Tab) (full : Bool) (sid vid m : Int) (h : MAt w M base N a p s u v C T full) (hsid : U32 sid) (hasc : AscV T.vers) (hvl : T.vers.length ≤ 1000000)
    (hnd : ∀ x ∈ T.vers, (x.2.map (·.id)).Nodup) (htg : ∀ x ∈ T.vers, x.2.Pairwise (fun a b => a.target < b.target)) (hvb : ∀ x ∈ T.vers, ∀ y ∈ x.2, VB y) (hlen : ∀ x ∈ T.vers, x.2.length ≤ 12) (hsub : ∀ k s, T.sub k = some s → 0 ≤ s.2 ∧ s.2 ≤ 157785119) :
    Calls Tryd.prog 39 #[.pointer (some ⟨M, 0, none⟩), .int .u32 sid, .int .u32 vid, .int .i64 m] w fun e w' => McPost w w' e (clsR T sid vid m) := by
  obtain ⟨R, hR⟩ : ∃ R, R = clsR T sid vid m := ⟨_, rfl⟩
  rw [← hR]
  have HR := hide hR
  clear hR
  obtain ⟨w2, hw2⟩ : ∃ w2, w2 = (w.alloc (.cells zeroPl 39)).alloc (.cells zeroPl 39) := ⟨_, rfl⟩
  have hb2 : Below w.heap.size w w2 := by rw [hw2]; exact ((Below.refl _ _).alloc (Nat.le_refl _) _).alloc (by simp) _
  have hs2 : w2.heap.size = w.heap.size + 2 := by rw [hw2]; simp
  have hG2 : w2.heap[w.heap.size]? = some (.cells zeroPl 39 (0, 0)) := by rw [hw2]; exact heap2_fst w _ _ _ _
  have hZ2 : w2.heap[w.heap.size + 1]? = some (.cells zeroPl 39 (0, 0)) := by rw [hw2]; exact heap2_snd w _ _ _ _
  have HW2 := hide hw2
  have HM := hide h
  have HM2 := hide (h.ext hb2)
  have hMl := h.hlt M (Or.inl (by simp))
  have HZC : Hid (∀ W, Below w2.heap.size w2 W → W.cell? ⟨w.heap.size + 1, 0, none⟩ = some (.int .u32 0) ∧ W.cell? ⟨w.heap.size + 1, 1, none⟩ = some (.int .u8 0) ∧ W.cell? ⟨w.heap.size + 1, 2, none⟩ = some (.int .i64 0) ∧ W.cell? ⟨w.heap.size + 1, 3, none⟩ = some (.int .i64 0) ∧ whole W w.heap.size 4 = true ∧ W.heap[w.heap.size]? = some (.cells zeroPl 39 (0, 0)) ∧ w.heap.size + 2 ≤ W.heap.size) := fun W hW => by
    have e1 := (hW.block (w.heap.size + 1) (by omega)).trans hZ2
    have e2 := (hW.block w.heap.size (by omega)).trans hG2
    have e3 := hW.size
    refine ⟨by rw [World.cell?, e1]; rfl, by rw [World.cell?, e1]; rfl, by rw [World.cell?, e1]; rfl, by rw [World.cell?, e1]; rfl, whole_of_heap e2, e2, by omega⟩
  have HNO : Hid (∀ W k, Below w2.heap.size w2 W → McPost w (W.setRow w.heap.size zeroPl) (.returned (.tuple #[.agg zeroPl, .int .u8 k])) (noPl k)) := fun W k hW => ⟨rfl, (hb2.trans (hW.mono (by omega))).trans (below_setRow' _ _ (Nat.le_refl _))⟩
  have HB2 := hide hb2
  have HA := hide hasc
  have HND := hide hnd
  have HTG := hide htg
  have HVB := hide hvb
  have HLEN := hide hlen
  have HSUB := hide hsub
  clear h hw2 hG2 hZ2 hb2 hasc hnd htg hvb hlen hsub
  by_cases hin : 0 ≤ m ∧ m ≤ 157785119
  case neg =>
    have hic : inCal m = false := decide_eq_false hin
    have HE : Hid (R = noPl 3) := by show _ = _; rw [HR.out, clsR, if_pos (by omega)]
    obtain ⟨z0, z1, z2, z3, hwh, hG, hsz⟩ := HZC.out w2 (Below.refl _ _)
    have HG := hide hG
    clear hin hG
    go_enter Tryd.func39, Tryd.ntmps39
    go_upto_region 2 with fail
    rw [← HW2.out]
    go_wp2_with (go_at_call 45; refine (inCal_calls m _).mono ?_; rintro e w' ⟨rfl, rfl⟩)
    refine bodyPost_ret (results_cell_tmp Tryd.results39 _ _ w.heap.size _ _ _ _ rfl (heap_setRow_at (ds := zeroPl) HG.out) Tryd.underlying39 rfl (by kernel_rfl)) rfl ?_
    exact ret_mc HE (HNO.out _ _ (Below.refl _ _))
  have hic : inCal m = true := decide_eq_true hin
  obtain ⟨-, -, -, -, c4, -, -, -⟩ := cell_six HM2.out.top
  have hlk := HM2.out.sub.look_ok Tryd.mapSub (Tryd.zeroSub w2) hsid
  cases hTs : T.sub sid with
  | none =>
    rw [hTs] at hlk
    simp only [Option.map_none, Option.getD_none, Option.isSome_none, suZ] at hlk
    have HE : Hid (R = noPl 17) := by show _ = _; rw [HR.out, clsR, if_neg (by omega), hTs]
    obtain ⟨z0, z1, z2, z3, hwh, hG, hsz⟩ := HZC.out w2 (Below.refl _ _)
    have HG := hide hG
    have hl0 : w.heap.size < w2.heap.size := by omega
    have hl1 : w.heap.size + 1 < w2.heap.size := by omega
    clear hin hG hTs
    go_enter Tryd.func39, Tryd.ntmps39
    go_upto_region 2 with fail
    rw [← HW2.out]
    go_wp2_with (go_at_call 45; refine (inCal_calls m _).mono ?_; rintro e w' ⟨rfl, rfl⟩)
    have hfin : ((w2.setRow w.heap.size zeroPl).alloc (.cells #[.int .u32 0, .int .u32 0, .int .i64 0] 45)).heap[w.heap.size]? = some (.cells zeroPl 39 (0, 0)) := (Below.heap_alloc _ _ _ (by simpa using hl0)).trans (heap_setRow_at HG.out)
    refine bodyPost_ret (results_cell_tmp Tryd.results39 _ _ w.heap.size _ _ _ _ rfl hfin Tryd.underlying39 rfl (by kernel_rfl)) rfl ?_
    exact ret_mc HE ⟨rfl, (HB2.out.trans (below_setRow' _ _ (Nat.le_refl _))).alloc (by simp; omega) _⟩
  | some st =>
    obtain ⟨site, anchor⟩ := st
    rw [hTs] at hlk
    simp only [Option.map_some, Option.getD_some, Option.isSome_some, suV] at hlk
    have HE := hide (HR.out.trans (clsR_eq hin hTs))
    obtain ⟨an1, an2⟩ := HSUB.out sid _ hTs
    obtain ⟨m1, m2⟩ := hin
    have hqm : Int.tdiv m 1440 = m / 1440 := Int.tdiv_eq_ediv_of_nonneg m1
    have hqa : Int.tdiv anchor 1440 = anchor / 1440 := Int.tdiv_eq_ediv_of_nonneg an1
    have HP1 := hide (verAtR_vis (T := T) (m := m) (fun l => (l.map (·.id)).Nodup) (by simp) HND.out)
    have HP2 := hide (verAtR_vis (T := T) (m := m) (fun l => l.Pairwise (fun a b => a.target < b.target)) (by simp) HTG.out)
    have HP3 := hide (verAtR_vis (T := T) (m := m) (fun l => ∀ y ∈ l, VB y) (by simp) HVB.out)
    have HP4 := hide (verAtR_vis (T := T) (m := m) (fun l => l.length ≤ 12) (by simp) HLEN.out)
    clear HND HTG HVB HLEN HSUB hTs HR
    go_enter Tryd.func39, Tryd.ntmps39
    go_upto_region 2 with fail
    rw [← HW2.out]
    go_upto_region 7 with (go_at_call 45; refine (inCal_calls m _).mono ?_; rintro e w' ⟨rfl, rfl⟩)
    obtain ⟨w3, hw3⟩ : ∃ w3, w3 = w2.alloc (.cells #[.int .u32 sid, .int .u32 site, .int .i64 anchor] 45) := ⟨_, rfl⟩
    rw [← hw3]
    have hb3 : Below w2.heap.size w2 w3 := by rw [hw3]; exact (Below.refl _ _).alloc (Nat.le_refl _) _
    have hS3 : w3.heap[w.heap.size + 2]? = some (.cells #[.int .u32 sid, .int .u32 site, .int .i64 anchor] 45 (0, 0)) := by rw [hw3, ← hs2]; exact heap_alloc_at _ _
    have hs3 : w.heap.size + 3 ≤ w3.heap.size := by rw [hw3]; simp; omega
    have HIF := hide (inForce_m w3 M base N a p s u v C T full m (HM2.out.ext hb3) HA.out hvl)
    obtain ⟨VR, hVR⟩ : ∃ VR, VR = verAtR T m := ⟨_, rfl⟩
    rw [← hVR] at HIF HE HP1 HP2 HP3 HP4
    clear hVR hw3 hlk c4
    obtain ⟨r0, rn, re, rv⟩ := VR
    go_upto_region 8 with (go_at_call 40; refine HIF.out.mono ?_; rintro e w4 ⟨⟨sa, sn, sc⟩, rfl, hvv, hb4⟩; simp only [sv])
    obtain ⟨w5, hw5⟩ : ∃ w5, w5 = w4.alloc (.cells #[.int .u32 rn, .int .i64 re, .slice sa sn sc] 41) := ⟨_, rfl⟩
    have hb5 : Below w4.heap.size w4 w5 := by rw [hw5]; exact (Below.refl _ _).alloc (Nat.le_refl _) _
    have hV5 : w5.heap[w4.heap.size]? = some (.cells #[.int .u32 rn, .int .i64 re, .slice sa sn sc] 41 (0, 0)) := by rw [hw5]; exact heap_alloc_at _ _
    have hs5 : w4.heap.size < w5.heap.size := by rw [hw5]; simp
    have hs34 := hb4.size
    rw [← hw5]
    have hb35 : Below w3.heap.size w3 w5 := hb4.trans (hb5.mono hs34)
    have hb25 : Below w2.heap.size w2 w5 := hb3.trans (hb35.mono hb3.size)
    have hvis : VisitsAt w5 (fun b => b < base ∨ C b) (.slice sa sn sc) rv := hvv.below hb5
    obtain ⟨-, -, s2, -⟩ := cell_thr ((hb35.block (w.heap.size + 2) (by omega)).trans hS3)
    obtain ⟨v0, v1, v2, -⟩ := cell_thr hV5
    have hg4 : w.heap.size + 3 ≤ w4.heap.size := by omega
    obtain ⟨vb, hvb⟩ : ∃ vb, vb = w4.heap.size := ⟨_, rfl⟩
    rw [← hvb] at hs5 v0 v1 v2 hg4 ⊢
    obtain ⟨z0, z1, z2, z3, hwh, hG, hsz⟩ := HZC.out w5 hb25
    have HG := hide hG
    have HB25 := hide hb25
    clear hvb hw5 hb5 hb35 hb25 hb4 hb3 hS3 hV5 hvv HIF hG hs34 hs3
    by_cases hr0 : r0 = 0
    case neg =>
      have HE2 : Hid (R = noPl r0) := by show _ = _; rw [HE.out]; exact if_neg hr0
      have t1 : (r0 == 0) = false := by simp [hr0]
      have t2 : (r0 != 0) = true := by simp [hr0]
      clear hr0
      go_wp2
      refine bodyPost_ret (results_cell_tmp Tryd.results39 _ _ w.heap.size _ _ _ _ rfl (heap_setRow_at (ds := zeroPl) HG.out) Tryd.underlying39 rfl (by kernel_rfl)) rfl ?_
      exact ret_mc HE2 (HNO.out _ _ HB25.out)
    subst hr0
    have HE2 : Hid (R = clsT rn (anchor / 1440) (m / 1440) vid rv) := by show _ = _; rw [HE.out]; exact if_pos rfl
    clear HE
    obtain ⟨zs, hRR, hzm, -⟩ := hvis.lt
    obtain ⟨za, zcap, b, off, hv0, hl, hm, hr, ha, hc⟩ := hRR
    injection hv0 with e1 hn e3
    subst e1 e3
    rw [← hn] at hl hr ha
    have hi := run_indexAt_arr (P := Tryd.prog) (n := sn) (cap := sc) Tryd.underlying32 Tryd.size63 (fun h => (ha h).1)
    have HB : Hid (0 < sn → b < w5.heap.size) := fun h => (ha h).2.2
    have HC := hide hc
    have HN := hide hn
    have HZM := hide hzm
    have hn12 : sn ≤ 12 := by have := HP4.out; rw [← hzm] at this; simp at this; omega
    clear ha hc hn hzm hvis HP4 hm
    go_upto_region 12 with fail
    go_loopg [15, 55] sn (fun g x15 x55 wr => ∃ q : Nat, q ≤ sn ∧ g = sn - q ∧ x55 = .int .i64 q ∧ x15 = ptrV b off (fi vid rv q) ∧ w5 = wr)
    case atStart => exact ⟨0, by omega, by omega, rfl, rfl, rfl⟩
    case round =>
      obtain ⟨q, hq, rfl, rfl, rfl, rfl⟩ := hrel
      by_cases hlt : q < sn
      · have hqz : q < zs.length := by rw [← HN.out]; exact hlt
        have hbb := HB.out (by omega)
        have hr0 := HC.out q hqz
        have e0 := (rng_cell hr0).2 0 (by decide)
        have hrq : rv[q]? = some zs[q].1 := by rw [← HZM.out, List.getElem?_map, List.getElem?_eq_getElem hqz]; rfl
        have HF : Hid (fi vid rv (q + 1) = if zs[q].1.id = vid then some q else fi vid rv q) := by show _ = _; rw [fi, hrq]
        generalize zs[q] = z at *
        obtain ⟨⟨zid, zt, ze, zl, zp⟩, zpa, zpn, zpc⟩ := z
        simp only [vzCs, sv, List.getElem?_toArray, List.getElem?_cons_zero, Nat.add_zero] at e0
        simp only at HF
        clear hr0 hrq
        by_cases hid : zid = vid
        · have t0 : (zid == vid) = true := by simp [hid]
          rw [if_pos hid] at HF
          clear hid
          go_wp2
          go_roundg (sn - (q + 1))
          case measure => omega
          case rel => exact ⟨q + 1, by omega, rfl, by go_num, by rw [HF.out]; rfl, by first | rfl | trivial⟩
        · have t0 : (zid == vid) = false := by simp [hid]
          rw [if_neg hid] at HF
          clear hid
          go_wp2
          go_roundg (sn - (q + 1))
          case measure => omega
          case rel => exact ⟨q + 1, by omega, rfl, by go_num, by rw [HF.out], by first | rfl | trivial⟩
      · have hqn : q = sn := by omega
        subst hqn
        have hrl : rv.length = q := by rw [← HZM.out, List.length_map]; exact HN.out.symm
        cases hfi : fi vid rv q with
        | none =>
          have HE3 : Hid (R = ⟨0, rn, 5, 0, 0⟩) := by
            show _ = _
            rw [HE2.out]
            refine clsT_none (fun x hx => ?_)
            obtain ⟨j, hj, rfl⟩ := List.mem_iff_getElem.1 hx
            exact fi_none hfi j hj (by omega)
          simp only [ptrV]
          clear hfi hrl
          go_wp2
          refine bodyPost_ret (results_cell_tmp Tryd.results39 _ _ w.heap.size _ _ _ _ rfl (heap_setRow_at (ds := #[.int .u32 rn, .int .u8 5, .int .i64 0, .int .i64 0]) HG.out) Tryd.underlying39 rfl (by kernel_rfl)) rfl ?_
          exact ret_mc HE3 ⟨rfl, (HB2.out.trans (HB25.out.mono (by omega))).trans (below_setRow' _ _ (Nat.le_refl _))⟩
        | some k =>
          obtain ⟨hk, hkid⟩ := fi_some hfi
          have hkq : k < q := by omega
          have hkz : k < zs.length := by rw [← HN.out]; exact hkq
          have HE3 : Hid (R = clsEnd rn (anchor / 1440) (m / 1440) rv[k] (rv.drop (k + 1))) := by
            show _ = _
            rw [HE2.out]
            exact clsT_at hk hkid HP1.out
          have hbb := HB.out (by omega)
          have HZ : Hid (∀ j (hj : j < zs.length), ∃ hr : j < rv.length, rv[j] = zs[j].1 ∧ w5.cell? ⟨b, off + j * 5 + 1, none⟩ = some (.int .i64 zs[j].1.target) ∧ w5.cell? ⟨b, off + j * 5 + 2, none⟩ = some (.int .i64 zs[j].1.early) ∧ w5.cell? ⟨b, off + j * 5 + 3, none⟩ = some (.int .i64 zs[j].1.late)) := fun j hj => by
            have hr0 := HC.out j hj
            have hjr : j < rv.length := by rw [hrl, HN.out]; exact hj
            refine ⟨hjr, ?_, (rng_cell hr0).2 1 (by decide), (rng_cell hr0).2 2 (by decide), (rng_cell hr0).2 3 (by decide)⟩
            simp [← HZM.out]
          obtain ⟨hkr, hrk, k1, k2, k3⟩ := HZ.out k hkz
          rw [hrk] at HE3
          have hvbk := HP3.out rv[k] (List.getElem_mem hkr)
          rw [hrk] at hvbk
          obtain ⟨vt1, vt2, ve1, ve2, vl1, vl2⟩ := hvbk
          have HSRT : Hid (∀ i j (hi : i < zs.length) (hj : j < zs.length), i < j → zs[i].1.target < zs[j].1.target) := fun i j hi hj hij => by
            obtain ⟨h1, h2, -⟩ := HZ.out i hi
            obtain ⟨h3, h4, -⟩ := HZ.out j hj
            have := List.pairwise_iff_getElem.1 HP2.out i j h1 h3 hij
            rw [h2, h4] at this
            exact this
          have HVBJ : Hid (∀ j (hj : j < zs.length), VB zs[j].1) := fun j hj => by
            obtain ⟨h1, h2, -⟩ := HZ.out j hj
            have := HP3.out rv[j] (List.getElem_mem h1)
            rw [h2] at this
            exact this
          have hKT : ∃ z : ZV, z = zs[k] := ⟨_, rfl⟩
          obtain ⟨zk, hzk⟩ := hKT
          rw [← hzk] at HE3 k1 k2 k3 vt1 vt2 ve1 ve2 vl1 vl2
          have HZK := hide hzk
          clear hzk hrk
          obtain ⟨⟨kid, ta, ea, la, kp⟩, kps⟩ := zk
          simp only at k1 k2 k3 vt1 vt2 ve1 ve2 vl1 vl2
          simp only [ptrV]
          clear hfi
          obtain ⟨ad, had⟩ : ∃ ad, ad = anchor / 1440 := ⟨_, rfl⟩
          obtain ⟨dy, hdy⟩ : ∃ dy, dy = m / 1440 := ⟨_, rfl⟩
          have had1 : 0 ≤ ad := by omega
          have had2 : ad ≤ 109572 := by omega
          have hdy1 : 0 ≤ dy := by omega
          have hdy2 : dy ≤ 109572 := by omega
          rw [← had] at hqa HE3
          rw [← hdy] at hqm HE3
          clear had hdy an1 an2 m1 m2 HP1 HP2 HP3 HE2
          go_upto_region 21 with fail
          go_quiet (fail)
          go_upto_region 22 with fail
          go_quiet (fail)
          by_cases ho1 : outD (ad + ta - ea)
          · have HE4 : Hid (R = noPl 4) := by show _ = _; rw [HE3.out, clsEnd.eq_def, if_pos (Or.inl ho1)]
            have d1 : dayIn (ad + ta - ea) = false := decide_eq_false (by unfold outD at ho1; omega)
            clear ho1
            go_wp2_with (go_at_call 46; refine (dayIn_calls _ _).mono ?_; rintro e w' ⟨rfl, rfl⟩)
            refine bodyPost_ret (results_cell_tmp Tryd.results39 _ _ w.heap.size _ _ _ _ rfl (heap_setRow_at (ds := zeroPl) HG.out) Tryd.underlying39 rfl (by kernel_rfl)) rfl ?_
            exact ret_mc HE4 ⟨rfl, ((HB2.out.trans (HB25.out.mono (by omega))).trans (below_drewN (Below.refl _ _) _)).trans (below_setRow' _ _ (Nat.le_refl _))⟩
          have d1 : dayIn (ad + ta - ea) = true := decide_eq_true (by unfold outD at ho1; omega)
          by_cases ho2 : outD (ad + ta + la)
          · have HE4 : Hid (R = noPl 4) := by show _ = _; rw [HE3.out, clsEnd.eq_def, if_pos (Or.inr ho2)]
            have d2 : dayIn (ad + ta + la) = false := decide_eq_false (by unfold outD at ho2; omega)
            clear ho1 ho2
            go_wp2_with (go_at_call 46; refine (dayIn_calls _ _).mono ?_; rintro e w' ⟨rfl, rfl⟩)
            refine bodyPost_ret (results_cell_tmp Tryd.results39 _ _ w.heap.size _ _ _ _ rfl (heap_setRow_at (ds := zeroPl) HG.out) Tryd.underlying39 rfl (by kernel_rfl)) rfl ?_
            exact ret_mc HE4 ⟨rfl, ((HB2.out.trans (HB25.out.mono (by omega))).trans (below_drewN (Below.refl _ _) _)).trans (below_setRow' _ _ (Nat.le_refl _))⟩
          have d2 : dayIn (ad + ta + la) = true := decide_eq_true (by unfold outD at ho2; omega)
          have HO := hide (And.intro ho1 ho2)
          clear ho1 ho2
          go_upto_region 27 with (go_at_call 46; refine (dayIn_calls _ _).mono ?_; rintro e w' ⟨rfl, rfl⟩)
          go_loopg [21, 115] q (fun g x21 x115 wr => ∃ j : Nat, j ≤ q ∧ g = q - j ∧ x115 = .int .i64 j ∧ x21 = ptrV b off (if k + 1 < j then some (k + 1) else none) ∧ ∃ d, wr = w5.drewN d)
          case atStart => exact ⟨0, by omega, by omega, rfl, rfl, _, rfl⟩
          case round =>
            obtain ⟨j, hj, rfl, rfl, rfl, d, rfl⟩ := hrel
            by_cases hlt2 : j < q
            · have hjz : j < zs.length := by rw [← HN.out]; exact hlt2
              obtain ⟨hjr, hrj, j1, j2, j3⟩ := HZ.out j hjz
              by_cases hjk : j ≤ k
              · have hnt : ¬ ta < zs[j].1.target := by
                  have e1 : ta = zs[k].1.target := by rw [← HZK.out]
                  by_cases he : j = k
                  · subst he; omega
                  · have := HSRT.out j k hjz hkz (by omega); omega
                have HP : Hid ((if k + 1 < j + 1 then some (k + 1) else none) = none) := if_neg (by omega)
                rw [if_neg (show ¬ k + 1 < j by omega)]
                generalize zs[j].1.target = tj at *
                simp only [ptrV]
                clear hrj j2 j3
                go_upto_region 30 with fail
                go_quiet (fail)
                go_wp2
                go_roundg (q - (j + 1))
                case measure => omega
                case rel => exact ⟨j + 1, by omega, rfl, by go_num, by rw [HP.out]; rfl, d + nq, by simp⟩
              · by_cases hje : j = k + 1
                · have hnt : ta < zs[j].1.target := by
                    have e1 : ta = zs[k].1.target := by rw [← HZK.out]
                    have := HSRT.out k j hkz hjz (by omega); omega
                  have HP : Hid ((if k + 1 < j + 1 then some (k + 1) else none) = some j) := by show _ = _; rw [if_pos (by omega), hje]
                  rw [if_neg (show ¬ k + 1 < j by omega)]
                  generalize zs[j].1.target = tj at *
                  simp only [ptrV]
                  clear hrj j2 j3 hje
                  go_upto_region 30 with fail
                  go_quiet (fail)
                  go_wp2
                  go_roundg (q - (j + 1))
                  case measure => omega
                  case rel => exact ⟨j + 1, by omega, rfl, by go_num, by rw [HP.out]; rfl, d + nq, by simp⟩
                · have hk1z : k + 1 < zs.length := by omega
                  obtain ⟨-, -, n1, -, -⟩ := HZ.out (k + 1) hk1z
                  have hnt : ta < zs[j].1.target := by
                    have e1 : ta = zs[k].1.target := by rw [← HZK.out]
                    have := HSRT.out k j hkz hjz (by omega); omega
                  have hnn : ¬ zs[j].1.target < zs[k + 1].1.target := by
                    have := HSRT.out (k + 1) j hk1z hjz (by omega); omega
                  have HP : Hid ((if k + 1 < j + 1 then some (k + 1) else none) = some (k + 1)) := if_pos (by omega)
                  rw [if_pos (show k + 1 < j by omega)]
                  generalize zs[j].1.target = tj at *
                  generalize zs[k + 1].1.target = tn at *
                  simp only [ptrV]
                  clear hrj j2 j3
                  go_upto_region 30 with fail
                  go_quiet (fail)
                  go_wp2
                  go_roundg (q - (j + 1))
                  case measure => omega
                  case rel => exact ⟨j + 1, by omega, rfl, by go_num, by rw [HP.out]; rfl, d + nq, by simp⟩
            · have hjq : j = q := by omega
              subst hjq
              obtain ⟨w6, hw6⟩ : ∃ w6, w6 = w5.drewN d := ⟨_, rfl⟩
              have hb56 : Below w5.heap.size w5 w6 := by rw [hw6]; exact below_drewN (Below.refl _ _) d
              rw [← hw6]
              have hz56 := hb56.size
              have HB56 := hide hb56
              have HB6 : Hid (0 < j → b < w6.heap.size) := fun h => by have := HB.out h; omega
              have hvb6 : vb < w6.heap.size := by omega
              have HC56 : Hid (∀ b o, b < w5.heap.size → w6.cell? ⟨b, o, none⟩ = w5.cell? ⟨b, o, none⟩) := fun b o h => hb56.cell (p := ⟨b, o, none⟩) h
              clear hw6 hb56
              by_cases hkn : k + 1 < j
              · rw [if_pos hkn]
                have hk1z : k + 1 < zs.length := by rw [← HN.out]; exact hkn
                obtain ⟨hkr1, hrk1, n1, n2, -⟩ := HZ.out (k + 1) hk1z
                have hvbn := HVBJ.out (k + 1) hk1z
                have HE5 : Hid (R = if outD (ad + zs[k + 1].1.target - zs[k + 1].1.early) then noPl 4 else ⟨0, rn, if dy < ad + ta - ea then 1 else if dy ≤ ad + ta + la then 2 else if ad + zs[k + 1].1.target - zs[k + 1].1.early ≤ dy then 4 else 3, ad + ta - ea, ad + ta + la⟩) := by
                  show _ = _
                  rw [HE3.out, clsEnd.eq_def, if_neg (by rintro (h | h); exact HO.out.1 h; exact HO.out.2 h), List.drop_eq_getElem_cons hkr1]
                  simp only [hrk1]
                rw [← HC56.out _ _ hbb] at n1 n2
                obtain ⟨nt1, nt2, ne1, ne2, -, -⟩ := hvbn
                generalize zs[k + 1].1.target = nt at *
                generalize zs[k + 1].1.early = ne at *
                have hb6 := HB6.out (by omega)
                simp only [ptrV]
                clear hrk1 hkr1 hk1z HZ HSRT HVBJ HE3 HC HN HZM hi k1 k2 k3
                go_upto_region 33 with fail
                refine wp_region_ext w6.heap.size (by kernel_rfl) (by kernel_rfl) ?_
                repeat (go_big_quiet_step ((go_at_call 46; refine ext_call_same (dayIn_calls _ _))))
                refine wpQuiet_nil ?_
                intro _ hw'
                obtain ⟨x, hw2⟩ := hw'
                subst hw2
                obtain ⟨w7, hb7⟩ := x
                simp only []
                have hb57 : Below w5.heap.size w5 w7 := HB56.out.trans (hb7.mono hz56)
                have hb27 := HB25.out.trans (hb57.mono HB25.out.size)
                obtain ⟨y0, y1, y2, y3, hwh7, hG7, hsz7⟩ := HZC.out w7 hb27
                have HG7 := hide hG7
                have HB27 := hide hb27
                have hz57 := hb57.size
                have hz67 := hb7.size
                have u0 : w7.cell? ⟨vb, 0, none⟩ = some (.int .u32 rn) := (hb57.cell (p := ⟨vb, 0, none⟩) hs5).trans v0
                have n1' : w7.cell? ⟨b, off + (k + 1) * 5 + 1, none⟩ = some (.int .i64 nt) := (hb7.cell (p := ⟨b, off + (k + 1) * 5 + 1, none⟩) hb6).trans n1
                have n2' : w7.cell? ⟨b, off + (k + 1) * 5 + 2, none⟩ = some (.int .i64 ne) := (hb7.cell (p := ⟨b, off + (k + 1) * 5 + 2, none⟩) hb6).trans n2
                have hb7' : b < w7.heap.size := by omega
                have hvb7 : vb < w7.heap.size := by omega
                have hw0 : w.heap.size < w7.heap.size := by omega
                have hw1 : w.heap.size + 1 < w7.heap.size := by omega
                have hwn : w.heap.size ≠ w7.heap.size := by omega
                clear hG7 hb27 hb57 n1 n2 v0 v1 v2 s2 z0 z1 z2 z3 hwh HG
                by_cases ho3 : outD (ad + nt - ne)
                · have HE6 : Hid (R = noPl 4) := by show _ = _; rw [HE5.out, if_pos ho3]
                  have d3 : dayIn (ad + nt - ne) = false := decide_eq_false (by unfold outD at ho3; omega)
                  rw [d3]
                  clear ho3
                  go_wp2
                  refine bodyPost_ret (results_cell_tmp Tryd.results39 _ _ w.heap.size _ _ _ _ rfl (heap_setRow_at (ds := zeroPl) HG7.out) Tryd.underlying39 rfl (by kernel_rfl)) rfl ?_
                  exact ret_mc HE6 (HNO.out _ _ HB27.out)
                have d3 : dayIn (ad + nt - ne) = true := decide_eq_true (by unfold outD at ho3; omega)
                rw [d3]
                have HE6 : Hid (R = ⟨0, rn, if dy < ad + ta - ea then 1 else if dy ≤ ad + ta + la then 2 else if ad + nt - ne ≤ dy then 4 else 3, ad + ta - ea, ad + ta + la⟩) := by show _ = _; rw [HE5.out, if_neg ho3]
                clear HE5 ho3
                by_cases q1 : dy < ad + ta - ea
                · rw [if_pos q1] at HE6
                  go_wp2
                  have hfin : ((w7.setRow w.heap.size #[.int .u32 rn, .int .u8 1, .int .i64 (ad + ta - ea), .int .i64 (ad + ta + la)]).alloc (.cells #[.int .u32 rn, .int .u8 1, .int .i64 (ad + ta - ea), .int .i64 (ad + ta + la)] 39)).heap[w.heap.size]? = some (.cells #[.int .u32 rn, .int .u8 1, .int .i64 (ad + ta - ea), .int .i64 (ad + ta + la)] 39 (0, 0)) := (Below.heap_alloc _ _ _ (by simpa using hw0)).trans (heap_setRow_at HG7.out)
                  refine bodyPost_ret (results_cell_tmp Tryd.results39 _ _ w.heap.size _ _ _ _ rfl hfin Tryd.underlying39 rfl (by kernel_rfl)) rfl ?_
                  exact ret_mc HE6 ⟨rfl, ((HB2.out.trans (HB27.out.mono (by omega))).trans (below_setRow' _ _ (Nat.le_refl _))).alloc (by simp; omega) _⟩
                · rw [if_neg q1] at HE6
                  by_cases q2 : dy ≤ ad + ta + la
                  · rw [if_pos q2] at HE6
                    go_wp2
                    have hfin : ((w7.setRow w.heap.size #[.int .u32 rn, .int .u8 2, .int .i64 (ad + ta - ea), .int .i64 (ad + ta + la)]).alloc (.cells #[.int .u32 rn, .int .u8 2, .int .i64 (ad + ta - ea), .int .i64 (ad + ta + la)] 39)).heap[w.heap.size]? = some (.cells #[.int .u32 rn, .int .u8 2, .int .i64 (ad + ta - ea), .int .i64 (ad + ta + la)] 39 (0, 0)) := (Below.heap_alloc _ _ _ (by simpa using hw0)).trans (heap_setRow_at HG7.out)
                    refine bodyPost_ret (results_cell_tmp Tryd.results39 _ _ w.heap.size _ _ _ _ rfl hfin Tryd.underlying39 rfl (by kernel_rfl)) rfl ?_
                    exact ret_mc HE6 ⟨rfl, ((HB2.out.trans (HB27.out.mono (by omega))).trans (below_setRow' _ _ (Nat.le_refl _))).alloc (by simp; omega) _⟩
                  · rw [if_neg q2] at HE6
                    by_cases q3 : ad + nt - ne ≤ dy
                    · rw [if_pos q3] at HE6
                      go_upto_region 40 with fail
                      go_quiet (fail)
                      obtain ⟨w9, hw9⟩ : ∃ w9, w9 = (w7.alloc (.cells #[.int .u32 rn, .int .u8 0, .int .i64 (ad + ta - ea), .int .i64 (ad + ta + la)] 39)).drewN nq := ⟨_, rfl⟩
                      rw [← hw9]
                      have hb79 : Below w7.heap.size w7 w9 := by rw [hw9]; exact below_drewN ((Below.refl _ _).alloc (Nat.le_refl _) _) nq
                      have hP9 : w9.heap[w7.heap.size]? = some (.cells #[.int .u32 rn, .int .u8 0, .int .i64 (ad + ta - ea), .int .i64 (ad + ta + la)] 39 (0, 0)) := by rw [hw9]; exact heap_alloc_at _ _
                      have p0 : w9.cell? ⟨w7.heap.size, 0, none⟩ = some (.int .u32 rn) := by rw [World.cell?, hP9]; rfl
                      have p1 : w9.cell? ⟨w7.heap.size, 1, none⟩ = some (.int .u8 0) := by rw [World.cell?, hP9]; rfl
                      have p2 : w9.cell? ⟨w7.heap.size, 2, none⟩ = some (.int .i64 (ad + ta - ea)) := by rw [World.cell?, hP9]; rfl
                      have p3 : w9.cell? ⟨w7.heap.size, 3, none⟩ = some (.int .i64 (ad + ta + la)) := by rw [World.cell?, hP9]; rfl
                      have pf : w9.frozen? ⟨w7.heap.size, 1, none⟩ = false := by rw [World.frozen?, hP9]; rfl
                      have hG9 : w9.heap[w.heap.size]? = some (.cells zeroPl 39 (0, 0)) := (hb79.block _ hw0).trans HG7.out
                      have hwh9 : whole w9 w.heap.size 4 = true := whole_of_heap hG9
                      have hGs : (w9.setCell ⟨w7.heap.size, 1, none⟩ (.int .u8 4)).heap[w.heap.size]? = some (.cells zeroPl 39 (0, 0)) := (Below.heap_setCell _ _ _ _ hwn).trans hG9
                      have HGS := hide hGs
                      have HB79 := hide hb79
                      clear hw9 hP9 hb79 hG9 hGs
                      go_wp2
                      refine bodyPost_ret (results_cell_tmp Tryd.results39 _ _ w.heap.size _ _ _ _ rfl (heap_setRow_at (ds := #[.int .u32 rn, .int .u8 4, .int .i64 (ad + ta - ea), .int .i64 (ad + ta + la)]) HGS.out) Tryd.underlying39 rfl (by kernel_rfl)) rfl ?_
                      exact ret_mc HE6 ⟨rfl, (((HB2.out.trans (HB27.out.mono (by omega))).trans (HB79.out.mono (by omega))).setCell (p := ⟨w7.heap.size, 1, none⟩) (by show w.heap.size ≤ w7.heap.size; omega) _).trans (below_setRow' _ _ (Nat.le_refl _))⟩
                    · rw [if_neg q3] at HE6
                      go_upto_region 40 with fail
                      go_quiet (fail)
                      obtain ⟨w9, hw9⟩ : ∃ w9, w9 = (w7.alloc (.cells #[.int .u32 rn, .int .u8 0, .int .i64 (ad + ta - ea), .int .i64 (ad + ta + la)] 39)).drewN nq := ⟨_, rfl⟩
                      rw [← hw9]
                      have hb79 : Below w7.heap.size w7 w9 := by rw [hw9]; exact below_drewN ((Below.refl _ _).alloc (Nat.le_refl _) _) nq
                      have hP9 : w9.heap[w7.heap.size]? = some (.cells #[.int .u32 rn, .int .u8 0, .int .i64 (ad + ta - ea), .int .i64 (ad + ta + la)] 39 (0, 0)) := by rw [hw9]; exact heap_alloc_at _ _
                      have p0 : w9.cell? ⟨w7.heap.size, 0, none⟩ = some (.int .u32 rn) := by rw [World.cell?, hP9]; rfl
                      have p1 : w9.cell? ⟨w7.heap.size, 1, none⟩ = some (.int .u8 0) := by rw [World.cell?, hP9]; rfl
                      have p2 : w9.cell? ⟨w7.heap.size, 2, none⟩ = some (.int .i64 (ad + ta - ea)) := by rw [World.cell?, hP9]; rfl
                      have p3 : w9.cell? ⟨w7.heap.size, 3, none⟩ = some (.int .i64 (ad + ta + la)) := by rw [World.cell?, hP9]; rfl
                      have pf : w9.frozen? ⟨w7.heap.size, 1, none⟩ = false := by rw [World.frozen?, hP9]; rfl
                      have hG9 : w9.heap[w.heap.size]? = some (.cells zeroPl 39 (0, 0)) := (hb79.block _ hw0).trans HG7.out
                      have hwh9 : whole w9 w.heap.size 4 = true := whole_of_heap hG9
                      have hGs : (w9.setCell ⟨w7.heap.size, 1, none⟩ (.int .u8 3)).heap[w.heap.size]? = some (.cells zeroPl 39 (0, 0)) := (Below.heap_setCell _ _ _ _ hwn).trans hG9
                      have HGS := hide hGs
                      have HB79 := hide hb79
                      clear hw9 hP9 hb79 hG9 hGs
                      go_wp2
                      refine bodyPost_ret (results_cell_tmp Tryd.results39 _ _ w.heap.size _ _ _ _ rfl (heap_setRow_at (ds := #[.int .u32 rn, .int .u8 3, .int .i64 (ad + ta - ea), .int .i64 (ad + ta + la)]) HGS.out) Tryd.underlying39 rfl (by kernel_rfl)) rfl ?_
                      exact ret_mc HE6 ⟨rfl, (((HB2.out.trans (HB27.out.mono (by omega))).trans (HB79.out.mono (by omega))).setCell (p := ⟨w7.heap.size, 1, none⟩) (by show w.heap.size ≤ w7.heap.size; omega) _).trans (below_setRow' _ _ (Nat.le_refl _))⟩
              · rw [if_neg hkn]
                have HE6 : Hid (R = ⟨0, rn, if dy < ad + ta - ea then 1 else if dy ≤ ad + ta + la then 2 else 3, ad + ta - ea, ad + ta + la⟩) := by
                  show _ = _
                  rw [HE3.out, clsEnd.eq_def, if_neg (by rintro (h | h); exact HO.out.1 h; exact HO.out.2 h), List.drop_eq_nil_of_le (by omega)]
                simp only [ptrV]
                clear HZ HSRT HVBJ HE3 HC HN HZM hi k1 k2 k3
                go_upto_region 33 with fail
                refine wp_region_ext w6.heap.size (by kernel_rfl) (by kernel_rfl) ?_
                repeat (go_big_quiet_step ((go_at_call 46; refine ext_call_same (dayIn_calls _ _))))
                refine wpQuiet_nil ?_
                intro _ hw'
                obtain ⟨x, hw2⟩ := hw'
                subst hw2
                obtain ⟨w7, hb7⟩ := x
                simp only []
                have hb57 : Below w5.heap.size w5 w7 := HB56.out.trans (hb7.mono hz56)
                have hb27 := HB25.out.trans (hb57.mono HB25.out.size)
                obtain ⟨y0, y1, y2, y3, hwh7, hG7, hsz7⟩ := HZC.out w7 hb27
                have HG7 := hide hG7
                have HB27 := hide hb27
                have hz57 := hb57.size
                have hz67 := hb7.size
                have u0 : w7.cell? ⟨vb, 0, none⟩ = some (.int .u32 rn) := (hb57.cell (p := ⟨vb, 0, none⟩) hs5).trans v0
                have hvb7 : vb < w7.heap.size := by omega
                have hw0 : w.heap.size < w7.heap.size := by omega
                have hw1 : w.heap.size + 1 < w7.heap.size := by omega
                have hwn : w.heap.size ≠ w7.heap.size := by omega
                clear hG7 hb27 hb57 v0 v1 v2 s2 z0 z1 z2 z3 hwh HG
                by_cases q1 : dy < ad + ta - ea
                · rw [if_pos q1] at HE6
                  go_wp2
                  have hfin : ((w7.setRow w.heap.size #[.int .u32 rn, .int .u8 1, .int .i64 (ad + ta - ea), .int .i64 (ad + ta + la)]).alloc (.cells #[.int .u32 rn, .int .u8 1, .int .i64 (ad + ta - ea), .int .i64 (ad + ta + la)] 39)).heap[w.heap.size]? = some (.cells #[.int .u32 rn, .int .u8 1, .int .i64 (ad + ta - ea), .int .i64 (ad + ta + la)] 39 (0, 0)) := (Below.heap_alloc _ _ _ (by simpa using hw0)).trans (heap_setRow_at HG7.out)
                  refine bodyPost_ret (results_cell_tmp Tryd.results39 _ _ w.heap.size _ _ _ _ rfl hfin Tryd.underlying39 rfl (by kernel_rfl)) rfl ?_
                  exact ret_mc HE6 ⟨rfl, ((HB2.out.trans (HB27.out.mono (by omega))).trans (below_setRow' _ _ (Nat.le_refl _))).alloc (by simp; omega) _⟩
                · rw [if_neg q1] at HE6
                  by_cases q2 : dy ≤ ad + ta + la
                  · rw [if_pos q2] at HE6
                    go_wp2
                    have hfin : ((w7.setRow w.heap.size #[.int .u32 rn, .int .u8 2, .int .i64 (ad + ta - ea), .int .i64 (ad + ta + la)]).alloc (.cells #[.int .u32 rn, .int .u8 2, .int .i64 (ad + ta - ea), .int .i64 (ad + ta + la)] 39)).heap[w.heap.size]? = some (.cells #[.int .u32 rn, .int .u8 2, .int .i64 (ad + ta - ea), .int .i64 (ad + ta + la)] 39 (0, 0)) := (Below.heap_alloc _ _ _ (by simpa using hw0)).trans (heap_setRow_at HG7.out)
                    refine bodyPost_ret (results_cell_tmp Tryd.results39 _ _ w.heap.size _ _ _ _ rfl hfin Tryd.underlying39 rfl (by kernel_rfl)) rfl ?_
                    exact ret_mc HE6 ⟨rfl, ((HB2.out.trans (HB27.out.mono (by omega))).trans (below_setRow' _ _ (Nat.le_refl _))).alloc (by simp; omega) _⟩
                  · rw [if_neg q2] at HE6
                    go_upto_region 40 with fail
                    go_quiet (fail)
                    obtain ⟨w9, hw9⟩ : ∃ w9, w9 = (w7.alloc (.cells #[.int .u32 rn, .int .u8 0, .int .i64 (ad + ta - ea), .int .i64 (ad + ta + la)] 39)).drewN nq := ⟨_, rfl⟩
                    rw [← hw9]
                    have hb79 : Below w7.heap.size w7 w9 := by rw [hw9]; exact below_drewN ((Below.refl _ _).alloc (Nat.le_refl _) _) nq
                    have hP9 : w9.heap[w7.heap.size]? = some (.cells #[.int .u32 rn, .int .u8 0, .int .i64 (ad + ta - ea), .int .i64 (ad + ta + la)] 39 (0, 0)) := by rw [hw9]; exact heap_alloc_at _ _
                    have p0 : w9.cell? ⟨w7.heap.size, 0, none⟩ = some (.int .u32 rn) := by rw [World.cell?, hP9]; rfl
                    have p1 : w9.cell? ⟨w7.heap.size, 1, none⟩ = some (.int .u8 0) := by rw [World.cell?, hP9]; rfl
                    have p2 : w9.cell? ⟨w7.heap.size, 2, none⟩ = some (.int .i64 (ad + ta - ea)) := by rw [World.cell?, hP9]; rfl
                    have p3 : w9.cell? ⟨w7.heap.size, 3, none⟩ = some (.int .i64 (ad + ta + la)) := by rw [World.cell?, hP9]; rfl
                    have pf : w9.frozen? ⟨w7.heap.size, 1, none⟩ = false := by rw [World.frozen?, hP9]; rfl
                    have hG9 : w9.heap[w.heap.size]? = some (.cells zeroPl 39 (0, 0)) := (hb79.block _ hw0).trans HG7.out
                    have hwh9 : whole w9 w.heap.size 4 = true := whole_of_heap hG9
                    have hGs : (w9.setCell ⟨w7.heap.size, 1, none⟩ (.int .u8 3)).heap[w.heap.size]? = some (.cells zeroPl 39 (0, 0)) := (Below.heap_setCell _ _ _ _ hwn).trans hG9
                    have HGS := hide hGs
                    have HB79 := hide hb79
                    clear hw9 hP9 hb79 hG9 hGs
                    go_wp2
                    refine bodyPost_ret (results_cell_tmp Tryd.results39 _ _ w.heap.size _ _ _ _ rfl (heap_setRow_at (ds := #[.int .u32 rn, .int .u8 3, .int .i64 (ad + ta - ea), .int .i64 (ad + ta + la)]) HGS.out) Tryd.underlying39 rfl (by kernel_rfl)) rfl ?_
                    exact ret_mc HE6 ⟨rfl, (((HB2.out.trans (HB27.out.mono (by omega))).trans (HB79.out.mono (by omega))).setCell (p := ⟨w7.heap.size, 1, none⟩) (by show w.heap.size ≤ w7.heap.size; omega) _).trans (below_setRow' _ _ (Nat.le_refl _))⟩

end Go.Proofs.Qxb6500665aDoor
