/- latest, VersionAt, commit, walked. -/
import Derived.Test.Qxb6500665aDoorGetters
import Derived.Test.Qxb6500665aDoorCalWalks
namespace Go.Proofs.Qxb6500665aDoor
open Go.RowKit Go.Proofs.Qxb6500665aDoor.Cal

abbrev Ver := Int × List Visit
structure VerOk (v : Ver) : Prop where
  eff : I64 v.1
  vis : ∀ x ∈ v.2, x.Ok
  pan : ∀ x ∈ v.2, x.panels.length ≤ 6
  len : v.2.length ≤ 12

/-- The versions that the pairs hold. -/
structure VersRep (ps : List KV) (vers : List Ver) : Prop where
  head : getB ps (keyB 104 0) = if vers.length = 0 then none else some (headB vers.length)
  ver : ∀ k (h : k < vers.length), getB ps (keyB 118 ((k : Int) + 1)) = some (verB vers[k].1 vers[k].2)
  ok : ∀ v ∈ vers, VerOk v
  len : vers.length ≤ 1000000

/-- The last of the first k versions that is in force at m. -/
def inFrom (vers : List Ver) (m : Int) : Nat → Option Nat
  | 0 => none
  | k + 1 => if (vers[k]?.getD (0, [])).1 ≤ m then some k else inFrom vers m k
def inF (vers : List Ver) (m : Int) : Option Nat := inFrom vers m vers.length

theorem inFrom_lt {vers : List Ver} {m : Int} : ∀ {k j : Nat}, inFrom vers m k = some j → j < k
  | 0, _, h => by cases h
  | k + 1, j, h => by
    simp only [inFrom] at h
    split at h
    · cases h; omega
    · have := inFrom_lt h; omega

attribute [local go_sem ↓] exec_stVersion
attribute [local go_sem] run_stVersion ones_iis whole_alloc_lt whole_alloc_at whole_drew whole_setCell_other whole_setRow_other setRow_alloc_at setRow_alloc_lt
attribute [local go_sem] ext_const Ext.cell Ext.frozen Ext.rng Ext.whole

set_option maxRecDepth 100000 in
set_option maxHeartbeats 2000000 in
theorem latest_calls (w : World) (P S : Nat) (A : Nat → Prop) (ps : List KV) (full : Bool) (vers : List Ver) (h : PAt w P S A ps full) (hv : VersRep ps vers) :
    Calls Tryd.prog 57 #[.pointer (some ⟨P, 0, none⟩)] w fun e w' => e = .returned (.tuple #[.int .u32 vers.length, .nilIface]) ∧ Below w.heap.size w w' := by
  obtain ⟨p0, pf, hPl⟩ := cell_one h.proto
  have HO := hide hv.head
  obtain ⟨n, hn⟩ : ∃ n, n = vers.length := ⟨_, rfl⟩
  have hnl : n ≤ 1000000 := by rw [hn]; exact hv.len
  rw [← hn] at HO ⊢
  clear hn
  go_enter Tryd.func57, Tryd.ntmps57
  go_upto_region 1 with fail
  refine wp_region_mix2 w.heap.size [0, 1, 2, 3, 6, 7, 8, 9, 10] [0, 1, 2, 3] 7 (by kernel_rfl) rfl (by decide) (by kernel_rfl) (fun d _ _ _ _ h => by cases d <;> exact h) ?_
  simp only [opersAt, List.getElem?_toArray, List.getElem?_cons_zero, List.getElem?_cons_succ]
  repeat (go_big_quiet_step (fail))
  refine wpQuiet_nil ?_
  refine mixR_one (k := 4) (by kernel_rfl) rfl ?_
  go_wp2_with (go_at_call 49; refine (key_calls w.drew 104 0 (by decide) (by decide)).mono ?_; rintro e w1 ⟨kv, rfl, hown, hb1⟩)
  have hbw1 : Below w.heap.size w w1 := ((Below.refl _ _).drew).trans hb1
  refine ⟨Or.inr ⟨⟨_, hbw1⟩, rfl⟩, ?_⟩
  refine mixR_one (k := 5) (by kernel_rfl) rfl ?_
  have HK := hide (hown.bytes (by rw [keyB_len]; omega))
  have HS := hide ((h.below hbw1).store)
  clear hown
  by_cases hn0 : n = 0
  · subst hn0
    go_wp2_with (go_at_call 62; refine (get_calls w1 S A _ ps full kv _ HS.out HK.out).mono ?_; rintro e w2 ⟨hgot, hb2⟩; rw [HO.out, if_pos rfl] at hgot; have hgot' : e = .returned (.tuple #[.slice none 0 0, .bool false]) := hgot; clear hgot; subst hgot')
    have hbw2 : Below w.heap.size w w2 := hbw1.trans (hb2.mono hbw1.size)
    refine ⟨Or.inr ⟨⟨_, hbw2⟩, rfl⟩, ?_⟩
    refine mixR_reads [6, 7, 8, 9, 10] (fuel := 0) rfl (by decide) (by kernel_rfl) (fun d _ _ _ _ h => by cases d <;> exact h) ⟨⟨_, hbw2⟩, rfl⟩ ?_
    simp only [opersAt, List.getElem?_toArray, List.getElem?_cons_zero, List.getElem?_cons_succ]
    repeat (go_big_quiet_step (fail))
    refine wpQuiet_nil ?_
    refine mixR_nil (by kernel_rfl) ?_
    go_wp2
    go_ret2
    exact ⟨rfl, hbw2⟩
  · have HN := hide hn0
    go_wp2_with (go_at_call 62; refine (get_calls w1 S A _ ps full kv _ HS.out HK.out).mono ?_; rintro e w2 ⟨hgot, hb2⟩; rw [HO.out, if_neg HN.out] at hgot; obtain ⟨rv, rfl, hrv⟩ := hgot)
    have hbw2 : Below w.heap.size w w2 := hbw1.trans (hb2.mono hbw1.size)
    refine ⟨Or.inr ⟨⟨_, hbw2⟩, rfl⟩, ?_⟩
    refine mixR_reads [6, 7, 8, 9, 10] (fuel := 0) rfl (by decide) (by kernel_rfl) (fun d _ _ _ _ h => by cases d <;> exact h) ⟨⟨_, hbw2⟩, rfl⟩ ?_
    simp only [opersAt, List.getElem?_toArray, List.getElem?_cons_zero, List.getElem?_cons_succ]
    repeat (go_big_quiet_step (fail))
    refine wpQuiet_nil ?_
    refine mixR_nil (by kernel_rfl) ?_
    obtain ⟨a, nb, cap, rfl, -⟩ := hrv.form'
    have hR3 : ReaderAt (w2.alloc (.cells #[.slice a nb cap, .bool false] 182)) w2.heap.size (.slice a nb cap) false := heap_alloc_at _ _
    have hB3 : BytesAt (w2.alloc (.cells #[.slice a nb cap, .bool false] 182)) (fun b => w1.heap.size ≤ b ∧ b < w2.heap.size) (.slice a nb cap) (d256 4 n ++ []) := by
      have := (BytesAt.alloc (RArr.lt hrv) (.cells #[.slice a nb cap, .bool false] 182))
      simpa [headB] using this
    have HRB := hide (And.intro hR3 hB3)
    clear hrv hR3 hB3
    go_upto_region 5 with (go_at_call 82; refine (newReader_calls _ a nb cap).mono ?_; rintro e w3 ⟨rfl, rfl⟩)
    go_upto_region 6 with (go_at_call 83; refine (rU32_calls _ _ _ _ (n : Int) _ HRB.out.1 HRB.out.2 (fun b hb => by have := hb.2; omega) (by omega) (by omega)).mono ?_; rintro e w4 ⟨v4, rfl, hR4, hB4, hw4⟩; obtain ⟨hk4, hs4⟩ := kept_read hw4; clear hw4 hs4)
    go_wp2_with (go_at_call 84; refine (done_calls _ _ _ _ hR4 hB4).mono ?_; rintro e w5 ⟨rfl, rfl⟩)
    go_ret2
    exact ⟨rfl, (hbw2.alloc hbw2.size _).trans (hk4.below.mono hbw2.size)⟩

/-- What VersionAt hands back. -/
def VerRes (w w' : World) (e : Ending) (vers : List Ver) : Option Nat → Prop
  | none => e = .returned (.tuple #[.agg #[.int .u32 0, .int .i64 0, .slice none 0 0], errV 20])
  | some k => ∃ (h : k < vers.length) (iv : Value), e = .returned (.tuple #[.agg #[.int .u32 ((k : Int) + 1), .int .i64 vers[k].1, iv], .nilIface]) ∧ VisitsAt w' (w.heap.size ≤ ·) iv vers[k].2

set_option maxRecDepth 100000 in
set_option maxHeartbeats 2000000 in
theorem versionAt_bad (w : World) (P : Nat) (m : Int) (hm : m < 0 ∨ 157785119 < m) :
    Calls Tryd.prog 22 #[.pointer (some ⟨P, 0, none⟩), .int .i64 m] w fun e w' => e = .returned (.tuple #[.agg #[.int .u32 0, .int .i64 0, .slice none 0 0], errV 3]) ∧ Below w.heap.size w w' := by
  have HM := hide hm
  clear hm
  go_enter Tryd.func22, Tryd.ntmps22
  go_wp2_with (go_at_call 53; refine (checkMinute_bad _ _ HM.out).mono ?_; rintro e w' ⟨rfl, rfl⟩)
  refine bodyPost_ret (results_cell_tmp Tryd.results22 _ _ w.heap.size _ _ _ _ rfl (heap_alloc_at _ _) Tryd.underlying41 rfl (by kernel_rfl)) rfl ?_
  exact ⟨rfl, (Below.refl _ _).alloc (Nat.le_refl _) _⟩

set_option maxRecDepth 100000 in
set_option maxHeartbeats 2000000 in
theorem versionAt_calls (w : World) (P S : Nat) (A : Nat → Prop) (ps : List KV) (full : Bool) (vers : List Ver) (m : Int) (h : PAt w P S A ps full) (hv : VersRep ps vers) (h0 : 0 ≤ m) (h1 : m ≤ 157785119) :
    Calls Tryd.prog 22 #[.pointer (some ⟨P, 0, none⟩), .int .i64 m] w fun e w' => VerRes w w' e vers (inF vers m) ∧ Below w.heap.size w w' := by
  obtain ⟨O, hO⟩ : ∃ O, O = inF vers m := ⟨_, rfl⟩
  have HO : Hid (O = inFrom vers m vers.length) := hO
  rw [← hO]
  clear hO
  obtain ⟨n, hn⟩ : ∃ n, n = vers.length := ⟨_, rfl⟩
  have Hn := hide hn
  have hnl : n ≤ 1000000 := by rw [hn]; exact hv.len
  have hbw0 : Below w.heap.size w (w.alloc (.cells #[.int .u32 0, .int .i64 0, .slice none 0 0] 41)) := (Below.refl _ _).alloc (Nat.le_refl _) _
  have hG0 : (w.alloc (.cells #[.int .u32 0, .int .i64 0, .slice none 0 0] 41)).heap[w.heap.size]? = some (.cells #[.int .u32 0, .int .i64 0, .slice none 0 0] 41 (0, 0)) := heap_alloc_at _ _
  have HG0 := hide hG0
  have HP0 := hide (h.below hbw0)
  have HP := hide h
  have HV := hide hv
  clear h hv hG0 hn
  go_enter Tryd.func22, Tryd.ntmps22
  go_upto_region 4 with (go_at_call 53; refine (checkMinute_ok _ _ h0 h1).mono ?_; rintro e w' ⟨rfl, rfl⟩)
  go_upto_region 5 with (go_at_call 57; refine (latest_calls _ P S A ps full vers HP0.out HV.out).mono ?_; rintro e w1 ⟨rfl, hb1⟩; rw [← Hn.out])
  have hb1' : Below (w.heap.size + 1) (w.alloc (.cells #[.int .u32 0, .int .i64 0, .slice none 0 0] 41)) w1 := by simpa using hb1
  clear hb1
  go_wp2
  go_loopw [7] (fun j wr => ∃ q : Nat, q ≤ n ∧ j = .int .u32 q ∧ Below (w.heap.size + 1) (w.alloc (.cells #[.int .u32 0, .int .i64 0, .slice none 0 0] 41)) wr ∧ Hid (O = inFrom vers m q)) (fun j _ => (intOf j).toNat)
  case atStart => exact ⟨n, by omega, rfl, hb1', by rw [Hn.out]; exact HO⟩
  case round =>
    obtain ⟨q, hq, rfl, hbel, HI⟩ := hrel
    have hsz : w.heap.size + 1 ≤ wr.heap.size := by have := hbel.size; simpa using this
    have hGr : wr.heap[w.heap.size]? = some (.cells #[.int .u32 0, .int .i64 0, .slice none 0 0] 41 (0, 0)) := (hbel.block _ (by omega)).trans HG0.out
    have hbw : Below w.heap.size w wr := hbw0.trans (hbel.mono (by omega))
    rcases Nat.eq_zero_or_pos q with rfl | hpos
    · have hwh := whole_of_heap hGr
      simp only [List.size_toArray, List.length_cons, List.length_nil] at hwh
      go_wp2
      have hfin := heap_setRow_at (ds := #[.int .u32 0, .int .i64 0, .slice none 0 0]) hGr
      refine bodyPost_ret (results_cell_tmp Tryd.results22 _ _ w.heap.size _ _ _ _ rfl hfin Tryd.underlying41 rfl (by kernel_rfl)) rfl ?_
      refine ⟨?_, hbw.trans (below_setRow' _ _ (Nat.le_refl _))⟩
      rw [HI.out]
      rfl
    · obtain ⟨k, rfl⟩ : ∃ k, q = k + 1 := ⟨q - 1, by omega⟩
      have hk : k < vers.length := by rw [← Hn.out]; omega
      have hok := HV.out.ok vers[k] (List.getElem_mem hk)
      have hget := HV.out.ver k hk
      have HI2 : Hid (O = if vers[k].1 ≤ m then some k else inFrom vers m k) := by
        show _ = _
        rw [HI.out, inFrom]; simp [hk]
      have hcall := version_some wr P S A ps full ((k : Int) + 1) vers[k].1 vers[k].2 (HP.out.below hbw) ⟨by omega, by omega⟩ hget hok.eff hok.vis hok.pan hok.len
      have HVE : Hid (∀ x, x = vers[k].2 → x = vers[k].2) := fun _ h => h
      obtain ⟨eff, heff⟩ : ∃ eff, eff = vers[k].1 := ⟨_, rfl⟩
      obtain ⟨vs, hvs⟩ : ∃ vs, vs = vers[k].2 := ⟨_, rfl⟩
      have HEF := hide heff
      have HVS := hide hvs
      rw [← heff] at HI2 hcall
      rw [← hvs] at hcall
      clear heff hvs hget hok HVE
      have HCALL := hide hcall
      clear hcall
      go_upto_region 10 with (go_at_call 23; refine HCALL.out.mono ?_; rintro e w2 ⟨iv, rfl, hvis, hb2⟩; obtain ⟨ia, icap, hiv⟩ := hvis.form; generalize hIL : vs.length = IL at hiv; subst hiv)
      have hb2x : Below (w.heap.size + 1) (w.alloc (.cells #[.int .u32 0, .int .i64 0, .slice none 0 0] 41)) w2 := hbel.trans (hb2.mono hsz)
      have hsz2 : w.heap.size + 1 ≤ w2.heap.size := Nat.le_trans hsz hb2.size
      have hb3x : Below (w.heap.size + 1) (w.alloc (.cells #[.int .u32 0, .int .i64 0, .slice none 0 0] 41)) (w2.alloc (.cells #[.int .u32 ((k : Int) + 1), .int .i64 eff, .slice ia IL icap] 41)) := hb2x.alloc hsz2 _
      by_cases hle : eff ≤ m
      · have hG2 : w2.heap[w.heap.size]? = some (.cells #[.int .u32 0, .int .i64 0, .slice none 0 0] 41 (0, 0)) := (hb2x.block _ (by omega)).trans HG0.out
        have hwh := whole_of_heap hG2
        simp only [List.size_toArray, List.length_cons, List.length_nil] at hwh
        have hlt : w.heap.size < w2.heap.size := by omega
        have HLE := hide hle
        go_wp2
        have hfin : ((w2.setRow w.heap.size #[.int .u32 ((k : Int) + 1), .int .i64 eff, .slice ia IL icap]).alloc (.cells #[.int .u32 ((k : Int) + 1), .int .i64 eff, .slice ia IL icap] 41)).heap[w.heap.size]? = some (.cells #[.int .u32 ((k : Int) + 1), .int .i64 eff, .slice ia IL icap] 41 (0, 0)) := (Below.heap_alloc _ _ _ (by simp; omega)).trans (heap_setRow_at hG2)
        refine bodyPost_ret (results_cell_tmp Tryd.results22 _ _ w.heap.size _ _ _ _ rfl hfin Tryd.underlying41 rfl (by kernel_rfl)) rfl ?_
        refine ⟨?_, (((hbw0.trans (hb2x.mono (by omega))).trans (below_setRow' _ _ (Nat.le_refl _))).alloc (by simp; omega) _)⟩
        rw [HI2.out, if_pos HLE.out]
        refine ⟨hk, .slice ia IL icap, by rw [← HEF.out]; rfl, ?_⟩
        rw [← HVS.out]
        refine (VisitsAt.lt hvis).mono (fun b hb => ?_) (fun b hb => by have h9 := hb.1; show w.heap.size ≤ b; omega)
        have h9 := hb.1
        exact (Below.heap_alloc _ _ _ (by simp; exact hb.2)).trans (setRow_other _ _ _ _ (by omega))
      · have HI3 : Hid (O = inFrom vers m k) := by show _ = _; rw [HI2.out, if_neg hle]
        go_wp2
        go_roundw
        case measure => simp [intOf]
        case rel => exact ⟨k, by omega, by go_num, hb3x, HI3⟩

set_option maxRecDepth 100000 in
set_option maxHeartbeats 2000000 in
theorem commit_calls (w : World) (P S : Nat) (A okw : Nat → Prop) (ps ws : List KV) (wv : Value) (h : PAt w P S A ps false) (hW : WritesAt w okw wv ws) (hokw : ∀ b, okw b → b ≠ S) (hps : ps.length + ws.length ≤ 1000000) :
    Calls Tryd.prog 48 #[.pointer (some ⟨P, 0, none⟩), wv] w fun e w' => e = .returned .nilIface ∧ Kept w w' S ∧ StoreAt w' S (Anew w A w') (applyB ps ws) false := by
  obtain ⟨p0, pf, hPl⟩ := cell_one h.proto
  have HS := hide h.store
  go_enter Tryd.func48, Tryd.ntmps48
  go_wp2_with (go_at_call 76; refine (apply_calls w S A okw ps ws wv HS.out hW hokw hps).mono ?_; rintro e w1 ⟨rfl, hk, hst⟩)
  go_ret
  exact ⟨rfl, hk, hst⟩

set_option maxRecDepth 100000 in
set_option maxHeartbeats 2000000 in
theorem apply_full (w : World) (S : Nat) (A : Nat → Prop) (ps : List KV) (wv : Value) (h : StoreAt w S A ps true) :
    Calls Tryd.prog 76 #[.pointer (some ⟨S, 0, none⟩), wv] w fun e w' => (∃ s, e = .returned (.iface 176 s)) ∧ w = w' := by
  obtain ⟨pv, hS, -⟩ := h.ex
  obtain ⟨s0, s1, -, hSl⟩ := cell_two hS
  go_enter Tryd.func76, Tryd.ntmps76
  go_wp2
  go_ret
  exact ⟨⟨_, rfl⟩, rfl⟩

set_option maxRecDepth 100000 in
set_option maxHeartbeats 2000000 in
theorem commit_full (w : World) (P S : Nat) (A : Nat → Prop) (ps : List KV) (wv : Value) (h : PAt w P S A ps true) :
    Calls Tryd.prog 48 #[.pointer (some ⟨P, 0, none⟩), wv] w fun e w' => e = .returned (errV 21) ∧ w = w' := by
  obtain ⟨p0, pf, hPl⟩ := cell_one h.proto
  have HS := hide h.store
  go_enter Tryd.func48, Tryd.ntmps48
  go_wp2_with (go_at_call 76; refine (apply_full w S A ps wv HS.out).mono ?_; rintro e w1 ⟨⟨s, rfl⟩, rfl⟩)
  go_ret
  exact ⟨rfl, rfl⟩

end Go.Proofs.Qxb6500665aDoor
