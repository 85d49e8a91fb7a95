/- Verify, walked. -/
import Derived.Test.Qxb6500666aGreatDoorLedW
namespace Go.Proofs.Qxb6500666aGreatDoor
open Go.RowKit

theorem ownR_base {α : Type} {w : World} {A B : Nat} {e : TypeId} {size : Nat} {f : α → Array Value} {v : Value} {xs : List α} (h : OwnR w B e size f v xs) (hb : A ≤ B) : OwnR w A e size f v xs := by
  refine ⟨h.1, ?_⟩
  rcases h.2 with h2 | ⟨g, cap, cur, h2, hg, h3⟩
  · exact Or.inl h2
  · exact Or.inr ⟨g, cap, cur, h2, Nat.le_trans hb hg, h3⟩

/-- A list of rendered files in memory. -/
structure TxAt (W : World) (ok : Nat → Prop) (tv : Value) (zt : List ZT) (fs : List File) : Prop where
  a : RArr W ok 1 ztCs tv zt
  t : ∀ z ∈ zt, BytesAt W ok (sv z.1) z.2
  m : zt.map (·.2) = fs.map txt
section
variable {W W' : World} {ok ok' : Nat → Prop} {tv : Value} {zt : List ZT} {fs : List File}
theorem TxAt.len (h : TxAt W ok tv zt fs) : zt.length = fs.length := by have := congrArg List.length h.m; simpa using this
theorem TxAt.below (h : TxAt W ok tv zt fs) (hb : Below W.heap.size W W') : TxAt W' ok tv zt fs := ⟨RArr.below h.a hb, fun z hz => RArr.below (h.t z hz) hb, h.m⟩
theorem TxAt.mono (h : TxAt W ok tv zt fs) (hs : Same ok W W') (ho : ∀ b, ok b → ok' b) : TxAt W' ok' tv zt fs := ⟨RArr.mono h.a hs ho, fun z hz => RArr.mono (h.t z hz) hs ho, h.m⟩
theorem txt_pos (f : File) : 0 < (txt f).length := by
  simp [txt, fileText, trailText]
  omega
theorem TxAt.data (h : TxAt W ok tv zt fs) {i : Nat} (hi : i < fs.length) (hz : i < zt.length) : ∃ b off n c, zt[i].1 = (some ⟨b, off, none⟩, n, c) ∧ DataAt W b off n c (txt fs[i]) ∧ ok b := by
  have e : zt[i].2 = txt fs[i] := by
    have := congrArg (fun l => l[i]?) h.m
    simp only [List.getElem?_map, List.getElem?_eq_getElem hz, List.getElem?_eq_getElem hi] at this
    simpa using this
  have hb := RArr.lt (h.t zt[i] (List.getElem_mem hz))
  rw [e] at hb
  have hp := txt_pos fs[i]
  generalize txt fs[i] = d at *
  generalize zt[i] = z at *
  obtain ⟨⟨z1, z2, z3⟩, zd⟩ := z
  obtain ⟨a, c, b, off, r1, r2, r3, r4, r5, r6⟩ := hb
  injection r1 with e1 e2 e3
  subst e1
  subst e2
  subst e3
  obtain ⟨r5a, r5b⟩ := r5 hp
  subst r5a
  exact ⟨b, off, _, _, rfl, ⟨r5b.2, ⟨r2, r3.1⟩, rfl, r4, fun t ht => by have := (rng_cell (r6 t ht)).2 0 (by decide); simpa [byteCs] using this⟩, r5b.1⟩
end

/-- What Verify answers. -/
inductive VerP (W w' : World) (fs : List File) (e : Ending) : Prop
  | good (a : Option Addr) (c : Nat) (L : Led) (ht : takeAll led0 fs = (fs.length, L)) (he : e = .returned (.tuple #[.slice a L.rows.length c, .int .i64 0, .nilIface])) (ho : OwnR w' W.heap.size 109 13 rowCs (.slice a L.rows.length c) L.rows) (hb : Below W.heap.size W w') : VerP W w' fs e
  | bad (k : Nat) (hk : k < fs.length) (ht : (takeAll led0 fs).1 = k) (he : e = .returned (.tuple #[.slice none 0 0, .int .i64 ((k : Int) + 1), .iface 63 (.int .u8 30)])) (hb : Below W.heap.size W w') : VerP W w' fs e

/-- Behind k files. -/
structure VerS (W U : World) (fs : List File) (k : Nat) (L : Led) (v : SV) : Prop where
  led : LedAt U W.heap.size L v
  bel : Below W.heap.size W U
  tk : L.taken = k
  rl : L.rows.length ≤ 20 * k
  all : takeAll led0 fs = (k + (takeAll L (fs.drop k)).1, (takeAll L (fs.drop k)).2)
theorem takeAll_none {L : Led} {fs : List File} {k : Nat} (hk : k < fs.length) (h : takeR L fs[k] = none) : takeAll L (fs.drop k) = (0, L) := by
  rw [List.drop_eq_getElem_cons hk, takeAll, h]
theorem takeAll_some {L L' : Led} {fs : List File} {k : Nat} (hk : k < fs.length) (h : takeR L fs[k] = some L') : takeAll L (fs.drop k) = ((takeAll L' (fs.drop (k + 1))).1 + 1, (takeAll L' (fs.drop (k + 1))).2) := by
  rw [List.drop_eq_getElem_cons hk, takeAll, h]
theorem takeR_len {L L' : Led} {f : File} (hf : FK f) (h : takeR L f = some L') : L'.rows.length ≤ L.rows.length + 20 ∧ L'.taken = f.seq ∧ f.seq = L.taken + 1 := by
  by_cases ht : Turn L f
  · by_cases hk : f.kind = 73
    · rw [takeR_inc ht hk] at h
      cases ha : applyF L.rows f.changes with
      | none =>
        rw [ha] at h
        cases h
      | some rs =>
        rw [ha] at h
        injection h with h
        have h20 : f.changes.length ≤ 20 := by
          have := hf.ok.2.2.1
          omega
        have := agree_len ha
        rw [← h]
        exact ⟨by show rs.length ≤ _; omega, rfl, ht.1⟩
    · rw [takeR_cum ht hk] at h
      split at h
      · injection h with h
        rw [← h]
        exact ⟨by show L.rows.length ≤ _; omega, rfl, ht.1⟩
      · cases h
  · rw [takeR_not ht] at h
    cases h
theorem VerS.step {W U U' : World} {fs : List File} {k : Nat} {L L' : Led} {v v' : SV} (h : VerS W U fs k L v) (hk : k < fs.length) (hf : FK fs[k]) (ht : takeR L fs[k] = some L') (hl : LedAt U' W.heap.size L' v') (hb : Below W.heap.size U U') : VerS W U' fs (k + 1) L' v' := by
  obtain ⟨h1, h2, h3⟩ := takeR_len hf ht
  refine ⟨hl, h.bel.trans hb, ?_, ?_, ?_⟩
  · rw [h2, h3, h.tk]
    rfl
  · have := h.rl
    omega
  · rw [h.all, takeAll_some hk ht]
    congr 1
    omega

set_option maxRecDepth 100000 in
set_option maxHeartbeats 4000000 in
theorem verify_calls (W : World) (tv : Value) (zt : List ZT) (fs : List File) (ok : Nat → Prop) (hX : TxAt W ok tv zt fs) (hf : ∀ f ∈ fs, FK f) (hl : fs.length ≤ 1000000) :
    Calls Tryz.prog 53 #[tv] W fun e w' => VerP W w' fs e := by
  have HX := hide hX
  have HF := hide hf
  have HZL := hide hX.len
  obtain ⟨ra, rc, rb, ro, rfl, rl1, rl2, rl3, rha, rhc⟩ := RArr.lt hX.a
  obtain ⟨n, hn⟩ : ∃ n, n = zt.length := ⟨_, rfl⟩
  have Hn := hide hn
  rw [← hn] at rl1 rl3 rha ⊢
  have hix := run_indexAt_arr (P := Tryz.prog) (n := n) (cap := rc) Tryz.underlying144 Tryz.size55 (fun h => (rha h).1)
  have HRB : Hid (0 < n → rb < W.heap.size) := fun h => (rha h).2.2
  have HRC := hide rhc
  have hn1 : n ≤ 1000000 := by rw [hn, HZL.out]; exact hl
  clear hX hf rl1 rl2 rl3 rha rhc hn hl
  go_enter Tryz.func53, Tryz.ntmps53
  go_upto_region 3 with fail
  have HV0 : Hid (VerS W (W.alloc (.cells (ledCs led0 (none, 0, 0)) 154)) fs 0 led0 (none, 0, 0)) := ⟨LedAt.new W, (Below.refl _ _).alloc (Nat.le_refl _) _, rfl, Nat.zero_le _, by rw [List.drop_zero, Nat.zero_add]⟩
  change Code.wp _ _ _ _ (W.alloc (.cells (ledCs led0 (none, 0, 0)) 154))
  generalize W.alloc (.cells (ledCs led0 (none, 0, 0)) 154) = W1 at *
  go_loopg [11] n (fun gk j wr => ∃ (k : Nat) (L : Led) (v : SV), k ≤ n ∧ gk = n - k ∧ j = .int .i64 k ∧ Hid (VerS W wr fs k L v))
  case atStart => exact ⟨0, led0, (none, 0, 0), by omega, by omega, rfl, HV0⟩
  case round =>
    clear HV0
    obtain ⟨k, L, v, hkn, rfl, rfl, HV⟩ := hrel
    by_cases hlt : k < n
    · have hkz : k < zt.length := by rw [← Hn.out]; exact hlt
      have hkf : k < fs.length := by rw [← HZL.out]; exact hkz
      obtain ⟨b, off, dn, dc, hz, hD, -⟩ := HX.out.data hkf hkz
      have hrb := HRB.out (by omega)
      have hcl : wr.cell? ⟨rb, ro + k, none⟩ = some (.slice (some ⟨b, off, none⟩) dn dc) := by
        have h1 := (rng_cell (HRC.out k hkz)).2 0 (by decide)
        simp only [ztCs, hz, sv] at h1
        rw [World.cell?_of_block (w := W) (HV.out.bel.block _ hrb)]
        simpa using h1
      have HFK := hide (HF.out _ (List.getElem_mem hkf))
      have HTK := hide (ledTake_calls wr W.heap.size L v fs[k] b off dn dc HV.out.led (hD.next (HV.out.bel.block _ hD.lt) HV.out.bel.size) HFK.out (by rw [HV.out.tk]; omega) (by have := HV.out.rl; omega))
      unfold TakeP at HTK
      cases ht : takeR L fs[k] with
      | none =>
        as_aux_lemma =>
        rw [ht] at HTK
        have HAL : Hid ((takeAll led0 fs).1 = k) := by
          show _ = _
          rw [HV.out.all, takeAll_none hkf ht]
          rfl
        clear ht hz hD
        go_wp2_with (go_at_call 54; refine HTK.out.mono ?_; rintro e w2 ⟨rfl, hb2⟩)
        refine bodyPost_ret (v := .tuple #[.slice none 0 0, .int .i64 ((k : Int) + 1), .iface 63 (.int .u8 30)]) (by simp [results, Tryz.results53]) rfl ?_
        exact .bad k hkf HAL.out rfl (HV.out.bel.trans (hb2.mono HV.out.bel.size))
      | some L' =>
        as_aux_lemma =>
        rw [ht] at HTK
        have HT := hide ht
        clear ht hz hD
        go_wp2_with (go_at_call 54; refine HTK.out.mono ?_; rintro e w2 ⟨rfl, hl2, hs2, hb2⟩; have HL2 := hide hl2; have HB2 := hide hb2; clear hl2 hs2 hb2)
        obtain ⟨v2, hl2⟩ := HL2.out
        have HV2 := hide (HV.out.step hkf HFK.out HT.out hl2 HB2.out)
        clear hl2
        go_roundg (n - (k + 1))
        case measure => omega
        case rel => exact ⟨k + 1, L', v2, by omega, rfl, by go_num, HV2⟩
    · as_aux_lemma =>
      obtain rfl : k = n := by omega
      have HAL : Hid (takeAll led0 fs = (fs.length, L)) := by
        show _ = _
        have e : k = fs.length := by rw [Hn.out]; exact HZL.out
        rw [HV.out.all, e, List.drop_length]
        rfl
      have HRW := hide (ledRows_calls wr W.heap.size L v HV.out.led (by have := HV.out.rl; omega))
      go_wp2_with (go_at_call 58; refine HRW.out.mono ?_; rintro e w2 ⟨u, rfl, hown, hb2⟩)
      obtain ⟨ua, uc, hu⟩ := hown.form
      subst hu
      refine bodyPost_ret (v := .tuple #[.slice ua L.rows.length uc, .int .i64 0, .nilIface]) (by simp [results, Tryz.results53]) rfl ?_
      exact .good ua uc L HAL.out rfl (ownR_base hown HV.out.bel.size) (HV.out.bel.trans (hb2.mono HV.out.bel.size))
end Go.Proofs.Qxb6500666aGreatDoor
