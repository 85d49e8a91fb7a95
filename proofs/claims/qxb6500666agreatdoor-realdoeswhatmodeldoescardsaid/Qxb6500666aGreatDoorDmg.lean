/- api.Damage: on bytes of every kind; weak (some bytes come out). -/
import Derived.Test.Qxb6500666aGreatDoorLowPr
import Derived.Test.Qxb6500666aGreatDoorBytes
import Derived.Test.Qxb6500666aGreatDoorMix4
namespace Go.Proofs.Qxb6500666aGreatDoor
open Go.RowKit

theorem run_slFromU {P : Program} {t e : TypeId} {size : Nat} (ht : P.underlying t = some (.slice e)) (hs : ∀ w, (sizeOf e).run P w = .ok size w) {a : Option Addr} {b off n cap : Nat}
    (ha : 0 < n → a = some ⟨b, off, none⟩) (hcap : n ≤ cap) (hnil : a = none → cap = 0) (i : Nat) (hi : i ≤ n) :
    ∃ ao : Option Addr, (∀ w, (Instr.sliceAt t (.slice a n cap) (some (.int .u64 (i : Int))) none none).run P w = .ok (.slice ao (n - i) (cap - i)) w) ∧ (i < n → ao = some ⟨b, off + i * size, none⟩) ∧ (ao = none → cap - i = 0) := by
  refine ⟨if cap = i then a else a.map (·.add (i * size)), fun w => ?_, fun hlt => ?_, fun hn => ?_⟩
  · simp [Instr.sliceAt, Instr.slice, run_underlying ht, hs, Instr.sliceBounds, Instr.sliceBound, asIntOf]
    intro h
    omega
  · rw [if_neg (by omega), ha (by omega)]
    simp [Addr.add_lit]
  · split at hn
    · omega
    · cases a with
      | none => rw [hnil rfl]; simp
      | some a => simp at hn
theorem run_slToU {P : Program} {t e : TypeId} (ht : P.underlying t = some (.slice e)) {size : Nat} (hs : ∀ w, (sizeOf e).run P w = .ok size w) {a : Option Addr} {n cap : Nat} (hA : a = none ∨ ∃ b off, a = some ⟨b, off, none⟩) (hcap : n ≤ cap) (i : Nat) (hi : i ≤ n) (w : World) :
    (Instr.sliceAt t (.slice a n cap) none (some (.int .u64 (i : Int))) none).run P w = .ok (.slice a i cap) w := by
  have h2 : i ≤ cap := by omega
  rcases hA with rfl | ⟨b, off, rfl⟩
  · simp [Instr.sliceAt, Instr.slice, run_underlying ht, hs, Instr.sliceBounds, Instr.sliceBound, asIntOf, h2]
  · simp [Instr.sliceAt, Instr.slice, run_underlying ht, hs, Instr.sliceBounds, Instr.sliceBound, asIntOf, h2, Addr.add_lit]
theorem OwnR.takeLe {α : Type} {w : World} {base : Nat} {e : TypeId} {size : Nat} {f : α → Array Value} {a : Option Addr} {n cap : Nat} {xs : List α} (h : OwnR w base e size f (.slice a n cap) xs) (hf : ∀ x, (f x).size = size) (i : Nat) (hi : i ≤ xs.length) : OwnR w base e size f (.slice a i cap) (xs.take i) := by
  obtain ⟨k1, k2⟩ := h
  rcases k2 with ⟨k2, k3⟩ | ⟨g, cap', cur, k2, hg, hh, r1, r2, r3, r4⟩
  · injection k2 with q1 q2 q3
    subst q1 q3
    obtain rfl : i = 0 := by omega
    exact World.ownsRow_nil _ _ _ _
  · injection k2 with q1 q2 q3
    subst q1 q3
    have hl : (xs.take i).length = i := by rw [List.length_take]; omega
    have hle : i * size ≤ xs.length * size := Nat.mul_le_mul_right _ (by omega)
    refine ⟨by rw [flat_length hf], Or.inr ⟨g, cap, cur, by rw [hl], hg, hh, by rw [hl]; omega, r2, r3, ?_⟩⟩
    rw [hl]
    have h1 : flat f xs = flat f (xs.take i) ++ flat f (xs.drop i) := by rw [← flat_append, List.take_append_drop]
    have h2 : cur.toList.take (i * size) = (flat f xs).take (i * size) := by rw [← r4, List.take_take, Nat.min_eq_left hle]
    rw [h2, h1, List.take_left' (by rw [flat_length hf, hl])]

theorem sizeU8_d (w : World) : (sizeOf 5).run Tryz.prog w = .ok 1 w := by kernel_rfl
theorem flat_bytesD (bs : List Int) : flat byteCs bs = bs.map (fun x => Value.int .u8 x) := by
  induction bs with
  | nil => rfl
  | cons x r ih =>
    rw [List.map_cons, ← ih]
    rfl
theorem OwnR.setByte {w : World} {base g n cap : Nat} {e : TypeId} {bs : List Int} {cur : Array Value} (hg : base ≤ g) (hh : w.heap[g]? = some (.cells cur e (0, 0))) (r1 : n ≤ cap) (r2 : cap ≤ maxLen) (r3 : cur.size = cap * 1) (r4 : cur.toList.take (n * 1) = flat byteCs bs) (hn : n = bs.length) (i : Nat) (y : Int) : OwnR (w.setCell ⟨g, i, none⟩ (.int .u8 y)) base e 1 byteCs (.slice (some ⟨g, 0, none⟩) n cap) (bs.set i y) := by
  refine ⟨by rw [flat_length byteCs_size], Or.inr ⟨g, cap, cur.setIfInBounds i (.int .u8 y), by rw [List.length_set, hn], hg, heap_set3 hh, by rw [List.length_set, ← hn]; exact r1, r2, by rw [Array.size_setIfInBounds]; exact r3, ?_⟩⟩
  rw [List.length_set, ← hn, Array.toList_setIfInBounds, List.take_set, r4, flat_bytesD, flat_bytesD, List.map_set]

/-- What comes out. -/
def DmPost (w w' : World) (N : Nat) (e : Ending) : Prop := ∃ v bs, e = .returned v ∧ BytesAt w' (w.heap.size ≤ ·) v bs ∧ bs.length ≤ N ∧ Below w.heap.size w w'
theorem DmPost.own {w w' : World} {N : Nat} {v : Value} {bs : List Int} (h : OwnR w' w.heap.size 5 1 byteCs v bs) (hb : Below w.heap.size w w') (hl : bs.length ≤ N) (hN : N ≤ 140737488355328) : DmPost w w' N (.returned v) :=
  ⟨v, bs, rfl, h.rows byteCs_size (by decide) (by omega), hl, hb⟩

set_option maxRecDepth 100000 in
set_option maxHeartbeats 4000000 in
theorem damage_calls (w : World) (ok1 ok2 : Nat → Prop) (v1 v2 : Value) (data extra : List Int) (mode num : Int) (h1 : BytesAt w ok1 v1 data) (h2 : BytesAt w ok2 v2 extra) (hm : 0 ≤ mode ∧ mode ≤ 255) (hn : 0 ≤ num ∧ num ≤ 18446744073709551615) (l1 : data.length ≤ 100000000000) (l2 : extra.length ≤ 100000000000) :
    Calls Tryz.prog 51 #[v1, .int .u8 mode, .int .u64 num, v2] w fun e w' => DmPost w w' (data.length + extra.length) e := by
  obtain ⟨a, cap, b, off, rfl, hl, hm1, hr, ha, hc⟩ := h1.lt
  obtain ⟨n, hn1⟩ : ∃ n, n = data.length := ⟨_, rfl⟩
  have Hn : Hid (n = data.length) := hn1
  rw [← hn1] at hl hr ha l1 ⊢
  have HNil : Hid (a = none → cap = 0) := hm1.2
  have HSRC : Hid (∀ W, Below w.heap.size w W → 0 < n → ∃ b' off', a = some ⟨b', off', none⟩ ∧ ∀ i (h : i < data.length), rng W b' (off' + i * 1) 1 = some (byteCs data[i])) := fun W hW hp => ⟨b, off, (ha hp).1, fun i hi => by rw [rng_of_block (hW.block b (ha hp).2.2)]; exact hc i hi⟩
  have H2 := hide h2
  clear ha hc hn1 hm1 hl h1 h2
  go_enter Tryz.func51, Tryz.ntmps51
  go_upto_region 2 with (at_builtin; refine wpList_appN (α := Int) rfl _ _ 55 rfl w.heap.size 5 byteCs Tryz.underlying55 Tryz.info5 rfl (by decide) byteCs_size byteCs_one _ [] rfl (OwnR.nil _ _ _ _ _) a n cap rfl data Hn.out HNil.out (HSRC.out _ (Below.refl _ _)) (by simp only [List.length_nil]; omega) (by simp only [List.length_nil]; unfold maxLen; omega) (Nat.le_refl _) ?_; intro v1 w1 hown1 hsame1 hbel1 hat1; obtain ⟨a1, c1, hv1⟩ := hown1.form; rw [List.length_append, List.length_nil, Nat.zero_add, ← Hn.out] at hv1; subst hv1)
  have HO : Hid (OwnR w1 w.heap.size 5 1 byteCs (.slice a1 n c1) data) := hown1
  have HB1 := hide hbel1
  clear hown1 hsame1 hat1 hbel1 HSRC HNil
  obtain ⟨hm0, hm1⟩ := hm
  obtain ⟨hn0, hn1⟩ := hn
  go_upto_region 4 with fail
  have hm6 : 0 ≤ mode % 6 := by omega
  generalize mode % 6 = m6 at *
  clear hm0 hm1
  obtain ⟨ae, me, ce, rfl⟩ : ∃ ae me ce, v2 = .slice ae me ce := by
    obtain ⟨a, cap, b, off, e, -⟩ := H2.out
    exact ⟨_, _, _, e⟩
  have HSX : Hid (∀ W, Below w.heap.size w W → me = extra.length ∧ (ae = none → ce = 0) ∧ (0 < me → ∃ b' off', ae = some ⟨b', off', none⟩ ∧ ∀ i (h : i < extra.length), rng W b' (off' + i * 1) 1 = some (byteCs extra[i]))) := fun W hW => by
    obtain ⟨a, cap, b, off, e, hl, hm1, hr, ha, hc⟩ := H2.out.lt
    injection e with q1 q2 q3
    subst q1 q2 q3
    exact ⟨rfl, hm1.2, fun hp => ⟨b, off, (ha hp).1, fun i hi => by rw [rng_of_block (hW.block b (ha hp).2.2)]; exact hc i hi⟩⟩
  have hme : me = extra.length := (HSX.out w (Below.refl _ _)).1
  have Hme := hide hme
  rw [← hme] at l2
  clear hme H2
  have hc1 : n ≤ c1 := by
    obtain ⟨a, cap, b, off, e, hl, -⟩ := HO.out.rows byteCs_size (by decide) (by rw [← Hn.out]; omega)
    injection e with q1 q2 q3
    omega
  have hz1 := HB1.out.size
  have HPT : ∃ ga gb, Hid ((a1 = none ∨ ∃ x y, a1 = some ⟨x, y, none⟩) ∧ (0 < n → a1 = some ⟨ga, gb, none⟩ ∧ ga < w1.heap.size ∧ ∀ i (h : i < data.length), rng w1 ga (gb + i * 1) 1 = some (byteCs data[i])) ∧ (a1 = none → c1 = 0)) := by
    obtain ⟨a, cap, b, off, e, hl, hm, hr, ha, hc⟩ := RArr.lt (HO.out.rows byteCs_size (by decide) (by rw [← Hn.out]; omega))
    injection e with q1 q2 q3
    subst q1 q3
    refine ⟨b, off, ?_, fun hp => ⟨(ha (by omega)).1, (ha (by omega)).2.2, hc⟩, hm.2⟩
    rcases HO.out.2 with ⟨e, -⟩ | ⟨g, cap', cur, e, -⟩
    · injection e with e1; exact Or.inl e1
    · injection e with e1; exact Or.inr ⟨_, _, e1⟩
  cases t1 : (m6 == 1) with
  | true =>
    cases t2 : decide (0 < n) with
    | true =>
      have hp : 0 < n := by simpa using t2
      obtain ⟨g, cur, ha1, hg, hh, r2, r3, r4⟩ : ∃ g cur, a1 = some ⟨g, 0, none⟩ ∧ w.heap.size ≤ g ∧ w1.heap[g]? = some (.cells cur 5 (0, 0)) ∧ c1 ≤ maxLen ∧ cur.size = c1 * 1 ∧ cur.toList.take (n * 1) = flat byteCs data := by
        have hnl := Hn.out
        rcases HO.out.2 with ⟨e, -⟩ | ⟨g, cap', cur, e, hg, hh, r1, r2, r3, r4⟩
        · injection e with e1 e2 e3; omega
        · injection e with e1 e2 e3
          subst e3
          rw [← hnl] at r4
          exact ⟨g, cur, e1, hg, hh, r2, r3, r4⟩
      subst ha1
      go_upto_region 6 with fail
      have q0 : 0 ≤ num / 8 % ↑n := Int.emod_nonneg _ (by omega)
      have q1 : num / 8 % ↑n < ↑n := Int.emod_lt_of_pos _ (by omega)
      have q2 : 0 ≤ num / 8 := by omega
      have q3 : num / 8 ≤ 18446744073709551615 := by omega
      obtain ⟨x, hx⟩ : ∃ x, w1.cell? ⟨g, (num / 8 % ↑n).toNat, none⟩ = some (.int .u8 x) := by
        have h1 : (cur.toList.take (n * 1))[(num / 8 % ↑n).toNat]? = (flat byteCs data)[(num / 8 % ↑n).toNat]? := by rw [r4]
        rw [List.getElem?_take_of_lt (by omega), flat_bytesD, List.getElem?_map] at h1
        have h2 : (num / 8 % ↑n).toNat < data.length := by rw [← Hn.out]; omega
        rw [List.getElem?_eq_getElem h2] at h1
        refine ⟨data[(num / 8 % ↑n).toNat], ?_⟩
        simp only [World.cell?, hh]
        simpa using h1
      have hfz : w1.frozen? ⟨g, (num / 8 % ↑n).toNat, none⟩ = false := by simp [World.frozen?, hh]
      have HS : Hid (∀ y, OwnR (w1.setCell ⟨g, (num / 8 % ↑n).toNat, none⟩ (.int .u8 y)) w.heap.size 5 1 byteCs (.slice (some ⟨g, 0, none⟩) n c1) (data.set (num / 8 % ↑n).toNat y)) := fun y => OwnR.setByte hg hh hc1 r2 r3 r4 Hn.out _ y
      clear r2 r3 r4 hh
      go_wp2
      go_ret
      exact DmPost.own (HS.out _) (HB1.out.setCell (p := ⟨g, (num / 8 % ↑n).toNat, none⟩) hg _) (by rw [List.length_set, ← Hn.out]; omega) (by rw [← Hme.out]; omega)
    | false =>
      go_wp2
      go_ret
      exact DmPost.own HO.out HB1.out (by rw [← Hn.out]; omega) (by rw [← Hme.out]; omega)
  | false =>
  cases t2 : (m6 == 2) with
  | true =>
    have q0 : 0 ≤ num % (↑n + 1) := Int.emod_nonneg _ (by omega)
    have q1 : num % (↑n + 1) ≤ ↑n := by have := Int.emod_lt_of_pos num (b := ↑n + 1) (by omega); omega
    have q2 : num % (↑n + 1) ≤ ↑c1 := by omega
    go_wp2
    go_ret
    exact DmPost.own (HO.out.takeLe byteCs_size _ (by rw [← Hn.out]; omega)) HB1.out (by rw [List.length_take, ← Hn.out]; omega) (by rw [← Hme.out]; omega)
  | false =>
  cases t3 : (m6 == 3) with
  | true =>
    go_wp2_with (at_builtin; refine wpList_appN (α := Int) rfl _ _ 55 rfl w.heap.size 5 byteCs Tryz.underlying55 Tryz.info5 rfl (by decide) byteCs_size byteCs_one _ data rfl HO.out ae me ce rfl extra Hme.out (HSX.out _ HB1.out).2.1 (HSX.out _ HB1.out).2.2 (by rw [← Hn.out]; omega) (by rw [← Hn.out]; unfold maxLen; omega) hz1 ?_; intro v1 w2 hown2 hsame2 hbel2 hat2; obtain ⟨a2, c2, hv2⟩ := hown2.form; rw [List.length_append, ← Hn.out, ← Hme.out] at hv2; subst hv2)
    go_ret
    exact DmPost.own hown2 (HB1.out.trans hbel2) (by rw [List.length_append, ← Hn.out]; omega) (by rw [← Hme.out]; omega)
  | false =>
  cases t4 : (m6 == 4) with
  | true =>
    go_upto_region 13 with fail
    have q0 : 0 ≤ num % (↑n + 1) := Int.emod_nonneg _ (by omega)
    have q1 : num % (↑n + 1) ≤ ↑n := by have := Int.emod_lt_of_pos num (b := ↑n + 1) (by omega); omega
    obtain ⟨k, hk⟩ : ∃ k : Nat, num % (↑n + 1) = ↑k := ⟨(num % (↑n + 1)).toNat, by omega⟩
    have hkn : k ≤ n := by omega
    rw [hk]
    clear hk q0 q1
    obtain ⟨ga, gb, HA⟩ : ∃ ga gb, Hid ((a1 = none ∨ ∃ x y, a1 = some ⟨x, y, none⟩) ∧ (0 < n → a1 = some ⟨ga, gb, none⟩ ∧ ga < w1.heap.size ∧ ∀ i (h : i < data.length), rng w1 ga (gb + i * 1) 1 = some (byteCs data[i])) ∧ (a1 = none → c1 = 0)) := HPT
    have hsl1 := fun W => run_slToU (P := Tryz.prog) Tryz.underlying55 sizeU8_d (a := a1) (n := n) (cap := c1) HA.out.1 hc1 k hkn W
    obtain ⟨ao, hsl2, hao, hanil⟩ := run_slFromU (P := Tryz.prog) Tryz.underlying55 sizeU8_d (a := a1) (b := ga) (off := gb) (n := n) (cap := c1) (fun h => (HA.out.2.1 h).1) hc1 HA.out.2.2 k hkn
    have HAO := hide hao
    have HAN := hide hanil
    clear hao hanil
    refine wp_region_mixT (w1.heap.size) [] (by kernel_rfl) ?_
    refine mixT_slots [0, 1, 2, 4, 6, 7, 8] (fuel := 4) rfl (by kernel_rfl) (by kernel_rfl) (fun d _ _ _ _ h => by cases d <;> exact h) ?_
    simp only [opersAt, List.getElem?_toArray, List.getElem?_cons_zero, List.getElem?_cons_succ]
    repeat (go_big_quiet_step (fail))
    refine wpQuiet_nil ?_
    refine mixT_one (k := 3) (by kernel_rfl) rfl ?_
    refine wpList_appN (α := Int) rfl _ _ 55 rfl w.heap.size 5 byteCs Tryz.underlying55 Tryz.info5 rfl (by decide) byteCs_size byteCs_one _ [] rfl (OwnR.nil _ _ _ _ _) a1 k c1 rfl (data.take k) (by rw [List.length_take, ← Hn.out]; omega) HA.out.2.2 (fun hp => ⟨ga, gb, (HA.out.2.1 (by omega)).1, fun i hi => by rw [List.length_take] at hi; rw [List.getElem_take]; exact (HA.out.2.1 (by omega)).2.2 i (by omega)⟩) (by simp only [List.length_nil]; omega) (by simp only [List.length_nil]; unfold maxLen; omega) hz1 ?_
    intro v3 w3 hown3 hsame3 hbel3 hat3
    refine ⟨Or.inl (by kernel_rfl), ?_⟩
    have hz3 : w1.heap.size ≤ w3.heap.size := hbel3.size
    have HB3 := hide ((HB1.out.trans (Below.refl _ _).drew).trans hbel3)
    have HS3 : Hid (Same (fun b => b < w1.heap.size) w1 w3) := fun b hb => hsame3 b ⟨hb, fun h => nomatch (show (none : Option Nat) = some b from h)⟩
    have HV3 : Hid (∀ b, b < w1.heap.size → v3.ownBlock ≠ some b) := fun b hb h => by
      rcases hat3 with e | e <;> rw [e] at h
      · exact nomatch (show (none : Option Nat) = some b from h)
      · injection h with h
        have : w1.drew.heap.size = w1.heap.size := rfl
        omega
    have HO3 := hide hown3
    have HL3 : Hid (([] ++ data.take k).length = k) := by show _ = _; rw [List.nil_append, List.length_take, ← Hn.out]; omega
    clear hown3 hsame3 hbel3 hat3
    refine mixT_one (k := 5) (by kernel_rfl) rfl ?_
    refine wpList_appN (α := Int) rfl _ _ 55 rfl w.heap.size 5 byteCs Tryz.underlying55 Tryz.info5 rfl (by decide) byteCs_size byteCs_one _ ([] ++ data.take k) rfl HO3.out ae me ce rfl extra Hme.out (HSX.out _ HB3.out).2.1 (HSX.out _ HB3.out).2.2 (by rw [HL3.out]; omega) (by rw [HL3.out]; unfold maxLen; omega) (by omega) ?_
    intro v4 w4 hown4 hsame4 hbel4 hat4
    refine ⟨Or.inl (by kernel_rfl), ?_⟩
    have hz4 := hbel4.size
    have HB4 := hide (HB3.out.trans hbel4)
    have HS4 : Hid (0 < n → w4.heap[ga]? = w1.heap[ga]?) := fun hp => by
      have hg := (HA.out.2.1 hp).2.1
      have hz3' : w1.heap.size ≤ w3.heap.size := hz3
      exact (hsame4 ga ⟨by omega, HV3.out ga hg⟩).trans (HS3.out ga hg)
    have HO4 := hide hown4
    have HL4 : Hid ((([] ++ data.take k) ++ extra).length = k + me) := by show _ = _; rw [List.length_append, HL3.out, ← Hme.out]
    clear hown4 hsame4 hbel4 hat4
    refine mixT_one (k := 9) (by kernel_rfl) rfl ?_
    refine wpList_appN (α := Int) rfl _ _ 55 rfl w.heap.size 5 byteCs Tryz.underlying55 Tryz.info5 rfl (by decide) byteCs_size byteCs_one _ (([] ++ data.take k) ++ extra) rfl HO4.out ao (n - k) (c1 - k) rfl (data.drop k) (by rw [List.length_drop, ← Hn.out]) HAN.out (fun hp => ⟨ga, gb + k * 1, HAO.out (by omega), fun i hi => by rw [List.length_drop] at hi; rw [List.getElem_drop, rng_of_block (HS4.out (by omega)), show gb + k * 1 + i * 1 = gb + (k + i) * 1 by omega]; exact (HA.out.2.1 (by omega)).2.2 (k + i) (by omega)⟩) (by rw [HL4.out]; omega) (by rw [HL4.out]; unfold maxLen; omega) (by omega) ?_
    intro v5 w5 hown5 hsame5 hbel5 hat5
    refine ⟨Or.inl (by kernel_rfl), ?_⟩
    have HO5 := hide hown5
    have HB5 := hide (HB4.out.trans hbel5)
    obtain ⟨a5, n5, c5, hv5⟩ := hown5.form3
    subst hv5
    clear hown5 hsame5 hbel5 hat5
    refine mixT_one (k := 10) (by kernel_rfl) rfl ?_
    go_wp2
    (first | refine ⟨Or.inl (by kernel_rfl), ?_⟩ | skip)
    refine mixT_nil (by kernel_rfl) ?_
    go_wp2
    go_ret
    exact DmPost.own HO5.out HB5.out (by rw [List.length_append, HL4.out, List.length_drop, ← Hn.out, ← Hme.out]; omega) (by rw [← Hme.out]; omega)
  | false =>
  cases t5 : (m6 == 5) with
  | true =>
    cases t6 : decide (0 < n) with
    | true =>
      have hp : 0 < n := by simpa using t6
      go_upto_region 17 with fail
      have q0 : 0 ≤ num % ↑n := Int.emod_nonneg _ (by omega)
      have q1 : num % ↑n < ↑n := Int.emod_lt_of_pos num (by omega)
      obtain ⟨k, hk⟩ : ∃ k : Nat, num % ↑n = ↑k := ⟨(num % ↑n).toNat, by omega⟩
      have hkn : k < n := by omega
      rw [hk]
      clear hk q0 q1
      obtain ⟨ga, gb, HA⟩ := HPT
      have hsl1 := fun W => run_slToU (P := Tryz.prog) Tryz.underlying55 sizeU8_d (a := a1) (n := n) (cap := c1) HA.out.1 hc1 k (by omega) W
      obtain ⟨ao, hsl2, hao, hanil⟩ := run_slFromU (P := Tryz.prog) Tryz.underlying55 sizeU8_d (a := a1) (b := ga) (off := gb) (n := n) (cap := c1) (fun h => (HA.out.2.1 h).1) hc1 HA.out.2.2 (k + 1) (by omega)
      rw [show ((k + 1 : Nat) : Int) = (k : Int) + 1 by omega] at hsl2
      have HAO := hide hao
      have HAN := hide hanil
      clear hao hanil
      refine wp_region_mixT (w1.heap.size) [] (by kernel_rfl) ?_
      refine mixT_slots [0, 1, 2, 3, 4, 5, 6] (fuel := 2) rfl (by kernel_rfl) (by kernel_rfl) (fun d _ _ _ _ h => by cases d <;> exact h) ?_
      simp only [opersAt, List.getElem?_toArray, List.getElem?_cons_zero, List.getElem?_cons_succ]
      repeat (go_big_quiet_step (fail))
      refine wpQuiet_nil ?_
      refine mixT_one (k := 7) (by kernel_rfl) rfl ?_
      refine wpList_appN (α := Int) rfl _ _ 55 rfl w.heap.size 5 byteCs Tryz.underlying55 Tryz.info5 rfl (by decide) byteCs_size byteCs_one _ (data.take k) rfl (HO.out.takeLe byteCs_size k (by rw [← Hn.out]; omega)) ao (n - (k + 1)) (c1 - (k + 1)) rfl (data.drop (k + 1)) (by rw [List.length_drop, ← Hn.out]) HAN.out (fun hp => ⟨ga, gb + (k + 1) * 1, HAO.out (by omega), fun i hi => by rw [List.length_drop] at hi; rw [List.getElem_drop, show gb + (k + 1) * 1 + i * 1 = gb + (k + 1 + i) * 1 by omega]; exact (HA.out.2.1 (by omega)).2.2 (k + 1 + i) (by omega)⟩) (by rw [List.length_take, ← Hn.out]; omega) (by rw [List.length_take, ← Hn.out]; unfold maxLen; omega) hz1 ?_
      intro v5 w5 hown5 hsame5 hbel5 hat5
      refine ⟨Or.inl (by kernel_rfl), ?_⟩
      have HO5 := hide hown5
      have HB5 := hide ((HB1.out.trans (Below.refl _ _).drew).trans hbel5)
      obtain ⟨a5, n5, c5, hv5⟩ := hown5.form3
      subst hv5
      clear hown5 hsame5 hbel5 hat5
      refine mixT_one (k := 8) (by kernel_rfl) rfl ?_
      go_wp2
      (first | refine ⟨Or.inl (by kernel_rfl), ?_⟩ | skip)
      refine mixT_nil (by kernel_rfl) ?_
      go_wp2
      go_ret
      exact DmPost.own HO5.out HB5.out (by rw [List.length_append, List.length_take, List.length_drop, ← Hn.out]; omega) (by rw [← Hme.out]; omega)
    | false =>
      go_wp2
      go_ret
      exact DmPost.own HO.out HB1.out (by rw [← Hn.out]; omega) (by rw [← Hme.out]; omega)
  | false =>
    go_wp2
    go_ret
    exact DmPost.own HO.out HB1.out (by rw [← Hn.out]; omega) (by rw [← Hme.out]; omega)

end Go.Proofs.Qxb6500666aGreatDoor
