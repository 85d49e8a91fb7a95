/- The reader of numbers, walked. -/
import Derived.Test.Qxb6500666aGreatDoorWr
namespace Go.Proofs.Qxb6500666aGreatDoor
open Go.RowKit

/-- The reader at block g: the bytes that are left, the flag. -/
def CReaderAt (w : World) (g : Nat) (v : Value) (short : Bool) : Prop := w.heap[g]? = some (.cells #[v, .bool short] 407 (0, 0))

theorem cell_two {w : World} {g : Nat} {x y : Value} {T : TypeId} (h : w.heap[g]? = some (.cells #[x, y] T (0, 0))) :
    w.cell? ⟨g, 0, none⟩ = some x ∧ w.cell? ⟨g, 1, none⟩ = some y ∧ (∀ j, w.frozen? ⟨g, j, none⟩ = false) ∧ g < w.heap.size :=
  ⟨by simp [World.cell?, h], by simp [World.cell?, h], fun j => by simp [World.frozen?, h], (Array.getElem?_eq_some_iff.1 h).1⟩

/-- The number that digits stand for. -/
def v256 (l : List Int) : Int := l.foldl (fun n d => n * 256 + d) 0

theorem v256_snoc (l : List Int) (d : Int) : v256 (l ++ [d]) = v256 l * 256 + d := by simp [v256]

theorem v256_d256 (c : Nat) : ∀ n : Int, 0 ≤ n → n < 256 ^ c → v256 (d256 c n) = n := by
  induction c with
  | zero => intro n h1 h2; simp [d256, v256] at *; omega
  | succ c ih =>
    intro n h1 h2
    rw [d256, v256_snoc, ih (n / 256) (by omega) (by rw [Int.pow_succ] at h2; omega)]
    omega

theorem run_slUpto (w : World) (b off n cap hi : Nat) (h2 : hi ≤ cap) (h3 : 0 < cap) :
    (Instr.sliceAt 55 (.slice (some ⟨b, off, none⟩) n cap) none (some (.int .i64 (hi : Int))) none).run Tryz.prog w = .ok (.slice (some ⟨b, off, none⟩) hi cap) w := by
  simp [Instr.sliceAt, Instr.slice, run_underlying Tryz.underlying55, Instr.sliceBounds, Instr.sliceBound, asIntOf, h2, Nat.ne_of_gt h3]
  simp [Addr.add_lit]

theorem d256_range (c : Nat) : ∀ n : Int, ∀ d ∈ d256 c n, 0 ≤ d ∧ d ≤ 255 := by
  induction c with
  | zero => intro n d hd; simp [d256] at hd
  | succ c ih =>
    intro n d hd
    simp only [d256, List.mem_append, List.mem_singleton] at hd
    rcases hd with hd | rfl
    · exact ih _ d hd
    · omega

theorem v256_take (l : List Int) (h : ∀ d ∈ l, 0 ≤ d ∧ d ≤ 255) : ∀ k, k ≤ l.length → 0 ≤ v256 (l.take k) ∧ v256 (l.take k) < 256 ^ k
  | 0, _ => by simp [v256]
  | k + 1, hk => by
    obtain ⟨h1, h2⟩ := v256_take l h k (by omega)
    have h3 := h l[k] (List.getElem_mem (by omega))
    rw [List.take_succ_eq_append_getElem (by omega), v256_snoc, Int.pow_succ]
    omega

theorem rng_one {w : World} {b o : Nat} {v : Value} (h : w.cell? ⟨b, o, none⟩ = some v) : rng w b o 1 = some #[v] := by
  unfold World.cell? at h
  unfold rng
  simp only at h
  split at h
  · rename_i c t fr hb
    rw [hb]
    obtain ⟨ho, hv⟩ := Array.getElem?_eq_some_iff.1 h
    simp only
    rw [if_pos (by omega)]
    congr 1
    apply Array.toList_inj.1
    simp only [Array.toList_extract, List.extract_eq_take_drop]
    rw [List.drop_eq_getElem_cons (by simpa using ho)]
    simp [← hv]
  · cases h

set_option maxRecDepth 100000 in
set_option maxHeartbeats 1000000 in
theorem rdigits_calls (w : World) (g : Nat) (v : Value) (ok : Nat → Prop) (c : Nat) (ds rest : List Int) (hR : CReaderAt w g v false) (hB : BytesAt w ok v (ds ++ rest)) (hok : ∀ b, ok b → b ≠ g) (hc : ds.length = c) (hc0 : 0 < c) (hc8 : c ≤ 8) (hd : ∀ d ∈ ds, 0 ≤ d ∧ d ≤ 255) :
    Calls Tryz.prog 246 #[.pointer (some ⟨g, 0, none⟩), .int .i64 c] w fun e w' => ∃ v', e = .returned (.int .u64 (v256 ds)) ∧ CReaderAt w' g v' false ∧ BytesAt w' ok v' rest ∧ w.setCell ⟨g, 0, none⟩ v' = w' := by
  obtain ⟨n, hn⟩ : ∃ n, (ds ++ rest).length = n := ⟨_, rfl⟩
  have hnl : n = c + rest.length := by rw [← hn]; simp [hc]
  obtain ⟨a, cap, b, off, rfl, hr1, hr2, hr3, hr4, ha, hcell⟩ := hB.parts n hn
  obtain ⟨rfl, hokb, hbl⟩ := ha (by omega)
  obtain ⟨g0, g1, gf, hgl⟩ := cell_two hR
  have hsl1 := fun W => run_slUpto W b off n cap c (by omega) (by omega)
  obtain ⟨ao, hsl2, hao, hanil⟩ := run_slFrom (P := Tryz.prog) (t := 55) Tryz.underlying55 Tryz.size5 (a := some ⟨b, off, none⟩) (b := b) (off := off) (n := n) (cap := cap) (fun _ => rfl) hr2 (fun h => by cases h) c (by omega)
  have hix := run_indexAt_arr (P := Tryz.prog) (n := c) (cap := cap) Tryz.underlying55 Tryz.size5 (fun _ => (rfl : some (⟨b, off, none⟩ : Addr) = _))
  unfold slFrom at hsl2
  have HC := hide hcell
  have HD := hide hd
  have HNL := hide hnl
  have hcn : c ≤ n := by omega
  clear hcell hd hnl ha hn
  go_enter Tryz.func246, Tryz.ntmps246
  go_wp2
  go_loopg [5, 31] c (fun gk y j W => ∃ q : Nat, q ≤ c ∧ gk = c - q ∧ j = .int .i64 q ∧ y = .int .u64 (v256 (ds.take q)) ∧ w = W)
  case atStart => exact ⟨0, by omega, by omega, rfl, rfl, rfl⟩
  case round =>
    obtain ⟨q, hq, rfl, rfl, rfl, rfl⟩ := hrel
    by_cases hlt : q < c
    · have hql : q < ds.length := by omega
      have c0 := HC.out q (by simp; omega)
      rw [List.getElem_append_left hql] at c0
      obtain ⟨t1, t2⟩ := v256_take ds HD.out (q + 1) (by omega)
      obtain ⟨u1, u2⟩ := v256_take ds HD.out q (by omega)
      have hdr := HD.out _ (List.getElem_mem hql)
      rw [List.take_succ_eq_append_getElem hql, v256_snoc] at t1 t2
      have HS : Hid (v256 (ds.take (q + 1)) = v256 (ds.take q) * 256 + ds[q]) := by show _ = _; rw [List.take_succ_eq_append_getElem hql, v256_snoc]
      have hpow : (256 : Int) ^ (q + 1) ≤ 18446744073709551616 := by
        rcases (show q = 0 ∨ q = 1 ∨ q = 2 ∨ q = 3 ∨ q = 4 ∨ q = 5 ∨ q = 6 ∨ q = 7 by omega) with rfl | rfl | rfl | rfl | rfl | rfl | rfl | rfl <;> decide
      generalize ds[q] = d at *
      generalize v256 (ds.take q) = y at *
      have hy : y * 256 + d < 18446744073709551616 := by omega
      clear t2 u2 hpow
      go_wp2
      go_roundg (c - (q + 1))
      case measure => omega
      case rel => exact ⟨q + 1, by omega, rfl, by go_num, by rw [HS.out], rfl⟩
    · have hE : ds.take q = ds := List.take_of_length_le (by omega)
      rw [hE]
      clear hix hsl1
      go_wp2
      go_ret
      have hset := heap_setCell_same w g 0 #[.slice (some ⟨b, off, none⟩) n cap, .bool false] 407 (.slice ao (n - c) (cap - c)) hR
      refine ⟨.slice ao (n - c) (cap - c), rfl, hset, ?_, rfl⟩
      have hnl := HNL.out
      refine ⟨ao, cap - c, b, off + c, by rw [show n - c = rest.length by omega], by omega, ⟨by omega, hanil⟩, by omega, fun hp => ⟨by simpa using hao (by omega), hokb⟩, fun i hi => ?_⟩
      have h1 := HC.out (c + i) (by simp; omega)
      rw [List.getElem_append_right (by omega)] at h1
      have h2 : rest[c + i - ds.length]'(by omega) = rest[i] := by congr 1; omega
      rw [h2] at h1
      have h3 : rng w b (off + (c + i)) 1 = some #[.int .u8 rest[i]] := rng_one h1
      rw [rng_of_block (Below.heap_setCell _ _ _ _ (hok b hokb)), show off + c + i * 1 = off + (c + i) by omega]
      exact h3

set_option maxRecDepth 100000 in
theorem rU32_calls (w : World) (g : Nat) (v : Value) (ok : Nat → Prop) (x : Int) (rest : List Int) (hR : CReaderAt w g v false) (hB : BytesAt w ok v (d256 4 x ++ rest)) (hok : ∀ b, ok b → b ≠ g) (h1 : 0 ≤ x) (h2 : x ≤ 4294967295) :
    Calls Tryz.prog 212 #[.pointer (some ⟨g, 0, none⟩)] w fun e w' => ∃ v', e = .returned (.int .u32 x) ∧ CReaderAt w' g v' false ∧ BytesAt w' ok v' rest ∧ w.setCell ⟨g, 0, none⟩ v' = w' := by
  have hv := v256_d256 4 x h1 (by omega)
  go_enter Tryz.func212, Tryz.ntmps212
  go_wp2_with (go_at_call 246; refine (rdigits_calls _ g v ok 4 (d256 4 x) rest hR hB hok (d256_len _ _) (by decide) (by decide) (d256_range 4 x)).mono ?_; rintro e w1 ⟨v', rfl, hR', hB', hw⟩; rw [hv])
  go_ret
  exact ⟨v', rfl, hR', hB', hw⟩

set_option maxRecDepth 100000 in
theorem rU8_calls (w : World) (g : Nat) (v : Value) (ok : Nat → Prop) (x : Int) (rest : List Int) (hR : CReaderAt w g v false) (hB : BytesAt w ok v (d256 1 x ++ rest)) (hok : ∀ b, ok b → b ≠ g) (h1 : 0 ≤ x) (h2 : x ≤ 255) :
    Calls Tryz.prog 218 #[.pointer (some ⟨g, 0, none⟩)] w fun e w' => ∃ v', e = .returned (.int .u8 x) ∧ CReaderAt w' g v' false ∧ BytesAt w' ok v' rest ∧ w.setCell ⟨g, 0, none⟩ v' = w' := by
  have hv := v256_d256 1 x h1 (by omega)
  go_enter Tryz.func218, Tryz.ntmps218
  go_wp2_with (go_at_call 246; refine (rdigits_calls _ g v ok 1 (d256 1 x) rest hR hB hok (d256_len _ _) (by decide) (by decide) (d256_range 1 x)).mono ?_; rintro e w1 ⟨v', rfl, hR', hB', hw⟩; rw [hv])
  go_ret
  exact ⟨v', rfl, hR', hB', hw⟩

set_option maxRecDepth 100000 in
theorem rI64_calls (w : World) (g : Nat) (v : Value) (ok : Nat → Prop) (x : Int) (rest : List Int) (hR : CReaderAt w g v false) (hB : BytesAt w ok v (d256 8 (x + 9223372036854775808) ++ rest)) (hok : ∀ b, ok b → b ≠ g) (h1 : -9223372036854775808 ≤ x) (h2 : x ≤ 9223372036854775807) :
    Calls Tryz.prog 213 #[.pointer (some ⟨g, 0, none⟩)] w fun e w' => ∃ v', e = .returned (.int .i64 x) ∧ CReaderAt w' g v' false ∧ BytesAt w' ok v' rest ∧ w.setCell ⟨g, 0, none⟩ v' = w' := by
  have hv := v256_d256 8 (x + 9223372036854775808) (by omega) (by omega)
  have Hx : Hid (wrap64 (IntKind.u64.wrap x) = x) := by
    show _ = _
    simp [wrap64, IntKind.wrap, IntKind.bits, IntKind.signed]
    omega
  go_enter Tryz.func213, Tryz.ntmps213
  go_wp2_with (go_at_call 246; refine (rdigits_calls _ g v ok 8 (d256 8 (x + 9223372036854775808)) rest hR hB hok (d256_len _ _) (by decide) (by decide) (d256_range 8 _)).mono ?_; rintro e w1 ⟨v', rfl, hR', hB', hw⟩; rw [hv]; obtain ⟨-, r1, -, -⟩ := cell_two hR')
  go_ret
  exact ⟨v', by rw [Hx.out]; rfl, hR', hB', hw⟩

end Go.Proofs.Qxb6500666aGreatDoor
