/- The writer of numbers, walked. (Made by tools/mk_writer.py.) -/
import Derived.Test.Qxb6500666aGreatDoorWr
namespace Go.Proofs.Qxb6500666aGreatDoor
open Go.RowKit

/-- The new slice of c bytes, filled from place p on. -/
structure DigW (w W : World) (c p : Nat) (r : List Int) : Prop where
  size : W.heap.size = w.heap.size + 1
  below : Below w.heap.size w W
  len : p + r.length = c
  cells : ∃ pre : List Value, W.heap[w.heap.size]? = some (.cells (pre ++ r.map (Value.int .u8)).toArray 5 (0, 0)) ∧ pre.length = p

theorem DigW.cell {w W : World} {c p : Nat} {r : List Int} (h : DigW w W c p r) {q : Nat} (hq : q < c) : ∃ x, W.cell? ⟨w.heap.size, q, none⟩ = some x := by
  obtain ⟨pre, hh, hp⟩ := h.cells
  have hl := h.len
  refine ⟨(pre ++ r.map (Value.int .u8))[q]'(by simp; omega), ?_⟩
  simp [World.cell?, hh]

theorem DigW.open {w W : World} {c p : Nat} {r : List Int} (h : DigW w W c p r) (q : Nat) : W.frozen? ⟨w.heap.size, q, none⟩ = false := by
  obtain ⟨pre, hh, hp⟩ := h.cells
  simp [World.frozen?, hh]

theorem DigW.tail {w W : World} {c p : Nat} {r : List Int} (h : DigW w W c p r) (i : Nat) (hi : i < r.length) : rng W w.heap.size (p + i * 1) 1 = some (byteCs r[i]) := by
  obtain ⟨pre, hh, hp⟩ := h.cells
  have hl := h.len
  unfold rng
  rw [hh]
  simp only
  rw [if_pos (by simp; omega)]
  congr 1
  apply Array.toList_inj.1
  have e : (pre ++ r.map (Value.int .u8)).drop (p + i) = (r.map (Value.int .u8)).drop i := by rw [← hp, List.drop_append]; simp
  simp only [Array.toList_extract, List.extract_eq_take_drop, Nat.mul_one, e]
  rw [List.drop_eq_getElem_cons (by simpa using hi)]
  simp [byteCs]

theorem DigW.put {w W : World} {c p : Nat} {r : List Int} (h : DigW w W c (p + 1) r) (y : Int) : DigW w (W.setCell ⟨w.heap.size, p, none⟩ (.int .u8 y)) c p (y :: r) := by
  obtain ⟨pre, hh, hp⟩ := h.cells
  have hl := h.len
  refine ⟨by simp [World.setCell, h.size], h.below.trans ⟨rfl, rfl, rfl, by simp [World.setCell], fun k hk => Below.heap_setCell _ _ _ _ (by simp; omega)⟩, by simp; omega, ?_⟩
  obtain ⟨pre', z, rfl⟩ : ∃ pre' z, pre = pre' ++ [z] := ⟨pre.dropLast, pre.getLast (by intro e; subst e; simp at hp), by rw [List.dropLast_concat_getLast]⟩
  have hp' : pre'.length = p := by simpa using hp
  refine ⟨pre', ?_, hp'⟩
  rw [heap_setCell_same _ _ _ _ _ _ hh, ← hp']
  simp

theorem run_make1 (w : World) : (Instr.makeSlice 55 (.int .i64 1) (.int .i64 1)).run Tryz.prog w = .ok (.slice (some ⟨w.heap.size, 0, none⟩) 1 1) (w.alloc (.cells #[.int .u8 0] 5)) := by kernel_rfl

theorem run_make4 (w : World) : (Instr.makeSlice 55 (.int .i64 4) (.int .i64 4)).run Tryz.prog w = .ok (.slice (some ⟨w.heap.size, 0, none⟩) 4 4) (w.alloc (.cells #[.int .u8 0, .int .u8 0, .int .u8 0, .int .u8 0] 5)) := by kernel_rfl

theorem run_make8 (w : World) : (Instr.makeSlice 55 (.int .i64 8) (.int .i64 8)).run Tryz.prog w = .ok (.slice (some ⟨w.heap.size, 0, none⟩) 8 8) (w.alloc (.cells #[.int .u8 0, .int .u8 0, .int .u8 0, .int .u8 0, .int .u8 0, .int .u8 0, .int .u8 0, .int .u8 0] 5)) := by kernel_rfl

attribute [local go_sem] run_make1 run_make4 run_make8

set_option maxRecDepth 100000 in
set_option maxHeartbeats 1000000 in
theorem digits1_calls (w : World) (B g : Nat) (A : Nat → Prop) (bs : List Int) (x : Int) (h : WriterAt w B g A bs) (hl : bs.length ≤ 70368744177664) (h1 : 0 ≤ x) (h2 : x ≤ 18446744073709551615) :
    Calls Tryz.prog 247 #[.pointer (some ⟨g, 0, none⟩), .int .u64 x, .int .i64 1] w fun e w' => e = .returned (.tuple #[]) ∧ WroteW w w' B g A (bs ++ d256 1 x) := by
  obtain ⟨a, cap, hg, hB, hown, hne, k1, k2, k3⟩ := h
  obtain ⟨-, -, hgl⟩ := cell_one hg
  have hix := run_indexAt_arr (P := Tryz.prog) (n := 1) (cap := 1) Tryz.underlying55 Tryz.size5 (fun _ => (rfl : some (⟨w.heap.size, 0, none⟩ : Addr) = _))
  go_enter Tryz.func247, Tryz.ntmps247
  go_wp2
  have hD0 : DigW w (w.alloc (.cells #[.int .u8 0] 5)) 1 1 [] :=
    ⟨by simp, (Below.refl _ _).alloc (Nat.le_refl _) _, rfl, ⟨[.int .u8 0], heap_alloc_at _ _, rfl⟩⟩
  go_loopg [1, 7] 1 (fun gk n j W => ∃ (p : Nat) (y : Int) (r : List Int), p ≤ 1 ∧ gk = 0 + p ∧ n = .int .u64 y ∧ j = .int .i64 ((p : Int) - 1) ∧ DigW w W 1 p r ∧ d256 p y ++ r = d256 1 x ∧ 0 ≤ y ∧ y ≤ 18446744073709551615)
  case atStart => exact ⟨1, x, [], by omega, rfl, rfl, rfl, hD0, by simp, h1, h2⟩
  case round =>
    obtain ⟨p, y, r, hp, rfl, rfl, rfl, hD, hdg, hy1, hy2⟩ := hrel
    rcases Nat.eq_zero_or_pos p with rfl | hpos
    · have hr : r = d256 1 x := by simpa [d256] using hdg
      subst hr
      have hg1 : wr.heap[g]? = some (.cells #[.slice a bs.length cap] 373 (0, 0)) := (hD.below.block _ hgl).trans hg
      obtain ⟨hc1, hfz1, -⟩ := cell_one hg1
      have hrl := d256_len 1 x
      clear hdg hix
      go_wp2_with (at_builtin; refine wpList_appN (α := Int) rfl _ _ 55 rfl B 5 byteCs Tryz.underlying55 Tryz.info5 rfl (by decide) byteCs_size byteCs_one (.slice a bs.length cap) bs rfl (OwnR.below hown hD.below (Nat.le_refl _)) (some ⟨w.heap.size, 0, none⟩) 1 1 rfl (d256 1 x) hrl.symm (fun h => by cases h) (fun _ => ⟨_, _, rfl, fun i hi => by have := hD.tail i hi; simpa using this⟩) (by omega) (by unfold maxLen; omega) (by have := hD.size; omega) ?_; intro v1 w1 hown1 hsame1 hbel1 hat1; have hs1 : Same (fun b => b < w.heap.size ∧ (Value.slice a bs.length cap).ownBlock ≠ some b) w w1 := (fun b hb => (hsame1 b ⟨(by have := hD.size; omega), hb.2⟩).trans (hD.below.block b hb.1)); obtain ⟨hc2, hfz2, -⟩ := cell_one ((hs1 g ⟨hgl, hne⟩).trans hg); obtain ⟨a1, cap1, hv1⟩ := hown1.form; generalize (bs ++ d256 1 x).length = L1 at hv1; subst hv1)
      go_end0
      refine ⟨rfl, writer_store hg hB hne k1 k2 k3 hown1 ((hD.below.mono (by omega)).trans hbel1) hs1 ?_⟩
      rcases hat1 with h | h
      · exact Or.inl h
      · exact Or.inr fun b hb => by rw [h] at hb; have := hD.size; injection hb with hb; omega
    · obtain ⟨p', rfl⟩ : ∃ p', p = p' + 1 := ⟨p - 1, by omega⟩
      obtain ⟨x0, hcell⟩ := hD.cell (q := p') (by omega)
      have hfz := hD.open p'
      go_wp2
      go_roundg (0 + p')
      case measure => omega
      case rel => exact ⟨p', y / 256, y % 256 :: r, by omega, rfl, by go_num, by go_num, hD.put _, by rw [← hdg]; simp [d256], by omega, by omega⟩

set_option maxRecDepth 100000 in
set_option maxHeartbeats 1000000 in
theorem digits4_calls (w : World) (B g : Nat) (A : Nat → Prop) (bs : List Int) (x : Int) (h : WriterAt w B g A bs) (hl : bs.length ≤ 70368744177664) (h1 : 0 ≤ x) (h2 : x ≤ 18446744073709551615) :
    Calls Tryz.prog 247 #[.pointer (some ⟨g, 0, none⟩), .int .u64 x, .int .i64 4] w fun e w' => e = .returned (.tuple #[]) ∧ WroteW w w' B g A (bs ++ d256 4 x) := by
  obtain ⟨a, cap, hg, hB, hown, hne, k1, k2, k3⟩ := h
  obtain ⟨-, -, hgl⟩ := cell_one hg
  have hix := run_indexAt_arr (P := Tryz.prog) (n := 4) (cap := 4) Tryz.underlying55 Tryz.size5 (fun _ => (rfl : some (⟨w.heap.size, 0, none⟩ : Addr) = _))
  go_enter Tryz.func247, Tryz.ntmps247
  go_wp2
  have hD0 : DigW w (w.alloc (.cells #[.int .u8 0, .int .u8 0, .int .u8 0, .int .u8 0] 5)) 4 4 [] :=
    ⟨by simp, (Below.refl _ _).alloc (Nat.le_refl _) _, rfl, ⟨[.int .u8 0, .int .u8 0, .int .u8 0, .int .u8 0], heap_alloc_at _ _, rfl⟩⟩
  go_loopg [1, 7] 4 (fun gk n j W => ∃ (p : Nat) (y : Int) (r : List Int), p ≤ 4 ∧ gk = 0 + p ∧ n = .int .u64 y ∧ j = .int .i64 ((p : Int) - 1) ∧ DigW w W 4 p r ∧ d256 p y ++ r = d256 4 x ∧ 0 ≤ y ∧ y ≤ 18446744073709551615)
  case atStart => exact ⟨4, x, [], by omega, rfl, rfl, rfl, hD0, by simp, h1, h2⟩
  case round =>
    obtain ⟨p, y, r, hp, rfl, rfl, rfl, hD, hdg, hy1, hy2⟩ := hrel
    rcases Nat.eq_zero_or_pos p with rfl | hpos
    · have hr : r = d256 4 x := by simpa [d256] using hdg
      subst hr
      have hg1 : wr.heap[g]? = some (.cells #[.slice a bs.length cap] 373 (0, 0)) := (hD.below.block _ hgl).trans hg
      obtain ⟨hc1, hfz1, -⟩ := cell_one hg1
      have hrl := d256_len 4 x
      clear hdg hix
      go_wp2_with (at_builtin; refine wpList_appN (α := Int) rfl _ _ 55 rfl B 5 byteCs Tryz.underlying55 Tryz.info5 rfl (by decide) byteCs_size byteCs_one (.slice a bs.length cap) bs rfl (OwnR.below hown hD.below (Nat.le_refl _)) (some ⟨w.heap.size, 0, none⟩) 4 4 rfl (d256 4 x) hrl.symm (fun h => by cases h) (fun _ => ⟨_, _, rfl, fun i hi => by have := hD.tail i hi; simpa using this⟩) (by omega) (by unfold maxLen; omega) (by have := hD.size; omega) ?_; intro v1 w1 hown1 hsame1 hbel1 hat1; have hs1 : Same (fun b => b < w.heap.size ∧ (Value.slice a bs.length cap).ownBlock ≠ some b) w w1 := (fun b hb => (hsame1 b ⟨(by have := hD.size; omega), hb.2⟩).trans (hD.below.block b hb.1)); obtain ⟨hc2, hfz2, -⟩ := cell_one ((hs1 g ⟨hgl, hne⟩).trans hg); obtain ⟨a1, cap1, hv1⟩ := hown1.form; generalize (bs ++ d256 4 x).length = L1 at hv1; subst hv1)
      go_end0
      refine ⟨rfl, writer_store hg hB hne k1 k2 k3 hown1 ((hD.below.mono (by omega)).trans hbel1) hs1 ?_⟩
      rcases hat1 with h | h
      · exact Or.inl h
      · exact Or.inr fun b hb => by rw [h] at hb; have := hD.size; injection hb with hb; omega
    · obtain ⟨p', rfl⟩ : ∃ p', p = p' + 1 := ⟨p - 1, by omega⟩
      obtain ⟨x0, hcell⟩ := hD.cell (q := p') (by omega)
      have hfz := hD.open p'
      go_wp2
      go_roundg (0 + p')
      case measure => omega
      case rel => exact ⟨p', y / 256, y % 256 :: r, by omega, rfl, by go_num, by go_num, hD.put _, by rw [← hdg]; simp [d256], by omega, by omega⟩

set_option maxRecDepth 100000 in
set_option maxHeartbeats 1000000 in
theorem digits8_calls (w : World) (B g : Nat) (A : Nat → Prop) (bs : List Int) (x : Int) (h : WriterAt w B g A bs) (hl : bs.length ≤ 70368744177664) (h1 : 0 ≤ x) (h2 : x ≤ 18446744073709551615) :
    Calls Tryz.prog 247 #[.pointer (some ⟨g, 0, none⟩), .int .u64 x, .int .i64 8] w fun e w' => e = .returned (.tuple #[]) ∧ WroteW w w' B g A (bs ++ d256 8 x) := by
  obtain ⟨a, cap, hg, hB, hown, hne, k1, k2, k3⟩ := h
  obtain ⟨-, -, hgl⟩ := cell_one hg
  have hix := run_indexAt_arr (P := Tryz.prog) (n := 8) (cap := 8) Tryz.underlying55 Tryz.size5 (fun _ => (rfl : some (⟨w.heap.size, 0, none⟩ : Addr) = _))
  go_enter Tryz.func247, Tryz.ntmps247
  go_wp2
  have hD0 : DigW w (w.alloc (.cells #[.int .u8 0, .int .u8 0, .int .u8 0, .int .u8 0, .int .u8 0, .int .u8 0, .int .u8 0, .int .u8 0] 5)) 8 8 [] :=
    ⟨by simp, (Below.refl _ _).alloc (Nat.le_refl _) _, rfl, ⟨[.int .u8 0, .int .u8 0, .int .u8 0, .int .u8 0, .int .u8 0, .int .u8 0, .int .u8 0, .int .u8 0], heap_alloc_at _ _, rfl⟩⟩
  go_loopg [1, 7] 8 (fun gk n j W => ∃ (p : Nat) (y : Int) (r : List Int), p ≤ 8 ∧ gk = 0 + p ∧ n = .int .u64 y ∧ j = .int .i64 ((p : Int) - 1) ∧ DigW w W 8 p r ∧ d256 p y ++ r = d256 8 x ∧ 0 ≤ y ∧ y ≤ 18446744073709551615)
  case atStart => exact ⟨8, x, [], by omega, rfl, rfl, rfl, hD0, by simp, h1, h2⟩
  case round =>
    obtain ⟨p, y, r, hp, rfl, rfl, rfl, hD, hdg, hy1, hy2⟩ := hrel
    rcases Nat.eq_zero_or_pos p with rfl | hpos
    · have hr : r = d256 8 x := by simpa [d256] using hdg
      subst hr
      have hg1 : wr.heap[g]? = some (.cells #[.slice a bs.length cap] 373 (0, 0)) := (hD.below.block _ hgl).trans hg
      obtain ⟨hc1, hfz1, -⟩ := cell_one hg1
      have hrl := d256_len 8 x
      clear hdg hix
      go_wp2_with (at_builtin; refine wpList_appN (α := Int) rfl _ _ 55 rfl B 5 byteCs Tryz.underlying55 Tryz.info5 rfl (by decide) byteCs_size byteCs_one (.slice a bs.length cap) bs rfl (OwnR.below hown hD.below (Nat.le_refl _)) (some ⟨w.heap.size, 0, none⟩) 8 8 rfl (d256 8 x) hrl.symm (fun h => by cases h) (fun _ => ⟨_, _, rfl, fun i hi => by have := hD.tail i hi; simpa using this⟩) (by omega) (by unfold maxLen; omega) (by have := hD.size; omega) ?_; intro v1 w1 hown1 hsame1 hbel1 hat1; have hs1 : Same (fun b => b < w.heap.size ∧ (Value.slice a bs.length cap).ownBlock ≠ some b) w w1 := (fun b hb => (hsame1 b ⟨(by have := hD.size; omega), hb.2⟩).trans (hD.below.block b hb.1)); obtain ⟨hc2, hfz2, -⟩ := cell_one ((hs1 g ⟨hgl, hne⟩).trans hg); obtain ⟨a1, cap1, hv1⟩ := hown1.form; generalize (bs ++ d256 8 x).length = L1 at hv1; subst hv1)
      go_end0
      refine ⟨rfl, writer_store hg hB hne k1 k2 k3 hown1 ((hD.below.mono (by omega)).trans hbel1) hs1 ?_⟩
      rcases hat1 with h | h
      · exact Or.inl h
      · exact Or.inr fun b hb => by rw [h] at hb; have := hD.size; injection hb with hb; omega
    · obtain ⟨p', rfl⟩ : ∃ p', p = p' + 1 := ⟨p - 1, by omega⟩
      obtain ⟨x0, hcell⟩ := hD.cell (q := p') (by omega)
      have hfz := hD.open p'
      go_wp2
      go_roundg (0 + p')
      case measure => omega
      case rel => exact ⟨p', y / 256, y % 256 :: r, by omega, rfl, by go_num, by go_num, hD.put _, by rw [← hdg]; simp [d256], by omega, by omega⟩

set_option maxRecDepth 100000 in
theorem wU8_calls (w : World) (B g : Nat) (A : Nat → Prop) (bs : List Int) (x : Int) (h : WriterAt w B g A bs) (hl : bs.length ≤ 70368744177664) (h1 : 0 ≤ x) (h2 : x ≤ 255) :
    Calls Tryz.prog 215 #[.pointer (some ⟨g, 0, none⟩), .int .u8 x] w fun e w' => e = .returned (.tuple #[]) ∧ WroteW w w' B g A (bs ++ d256 1 x) := by
  go_enter Tryz.func215, Tryz.ntmps215
  go_wp2_with (go_at_call 247; refine (digits1_calls _ B g A bs x h hl h1 (by omega)).mono ?_; rintro e w1 ⟨rfl, hW⟩)
  go_end0
  exact ⟨rfl, hW⟩

set_option maxRecDepth 100000 in
theorem wU32_calls (w : World) (B g : Nat) (A : Nat → Prop) (bs : List Int) (x : Int) (h : WriterAt w B g A bs) (hl : bs.length ≤ 70368744177664) (h1 : 0 ≤ x) (h2 : x ≤ 4294967295) :
    Calls Tryz.prog 216 #[.pointer (some ⟨g, 0, none⟩), .int .u32 x] w fun e w' => e = .returned (.tuple #[]) ∧ WroteW w w' B g A (bs ++ d256 4 x) := by
  go_enter Tryz.func216, Tryz.ntmps216
  go_wp2_with (go_at_call 247; refine (digits4_calls _ B g A bs x h hl h1 (by omega)).mono ?_; rintro e w1 ⟨rfl, hW⟩)
  go_end0
  exact ⟨rfl, hW⟩

set_option maxRecDepth 100000 in
theorem wI64_calls (w : World) (B g : Nat) (A : Nat → Prop) (bs : List Int) (x : Int) (h : WriterAt w B g A bs) (hl : bs.length ≤ 70368744177664) (h1 : -9223372036854775808 ≤ x) (h2 : x ≤ 9223372036854775807) :
    Calls Tryz.prog 231 #[.pointer (some ⟨g, 0, none⟩), .int .i64 x] w fun e w' => e = .returned (.tuple #[]) ∧ WroteW w w' B g A (bs ++ d256 8 (x + 9223372036854775808)) := by
  have hx : IntKind.u64.wrap (IntKind.u64.wrap x + 9223372036854775808) = x + 9223372036854775808 := by
    simp [IntKind.wrap, IntKind.bits, IntKind.signed]
    omega
  go_enter Tryz.func231, Tryz.ntmps231
  go_wp2_with (go_at_call 247; (refine (digits8_calls _ B g A bs (x + 9223372036854775808) h hl (by omega) (by omega)).mono ?_; rintro e w1 ⟨rfl, hW⟩))
  go_end0
  exact ⟨rfl, hW⟩

end Go.Proofs.Qxb6500666aGreatDoor
