/- The reader over bytes of every kind, walked. -/
import Derived.Test.Qxb6500666aGreatDoorReadWalk
import Derived.Test.Qxb6500666aGreatDoorLowSmE
namespace Go.Proofs.Qxb6500666aGreatDoor
open Go.RowKit

structure Rd where
  rest : List Int
  short : Bool
def ByteL (l : List Int) : Prop := ∀ d ∈ l, 0 ≤ d ∧ d ≤ 255
def rdDig (c : Nat) (r : Rd) : Int × Rd := if (r.short || decide (r.rest.length < c)) then (0, ⟨r.rest, true⟩) else (v256 (r.rest.take c), ⟨r.rest.drop c, false⟩)
def rdI64 (r : Rd) : Int × Rd := if (rdDig 8 r).2.short then (0, (rdDig 8 r).2) else ((rdDig 8 r).1 - 9223372036854775808, (rdDig 8 r).2)
structure RdAt (w : World) (g : Nat) (ok : Nat → Prop) (r : Rd) : Prop where
  at' : ∃ v, CReaderAt w g v r.short ∧ BytesAt w ok v r.rest
  bytes : ByteL r.rest
structure RdStep (w w' : World) (g : Nat) : Prop where
  size : w'.heap.size = w.heap.size
  same : ∀ b, b ≠ g → w'.heap[b]? = w.heap[b]?
  below : Below g w w'
theorem RdStep.trans {a b c : World} {g : Nat} (h : RdStep a b g) (k : RdStep b c g) : RdStep a c g :=
  ⟨k.size.trans h.size, fun x hx => (k.same x hx).trans (h.same x hx), h.below.trans k.below⟩
theorem RdStep.set {w : World} {g o : Nat} {v : Value} : RdStep w (w.setCell ⟨g, o, none⟩ v) g :=
  ⟨by simp, fun b hb => Below.heap_setCell _ _ _ _ hb, (Below.refl _ _).setCell (p := ⟨g, o, none⟩) (Nat.le_refl _) _⟩

theorem rdDig_bytes {c : Nat} {r : Rd} (h : ByteL r.rest) : ByteL (rdDig c r).2.rest := by
  unfold rdDig
  split
  · exact h
  · exact fun d hd => h d (List.mem_of_mem_drop hd)
theorem rdDig_bound {c : Nat} {r : Rd} (h : ByteL r.rest) : 0 ≤ (rdDig c r).1 ∧ (rdDig c r).1 < 256 ^ c := by
  unfold rdDig
  split
  · exact ⟨Int.le_refl _, Int.pow_pos (by decide)⟩
  · rename_i hc
    simp only [Bool.or_eq_true, decide_eq_true_eq, not_or] at hc
    exact v256_take r.rest h c (by omega)

set_option maxRecDepth 100000 in
set_option maxHeartbeats 1000000 in
theorem rdig_calls (w : World) (g : Nat) (ok : Nat → Prop) (c : Nat) (r : Rd) (h : RdAt w g ok r) (hok : ∀ b, ok b → b ≠ g) (hc0 : 0 < c) (hc8 : c ≤ 8) :
    Calls Tryz.prog 246 #[.pointer (some ⟨g, 0, none⟩), .int .i64 c] w fun e w' => e = .returned (.int .u64 (rdDig c r).1) ∧ RdAt w' g ok (rdDig c r).2 ∧ RdStep w w' g := by
  obtain ⟨⟨v, hR, hB⟩, hby⟩ := h
  obtain ⟨rest, short⟩ := r
  simp only at hR hB hby
  cases short with
  | true =>
    have he : rdDig c ⟨rest, true⟩ = (0, ⟨rest, true⟩) := by simp [rdDig]
    rw [he]
    obtain ⟨g0, g1, gf, hgl⟩ := cell_two hR
    have HR := hide hR
    have HB := hide hB
    clear he hR hB
    go_enter Tryz.func246, Tryz.ntmps246
    go_wp2
    go_ret
    have hset : (w.setCell ⟨g, 1, none⟩ (.bool true)).heap[g]? = some (.cells #[v, .bool true] 407 (0, 0)) := heap_setCell_same w g 1 _ _ _ HR.out
    exact ⟨rfl, ⟨⟨v, hset, HB.out.mono (fun b hb => Below.heap_setCell _ _ _ _ (hok b hb)) (fun _ h => h)⟩, hby⟩, RdStep.set⟩
  | false =>
    by_cases hlt : rest.length < c
    · have he : rdDig c ⟨rest, false⟩ = (0, ⟨rest, true⟩) := by simp [rdDig, hlt]
      rw [he]
      obtain ⟨a, n, cap, rfl, S0⟩ := Src.of hB
      obtain ⟨g0, g1, gf, hgl⟩ := cell_two hR
      have hn := S0.len
      have hnc : n < c := by omega
      have HR := hide hR
      have HB := hide hB
      clear he hR hB hlt hn S0
      go_enter Tryz.func246, Tryz.ntmps246
      go_wp2
      go_ret
      have hset : (w.setCell ⟨g, 1, none⟩ (.bool true)).heap[g]? = some (.cells #[.slice a n cap, .bool true] 407 (0, 0)) := heap_setCell_same w g 1 _ _ _ HR.out
      exact ⟨rfl, ⟨⟨_, hset, HB.out.mono (fun b hb => Below.heap_setCell _ _ _ _ (hok b hb)) (fun _ h => h)⟩, hby⟩, RdStep.set⟩
    · have he : rdDig c ⟨rest, false⟩ = (v256 (rest.take c), ⟨rest.drop c, false⟩) := by simp [rdDig, hlt]
      rw [he]
      refine (rdigits_calls w g v ok c (rest.take c) (rest.drop c) hR (by rw [List.take_append_drop]; exact hB) hok (by rw [List.length_take]; omega) hc0 hc8 (fun d hd => hby d (List.mem_of_mem_take hd))).mono ?_
      rintro e w1 ⟨v', rfl, hR', hB', rfl⟩
      exact ⟨rfl, ⟨⟨v', hR', hB'⟩, fun d hd => hby d (List.mem_of_mem_drop hd)⟩, RdStep.set⟩

set_option maxRecDepth 100000 in
theorem rdU32_calls (w : World) (g : Nat) (ok : Nat → Prop) (r : Rd) (h : RdAt w g ok r) (hok : ∀ b, ok b → b ≠ g) :
    Calls Tryz.prog 212 #[.pointer (some ⟨g, 0, none⟩)] w fun e w' => e = .returned (.int .u32 (rdDig 4 r).1) ∧ RdAt w' g ok (rdDig 4 r).2 ∧ RdStep w w' g := by
  obtain ⟨b1, b2⟩ := rdDig_bound (c := 4) h.bytes
  have H0 := hide (rdig_calls w g ok 4 r h hok (by decide) (by decide))
  generalize rdDig 4 r = p at *
  have b3 : p.1 < 4294967296 := b2
  clear b2
  go_enter Tryz.func212, Tryz.ntmps212
  go_wp2_with (go_at_call 246; refine H0.out.mono ?_; rintro e w1 ⟨rfl, h1, h2⟩)
  go_ret
  exact ⟨rfl, h1, h2⟩

set_option maxRecDepth 100000 in
theorem rdU8_calls (w : World) (g : Nat) (ok : Nat → Prop) (r : Rd) (h : RdAt w g ok r) (hok : ∀ b, ok b → b ≠ g) :
    Calls Tryz.prog 218 #[.pointer (some ⟨g, 0, none⟩)] w fun e w' => e = .returned (.int .u8 (rdDig 1 r).1) ∧ RdAt w' g ok (rdDig 1 r).2 ∧ RdStep w w' g := by
  obtain ⟨b1, b2⟩ := rdDig_bound (c := 1) h.bytes
  have H0 := hide (rdig_calls w g ok 1 r h hok (by decide) (by decide))
  generalize rdDig 1 r = p at *
  have b3 : p.1 < 256 := b2
  clear b2
  go_enter Tryz.func218, Tryz.ntmps218
  go_wp2_with (go_at_call 246; refine H0.out.mono ?_; rintro e w1 ⟨rfl, h1, h2⟩)
  go_ret
  exact ⟨rfl, h1, h2⟩

set_option maxRecDepth 100000 in
theorem rdI64_calls (w : World) (g : Nat) (ok : Nat → Prop) (r : Rd) (h : RdAt w g ok r) (hok : ∀ b, ok b → b ≠ g) :
    Calls Tryz.prog 213 #[.pointer (some ⟨g, 0, none⟩)] w fun e w' => e = .returned (.int .i64 (rdI64 r).1) ∧ RdAt w' g ok (rdI64 r).2 ∧ RdStep w w' g := by
  obtain ⟨b1, b2⟩ := rdDig_bound (c := 8) h.bytes
  have H0 := hide (rdig_calls w g ok 8 r h hok (by decide) (by decide))
  unfold rdI64
  generalize rdDig 8 r = p at *
  obtain ⟨x, rest, short⟩ := p
  simp only at b1 b2 ⊢
  have b3 : x < 18446744073709551616 := b2
  have Hx : Hid (wrap64 (IntKind.u64.wrap (x - 9223372036854775808)) = x - 9223372036854775808) := by
    show _ = _
    simp [wrap64, IntKind.wrap, IntKind.bits, IntKind.signed]
    omega
  clear b2
  cases short with
  | true =>
    go_enter Tryz.func213, Tryz.ntmps213
    go_wp2_with (go_at_call 246; refine H0.out.mono ?_; rintro e w1 ⟨rfl, h1, h2⟩; obtain ⟨⟨v, hR, -⟩, -⟩ := id h1; obtain ⟨-, r1, -, -⟩ := cell_two hR)
    go_ret
    exact ⟨rfl, h1, h2⟩
  | false =>
    go_enter Tryz.func213, Tryz.ntmps213
    go_wp2_with (go_at_call 246; refine H0.out.mono ?_; rintro e w1 ⟨rfl, h1, h2⟩; obtain ⟨⟨v, hR, -⟩, -⟩ := id h1; obtain ⟨-, r1, -, -⟩ := cell_two hR)
    go_ret
    exact ⟨by rw [Hx.out]; rfl, h1, h2⟩

/-- Whether all was read and nothing is left. -/
def rdDone (r : Rd) : Bool := !r.short && r.rest.isEmpty
set_option maxRecDepth 100000 in
theorem rdDone_calls (w : World) (g : Nat) (ok : Nat → Prop) (r : Rd) (h : RdAt w g ok r) :
    Calls Tryz.prog 214 #[.pointer (some ⟨g, 0, none⟩)] w fun e w' => (∃ s, e = .returned (if rdDone r then .nilIface else .iface 367 (.string s))) ∧ w' = w := by
  obtain ⟨⟨v, hR, hB⟩, hby⟩ := h
  obtain ⟨rest, short⟩ := r
  simp only at hR hB hby
  obtain ⟨a, n, cap, rfl, S0⟩ := Src.of hB
  obtain ⟨g0, g1, gf, hgl⟩ := cell_two hR
  have hn := S0.len
  cases short with
  | true =>
    have he : rdDone ⟨rest, true⟩ = false := rfl
    rw [he]
    clear hR hB S0 hn he
    go_enter Tryz.func214, Tryz.ntmps214
    go_wp2
    go_ret
    exact ⟨⟨_, rfl⟩, rfl⟩
  | false =>
    by_cases h0 : n = 0
    · have he : rdDone ⟨rest, false⟩ = true := by
        have : rest = [] := List.length_eq_zero_iff.1 (by omega)
        simp [rdDone, this]
      rw [he]
      subst h0
      clear hR hB S0 hn he
      go_enter Tryz.func214, Tryz.ntmps214
      go_wp2
      go_ret
      exact ⟨rfl, rfl⟩
    · have he : rdDone ⟨rest, false⟩ = false := by
        cases rest with
        | nil => simp at hn; omega
        | cons x r => rfl
      rw [he]
      have hpos : 0 < n := by omega
      clear hR hB S0 hn he h0
      go_enter Tryz.func214, Tryz.ntmps214
      go_wp2
      go_ret
      exact ⟨⟨_, rfl⟩, rfl⟩

set_option maxRecDepth 100000 in
theorem newRd_calls (w : World) (a : Option Addr) (n c : Nat) :
    Calls Tryz.prog 211 #[.slice a n c] w fun e w' => e = .returned (.pointer (some ⟨w.heap.size, 0, none⟩)) ∧ w' = w.alloc (.cells #[.slice a n c, .bool false] 407) := by
  go_enter Tryz.func211, Tryz.ntmps211
  go_wp2
  go_ret
  exact ⟨rfl, rfl⟩
theorem RdAt.new {w : World} {ok : Nat → Prop} {a : Option Addr} {n c : Nat} {bs : List Int} (h : BytesAt w ok (.slice a n c) bs) (hb : ByteL bs) : RdAt (w.alloc (.cells #[.slice a n c, .bool false] 407)) w.heap.size ok ⟨bs, false⟩ :=
  ⟨⟨_, heap_alloc_at _ _, RArr.below h ((Below.refl _ _).alloc (Nat.le_refl _) _)⟩, hb⟩

end Go.Proofs.Qxb6500666aGreatDoor
