/- Permission: May, authorize, walked. -/
import Derived.Test.Qxb6500666aGreatDoorGets
import Derived.Test.Qxb6500666aGreatDoorEnc5
namespace Go.Proofs.Qxb6500666aGreatDoor
open Go.RowKit

/-- Who may do what. -/
def grantsL : Nat → List Int
  | 1 => [1] | 2 => [1] | 3 => [2] | 4 => [2] | 5 => [2] | 6 => [2, 5] | 7 => [3] | 8 => [3] | 9 => [4] | 10 => [4, 3]
  | 11 => [5] | 12 => [4] | 13 => [4] | 14 => [4, 5] | 15 => [5, 4] | 16 => [5] | 17 => [5] | 18 => [5] | 19 => [5] | 20 => [5]
  | 21 => [1, 6] | 22 => [1, 2, 3, 4, 5, 6] | 23 => [1, 6] | 24 => [1, 4, 5, 6] | 25 => [1, 5, 6] | 26 => [1, 5, 6] | 27 => [1, 5, 6] | 28 => [1, 5, 6] | 29 => [1, 4, 5, 6] | 30 => [1, 6]
  | _ => []
structure GrAt (w : World) (ok : Nat → Prop) : Prop where
  tab : ∀ k : Nat, k ≤ 30 → ∃ v, w.cell? ⟨1, k, none⟩ = some v ∧ RArr w ok 1 byteCs v (grantsL k)
  lt : 1 < w.heap.size
theorem GrAt.below {w w' : World} {ok : Nat → Prop} (h : GrAt w ok) (hb : Below w.heap.size w w') : GrAt w' ok :=
  ⟨fun k hk => by
    obtain ⟨v, h1, h2⟩ := h.tab k hk
    exact ⟨v, (hb.cell (p := ⟨_, _, none⟩) h.lt).trans h1, h2.below hb⟩, Nat.lt_of_lt_of_le h.lt hb.size⟩
def mayP (role kind : Int) : Bool := ! decide (30 < kind) && (grantsL kind.toNat).any (fun r => r == role)

attribute [local go_sem] ext_const Ext.cell Ext.frozen Ext.rng Ext.whole

set_option maxRecDepth 100000 in
set_option maxHeartbeats 1000000 in
theorem may_calls (w : World) (ok : Nat → Prop) (role kind : Int) (h : GrAt w ok) (hk : U8 kind) :
    Calls Tryz.prog 40 #[.int .u8 role, .int .u8 kind] w fun e w' => e = .returned (.bool (mayP role kind)) ∧ w' = w := by
  obtain ⟨R, hR⟩ : ∃ R, R = mayP role kind := ⟨_, rfl⟩
  rw [← hR]
  obtain ⟨hk0, -⟩ := hk
  cases t0 : decide (30 < kind) with
  | true =>
    have HE : Hid (R = false) := hR.trans (by simp [mayP, t0])
    clear hR
    go_enter Tryz.func40, Tryz.ntmps40
    go_wp2
    go_ret
    exact ⟨ret_boolH HE, rfl⟩
  | false =>
    have hk1 : kind ≤ 30 := by have := of_decide_eq_false t0; omega
    obtain ⟨k, rfl⟩ : ∃ k : Nat, kind = k := ⟨kind.toNat, by omega⟩
    have HR : Hid (R = ((grantsL k).drop 0).any (fun r => r == role)) := hR.trans (by simp only [mayP, t0, Int.toNat_natCast]; rfl)
    obtain ⟨v, hc, hv⟩ := h.tab k (by omega)
    have hgl := h.lt
    obtain ⟨a, n, c, rfl, -⟩ := Src.of hv
    obtain ⟨hn, hnc, hnm⟩ := hv.caps
    obtain ⟨b, off, hb⟩ : ∃ b off, 0 < n → a = some ⟨b, off, none⟩ ∧ ok b ∧ ∀ i (hi : i < (grantsL k).length), rng w b (off + i * 1) 1 = some (byteCs (grantsL k)[i]) := by
      by_cases h0 : 0 < n
      · obtain ⟨b, off, h1⟩ := hv.openAt h0
        exact ⟨b, off, fun _ => h1⟩
      · exact ⟨0, 0, fun h1 => absurd h1 h0⟩
    have hi := run_indexAt_arr (P := Tryz.prog) (a := a) (b := b) (off := off) (n := n) (cap := c) Tryz.underlying249 (by intro w; kernel_rfl : ∀ w, (sizeOf 49).run Tryz.prog w = .ok 1 w) (fun h => (hb h).1)
    have Hn := hide hn
    have HB := hide hb
    have hkk : (k : Int) ≤ 30 := by omega
    generalize grantsL k = l at *
    clear hn hb hR hv h
    go_enter Tryz.func40, Tryz.ntmps40
    go_upto_region 4 with fail
    go_loopg [13] n (fun g x wr => ∃ q : Nat, q ≤ n ∧ g = n - q ∧ x = .int .i64 q ∧ wr = w ∧ Hid (R = (l.drop q).any (fun r => r == role)))
    case atStart => exact ⟨0, by omega, by omega, rfl, rfl, HR⟩
    case round =>
      obtain ⟨q, hq, rfl, rfl, rfl, HQ⟩ := hrel
      by_cases hlt : q < n
      · have h1 : q < l.length := by rw [← Hn.out]; exact hlt
        obtain ⟨-, -, hcs⟩ := HB.out (by omega)
        have e0 := (rng_cell (hcs q h1)).2 0 (by decide)
        simp only [byteCs, List.getElem?_toArray, List.getElem?_cons_zero, Nat.add_zero, Nat.mul_one] at e0
        have HD := hide (HQ.out.trans (by rw [List.drop_eq_getElem_cons h1, List.any_cons]))
        generalize l[q] = x at *
        clear hcs HQ
        cases t1 : (x == role) with
        | true =>
          have HE : Hid (R = true) := HD.out.trans (by simp [t1])
          go_wp2
          go_ret
          exact ⟨ret_boolH HE, rfl⟩
        | false =>
          have HE : Hid (R = (l.drop (q + 1)).any (fun r => r == role)) := HD.out.trans (by simp [t1])
          go_wp2
          go_roundg (n - (q + 1))
          case measure => omega
          case rel => exact ⟨q + 1, by omega, rfl, by go_num, rfl, HE⟩
      · have HE : Hid (R = false) := HQ.out.trans (by rw [List.drop_of_length_le (by rw [← Hn.out]; omega)]; rfl)
        go_wp2
        go_ret
        exact ⟨ret_boolH HE, rfl⟩

end Go.Proofs.Qxb6500666aGreatDoor
