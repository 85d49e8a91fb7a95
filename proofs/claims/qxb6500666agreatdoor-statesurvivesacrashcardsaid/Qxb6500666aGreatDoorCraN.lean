/- StateSurvivesACrash: the two benches; the copied pairs while they are reversed. -/
import Derived.Test.Qxb6500666aGreatDoorCraT
import Derived.Test.Qxb6500666aGreatDoorCraP
import Derived.Test.Qxb6500666aGreatDoorCraV
import Derived.Test.Qxb6500666aGreatDoorCraE
import Derived.Test.Qxb6500666aGreatDoorSnapO
namespace Go.Proofs.Qxb6500666aGreatDoor
open Go.RowKit

/-- The bench, and a fresh one over the reversed pairs. -/
def TwoB (w W : World) (t : ST) (B2 : Nat) : Prop := ∃ Y A ok x Y2 S2 LB2 A2 full2, W.heap[w.heap.size + 2]? = some (.cells #[.pointer (some ⟨w.heap.size, 0, none⟩), .pointer (some ⟨w.heap.size + 1, 0, none⟩), .pointer (some ⟨Y, 0, none⟩)] 88 (0, 0)) ∧ SysSt W Y w.heap.size (w.heap.size + 1) A ok t.ps t.full x t.low
  ∧ W.heap[B2]? = some (.cells #[.pointer (some ⟨S2, 0, none⟩), .pointer (some ⟨LB2, 0, none⟩), .pointer (some ⟨Y2, 0, none⟩)] 88 (0, 0)) ∧ SysSt W Y2 S2 LB2 A2 ok t.ps.reverse full2 x t.low
theorem TwoB.below {w W W' : World} {t : ST} {B2 : Nat} (h : TwoB w W t B2) (hb : Below W.heap.size W W') : TwoB w W' t B2 := by
  obtain ⟨Y, A, ok, x, Y2, S2, LB2, A2, full2, h1, h2, h3, h4⟩ := h
  exact ⟨Y, A, ok, x, Y2, S2, LB2, A2, full2, (hb.block _ (blk_lt h1)).trans h1, h2.below hb, (hb.block _ (blk_lt h3)).trans h3, h4.below hb⟩
/-- The bench's parts. -/
theorem BX.sysb {w W : World} {K : Nat → Prop} {t : ST} (h : BX w W K t) (hp : PO t.ps t.low) : ∃ Y A ok x, W.heap[w.heap.size + 2]? = some (.cells #[.pointer (some ⟨w.heap.size, 0, none⟩), .pointer (some ⟨w.heap.size + 1, 0, none⟩), .pointer (some ⟨Y, 0, none⟩)] 88 (0, 0)) ∧ SysSt W Y w.heap.size (w.heap.size + 1) A ok t.ps t.full x t.low := by
  obtain ⟨Y, pv, A, ok, zs, x, h1, h2, h3, h4⟩ := h
  obtain ⟨ps, full, off, lar, low⟩ := t
  dsimp only at h2 hp h1 ⊢
  subst h2
  exact ⟨Y, _, ok, x, h1.bn, h1.bs.toSys hp⟩
theorem PsOk.rev {ps : List KV} (h : PsOk ps) : PsOk ps.reverse := fun p hp => h p (List.mem_reverse.1 hp)
/-- The second bench, laid beside the first. -/
theorem TwoB.start {w W : World} {t : ST} {Y : Nat} {A ok : Nat → Prop} {x : LV} {Y2 S2 LB2 B2 G : Nat} {xs : List ZP} {N : Nat}
    (h1 : W.heap[w.heap.size + 2]? = some (.cells #[.pointer (some ⟨w.heap.size, 0, none⟩), .pointer (some ⟨w.heap.size + 1, 0, none⟩), .pointer (some ⟨Y, 0, none⟩)] 88 (0, 0))) (h2 : SysSt W Y w.heap.size (w.heap.size + 1) A ok t.ps t.full x t.low)
    (hS : W.heap[S2]? = some (.cells #[.slice (some ⟨G, 0, none⟩) N N, .bool false, .int .i64 0, .int .i64 0] 131 (0, 0))) (hown : OwnR W G 171 2 zCs (.slice (some ⟨G, 0, none⟩) N N) xs) (hz : Zip W (fun b => G < b ∧ b < S2) xs) (hrev : xs.map (·.2) = t.ps.reverse) (hG : G < S2)
    (hL : W.heap[LB2]? = some (.cells (lvCs x) 83 (0, 0))) (hY : W.heap[Y2]? = some (.cells #[.pointer (some ⟨S2, 0, none⟩), .pointer (some ⟨LB2, 0, none⟩)] 264 (0, 0))) (hB : W.heap[B2]? = some (.cells #[.pointer (some ⟨S2, 0, none⟩), .pointer (some ⟨LB2, 0, none⟩), .pointer (some ⟨Y2, 0, none⟩)] 88 (0, 0))) : TwoB w W t B2 := by
  have hl : xs.length = t.ps.length := by have := congrArg List.length hrev; simpa using this
  have hlt := blk_lt hS
  have hp := hown.rows zCs_size (by decide) (by have := h2.plen; omega)
  have hpa : PairsAt W (fun b => G ≤ b ∧ b < S2) (.slice (some ⟨G, 0, none⟩) N N) (xs.map (·.2)) := by
    refine PairsAt.of_zs ?_ (hz.mono (fun _ _ => rfl) (fun b q => ⟨by omega, q.2⟩))
    obtain ⟨a, cap, b, off, e, k1, k2, k3, k4, k5⟩ := hp
    refine ⟨a, cap, b, off, e, k1, k2, k3, fun h => ⟨(k4 h).1, ?_⟩, k5⟩
    injection e with e
    rw [← e] at k4
    have := (k4 h).1
    injection this with this
    injection this with this
    subst this
    exact ⟨Nat.le_refl _, hG⟩
  rw [hrev] at hpa
  exact ⟨Y, A, ok, x, Y2, S2, LB2, _, false, h1, h2, hB, hY, ⟨⟨_, _, _, hS, hpa⟩, fun q => by have := q.2; omega, fun b q => by have := q.2; omega⟩, h2.pk.rev, hL, h2.low, h2.small, h2.times, by rw [List.length_reverse]; exact h2.plen⟩
/-- The copied pairs while they are reversed. -/
structure Lr (w0 V wx : World) (N : Nat) (ns xs : List ZP) (i : Nat) : Prop where
  rev : RevS ns xs i
  own : OwnR wx w0.heap.size 171 2 zCs (.slice (some ⟨w0.heap.size, 0, none⟩) N N) xs
  oth : ∀ b, b ≠ w0.heap.size → wx.heap[b]? = V.heap[b]?
  size : wx.heap.size = V.heap.size
  bel : Below w0.heap.size V wx
theorem Zip.memb {W : World} {A : Nat → Prop} {xs ys : List ZP} (h : Zip W A xs) (hm : ∀ z ∈ ys, z ∈ xs) : Zip W A ys := fun z hz => h z (hm z hz)
end Go.Proofs.Qxb6500666aGreatDoor
