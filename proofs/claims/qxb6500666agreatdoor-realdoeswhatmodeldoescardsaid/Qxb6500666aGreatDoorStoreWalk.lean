/- The store in memory; Get walked. -/
import Derived.Test.Qxb6500666aGreatDoorStore
import Derived.Test.Qxb6500666aGreatDoorLowPr
namespace Go.Proofs.Qxb6500666aGreatDoor
open Go.RowKit

theorem Tryz.size171 (w : World) : (sizeOf 171).run Tryz.prog w = .ok 2 w := by kernel_rfl

def pairCs (p : Value × Value) : Array Value := #[p.1, p.2]
abbrev KV := List Int × List Int

/-- A slice of pairs, each a key and a value of bytes; all blocks are among A. -/
def PairsAt (w : World) (A : Nat → Prop) (pv : Value) (ps : List KV) : Prop :=
  ∃ qs : List (Value × Value), RArr w A 2 pairCs pv qs ∧ qs.length = ps.length ∧ ∀ i (h : i < ps.length) (h' : i < qs.length), BytesAt w A qs[i].1 ps[i].1 ∧ BytesAt w A qs[i].2 ps[i].2

theorem BytesAt.form {w : World} {ok : Nat → Prop} {v : Value} {xs : List Int} (h : BytesAt w ok v xs) : ∃ a n cap, v = .slice a n cap := by
  obtain ⟨a, cap, b, off, rfl, -⟩ := h.parts _ rfl
  exact ⟨_, _, _, rfl⟩

/-- The store at block S: the pairs ps; its blocks (without S) are among A. -/
structure StoreAt (w : World) (S : Nat) (A : Nat → Prop) (ps : List KV) (full : Bool) : Prop where
  ex : ∃ pv off lar, w.heap[S]? = some (.cells #[pv, .bool full, .int .i64 off, .int .i64 lar] 131 (0, 0)) ∧ PairsAt w A pv ps
  out : ¬ A S
  lt : ∀ b, A b → b < w.heap.size

theorem PairsAt.mono {w w' : World} {A A' : Nat → Prop} {pv : Value} {ps : List KV} (h : PairsAt w A pv ps) (hs : Same A w w') (hA : ∀ b, A b → A' b) : PairsAt w' A' pv ps := by
  obtain ⟨qs, h1, h2, h3⟩ := h
  exact ⟨qs, h1.mono hs hA, h2, fun i hi hi' => ⟨(h3 i hi hi').1.mono hs hA, (h3 i hi hi').2.mono hs hA⟩⟩

theorem StoreAt.size {w : World} {S : Nat} {A : Nat → Prop} {ps : List KV} {full : Bool} (h : StoreAt w S A ps full) : S < w.heap.size := by
  obtain ⟨pv, off0, lar0, hS, -⟩ := h.ex
  exact blk_lt hS

/-- It stands where its blocks stand. -/
theorem StoreAt.mono {w w' : World} {S : Nat} {A : Nat → Prop} {ps : List KV} {full : Bool} (h : StoreAt w S A ps full) (hs : Same (fun b => A b ∨ b = S) w w') (hl : w.heap.size ≤ w'.heap.size) : StoreAt w' S A ps full := by
  obtain ⟨pv, off0, lar0, hS, hp⟩ := h.ex
  exact ⟨⟨pv, off0, lar0, (hs S (Or.inr rfl)).trans hS, hp.mono (fun b hb => hs b (Or.inl hb)) (fun _ hb => hb)⟩, h.out, fun b hb => Nat.lt_of_lt_of_le (h.lt b hb) hl⟩

theorem StoreAt.below {w w' : World} {S : Nat} {A : Nat → Prop} {ps : List KV} {full : Bool} (h : StoreAt w S A ps full) (hb : Below w.heap.size w w') : StoreAt w' S A ps full :=
  h.mono (fun b hb' => hb.block b (by rcases hb' with hb' | rfl; exact h.lt b hb'; exact h.size)) hb.size

/-- The value at a key. -/
def getB : List KV → List Int → Option (List Int)
  | [], _ => none
  | p :: r, k => if p.1 = k then some p.2 else getB r k

theorem getB_drop {ps : List KV} {k : List Int} {q : Nat} (h : q < ps.length) (hne : ps[q].1 ≠ k) : getB (ps.drop q) k = getB (ps.drop (q + 1)) k := by
  rw [List.drop_eq_getElem_cons h, getB, if_neg hne]

theorem getB_hit {ps : List KV} {k : List Int} {q : Nat} (h : q < ps.length) (he : ps[q].1 = k) : getB (ps.drop q) k = some ps[q].2 := by
  rw [List.drop_eq_getElem_cons h, getB, if_pos he]

/-- What Get hands back. -/
def Got (w w' : World) (e : Ending) : Option (List Int) → Prop
  | none => e = .returned (.tuple #[.slice none 0 0, .bool false])
  | some val => ∃ v, e = .returned (.tuple #[v, .bool true]) ∧ BytesAt w' (w.heap.size ≤ ·) v val

set_option maxRecDepth 100000 in
set_option maxHeartbeats 1000000 in
theorem get_calls (w : World) (S : Nat) (A okk : Nat → Prop) (ps : List KV) (full : Bool) (kv : Value) (k : List Int) (h : StoreAt w S A ps full) (hk : BytesAt w okk kv k) :
    Calls Tryz.prog 160 #[.pointer (some ⟨S, 0, none⟩), kv] w fun e w' => Got w w' e (getB ps k) ∧ Below w.heap.size w w' := by
  obtain ⟨pv, off0, lar0, hS, qs, hR, hql, hbs⟩ := h.ex
  obtain ⟨s0, s1, -, -, -, hSl⟩ := cell_four hS
  obtain ⟨a, cap, b, off, rfl, hl, hm, hr, ha, hc⟩ := RArr.lt hR
  obtain ⟨n, hn⟩ : ∃ n, n = qs.length := ⟨_, rfl⟩
  obtain ⟨O, hO⟩ : ∃ O, O = getB ps k := ⟨_, rfl⟩
  have HO : Hid (O = getB (ps.drop 0) k) := hO
  rw [← hO]
  have Hn : Hid (n = qs.length) := hn
  have Hq : Hid (qs.length = ps.length) := hql
  rw [← hn] at hl hr ha s0
  have hi := run_indexAt_arr (P := Tryz.prog) (cap := cap) Tryz.underlying129 Tryz.size171 (fun h => (ha h).1)
  have HB : Hid (0 < n → b < w.heap.size) := fun h => (ha h).2.2
  have HC := hide hc
  have HBS := hide hbs
  have HK := hide hk
  clear hS hR h hm ha hc hbs hk hn hO hql
  go_enter Tryz.func160, Tryz.ntmps160
  go_wp2
  go_loopw [13] (fun i wr => ∃ q : Nat, q ≤ n ∧ i = .int .i64 q ∧ Below w.heap.size w wr ∧ Hid (O = getB (ps.drop q) k)) (fun i _ => n - (intOf i).toNat)
  case atStart => exact ⟨0, by omega, rfl, Below.refl _ _, HO⟩
  case round =>
    obtain ⟨q, hq, rfl, hbel, HG⟩ := hrel
    by_cases hlt : q < n
    · have h1 : q < qs.length := by rw [← Hn.out]; exact hlt
      have h2 : q < ps.length := by rw [← Hq.out]; exact h1
      have hbb := HB.out (by omega)
      have hrg := HC.out q h1
      rw [← rng_of_block (hbel.block b hbb)] at hrg
      have c0 := (rng_cell hrg).2 0 (by decide)
      have c1 := (rng_cell hrg).2 1 (by decide)
      simp only [pairCs, List.getElem?_toArray, List.getElem?_cons_zero, List.getElem?_cons_succ, Nat.add_zero] at c0 c1
      obtain ⟨y1, y2⟩ := HBS.out q h2 h1
      have HY1 : Hid (∀ W, Below w.heap.size w W → BytesAt W A qs[q].1 ps[q].1) := fun W hW => y1.below hW
      have HY2 : Hid (∀ W, Below w.heap.size w W → BytesAt W A qs[q].2 ps[q].2) := fun W hW => y2.below hW
      obtain ⟨x1, n1, m1, hk1⟩ := y1.form
      obtain ⟨x2, n2, m2, hk2⟩ := y2.form
      rw [hk1] at c0 HY1
      rw [hk2] at c1 HY2
      have hbel2 : Below w.heap.size w (wr.alloc (.cells #[.slice x1 n1 m1, .slice x2 n2 m2] 171)) := hbel.alloc hbel.size _
      clear y1 y2 hrg hk1 hk2
      by_cases hkq : ps[q].1 = k
      · have hd := decide_eq_true hkq
        have HE := hide (HG.out.trans (getB_hit h2 hkq))
        go_upto_region 5 with (go_at_call 209; refine (same_calls _ A okk _ _ _ _ (HY1.out _ hbel2) (HK.out.below hbel2)).mono ?_; rintro e w1 ⟨rfl, m, rfl⟩; rw [hd]; have hbel3 := below_drewN hbel2 m)
        go_wp2_with (go_at_call 210; refine (clone_calls _ A _ _ (HY2.out _ hbel3)).mono ?_; rintro e w2 ⟨rfl, rfl⟩)
        go_ret2
        refine ⟨?_, hbel3.trans ((clone_below _ _).mono hbel3.size)⟩
        rw [HE.out]
        exact ⟨_, rfl, (clone_bytes _ _ (HY2.out _ hbel3).len).mono (Same.refl _ _) (fun b hb => Nat.le_trans hbel3.size hb)⟩
      · have hd := decide_eq_false hkq
        have HE := hide (HG.out.trans (getB_drop h2 hkq))
        go_wp2_with (go_at_call 209; refine (same_calls _ A okk _ _ _ _ (HY1.out _ hbel2) (HK.out.below hbel2)).mono ?_; rintro e w1 ⟨rfl, m, rfl⟩; rw [hd]; have hbel3 := below_drewN hbel2 m)
        go_roundw
        case measure => simp [intOf]; omega
        case rel => exact ⟨q + 1, by omega, by go_num, hbel3, HE⟩
    · have HE : Hid (O = none) := by
        show _ = _
        rw [HG.out, List.drop_of_length_le (by have := Hn.out; have := Hq.out; omega)]; rfl
      go_wp2
      go_ret2
      exact ⟨by rw [HE.out]; rfl, hbel⟩

end Go.Proofs.Qxb6500666aGreatDoor
