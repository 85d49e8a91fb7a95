/- Sort, walked, for rows and for held results. (Made by tools/mk_zsort.py.) -/
import Derived.Test.Qxb6500666aGreatDoorUserWalk
import Derived.Laws.CopyRow
namespace Go.Proofs.Qxb6500666aGreatDoor
open Go.RowKit

section
variable {α : Type} (lt : α → α → Bool)
/-- The inner loop from place j on. -/
def sink : Nat → List α → List α
  | 0, xs => xs
  | j + 1, xs => match xs[j + 1]?, xs[j]? with
    | some a, some b => if lt a b then sink j ((xs.set (j + 1) b).set j a) else xs
    | _, _ => xs
def sortFrom : Nat → Nat → List α → List α
  | 0, _, xs => xs
  | c + 1, i, xs => sortFrom c (i + 1) (sink lt i xs)
def sortL (xs : List α) : List α := sortFrom lt (xs.length - 1) 1 xs

theorem sink_len : ∀ j (xs : List α), (sink lt j xs).length = xs.length
  | 0, xs => rfl
  | j + 1, xs => by
    unfold sink
    split
    · split
      · rw [sink_len j]; simp
      · rfl
    · rfl

theorem sink_hit {j : Nat} {xs : List α} (h : j + 1 < xs.length) (hl : lt xs[j + 1] xs[j] = true) : sink lt (j + 1) xs = sink lt j ((xs.set (j + 1) xs[j]).set j xs[j + 1]) := by
  conv => lhs; unfold sink
  simp [h, show j < xs.length by omega, hl]
theorem sink_miss {j : Nat} {xs : List α} (h : j + 1 < xs.length) (hl : lt xs[j + 1] xs[j] = false) : sink lt (j + 1) xs = xs := by
  unfold sink
  simp [h, show j < xs.length by omega, hl]
theorem sortFrom_step (c i : Nat) (xs : List α) : sortFrom lt (c + 1) i xs = sortFrom lt c (i + 1) (sink lt i xs) := rfl
end

theorem flat_set {α : Type} {f : α → Array Value} {size : Nat} (hf : ∀ x, (f x).size = size) : ∀ (xs : List α) (i : Nat) (_ : i < xs.length) (y : α),
    flat f (xs.set i y) = (flat f xs).take (i * size) ++ (f y).toList ++ (flat f xs).drop (i * size + size)
  | x :: r, 0, _, y => by
    simp only [List.set_cons_zero, flat, Nat.zero_mul, List.take_zero, List.nil_append, Nat.zero_add]
    rw [List.drop_left' (by simp [hf])]
  | x :: r, i + 1, h, y => by
    have hx : (f x).toList.length = size := by simp [hf]
    have e1 : (i + 1) * size = size + i * size := by rw [Nat.add_mul, Nat.one_mul, Nat.add_comm]
    have ht : ∀ k, ((f x).toList ++ flat f r).take (size + k) = (f x).toList ++ (flat f r).take k := fun k => by
      rw [← hx]; exact List.take_length_add_append k
    have hd : ∀ k, ((f x).toList ++ flat f r).drop (size + k) = (flat f r).drop k := fun k => by
      rw [← hx]; exact List.drop_length_add_append k
    simp only [List.set_cons_succ, flat]
    rw [flat_set hf r i (by simpa using h) y, e1, ht, Nat.add_assoc, hd]
    simp [List.append_assoc]

/-- A struct laid into place i of an owned slice. -/
theorem OwnR.put {α : Type} {P : Program} {w : World} {base : Nat} {e : TypeId} {size : Nat} {f : α → Array Value} {a : Option Addr} {n cap : Nat} {xs : List α} (h : OwnR w base e size f (.slice a n cap) xs) (hf : ∀ x, (f x).size = size) (h1 : ∀ x, ∀ u ∈ (f x).toList, u.oneCell' = true) (i : Nat) (hi : i < xs.length) (y : α) :
    ∃ g w', a = some ⟨g, 0, none⟩ ∧ (storeCells ⟨g, i * size, none⟩ (f y).toList 0).run P w = .ok () w' ∧ OwnR w' base e size f (.slice a n cap) (xs.set i y) ∧ (∀ b, b ≠ g → w'.heap[b]? = w.heap[b]?) ∧ w'.heap.size = w.heap.size ∧ Below base w w' ∧ base ≤ g ∧ g < w.heap.size := by
  obtain ⟨k1, k2⟩ := h
  rcases k2 with ⟨k2, k3⟩ | ⟨g, cap', cur, k2, hg, hh, r1, r2, r3, r4⟩
  · omega
  · injection k2 with q1 q2 q3
    subst q1 q3
    have hle : (i + 1) * size ≤ xs.length * size := Nat.mul_le_mul_right _ (by omega)
    have hle2 : xs.length * size ≤ cap * size := Nat.mul_le_mul_right _ r1
    rw [Nat.add_mul, Nat.one_mul] at hle
    have hfy : (f y).toList.length = size := by simp [hf]
    have hst := run_storeCells_at P g (i * size) e (f y).toList 0 cur w hh (by omega) (h1 y)
    simp only [Nat.add_zero, hfy] at hst
    refine ⟨g, _, rfl, hst, ⟨?_, Or.inr ⟨g, cap, _, by rw [q2, List.length_set], hg, setRow_heap w g cur _ e _ hh, by rw [List.length_set]; exact r1, r2, ?_, ?_⟩⟩, fun b hb => setRow_other _ _ _ _ hb, by simp, ⟨rfl, rfl, rfl, by simp, fun k hk => setRow_other _ _ _ _ (by omega)⟩, hg, (Array.getElem?_eq_some_iff.1 hh).1⟩
    · rw [flat_length hf, List.length_set]
    · have : cur.toList.length = cap * size := by simpa using r3
      simp only [List.size_toArray, List.length_append, List.length_take, List.length_drop, hfy, this]
      omega
    · rw [List.length_set, flat_set hf xs i hi y, ← r4]
      simp only
      have hcl : cur.toList.length = cap * size := by simpa using r3
      have hAB : (cur.toList.take (i * size) ++ (f y).toList).length = i * size + size := by rw [List.length_append, List.length_take, hfy]; omega
      rw [List.take_append, hAB, List.take_of_length_le (by rw [hAB]; exact hle), List.take_take, Nat.min_eq_left (by omega), List.drop_take]


/-- The elements of an owned slice, for the walk. -/
theorem OwnR.elem {α : Type} {w : World} {base : Nat} {e : TypeId} {size : Nat} {f : α → Array Value} {v : Value} {xs : List α} (h : OwnR w base e size f v xs) (hf : ∀ x, (f x).size = size) (hp : 0 < size) (hl : xs.length ≤ 140737488355328) (hpos : 0 < xs.length) :
    ∃ g cap, v = .slice (some ⟨g, 0, none⟩) xs.length cap ∧ base ≤ g ∧ g < w.heap.size ∧ ∀ i (hi : i < xs.length), rng w g (i * size) size = some (f xs[i]) := by
  have h0 := h
  rcases h.2 with ⟨h2, h3⟩ | ⟨g, cap, cur, h2, hg, hh, r⟩
  · omega
  · refine ⟨g, cap, h2, hg, (Array.getElem?_eq_some_iff.1 hh).1, fun i hi => ?_⟩
    have h1 := h0.rows hf hp hl
    obtain ⟨a, cap', b, off, k0, k1, k2, k3, k4, k5⟩ := h1
    rw [h2] at k0
    injection k0 with q1 q2 q3
    rw [(k4 hpos).1] at q1
    injection q1 with q1
    injection q1 with q4 q5
    subst q4 q5
    have := k5 i hi
    simpa using this


structure HeldR where
  sample : Int
  analyte : Int
  holds : Int
def heldCs (h : HeldR) : Array Value := #[.int .u32 h.sample, .int .u32 h.analyte, .int .u16 h.holds]
theorem heldCs_size (h : HeldR) : (heldCs h).size = 3 := rfl
theorem heldCs_one (h : HeldR) : ∀ u ∈ (heldCs h).toList, u.oneCell' = true := by simp [heldCs, Value.oneCell']
def rowLt (a b : Row) : Bool := decide (cmpK a b < 0)
def heldLt (a b : HeldR) : Bool := decide (a.sample < b.sample) || (a.sample == b.sample) && decide (a.analyte < b.analyte)

section
variable (ρ : Operand → Value) (dst : Option Tmp) (x y : Operand) (ty : TypeId) (pos : String) (after : Array Edge) (guard : Option (Nat × Bool))
theorem exec_ldHeld : execOp ρ { dst, op := .load 101 x, type := ty, pos, after, guard } = (do pure (.value (← ldS 101 (ρ x)))) := rfl
theorem exec_stHeld : execOp ρ { dst, op := .store 101 x y, type := ty, pos, after, guard } = (do stS 101 (ρ x) (ρ y); pure .skip) := rfl
end
theorem Tryz.size101_z (w : World) : (sizeOf 101).run Tryz.prog w = .ok 3 w := by kernel_rfl
theorem run_ldHeld (w : World) (b off : Nat) : (ldS 101 (.pointer (some ⟨b, off, none⟩))).run Tryz.prog w = match rng w b off 3 with | some cs => .ok (.agg cs) w | none => (Instr.loadAt 101 (.pointer (some ⟨b, off, none⟩))).run Tryz.prog w :=
  run_ldS Tryz.underlying101 Tryz.size101_z w b off
theorem stHeld_eq (w : World) (g o : Nat) (cs : Array Value) (hcs : cs.size = 3) : (stS 101 (.pointer (some ⟨g, o, none⟩)) (.agg cs)).run Tryz.prog w = (storeCells ⟨g, o, none⟩ cs.toList 0).run Tryz.prog w := by
  simp [stS, Instr.storeAt, Instr.sureAddr, storeVar, Sem.run_bind, Value.cells, hcs]
theorem stRow_eq (w : World) (g o : Nat) (cs : Array Value) (hcs : cs.size = 13) : (stS 109 (.pointer (some ⟨g, o, none⟩)) (.agg cs)).run Tryz.prog w = (storeCells ⟨g, o, none⟩ cs.toList 0).run Tryz.prog w := by
  simp [stS, Instr.storeAt, Instr.sureAddr, storeVar, Sem.run_bind, Value.cells, hcs]

section
attribute [local go_sem ↓] exec_ldRow exec_stRow
attribute [local go_sem] run_ldRow ext_const Ext.cell Ext.frozen Ext.rng Ext.whole rng_alloc_lt rng_alloc_at rng_drew rng_drewN rowCs_size rowCs_ones rowCs_all
set_option maxRecDepth 100000 in
theorem sortRows1_calls (w : World) (x y : Row) :
    Calls Tryz.prog 262 #[.agg (rowCs x), .agg (rowCs y)] w fun e w' => e = .returned (.bool (rowLt x y)) ∧ Below w.heap.size w w' := by
  have HC := hide (compareKeys_calls x y)
  obtain ⟨lt, hlt⟩ : ∃ lt, lt = rowLt x y := ⟨_, rfl⟩
  rw [← hlt]
  have HL := hide hlt
  clear hlt
  have hb0 : Below w.heap.size w ((w.alloc (.cells (rowCs x) 109)).alloc (.cells (rowCs y) 109)) := ((Below.refl _ _).alloc (Nat.le_refl _) _).alloc (by simp) _
  go_enter Tryz.func262, Tryz.ntmps262
  go_wp2_with (go_at_call 112; refine (HC.out _).mono ?_; rintro e w1 ⟨rfl, hb1⟩)
  go_ret
  exact ⟨by rw [HL.out]; rfl, hb0.trans (hb1.mono (by simp; omega))⟩
set_option maxRecDepth 100000 in
theorem held1_calls (w : World) (x y : HeldR) :
    Calls Tryz.prog 229 #[.agg (heldCs x), .agg (heldCs y)] w fun e w' => e = .returned (.bool (heldLt x y)) ∧ Below w.heap.size w w' := by
  obtain ⟨xs, xa, xh⟩ := x
  obtain ⟨ys, ya, yh⟩ := y
  simp only [heldCs, heldLt]
  go_enter Tryz.func229, Tryz.ntmps229
  by_cases h1 : xs < ys
  · have hd1 : decide (xs < ys) = true := decide_eq_true h1
    go_wp2
    go_ret
    exact ⟨by simp [h1], ((Below.refl _ _).alloc (Nat.le_refl _) _).alloc (by simp) _⟩
  · have hd1 : decide (xs < ys) = false := decide_eq_false h1
    by_cases h2 : xs = ys
    · subst h2
      have hd2 : (xs == xs) = true := by simp
      go_wp2
      go_ret
      exact ⟨by simp, ((Below.refl _ _).alloc (Nat.le_refl _) _).alloc (by simp) _⟩
    · have hd2 : (xs == ys) = false := by simpa using h2
      go_wp2
      go_ret
      exact ⟨rfl, ((Below.refl _ _).alloc (Nat.le_refl _) _).alloc (by simp) _⟩
end

section
attribute [local go_sem ↓] exec_ldRow exec_stRow
attribute [local go_sem] run_ldRow ext_const Ext.cell Ext.frozen Ext.rng Ext.whole rng_alloc_lt rng_drew rng_drewN

set_option maxRecDepth 100000 in
set_option maxHeartbeats 2000000 in
theorem sortRow_calls (w : World) (base : Nat) (a : Option Addr) (n cap : Nat) (zs : List Row) (h : OwnR w base 109 13 rowCs (.slice a n cap) zs) (hb : base ≤ w.heap.size) (hl : zs.length ≤ 1000000) :
    Calls Tryz.prog 261 #[.slice a n cap, .func (.func 262) #[] #[]] w fun e w' => e = .returned (.tuple #[]) ∧ OwnR w' base 109 13 rowCs (.slice a n cap) (sortL rowLt zs) ∧ Same (fun b => b < w.heap.size ∧ (Value.slice a n cap).ownBlock ≠ some b) w w' ∧ Below base w w' := by
  have hnl : n = zs.length := by
    obtain ⟨a', c', hv⟩ := h.form
    injection hv
  rcases Nat.eq_zero_or_pos zs.length with hz | hpos
  · have hzs : zs = [] := List.length_eq_zero_iff.1 hz
    subst hzs
    simp only [List.length_nil] at hnl
    subst hnl
    go_enter Tryz.func261, Tryz.ntmps261
    go_wp2
    go_loopw [4] (fun j wr => j = .int .i64 1 ∧ w = wr) (fun _ _ => 0)
    case atStart => exact ⟨rfl, rfl⟩
    case round =>
      obtain ⟨rfl, rfl⟩ := hrel
      go_wp2
      go_end0
      exact ⟨rfl, h, Same.refl _ _, Below.refl _ _⟩
  · obtain ⟨g, cap', hv, hg, hgl, hel⟩ := h.elem rowCs_size (by decide) (by omega) hpos
    injection hv with q1 q2 q3
    subst q1 q3
    have hix := run_indexAt_arr (P := Tryz.prog) (n := n) (cap := cap) Tryz.underlying150 Tryz.size109 (fun _ => (rfl : some (⟨g, 0, none⟩ : Addr) = _))
    have hn1 : 1 ≤ n := by omega
    have HN := hide hnl
    have HH := hide h
    have hl' : n ≤ 1000000 := by omega
    clear hel q2 h hnl
    go_enter Tryz.func261, Tryz.ntmps261
    go_wp2
    go_loopw [4] (fun j wr => ∃ q : Nat, 1 ≤ q ∧ q ≤ n ∧ j = .int .i64 q ∧ Hid (∃ ys, OwnR wr base 109 13 rowCs (.slice (some ⟨g, 0, none⟩) n cap) ys ∧ ys.length = n ∧ sortFrom rowLt (n - q) q ys = sortL rowLt zs) ∧ Same (fun b => b < w.heap.size ∧ b ≠ g) w wr ∧ Below base w wr) (fun j _ => n - (intOf j).toNat)
    case atStart => exact ⟨1, by omega, by omega, rfl, ⟨zs, HH.out, HN.out.symm, by rw [HN.out]; rfl⟩, Same.refl _ _, Below.refl _ _⟩
    case round =>
      obtain ⟨q, hq1, hq2, rfl, HY, hsame, hbel⟩ := hrel
      obtain ⟨wo, hwo⟩ : ∃ wo, wo = wr := ⟨_, rfl⟩
      subst hwo
      by_cases hlt : q < n
      · obtain ⟨ys, hown, hyl, hsort⟩ := HY.out
        have HS := hide hsort
        have HOW := hide hown
        have hd1 : decide ((q : Int) < (n : Int)) = true := decide_eq_true (by omega)
        have hd2 : decide (q < n) = true := decide_eq_true hlt
        clear hsort hown
        go_wp2
        go_loopw [5] (fun j wx => ∃ p : Nat, p ≤ q ∧ j = .int .i64 p ∧ Hid (∃ xs, OwnR wx base 109 13 rowCs (.slice (some ⟨g, 0, none⟩) n cap) xs ∧ xs.length = n ∧ sink rowLt p xs = sink rowLt q ys) ∧ Same (fun b => b < w.heap.size ∧ b ≠ g) w wx ∧ Below base w wx) (fun j _ => (intOf j).toNat)
        case atStart => exact ⟨q, by omega, rfl, ⟨ys, HOW.out, hyl, rfl⟩, hsame, hbel⟩
        case round =>
          obtain ⟨p, hp, rfl, HX, hsame2, hbel2⟩ := hrel
          obtain ⟨xs, hown, hxl, hsink⟩ := HX.out
          have hgx : g < wr.heap.size := Nat.lt_of_lt_of_le hgl hbel2.size
          have hbx : base ≤ wr.heap.size := Nat.le_trans hb hbel2.size
          rcases Nat.eq_zero_or_pos p with rfl | hpp
          · have HSK := hide hsink
            have HOX := hide hown
            clear hsink hown
            go_upto_region 4 with fail
            refine wp_region_ext wr.heap.size (by kernel_rfl) (by kernel_rfl) ?_
            repeat (go_big_quiet_step (fail))
            refine wpQuiet_nil ?_
            intro _ hw'
            obtain ⟨x, hw2⟩ := hw'
            subst hw2
            obtain ⟨w2, hb2⟩ := x
            simp only []
            go_wp2
            go_roundw
            case measure => simp [intOf]; omega
            case rel =>
              refine ⟨q + 1, by omega, by omega, by go_num, ⟨xs, HOX.out.below hb2 (Nat.le_refl _), hxl, ?_⟩, fun b hb' => (hb2.block b (Nat.lt_of_lt_of_le hb'.1 hbel2.size)).trans (hsame2 b hb'), hbel2.trans (hb2.mono hbx)⟩
              have h1 := HS.out
              rw [show n - q = (n - (q + 1)) + 1 by omega, sortFrom_step, ← HSK.out] at h1
              exact h1
          · obtain ⟨k, rfl⟩ : ∃ k, p = k + 1 := ⟨p - 1, by omega⟩
            obtain ⟨g', cap', hv, -, -, hel⟩ := hown.elem rowCs_size (by decide) (by omega) (by omega)
            injection hv with q1 q2 q3
            injection q1 with q1
            injection q1 with q1 q4
            subst q1 q3
            have r1 := hel (k + 1) (by omega)
            have r0 := hel k (by omega)
            have hi1 := fun W => hix W ((k : Int) + 1) (by omega) (by omega)
            have hi0 := fun W => hix W (k : Int) (by omega) (by omega)
            rw [show ((k : Int) + 1).toNat = k + 1 by omega] at hi1
            rw [show ((k : Int)).toNat = k by omega] at hi0
            simp only [Nat.zero_add] at hi1 hi0
            have HIX := hide hix
            have hk1 : k + 1 < xs.length := by omega
            have hk0 : k < xs.length := by omega
            have HHIT := hide (sink_hit rowLt hk1)
            have HMISS := hide (sink_miss rowLt hk1)
            have HOX := hide hown
            have HSK := hide hsink
            generalize hx1 : xs[k + 1] = x1 at *
            generalize hx0 : xs[k] = x0 at *
            clear hix hsink hown hel q2 hx1 hx0
            cases hl : rowLt x1 x0 with
            | false =>
              go_upto_region 4 with fail
              refine wp_region_ext wr.heap.size (by kernel_rfl) (by kernel_rfl) ?_
              repeat (go_big_quiet_step ((go_at_call 262; refine ext_call (Nat.le_refl _) (sortRows1_calls _ _ _))))
              refine wpQuiet_nil ?_
              intro _ hw'
              obtain ⟨x, hw2⟩ := hw'
              subst hw2
              obtain ⟨w2, hb2⟩ := x
              simp only []
              go_wp2
              go_roundw
              case measure => simp [intOf]; omega
              case rel =>
                refine ⟨q + 1, by omega, by omega, by go_num, ⟨xs, HOX.out.below hb2 (Nat.le_refl _), hxl, ?_⟩, fun b hb' => (hb2.block b (Nat.lt_of_lt_of_le hb'.1 hbel2.size)).trans (hsame2 b hb'), hbel2.trans (hb2.mono hbx)⟩
                have h1 := HS.out
                rw [show n - q = (n - (q + 1)) + 1 by omega, sortFrom_step, ← HSK.out, HMISS.out hl] at h1
                exact h1
            | true =>
              go_upto_region 4 with fail
              refine wp_region_ext wr.heap.size (by kernel_rfl) (by kernel_rfl) ?_
              repeat (go_big_quiet_step ((go_at_call 262; refine ext_call (Nat.le_refl _) (sortRows1_calls _ _ _))))
              refine wpQuiet_nil ?_
              intro _ hw'
              obtain ⟨x, hw2⟩ := hw'
              subst hw2
              obtain ⟨w2, hb2⟩ := x
              simp only []
              have r1' : rng w2 g ((k + 1) * 13) 13 = some (rowCs x1) := (rng_of_block (hb2.block g hgx) _ _).trans r1
              have r0' : rng w2 g (k * 13) 13 = some (rowCs x0) := (rng_of_block (hb2.block g hgx) _ _).trans r0
              have hgx2 : g < w2.heap.size := Nat.lt_of_lt_of_le hgx hb2.size
              have hown2 : OwnR w2 base 109 13 rowCs (.slice (some ⟨g, 0, none⟩) n cap) xs := HOX.out.below hb2 (Nat.le_refl _)
              obtain ⟨g1, w3, hg1, hst1, hown3, hoth3, hsz3, hbel3, -, -⟩ := OwnR.put (P := Tryz.prog) (w := w2.drew) (hown2.mono (fun _ _ => rfl)) rowCs_size rowCs_one (k + 1) hk1 x0
              injection hg1 with hg1
              injection hg1 with hg1 _
              subst hg1
              obtain ⟨g2, w4, hg2, hst2, hown4, hoth4, hsz4, hbel4, -, -⟩ := OwnR.put (P := Tryz.prog) hown3 rowCs_size rowCs_one k (by simp; omega) x1
              injection hg2 with hg2
              injection hg2 with hg2 _
              subst hg2
              rw [← stRow_eq _ _ _ _ (rowCs_size _)] at hst1 hst2
              go_upto_region 6 with fail
              refine wp_region_mixS w2.heap.size [9, 13] (by kernel_rfl) ?_
              refine mixS_slots [0, 1, 2, 3, 4, 5, 6, 7, 8, 10, 11, 12] (fuel := 6) rfl (by kernel_rfl) (fun d _ _ _ _ h => by cases d <;> exact h) ?_
              simp only [opersAt, List.getElem?_toArray, List.getElem?_cons_zero, List.getElem?_cons_succ]
              repeat (go_big_quiet_step (fail))
              refine wpQuiet_nil ?_
              refine mixS_reads [9, 13] (fuel := 4) rfl (by decide) (by kernel_rfl) (fun d _ _ _ _ h => by cases d <;> exact h) (ext_drew _ _) ?_
              simp only [opersAt, List.getElem?_toArray, List.getElem?_cons_zero, List.getElem?_cons_succ]
              repeat (go_big_quiet_step (fail))
              refine wpQuiet_nil ?_
              refine mixS_slots [14] (fuel := 3) rfl (by kernel_rfl) (fun d _ _ _ _ h => by cases d <;> exact h) ?_
              simp only [opersAt, List.getElem?_toArray, List.getElem?_cons_zero, List.getElem?_cons_succ]
              repeat (go_big_quiet_step (fail))
              refine wpQuiet_nil ?_
              refine mixS_one (k := 15) (by kernel_rfl) rfl ?_
              go_wp2
              refine ⟨Or.inl (by kernel_rfl), ?_⟩
              refine mixS_slots [16] (fuel := 1) rfl (by kernel_rfl) (fun d _ _ _ _ h => by cases d <;> exact h) ?_
              simp only [opersAt, List.getElem?_toArray, List.getElem?_cons_zero, List.getElem?_cons_succ]
              repeat (go_big_quiet_step (fail))
              refine wpQuiet_nil ?_
              refine mixS_one (k := 17) (by kernel_rfl) rfl ?_
              go_wp2
              refine ⟨Or.inl (by kernel_rfl), ?_⟩
              refine mixS_nil (by kernel_rfl) ?_
              go_wp2
              go_roundw
              case measure => simp [intOf]
              case rel =>
                have hB : Below base w w4 := (hbel2.trans (hb2.mono hbx)).trans (((Below.refl _ _).drew).trans (hbel3.trans hbel4))
                refine ⟨k, by omega, by go_num, ⟨_, hown4, by simp [hxl], ?_⟩, fun b hb' => ?_, hB⟩
                · rw [← HSK.out, HHIT.out hl]
                · rw [hoth4 b hb'.2, hoth3 b hb'.2]
                  exact (hb2.block b (Nat.lt_of_lt_of_le hb'.1 hbel2.size)).trans (hsame2 b hb')
      · go_wp2
        go_end0
        obtain ⟨ys, hown, hyl, hsort⟩ := HY.out
        have hqn : n - q = 0 := by omega
        rw [hqn] at hsort
        refine ⟨rfl, by rw [← hsort]; exact hown, hsame.mono (fun b hb => ⟨hb.1, fun e => hb.2 (by rw [e]; rfl)⟩), hbel⟩

end

section
attribute [local go_sem ↓] exec_ldHeld exec_stHeld
attribute [local go_sem] run_ldHeld ext_const Ext.cell Ext.frozen Ext.rng Ext.whole rng_alloc_lt rng_drew rng_drewN

set_option maxRecDepth 100000 in
set_option maxHeartbeats 2000000 in
theorem sortHeld_calls (w : World) (base : Nat) (a : Option Addr) (n cap : Nat) (zs : List HeldR) (h : OwnR w base 101 3 heldCs (.slice a n cap) zs) (hb : base ≤ w.heap.size) (hl : zs.length ≤ 1000000) :
    Calls Tryz.prog 228 #[.slice a n cap, .func (.func 229) #[] #[]] w fun e w' => e = .returned (.tuple #[]) ∧ OwnR w' base 101 3 heldCs (.slice a n cap) (sortL heldLt zs) ∧ Same (fun b => b < w.heap.size ∧ (Value.slice a n cap).ownBlock ≠ some b) w w' ∧ Below base w w' := by
  have hnl : n = zs.length := by
    obtain ⟨a', c', hv⟩ := h.form
    injection hv
  rcases Nat.eq_zero_or_pos zs.length with hz | hpos
  · have hzs : zs = [] := List.length_eq_zero_iff.1 hz
    subst hzs
    simp only [List.length_nil] at hnl
    subst hnl
    go_enter Tryz.func228, Tryz.ntmps228
    go_wp2
    go_loopw [4] (fun j wr => j = .int .i64 1 ∧ w = wr) (fun _ _ => 0)
    case atStart => exact ⟨rfl, rfl⟩
    case round =>
      obtain ⟨rfl, rfl⟩ := hrel
      go_wp2
      go_end0
      exact ⟨rfl, h, Same.refl _ _, Below.refl _ _⟩
  · obtain ⟨g, cap', hv, hg, hgl, hel⟩ := h.elem heldCs_size (by decide) (by omega) hpos
    injection hv with q1 q2 q3
    subst q1 q3
    have hix := run_indexAt_arr (P := Tryz.prog) (n := n) (cap := cap) Tryz.underlying73 Tryz.size101_z (fun _ => (rfl : some (⟨g, 0, none⟩ : Addr) = _))
    have hn1 : 1 ≤ n := by omega
    have HN := hide hnl
    have HH := hide h
    have hl' : n ≤ 1000000 := by omega
    clear hel q2 h hnl
    go_enter Tryz.func228, Tryz.ntmps228
    go_wp2
    go_loopw [4] (fun j wr => ∃ q : Nat, 1 ≤ q ∧ q ≤ n ∧ j = .int .i64 q ∧ Hid (∃ ys, OwnR wr base 101 3 heldCs (.slice (some ⟨g, 0, none⟩) n cap) ys ∧ ys.length = n ∧ sortFrom heldLt (n - q) q ys = sortL heldLt zs) ∧ Same (fun b => b < w.heap.size ∧ b ≠ g) w wr ∧ Below base w wr) (fun j _ => n - (intOf j).toNat)
    case atStart => exact ⟨1, by omega, by omega, rfl, ⟨zs, HH.out, HN.out.symm, by rw [HN.out]; rfl⟩, Same.refl _ _, Below.refl _ _⟩
    case round =>
      obtain ⟨q, hq1, hq2, rfl, HY, hsame, hbel⟩ := hrel
      obtain ⟨wo, hwo⟩ : ∃ wo, wo = wr := ⟨_, rfl⟩
      subst hwo
      by_cases hlt : q < n
      · obtain ⟨ys, hown, hyl, hsort⟩ := HY.out
        have HS := hide hsort
        have HOW := hide hown
        have hd1 : decide ((q : Int) < (n : Int)) = true := decide_eq_true (by omega)
        have hd2 : decide (q < n) = true := decide_eq_true hlt
        clear hsort hown
        go_wp2
        go_loopw [5] (fun j wx => ∃ p : Nat, p ≤ q ∧ j = .int .i64 p ∧ Hid (∃ xs, OwnR wx base 101 3 heldCs (.slice (some ⟨g, 0, none⟩) n cap) xs ∧ xs.length = n ∧ sink heldLt p xs = sink heldLt q ys) ∧ Same (fun b => b < w.heap.size ∧ b ≠ g) w wx ∧ Below base w wx) (fun j _ => (intOf j).toNat)
        case atStart => exact ⟨q, by omega, rfl, ⟨ys, HOW.out, hyl, rfl⟩, hsame, hbel⟩
        case round =>
          obtain ⟨p, hp, rfl, HX, hsame2, hbel2⟩ := hrel
          obtain ⟨xs, hown, hxl, hsink⟩ := HX.out
          have hgx : g < wr.heap.size := Nat.lt_of_lt_of_le hgl hbel2.size
          have hbx : base ≤ wr.heap.size := Nat.le_trans hb hbel2.size
          rcases Nat.eq_zero_or_pos p with rfl | hpp
          · have HSK := hide hsink
            have HOX := hide hown
            clear hsink hown
            go_upto_region 4 with fail
            refine wp_region_ext wr.heap.size (by kernel_rfl) (by kernel_rfl) ?_
            repeat (go_big_quiet_step (fail))
            refine wpQuiet_nil ?_
            intro _ hw'
            obtain ⟨x, hw2⟩ := hw'
            subst hw2
            obtain ⟨w2, hb2⟩ := x
            simp only []
            go_wp2
            go_roundw
            case measure => simp [intOf]; omega
            case rel =>
              refine ⟨q + 1, by omega, by omega, by go_num, ⟨xs, HOX.out.below hb2 (Nat.le_refl _), hxl, ?_⟩, fun b hb' => (hb2.block b (Nat.lt_of_lt_of_le hb'.1 hbel2.size)).trans (hsame2 b hb'), hbel2.trans (hb2.mono hbx)⟩
              have h1 := HS.out
              rw [show n - q = (n - (q + 1)) + 1 by omega, sortFrom_step, ← HSK.out] at h1
              exact h1
          · obtain ⟨k, rfl⟩ : ∃ k, p = k + 1 := ⟨p - 1, by omega⟩
            obtain ⟨g', cap', hv, -, -, hel⟩ := hown.elem heldCs_size (by decide) (by omega) (by omega)
            injection hv with q1 q2 q3
            injection q1 with q1
            injection q1 with q1 q4
            subst q1 q3
            have r1 := hel (k + 1) (by omega)
            have r0 := hel k (by omega)
            have hi1 := fun W => hix W ((k : Int) + 1) (by omega) (by omega)
            have hi0 := fun W => hix W (k : Int) (by omega) (by omega)
            rw [show ((k : Int) + 1).toNat = k + 1 by omega] at hi1
            rw [show ((k : Int)).toNat = k by omega] at hi0
            simp only [Nat.zero_add] at hi1 hi0
            have HIX := hide hix
            have hk1 : k + 1 < xs.length := by omega
            have hk0 : k < xs.length := by omega
            have HHIT := hide (sink_hit heldLt hk1)
            have HMISS := hide (sink_miss heldLt hk1)
            have HOX := hide hown
            have HSK := hide hsink
            generalize hx1 : xs[k + 1] = x1 at *
            generalize hx0 : xs[k] = x0 at *
            clear hix hsink hown hel q2 hx1 hx0
            cases hl : heldLt x1 x0 with
            | false =>
              go_upto_region 4 with fail
              refine wp_region_ext wr.heap.size (by kernel_rfl) (by kernel_rfl) ?_
              repeat (go_big_quiet_step ((go_at_call 229; refine ext_call (Nat.le_refl _) (held1_calls _ _ _))))
              refine wpQuiet_nil ?_
              intro _ hw'
              obtain ⟨x, hw2⟩ := hw'
              subst hw2
              obtain ⟨w2, hb2⟩ := x
              simp only []
              go_wp2
              go_roundw
              case measure => simp [intOf]; omega
              case rel =>
                refine ⟨q + 1, by omega, by omega, by go_num, ⟨xs, HOX.out.below hb2 (Nat.le_refl _), hxl, ?_⟩, fun b hb' => (hb2.block b (Nat.lt_of_lt_of_le hb'.1 hbel2.size)).trans (hsame2 b hb'), hbel2.trans (hb2.mono hbx)⟩
                have h1 := HS.out
                rw [show n - q = (n - (q + 1)) + 1 by omega, sortFrom_step, ← HSK.out, HMISS.out hl] at h1
                exact h1
            | true =>
              go_upto_region 4 with fail
              refine wp_region_ext wr.heap.size (by kernel_rfl) (by kernel_rfl) ?_
              repeat (go_big_quiet_step ((go_at_call 229; refine ext_call (Nat.le_refl _) (held1_calls _ _ _))))
              refine wpQuiet_nil ?_
              intro _ hw'
              obtain ⟨x, hw2⟩ := hw'
              subst hw2
              obtain ⟨w2, hb2⟩ := x
              simp only []
              have r1' : rng w2 g ((k + 1) * 3) 3 = some (heldCs x1) := (rng_of_block (hb2.block g hgx) _ _).trans r1
              have r0' : rng w2 g (k * 3) 3 = some (heldCs x0) := (rng_of_block (hb2.block g hgx) _ _).trans r0
              have hgx2 : g < w2.heap.size := Nat.lt_of_lt_of_le hgx hb2.size
              have hown2 : OwnR w2 base 101 3 heldCs (.slice (some ⟨g, 0, none⟩) n cap) xs := HOX.out.below hb2 (Nat.le_refl _)
              obtain ⟨g1, w3, hg1, hst1, hown3, hoth3, hsz3, hbel3, -, -⟩ := OwnR.put (P := Tryz.prog) (w := w2.drew) (hown2.mono (fun _ _ => rfl)) heldCs_size heldCs_one (k + 1) hk1 x0
              injection hg1 with hg1
              injection hg1 with hg1 _
              subst hg1
              obtain ⟨g2, w4, hg2, hst2, hown4, hoth4, hsz4, hbel4, -, -⟩ := OwnR.put (P := Tryz.prog) hown3 heldCs_size heldCs_one k (by simp; omega) x1
              injection hg2 with hg2
              injection hg2 with hg2 _
              subst hg2
              rw [← stHeld_eq _ _ _ _ (heldCs_size _)] at hst1 hst2
              go_upto_region 6 with fail
              refine wp_region_mixS w2.heap.size [9, 13] (by kernel_rfl) ?_
              refine mixS_slots [0, 1, 2, 3, 4, 5, 6, 7, 8, 10, 11, 12] (fuel := 6) rfl (by kernel_rfl) (fun d _ _ _ _ h => by cases d <;> exact h) ?_
              simp only [opersAt, List.getElem?_toArray, List.getElem?_cons_zero, List.getElem?_cons_succ]
              repeat (go_big_quiet_step (fail))
              refine wpQuiet_nil ?_
              refine mixS_reads [9, 13] (fuel := 4) rfl (by decide) (by kernel_rfl) (fun d _ _ _ _ h => by cases d <;> exact h) (ext_drew _ _) ?_
              simp only [opersAt, List.getElem?_toArray, List.getElem?_cons_zero, List.getElem?_cons_succ]
              repeat (go_big_quiet_step (fail))
              refine wpQuiet_nil ?_
              refine mixS_slots [14] (fuel := 3) rfl (by kernel_rfl) (fun d _ _ _ _ h => by cases d <;> exact h) ?_
              simp only [opersAt, List.getElem?_toArray, List.getElem?_cons_zero, List.getElem?_cons_succ]
              repeat (go_big_quiet_step (fail))
              refine wpQuiet_nil ?_
              refine mixS_one (k := 15) (by kernel_rfl) rfl ?_
              go_wp2
              refine ⟨Or.inl (by kernel_rfl), ?_⟩
              refine mixS_slots [16] (fuel := 1) rfl (by kernel_rfl) (fun d _ _ _ _ h => by cases d <;> exact h) ?_
              simp only [opersAt, List.getElem?_toArray, List.getElem?_cons_zero, List.getElem?_cons_succ]
              repeat (go_big_quiet_step (fail))
              refine wpQuiet_nil ?_
              refine mixS_one (k := 17) (by kernel_rfl) rfl ?_
              go_wp2
              refine ⟨Or.inl (by kernel_rfl), ?_⟩
              refine mixS_nil (by kernel_rfl) ?_
              go_wp2
              go_roundw
              case measure => simp [intOf]
              case rel =>
                have hB : Below base w w4 := (hbel2.trans (hb2.mono hbx)).trans (((Below.refl _ _).drew).trans (hbel3.trans hbel4))
                refine ⟨k, by omega, by go_num, ⟨_, hown4, by simp [hxl], ?_⟩, fun b hb' => ?_, hB⟩
                · rw [← HSK.out, HHIT.out hl]
                · rw [hoth4 b hb'.2, hoth3 b hb'.2]
                  exact (hb2.block b (Nat.lt_of_lt_of_le hb'.1 hbel2.size)).trans (hsame2 b hb')
      · go_wp2
        go_end0
        obtain ⟨ys, hown, hyl, hsort⟩ := HY.out
        have hqn : n - q = 0 := by omega
        rw [hqn] at hsort
        refine ⟨rfl, by rw [← hsort]; exact hown, hsame.mono (fun b hb => ⟨hb.1, fun e => hb.2 (by rw [e]; rfl)⟩), hbel⟩

end

set_option maxRecDepth 100000 in
theorem sortRows_calls (w : World) (base : Nat) (a : Option Addr) (n cap : Nat) (zs : List Row) (h : OwnR w base 109 13 rowCs (.slice a n cap) zs) (hb : base ≤ w.heap.size) (hl : zs.length ≤ 1000000) :
    Calls Tryz.prog 253 #[.slice a n cap] w fun e w' => e = .returned (.tuple #[]) ∧ OwnR w' base 109 13 rowCs (.slice a n cap) (sortL rowLt zs) ∧ Same (fun b => b < w.heap.size ∧ (Value.slice a n cap).ownBlock ≠ some b) w w' ∧ Below base w w' := by
  have H := hide (sortRow_calls w base a n cap zs h hb hl)
  clear h
  go_enter Tryz.func253, Tryz.ntmps253
  go_wp2_with (go_at_call 261; refine H.out.mono ?_; rintro e w1 ⟨rfl, h1, h2, h3⟩)
  go_end0
  exact ⟨rfl, h1, h2, h3⟩

end Go.Proofs.Qxb6500666aGreatDoor
