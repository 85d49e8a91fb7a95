/- The kits' layer: Build, Ship, walked. -/
import Derived.Test.Qxb6500666aGreatDoorLowAm
namespace Go.Proofs.Qxb6500666aGreatDoor
open Go.RowKit

section
variable (ρ : Operand → Value) (dst : Option Tmp) (x y : Operand) (ty : TypeId) (pos : String) (after : Array Edge) (guard : Option (Nat × Bool))
theorem exec_ldKtS : execOp ρ { dst, op := .load 35 x, type := ty, pos, after, guard } = (do pure (.value (← ldS 35 (ρ x)))) := rfl
theorem exec_stKtS : execOp ρ { dst, op := .store 35 x y, type := ty, pos, after, guard } = (do stS 35 (ρ x) (ρ y); pure .skip) := rfl
theorem exec_bsKit : execOp ρ { dst, op := .buildSlice 33 1 #[(0, x)], type := ty, pos, after, guard } = (do pure (.value (← bsS 33 (ρ x)))) := by simp [execOp, bsS]
end
theorem Tryz.size35 (w : World) : (sizeOf 35).run Tryz.prog w = .ok 1 w := by kernel_rfl
theorem run_ldKtS (w : World) (b off : Nat) : (ldS 35 (.pointer (some ⟨b, off, none⟩))).run Tryz.prog w = match rng w b off 1 with | some cs => .ok (.agg cs) w | none => (Instr.loadAt 35 (.pointer (some ⟨b, off, none⟩))).run Tryz.prog w :=
  run_ldS Tryz.underlying35 Tryz.size35 w b off
theorem run_stKtS (w : World) (b : Nat) (cs : Array Value) : (stS 35 (.pointer (some ⟨b, 0, none⟩)) (.agg cs)).run Tryz.prog w = if whole w b 1 = true ∧ ones cs 1 = true then .ok () (w.setRow b cs) else (Instr.storeAt 35 (.pointer (some ⟨b, 0, none⟩)) (.agg cs)).run Tryz.prog w := run_stS Tryz.size35 w b cs
theorem run_bsKit (w : World) (a b : Int) : (bsS 33 (.agg #[.int .u32 a, .int .u32 b])).run Tryz.prog w = .ok (.slice (some ⟨w.heap.size, 0, none⟩) 1 1) (w.alloc (.cells #[.int .u32 a, .int .u32 b] 202)) := by kernel_rfl

/-- The kit of that number. -/
def kitGet (l : List Kit) (id : Int) : Option Kit := l.find? fun x => x.id == id
theorem kitV_get (l : List Kit) (id : Int) : kitV l id = match kitGet l id with | none => .tuple #[.agg (kitCs ⟨0, 0⟩), .bool false] | some x => .tuple #[.agg (kitCs x), .bool true] := by
  unfold kitV kitGet
  induction l with
  | nil => rfl
  | cons x r ih =>
    simp only [findV, List.find?_cons]
    by_cases h : (x.id == id) = true
    · simp [h]
    · simpa [h] using ih
def buildP (l : List Kit) (id : Int) : List Kit × Int :=
  if (id == 0) then (l, 7) else if (kitGet l id).isSome then (l, 10) else (l ++ [⟨id, 0⟩], 0)
def shipL (l : List Kit) (id site : Int) : List Kit := l.map fun x => if (x.id == id) then { x with site := site } else x
def shipP (l : List Kit) (id site : Int) : List Kit × Int :=
  match kitGet l id with
  | none => (l, 19)
  | some k => if (site == 0) then (l, 7) else if (k.site != 0) then (l, 11) else (shipL l id site, 0)

def KtPost (w w' : World) (ok : Nat → Prop) (e : Ending) (R : List Kit × Int) : Prop := ∃ u, e = .returned (.tuple #[.agg #[u], .int .u8 R.2]) ∧ RArr w' ok 2 kitCs u R.1 ∧ Below w.heap.size w w'

structure KtBox (w W : World) (u : Value) : Prop where
  box : W.heap[w.heap.size]? = some (.cells #[u] 35 (0, 0))
  res : W.heap[w.heap.size + 1]? = some (.cells #[.slice none 0 0] 35 (0, 0))
  below : Below w.heap.size w W
  size : w.heap.size + 1 < W.heap.size
theorem KtBox.start (w : World) (u : Value) : KtBox w ((w.alloc (.cells #[u] 35)).alloc (.cells #[.slice none 0 0] 35)) u :=
  ⟨(Below.heap_alloc _ _ _ (by simp)).trans (heap_alloc_at _ _), box2 w _ _ _ _, ((Below.refl _ _).alloc (Nat.le_refl _) _).alloc (by simp) _, by simp⟩
theorem KtBox.next {w W W' : World} {u : Value} (h : KtBox w W u) (hb : Below W.heap.size W W') : KtBox w W' u :=
  ⟨(hb.block _ (by have := h.size; omega)).trans h.box, (hb.block _ h.size).trans h.res, h.below.trans (hb.mono (by have := h.size; omega)), by have := h.size; have := hb.size; omega⟩
theorem KtBox.facts {w W : World} {u : Value} (h : KtBox w W u) : rng W w.heap.size 0 1 = some #[u] ∧ whole W (w.heap.size + 1) 1 = true ∧ w.heap.size < W.heap.size ∧ w.heap.size + 1 < W.heap.size ∧ W.cell? ⟨w.heap.size, 0, none⟩ = some u := by
  have h1 := h.size
  exact ⟨rng_whole h.box, whole_blk h.res, by omega, by omega, by rw [World.cell?, h.box]; rfl⟩
theorem KtBox.back {w W : World} {ok : Nat → Prop} {u : Value} {l : List Kit} {R : List Kit × Int} {c : Int} (h : KtBox w W u) (HE : Hid (R = (l, c))) (hh : RArr w ok 2 kitCs u l) : KtPost w (W.setRow (w.heap.size + 1) #[u]) ok (.returned (.tuple #[.agg #[u], .int .u8 c])) R := by
  rw [HE.out]
  have hb : Below w.heap.size w (W.setRow (w.heap.size + 1) #[u]) := h.below.trans (below_setRow' _ _ (by omega))
  exact ⟨_, rfl, hh.below hb, hb⟩
/-- Behind the copy. -/
structure KtNx (w W : World) (N : Nat) (U : Value) (l : List Kit) : Prop where
  nx : W.heap[N]? = some (.cells #[U] 35 (0, 0))
  res : W.heap[w.heap.size + 1]? = some (.cells #[.slice none 0 0] 35 (0, 0))
  own : OwnR W w.heap.size 202 2 kitCs U l
  below : Below w.heap.size w W
  size : w.heap.size + 1 < N
  ne : ∀ b, U.ownBlock = some b → w.heap.size + 1 < b ∧ b ≠ N
theorem KtNx.of {w W V : World} {u U : Value} {l : List Kit} (h : KtBox w W u) (k : OwnR V W.heap.size 202 2 kitCs U l) (kb : Below W.heap.size W V) : KtNx w (V.alloc (.cells #[U] 35)) V.heap.size U l := by
  have h1 := h.size
  have h3 := kb.size
  have hal : Below V.heap.size V (V.alloc (.cells #[U] 35)) := (Below.refl _ _).alloc (Nat.le_refl _) _
  exact ⟨heap_alloc_at _ _, (Below.heap_alloc _ _ _ (by omega)).trans ((kb.block _ h1).trans h.res), (k.lower (by omega)).below hal (Nat.le_refl _), (h.below.trans (kb.mono (by omega))).alloc (by omega) _, by omega, fun b hb => by have := k.block b hb; omega⟩
theorem KtNx.facts {w W : World} {N : Nat} {U : Value} {l : List Kit} (h : KtNx w W N U l) : rng W N 0 1 = some #[U] ∧ whole W (w.heap.size + 1) 1 = true ∧ N < W.heap.size ∧ w.heap.size + 1 < W.heap.size ∧ W.cell? ⟨N, 0, none⟩ = some U ∧ (∀ j, W.frozen? ⟨N, j, none⟩ = false) ∧ ones #[U] 1 = true := by
  refine ⟨rng_whole h.nx, whole_blk h.res, blk_lt h.nx, blk_lt h.res, by rw [World.cell?, h.nx]; rfl, fun j => by rw [World.frozen?, h.nx]; simp, ?_⟩
  obtain ⟨a1, c1, rfl⟩ := h.own.form
  rfl
theorem KtNx.back {w W : World} {ok : Nat → Prop} {N : Nat} {U : Value} {l : List Kit} {R : List Kit × Int} (h : KtNx w W N U l) (HE : Hid (R = (l, 0))) (hok : ∀ b, w.heap.size ≤ b → ok b) (hl : l.length ≤ 2000000) : KtPost w (W.setRow (w.heap.size + 1) #[U]) ok (.returned (.tuple #[.agg #[U], .int .u8 0])) R := by
  rw [HE.out]
  exact ⟨_, rfl, (h.own.mono fun b hb => setRow_other _ _ _ _ (by have := (h.ne b hb).1; omega)).to_ok kitCs_size (by decide) hl hok, h.below.trans (below_setRow' _ _ (by omega))⟩
theorem KtNx.set {w W : World} {N : Nat} {a : Option Addr} {n c : Nat} {l : List Kit} (h : KtNx w W N (.slice a n c) l) (q : Nat) (hq : q < l.length) (j : Nat) (hj : j < 2) (y : Kit) (v : Value) (hy : (kitCs y).toList = (kitCs l[q]).toList.set j v) :
    ∃ g x, a = some ⟨g, 0, none⟩ ∧ w.heap.size + 1 < g ∧ g ≠ N ∧ g < W.heap.size ∧ W.cell? ⟨g, q * 2 + j, none⟩ = some x ∧ W.frozen? ⟨g, q * 2 + j, none⟩ = false ∧ (kitCs l[q])[j]? = some x ∧ KtNx w (W.setCell ⟨g, q * 2 + j, none⟩ v) N (.slice a n c) (l.set q y) := by
  obtain ⟨g, x, e1, e2, e3, e4, e5, e6, e8, e7⟩ := h.own.cell1 kitCs_size q hq j hj y v hy
  have hne := h.ne g (by rw [e1]; rfl)
  have hoth : ∀ b, b ≠ g → (W.setCell ⟨g, q * 2 + j, none⟩ v).heap[b]? = W.heap[b]? := fun b hb => Below.heap_setCell _ _ _ _ hb
  exact ⟨g, x, e1, hne.1, hne.2, e4, e5, e6, e8, (hoth N (fun e => hne.2 e.symm)).trans h.nx, (hoth _ (by omega)).trans h.res, e7, h.below.setCell (p := ⟨g, _, none⟩) (by show w.heap.size ≤ g; omega) _, h.size, h.ne⟩
theorem KtNx.app {w W w9 : World} {N : Nat} {U v9 : Value} {l : List Kit} {o : Obj} {x : Kit} (h : KtNx w W N U l) (hown : OwnR w9 w.heap.size 202 2 kitCs v9 (l ++ [x])) (hs : Same (fun b => b < (W.alloc o).heap.size ∧ U.ownBlock ≠ some b) (W.alloc o) w9) (hbel : Below w.heap.size (W.alloc o) w9) (hat : v9.ownBlock = U.ownBlock ∨ v9.ownBlock = some (W.alloc o).heap.size) :
    w9.cell? ⟨N, 0, none⟩ = some U ∧ w9.frozen? ⟨N, 0, none⟩ = false ∧ N < w9.heap.size ∧ KtNx w (w9.setCell ⟨N, 0, none⟩ v9) N v9 (l ++ [x]) := by
  have hN := blk_lt h.nx
  have h2 := h.size
  have hsz : (W.alloc o).heap.size = W.heap.size + 1 := by simp
  have hnn : w9.heap[N]? = some (.cells #[U] 35 (0, 0)) := (hs N ⟨by omega, fun e => (h.ne N e).2 rfl⟩).trans ((Below.heap_alloc _ _ _ hN).trans h.nx)
  have hoth : ∀ b, b ≠ N → (w9.setCell ⟨N, 0, none⟩ v9).heap[b]? = w9.heap[b]? := fun b hb => Below.heap_setCell _ _ _ _ hb
  have hv : ∀ b, v9.ownBlock = some b → w.heap.size + 1 < b ∧ b ≠ N := fun b hb => by
    rcases hat with e | e
    · exact h.ne b (e ▸ hb)
    · rw [e] at hb; injection hb with hb; omega
  refine ⟨by rw [World.cell?, hnn]; rfl, by rw [World.frozen?, hnn]; simp, blk_lt hnn, heap_set3 hnn, ?_, hown.mono (fun b hb => hoth b (hv b hb).2), ((h.below.alloc h.below.size _).trans hbel).setCell (p := ⟨N, 0, none⟩) (by show w.heap.size ≤ N; omega) _, h.size, hv⟩
  exact (hoth _ (by omega)).trans ((hs _ ⟨by omega, fun e => by have := (h.ne _ e).1; omega⟩).trans ((Below.heap_alloc _ _ _ (by omega)).trans h.res))

attribute [local go_sem] ext_const Ext.cell Ext.frozen Ext.rng Ext.whole
attribute [local go_sem ↓] exec_ldKtS exec_stKtS exec_bsKit exec_stKit
attribute [local go_sem] run_ldKtS run_stKtS run_bsKit run_stKit whole_alloc_lt whole_alloc_at whole_drew setRow_alloc_at setRow_alloc_lt rng_alloc_lt rng_alloc_at rng_drew rng_drewN rng_setCell_other whole_setCell_other

set_option maxRecDepth 100000 in
set_option maxHeartbeats 1000000 in
theorem build_calls (w : World) (ok : Nat → Prop) (u : Value) (l : List Kit) (id : Int) (h : RArr w ok 2 kitCs u l) (hl : l.length ≤ 1000000) (hok : ∀ b, w.heap.size ≤ b → ok b) :
    Calls Tryz.prog 191 #[.agg #[u], .int .u32 id] w fun e w' => KtPost w w' ok e (buildP l id) := by
  obtain ⟨R, hR⟩ : ∃ R, R = buildP l id := ⟨_, rfl⟩
  rw [← hR]
  have HR := hide hR
  have HH := hide h
  obtain ⟨a1, n1, c1, rfl, -⟩ := Src.of h
  have hov : ∀ b m d, ones #[.slice b m d] 1 = true := fun _ _ _ => rfl
  have hov2 : ∀ x : Kit, ones (kitCs x) 2 = true := fun _ => rfl
  clear hR h
  go_enter Tryz.func191, Tryz.ntmps191
  go_upto_region 1 with fail
  have HB0 := hide (KtBox.start w (.slice a1 n1 c1))
  generalize (World.alloc (World.alloc w _) _) = W at *
  obtain ⟨f1, f2, f3, f4, f5⟩ := HB0.out.facts
  cases t0 : (id == 0) with
  | true =>
    have HE : Hid (R = (l, 7)) := HR.out.trans (by simp [buildP, t0])
    go_wp2
    refine bodyPost_ret (results_cell_tmp Tryz.results191 _ _ (w.heap.size + 1) _ _ _ _ rfl (heap_setRow_at HB0.out.res) Tryz.underlying35 rfl (by kernel_rfl)) rfl ?_
    exact HB0.out.back HE HH.out
  | false =>
    cases hg : kitGet l id with
    | some k =>
      have HE : Hid (R = (l, 10)) := HR.out.trans (by simp [buildP, t0, hg])
      go_upto_region 4 with (go_at_call 97; refine (kitFind_calls _ ok _ l id (HH.out.below HB0.out.below)).mono ?_; rintro e w1 ⟨rfl, hb1⟩; rw [kitV_get, hg])
      have HB1 := hide (HB0.out.next (hb1.alloc hb1.size (.cells (kitCs k) 202)))
      generalize (World.alloc w1 _) = W1 at *
      clear f1 f2 f3 f4 f5 HB0 hb1
      obtain ⟨f1, f2, f3, f4, f5⟩ := HB1.out.facts
      go_wp2
      refine bodyPost_ret (results_cell_tmp Tryz.results191 _ _ (w.heap.size + 1) _ _ _ _ rfl (heap_setRow_at HB1.out.res) Tryz.underlying35 rfl (by kernel_rfl)) rfl ?_
      exact HB1.out.back HE HH.out
    | none =>
      have HE : Hid (R = (l ++ [⟨id, 0⟩], 0)) := HR.out.trans (by simp [buildP, t0, hg])
      go_upto_region 4 with (go_at_call 97; refine (kitFind_calls _ ok _ l id (HH.out.below HB0.out.below)).mono ?_; rintro e w1 ⟨rfl, hb1⟩; rw [kitV_get, hg])
      have HB1 := hide (HB0.out.next (hb1.alloc hb1.size (.cells (kitCs ⟨0, 0⟩) 202)))
      generalize (World.alloc w1 _) = W1 at *
      clear f1 f2 f3 f4 f5 HB0 hb1
      obtain ⟨f1, f2, f3, f4, f5⟩ := HB1.out.facts
      go_upto_region 7 with (go_at_call 240; refine (kitCopied_calls _ ok _ l (HH.out.below HB1.out.below) hl).mono ?_; rintro e v2 ⟨U, rfl, hcp, hcb⟩; obtain ⟨A1, k1, e1⟩ := hcp.form; subst e1)
      have HN := hide (KtNx.of HB1.out hcp hcb)
      generalize hNN : v2.heap.size = N at *
      generalize (v2.alloc _) = W3 at *
      clear hcp hcb f1 f2 f3 f4 f5
      obtain ⟨f1, f2, f3, f4, f5, f6, f7⟩ := HN.out.facts
      go_upto_region 8 with (at_builtin; refine wpList_app1 (α := Kit) rfl _ _ 33 rfl w.heap.size 202 kitCs Tryz.underlying33 Tryz.info202 rfl (by decide) kitCs_size kitCs_one (.slice A1 l.length k1) l rfl (OwnR.below HN.out.own ((Below.refl _ _).alloc (Nat.le_refl _) _) (Nat.le_refl _)) _ rfl ⟨id, 0⟩ (rng_whole (heap_alloc_at _ _)) (by omega) (by unfold maxLen; omega) (by have := HN.out.below.size; simp only [World.size_alloc]; omega) ?_; intro v9 w9 hown9 hsame9 hbel9 hat9; obtain ⟨A9, m9, k9, e9⟩ := hown9.form3; subst e9; obtain ⟨g1, g2, g3, HM⟩ := HN.out.app hown9 hsame9 hbel9 hat9)
      have HM0 := hide HM
      generalize (World.setCell _ _ _) = V0 at *
      clear f1 f2 f3 f4 f5 f6 f7 g1 g2 g3 hown9 hsame9 hbel9 hat9 HN HM
      obtain ⟨f1, f2, f3, f4, -, -, f7⟩ := HM0.out.facts
      go_wp2
      refine bodyPost_ret (results_cell_tmp Tryz.results191 _ _ (w.heap.size + 1) _ _ _ _ rfl (heap_setRow_at HM0.out.res) Tryz.underlying35 rfl (by kernel_rfl)) rfl ?_
      exact HM0.out.back HE hok (by simp only [List.length_append, List.length_cons, List.length_nil]; omega)

/-- The list with its first q kits done. -/
def shipTo (l : List Kit) (id site : Int) (q : Nat) : List Kit := shipL (l.take q) id site ++ l.drop q
theorem shipTo_len (l : List Kit) (id site : Int) (q : Nat) : (shipTo l id site q).length = l.length := by simp [shipTo, shipL]; omega
theorem shipTo_at {l : List Kit} {id site : Int} {q : Nat} (h : q < l.length) : (shipTo l id site q)[q]'(by rw [shipTo_len]; exact h) = l[q] := by
  have e : (shipL (l.take q) id site).length = q := by simp [shipL]; omega
  simp only [shipTo]
  rw [List.getElem_append_right (by omega)]
  simp [e]
theorem shipTo_set {l : List Kit} {id site : Int} {q : Nat} (h : q < l.length) (hx : (l[q].id == id) = true) : (shipTo l id site q).set q { l[q] with site := site } = shipTo l id site (q + 1) := by
  have e : (shipL (l.take q) id site).length = q := by simp [shipL]; omega
  simp only [shipTo]
  rw [List.set_append_right _ _ (by omega), e, Nat.sub_self, List.drop_eq_getElem_cons h, List.set_cons_zero, List.take_succ_eq_append_getElem h]
  simp only [shipL, List.map_append, List.map_cons, List.map_nil, hx, if_true, List.append_assoc, List.singleton_append]
theorem shipTo_keep {l : List Kit} {id site : Int} {q : Nat} (h : q < l.length) (hx : (l[q].id == id) = false) : shipTo l id site q = shipTo l id site (q + 1) := by
  simp only [shipTo]
  rw [List.drop_eq_getElem_cons h, List.take_succ_eq_append_getElem h]
  simp only [shipL, List.map_append, List.map_cons, List.map_nil, hx, List.append_assoc, List.singleton_append]
  rfl
theorem shipTo_zero (l : List Kit) (id site : Int) : shipTo l id site 0 = l := by simp [shipTo, shipL]
theorem shipTo_end {l : List Kit} {id site : Int} {q : Nat} (h : l.length ≤ q) : shipTo l id site q = shipL l id site := by simp [shipTo, List.take_of_length_le h, List.drop_of_length_le h]

set_option maxRecDepth 100000 in
set_option maxHeartbeats 1000000 in
theorem ship_calls (w : World) (ok : Nat → Prop) (u : Value) (l : List Kit) (id site : Int) (h : RArr w ok 2 kitCs u l) (hl : l.length ≤ 1000000) (hok : ∀ b, w.heap.size ≤ b → ok b) :
    Calls Tryz.prog 193 #[.agg #[u], .int .u32 id, .int .u32 site] w fun e w' => KtPost w w' ok e (shipP l id site) := by
  obtain ⟨R, hR⟩ : ∃ R, R = shipP l id site := ⟨_, rfl⟩
  rw [← hR]
  have HR := hide hR
  have HH := hide h
  obtain ⟨a1, n1, c1, rfl, -⟩ := Src.of h
  have hov : ∀ b m d, ones #[.slice b m d] 1 = true := fun _ _ _ => rfl
  have hov2 : ∀ x : Kit, ones (kitCs x) 2 = true := fun _ => rfl
  clear hR h
  go_enter Tryz.func193, Tryz.ntmps193
  go_upto_region 1 with fail
  have HB0 := hide (KtBox.start w (.slice a1 n1 c1))
  generalize (World.alloc (World.alloc w _) _) = W at *
  obtain ⟨f1, f2, f3, f4, f5⟩ := HB0.out.facts
  cases hg : kitGet l id with
  | none =>
    have HE : Hid (R = (l, 19)) := HR.out.trans (by simp [shipP, hg])
    go_upto_region 2 with (go_at_call 97; refine (kitFind_calls _ ok _ l id (HH.out.below HB0.out.below)).mono ?_; rintro e w1 ⟨rfl, hb1⟩; rw [kitV_get, hg])
    have HB1 := hide (HB0.out.next (hb1.alloc hb1.size (.cells (kitCs ⟨0, 0⟩) 202)))
    generalize (World.alloc w1 _) = W1 at *
    clear f1 f2 f3 f4 f5 HB0 hb1
    obtain ⟨f1, f2, f3, f4, f5⟩ := HB1.out.facts
    go_wp2
    refine bodyPost_ret (results_cell_tmp Tryz.results193 _ _ (w.heap.size + 1) _ _ _ _ rfl (heap_setRow_at HB1.out.res) Tryz.underlying35 rfl (by kernel_rfl)) rfl ?_
    exact HB1.out.back HE HH.out
  | some k =>
    go_upto_region 2 with (go_at_call 97; refine (kitFind_calls _ ok _ l id (HH.out.below HB0.out.below)).mono ?_; rintro e w1 ⟨rfl, hb1⟩; rw [kitV_get, hg])
    have HB1 := hide (HB0.out.next (hb1.alloc hb1.size (.cells (kitCs k) 202)))
    have hkb : (w1.alloc (.cells (kitCs k) 202)).heap[w1.heap.size]? = some (.cells (kitCs k) 202 (0, 0)) := heap_alloc_at _ _
    generalize hK : w1.heap.size = K at *
    generalize (World.alloc w1 _) = W1 at *
    have hks : W1.cell? ⟨K, 1, none⟩ = some (.int .u32 k.site) := by rw [World.cell?, hkb]; rfl
    have hkl := blk_lt hkb
    clear f1 f2 f3 f4 f5 HB0 hb1 hkb hK
    obtain ⟨f1, f2, f3, f4, f5⟩ := HB1.out.facts
    cases t1 : (site == 0) with
    | true =>
      have HE : Hid (R = (l, 7)) := HR.out.trans (by simp [shipP, hg, t1])
      go_wp2
      refine bodyPost_ret (results_cell_tmp Tryz.results193 _ _ (w.heap.size + 1) _ _ _ _ rfl (heap_setRow_at HB1.out.res) Tryz.underlying35 rfl (by kernel_rfl)) rfl ?_
      exact HB1.out.back HE HH.out
    | false =>
      cases t2 : (k.site != 0) with
      | true =>
        have HE : Hid (R = (l, 11)) := HR.out.trans (by simp only [shipP, hg, t1, t2]; rfl)
        go_wp2
        refine bodyPost_ret (results_cell_tmp Tryz.results193 _ _ (w.heap.size + 1) _ _ _ _ rfl (heap_setRow_at HB1.out.res) Tryz.underlying35 rfl (by kernel_rfl)) rfl ?_
        exact HB1.out.back HE HH.out
      | false =>
        have HE : Hid (R = (shipL l id site, 0)) := HR.out.trans (by simp only [shipP, hg, t1, t2]; rfl)
        go_upto_region 9 with (go_at_call 240; refine (kitCopied_calls _ ok _ l (HH.out.below HB1.out.below) hl).mono ?_; rintro e v2 ⟨U, rfl, hcp, hcb⟩; obtain ⟨A1, k1, e1⟩ := hcp.form; subst e1)
        have HN := hide (KtNx.of HB1.out hcp hcb)
        generalize hNN : v2.heap.size = N at *
        generalize (v2.alloc _) = W3 at *
        generalize hn : l.length = n at *
        have Hn := hide hn
        clear hcp hcb f1 f2 f3 f4 f5 hks hkl hn hNN
        obtain ⟨f1, f2, f3, f4, f5, f6, f7⟩ := HN.out.facts
        go_upto_region 10 with fail
        clear f1 f2 f3 f4 f5 f6 f7
        go_loopg [33] n (fun g x wr => ∃ q : Nat, q ≤ n ∧ g = n - q ∧ x = .int .i64 q ∧ Hid (KtNx w wr N (.slice A1 n k1) (shipTo l id site q)))
        case atStart => exact ⟨0, by omega, by omega, rfl, by rw [shipTo_zero]; exact HN⟩
        case round =>
          obtain ⟨q, hq, rfl, rfl, HQ⟩ := hrel
          obtain ⟨f1, f2, f3, f4, f5, f6, f7⟩ := HQ.out.facts
          by_cases hlt : q < n
          · have hq1 : q < l.length := by rw [Hn.out]; exact hlt
            have hq2 : q < (shipTo l id site q).length := by rw [shipTo_len]; exact hq1
            obtain ⟨g, x0, e9, hg1, hg2, hg3, hc0, hf0, hv0, -⟩ := HQ.out.set q hq2 0 (by decide) l[q] (.int .u32 l[q].id) (by rw [shipTo_at hq1]; rfl)
            obtain ⟨g', x1, e8, -, -, -, hc1, hf1, -, hN1⟩ := HQ.out.set q hq2 1 (by decide) { l[q] with site := site } (.int .u32 site) (by rw [shipTo_at hq1]; rfl)
            rw [e9] at e8
            injection e8 with e8
            injection e8 with e8
            subst e8 e9
            rw [shipTo_at hq1] at hv0
            simp only [kitCs, List.getElem?_toArray, List.getElem?_cons_zero, Option.some.injEq] at hv0
            subst hv0
            simp only [Nat.add_zero] at hc0 hf0
            have hi := run_indexAt_arr (P := Tryz.prog) (n := n) (cap := k1) (a := some ⟨g, 0, none⟩) (b := g) (off := 0) Tryz.underlying33 Tryz.size202 (fun _ => rfl)
            have HST := hide (shipTo_set (id := id) (site := site) hq1)
            have HKP := hide (shipTo_keep (id := id) (site := site) hq1)
            have HN1 := hide hN1
            clear hN1 hq2
            generalize l[q] = y at *
            cases t3 : (y.id == id) with
            | true =>
              rw [HST.out t3] at HN1
              go_wp2
              go_roundg (n - (q + 1))
              case measure => omega
              case rel => exact ⟨q + 1, by omega, rfl, by go_num, HN1⟩
            | false =>
              rw [HKP.out t3] at HQ
              go_wp2
              go_roundg (n - (q + 1))
              case measure => omega
              case rel => exact ⟨q + 1, by omega, rfl, by go_num, HQ⟩
          · have HE2 : Hid (R = (shipTo l id site q, 0)) := HE.out.trans (by rw [shipTo_end (by rw [Hn.out]; omega)])
            go_wp2
            refine bodyPost_ret (results_cell_tmp Tryz.results193 _ _ (w.heap.size + 1) _ _ _ _ rfl (heap_setRow_at HQ.out.res) Tryz.underlying35 rfl (by kernel_rfl)) rfl ?_
            exact HQ.out.back HE2 hok (by rw [shipTo_len, Hn.out]; omega)

end Go.Proofs.Qxb6500666aGreatDoor
