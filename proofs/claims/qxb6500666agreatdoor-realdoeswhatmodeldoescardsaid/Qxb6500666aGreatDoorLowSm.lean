/- The samples' layer: its commands, walked. -/
import Derived.Test.Qxb6500666aGreatDoorLowPlain
namespace Go.Proofs.Qxb6500666aGreatDoor
open Go.RowKit

section
variable (ρ : Operand → Value) (dst : Option Tmp) (x y : Operand) (ty : TypeId) (pos : String) (after : Array Edge) (guard : Option (Nat × Bool))
theorem exec_ldSmS : execOp ρ { dst, op := .load 40 x, type := ty, pos, after, guard } = (do pure (.value (← ldS 40 (ρ x)))) := rfl
theorem exec_stSmS : execOp ρ { dst, op := .store 40 x y, type := ty, pos, after, guard } = (do stS 40 (ρ x) (ρ y); pure .skip) := rfl
end
theorem Tryz.size40 (w : World) : (sizeOf 40).run Tryz.prog w = .ok 3 w := by kernel_rfl
theorem run_ldSmS (w : World) (b off : Nat) : (ldS 40 (.pointer (some ⟨b, off, none⟩))).run Tryz.prog w = match rng w b off 3 with | some cs => .ok (.agg cs) w | none => (Instr.loadAt 40 (.pointer (some ⟨b, off, none⟩))).run Tryz.prog w :=
  run_ldS Tryz.underlying40 Tryz.size40 w b off
theorem run_stSmS (w : World) (b : Nat) (cs : Array Value) : (stS 40 (.pointer (some ⟨b, 0, none⟩)) (.agg cs)).run Tryz.prog w = if whole w b 3 = true ∧ ones cs 3 = true then .ok () (w.setRow b cs) else (Instr.storeAt 40 (.pointer (some ⟨b, 0, none⟩)) (.agg cs)).run Tryz.prog w := run_stS Tryz.size40 w b cs

/-- Where a command of the samples' layer works: the box of its state, the cells of its result. -/
structure SmBox (w W : World) (r : Nat) (u1 u2 u3 : Value) : Prop where
  box : W.heap[w.heap.size]? = some (.cells #[u1, u2, u3] 40 (0, 0))
  res : W.heap[r]? = some (.cells #[.slice none 0 0, .slice none 0 0, .slice none 0 0] 40 (0, 0))
  below : Below w.heap.size w W
  lt : w.heap.size < r
  size : r < W.heap.size
theorem SmBox.start (w : World) (u1 u2 u3 : Value) : SmBox w ((w.alloc (.cells #[u1, u2, u3] 40)).alloc (.cells #[.slice none 0 0, .slice none 0 0, .slice none 0 0] 40)) (w.heap.size + 1) u1 u2 u3 :=
  ⟨(Below.heap_alloc _ _ _ (by simp)).trans (heap_alloc_at _ _), box2 w _ _ _ _, ((Below.refl _ _).alloc (Nat.le_refl _) _).alloc (by simp) _, by omega, by simp⟩
theorem SmBox.next {w W W' : World} {r : Nat} {u1 u2 u3 : Value} (h : SmBox w W r u1 u2 u3) (hb : Below W.heap.size W W') : SmBox w W' r u1 u2 u3 :=
  ⟨(hb.block _ (by have := h.size; have := h.lt; omega)).trans h.box, (hb.block _ h.size).trans h.res, h.below.trans (hb.mono (by have := h.size; have := h.lt; omega)), h.lt, by have := h.size; have := hb.size; omega⟩
theorem whole_blk {w : World} {b : Nat} {cs : Array Value} {t : TypeId} (h : w.heap[b]? = some (.cells cs t (0, 0))) : whole w b cs.size = true := by
  unfold whole
  rw [h]
  simp
theorem SmBox.facts {w W : World} {r : Nat} {u1 u2 u3 : Value} (h : SmBox w W r u1 u2 u3) : rng W w.heap.size 0 3 = some #[u1, u2, u3] ∧ whole W r 3 = true ∧ w.heap.size < W.heap.size ∧ r < W.heap.size ∧ W.cell? ⟨w.heap.size, 0, none⟩ = some u1 ∧ W.cell? ⟨w.heap.size, 1, none⟩ = some u2 ∧ W.cell? ⟨w.heap.size, 2, none⟩ = some u3 := by
  have h1 := h.size
  have h2 := h.lt
  have c := cell_three h.box
  exact ⟨rng_whole h.box, whole_blk h.res, by omega, by omega, c.1, c.2.1, c.2.2.1⟩
theorem SmBox.back {w W : World} {ok : Nat → Prop} {r : Nat} {u1 u2 u3 : Value} {T : Sm} {R : Sm × Int} {c : Int} (h : SmBox w W r u1 u2 u3) (HE : Hid (R = (T, c))) (hh : SmAt w ok u1 u2 u3 T) : SmPost w (W.setRow r #[u1, u2, u3]) ok (.returned (.tuple #[.agg #[u1, u2, u3], .int .u8 c])) R :=
  sm_back HE hh (h.below.trans (below_setRow' _ _ (by have := h.lt; omega)))

/-- Behind the copy. -/
structure SmNx (w W : World) (r N : Nat) (U1 U2 U3 : Value) (T : Sm) : Prop where
  nx : W.heap[N]? = some (.cells #[U1, U2, U3] 40 (0, 0))
  res : W.heap[r]? = some (.cells #[.slice none 0 0, .slice none 0 0, .slice none 0 0] 40 (0, 0))
  own : Cp3 w W U1 U2 U3 T.ss T.rs T.qs
  lt : w.heap.size < r
  size : r < N
  ne : ∀ y, y ∈ [U1.ownBlock, U2.ownBlock, U3.ownBlock] → ∀ b, y = some b → r < b ∧ b ≠ N
theorem SmNx.of {w W V : World} {r : Nat} {u1 u2 u3 U1 U2 U3 : Value} {T : Sm} (h : SmBox w W r u1 u2 u3) (k : Cp3 W V U1 U2 U3 T.ss T.rs T.qs) : SmNx w (V.alloc (.cells #[U1, U2, U3] 40)) r V.heap.size U1 U2 U3 T := by
  have h1 := h.size
  have h2 := h.lt
  have h3 := k.below.size
  have hal : Below V.heap.size V (V.alloc (.cells #[U1, U2, U3] 40)) := (Below.refl _ _).alloc (Nat.le_refl _) _
  refine ⟨heap_alloc_at _ _, (Below.heap_alloc _ _ _ (by omega)).trans ((k.below.block _ h1).trans h.res), ⟨(k.a.lower (by omega)).below hal (Nat.le_refl _), (k.b.lower (by omega)).below hal (Nat.le_refl _), (k.c.lower (by omega)).below hal (Nat.le_refl _), (h.below.trans (k.below.mono (by omega))).alloc (by omega) _, k.nd⟩, h2, by omega, ?_⟩
  intro y hy b hb
  simp only [List.mem_cons, List.not_mem_nil, or_false] at hy
  rcases hy with rfl | rfl | rfl
  · have := k.a.block b hb; omega
  · have := k.b.block b hb; omega
  · have := k.c.block b hb; omega
theorem SmNx.facts {w W : World} {r N : Nat} {U1 U2 U3 : Value} {T : Sm} (h : SmNx w W r N U1 U2 U3 T) : rng W N 0 3 = some #[U1, U2, U3] ∧ whole W r 3 = true ∧ N < W.heap.size ∧ r < W.heap.size ∧ W.cell? ⟨N, 0, none⟩ = some U1 ∧ W.cell? ⟨N, 1, none⟩ = some U2 ∧ W.cell? ⟨N, 2, none⟩ = some U3 ∧ (∀ j, W.frozen? ⟨N, j, none⟩ = false) ∧ ones #[U1, U2, U3] 3 = true := by
  have c := cell_three h.nx
  refine ⟨rng_whole h.nx, whole_blk h.res, c.2.2.2.2, blk_lt h.res, c.1, c.2.1, c.2.2.1, c.2.2.2.1, ?_⟩
  obtain ⟨a1, c1, rfl⟩ := h.own.a.form
  obtain ⟨a2, c2, rfl⟩ := h.own.b.form
  obtain ⟨a3, c3, rfl⟩ := h.own.c.form
  rfl
theorem SmNx.back {w W : World} {ok : Nat → Prop} {r N : Nat} {U1 U2 U3 : Value} {T : Sm} {R : Sm × Int} (h : SmNx w W r N U1 U2 U3 T) (HE : Hid (R = (T, 0))) (hok : ∀ b, w.heap.size ≤ b → ok b) (l1 : T.ss.length ≤ 2000000) (l2 : T.rs.length ≤ 2000000) (l3 : T.qs.length ≤ 2000000) :
    SmPost w (W.setRow r #[U1, U2, U3]) ok (.returned (.tuple #[.agg #[U1, U2, U3], .int .u8 0])) R := by
  rw [HE.out]
  have hb : ∀ b, b ≠ r → (W.setRow r #[U1, U2, U3]).heap[b]? = W.heap[b]? := fun b hb => setRow_other _ _ _ _ hb
  have hn : ∀ y, y ∈ [U1.ownBlock, U2.ownBlock, U3.ownBlock] → ∀ b, y = some b → b ≠ r := fun y hy b hb => by have := (h.ne y hy b hb).1; omega
  refine ⟨_, _, _, rfl, ⟨(h.own.a.mono fun b hb' => hb b (hn _ (by simp) b hb')).to_ok smpCs_size (by decide) l1 hok, (h.own.b.mono fun b hb' => hb b (hn _ (by simp) b hb')).to_ok resCs_size (by decide) l2 hok, (h.own.c.mono fun b hb' => hb b (hn _ (by simp) b hb')).to_ok qryCs_size (by decide) l3 hok⟩, h.own.below.trans (below_setRow' _ _ (by have := h.lt; omega))⟩

/-- One cell of one of the three lists is set. -/
theorem SmNx.set {w W : World} {r N : Nat} {U1 U2 U3 : Value} {T T' : Sm} (h : SmNx w W r N U1 U2 U3 T) {g o : Nat} {v : Value} (hr : r < g) (hN : g ≠ N)
    (k : OwnR (W.setCell ⟨g, o, none⟩ v) w.heap.size 94 8 smpCs U1 T'.ss ∧ OwnR (W.setCell ⟨g, o, none⟩ v) w.heap.size 92 6 resCs U2 T'.rs ∧ OwnR (W.setCell ⟨g, o, none⟩ v) w.heap.size 208 3 qryCs U3 T'.qs) : SmNx w (W.setCell ⟨g, o, none⟩ v) r N U1 U2 U3 T' := by
  have hlt := h.lt
  exact ⟨(Below.heap_setCell _ _ _ _ (by show N ≠ g; omega)).trans h.nx, (Below.heap_setCell _ _ _ _ (by show r ≠ g; omega)).trans h.res, ⟨k.1, k.2.1, k.2.2, h.own.below.setCell (p := ⟨g, o, none⟩) (by show w.heap.size ≤ g; omega) _, h.own.nd⟩, h.lt, h.size, h.ne⟩

theorem SmNx.setSmp {w W : World} {r N : Nat} {a : Option Addr} {n c : Nat} {U2 U3 : Value} {T : Sm} (h : SmNx w W r N (.slice a n c) U2 U3 T) (q : Nat) (hq : q < T.ss.length) (j : Nat) (hj : j < 8) (y : Smp) (v : Value) (hy : (smpCs y).toList = (smpCs T.ss[q]).toList.set j v) :
    ∃ g x, a = some ⟨g, 0, none⟩ ∧ n = T.ss.length ∧ r < g ∧ g ≠ N ∧ g < W.heap.size ∧ W.cell? ⟨g, q * 8 + j, none⟩ = some x ∧ W.frozen? ⟨g, q * 8 + j, none⟩ = false ∧ (smpCs T.ss[q])[j]? = some x ∧ SmNx w (W.setCell ⟨g, q * 8 + j, none⟩ v) r N (.slice a n c) U2 U3 { T with ss := T.ss.set q y } := by
  obtain ⟨g, x, e1, e2, e3, e4, e5, e6, e8, e7⟩ := h.own.a.cell1 smpCs_size q hq j hj y v hy
  have hne := h.ne (Value.slice a n c).ownBlock (by simp) g (by rw [e1]; rfl)
  have hdd : U2.ownBlock ≠ some g ∧ U3.ownBlock ≠ some g := ⟨((h.own.nd g).1 (by rw [e1]; rfl)).1, ((h.own.nd g).1 (by rw [e1]; rfl)).2⟩
  have hoth : ∀ b, b ≠ g → (W.setCell ⟨g, q * 8 + j, none⟩ v).heap[b]? = W.heap[b]? := fun b hb => Below.heap_setCell _ _ _ _ hb
  exact ⟨g, x, e1, e2, hne.1, hne.2, e4, e5, e6, e8, h.set hne.1 hne.2 ⟨e7, h.own.b.mono (fun b hb => hoth b (fun e => hdd.1 (by rw [← e]; exact hb))), h.own.c.mono (fun b hb => hoth b (fun e => hdd.2 (by rw [← e]; exact hb)))⟩⟩

theorem SmNx.setRes {w W : World} {r N : Nat} {a : Option Addr} {n c : Nat} {U1 U3 : Value} {T : Sm} (h : SmNx w W r N U1 (.slice a n c) U3 T) (q : Nat) (hq : q < T.rs.length) (j : Nat) (hj : j < 6) (y : Res) (v : Value) (hy : (resCs y).toList = (resCs T.rs[q]).toList.set j v) :
    ∃ g x, a = some ⟨g, 0, none⟩ ∧ n = T.rs.length ∧ r < g ∧ g ≠ N ∧ g < W.heap.size ∧ W.cell? ⟨g, q * 6 + j, none⟩ = some x ∧ W.frozen? ⟨g, q * 6 + j, none⟩ = false ∧ (resCs T.rs[q])[j]? = some x ∧ SmNx w (W.setCell ⟨g, q * 6 + j, none⟩ v) r N U1 (.slice a n c) U3 { T with rs := T.rs.set q y } := by
  obtain ⟨g, x, e1, e2, e3, e4, e5, e6, e8, e7⟩ := h.own.b.cell1 resCs_size q hq j hj y v hy
  have hne := h.ne (Value.slice a n c).ownBlock (by simp) g (by rw [e1]; rfl)
  have hdd : U1.ownBlock ≠ some g ∧ U3.ownBlock ≠ some g := ⟨fun e => ((h.own.nd g).1 e).1 (by rw [e1]; rfl), (h.own.nd g).2 (by rw [e1]; rfl)⟩
  have hoth : ∀ b, b ≠ g → (W.setCell ⟨g, q * 6 + j, none⟩ v).heap[b]? = W.heap[b]? := fun b hb => Below.heap_setCell _ _ _ _ hb
  exact ⟨g, x, e1, e2, hne.1, hne.2, e4, e5, e6, e8, h.set hne.1 hne.2 ⟨h.own.a.mono (fun b hb => hoth b (fun e => hdd.1 (by rw [← e]; exact hb))), e7, h.own.c.mono (fun b hb => hoth b (fun e => hdd.2 (by rw [← e]; exact hb)))⟩⟩

theorem SmNx.setQry {w W : World} {r N : Nat} {a : Option Addr} {n c : Nat} {U1 U2 : Value} {T : Sm} (h : SmNx w W r N U1 U2 (.slice a n c) T) (q : Nat) (hq : q < T.qs.length) (j : Nat) (hj : j < 3) (y : Qry) (v : Value) (hy : (qryCs y).toList = (qryCs T.qs[q]).toList.set j v) :
    ∃ g x, a = some ⟨g, 0, none⟩ ∧ n = T.qs.length ∧ r < g ∧ g ≠ N ∧ g < W.heap.size ∧ W.cell? ⟨g, q * 3 + j, none⟩ = some x ∧ W.frozen? ⟨g, q * 3 + j, none⟩ = false ∧ (qryCs T.qs[q])[j]? = some x ∧ SmNx w (W.setCell ⟨g, q * 3 + j, none⟩ v) r N U1 U2 (.slice a n c) { T with qs := T.qs.set q y } := by
  obtain ⟨g, x, e1, e2, e3, e4, e5, e6, e8, e7⟩ := h.own.c.cell1 qryCs_size q hq j hj y v hy
  have hne := h.ne (Value.slice a n c).ownBlock (by simp) g (by rw [e1]; rfl)
  have hdd : U1.ownBlock ≠ some g ∧ U2.ownBlock ≠ some g := ⟨fun e => ((h.own.nd g).1 e).2 (by rw [e1]; rfl), fun e => (h.own.nd g).2 e (by rw [e1]; rfl)⟩
  have hoth : ∀ b, b ≠ g → (W.setCell ⟨g, q * 3 + j, none⟩ v).heap[b]? = W.heap[b]? := fun b hb => Below.heap_setCell _ _ _ _ hb
  exact ⟨g, x, e1, e2, hne.1, hne.2, e4, e5, e6, e8, h.set hne.1 hne.2 ⟨h.own.a.mono (fun b hb => hoth b (fun e => hdd.1 (by rw [← e]; exact hb))), h.own.b.mono (fun b hb => hoth b (fun e => hdd.2 (by rw [← e]; exact hb))), e7⟩⟩

theorem SmNx.app_facts {w W w9 : World} {r N : Nat} {U1 U2 U3 : Value} {T : Sm} {o : Obj} {y : Option Nat} (h : SmNx w W r N U1 U2 U3 T) (hy : y ∈ [U1.ownBlock, U2.ownBlock, U3.ownBlock]) (hs : Same (fun b => b < (W.alloc o).heap.size ∧ y ≠ some b) (W.alloc o) w9) :
    w9.heap[N]? = some (.cells #[U1, U2, U3] 40 (0, 0)) ∧ w9.cell? ⟨N, 0, none⟩ = some U1 ∧ w9.cell? ⟨N, 1, none⟩ = some U2 ∧ w9.cell? ⟨N, 2, none⟩ = some U3 ∧ ∀ j, w9.frozen? ⟨N, j, none⟩ = false := by
  have hN := blk_lt h.nx
  have hb : w9.heap[N]? = some (.cells #[U1, U2, U3] 40 (0, 0)) := (hs N ⟨by simp; omega, fun e => (h.ne y hy N e).2 rfl⟩).trans ((Below.heap_alloc _ _ _ hN).trans h.nx)
  have c := cell_three hb
  exact ⟨hb, c.1, c.2.1, c.2.2.1, c.2.2.2.1⟩

theorem SmNx.appSmp {w W w9 : World} {r N : Nat} {U1 U2 U3 v9 : Value} {T : Sm} {o : Obj} {x : Smp} (h : SmNx w W r N U1 U2 U3 T) (hown : OwnR w9 w.heap.size 94 8 smpCs v9 (T.ss ++ [x])) (hs : Same (fun b => b < (W.alloc o).heap.size ∧ U1.ownBlock ≠ some b) (W.alloc o) w9) (hbel : Below w.heap.size (W.alloc o) w9) (hat : v9.ownBlock = U1.ownBlock ∨ v9.ownBlock = some (W.alloc o).heap.size) :
    SmNx w (w9.setCell ⟨N, 0, none⟩ v9) r N v9 U2 U3 { T with ss := T.ss ++ [x] } := by
  have hN := blk_lt h.nx
  have h1 := h.lt
  have h2 := h.size
  have hsz : (W.alloc o).heap.size = W.heap.size + 1 := by simp
  have hf := h.app_facts (y := U1.ownBlock) (by simp) hs
  have hoth : ∀ b, b ≠ N → (w9.setCell ⟨N, 0, none⟩ v9).heap[b]? = w9.heap[b]? := fun b hb => Below.heap_setCell _ _ _ _ hb
  have hrow : ∀ b, b < W.heap.size → U1.ownBlock ≠ some b → b ≠ N → (w9.setCell ⟨N, 0, none⟩ v9).heap[b]? = W.heap[b]? := fun b h3 h4 h5 => (hoth b h5).trans ((hs b ⟨by omega, h4⟩).trans (Below.heap_alloc _ _ _ h3))
  have hv : ∀ b, v9.ownBlock = some b → r < b ∧ b ≠ N := fun b hb => by
    rcases hat with e | e
    · exact h.ne U1.ownBlock (by simp) b (e ▸ hb)
    · rw [e] at hb; injection hb with hb; omega
  refine ⟨heap_set3 hf.1, (hrow r (by omega) (fun e => by have := (h.ne _ (by simp) r e).1; omega) (by omega)).trans h.res, ⟨hown.mono (fun b hb => hoth b (hv b hb).2), h.own.b.mono (fun b hb => hrow b (h.own.b.block b hb).2 (fun e => ((h.own.nd b).1 e).1 hb) (h.ne _ (by simp) b hb).2), h.own.c.mono (fun b hb => hrow b (h.own.c.block b hb).2 (fun e => ((h.own.nd b).1 e).2 hb) (h.ne _ (by simp) b hb).2), ((h.own.below.alloc h.own.below.size _).trans hbel).setCell (p := ⟨N, 0, none⟩) (by show w.heap.size ≤ N; omega) _, fun b => ?_⟩, h.lt, h.size, ?_⟩
  · refine ⟨fun hb => ⟨fun e => ?_, fun e => ?_⟩, fun hb => (h.own.nd b).2 hb⟩
    · rcases hat with e9 | e9
      · exact ((h.own.nd b).1 (e9 ▸ hb)).1 e
      · rw [e9] at hb; injection hb with hb; have := (h.own.b.block b e).2; omega
    · rcases hat with e9 | e9
      · exact ((h.own.nd b).1 (e9 ▸ hb)).2 e
      · rw [e9] at hb; injection hb with hb; have := (h.own.c.block b e).2; omega
  · intro y hy b hb
    simp only [List.mem_cons, List.not_mem_nil, or_false] at hy
    rcases hy with rfl | rfl | rfl
    · exact hv b hb
    · exact h.ne _ (by simp) b hb
    · exact h.ne _ (by simp) b hb

theorem SmNx.appRes {w W w9 : World} {r N : Nat} {U1 U2 U3 v9 : Value} {T : Sm} {o : Obj} {x : Res} (h : SmNx w W r N U1 U2 U3 T) (hown : OwnR w9 w.heap.size 92 6 resCs v9 (T.rs ++ [x])) (hs : Same (fun b => b < (W.alloc o).heap.size ∧ U2.ownBlock ≠ some b) (W.alloc o) w9) (hbel : Below w.heap.size (W.alloc o) w9) (hat : v9.ownBlock = U2.ownBlock ∨ v9.ownBlock = some (W.alloc o).heap.size) :
    SmNx w (w9.setCell ⟨N, 1, none⟩ v9) r N U1 v9 U3 { T with rs := T.rs ++ [x] } := by
  have hN := blk_lt h.nx
  have h1 := h.lt
  have h2 := h.size
  have hsz : (W.alloc o).heap.size = W.heap.size + 1 := by simp
  have hf := h.app_facts (y := U2.ownBlock) (by simp) hs
  have hoth : ∀ b, b ≠ N → (w9.setCell ⟨N, 1, none⟩ v9).heap[b]? = w9.heap[b]? := fun b hb => Below.heap_setCell _ _ _ _ hb
  have hrow : ∀ b, b < W.heap.size → U2.ownBlock ≠ some b → b ≠ N → (w9.setCell ⟨N, 1, none⟩ v9).heap[b]? = W.heap[b]? := fun b h3 h4 h5 => (hoth b h5).trans ((hs b ⟨by omega, h4⟩).trans (Below.heap_alloc _ _ _ h3))
  have hv : ∀ b, v9.ownBlock = some b → r < b ∧ b ≠ N := fun b hb => by
    rcases hat with e | e
    · exact h.ne U2.ownBlock (by simp) b (e ▸ hb)
    · rw [e] at hb; injection hb with hb; omega
  refine ⟨heap_set3 hf.1, (hrow r (by omega) (fun e => by have := (h.ne _ (by simp) r e).1; omega) (by omega)).trans h.res, ⟨h.own.a.mono (fun b hb => hrow b (h.own.a.block b hb).2 (fun e => ((h.own.nd b).1 hb).1 e) (h.ne _ (by simp) b hb).2), hown.mono (fun b hb => hoth b (hv b hb).2), h.own.c.mono (fun b hb => hrow b (h.own.c.block b hb).2 (fun e => (h.own.nd b).2 e hb) (h.ne _ (by simp) b hb).2), ((h.own.below.alloc h.own.below.size _).trans hbel).setCell (p := ⟨N, 1, none⟩) (by show w.heap.size ≤ N; omega) _, fun b => ?_⟩, h.lt, h.size, ?_⟩
  · refine ⟨fun hb => ⟨fun e => ?_, ((h.own.nd b).1 hb).2⟩, fun hb e => ?_⟩
    · rcases hat with e9 | e9
      · exact ((h.own.nd b).1 hb).1 (e9 ▸ e)
      · rw [e9] at e; injection e with e; have := (h.own.a.block b hb).2; omega
    · rcases hat with e9 | e9
      · exact (h.own.nd b).2 (e9 ▸ hb) e
      · rw [e9] at hb; injection hb with hb; have := (h.own.c.block b e).2; omega
  · intro y hy b hb
    simp only [List.mem_cons, List.not_mem_nil, or_false] at hy
    rcases hy with rfl | rfl | rfl
    · exact h.ne _ (by simp) b hb
    · exact hv b hb
    · exact h.ne _ (by simp) b hb

theorem SmNx.appQry {w W w9 : World} {r N : Nat} {U1 U2 U3 v9 : Value} {T : Sm} {o : Obj} {x : Qry} (h : SmNx w W r N U1 U2 U3 T) (hown : OwnR w9 w.heap.size 208 3 qryCs v9 (T.qs ++ [x])) (hs : Same (fun b => b < (W.alloc o).heap.size ∧ U3.ownBlock ≠ some b) (W.alloc o) w9) (hbel : Below w.heap.size (W.alloc o) w9) (hat : v9.ownBlock = U3.ownBlock ∨ v9.ownBlock = some (W.alloc o).heap.size) :
    SmNx w (w9.setCell ⟨N, 2, none⟩ v9) r N U1 U2 v9 { T with qs := T.qs ++ [x] } := by
  have hN := blk_lt h.nx
  have h1 := h.lt
  have h2 := h.size
  have hsz : (W.alloc o).heap.size = W.heap.size + 1 := by simp
  have hf := h.app_facts (y := U3.ownBlock) (by simp) hs
  have hoth : ∀ b, b ≠ N → (w9.setCell ⟨N, 2, none⟩ v9).heap[b]? = w9.heap[b]? := fun b hb => Below.heap_setCell _ _ _ _ hb
  have hrow : ∀ b, b < W.heap.size → U3.ownBlock ≠ some b → b ≠ N → (w9.setCell ⟨N, 2, none⟩ v9).heap[b]? = W.heap[b]? := fun b h3 h4 h5 => (hoth b h5).trans ((hs b ⟨by omega, h4⟩).trans (Below.heap_alloc _ _ _ h3))
  have hv : ∀ b, v9.ownBlock = some b → r < b ∧ b ≠ N := fun b hb => by
    rcases hat with e | e
    · exact h.ne U3.ownBlock (by simp) b (e ▸ hb)
    · rw [e] at hb; injection hb with hb; omega
  refine ⟨heap_set3 hf.1, (hrow r (by omega) (fun e => by have := (h.ne _ (by simp) r e).1; omega) (by omega)).trans h.res, ⟨h.own.a.mono (fun b hb => hrow b (h.own.a.block b hb).2 (fun e => ((h.own.nd b).1 hb).2 e) (h.ne _ (by simp) b hb).2), h.own.b.mono (fun b hb => hrow b (h.own.b.block b hb).2 (fun e => (h.own.nd b).2 hb e) (h.ne _ (by simp) b hb).2), hown.mono (fun b hb => hoth b (hv b hb).2), ((h.own.below.alloc h.own.below.size _).trans hbel).setCell (p := ⟨N, 2, none⟩) (by show w.heap.size ≤ N; omega) _, fun b => ?_⟩, h.lt, h.size, ?_⟩
  · refine ⟨fun hb => ⟨((h.own.nd b).1 hb).1, fun e => ?_⟩, fun hb e => ?_⟩
    · rcases hat with e9 | e9
      · exact ((h.own.nd b).1 hb).2 (e9 ▸ e)
      · rw [e9] at e; injection e with e; have := (h.own.a.block b hb).2; omega
    · rcases hat with e9 | e9
      · exact (h.own.nd b).2 hb (e9 ▸ e)
      · rw [e9] at e; injection e with e; have := (h.own.b.block b hb).2; omega
  · intro y hy b hb
    simp only [List.mem_cons, List.not_mem_nil, or_false] at hy
    rcases hy with rfl | rfl | rfl
    · exact h.ne _ (by simp) b hb
    · exact h.ne _ (by simp) b hb
    · exact hv b hb

section
variable (ρ : Operand → Value) (dst : Option Tmp) (x : Operand) (ty : TypeId) (pos : String) (after : Array Edge) (guard : Option (Nat × Bool))
theorem exec_bsSmp : execOp ρ { dst, op := .buildSlice 36 1 #[(0, x)], type := ty, pos, after, guard } = (do pure (.value (← bsS 36 (ρ x)))) := by simp [execOp, bsS]
theorem exec_bsRes : execOp ρ { dst, op := .buildSlice 37 1 #[(0, x)], type := ty, pos, after, guard } = (do pure (.value (← bsS 37 (ρ x)))) := by simp [execOp, bsS]
theorem exec_bsQry : execOp ρ { dst, op := .buildSlice 38 1 #[(0, x)], type := ty, pos, after, guard } = (do pure (.value (← bsS 38 (ρ x)))) := by simp [execOp, bsS]
end
theorem run_bsSmp (w : World) (a b c d e f g : Int) (x : Bool) : (bsS 36 (.agg #[.int .u32 a, .int .u32 b, .int .u32 c, .int .u32 d, .int .u8 e, .int .i64 f, .int .i64 g, .bool x])).run Tryz.prog w = .ok (.slice (some ⟨w.heap.size, 0, none⟩) 1 1) (w.alloc (.cells #[.int .u32 a, .int .u32 b, .int .u32 c, .int .u32 d, .int .u8 e, .int .i64 f, .int .i64 g, .bool x] 94)) := by kernel_rfl
theorem run_bsRes (w : World) (a b c d e : Int) (x : Bool) : (bsS 37 (.agg #[.int .u32 a, .int .u32 b, .int .u32 c, .int .i64 d, .int .i64 e, .bool x])).run Tryz.prog w = .ok (.slice (some ⟨w.heap.size, 0, none⟩) 1 1) (w.alloc (.cells #[.int .u32 a, .int .u32 b, .int .u32 c, .int .i64 d, .int .i64 e, .bool x] 92)) := by kernel_rfl
theorem run_bsQry (w : World) (a b c : Int) : (bsS 38 (.agg #[.int .u32 a, .int .u32 b, .int .u8 c])).run Tryz.prog w = .ok (.slice (some ⟨w.heap.size, 0, none⟩) 1 1) (w.alloc (.cells #[.int .u32 a, .int .u32 b, .int .u8 c] 208)) := by kernel_rfl

set_option maxRecDepth 100000 in
theorem inCal_calls (w : World) (m : Int) : Calls Tryz.prog 241 #[.int .i64 m] w fun e w' => e = .returned (.bool (inCal m)) ∧ w' = w := by
  unfold inCal
  cases t0 : decide (0 ≤ m) with
  | false =>
    go_enter Tryz.func241, Tryz.ntmps241
    go_wp2
    go_ret
    exact ⟨rfl, rfl⟩
  | true =>
    go_enter Tryz.func241, Tryz.ntmps241
    go_wp2
    go_ret
    exact ⟨rfl, rfl⟩

end Go.Proofs.Qxb6500666aGreatDoor
