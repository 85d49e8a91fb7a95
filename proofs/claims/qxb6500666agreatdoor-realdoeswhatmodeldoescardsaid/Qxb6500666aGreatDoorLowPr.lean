/- The protocol's layer: the parts of its commands. (Made by tools/mk_pr.py.) -/
import Derived.Test.Qxb6500666aGreatDoorLowSmE
import Derived.Test.Qxb6500666aGreatDoorLowWith
namespace Go.Proofs.Qxb6500666aGreatDoor
open Go.RowKit

section
variable (ρ : Operand → Value) (dst : Option Tmp) (x y : Operand) (ty : TypeId) (pos : String) (after : Array Edge) (guard : Option (Nat × Bool))
theorem exec_ldPrS : execOp ρ { dst, op := .load 32 x, type := ty, pos, after, guard } = (do pure (.value (← ldS 32 (ρ x)))) := rfl
theorem exec_stPrS : execOp ρ { dst, op := .store 32 x y, type := ty, pos, after, guard } = (do stS 32 (ρ x) (ρ y); pure .skip) := rfl
end
theorem Tryz.size32 (w : World) : (sizeOf 32).run Tryz.prog w = .ok 4 w := by kernel_rfl
theorem run_ldPrS (w : World) (b off : Nat) : (ldS 32 (.pointer (some ⟨b, off, none⟩))).run Tryz.prog w = match rng w b off 4 with | some cs => .ok (.agg cs) w | none => (Instr.loadAt 32 (.pointer (some ⟨b, off, none⟩))).run Tryz.prog w :=
  run_ldS Tryz.underlying32 Tryz.size32 w b off
theorem run_stPrS (w : World) (b : Nat) (cs : Array Value) : (stS 32 (.pointer (some ⟨b, 0, none⟩)) (.agg cs)).run Tryz.prog w = if whole w b 4 = true ∧ ones cs 4 = true then .ok () (w.setRow b cs) else (Instr.storeAt 32 (.pointer (some ⟨b, 0, none⟩)) (.agg cs)).run Tryz.prog w := run_stS Tryz.size32 w b cs

theorem VersAt.mono {w w' : World} {ok ok' : Nat → Prop} {v : Value} {vs : List Vsn} (h : VersAt w ok v vs) (hs : Same ok w w') (hk : ∀ b, ok b → ok' b) : VersAt w' ok' v vs := by
  obtain ⟨zs, h1, h2, h3⟩ := h
  exact ⟨zs, h1.mono hs hk, h2, fun z hz => (h3 z hz : RArr w ok 1 u32Cs (sv z.s) z.vis).mono hs hk⟩
theorem VersAt.lt {w : World} {ok : Nat → Prop} {v : Value} {vs : List Vsn} (h : VersAt w ok v vs) : VersAt w (fun b => ok b ∧ b < w.heap.size) v vs := by
  obtain ⟨zs, h1, h2, h3⟩ := h
  exact ⟨zs, h1.lt, h2, fun z hz => RArr.lt (h3 z hz)⟩
theorem VersAt.below {w w' : World} {ok : Nat → Prop} {v : Value} {vs : List Vsn} (h : VersAt w ok v vs) (hb : Below w.heap.size w w') : VersAt w' ok v vs :=
  h.lt.mono (fun b hb' => hb.block b hb'.2) (fun _ hb' => hb'.1)

/-- The protocol's layer in memory: four slices. -/
structure PrAt (w : World) (ok : Nat → Prop) (u0 u1 u2 u3 : Value) (T : Pr) : Prop where
  a : RArr w ok 4 anaCs u0 T.ana
  v : VersAt w ok u1 T.ver
  s : RArr w ok 1 u32Cs u2 T.site
  u : RArr w ok 2 sbjCs u3 T.sub
structure Pr.Small (T : Pr) : Prop where
  a : T.ana.length ≤ 1000000
  v : T.ver.length ≤ 1000000
  s : T.site.length ≤ 1000000
  u : T.sub.length ≤ 1000000
theorem PrAt.mono {w w' : World} {ok ok' : Nat → Prop} {u0 u1 u2 u3 : Value} {T : Pr} (h : PrAt w ok u0 u1 u2 u3 T) (hs : Same ok w w') (hk : ∀ b, ok b → ok' b) : PrAt w' ok' u0 u1 u2 u3 T :=
  ⟨h.a.mono hs hk, h.v.mono hs hk, h.s.mono hs hk, h.u.mono hs hk⟩
theorem PrAt.lt {w : World} {ok : Nat → Prop} {u0 u1 u2 u3 : Value} {T : Pr} (h : PrAt w ok u0 u1 u2 u3 T) : PrAt w (fun b => ok b ∧ b < w.heap.size) u0 u1 u2 u3 T :=
  ⟨h.a.lt, h.v.lt, h.s.lt, h.u.lt⟩
theorem PrAt.below {w w' : World} {ok : Nat → Prop} {u0 u1 u2 u3 : Value} {T : Pr} (h : PrAt w ok u0 u1 u2 u3 T) (hb : Below w.heap.size w w') : PrAt w' ok u0 u1 u2 u3 T :=
  h.lt.mono (fun b hb' => hb.block b hb'.2) (fun _ hb' => hb'.1)
theorem PrAt.forms {w : World} {ok : Nat → Prop} {u0 u1 u2 u3 : Value} {T : Pr} (h : PrAt w ok u0 u1 u2 u3 T) : (∃ a n c, u0 = .slice a n c) ∧ (∃ a n c, u1 = .slice a n c) ∧ (∃ a n c, u2 = .slice a n c) ∧ (∃ a n c, u3 = .slice a n c) := by
  obtain ⟨zs, h1, -, -⟩ := h.v
  obtain ⟨a0, n0, c0, e0, -⟩ := Src.of h.a
  obtain ⟨a1, n1, c1, e1, -⟩ := Src.of h1
  obtain ⟨a2, n2, c2, e2, -⟩ := Src.of h.s
  obtain ⟨a3, n3, c3, e3, -⟩ := Src.of h.u
  exact ⟨⟨_, _, _, e0⟩, ⟨_, _, _, e1⟩, ⟨_, _, _, e2⟩, ⟨_, _, _, e3⟩⟩

def PrPost (w w' : World) (ok : Nat → Prop) (e : Ending) (R : Pr × Int) : Prop := ∃ u0 u1 u2 u3, e = .returned (.tuple #[.agg #[u0, u1, u2, u3], .int .u8 R.2]) ∧ PrAt w' ok u0 u1 u2 u3 R.1 ∧ Below w.heap.size w w'

theorem cell_four {w : World} {b : Nat} {x0 x1 x2 x3 : Value} {t : TypeId} (h : w.heap[b]? = some (.cells #[x0, x1, x2, x3] t (0, 0))) : w.cell? ⟨b, 0, none⟩ = some x0 ∧ w.cell? ⟨b, 1, none⟩ = some x1 ∧ w.cell? ⟨b, 2, none⟩ = some x2 ∧ w.cell? ⟨b, 3, none⟩ = some x3 ∧ (∀ j, w.frozen? ⟨b, j, none⟩ = false) ∧ b < w.heap.size :=
  ⟨by rw [World.cell?, h]; rfl, by rw [World.cell?, h]; rfl, by rw [World.cell?, h]; rfl, by rw [World.cell?, h]; rfl, fun j => by rw [World.frozen?, h]; simp, blk_lt h⟩

structure PrBox (w W : World) (r : Nat) (u0 u1 u2 u3 : Value) : Prop where
  box : W.heap[w.heap.size]? = some (.cells #[u0, u1, u2, u3] 32 (0, 0))
  res : W.heap[r]? = some (.cells #[.slice none 0 0, .slice none 0 0, .slice none 0 0, .slice none 0 0] 32 (0, 0))
  below : Below w.heap.size w W
  lt : w.heap.size < r
  size : r < W.heap.size
theorem PrBox.start (w : World) (u0 u1 u2 u3 : Value) : PrBox w ((w.alloc (.cells #[u0, u1, u2, u3] 32)).alloc (.cells #[.slice none 0 0, .slice none 0 0, .slice none 0 0, .slice none 0 0] 32)) (w.heap.size + 1) u0 u1 u2 u3 :=
  ⟨(Below.heap_alloc _ _ _ (by simp)).trans (heap_alloc_at _ _), box2 w _ _ _ _, ((Below.refl _ _).alloc (Nat.le_refl _) _).alloc (by simp) _, by omega, by simp⟩
theorem PrBox.next {w W W' : World} {r : Nat} {u0 u1 u2 u3 : Value} (h : PrBox w W r u0 u1 u2 u3) (hb : Below W.heap.size W W') : PrBox w W' r u0 u1 u2 u3 :=
  ⟨(hb.block _ (by have := h.size; have := h.lt; omega)).trans h.box, (hb.block _ h.size).trans h.res, h.below.trans (hb.mono (by have := h.size; have := h.lt; omega)), h.lt, by have := h.size; have := hb.size; omega⟩
theorem PrBox.facts {w W : World} {r : Nat} {u0 u1 u2 u3 : Value} (h : PrBox w W r u0 u1 u2 u3) : rng W w.heap.size 0 4 = some #[u0, u1, u2, u3] ∧ whole W r 4 = true ∧ w.heap.size < W.heap.size ∧ r < W.heap.size ∧ W.cell? ⟨w.heap.size, 0, none⟩ = some u0 ∧ W.cell? ⟨w.heap.size, 1, none⟩ = some u1 ∧ W.cell? ⟨w.heap.size, 2, none⟩ = some u2 ∧ W.cell? ⟨w.heap.size, 3, none⟩ = some u3 ∧ (∀ j, W.frozen? ⟨w.heap.size, j, none⟩ = false) := by
  have h1 := h.size
  have h2 := h.lt
  have c := cell_four h.box
  exact ⟨rng_whole h.box, whole_blk h.res, by omega, by omega, c.1, c.2.1, c.2.2.1, c.2.2.2.1, c.2.2.2.2.1⟩
theorem PrBox.back {w W : World} {ok : Nat → Prop} {r : Nat} {u0 u1 u2 u3 : Value} {T : Pr} {R : Pr × Int} {c : Int} (h : PrBox w W r u0 u1 u2 u3) (HE : Hid (R = (T, c))) (hh : PrAt w ok u0 u1 u2 u3 T) : PrPost w (W.setRow r #[u0, u1, u2, u3]) ok (.returned (.tuple #[.agg #[u0, u1, u2, u3], .int .u8 c])) R := by
  rw [HE.out]
  have hb : Below w.heap.size w (W.setRow r #[u0, u1, u2, u3]) := h.below.trans (below_setRow' _ _ (by have := h.lt; omega))
  exact ⟨_, _, _, _, rfl, hh.below hb, hb⟩
/-- The box's field is set, then the box is handed out. -/
theorem PrBox.set {w W : World} {r : Nat} {u0 u1 u2 u3 : Value} (h : PrBox w W r u0 u1 u2 u3) {k : Nat} {v v0 v1 v2 v3 : Value} (hv : #[u0, u1, u2, u3].setIfInBounds k v = #[v0, v1, v2, v3]) : PrBox w (W.setCell ⟨w.heap.size, k, none⟩ v) r v0 v1 v2 v3 :=
  ⟨by rw [← hv]; exact heap_set3 h.box, (Below.heap_setCell _ _ _ _ (by show r ≠ w.heap.size; have := h.lt; omega)).trans h.res, h.below.setCell (p := ⟨w.heap.size, k, none⟩) (Nat.le_refl _) _, h.lt, by have := h.size; simpa using this⟩
/-- Nothing of the state lies in the command's own boxes. -/
theorem PrBox.done {w W : World} {ok : Nat → Prop} {r : Nat} {u0 u1 u2 u3 : Value} {T : Pr} {R : Pr × Int} (h : PrBox w W r u0 u1 u2 u3) (HE : Hid (R = (T, 0))) (hh : PrAt W (fun b => ok b ∧ b ≠ r) u0 u1 u2 u3 T) : PrPost w (W.setRow r #[u0, u1, u2, u3]) ok (.returned (.tuple #[.agg #[u0, u1, u2, u3], .int .u8 0])) R := by
  rw [HE.out]
  have hb : Below w.heap.size w (W.setRow r #[u0, u1, u2, u3]) := h.below.trans (below_setRow' _ _ (by have := h.lt; omega))
  exact ⟨_, _, _, _, rfl, hh.mono (fun _ hb' => setRow_other _ _ _ _ hb'.2) (fun _ hb' => hb'.1), hb⟩

def addSiteP (T : Pr) (id : Int) : Pr × Int :=
  if (id == 0) then (T, 7) else if T.site.any (fun x => x == id) then (T, 10) else ({ T with site := T.site ++ [id] }, 0)
def enrolP (T : Pr) (id site : Int) : Pr × Int :=
  if (id == 0) then (T, 7) else if T.sub.any (fun x => x.id == id) then (T, 10) else if ! T.site.any (fun x => x == site) then (T, 18) else ({ T with sub := T.sub ++ [⟨id, site⟩] }, 0)
def badLim (x : Int) : Bool := decide (x < 0) || decide (5256000 < x)
def defineP (T : Pr) (id l0 l1 l2 : Int) : Pr × Int :=
  if (id == 0) then (T, 7) else if badLim l0 then (T, 12) else if badLim l1 then (T, 12) else if badLim l2 then (T, 12) else if T.ana.any (fun x => x.id == id) then (T, 10) else ({ T with ana := T.ana ++ [⟨id, l0, l1, l2⟩] }, 0)

theorem OwnR.form3 {α : Type} {w : World} {base : Nat} {e : TypeId} {size : Nat} {f : α → Array Value} {v : Value} {xs : List α} (h : OwnR w base e size f v xs) : ∃ a n c, v = .slice a n c := by
  obtain ⟨a, c, rfl⟩ := h.form
  exact ⟨_, _, _, rfl⟩
theorem findV_any {α : Type} (p : α → Bool) (miss hit : Value) : ∀ l : List α, findV p (fun _ => hit) miss l = if l.any p then hit else miss
  | [] => rfl
  | x :: r => by
    simp only [findV, List.any_cons]
    by_cases h : p x = true
    · simp [h]
    · simpa [h] using findV_any p miss hit r
/-- The second of the pair says whether one was found. -/
theorem findV_pair {α : Type} (p : α → Bool) (f : α → Value) (z : Value) : ∀ l : List α, ∃ y, findV p (fun x => .tuple #[f x, .bool true]) (.tuple #[z, .bool false]) l = .tuple #[y, .bool (l.any p)]
  | [] => ⟨z, rfl⟩
  | x :: r => by
    obtain ⟨y, hy⟩ := findV_pair p f z r
    simp only [findV, List.any_cons]
    by_cases h : p x = true
    · exact ⟨f x, by simp [h]⟩
    · exact ⟨y, by simpa [h] using hy⟩

end Go.Proofs.Qxb6500666aGreatDoor
