/- The layers beneath: their commands, plain; one cell of an owned slice set anew. -/
import Derived.Test.Qxb6500666aGreatDoorLowCopy2
namespace Go.Proofs.Qxb6500666aGreatDoor
open Go.RowKit

def inCal (m : Int) : Bool := decide (0 ≤ m) && decide (m ≤ 157785119)
def sIdx (ss : List Smp) (id : Int) : Int := findI (fun x : Smp => (x.id == id)) 0 ss
def rIdx (rs : List Res) (sid aid : Int) : Int := findI (fun x : Res => (x.sample == sid) && (x.analyte == aid)) 0 rs
def qIdx (qs : List Qry) (id : Int) : Int := findI (fun x : Qry => (x.id == id)) 0 qs

theorem findI_cases' {α : Type} (p : α → Bool) : ∀ (l : List α) (k : Nat), findI p k l = -1 ∨ ∃ q, ∃ h : q < l.length, findI p k l = ((k + q : Nat) : Int) ∧ p l[q] = true
  | [], k => Or.inl rfl
  | x :: r, k => by
    by_cases hx : p x = true
    · exact Or.inr ⟨0, by simp, by simp [findI, hx], by simpa using hx⟩
    · rcases findI_cases' p r (k + 1) with h | ⟨q, h, h1, h2⟩
      · exact Or.inl (by simpa [findI, hx] using h)
      · exact Or.inr ⟨q + 1, by simp; omega, by simp only [findI, hx]; rw [if_neg (by simp), h1]; congr 1; omega, by simpa using h2⟩
theorem findI_cases {α : Type} (p : α → Bool) (l : List α) : findI p 0 l = -1 ∨ ∃ q, ∃ h : q < l.length, findI p 0 l = (q : Int) ∧ p l[q] = true := by
  have := findI_cases' p l 0
  simpa using this

/-- The list with one place turned. -/
def upAt {α : Type} (l : List α) (q : Int) (f : α → α) : List α := match l[q.toNat]? with | some x => l.set q.toNat (f x) | none => l
theorem upAt_eq {α : Type} {l : List α} {q : Nat} (h : q < l.length) (f : α → α) : upAt l q f = l.set q (f l[q]) := by
  simp [upAt, h]

def accession (T : Sm) (x : Smp) : Sm × Int :=
  if (x.id == 0) then (T, 7) else if (decide (x.cls < 1) || decide (3 < x.cls)) then (T, 13) else if (! inCal x.collected || ! inCal x.received) then (T, 5) else if decide (0 ≤ sIdx T.ss x.id) then (T, 10)
  else ({ T with ss := T.ss ++ [{ x with exc := false }] }, 0)
def excursion (T : Sm) (id : Int) : Sm × Int :=
  if decide (sIdx T.ss id < 0) then (T, 20) else if ((T.ss[(sIdx T.ss id).toNat]?).map (·.exc)).getD false then (T, 11) else ({ T with ss := upAt T.ss (sIdx T.ss id) fun x => { x with exc := true } }, 0)
def collection (T : Sm) (id at' : Int) : Sm × Int :=
  if ! inCal at' then (T, 5) else if decide (sIdx T.ss id < 0) then (T, 20) else ({ T with ss := upAt T.ss (sIdx T.ss id) fun x => { x with collected := at' } }, 0)
def enterR (T : Sm) (s a v t : Int) : Sm × Int :=
  if (a == 0) then (T, 7) else if ! inCal t then (T, 5) else if decide (sIdx T.ss s < 0) then (T, 20) else if decide (0 ≤ rIdx T.rs s a) then (T, 10) else ({ T with rs := T.rs ++ [⟨s, a, 1, v, t, false⟩] }, 0)
def correctR (T : Sm) (s a v : Int) : Sm × Int :=
  if decide (rIdx T.rs s a < 0) then (T, 21) else if ((T.rs[(rIdx T.rs s a).toNat]?).map (·.wd)).getD false then (T, 11) else ({ T with rs := upAt T.rs (rIdx T.rs s a) fun x => { x with value := v, version := (x.version + 1) % 4294967296 } }, 0)
def withdrawR (T : Sm) (s a : Int) : Sm × Int :=
  if decide (rIdx T.rs s a < 0) then (T, 21) else if ((T.rs[(rIdx T.rs s a).toNat]?).map (·.wd)).getD false then (T, 11) else ({ T with rs := upAt T.rs (rIdx T.rs s a) fun x => { x with wd := true } }, 0)
def raiseQ (T : Sm) (id s : Int) : Sm × Int :=
  if (id == 0) then (T, 7) else if decide (0 ≤ qIdx T.qs id) then (T, 10) else if decide (sIdx T.ss s < 0) then (T, 20) else ({ T with qs := T.qs ++ [⟨id, s, 1⟩] }, 0)
def moveQ (T : Sm) (id a b : Int) : Sm × Int :=
  if decide (qIdx T.qs id < 0) then (T, 22) else if (((T.qs[(qIdx T.qs id).toNat]?).map (fun x => x.stage != a)).getD false) then (T, 11) else ({ T with qs := upAt T.qs (qIdx T.qs id) fun x => { x with stage := b } }, 0)

/-- The samples' layer in memory: three slices. -/
structure SmAt (w : World) (ok : Nat → Prop) (u1 u2 u3 : Value) (T : Sm) : Prop where
  a : RArr w ok 8 smpCs u1 T.ss
  b : RArr w ok 6 resCs u2 T.rs
  c : RArr w ok 3 qryCs u3 T.qs
structure Sm.Small (T : Sm) : Prop where
  a : T.ss.length ≤ 1000000
  b : T.rs.length ≤ 1000000
  c : T.qs.length ≤ 1000000
theorem SmAt.below {w w' : World} {ok : Nat → Prop} {u1 u2 u3 : Value} {T : Sm} (h : SmAt w ok u1 u2 u3 T) (hb : Below w.heap.size w w') : SmAt w' ok u1 u2 u3 T :=
  ⟨h.a.below hb, h.b.below hb, h.c.below hb⟩

/-- What a command of the samples' layer leaves. -/
def SmPost (w w' : World) (ok : Nat → Prop) (e : Ending) (R : Sm × Int) : Prop := ∃ u1 u2 u3, e = .returned (.tuple #[.agg #[u1, u2, u3], .int .u8 R.2]) ∧ SmAt w' ok u1 u2 u3 R.1 ∧ Below w.heap.size w w'
theorem sm_back {w w1 : World} {ok : Nat → Prop} {u1 u2 u3 : Value} {T : Sm} {R : Sm × Int} {c : Int} (HE : Hid (R = (T, c))) (h : SmAt w ok u1 u2 u3 T) (hb : Below w.heap.size w w1) : SmPost w w1 ok (.returned (.tuple #[.agg #[u1, u2, u3], .int .u8 c])) R := by
  rw [HE.out]
  exact ⟨_, _, _, rfl, h.below hb, hb⟩

theorem flat_set1 {α : Type} {f : α → Array Value} {size : Nat} (hf : ∀ x, (f x).size = size) : ∀ (xs : List α) (i : Nat) (h : i < xs.length) (j : Nat) (_ : j < size) (y : α) (v : Value), (f y).toList = (f xs[i]).toList.set j v → flat f (xs.set i y) = (flat f xs).set (i * size + j) v
  | x :: r, 0, _, j, hj, y, v, hy => by
    simp only [List.set_cons_zero, flat, Nat.zero_mul, Nat.zero_add]
    rw [List.set_append_left _ _ (by simp [hf]; exact hj), hy]
    rfl
  | x :: r, i + 1, h, j, hj, y, v, hy => by
    have hx : (f x).toList.length = size := by simp [hf]
    have e1 : (i + 1) * size + j = size + (i * size + j) := by rw [Nat.add_mul, Nat.one_mul]; omega
    simp only [List.set_cons_succ, flat]
    rw [flat_set1 hf r i (by simpa using h) j hj y v hy, e1, List.set_append_right _ _ (by omega), hx]
    congr 2
    omega

/-- One cell of an owned slice of structs is set anew. -/
theorem OwnR.cell1 {α : Type} {w : World} {base : Nat} {e : TypeId} {size : Nat} {f : α → Array Value} {a : Option Addr} {n cap : Nat} {xs : List α} (h : OwnR w base e size f (.slice a n cap) xs) (hf : ∀ x, (f x).size = size) (i : Nat) (hi : i < xs.length) (j : Nat) (hj : j < size) (y : α) (v : Value) (hy : (f y).toList = (f xs[i]).toList.set j v) :
    ∃ g c, a = some ⟨g, 0, none⟩ ∧ n = xs.length ∧ base ≤ g ∧ g < w.heap.size ∧ w.cell? ⟨g, i * size + j, none⟩ = some c ∧ w.frozen? ⟨g, i * size + j, none⟩ = false ∧ (f xs[i])[j]? = some c ∧ OwnR (w.setCell ⟨g, i * size + j, none⟩ v) base e size f (.slice a n cap) (xs.set i y) := by
  obtain ⟨k1, k2⟩ := h
  rcases k2 with ⟨k2, k3⟩ | ⟨g, cap', cur, k2, hg, hh, r1, r2, r3, r4⟩
  · omega
  · injection k2 with q1 q2 q3
    subst q1 q3
    have hle : (i + 1) * size ≤ xs.length * size := Nat.mul_le_mul_right _ (by omega)
    have hle2 : xs.length * size ≤ cap * size := Nat.mul_le_mul_right _ r1
    rw [Nat.add_mul, Nat.one_mul] at hle
    have hj2 : i * size + j < cur.size := by rw [r3]; omega
    refine ⟨g, cur[i * size + j], rfl, q2, hg, (Array.getElem?_eq_some_iff.1 hh).1, by rw [World.cell?, hh]; simp [hj2], by rw [World.frozen?, hh]; simp, ?_, ⟨?_, Or.inr ⟨g, cap, _, by rw [q2, List.length_set], hg, heap_set3 hh, by rw [List.length_set]; exact r1, r2, by simpa using r3, ?_⟩⟩⟩
    · rw [← flat_at hf xs i j hi hj, ← r4, List.getElem?_take_of_lt (by omega)]
      simp [hj2]
    · rw [flat_length hf, List.length_set]
    · rw [List.length_set, Array.toList_setIfInBounds, List.take_set, r4, flat_set1 hf xs i hi j hj y v hy]

theorem OwnR.to_ok {α : Type} {w : World} {base : Nat} {ok : Nat → Prop} {e : TypeId} {size : Nat} {f : α → Array Value} {v : Value} {xs : List α} (h : OwnR w base e size f v xs) (hf : ∀ x, (f x).size = size) (hp : 0 < size) (hl : xs.length ≤ 2000000) (hok : ∀ b, base ≤ b → ok b) : RArr w ok size f v xs :=
  (h.rows hf hp (by omega)).mono (fun _ _ => rfl) hok

end Go.Proofs.Qxb6500666aGreatDoor
