/- The model changed in its own block: what stays. -/
import Derived.Test.Qxb6500666aGreatDoorMdD
namespace Go.Proofs.Qxb6500666aGreatDoor
open Go.RowKit
/-- All but one block as it was. -/
structure But (M : Nat) (w w' : World) : Prop where
  bel : Below M w w'
  fr : ∀ b, b < w.heap.size → b ≠ M → w'.heap[b]? = w.heap[b]?
theorem But.of {M : Nat} {w w' : World} (h : Below w.heap.size w w') (hM : M ≤ w.heap.size) : But M w w' := ⟨h.mono hM, fun b hb _ => h.block b hb⟩
theorem But.size {M : Nat} {w w' : World} (h : But M w w') : w.heap.size ≤ w'.heap.size := h.bel.size
theorem But.trans {M : Nat} {w w1 w2 : World} (h : But M w w1) (k : But M w1 w2) : But M w w2 := ⟨h.bel.trans k.bel, fun b hb hn => (k.fr b (Nat.lt_of_lt_of_le hb h.size) hn).trans (h.fr b hb hn)⟩
theorem But.set {M j : Nat} (w : World) (v : Value) : But M w (w.setCell ⟨M, j, none⟩ v) := ⟨(Below.refl _ _).setCell (p := ⟨M, j, none⟩) (Nat.le_refl _) _, fun _ _ hn => Below.heap_setCell _ _ _ _ hn⟩
theorem MIn.but {M : Nat} {W W' : World} {ok : Nat → Prop} {v : MV} {m : Mod} (h : MIn W ok v m) (hk : ∀ b, ok b → b ≠ M) (hb : But M W W') : MIn W' ok v m := h.lt.mono (fun b q => hb.fr b q.2 (hk b q.1)) (fun _ q => q.1)
theorem heap_setM {W : World} {M j : Nat} {cs : Array Value} {v : Value} {T : TypeId} (h : W.heap[M]? = some (.cells cs T (0, 0))) {cs' : Array Value} (e : cs.setIfInBounds j v = cs') : (W.setCell ⟨M, j, none⟩ v).heap[M]? = some (.cells cs' T (0, 0)) := by rw [← e]; exact heap_set3 h
section
variable {W : World} {M : Nat} {ok : Nat → Prop} {v : MV} {m : Mod}
theorem MAt.putPr (h : MAt W M ok v m) (hk : ∀ b, ok b → b ≠ M) {y0 y1 y2 y3 : Value} {T : Pr} (hp : PrAt W ok y0 y1 y2 y3 T) :
    MAt ((((W.setCell ⟨M, 0, none⟩ y0).setCell ⟨M, 1, none⟩ y1).setCell ⟨M, 2, none⟩ y2).setCell ⟨M, 3, none⟩ y3) M ok ⟨⟨y0, y1, y2, y3, v.x.k, v.x.s1, v.x.s2, v.x.s3⟩, v.u, v.a, v.f⟩ { m with low := { m.low with pr := T } } ∧ But M W ((((W.setCell ⟨M, 0, none⟩ y0).setCell ⟨M, 1, none⟩ y1).setCell ⟨M, 2, none⟩ y2).setCell ⟨M, 3, none⟩ y3) := by
  have hb : But M W ((((W.setCell ⟨M, 0, none⟩ y0).setCell ⟨M, 1, none⟩ y1).setCell ⟨M, 2, none⟩ y2).setCell ⟨M, 3, none⟩ y3) := (((But.set _ _).trans (But.set _ _)).trans (But.set _ _)).trans (But.set _ _)
  refine ⟨⟨heap_setM (heap_setM (heap_setM (heap_setM h.top rfl) rfl) rfl) rfl, ?_⟩, hb⟩
  refine MIn.but (M := M) (W := W) ?_ hk hb
  exact ⟨⟨hp, h.inn.low.kit, h.inn.low.sm⟩, h.inn.us, h.inn.au, h.inn.fs⟩
theorem MAt.putKt (h : MAt W M ok v m) (hk : ∀ b, ok b → b ≠ M) {y : Value} {T : List Kit} (hp : RArr W ok 2 kitCs y T) :
    MAt (W.setCell ⟨M, 4, none⟩ y) M ok ⟨⟨v.x.p0, v.x.p1, v.x.p2, v.x.p3, y, v.x.s1, v.x.s2, v.x.s3⟩, v.u, v.a, v.f⟩ { m with low := { m.low with kit := T } } ∧ But M W (W.setCell ⟨M, 4, none⟩ y) := by
  have hb : But M W (W.setCell ⟨M, 4, none⟩ y) := But.set _ _
  refine ⟨⟨heap_setM h.top rfl, ?_⟩, hb⟩
  refine MIn.but (M := M) (W := W) ?_ hk hb
  exact ⟨⟨h.inn.low.pr, hp, h.inn.low.sm⟩, h.inn.us, h.inn.au, h.inn.fs⟩
theorem MAt.putSm (h : MAt W M ok v m) (hk : ∀ b, ok b → b ≠ M) {y1 y2 y3 : Value} {T : Sm} (hp : SmAt W ok y1 y2 y3 T) :
    MAt (((W.setCell ⟨M, 5, none⟩ y1).setCell ⟨M, 6, none⟩ y2).setCell ⟨M, 7, none⟩ y3) M ok ⟨⟨v.x.p0, v.x.p1, v.x.p2, v.x.p3, v.x.k, y1, y2, y3⟩, v.u, v.a, v.f⟩ { m with low := { m.low with sm := T } } ∧ But M W (((W.setCell ⟨M, 5, none⟩ y1).setCell ⟨M, 6, none⟩ y2).setCell ⟨M, 7, none⟩ y3) := by
  have hb : But M W (((W.setCell ⟨M, 5, none⟩ y1).setCell ⟨M, 6, none⟩ y2).setCell ⟨M, 7, none⟩ y3) := ((But.set _ _).trans (But.set _ _)).trans (But.set _ _)
  refine ⟨⟨heap_setM (heap_setM (heap_setM h.top rfl) rfl) rfl, ?_⟩, hb⟩
  refine MIn.but (M := M) (W := W) ?_ hk hb
  exact ⟨⟨h.inn.low.pr, h.inn.low.kit, hp⟩, h.inn.us, h.inn.au, h.inn.fs⟩
theorem MAt.putUs (h : MAt W M ok v m) (hk : ∀ b, ok b → b ≠ M) {y : SV} {l : List Usr} (hp : RArr W ok 3 usrCs (sv y) l) :
    MAt (W.setCell ⟨M, 8, none⟩ (sv y)) M ok { v with u := y } { m with us := l } ∧ But M W (W.setCell ⟨M, 8, none⟩ (sv y)) := by
  have hb : But M W (W.setCell ⟨M, 8, none⟩ (sv y)) := But.set _ _
  refine ⟨⟨heap_setM h.top rfl, ?_⟩, hb⟩
  refine MIn.but (M := M) (W := W) ?_ hk hb
  exact ⟨h.inn.low, hp, h.inn.au, h.inn.fs⟩
theorem MAt.putAu (h : MAt W M ok v m) (hk : ∀ b, ok b → b ≠ M) {y : SV} {zs : List ZE} (hp : RArr W ok 20 zeCs (sv y) zs) (hz : ZipE W ok zs) :
    MAt (W.setCell ⟨M, 9, none⟩ (sv y)) M ok { v with a := y } { m with au := zs.map (·.1) } ∧ But M W (W.setCell ⟨M, 9, none⟩ (sv y)) := by
  have hb : But M W (W.setCell ⟨M, 9, none⟩ (sv y)) := But.set _ _
  refine ⟨⟨heap_setM h.top rfl, ?_⟩, hb⟩
  refine MIn.but (M := M) (W := W) ?_ hk hb
  exact ⟨h.inn.low, h.inn.us, ⟨zs, hp, hz, rfl⟩, h.inn.fs⟩
theorem MAt.putFs (h : MAt W M ok v m) (hk : ∀ b, ok b → b ≠ M) {y : SV} {zf : List (File × SV)} (hp : RArr W ok 5 zfCs (sv y) zf) (hz : ∀ z ∈ zf, ChangesAt W ok (sv z.2) z.1.changes) :
    MAt (W.setCell ⟨M, 10, none⟩ (sv y)) M ok { v with f := y } { m with fs := zf.map (·.1) } ∧ But M W (W.setCell ⟨M, 10, none⟩ (sv y)) := by
  have hb : But M W (W.setCell ⟨M, 10, none⟩ (sv y)) := But.set _ _
  refine ⟨⟨heap_setM h.top rfl, ?_⟩, hb⟩
  refine MIn.but (M := M) (W := W) ?_ hk hb
  exact ⟨h.inn.low, h.inn.us, h.inn.au, ⟨zf, hp, rfl, hz⟩⟩
theorem MAt.fz (h : MAt W M ok v m) (j : Nat) : W.frozen? ⟨M, j, none⟩ = false := by simp [World.frozen?, h.top]
end
/-- What a command does to the model: file issued, code. -/
structure CR3 where
  m : Mod
  iss : Int
  c : Int
def ChP (w w' : World) (M : Nat) (ok : Nat → Prop) (e : Ending) (R : CR3) : Prop := e = .returned (.tuple #[.int .u32 R.iss, .int .u8 R.c]) ∧ (∃ v', MAt w' M ok v' R.m) ∧ But M w w'
/-- What change finds. -/
structure ChX (w : World) (M : Nat) (ok okv : Nat → Prop) (v : MV) (m : Mod) (r : Req) (lv : Value) : Prop where
  at' : MAt w M ok v m
  nok : ∀ b, ok b → b ≠ M
  new : ∀ b, w.heap.size ≤ b → ok b
  vis : RArr w okv 1 u32Cs lv r.list
  req : r.Ok
  small : m.low.Small
  times : m.low.Times
  su : SU m.low.sm
  fl : m.fs.length ≤ 100000
  al : m.au.length ≤ 100000
  ul : m.us.length ≤ 100000
  cl : ∀ f ∈ m.fs, f.changes.length ≤ 65536
  rl : (mrl m.fs m.fs.length).length ≤ 1000000
end Go.Proofs.Qxb6500666aGreatDoor
