/- CorrectionGivesNewRowVersion: the law's maps in memory beside the bench. -/
import Derived.Test.Qxb6500666aGreatDoorCorQ
import Derived.Test.Qxb6500666aGreatDoorMapK
import Derived.Test.Qxb6500666aGreatDoorChnB
import Derived.Test.Qxb6500666aGreatDoorAudQ
namespace Go.Proofs.Qxb6500666aGreatDoor
open Go.RowKit

def vU (f : Int → Int → Option Int) : Int → Int → Option Value := fun x y => (f x y).map (Value.int .u32)
def vI (f : Int → Int → Option Int) : Int → Int → Option Value := fun x y => (f x y).map (Value.int .i64)
theorem vU_upd (f : Int → Int → Option Int) (s a v : Int) : upd2 (vU f) s a (some (.int .u32 v)) = vU (upd2 f s a (some v)) := upd2_map (Value.int .u32) f s a v
theorem vI_upd (f : Int → Int → Option Int) (s a v : Int) : upd2 (vI f) s a (some (.int .i64 v)) = vI (upd2 f s a (some v)) := upd2_map (Value.int .i64) f s a v
def KM (M1 M2 : Nat) (g : Nat) : Prop := g = M1 ∨ g = M2
/-- The bench and the two maps, as the bench's state and the maps' contents are. -/
structure CM (w W : World) (M1 M2 q : Nat) (t : ST) (vf lf : Int → Int → Option Int) : Prop where
  bx : BX w W (KM M1 M2) t
  m1 : MapK W M1 q (.int .u32 0) (vU vf)
  m2 : MapK W M2 q (.int .i64 0) (vI lf)
  ne : M1 ≠ M2
  lo : w.heap.size ≤ M1 ∧ w.heap.size ≤ M2
section
variable {w W W' : World} {M1 M2 q : Nat} {t t' : ST} {vf lf vf' lf' : Int → Int → Option Int}
theorem CM.below (h : CM w W M1 M2 q t vf lf) (hb : Below W.heap.size W W') : CM w W' M1 M2 q t vf lf := ⟨h.bx.below hb, h.m1.same (hb.block _ h.m1.lt), h.m2.same (hb.block _ h.m2.lt), h.ne, h.lo⟩
theorem CM.up (h : CM w W M1 M2 q t vf lf) : CM w W M1 M2 (q + 1) t vf lf := ⟨h.bx, h.m1.mono (by omega), h.m2.mono (by omega), h.ne, h.lo⟩
/-- The maps are written. -/
theorem CM.wrote {q' : Nat} (h : CM w W M1 M2 q t vf lf) (hs : ∀ b, b < W.heap.size → b ≠ M1 → b ≠ M2 → W'.heap[b]? = W.heap[b]?) (hz : W.heap.size ≤ W'.heap.size) (hb : Below w.heap.size W W') (m1 : MapK W' M1 q' (.int .u32 0) (vU vf')) (m2 : MapK W' M2 q' (.int .i64 0) (vI lf')) : CM w W' M1 M2 q' t vf' lf' :=
  ⟨h.bx.mine (fun b h1 h2 => hs b h1 (fun e => h2 (Or.inl e)) (fun e => h2 (Or.inr e))) hz (h.bx.blw.trans hb), m1, m2, h.ne, h.lo⟩
/-- A version is written, then a value. -/
theorem CM.put2 {W1 : World} (h : CM w W M1 M2 q t vf lf) {x y v l : Int} (g1 : W.grownBy W1 (some M1)) (k1 : MapK W1 M1 (q + 1) (.int .u32 0) (upd2 (vU vf) x y (some (.int .u32 v)))) (g2 : W1.grownBy W' (some M2)) (k2 : MapK W' M2 (q + 1) (.int .i64 0) (upd2 (vI lf) x y (some (.int .i64 l)))) : CM w W' M1 M2 (q + 1) t (upd2 vf x y (some v)) (upd2 lf x y (some l)) := by
  have hw := h.bx.blw.size
  have z1 := g1.size
  have z2 := g2.size
  have l1 := h.m1.lt
  have l2 := h.m2.lt
  have b1 : ∀ b, b < W.heap.size → b ≠ M1 → W1.heap[b]? = W.heap[b]? := fun b h1 h2 => g1.block b h1 (by simpa using h2)
  have b2 : ∀ b, b < W1.heap.size → b ≠ M2 → W'.heap[b]? = W1.heap[b]? := fun b h1 h2 => g2.block b h1 (by simpa using h2)
  refine h.wrote (fun b h1 h2 h3 => (b2 b (by omega) h3).trans (b1 b h1 h2)) (by omega) ?_ ?_ ?_
  · exact ((Below.refl w.heap.size W).grown g1 hw (fun j hj => by cases hj; exact h.lo.1)).trans ((Below.refl w.heap.size W1).grown g2 (by omega) (fun j hj => by cases hj; exact h.lo.2))
  · rw [vU_upd] at k1
    exact k1.same (b2 M1 (by omega) h.ne)
  · rw [vI_upd] at k2
    exact k2
end
/-- All that the law keeps between its steps. -/
def CE (w W : World) (M1 M2 q : Nat) (t : ST) : Prop := ∃ fs rows vf lf, CM w W M1 M2 q t vf lf ∧ CI t fs rows vf lf ∧ fs.length ≤ q
theorem run_fld6 (w : World) (r : Rsp) : (fldS 75 6 (.agg (respCs r))).run Tryz.prog w = .ok (.int .u16 r.holds) w := by kernel_rfl
theorem run_fld7 (w : World) (r : Rsp) : (fldS 75 7 (.agg (respCs r))).run Tryz.prog w = .ok (sv r.chg) w := by kernel_rfl
theorem root_may24 (ps : List KV) : authR ps 1 24 = .ok 1 := by kernel_rfl
theorem root_may25 (ps : List KV) : authR ps 1 25 = .ok 1 := by kernel_rfl
theorem ask_elig {rn kn : Nat → ByteArray} {w w' : World} {ps : List KV} {full : Bool} {off lar : Int} {L : Low} {x : Rsp} {a b : Int} {r : Res} {s : Smp} (hx : RspP rn kn w w' ps full off lar L (askReq 24 a b) x) (hr : resGet L.sm a b = some r) (hs : smpGet L.sm a = some s) : x.holds = holdsOf L s r := by
  have h1 := hx.1 rfl 1 (root_may24 ps)
  have e : rdX rn kn w w' ps L (askReq 24 a b) = eligX L a b := by unfold rdX; simp [askReq, rd24X]
  rw [e] at h1
  have e2 : eligibR L a b = (holdsOf L s r, 0) := by unfold eligibR; rw [hr]; dsimp only; rw [hs]
  unfold eligX at h1
  rw [e2] at h1
  have h1 : x = { rsp0 with holds := holdsOf L s r } := h1
  rw [h1]
theorem ask_pend {rn kn : Nat → ByteArray} {w w' : World} {ps : List KV} {full : Bool} {off lar : Int} {L : Low} {x : Rsp} {l : List Change} (hx : RspP rn kn w w' ps full off lar L (askReq 25 0 0) x) (hl : pendR ps L = some l) : ∃ a n c, x.chg = (a, n, c) ∧ OwnR w' w.heap.size 111 14 changeCs (.slice a n c) l := by
  have h1 := hx.1 rfl 1 (root_may25 ps)
  have e : rdX rn kn w w' ps L (askReq 25 0 0) = rd25X w w' ps L := by unfold rdX; simp [askReq]
  rw [e] at h1
  unfold rd25X at h1
  rw [hl] at h1
  obtain ⟨a, n, c, h1, h2⟩ := h1
  exact ⟨a, n, c, by rw [h1], h2⟩

end Go.Proofs.Qxb6500666aGreatDoor
