/- EligibilityIsThePredicate: what the law reads and keeps. -/
import Derived.Test.Qxb6500666aGreatDoorEligP
import Derived.Test.Qxb6500666aGreatDoorExpl
namespace Go.Proofs.Qxb6500666aGreatDoor
open Go.RowKit

def heldE (a b : HeldR) : Bool := (a.sample == b.sample) && (a.analyte == b.analyte) && (a.holds == b.holds)
theorem guardHeld (op : BinOp) (x y : Operand) (u v : Array Value) (w : World) : (eqGuard op 101 x y (.agg u) (.agg v)).run Tryz.prog w = .ok () w := by
  cases op <;> kernel_rfl
set_option maxRecDepth 100000 in
theorem equalHeld (a b : HeldR) (w : World) : (Op.equalIn Op.maxDepth 101 (.agg (heldCs a)) (.agg (heldCs b))).run Tryz.prog w = .ok (heldE a b) w := by
  obtain ⟨d, hd⟩ : ∃ d, Op.maxDepth = d + 2 := ⟨_, rfl⟩
  rw [hd, run_equalIn_struct w _ 101 _ _ (by kernel_rfl) (by kernel_rfl)]
  by_cases h : a = b
  · subst h
    have e : heldE a a = true := by simp [heldE]
    rw [e]
    simp [go_sem, Op.eqFields, heldCs]
  · have e : heldE a b = false := by
      cases e : heldE a b with
      | false => rfl
      | true => exact absurd ((held_eta b a).1 e) h
    rw [e]
    simp [go_sem, Op.eqFields, heldCs]
    intro g0 g1 g2
    apply h
    cases a
    cases b
    simp only [HeldR.mk.injEq]
    exact ⟨g0, g1, g2⟩
section
variable (ρ : Operand → Value) (dst : Option Tmp) (x y z : Operand) (ty : TypeId) (pos : String) (after : Array Edge) (guard : Option (Nat × Bool))
theorem exec_eqlHeld (yt : TypeId) : execOp ρ { dst, op := .binOp .eql 101 x y yt, type := ty, pos, after, guard } = (do pure (.value (← cmpS .eql 101 x y (ρ x) (ρ y)))) := rfl
def bdMdS (a b c : Value) : Sem Value := Instr.build 45 #[(0, a), (1, b), (2, c)]
theorem exec_bdMd : execOp ρ { dst, op := .build 45 #[(0, x), (1, y), (2, z)], type := ty, pos, after, guard } = (do pure (.value (← bdMdS (ρ x) (ρ y) (ρ z)))) := by simp [execOp, bdMdS]
theorem exec_stMd : execOp ρ { dst, op := .store 45 x y, type := ty, pos, after, guard } = (do stS 45 (ρ x) (ρ y); pure .skip) := rfl
end
theorem run_eqlHeld (x y : Operand) (a b : HeldR) (w : World) : (cmpS .eql 101 x y (.agg (heldCs a)) (.agg (heldCs b))).run Tryz.prog w = .ok (.bool (heldE a b)) w := by
  simp [cmpS, guardHeld, binOp, Op.equal, equalHeld]
theorem run_stHeld (w : World) (b : Nat) (cs : Array Value) : (stS 101 (.pointer (some ⟨b, 0, none⟩)) (.agg cs)).run Tryz.prog w = if whole w b 3 = true ∧ ones cs 3 = true then .ok () (w.setRow b cs) else (Instr.storeAt 101 (.pointer (some ⟨b, 0, none⟩)) (.agg cs)).run Tryz.prog w := run_stS Tryz.size101_z w b cs
def mdCs (x : LV) : Array Value := #[x.p0, x.p1, x.p2, x.p3, x.k, x.s1, x.s2, x.s3, .slice none 0 0, .slice none 0 0, .slice none 0 0, .bool false]
theorem run_bdMd (w : World) (p0 p1 p2 p3 k s1 s2 s3 : Value) : (bdMdS (.agg #[p0, p1, p2, p3]) (.agg #[k]) (.agg #[s1, s2, s3])).run Tryz.prog w = .ok (.agg (mdCs ⟨p0, p1, p2, p3, k, s1, s2, s3⟩)) w := by kernel_rfl
theorem sizeMd (w : World) : (sizeOf 45).run Tryz.prog w = .ok 12 w := by kernel_rfl
theorem run_stMd (w : World) (b : Nat) (cs : Array Value) : (stS 45 (.pointer (some ⟨b, 0, none⟩)) (.agg cs)).run Tryz.prog w = if whole w b 12 = true ∧ ones cs 12 = true then .ok () (w.setRow b cs) else (Instr.storeAt 45 (.pointer (some ⟨b, 0, none⟩)) (.agg cs)).run Tryz.prog w := run_stS sizeMd w b cs
theorem md_ones {w : World} {ok : Nat → Prop} {x : LV} {L : Low} (h : LowAt w ok x L) : ones (mdCs x) 12 = true := by
  have h1 := low_ones h
  obtain ⟨p0, p1, p2, p3, k, s1, s2, s3⟩ := x
  unfold ones lvCs at h1
  unfold ones mdCs
  simp at h1 ⊢
  simpa [Value.oneCell', and_assoc] using h1
theorem md_blk {W : World} {M : Nat} {x : LV} {t : TypeId} {f : Nat × Nat} (h : W.heap[M]? = some (.cells (mdCs x) t f)) : LBlk W M 0 x := by
  refine ⟨?_, ?_, ?_, blk_lt h⟩ <;> (unfold Qxb6500666aGreatDoor.rng; rw [h]; rfl)

theorem root_may24 (ps : List KV) : authR ps 1 24 = .ok 1 := rfl
theorem root_may29 (ps : List KV) : authR ps 1 29 = .ok 1 := rfl
theorem ask_held {rn kn : Nat → ByteArray} {w w' : World} {ps : List KV} {full : Bool} {off lar : Int} {L : Low} {x : Rsp} (h : SU L.sm) (hx : RspP rn kn w w' ps full off lar L (askReq 29 0 0) x) : ∃ a n c, x = { rsp0 with held := (a, n, c) } ∧ OwnR w' w.heap.size 101 3 heldCs (.slice a n c) (heldL L) := by
  have h1 := hx.1 rfl 1 (root_may29 ps)
  have e : rdX rn kn w w' ps L (askReq 29 0 0) = rd29X w w' L := by unfold rdX; simp [askReq]
  rw [e] at h1
  unfold rd29X at h1
  rw [heldRs_eq h] at h1
  exact h1
theorem ask_elig {rn kn : Nat → ByteArray} {w w' : World} {ps : List KV} {full : Bool} {off lar : Int} {L : Low} {x : Rsp} {r : Res} {s : Smp} (h : SU L.sm) (hr : r ∈ L.sm.rs) (hs : smpGet L.sm r.sample = some s) (hx : RspP rn kn w w' ps full off lar L (askReq 24 r.sample r.analyte) x) : x = { rsp0 with holds := holdsOf L s r } := by
  have h1 := hx.1 rfl 1 (root_may24 ps)
  have e : rdX rn kn w w' ps L (askReq 24 r.sample r.analyte) = rd24X L (askReq 24 r.sample r.analyte) := by unfold rdX; simp [askReq]
  have e2 : eligibR L r.sample r.analyte = (holdsOf L s r, 0) := by unfold eligibR; rw [h.get hr]; dsimp only; rw [hs]
  rw [e] at h1
  have e3 : rd24X L (askReq 24 r.sample r.analyte) = .ok fun x => x = { rsp0 with holds := holdsOf L s r } := by
    show eligX L r.sample r.analyte = _
    unfold eligX
    rw [e2, if_pos rfl]
  rw [e3] at h1
  exact h1

/-- What the law has beside it while it looks at the results: all of it lies below. -/
structure EC (w V : World) (M R1 : Nat) (x : LV) (ok : Nat → Prop) (L : Low) (rsp : Rsp) (hl : List HeldR) (nm : Nat → ByteArray) : Prop where
  bn : ∃ Y, V.heap[w.heap.size + 2]? = some (.cells #[.pointer (some ⟨w.heap.size, 0, none⟩), .pointer (some ⟨w.heap.size + 1, 0, none⟩), .pointer (some ⟨Y, 0, none⟩)] 88 (0, 0))
  lb : V.heap[w.heap.size + 1]? = some (.cells (lvCs x) 83 (0, 0))
  lo : LowAt V ok x L
  md : V.heap[M]? = some (.cells (mdCs x) 45 (0, 0))
  rs : V.heap[R1]? = some (.cells (respCs rsp) 75 (0, 0))
  hd : RArr V (· < V.heap.size) 3 heldCs (sv rsp.held) hl
  hn : rng V 0 0 20 = some (hnA nm)
  z0 : 0 < V.heap.size
theorem EC.below {w V V' : World} {M R1 : Nat} {x : LV} {ok : Nat → Prop} {L : Low} {rsp : Rsp} {hl : List HeldR} {nm : Nat → ByteArray} (h : EC w V M R1 x ok L rsp hl nm) (hb : Below V.heap.size V V') : EC w V' M R1 x ok L rsp hl nm := by
  obtain ⟨Y, hy⟩ := h.bn
  exact ⟨⟨Y, (hb.block _ (blk_lt hy)).trans hy⟩, (hb.block _ (blk_lt h.lb)).trans h.lb, h.lo.below hb, (hb.block _ (blk_lt h.md)).trans h.md, (hb.block _ (blk_lt h.rs)).trans h.rs, h.hd.mono (fun b q => hb.block b q) (fun b q => Nat.lt_of_lt_of_le q hb.size), (rng_of_block (hb.block _ h.z0) _ _).trans h.hn, Nat.lt_of_lt_of_le h.z0 hb.size⟩

end Go.Proofs.Qxb6500666aGreatDoor
