/- The bench's step: the frame of each kind. -/
import Derived.Test.Qxb6500665aDoorRep
namespace Go.Proofs.Qxb6500665aDoor
open Go.RowKit Go.Proofs.Qxb6500665aDoor.Cal

/-- The cells of a step of the script. -/
def opCs (o : Op) (lv vv : Value) : Array Value := #[.int .u8 o.kind, .int .u32 o.id, .int .u32 o.ref, .int .i64 o.minute, .int .i64 o.delta, .int .i64 o.l0, .int .i64 o.l1, .int .i64 o.l2, lv, vv]

/-- The parts of an answer. -/
structure Ans where
  code : Int := 0
  num : Int := 0
  list : SV := (none, 0, 0)
  p0 : Int := 0
  p1 : Int := 0
  p2 : Int := 0
  p3 : Int := 0
  v0 : Int := 0
  v1 : Int := 0
  vis : SV := (none, 0, 0)
  a0 : Int := 0
  a1 : Int := 0
  a2 : Int := 0
  a3 : Int := 0
  s0 : Int := 0
  s1 : Int := 0
  s2 : Int := 0

def ansCs (a : Ans) : Array Value := #[.int .u8 a.code, .int .i64 a.num, sv a.list, .int .u32 a.p0, .int .u8 a.p1, .int .i64 a.p2, .int .i64 a.p3, .int .u32 a.v0, .int .i64 a.v1, sv a.vis, .int .u32 a.a0, .int .i64 a.a1, .int .i64 a.a2, .int .i64 a.a3, .int .u32 a.s0, .int .u32 a.s1, .int .i64 a.s2]
theorem ansCs_size (a : Ans) : (ansCs a).size = 17 := rfl
theorem ansCs_ones (a : Ans) : ones (ansCs a) 17 = true := rfl

theorem Tryd.sz47 (w : World) : (sizeOf 47).run Tryd.prog w = .ok 17 w := by kernel_rfl
section
variable (ρ : Operand → Value) (dst : Option Tmp) (x y : Operand) (ty : TypeId) (pos : String) (after : Array Edge) (guard : Option (Nat × Bool))
theorem exec_stAnswer : execOp ρ { dst, op := .store 47 x y, type := ty, pos, after, guard } = (do stS 47 (ρ x) (ρ y); pure .skip) := rfl
theorem exec_ldAnswer : execOp ρ { dst, op := .load 47 x, type := ty, pos, after, guard } = (do pure (.value (← ldS 47 (ρ x)))) := rfl
end
theorem run_stAnswer (w : World) (b : Nat) (cs : Array Value) : (stS 47 (.pointer (some ⟨b, 0, none⟩)) (.agg cs)).run Tryd.prog w = if whole w b 17 = true ∧ ones cs 17 = true then .ok () (w.setRow b cs) else (Instr.storeAt 47 (.pointer (some ⟨b, 0, none⟩)) (.agg cs)).run Tryd.prog w := run_stS Tryd.sz47 w b cs
theorem run_ldAnswer (w : World) (b off : Nat) : (ldS 47 (.pointer (some ⟨b, off, none⟩))).run Tryd.prog w = match rng w b off 17 with | some cs => .ok (.agg cs) w | none => (Instr.loadAt 47 (.pointer (some ⟨b, off, none⟩))).run Tryd.prog w :=
  run_ldS Tryd.underlying47 Tryd.sz47 w b off

theorem results_cell1 {P : Program} {fn : Func} {p : Tmp} {ty : TypeId} (h : fn.results = #[.cell p ty]) (tmps : Array Value) (w : World) (g : Nat) (t : TypeId) (cs : Array Value) (fr : Nat × Nat) (d : TypeDesc)
    (hp : tmps.getD p undef = .pointer (some ⟨g, 0, none⟩)) (hg : w.heap[g]? = some (.cells cs t fr))
    (hu : P.underlying ty = some d) (hd : (match d with | .struct _ | .array _ _ => true | _ => false) = true) (hi : (P.info? ty).map (·.size) = some cs.size) :
    (results fn tmps).run P w = .ok (.agg cs) w := by
  have hp' : tmps[p]?.getD undef = .pointer (some ⟨g, 0, none⟩) := by simpa using hp
  simp [results, h, hp', asAddr, run_loadVar_row w g t ty cs fr d hg hu hd hi]

theorem rng_whole {w : World} {g : Nat} {cs : Array Value} {t : TypeId} {fr : Nat × Nat} (h : w.heap[g]? = some (.cells cs t fr)) : rng w g 0 cs.size = some cs := by
  unfold rng
  rw [h]
  simp

/-- Behind the box of the operation and the two answers. -/
theorem step_start (w : World) (o : Op) (la va : Option Addr) (ln lc vn vc B P S : Nat) (A : Nat → Prop) (ps : List KV) (full : Bool) (h : BAt w B P S A ps full) :
    ∃ w3, Hid (w3 = ((w.alloc (.cells (opCs o (.slice la ln lc) (.slice va vn vc)) 34)).alloc (.cells (ansCs {}) 47)).alloc (.cells (ansCs {}) 47)) ∧ Below w.heap.size w w3 ∧ w3.heap.size = w.heap.size + 3 ∧
      w3.heap[w.heap.size]? = some (.cells (opCs o (.slice la ln lc) (.slice va vn vc)) 34 (0, 0)) ∧ w3.heap[w.heap.size + 1]? = some (.cells (ansCs {}) 47 (0, 0)) ∧ w3.heap[w.heap.size + 2]? = some (.cells (ansCs {}) 47 (0, 0)) ∧ BAt w3 B P S A ps full := by
  have hb : Below w.heap.size w (((w.alloc (.cells (opCs o (.slice la ln lc) (.slice va vn vc)) 34)).alloc (.cells (ansCs {}) 47)).alloc (.cells (ansCs {}) 47)) := (((Below.refl _ _).alloc (Nat.le_refl _) _).alloc (by simp) _).alloc (by simp; omega) _
  refine ⟨_, rfl, hb, by simp, ?_, ?_, ?_, ⟨(hb.block B (cell_two h.bench).2.2.2).trans h.bench, h.at'.below hb⟩⟩
  · rw [Below.heap_alloc _ _ _ (by simp; omega), Below.heap_alloc _ _ _ (by simp), heap_alloc_at]
  · rw [Below.heap_alloc _ _ _ (by simp)]
    have := heap_alloc_at (w.alloc (.cells (opCs o (.slice la ln lc) (.slice va vn vc)) 34)) (.cells (ansCs {}) 47)
    simpa using this
  · have := heap_alloc_at ((w.alloc (.cells (opCs o (.slice la ln lc) (.slice va vn vc)) 34)).alloc (.cells (ansCs {}) 47)) (.cells (ansCs {}) 47)
    simpa using this

theorem codeOf_any (k : Int) (w : World) : Calls Tryd.prog 33 #[errOr k] w fun e w' => e = .returned (.int .u8 k) ∧ w = w' := by
  by_cases h : k = 0
  · subst h; exact codeOf_nil w
  · rw [errOr_pos h]; exact codeOf_err k w (by simp [h])

/-- Behind the command: the answer's blocks have been written. -/
theorem Cmd.around {w w3 w4 w' : World} {S : Nat} {A : Nat → Prop} {ps0 ps : List KV} {full0 full : Bool} (hst : StoreAt w S A ps0 full0) (hb3 : Below w.heap.size w w3) (hs3 : w3.heap.size = w.heap.size + 3) (hc : Cmd w3 w4 S A ps full)
    (ho : ∀ b, b ≠ w.heap.size + 1 → b ≠ w.heap.size + 2 → w'.heap[b]? = w4.heap[b]?) (hsz : w'.heap.size = w4.heap.size) (hbe : Below S w4 w') : Cmd w w' S A ps full := by
  have hSl := hst.size
  have h34 := hc.kept.below.size
  refine ⟨⟨(hb3.mono (by omega)).trans (hc.kept.below.trans hbe), fun b hb => ?_⟩, ?_⟩
  · rw [ho b (by omega) (by omega), hc.kept.same b ⟨by omega, hb.2⟩]
    exact hb3.block b hb.1
  · obtain ⟨pv, h1, h2⟩ := hc.store.ex
    have hlow : ∀ b, Anew w3 A w4 b → b ≠ w.heap.size + 1 ∧ b ≠ w.heap.size + 2 := fun b hb => by
      rcases hb with hb | hb
      · have := hst.lt b hb; omega
      · omega
    refine ⟨⟨pv, (ho S (by omega) (by omega)).trans h1, h2.mono (fun b hb => ho b (hlow b hb).1 (hlow b hb).2) (fun b hb => hb.elim Or.inl (fun h => Or.inr ⟨by omega, by omega⟩))⟩, fun h => h.elim hst.out (fun h => by omega), fun b hb => hb.elim (fun h => by have := hst.lt b h; omega) (fun h => h.2)⟩

/-- A struct stored at a place of a block. -/
theorem cells_at {w : World} {g off : Nat} {cur : Array Value} {t : TypeId} (cs : Array Value) (hg : w.heap[g]? = some (.cells cur t (0, 0))) (hf : off + cs.size ≤ cur.size) (h1 : ∀ v ∈ cs.toList, v.oneCell' = true) :
    (storeCells ⟨g, off, none⟩ cs.toList 0).run Tryd.prog w = .ok () (w.setRow g (cur.toList.take off ++ cs.toList ++ cur.toList.drop (off + cs.size)).toArray) := by
  have := run_storeCells_at Tryd.prog g off t cs.toList 0 cur w hg (by simpa using hf) h1
  simpa using this
theorem stPlacement_eq (w : World) (g o : Nat) (cs : Array Value) (hcs : cs.size = 4) : (stS 39 (.pointer (some ⟨g, o, none⟩)) (.agg cs)).run Tryd.prog w = (storeCells ⟨g, o, none⟩ cs.toList 0).run Tryd.prog w := by
  simp [stS, Instr.storeAt, Instr.sureAddr, storeVar, Sem.run_bind, Value.cells, hcs]
theorem stVersion_eq (w : World) (g o : Nat) (cs : Array Value) (hcs : cs.size = 3) : (stS 41 (.pointer (some ⟨g, o, none⟩)) (.agg cs)).run Tryd.prog w = (storeCells ⟨g, o, none⟩ cs.toList 0).run Tryd.prog w := by
  simp [stS, Instr.storeAt, Instr.sureAddr, storeVar, Sem.run_bind, Value.cells, hcs]
theorem stAnalyte_eq (w : World) (g o : Nat) (cs : Array Value) (hcs : cs.size = 4) : (stS 43 (.pointer (some ⟨g, o, none⟩)) (.agg cs)).run Tryd.prog w = (storeCells ⟨g, o, none⟩ cs.toList 0).run Tryd.prog w := by
  simp [stS, Instr.storeAt, Instr.sureAddr, storeVar, Sem.run_bind, Value.cells, hcs]
theorem stSubject_eq (w : World) (g o : Nat) (cs : Array Value) (hcs : cs.size = 3) : (stS 45 (.pointer (some ⟨g, o, none⟩)) (.agg cs)).run Tryd.prog w = (storeCells ⟨g, o, none⟩ cs.toList 0).run Tryd.prog w := by
  simp [stS, Instr.storeAt, Instr.sureAddr, storeVar, Sem.run_bind, Value.cells, hcs]

theorem ones17 (k0 k1 k3 k4 k5 k6 k7 k8 k10 k11 k12 k13 k14 k15 k16 : IntKind) (x0 x1 x3 x4 x5 x6 x7 x8 x10 x11 x12 x13 x14 x15 x16 : Int) (a b : Option Addr) (n m c d : Nat) : ones #[.int k0 x0, .int k1 x1, .slice a n c, .int k3 x3, .int k4 x4, .int k5 x5, .int k6 x6, .int k7 x7, .int k8 x8, .slice b m d, .int k10 x10, .int k11 x11, .int k12 x12, .int k13 x13, .int k14 x14, .int k15 x15, .int k16 x16] 17 = true := rfl

/-- What a step leaves. -/
structure StepPost (w w' : World) (e : Ending) (S B P : Nat) (A : Nat → Prop) (ps : List KV) (full : Bool) (a : Ans) : Prop where
  ret : e = .returned (.agg (ansCs a))
  cmd : Cmd w w' S A ps full
  bench : w'.heap[B]? = w.heap[B]?

end Go.Proofs.Qxb6500665aDoor
