/- A step of the bench: data, state, rules. -/
import Derived.Test.Qxb6500666aGreatDoorExec
import Derived.Test.Qxb6500666aGreatDoorWkTrail
import Derived.Test.Qxb6500666aGreatDoorDmg
namespace Go.Proofs.Qxb6500666aGreatDoor
open Go.RowKit

structure AnsR where
  resp : Rsp
  code : Int
  fk : Int
  fs : Int
  fi : Int
  fb : Int
  fc : SV
  bytes : SV
  trail : SV
def ans0 : AnsR := ⟨rsp0, 0, 0, 0, 0, 0, noS, noS, noS⟩
def ansCs (a : AnsR) : Array Value := #[.int .u8 a.resp.code, .int .u32 a.resp.issued, .int .u8 a.resp.role, .bool a.resp.active, .int .u32 a.resp.st.entries, .int .u32 a.resp.st.transfers, .int .u32 a.resp.st.lastCum, .int .i64 a.resp.st.lastMin, .int .u32 a.resp.en.seq, .int .u8 a.resp.en.role, .int .u32 a.resp.en.issued, .int .u8 a.resp.en.req.kind, .int .u32 a.resp.en.req.user, .int .i64 a.resp.en.req.now, .int .u32 a.resp.en.req.id, .int .u32 a.resp.en.req.ref, .int .u32 a.resp.en.req.kit, .int .u32 a.resp.en.req.subject, .int .u32 a.resp.en.req.visit, .int .u8 a.resp.en.req.role, .int .u8 a.resp.en.req.cls, .int .i64 a.resp.en.req.time, .int .i64 a.resp.en.req.till, .int .i64 a.resp.en.req.value, .int .i64 a.resp.en.req.l0, .int .i64 a.resp.en.req.l1, .int .i64 a.resp.en.req.l2, sv a.resp.el, .int .u16 a.resp.holds, sv a.resp.chg, .int .u8 a.resp.hd.kind, .int .u32 a.resp.hd.seq, .int .i64 a.resp.hd.issued, .int .u32 a.resp.hd.base, .int .u32 a.resp.hd.count, .int .u32 a.resp.hd.sum, .int .u32 a.resp.hd.len, sv a.resp.bytes, sv a.resp.diffs, sv a.resp.held, .int .u8 a.code, .int .u8 a.fk, .int .u32 a.fs, .int .i64 a.fi, .int .u32 a.fb, sv a.fc, sv a.bytes, sv a.trail]
theorem ansCs_size (a : AnsR) : (ansCs a).size = 48 := rfl
theorem ansCs_ones (a : AnsR) : ones (ansCs a) 48 = true := rfl
section
variable (ρ : Operand → Value) (dst : Option Tmp) (x y : Operand) (ty : TypeId) (pos : String) (after : Array Edge) (guard : Option (Nat × Bool))
theorem exec_ldAns : execOp ρ { dst, op := .load 77 x, type := ty, pos, after, guard } = (do pure (.value (← ldS 77 (ρ x)))) := rfl
theorem exec_stAns : execOp ρ { dst, op := .store 77 x y, type := ty, pos, after, guard } = (do stS 77 (ρ x) (ρ y); pure .skip) := rfl
end
theorem Tryz.size77_z (w : World) : (sizeOf 77).run Tryz.prog w = .ok 48 w := by kernel_rfl
theorem run_ldAns (w : World) (b off : Nat) : (ldS 77 (.pointer (some ⟨b, off, none⟩))).run Tryz.prog w = match rng w b off 48 with | some cs => .ok (.agg cs) w | none => (Instr.loadAt 77 (.pointer (some ⟨b, off, none⟩))).run Tryz.prog w :=
  run_ldS Tryz.underlying77 Tryz.size77_z w b off
theorem run_stAns (w : World) (b : Nat) (cs : Array Value) : (stS 77 (.pointer (some ⟨b, 0, none⟩)) (.agg cs)).run Tryz.prog w = if whole w b 48 = true ∧ ones cs 48 = true then .ok () (w.setRow b cs) else (Instr.storeAt 77 (.pointer (some ⟨b, 0, none⟩)) (.agg cs)).run Tryz.prog w := run_stS Tryz.size77_z w b cs
theorem respCs_one (r : Rsp) : ∀ u ∈ (respCs r).toList, u.oneCell' = true := by simp [respCs, sv, Value.oneCell']
theorem run_stRspA (w : World) (C : Nat) (a : AnsR) (x : Rsp) (h : w.heap[C]? = some (.cells (ansCs a) 77 (0, 0))) :
    (stS 75 (.pointer (some ⟨C, 0, none⟩)) (.agg (respCs x))).run Tryz.prog w = .ok () (w.setRow C (ansCs { a with resp := x })) := by
  have := store_cells_mid (P := Tryz.prog) C 0 77 ((ansCs a).toList.drop 40) (respCs x).toList w 0 [] ((ansCs a).toList.take 40) (fun v hv => respCs_one x v hv) rfl rfl h
  simp [stS, Instr.storeAt, Instr.sureAddr, storeVar, Sem.run_bind, Value.cells]
  exact this
theorem run_stFileA (w : World) (C : Nat) (a : AnsR) (k s i bb : Int) (fa : Option Addr) (fn fc : Nat) (h : w.heap[C]? = some (.cells (ansCs a) 77 (0, 0))) :
    (stS 59 (.pointer (some ⟨C, 41, none⟩)) (.agg (fileCs k s i bb fa fn fc))).run Tryz.prog w = .ok () (w.setRow C (ansCs { a with fk := k, fs := s, fi := i, fb := bb, fc := (fa, fn, fc) })) := by
  have := store_cells_mid (P := Tryz.prog) C 41 77 ((ansCs a).toList.drop 46) (fileCs k s i bb fa fn fc).toList w 0 ((ansCs a).toList.take 41) (((ansCs a).toList.drop 41).take 5) (fun v hv => by simp [fileCs] at hv; rcases hv with rfl | rfl | rfl | rfl | rfl <;> rfl) rfl rfl h
  simp [stS, Instr.storeAt, Instr.sureAddr, storeVar, Sem.run_bind, Value.cells]
  exact this

/-- A step of the script, its slices apart. -/
def opA (o : Op) (lv dv : Value) (ca : Option Addr) (cn cc : Nat) : Array Value := #[.int .u8 o.kind, .int .u8 o.req.kind, .int .u32 o.req.user, .int .i64 o.req.now, .int .u32 o.req.id, .int .u32 o.req.ref, .int .u32 o.req.kit, .int .u32 o.req.subject, .int .u32 o.req.visit, .int .u8 o.req.role, .int .u8 o.req.cls, .int .i64 o.req.time, .int .i64 o.req.till, .int .i64 o.req.value, .int .i64 o.req.l0, .int .i64 o.req.l1, .int .i64 o.req.l2, lv, .int .u32 o.seq, .int .u8 o.mode, .int .u64 o.num, dv, .int .u8 o.file.kind, .int .u32 o.file.seq, .int .i64 o.file.issued, .int .u32 o.file.base, .slice ca cn cc]
theorem opA_size (o : Op) (lv dv : Value) (ca : Option Addr) (cn cc : Nat) : (opA o lv dv ca cn cc).size = 27 := rfl
structure OpIn (w : World) (ok : Nat → Prop) (o : Op) (lv dv : Value) (ca : Option Addr) (cn cc : Nat) : Prop where
  kind : U8 o.kind
  req : o.req.Ok
  seq : U32 o.seq
  mode : U8 o.mode
  num : U64 o.num
  list : RArr w ok 1 u32Cs lv o.req.list
  ids : ∀ y ∈ o.req.list, U32 y
  data : BytesAt w ok dv o.data
  ch : ChangesAt w ok (.slice ca cn cc) o.file.changes
  fok : o.file.Ok
  cok : ∀ c ∈ o.file.changes, c.Ok
  ld : o.data.length ≤ 65536
  lf : o.file.changes.length ≤ 65536
theorem OpIn.below {w w' : World} {ok : Nat → Prop} {o : Op} {lv dv : Value} {ca : Option Addr} {cn cc : Nat} (h : OpIn w ok o lv dv ca cn cc) (hb : Below w.heap.size w w') : OpIn w' ok o lv dv ca cn cc :=
  { h with list := RArr.below h.list hb, data := RArr.below h.data hb, ch := RArr.below h.ch hb }

/-- The bench. -/
structure BN (w : World) (Bn Y S LB base : Nat) (pv : Value) (A ok : Nat → Prop) (zs : List ZP) (full : Bool) (off lar : Int) (x : LV) (L : Low) : Prop where
  bs : BS w Y S LB base pv A ok zs full off lar x L
  bn : w.heap[Bn]? = some (.cells #[.pointer (some ⟨S, 0, none⟩), .pointer (some ⟨LB, 0, none⟩), .pointer (some ⟨Y, 0, none⟩)] 88 (0, 0))
  ne : Bn ≠ Y ∧ Bn ≠ S ∧ Bn ≠ LB
  n2 : pv.ownBlock ≠ some Bn
  n3 : ¬ A Bn
  n4 : ¬ ok Bn
  bb : base ≤ Bn
def Aw (g Bn Y S LB : Nat) (pv : Value) (A ok : Nat → Prop) : Prop := (g ≠ Y ∧ g ≠ S ∧ g ≠ LB) ∧ g ≠ Bn ∧ pv.ownBlock ≠ some g ∧ ¬ A g ∧ ¬ ok g
section
variable {w W W' : World} {Bn Y S LB base : Nat} {pv : Value} {A ok : Nat → Prop} {zs : List ZP} {full : Bool} {off lar : Int} {x : LV} {L : Low}
theorem BN.below (h : BN W Bn Y S LB base pv A ok zs full off lar x L) (hb : Below W.heap.size W W') : BN W' Bn Y S LB base pv A ok zs full off lar x L :=
  ⟨h.bs.below hb, (hb.block _ (blk_lt h.bn)).trans h.bn, h.ne, h.n2, h.n3, h.n4, h.bb⟩
theorem BN.away (h : BN W Bn Y S LB base pv A ok zs full off lar x L) {g : Nat} {cs : Array Value} (ha : Aw g Bn Y S LB pv A ok) : BN (W.setRow g cs) Bn Y S LB base pv A ok zs full off lar x L :=
  ⟨h.bs.other ha.1 ha.2.2.1 ha.2.2.2.1 ha.2.2.2.2, (setRow_other _ _ _ _ (fun e => ha.2.1 e.symm)).trans h.bn, h.ne, h.n2, h.n3, h.n4, h.bb⟩
theorem BN.aw (h : BN W Bn Y S LB base pv A ok zs full off lar x L) {g : Nat} (hg : W.heap.size ≤ g) : Aw g Bn Y S LB pv A ok := by
  have h1 := blk_lt h.bs.sys
  have h2 := blk_lt h.bs.lb
  have h3 := blk_lt h.bs.stm.top
  have h4 := blk_lt h.bn
  exact ⟨⟨by omega, by omega, by omega⟩, by omega, fun e => by (have := (h.bs.stm.own.block _ e).2; omega), fun e => by (have := h.bs.stm.lt _ e; omega), fun e => by (have := (h.bs.okl _ e).1; omega)⟩
end
/-- step's own blocks. -/
structure SB (w W : World) (q : Array Value) (a : AnsR) : Prop where
  op : W.heap[w.heap.size]? = some (.cells q 61 (0, 0))
  rs : W.heap[w.heap.size + 1]? = some (.cells (ansCs ans0) 77 (0, 0))
  an : W.heap[w.heap.size + 2]? = some (.cells (ansCs a) 77 (0, 0))
theorem SB.start (w : World) (q : Array Value) : SB w (((w.alloc (.cells q 61)).alloc (.cells (ansCs ans0) 77)).alloc (.cells (ansCs ans0) 77)) q ans0 ∧ Below w.heap.size w (((w.alloc (.cells q 61)).alloc (.cells (ansCs ans0) 77)).alloc (.cells (ansCs ans0) 77)) :=
  ⟨⟨(Below.heap_alloc _ _ _ (by simp <;> omega)).trans ((Below.heap_alloc _ _ _ (by simp)).trans (heap_alloc_at _ _)), (Below.heap_alloc _ _ _ (by simp)).trans (box2 w _ _ _ _), by have := heap_alloc_at ((w.alloc (.cells q 61)).alloc (.cells (ansCs ans0) 77)) (.cells (ansCs ans0) 77); simpa using this⟩, (((Below.refl _ _).alloc (Nat.le_refl _) _).alloc (by simp) _).alloc (by simp <;> omega) _⟩
theorem SB.next {w W W' : World} {q : Array Value} {a : AnsR} (h : SB w W q a) (hb : Below W.heap.size W W') : SB w W' q a :=
  have h3 := blk_lt h.an
  ⟨(hb.block _ (by omega)).trans h.op, (hb.block _ (by omega)).trans h.rs, (hb.block _ (by omega)).trans h.an⟩
theorem SB.row {w W : World} {q : Array Value} {a : AnsR} (h : SB w W q a) (y : AnsR) : SB w (W.setRow (w.heap.size + 2) (ansCs y)) q y :=
  ⟨(setRow_other _ _ _ _ (by omega)).trans h.op, (setRow_other _ _ _ _ (by omega)).trans h.rs, heap_setRow_at h.an⟩
theorem SB.cell {w W : World} {q : Array Value} {a : AnsR} (h : SB w W q a) {j : Nat} {v : Value} (y : AnsR) (hy : (ansCs a).setIfInBounds j v = ansCs y) : SB w (W.setCell ⟨w.heap.size + 2, j, none⟩ v) q y ∧ W.setCell ⟨w.heap.size + 2, j, none⟩ v = W.setRow (w.heap.size + 2) (ansCs y) := by
  have e := setCell_eq_setRow W (w.heap.size + 2) j _ _ _ v h.an
  rw [hy] at e
  rw [e]
  exact ⟨h.row y, rfl⟩
theorem SB.facts {w W : World} {q : Array Value} {a : AnsR} (h : SB w W q a) : whole W (w.heap.size + 1) 48 = true ∧ rng W (w.heap.size + 2) 0 48 = some (ansCs a) ∧ (∀ j, W.cell? ⟨w.heap.size, j, none⟩ = q[j]?) ∧ (∀ j, W.cell? ⟨w.heap.size + 2, j, none⟩ = (ansCs a)[j]?) ∧ (∀ j, W.frozen? ⟨w.heap.size + 2, j, none⟩ = false) ∧ w.heap.size + 2 < W.heap.size :=
  ⟨whole_blk h.rs, rng_whole h.an, fun j => cells_all h.op j, fun j => cells_all h.an j, fun j => by simp [World.frozen?, h.an], blk_lt h.an⟩

structure ST where
  ps : List KV
  full : Bool
  off : Int
  lar : Int
  low : Low
noncomputable def stepR (s : ST) (o : Op) : ST :=
  if o.kind = 1 then ⟨(exR s.ps s.full s.off s.lar s.low o.req).ps, s.full, (exR s.ps s.full s.off s.lar s.low o.req).off, (exR s.ps s.full s.off s.lar s.low o.req).lar, (exR s.ps s.full s.off s.lar s.low o.req).low⟩
  else if o.kind = 2 then { s with full := o.num == 1 } else s
def StPost (w w' : World) (Bn S LB base : Nat) (e : Ending) (s : ST) : Prop :=
  ∃ Y' pv' A' ok' zs' x' ans, BN w' Bn Y' S LB base pv' A' ok' zs' s.full s.off s.lar x' s.low ∧ zs'.map (·.2) = s.ps ∧ e = .returned (.agg (ansCs ans)) ∧ Below base w w'
theorem StPost.same {w w' : World} {Bn Y S LB base : Nat} {pv : Value} {A ok : Nat → Prop} {zs : List ZP} {full : Bool} {off lar : Int} {x : LV} {L : Low} {ans : AnsR} {s : ST} (h : BN w Bn Y S LB base pv A ok zs full off lar x L) (hb : Below w.heap.size w w') (hs : s = ⟨zs.map (·.2), full, off, lar, L⟩) : StPost w w' Bn S LB base (.returned (.agg (ansCs ans))) s := by
  subst hs
  exact ⟨Y, pv, A, ok, zs, x, ans, h.below hb, rfl, rfl, hb.mono (by have := h.bs.bs; have := blk_lt h.bs.lb; omega)⟩
theorem BN.reopen {W : World} {Bn Y S LB base : Nat} {pv : Value} {A ok : Nat → Prop} {zs : List ZP} {full : Bool} {off lar : Int} {x : LV} {L : Low} (h : BN W Bn Y S LB base pv A ok zs full off lar x L) : BN ((W.alloc (.cells #[.pointer (some ⟨S, 0, none⟩), .pointer (some ⟨LB, 0, none⟩)] 264)).setCell ⟨Bn, 2, none⟩ (.pointer (some ⟨W.heap.size, 0, none⟩))) Bn W.heap.size S LB base pv A ok zs full off lar x L := by
  have hb : Below W.heap.size W (W.alloc (.cells #[.pointer (some ⟨S, 0, none⟩), .pointer (some ⟨LB, 0, none⟩)] 264)) := (Below.refl _ _).alloc (Nat.le_refl _) _
  have h1 := h.below hb
  have e0 := heap_alloc_at W (.cells #[.pointer (some ⟨S, 0, none⟩), .pointer (some ⟨LB, 0, none⟩)] 264)
  have hSl := blk_lt h.bs.stm.top
  have hLl := blk_lt h.bs.lb
  have hBl := blk_lt h.bn
  generalize W.alloc (.cells #[.pointer (some ⟨S, 0, none⟩), .pointer (some ⟨LB, 0, none⟩)] 264) = V at *
  have e := setCell_eq_setRow V Bn 2 _ _ _ (.pointer (some ⟨W.heap.size, 0, none⟩)) h1.bn
  rw [e]
  have ho : ∀ cs b, b ≠ Bn → (V.setRow Bn cs).heap[b]? = V.heap[b]? := fun cs b hb => setRow_other _ _ _ _ hb
  have hz : ∀ cs, (V.setRow Bn cs).heap.size = V.heap.size := fun cs => by simp
  have k := h1.bs
  refine ⟨⟨(ho _ _ (by omega)).trans e0, ⟨(ho _ S (fun e => h.ne.2.1 e.symm)).trans k.stm.top, k.stm.own.mono (fun b e' => ho _ b (fun e'' => h.n2 (e'' ▸ e'))), k.stm.zip.mono (fun b p => ho _ b (fun e'' => h.n3 (e'' ▸ p))) (fun _ p => p), k.stm.sep, k.stm.out, fun b p => by rw [hz]; exact k.stm.lt b p, k.stm.baseS⟩, (ho _ LB (fun e => h.ne.2.2 e.symm)).trans k.lb, k.low.mono (fun b p => ho _ b (fun e'' => h.n4 (e'' ▸ p))) (fun _ p => p), fun b p => by rw [hz]; exact k.okl b p, ⟨h.bs.ne.1, by omega, by omega⟩, fun b e' => ⟨(h.bs.pvn b e').1, fun e'' => by (have := (h.bs.stm.own.block b e').2; omega)⟩, h.bs.an, h.bs.bs⟩, heap_setRow_at h1.bn, ⟨by omega, h.ne.2.1, h.ne.2.2⟩, h.n2, h.n3, h.n4, h.bb⟩
theorem BN.setFull {W : World} {Bn Y S LB base : Nat} {pv : Value} {A ok : Nat → Prop} {zs : List ZP} {full : Bool} {off lar : Int} {x : LV} {L : Low} (h : BN W Bn Y S LB base pv A ok zs full off lar x L) (f : Bool) : BN (W.setCell ⟨S, 1, none⟩ (.bool f)) Bn Y S LB base pv A ok zs f off lar x L := by
  have ho : ∀ b, b ≠ S → (W.setCell ⟨S, 1, none⟩ (.bool f)).heap[b]? = W.heap[b]? := fun b hb => Below.heap_setCell _ _ _ _ hb
  have hz : (W.setCell ⟨S, 1, none⟩ (.bool f)).heap.size = W.heap.size := by simp
  have k := h.bs
  exact ⟨⟨(ho Y k.ne.2.1).trans k.sys, ⟨heap_set3 (j := 1) k.stm.top, k.stm.own.mono (fun b e => ho b (k.stm.sep b e).1), k.stm.zip.mono (fun b p => ho b (fun e => k.stm.out (e ▸ p))) (fun _ p => p), k.stm.sep, k.stm.out, fun b p => by rw [hz]; exact k.stm.lt b p, k.stm.baseS⟩, (ho LB k.ne.1).trans k.lb, k.low.mono (fun b p => ho b (k.okl b p).2.1) (fun _ p => p), fun b p => by rw [hz]; exact k.okl b p, k.ne, k.pvn, k.an, k.bs⟩, (ho Bn h.ne.2.1).trans h.bn, h.ne, h.n2, h.n3, h.n4, h.bb⟩
/-- An error in hand: its code, and its block is new. -/
def ErrN (w w' : World) (ev : Value) (c : Int) : Prop := ErrV w' ev c ∧ ∀ E, ev = .iface 241 (.pointer (some ⟨E, 0, none⟩)) → w.heap.size ≤ E
theorem ErrN.keep {w w1 w2 : World} {ev : Value} {c : Int} (h : ErrN w w1 ev c) (hs : ∀ E, w.heap.size ≤ E → w1.heap[E]? ≠ none → w2.heap[E]? = w1.heap[E]?) : ErrV w2 ev c := by
  obtain ⟨h1, h2⟩ := h
  cases h1 with
  | nil => exact .nil
  | code _ a b => exact .code _ a b
  | parse E l f hE hl hf => exact .parse E l f ((hs E (h2 E rfl) (by rw [hE]; simp)).trans hE) hl hf
theorem ParseAns.one {w w' : World} {e : Ending} (h : ParseAns w w' e) : ∃ k s i bb a n c ev ec, e = .returned (.tuple #[.agg (fileCs k s i bb a n c), ev]) ∧ ErrN w w' ev ec ∧ Below w.heap.size w w' := by
  cases h with
  | bad E he hE hp hb => exact ⟨0, 0, 0, 0, none, 0, 0, _, 29, he, ⟨ErrV.ofPErr hp, fun E' q => by injection q with q1 q2; injection q2 with q2; injection q2 with q2; injection q2 with q2; omega⟩, hb⟩
  | good k s i bb a cap cs he hF hs hi hbb hok hch hb => exact ⟨k, s, i, bb, a, cs.length, cap, _, 0, he, ⟨.nil, fun E q => by cases q⟩, hb⟩
theorem TrAns.one {w w' : World} {e : Ending} (h : TrAns w w' e) : ∃ a n c ev ec, e = .returned (.tuple #[.slice a n c, ev]) ∧ ErrN w w' ev ec ∧ Below w.heap.size w w' := by
  cases h with
  | bad E he hE hp hb => exact ⟨none, 0, 0, _, 29, he, ⟨ErrV.ofPErr hp, fun E' q => by injection q with q1 q2; injection q2 with q2; injection q2 with q2; injection q2 with q2; omega⟩, hb⟩
  | good a n c he hb => exact ⟨a, n, c, _, 0, he, ⟨.nil, fun E q => by cases q⟩, hb⟩

end Go.Proofs.Qxb6500666aGreatDoor
