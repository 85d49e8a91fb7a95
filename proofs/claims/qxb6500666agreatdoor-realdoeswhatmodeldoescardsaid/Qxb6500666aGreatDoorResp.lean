/- The response: its cells, the rules of its struct; refuse, Open. -/
import Derived.Test.Qxb6500666aGreatDoorAuth2
import Derived.Test.Qxb6500666aGreatDoorEntry
namespace Go.Proofs.Qxb6500666aGreatDoor
open Go.RowKit

structure Rsp where
  code : Int
  issued : Int
  role : Int
  active : Bool
  st : Stat
  en : Ent
  el : SV
  holds : Int
  chg : SV
  hd : Hdr
  bytes : SV
  diffs : SV
  held : SV
def noS : SV := (none, 0, 0)
def rsp0 : Rsp := ⟨0, 0, 0, false, ⟨0, 0, 0, 0⟩, zeroEnt, noS, 0, noS, ⟨0, 0, 0, 0, 0, 0, 0⟩, noS, noS, noS⟩
def respCs (r : Rsp) : Array Value := #[.int .u8 r.code, .int .u32 r.issued, .int .u8 r.role, .bool r.active, .int .u32 r.st.entries, .int .u32 r.st.transfers, .int .u32 r.st.lastCum, .int .i64 r.st.lastMin, .int .u32 r.en.seq, .int .u8 r.en.role, .int .u32 r.en.issued, .int .u8 r.en.req.kind, .int .u32 r.en.req.user, .int .i64 r.en.req.now, .int .u32 r.en.req.id, .int .u32 r.en.req.ref, .int .u32 r.en.req.kit, .int .u32 r.en.req.subject, .int .u32 r.en.req.visit, .int .u8 r.en.req.role, .int .u8 r.en.req.cls, .int .i64 r.en.req.time, .int .i64 r.en.req.till, .int .i64 r.en.req.value, .int .i64 r.en.req.l0, .int .i64 r.en.req.l1, .int .i64 r.en.req.l2, sv r.el, .int .u16 r.holds, sv r.chg, .int .u8 r.hd.kind, .int .u32 r.hd.seq, .int .i64 r.hd.issued, .int .u32 r.hd.base, .int .u32 r.hd.count, .int .u32 r.hd.sum, .int .u32 r.hd.len, sv r.bytes, sv r.diffs, sv r.held]
theorem respCs_size (r : Rsp) : (respCs r).size = 40 := rfl
theorem respCs_ones (r : Rsp) : ones (respCs r) 40 = true := rfl
section
variable (ρ : Operand → Value) (dst : Option Tmp) (x y : Operand) (ty : TypeId) (pos : String) (after : Array Edge) (guard : Option (Nat × Bool))
theorem exec_ldRsp : execOp ρ { dst, op := .load 75 x, type := ty, pos, after, guard } = (do pure (.value (← ldS 75 (ρ x)))) := rfl
theorem exec_stRsp : execOp ρ { dst, op := .store 75 x y, type := ty, pos, after, guard } = (do stS 75 (ρ x) (ρ y); pure .skip) := rfl
end
theorem Tryz.size75 (w : World) : (sizeOf 75).run Tryz.prog w = .ok 40 w := by kernel_rfl
theorem run_ldRsp (w : World) (b off : Nat) : (ldS 75 (.pointer (some ⟨b, off, none⟩))).run Tryz.prog w = match rng w b off 40 with | some cs => .ok (.agg cs) w | none => (Instr.loadAt 75 (.pointer (some ⟨b, off, none⟩))).run Tryz.prog w :=
  run_ldS Tryz.underlying75 Tryz.size75 w b off
theorem run_stRsp (w : World) (b : Nat) (cs : Array Value) : (stS 75 (.pointer (some ⟨b, 0, none⟩)) (.agg cs)).run Tryz.prog w = if whole w b 40 = true ∧ ones cs 40 = true then .ok () (w.setRow b cs) else (Instr.storeAt 75 (.pointer (some ⟨b, 0, none⟩)) (.agg cs)).run Tryz.prog w := run_stS Tryz.size75 w b cs
def bdRspS (k : Nat) (a : Value) : Sem Value := Instr.build 75 #[(k, a)]
section
variable (ρ : Operand → Value) (dst : Option Tmp) (k : Nat) (a : Operand) (ty : TypeId) (pos : String) (after : Array Edge) (guard : Option (Nat × Bool))
theorem exec_bdRsp : execOp ρ { dst, op := .build 75 #[(k, a)], type := ty, pos, after, guard } = (do pure (.value (← bdRspS k (ρ a)))) := by simp [execOp, bdRspS]
end
theorem run_bdRsp0 (w : World) (c : Int) : (bdRspS 0 (.int .u8 c)).run Tryz.prog w = .ok (.agg (respCs { rsp0 with code := c })) w := by kernel_rfl
theorem run_bdRsp1 (w : World) (c : Int) : (bdRspS 1 (.int .u32 c)).run Tryz.prog w = .ok (.agg (respCs { rsp0 with issued := c })) w := by kernel_rfl
theorem rsp_box (w : World) (g : Nat) (r : Rsp) (h : w.heap[g]? = some (.cells (respCs r) 75 (0, 0))) : whole w g 40 = true ∧ rng w g 0 40 = some (respCs r) :=
  ⟨whole_blk h, rng_whole h⟩

attribute [local go_sem ↓] exec_ldRsp exec_stRsp exec_bdRsp
attribute [local go_sem] run_ldRsp run_stRsp run_bdRsp0 run_bdRsp1 respCs_ones

set_option maxRecDepth 100000 in
set_option maxHeartbeats 1000000 in
theorem refuse_calls (w : World) (c : Int) : Calls Tryz.prog 126 #[.iface 63 (.int .u8 c)] w fun e w' => e = .returned (.agg (respCs { rsp0 with code := c })) ∧ Below w.heap.size w w' := by
  go_enter Tryz.func126, Tryz.ntmps126
  go_upto_region 1 with fail
  have h0 : (w.alloc (.cells (respCs rsp0) 75)).heap[w.heap.size]? = some (.cells (respCs rsp0) 75 (0, 0)) := heap_alloc_at _ _
  have hb : Below w.heap.size w (w.alloc (.cells (respCs rsp0) 75)) := (Below.refl _ _).alloc (Nat.le_refl _) _
  change Code.wp _ _ _ _ (w.alloc (.cells (respCs rsp0) 75))
  generalize w.alloc (.cells (respCs rsp0) 75) = W1 at *
  obtain ⟨h1, -⟩ := rsp_box _ _ _ h0
  have H0 := hide h0
  clear h0
  go_wp2_with (go_at_call 170; refine (tcodeOf_calls _ c).mono ?_; rintro e w5 ⟨rfl, rfl⟩)
  have hfin := heap_setRow_at (ds := respCs { rsp0 with code := c }) H0.out
  refine bodyPost_ret (results_cell1 Tryz.results126 _ _ w.heap.size _ _ _ _ rfl hfin Tryz.underlying75 rfl (by kernel_rfl)) rfl ?_
  exact ⟨rfl, hb.trans ⟨rfl, rfl, rfl, by simp, fun k hk => setRow_other _ _ _ _ (by omega)⟩⟩

set_option maxRecDepth 100000 in
theorem sysOpen_calls (w : World) (S LB : Nat) : Calls Tryz.prog 75 #[.pointer (some ⟨S, 0, none⟩), .pointer (some ⟨LB, 0, none⟩)] w fun e w' => e = .returned (.pointer (some ⟨w.heap.size, 0, none⟩)) ∧ w' = w.alloc (.cells #[.pointer (some ⟨S, 0, none⟩), .pointer (some ⟨LB, 0, none⟩)] 264) := by
  go_enter Tryz.func75, Tryz.ntmps75
  go_wp2
  go_ret
  exact ⟨rfl, rfl⟩

end Go.Proofs.Qxb6500666aGreatDoor
