/- ask: a reading by the root user, on the bench. -/
import Derived.Test.Qxb6500666aGreatDoorRefQ
namespace Go.Proofs.Qxb6500666aGreatDoor
open Go.RowKit

def askReq (k i j : Int) : Req := ⟨k, 1, 0, i, j, 0, 0, 0, 0, 0, 0, 0, 0, 0, 0, 0, []⟩
theorem u8z : U8 0 := ⟨by decide, by decide⟩
theorem i64z : I64 0 := ⟨by decide, by decide⟩
theorem askReq_ok {k i j : Int} (hk : U8 k) (hi : U32 i) (hj : U32 j) : (askReq k i j).Ok :=
  ⟨hk, u32one, i64z, hi, hj, u32z, u32z, u32z, u8z, u8z, i64z, i64z, i64z, i64z, i64z, i64z⟩
theorem exR_rdg {ps : List KV} {full : Bool} {off lar : Int} {L : Low} {r : Req} (h : isRdg r.kind = true) : ∃ c, exR ps full off lar L r = ⟨c, 0, ps, off, lar, L⟩ := by
  unfold exR
  rw [if_neg (by rw [h]; simp)]
  cases authR ps r.user r.kind with
  | error c => exact ⟨c, rfl⟩
  | ok role => exact ⟨0, by dsimp only; rw [if_pos h]⟩
/-- The bench behind Execute. -/
theorem BN.exec {W0 W1 : World} {Bn Y S LB base : Nat} {pv pv' : Value} {A ok A' ok' : Nat → Prop} {zs zs' : List ZP} {full : Bool} {off lar off' lar' : Int} {x x' : LV} {L L' : Low} (h : BN W0 Bn Y S LB base pv A ok zs full off lar x L) (hbs : BS W1 Y S LB base pv' A' ok' zs' full off' lar' x' L') (hfr : Fr W0 W1 S LB base pv pv') (hna : Nw W0 A A') (hno : Nw W0 ok ok') :
    BN W1 Bn Y S LB base pv' A' ok' zs' full off' lar' x' L' ∧ StF W0 W1 Bn Y S LB base pv A ok Y pv' A' ok' := by
  have hBz := blk_lt h.bn
  refine ⟨⟨hbs, (hfr.fr Bn hBz h.ne.2.1 h.ne.2.2 h.n2).trans h.bn, h.ne, fun e => ?_, fun e => ?_, fun e => ?_, h.bb⟩, ⟨fun b q1 q2 q3 _ q5 => hfr.fr b q1 q2 q3 q5, hfr.bel, hfr.own, hna, hno, Or.inl rfl⟩⟩
  · rcases hfr.own with e1 | e1
    · exact h.n2 (e1 ▸ e)
    · have := e1 Bn e; omega
  · rcases hna Bn e with e1 | e1
    · exact h.n3 e1
    · omega
  · rcases hno Bn e with e1 | e1
    · exact h.n4 e1
    · omega
section
variable (ρ : Operand → Value) (dst : Option Tmp) (a0 a1 a3 a4 : Operand) (ty : TypeId) (pos : String) (after : Array Edge) (guard : Option (Nat × Bool))
def bdAskS (a0 a1 a3 a4 : Value) : Sem Value := Instr.build 53 #[(0, a0), (1, a1), (3, a3), (4, a4)]
theorem exec_bdAsk : execOp ρ { dst, op := .build 53 #[(0, a0), (1, a1), (3, a3), (4, a4)], type := ty, pos, after, guard } = (do pure (.value (← bdAskS (ρ a0) (ρ a1) (ρ a3) (ρ a4)))) := by simp [execOp, bdAskS]
end
theorem run_bdAsk (w : World) (k i j : Int) : (bdAskS (.int .u8 k) (.int .u32 1) (.int .u32 i) (.int .u32 j)).run Tryz.prog w = .ok (.agg (reqA (askReq k i j) (.slice none 0 0))) w := by kernel_rfl
attribute [local go_sem ↓] exec_ldRsp exec_stRsp exec_bdAsk
attribute [local go_sem] run_ldRsp run_stRsp run_bdAsk respCs_ones whole_alloc_lt whole_alloc_at whole_drew setRow_alloc_at setRow_alloc_lt rng_alloc_lt rng_alloc_at rng_drew rng_drewN

set_option maxRecDepth 100000 in
set_option maxHeartbeats 4000000 in
theorem BX.ask {w W : World} {K : Nat → Prop} {t : ST} {okg : Nat → Prop} {rn kn ft : Nat → ByteArray} (h : BX w W K t) (hp : PO t.ps t.low) (hgl : Gl W w.heap.size rn kn ft okg) (hoff : 0 ≤ t.off ∧ t.off ≤ 1000000000000000) (k i j : Int) (hk : isRdg k = true) (hi : U32 i) (hj : U32 j) :
    Calls Tryz.prog 27 #[.pointer (some ⟨w.heap.size + 2, 0, none⟩), .int .u8 k, .int .u32 i, .int .u32 j] W fun e w' => ∃ rsp, e = .returned (.agg (respCs rsp)) ∧ BX w w' K t ∧ (∀ g, K g → w'.heap[g]? = W.heap[g]?) ∧ RspP rn kn W w' t.ps t.full t.off t.lar t.low (askReq k i j) rsp := by
  obtain ⟨Y, pv, A, ok, zs, x, h1, h2, h3, h4⟩ := h
  obtain ⟨ps, full, off, lar, low⟩ := t
  dsimp only at h2 hp hoff h1 h4 ⊢
  subst h2
  have hk8 : U8 k := by
    unfold isRdg at hk
    simp at hk
    exact ⟨by omega, by omega⟩
  have HRQ := hide (askReq_ok hk8 hi hj)
  have HRD : Hid (isRdg (askReq k i j).kind = true) := hk
  have H := hide h1
  have HP := hide hp
  have H3 := hide h3
  have H4 := hide h4
  have hBl := blk_lt h1.bn
  have hbw : w.heap.size ≤ W.heap.size := h3.size
  have HGL := hide (fun W' (hb : Below W.heap.size W W') => hgl.same hb hbw)
  clear h1 h3 h4 hp hgl hk
  go_enter Tryz.func27, Tryz.ntmps27
  go_upto_region 1 with fail
  change Code.wp _ _ _ _ (W.alloc (.cells (respCs rsp0) 75))
  have hb0 : Below W.heap.size W (W.alloc (.cells (respCs rsp0) 75)) := (Below.refl _ _).alloc (Nat.le_refl _) _
  have k0 : (W.alloc (.cells (respCs rsp0) 75)).heap[W.heap.size]? = some (.cells (respCs rsp0) 75 (0, 0)) := heap_alloc_at _ _
  generalize W.alloc (.cells (respCs rsp0) 75) = W0 at *
  have HB0 := hide hb0
  have K0 := hide k0
  have z0 := blk_lt k0
  have HN0 := hide (H.out.below hb0)
  have y2 : W0.cell? ⟨w.heap.size + 2, 2, none⟩ = some (.pointer (some ⟨Y, 0, none⟩)) := cells_all HN0.out.bn 2
  have hBz : w.heap.size + 2 < W0.heap.size := blk_lt HN0.out.bn
  have HEX := hide (execute_x W0 Y _ _ _ pv A ok (fun _ => True) okg zs full off lar x low (askReq k i j) (.slice none 0 0) rn kn ft HN0.out.bs HP.out HRQ.out (RArr.nil _ _ _ _) (fun y hy => (by cases hy)) hoff (HGL.out _ hb0))
  clear hb0 k0
  obtain ⟨c, hc⟩ := exR_rdg (ps := zs.map (·.2)) (full := full) (off := off) (lar := lar) (L := low) HRD.out
  rw [hc] at HEX
  clear hc
  go_wp2_with (go_at_call 78; refine HEX.out.mono ?_; rintro e W1 ⟨pv', A', ok', zs', x', rsp, hbs, hmap, rfl, hfr, hna, hno, hrp⟩; have hka := H.out.aw (Nat.le_refl W.heap.size); have k1 := (hfr.fr _ z0 hka.1.2.1 hka.1.2.2 hka.2.2.1).trans K0.out; have hwh : whole W1 W.heap.size 40 = true := (by unfold whole; rw [k1]; rfl); have HBX := hide (HN0.out.exec hbs hfr hna hno); have K1 := hide k1; have HMP := hide hmap; have HRP := hide hrp; have HKA := hide hka; clear hbs hfr hna hno hmap hrp k1 hka)
  have f1 : (W1.setRow W.heap.size (respCs rsp)).heap[W.heap.size]? = some (.cells (respCs rsp) 75 (0, 0)) := setRow_heap W1 W.heap.size _ _ _ _ K1.out
  refine bodyPost_ret (results_cell1 Tryz.results27 _ _ W.heap.size _ _ _ _ rfl f1 Tryz.underlying75 rfl (by kernel_rfl)) rfl ?_
  have hs0 := HB0.out.size
  have hoth : ∀ b, b ≠ W.heap.size → (W1.setRow W.heap.size (respCs rsp)).heap[b]? = W1.heap[b]? := fun b hb => setRow_other _ _ _ _ hb
  have hbel : Below w.heap.size w (W1.setRow W.heap.size (respCs rsp)) := ((H3.out.trans (HB0.out.mono hbw)).trans HBX.out.2.bel).trans ⟨rfl, rfl, rfl, by simp, fun b hb => hoth b (by omega)⟩
  refine ⟨rsp, rfl, ⟨Y, pv', A', ok', zs', x', HBX.out.1.away (HBX.out.2.aw z0 HKA.out).1, HMP.out, hbel, fun g hg => ?_⟩, fun g hg => ?_, RspP.keep hs0 (fun b q1 q2 => hoth b (by omega)) HRP.out⟩
  · have q := H4.out g hg
    have h5 := HBX.out.2.aw (Nat.lt_of_lt_of_le q.1 hs0) q.2
    refine ⟨?_, h5.1⟩
    have := HBX.out.2.bel.size
    have : (W1.setRow W.heap.size (respCs rsp)).heap.size = W1.heap.size := by simp
    omega
  · have q := H4.out g hg
    have h5 := HBX.out.2.aw (Nat.lt_of_lt_of_le q.1 hs0) q.2
    exact (hoth g (by omega)).trans (h5.2.trans (HB0.out.block g q.1))

end Go.Proofs.Qxb6500666aGreatDoor
