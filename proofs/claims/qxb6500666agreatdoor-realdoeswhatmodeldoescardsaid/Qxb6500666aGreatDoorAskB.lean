/- A reading changes nothing that was there: Execute and ask with the frame Below. -/
import Derived.Test.Qxb6500666aGreatDoorAsk
namespace Go.Proofs.Qxb6500666aGreatDoor
open Go.RowKit

attribute [local go_sem] ext_const Ext.cell Ext.frozen Ext.rng Ext.whole
attribute [local go_sem ↓] exec_ldRsp exec_stRsp exec_bdRsp exec_ldReq exec_stReq exec_bdAsk
attribute [local go_sem] run_ldRsp run_stRsp run_bdRsp0 run_bdRsp1 run_bdAsk respCs_ones run_ldReq run_stReq reqA_size whole_alloc_lt whole_alloc_at whole_drew setRow_alloc_at setRow_alloc_lt rng_alloc_lt rng_alloc_at rng_drew rng_drewN rng_setCell_other whole_setCell_other

set_option maxRecDepth 100000 in
set_option maxHeartbeats 4000000 in
theorem execute_b (w : World) (Y S LB base : Nat) (A ok okg : Nat → Prop) (ps : List KV) (full : Bool) (off lar : Int) (x : LV) (L : Low) (r : Req) (lv : Value) (rn kn ft : Nat → ByteArray) (h : SysSt w Y S LB A ok ps full x L) (hr : r.Ok) (hbl : base ≤ w.heap.size) (hgl : Gl w base rn kn ft okg) (hk : isRdg r.kind = true) :
    Calls Tryz.prog 78 #[.pointer (some ⟨Y, 0, none⟩), .agg (reqA r lv)] w fun e w' => ∃ rsp, e = .returned (.agg (respCs rsp)) ∧ Below w.heap.size w w' ∧ RspP rn kn w w' ps full off lar L r rsp := by
  have HS := hide (fun W (hb : Below w.heap.size w W) => h.below hb)
  have HGL := hide (fun W (hb : Below w.heap.size w W) => hgl.same hb hbl)
  have HAU := hide (fun W (hb : Below w.heap.size w W) => auth_calls W Y S LB _ okg _ full r lv (HS.out W hb).sys (HS.out W hb).st (HS.out W hb).pk (HGL.out W hb).gr hr.user hr.kind)
  have HC2 := hide hk
  have c2 := hk
  have c1 : isCmd r.kind = false := by
    unfold isRdg at hk
    unfold isCmd
    simp at hk ⊢
    omega
  have HC1 := hide c1
  clear h hgl hk
  go_enter Tryz.func78, Tryz.ntmps78
  go_upto_region 1 with fail
  have H0 := hide (CB.start w (reqA r lv))
  change Code.wp _ _ _ _ ((w.alloc (.cells (reqA r lv) 53)).alloc (.cells (respCs rsp0) 75))
  generalize (w.alloc (.cells (reqA r lv) 53)).alloc (.cells (respCs rsp0) 75) = W0 at *
  obtain ⟨-, hq, hqr, hz⟩ := H0.out.facts
  have q0 := hq 0
  simp only [reqA, List.getElem?_toArray, List.getElem?_cons_zero] at q0
  rw [reqA_size] at hqr
  clear hq
  cases ha : authR ps r.user r.kind with
  | error c =>
    have HA := hide ha
    clear ha
    go_wp2_with (first
      | (go_at_call 26; refine (isCmd_calls _ _).mono ?_; rintro e w1 ⟨rfl, rfl⟩; rw [c1])
      | (go_at_call 39; refine (isRdg_calls _ _).mono ?_; rintro e w1 ⟨rfl, rfl⟩; rw [c2])
      | (go_at_call 127; refine (HAU.out _ H0.out.blw).mono ?_; rintro e W1 ⟨he, hb⟩; rw [HA.out] at he; have he : e = .returned (.tuple #[.int .u8 0, .iface 63 (.int .u8 c)]) := he; subst he; have H1 := hide (H0.out.next hb); clear hb)
      | (go_at_call 126; refine (refuse_calls _ c).mono ?_; rintro e W3 ⟨rfl, hb⟩; have H3 := hide (H1.out.next hb); obtain ⟨h1, -⟩ := H3.out.facts; clear hb))
    obtain ⟨f1, f2⟩ := H3.out.fin { rsp0 with code := c }
    refine bodyPost_ret (results_cell1 Tryz.results78 _ _ (w.heap.size + 1) _ _ _ _ rfl f1 Tryz.underlying75 rfl (by kernel_rfl)) rfl ?_
    refine ⟨_, rfl, f2, fun _ role q => (by rw [HA.out] at q; cases q), fun _ => ?_⟩
    unfold exR
    rw [HC1.out, HC2.out, HA.out]
    rfl
  | ok role =>
    have HA := hide ha
    clear ha
    go_upto_region 7 with (first | (go_at_call 26; refine (isCmd_calls _ _).mono ?_; rintro e w1 ⟨rfl, rfl⟩; rw [c1]) | (go_at_call 39; refine (isRdg_calls _ _).mono ?_; rintro e w1 ⟨rfl, rfl⟩; rw [c2]) | (go_at_call 127; refine (HAU.out _ H0.out.blw).mono ?_; rintro e W1 ⟨he, hb⟩; rw [HA.out] at he; have he : e = .returned (.tuple #[.int .u8 role, .nilIface]) := he; subst he; have H1 := hide (H0.out.next hb); have q1 := H1.out.facts.2.1 0; simp only [reqA, List.getElem?_toArray, List.getElem?_cons_zero] at q1; clear hb))
    have hqr1 := H1.out.facts.2.2.1
    rw [reqA_size] at hqr1
    go_wp2_with (go_at_call 128; refine (read_x _ Y S LB _ ok _ full x L r _ (HS.out _ H1.out.blw) hr rn kn ft (HGL.out _ H1.out.blw).nm HC2.out).mono ?_; rintro e W3 ⟨⟨rsp, rfl, hrv⟩, hb⟩; have HRV := hide hrv; clear hrv; have H3 := hide (H1.out.next hb); obtain ⟨h1, -⟩ := H3.out.facts; clear hb)
    obtain ⟨f1, f2⟩ := H3.out.fin rsp
    refine bodyPost_ret (results_cell1 Tryz.results78 _ _ (w.heap.size + 1) _ _ _ _ rfl f1 Tryz.underlying75 rfl (by kernel_rfl)) rfl ?_
    exact ⟨rsp, rfl, f2, fun _ _ _ => rdX_keep H1.out.blw.size (fun b q _ => setRow_other _ _ _ _ (by have := blk_lt H1.out.rs; omega)) HRV.out, fun q => q.elim (fun q => by rw [HC2.out] at q; cases q) (fun ⟨c, q⟩ => by rw [HA.out] at q; cases q)⟩

set_option maxRecDepth 100000 in
set_option maxHeartbeats 4000000 in
theorem ask_b (W : World) (Bn Y S LB base : Nat) (sv lv' : Value) (A ok okg : Nat → Prop) (ps : List KV) (full : Bool) (off lar : Int) (x : LV) (L : Low) (rn kn ft : Nat → ByteArray) (hbn : W.heap[Bn]? = some (.cells #[sv, lv', .pointer (some ⟨Y, 0, none⟩)] 88 (0, 0))) (h : SysSt W Y S LB A ok ps full x L) (hbl : base ≤ W.heap.size) (hgl : Gl W base rn kn ft okg) (k i j : Int) (hk : isRdg k = true) (hi : U32 i) (hj : U32 j) :
    Calls Tryz.prog 27 #[.pointer (some ⟨Bn, 0, none⟩), .int .u8 k, .int .u32 i, .int .u32 j] W fun e w' => ∃ rsp, e = .returned (.agg (respCs rsp)) ∧ Below W.heap.size W w' ∧ RspP rn kn W w' ps full off lar L (askReq k i j) rsp := by
  have hk8 : U8 k := by
    unfold isRdg at hk
    simp at hk
    exact ⟨by omega, by omega⟩
  have HRQ := hide (askReq_ok hk8 hi hj)
  have HRD : Hid (isRdg (askReq k i j).kind = true) := hk
  have HS := hide (fun W' (hb : Below W.heap.size W W') => h.below hb)
  have HGL := hide (fun W' (hb : Below W.heap.size W W') => hgl.same hb hbl)
  have HBN := hide hbn
  have hBl := blk_lt hbn
  clear h hgl hk hbn
  go_enter Tryz.func27, Tryz.ntmps27
  go_upto_region 1 with fail
  change Code.wp _ _ _ _ (W.alloc (.cells (respCs rsp0) 75))
  have hb0 : Below W.heap.size W (W.alloc (.cells (respCs rsp0) 75)) := (Below.refl _ _).alloc (Nat.le_refl _) _
  have k0 : (W.alloc (.cells (respCs rsp0) 75)).heap[W.heap.size]? = some (.cells (respCs rsp0) 75 (0, 0)) := heap_alloc_at _ _
  generalize W.alloc (.cells (respCs rsp0) 75) = W0 at *
  have HB0 := hide hb0
  have K0 := hide k0
  have z0 := blk_lt k0
  have y2 : W0.cell? ⟨Bn, 2, none⟩ = some (.pointer (some ⟨Y, 0, none⟩)) := cells_all ((hb0.block _ hBl).trans HBN.out) 2
  have hBz : Bn < W0.heap.size := Nat.lt_of_lt_of_le hBl hb0.size
  have HEX := hide (execute_b W0 Y S LB base A ok okg ps full off lar x L (askReq k i j) (.slice none 0 0) rn kn ft (HS.out _ hb0) HRQ.out (Nat.le_trans hbl hb0.size) (HGL.out _ hb0) HRD.out)
  clear hb0 k0
  go_wp2_with (go_at_call 78; refine HEX.out.mono ?_; rintro e W1 ⟨rsp, rfl, hb1, hrp⟩; have k1 := (hb1.block _ z0).trans K0.out; have hwh : whole W1 W.heap.size 40 = true := (by unfold whole; rw [k1]; rfl); have HB1 := hide hb1; have K1 := hide k1; have HRP := hide hrp; clear hb1 hrp k1)
  have f1 : (W1.setRow W.heap.size (respCs rsp)).heap[W.heap.size]? = some (.cells (respCs rsp) 75 (0, 0)) := setRow_heap W1 W.heap.size _ _ _ _ K1.out
  refine bodyPost_ret (results_cell1 Tryz.results27 _ _ W.heap.size _ _ _ _ rfl f1 Tryz.underlying75 rfl (by kernel_rfl)) rfl ?_
  have hs0 := HB0.out.size
  have hoth : ∀ b, b ≠ W.heap.size → (W1.setRow W.heap.size (respCs rsp)).heap[b]? = W1.heap[b]? := fun b hb => setRow_other _ _ _ _ hb
  exact ⟨rsp, rfl, (HB0.out.trans (HB1.out.mono hs0)).trans ⟨rfl, rfl, rfl, by simp, fun b hb => hoth b (by omega)⟩, RspP.keep hs0 (fun b q1 q2 => hoth b (by omega)) HRP.out⟩

/-- A reading by the root user on the bench. -/
theorem BX.askB {w W : World} {K : Nat → Prop} {t : ST} {okg : Nat → Prop} {rn kn ft : Nat → ByteArray} (h : BX w W K t) (hp : PO t.ps t.low) (hgl : Gl W w.heap.size rn kn ft okg) (k i j : Int) (hk : isRdg k = true) (hi : U32 i) (hj : U32 j) :
    Calls Tryz.prog 27 #[.pointer (some ⟨w.heap.size + 2, 0, none⟩), .int .u8 k, .int .u32 i, .int .u32 j] W fun e w' => ∃ rsp, e = .returned (.agg (respCs rsp)) ∧ Below W.heap.size W w' ∧ RspP rn kn W w' t.ps t.full t.off t.lar t.low (askReq k i j) rsp := by
  obtain ⟨Y, pv, A, ok, zs, x, h1, h2, h3, h4⟩ := h
  obtain ⟨ps, full, off, lar, low⟩ := t
  dsimp only at h2 hp h1 ⊢
  subst h2
  exact ask_b W _ Y _ _ _ _ _ _ ok okg _ full off lar x low rn kn ft h1.bn (h1.bs.toSys hp) h3.size hgl k i j hk hi hj

end Go.Proofs.Qxb6500666aGreatDoor
