/- Execute, walked. (Made by tools/mk_exec.py.) -/
import Derived.Test.Qxb6500666aGreatDoorReadA
import Derived.Test.Qxb6500666aGreatDoorReadB
import Derived.Test.Qxb6500666aGreatDoorReadC
import Derived.Test.Qxb6500666aGreatDoorCmd
namespace Go.Proofs.Qxb6500666aGreatDoor
open Go.RowKit

theorem RdPost.weak {w w' : World} {e : Ending} {P : Except Int (Rsp → Prop)} (h : RdPost w w' e P) : (∃ x, e = .returned (.agg (respCs x))) ∧ Below w.heap.size w w' := by
  cases P with
  | error c => exact ⟨⟨_, h.1⟩, h.2⟩
  | ok P => obtain ⟨⟨x, h1, _⟩, h2⟩ := h; exact ⟨⟨x, h1⟩, h2⟩
theorem kindRd {k : Int} (h : isRdg k = true) : k = 21 ∨ k = 22 ∨ k = 23 ∨ k = 24 ∨ k = 25 ∨ k = 26 ∨ k = 27 ∨ k = 28 ∨ k = 29 ∨ k = 30 := by
  unfold isRdg at h
  simp at h
  omega
theorem read_any (w : World) (Y S LB : Nat) (A ok : Nat → Prop) (ps : List KV) (full : Bool) (x : LV) (L : Low) (r : Req) (lv : Value) (h : SysSt w Y S LB A ok ps full x L) (hr : r.Ok) (rn kn ft : Nat → ByteArray) (hnm : NmAt w rn kn ft) (hk : isRdg r.kind = true) :
    Calls Tryz.prog 128 #[.pointer (some ⟨Y, 0, none⟩), .agg (reqA r lv)] w fun e w' => (∃ x, e = .returned (.agg (respCs x))) ∧ Below w.heap.size w w' := by
  rcases kindRd hk with e | e | e | e | e | e | e | e | e | e
  · rw [show reqA r lv = #[.int .u8 21, .int .u32 r.user, .int .i64 r.now, .int .u32 r.id, .int .u32 r.ref, .int .u32 r.kit, .int .u32 r.subject, .int .u32 r.visit, .int .u8 r.role, .int .u8 r.cls, .int .i64 r.time, .int .i64 r.till, .int .i64 r.value, .int .i64 r.l0, .int .i64 r.l1, .int .i64 r.l2, lv] by unfold reqA; rw [e]]
    exact (read21 w Y S LB A ok ps full x L r lv h hr).mono fun _ _ q => q.weak
  · rw [show reqA r lv = #[.int .u8 22, .int .u32 r.user, .int .i64 r.now, .int .u32 r.id, .int .u32 r.ref, .int .u32 r.kit, .int .u32 r.subject, .int .u32 r.visit, .int .u8 r.role, .int .u8 r.cls, .int .i64 r.time, .int .i64 r.till, .int .i64 r.value, .int .i64 r.l0, .int .i64 r.l1, .int .i64 r.l2, lv] by unfold reqA; rw [e]]
    exact (read22 w Y S LB A ok ps full x L r lv h ).mono fun _ _ q => q.weak
  · rw [show reqA r lv = #[.int .u8 23, .int .u32 r.user, .int .i64 r.now, .int .u32 r.id, .int .u32 r.ref, .int .u32 r.kit, .int .u32 r.subject, .int .u32 r.visit, .int .u8 r.role, .int .u8 r.cls, .int .i64 r.time, .int .i64 r.till, .int .i64 r.value, .int .i64 r.l0, .int .i64 r.l1, .int .i64 r.l2, lv] by unfold reqA; rw [e]]
    exact (read23 w Y S LB A ok ps full x L r lv h hr).mono fun _ _ q => q.weak
  · rw [show reqA r lv = #[.int .u8 24, .int .u32 r.user, .int .i64 r.now, .int .u32 r.id, .int .u32 r.ref, .int .u32 r.kit, .int .u32 r.subject, .int .u32 r.visit, .int .u8 r.role, .int .u8 r.cls, .int .i64 r.time, .int .i64 r.till, .int .i64 r.value, .int .i64 r.l0, .int .i64 r.l1, .int .i64 r.l2, lv] by unfold reqA; rw [e]]
    exact (read24 w Y S LB A ok ps full x L r lv h ).mono fun _ _ q => q.weak
  · rw [show reqA r lv = #[.int .u8 25, .int .u32 r.user, .int .i64 r.now, .int .u32 r.id, .int .u32 r.ref, .int .u32 r.kit, .int .u32 r.subject, .int .u32 r.visit, .int .u8 r.role, .int .u8 r.cls, .int .i64 r.time, .int .i64 r.till, .int .i64 r.value, .int .i64 r.l0, .int .i64 r.l1, .int .i64 r.l2, lv] by unfold reqA; rw [e]]
    exact (read25 w Y S LB A ok ps full x L r lv h ).mono fun _ _ q => q.weak
  · rw [show reqA r lv = #[.int .u8 26, .int .u32 r.user, .int .i64 r.now, .int .u32 r.id, .int .u32 r.ref, .int .u32 r.kit, .int .u32 r.subject, .int .u32 r.visit, .int .u8 r.role, .int .u8 r.cls, .int .i64 r.time, .int .i64 r.till, .int .i64 r.value, .int .i64 r.l0, .int .i64 r.l1, .int .i64 r.l2, lv] by unfold reqA; rw [e]]
    exact (read26 w Y S LB A ok ps full x L r lv h hr).mono fun _ _ q => q.weak
  · rw [show reqA r lv = #[.int .u8 27, .int .u32 r.user, .int .i64 r.now, .int .u32 r.id, .int .u32 r.ref, .int .u32 r.kit, .int .u32 r.subject, .int .u32 r.visit, .int .u8 r.role, .int .u8 r.cls, .int .i64 r.time, .int .i64 r.till, .int .i64 r.value, .int .i64 r.l0, .int .i64 r.l1, .int .i64 r.l2, lv] by unfold reqA; rw [e]]
    exact (read27 w Y S LB A ok ps full x L r lv h hr).mono fun _ _ q => q.weak
  · rw [show reqA r lv = #[.int .u8 28, .int .u32 r.user, .int .i64 r.now, .int .u32 r.id, .int .u32 r.ref, .int .u32 r.kit, .int .u32 r.subject, .int .u32 r.visit, .int .u8 r.role, .int .u8 r.cls, .int .i64 r.time, .int .i64 r.till, .int .i64 r.value, .int .i64 r.l0, .int .i64 r.l1, .int .i64 r.l2, lv] by unfold reqA; rw [e]]
    exact (read28 w Y S LB A ok ps full x L r lv h hr).mono fun _ _ q => q.weak
  · rw [show reqA r lv = #[.int .u8 29, .int .u32 r.user, .int .i64 r.now, .int .u32 r.id, .int .u32 r.ref, .int .u32 r.kit, .int .u32 r.subject, .int .u32 r.visit, .int .u8 r.role, .int .u8 r.cls, .int .i64 r.time, .int .i64 r.till, .int .i64 r.value, .int .i64 r.l0, .int .i64 r.l1, .int .i64 r.l2, lv] by unfold reqA; rw [e]]
    exact (read29 w Y S LB A ok ps full x L r lv h ).mono fun _ _ q => q.weak
  · rw [show reqA r lv = #[.int .u8 30, .int .u32 r.user, .int .i64 r.now, .int .u32 r.id, .int .u32 r.ref, .int .u32 r.kit, .int .u32 r.subject, .int .u32 r.visit, .int .u8 r.role, .int .u8 r.cls, .int .i64 r.time, .int .i64 r.till, .int .i64 r.value, .int .i64 r.l0, .int .i64 r.l1, .int .i64 r.l2, lv] by unfold reqA; rw [e]]
    exact (read30 w Y S LB A ok ps full x L r lv h rn kn ft hnm).mono fun _ _ q => q.weak

theorem decAcc_u8 {bs : List Int} {a : Int × Bool} (hb : ByteL bs) (h : decAcc bs = some a) : U8 a.1 := by
  have b0 : ByteL (⟨bs, false⟩ : Rd).rest := hb
  have h1 := dig1_u8 b0
  unfold decAcc at h
  dsimp only at h
  repeat' split at h
  all_goals first | (injection h with h; subst h; exact h1) | cases h
theorem authR_u8 {ps : List KV} {u k x : Int} (hps : PsOk ps) (h : authR ps u k = .ok x) : U8 x := by
  unfold authR at h
  split at h
  · split at h <;> cases h
  · rename_i a ha
    split at h
    · cases h
    · split at h
      · cases h
      · injection h with h
        subst h
        unfold accR at ha
        split at ha
        · injection ha with ha; subst ha; exact u8c 1 (by decide)
        · split at ha
          · cases ha
          · rename_i v hv
            unfold ofOpt at ha
            split at ha
            · cases ha
            · rename_i y hy
              injection ha with ha
              subst ha
              exact decAcc_u8 (getB_ok hps hv) hy
/-- The variables that are laid. -/
structure Gl (w : World) (B : Nat) (rn kn ft : Nat → ByteArray) (okg : Nat → Prop) : Prop where
  nm : NmAt w rn kn ft
  ht : HtAt w
  gr : GrAt w okg
  lt : ∀ b, okg b → b < B
  b5 : 5 < B
theorem Gl.same {w w' : World} {B C : Nat} {rn kn ft : Nat → ByteArray} {okg : Nat → Prop} (h : Gl w B rn kn ft okg) (hb : Below C w w') (hC : B ≤ C) : Gl w' B rn kn ft okg :=
  have h5 := h.b5
  ⟨h.nm.same hb (by omega), h.ht.below hb (by omega), ⟨fun k hk => by
    obtain ⟨v, h1, h2⟩ := h.gr.tab k hk
    exact ⟨v, (hb.cell (p := ⟨_, _, none⟩) (by dsimp only; omega)).trans h1, RArr.mono h2 (fun b q => hb.block b (by have := h.lt b q; omega)) (fun _ q => q)⟩, Nat.lt_of_lt_of_le h.gr.lt hb.size⟩, h.lt, h5⟩
noncomputable def exR (ps : List KV) (full : Bool) (off lar : Int) (L : Low) (r : Req) : CR :=
  if (! isCmd r.kind && ! isRdg r.kind) = true then ⟨2, 0, ps, off, lar, L⟩ else match authR ps r.user r.kind with
    | .error c => ⟨c, 0, ps, off, lar, L⟩
    | .ok role => if isRdg r.kind = true then ⟨0, 0, ps, off, lar, L⟩ else cmdR ps full off lar L r role
def ExPost (w w' : World) (Y S LB base : Nat) (pv : Value) (A ok : Nat → Prop) (full : Bool) (rdg : Bool) (e : Ending) (R : CR) : Prop :=
  ∃ pv' A' ok' zs' x' rsp, BS w' Y S LB base pv' A' ok' zs' full R.off R.lar x' R.low ∧ zs'.map (·.2) = R.ps ∧ e = .returned (.agg (respCs rsp)) ∧ Fr w w' S LB base pv pv' ∧ Nw w A A' ∧ Nw w ok ok' ∧ (rdg = false → rsp = { rsp0 with code := R.c, issued := R.iss })
theorem ExPost.refuse {w w' : World} {Y S LB base : Nat} {pv : Value} {A ok : Nat → Prop} {zs : List ZP} {full : Bool} {off lar : Int} {x : LV} {L : Low} {c : Int} {R : CR} {rd : Bool} (h : BS w Y S LB base pv A ok zs full off lar x L) (hb : Below w.heap.size w w') (hR : R = ⟨c, 0, zs.map (·.2), off, lar, L⟩) : ExPost w w' Y S LB base pv A ok full rd (.returned (.agg (respCs { rsp0 with code := c }))) R := by
  subst hR
  exact ⟨pv, A, ok, zs, x, _, h.below hb, rfl, rfl, Fr.of_below hb (by have := h.bs; have := blk_lt h.lb; omega), Nw.refl _ _, Nw.refl _ _, fun _ => rfl⟩

attribute [local go_sem] ext_const Ext.cell Ext.frozen Ext.rng Ext.whole
attribute [local go_sem ↓] exec_ldRsp exec_stRsp exec_bdRsp exec_ldReq exec_stReq
attribute [local go_sem] run_ldRsp run_stRsp run_bdRsp0 run_bdRsp1 respCs_ones run_ldReq run_stReq reqA_size whole_alloc_lt whole_alloc_at whole_drew setRow_alloc_at setRow_alloc_lt rng_alloc_lt rng_alloc_at rng_drew rng_drewN rng_setCell_other whole_setCell_other

set_option maxRecDepth 100000 in
set_option maxHeartbeats 4000000 in
theorem execute_calls (w : World) (Y S LB base : Nat) (pv : Value) (A ok okv okg : Nat → Prop) (zs : List ZP) (full : Bool) (off lar : Int) (x : LV) (L : Low) (r : Req) (lv : Value) (rn kn ft : Nat → ByteArray) (h : BS w Y S LB base pv A ok zs full off lar x L) (hp : PO (zs.map (·.2)) L) (hr : r.Ok) (hvis : RArr w okv 1 u32Cs lv r.list) (hids : ∀ y ∈ r.list, U32 y) (hoff : 0 ≤ off ∧ off ≤ 1000000000000000) (hgl : Gl w base rn kn ft okg) :
    Calls Tryz.prog 78 #[.pointer (some ⟨Y, 0, none⟩), .agg (reqA r lv)] w fun e w' => ExPost w w' Y S LB base pv A ok full (isRdg r.kind) e (exR (zs.map (·.2)) full off lar L r) := by
  obtain ⟨R, hR⟩ : ∃ R, R = exR (zs.map (·.2)) full off lar L r := ⟨_, rfl⟩
  rw [← hR]
  have HR := hide hR
  have HS := hide (fun W (hb : Below w.heap.size w W) => (h.toSys hp).below hb)
  have H := hide h
  have HP := hide hp
  have HID := hide hids
  have hbl : base ≤ w.heap.size := by have := h.bs; have := blk_lt h.lb; omega
  have HGL := hide (fun W (hb : Below w.heap.size w W) => hgl.same hb hbl)
  have HVL := hide (RArr.lt hvis)
  clear hR hp h hids hgl
  obtain ⟨la, lc, ll, lo, rfl, hll, -⟩ := hvis
  have HAU := hide (fun W (hb : Below w.heap.size w W) => auth_calls W Y S LB _ okg _ full r (.slice la r.list.length lc) (HS.out W hb).sys (HS.out W hb).st (HS.out W hb).pk (HGL.out W hb).gr hr.user hr.kind)
  obtain ⟨b1, c1⟩ : ∃ b, isCmd r.kind = b := ⟨_, rfl⟩
  obtain ⟨b2, c2⟩ : ∃ b, isRdg r.kind = b := ⟨_, rfl⟩
  have HC1 := hide c1
  have HC2 := hide c2
  rw [c2]
  go_enter Tryz.func78, Tryz.ntmps78
  go_upto_region 1 with fail
  have H0 := hide (CB.start w (reqA r (.slice la r.list.length lc)))
  change Code.wp _ _ _ _ ((w.alloc (.cells (reqA r (.slice la r.list.length lc)) 53)).alloc (.cells (respCs rsp0) 75))
  generalize (w.alloc (.cells (reqA r (.slice la r.list.length lc)) 53)).alloc (.cells (respCs rsp0) 75) = W0 at *
  obtain ⟨-, hq, hqr, hz⟩ := H0.out.facts
  have q0 := hq 0
  simp only [reqA, List.getElem?_toArray, List.getElem?_cons_zero] at q0
  rw [reqA_size] at hqr
  clear hq
  cases b1 with
  | false =>
    cases b2 with
    | false =>
      have HE : Hid (R = ⟨2, 0, zs.map (·.2), off, lar, L⟩) := HR.out.trans (by unfold exR; rw [HC1.out, HC2.out]; rfl)
      go_wp2_with (first
        | (go_at_call 26; refine (isCmd_calls _ _).mono ?_; rintro e w1 ⟨rfl, rfl⟩; rw [c1])
        | (go_at_call 39; refine (isRdg_calls _ _).mono ?_; rintro e w1 ⟨rfl, rfl⟩; rw [c2])
        | (go_at_call 126; refine (refuse_calls _ 2).mono ?_; rintro e W3 ⟨rfl, hb⟩; have H3 := hide (H0.out.next hb); obtain ⟨h1, -⟩ := H3.out.facts; clear hb))
      obtain ⟨f1, f2⟩ := H3.out.fin { rsp0 with code := 2 }
      refine bodyPost_ret (results_cell1 Tryz.results78 _ _ (w.heap.size + 1) _ _ _ _ rfl f1 Tryz.underlying75 rfl (by kernel_rfl)) rfl ?_
      exact ExPost.refuse H.out f2 HE.out
    | true =>
      have HRA : Hid (R = match authR (zs.map (·.2)) r.user r.kind with | .error c => ⟨c, 0, zs.map (·.2), off, lar, L⟩ | .ok _ => ⟨0, 0, zs.map (·.2), off, lar, L⟩) := HR.out.trans (by unfold exR; rw [HC1.out, HC2.out]; rfl)
      cases ha : authR (zs.map (·.2)) r.user r.kind with
      | error c =>
        have HE : Hid (R = ⟨c, 0, zs.map (·.2), off, lar, L⟩) := HRA.out.trans (by rw [ha])
        have HA := hide ha
        clear ha
        go_wp2_with (first
          | (go_at_call 26; refine (isCmd_calls _ _).mono ?_; rintro e w1 ⟨rfl, rfl⟩; rw [c1])
          | (go_at_call 39; refine (isRdg_calls _ _).mono ?_; rintro e w1 ⟨rfl, rfl⟩; rw [c2])
          | (go_at_call 127; refine (HAU.out _ H0.out.blw).mono ?_; rintro e W1 ⟨he, hb⟩; rw [HA.out] at he; have he : e = .returned (.tuple #[.int .u8 0, .iface 63 (.int .u8 c)]) := he; subst he; have H1 := hide (H0.out.next hb); clear hb)
          | (go_at_call 126; refine (refuse_calls _ c).mono ?_; rintro e W3 ⟨rfl, hb⟩; have H3 := hide (H1.out.next hb); obtain ⟨h1, -⟩ := H3.out.facts; clear hb))
        obtain ⟨f1, f2⟩ := H3.out.fin { rsp0 with code := c }
        refine bodyPost_ret (results_cell1 Tryz.results78 _ _ (w.heap.size + 1) _ _ _ _ rfl f1 Tryz.underlying75 rfl (by kernel_rfl)) rfl ?_
        exact ExPost.refuse H.out f2 HE.out
      | ok role =>
        have HE : Hid (R = ⟨0, 0, zs.map (·.2), off, lar, L⟩) := HRA.out.trans (by rw [ha])
        have HA := hide ha
        clear ha
        go_upto_region 7 with (first | (go_at_call 26; refine (isCmd_calls _ _).mono ?_; rintro e w1 ⟨rfl, rfl⟩; rw [c1]) | (go_at_call 39; refine (isRdg_calls _ _).mono ?_; rintro e w1 ⟨rfl, rfl⟩; rw [c2]) | (go_at_call 127; refine (HAU.out _ H0.out.blw).mono ?_; rintro e W1 ⟨he, hb⟩; rw [HA.out] at he; have he : e = .returned (.tuple #[.int .u8 role, .nilIface]) := he; subst he; have H1 := hide (H0.out.next hb); have q1 := H1.out.facts.2.1 0; simp only [reqA, List.getElem?_toArray, List.getElem?_cons_zero] at q1; clear hb))
        have hqr1 := H1.out.facts.2.2.1
        rw [reqA_size] at hqr1
        go_wp2_with (go_at_call 128; refine (read_any _ Y S LB _ ok _ full x L r _ (HS.out _ H1.out.blw) hr rn kn ft (HGL.out _ H1.out.blw).nm HC2.out).mono ?_; rintro e W3 ⟨⟨rsp, rfl⟩, hb⟩; have H3 := hide (H1.out.next hb); obtain ⟨h1, -⟩ := H3.out.facts; clear hb)
        obtain ⟨f1, f2⟩ := H3.out.fin rsp
        refine bodyPost_ret (results_cell1 Tryz.results78 _ _ (w.heap.size + 1) _ _ _ _ rfl f1 Tryz.underlying75 rfl (by kernel_rfl)) rfl ?_
        rw [HE.out]
        exact ⟨pv, A, ok, zs, x, rsp, H.out.below f2, rfl, rfl, Fr.of_below f2 hbl, Nw.refl _ _, Nw.refl _ _, fun q => by cases q⟩
  | true =>
    have hb2 : b2 = false := by
      cases b2 with
      | false => rfl
      | true =>
        have h1 := HC1.out
        have h2 := HC2.out
        unfold isCmd at h1
        unfold isRdg at h2
        simp at h1 h2
        omega
    subst hb2
    have HRA : Hid (R = match authR (zs.map (·.2)) r.user r.kind with | .error c => ⟨c, 0, zs.map (·.2), off, lar, L⟩ | .ok role => cmdR (zs.map (·.2)) full off lar L r role) := HR.out.trans (by unfold exR; rw [HC1.out, HC2.out]; rfl)
    cases ha : authR (zs.map (·.2)) r.user r.kind with
    | error c =>
      have HE : Hid (R = ⟨c, 0, zs.map (·.2), off, lar, L⟩) := HRA.out.trans (by rw [ha])
      have HA := hide ha
      clear ha
      go_wp2_with (first
        | (go_at_call 26; refine (isCmd_calls _ _).mono ?_; rintro e w1 ⟨rfl, rfl⟩; rw [c1])
        | (go_at_call 39; refine (isRdg_calls _ _).mono ?_; rintro e w1 ⟨rfl, rfl⟩; rw [c2])
        | (go_at_call 127; refine (HAU.out _ H0.out.blw).mono ?_; rintro e W1 ⟨he, hb⟩; rw [HA.out] at he; have he : e = .returned (.tuple #[.int .u8 0, .iface 63 (.int .u8 c)]) := he; subst he; have H1 := hide (H0.out.next hb); clear hb)
        | (go_at_call 126; refine (refuse_calls _ c).mono ?_; rintro e W3 ⟨rfl, hb⟩; have H3 := hide (H1.out.next hb); obtain ⟨h1, -⟩ := H3.out.facts; clear hb))
      obtain ⟨f1, f2⟩ := H3.out.fin { rsp0 with code := c }
      refine bodyPost_ret (results_cell1 Tryz.results78 _ _ (w.heap.size + 1) _ _ _ _ rfl f1 Tryz.underlying75 rfl (by kernel_rfl)) rfl ?_
      exact ExPost.refuse H.out f2 HE.out
    | ok role =>
      have HE : Hid (R = cmdR (zs.map (·.2)) full off lar L r role) := HRA.out.trans (by rw [ha])
      have HRO := hide (authR_u8 HP.out.pk ha)
      have HA := hide ha
      clear ha
      go_upto_region 8 with (first | (go_at_call 26; refine (isCmd_calls _ _).mono ?_; rintro e w1 ⟨rfl, rfl⟩; rw [c1]) | (go_at_call 39; refine (isRdg_calls _ _).mono ?_; rintro e w1 ⟨rfl, rfl⟩; rw [c2]) | (go_at_call 127; refine (HAU.out _ H0.out.blw).mono ?_; rintro e W1 ⟨he, hb⟩; rw [HA.out] at he; have he : e = .returned (.tuple #[.int .u8 role, .nilIface]) := he; subst he; have H1 := hide (H0.out.next hb); have q1 := H1.out.facts.2.1 0; simp only [reqA, List.getElem?_toArray, List.getElem?_cons_zero] at q1; clear hb))
      have hqr1 := H1.out.facts.2.2.1
      rw [reqA_size] at hqr1
      have hk20 : 1 ≤ r.kind ∧ r.kind ≤ 20 := by
        have h1 := HC1.out
        unfold isCmd at h1
        simpa using h1
      have hSl := blk_lt H.out.stm.top
      have hLl := blk_lt H.out.lb
      have hYl := blk_lt H.out.sys
      have hN1 := blk_lt H1.out.rs
      go_wp2_with (go_at_call 129; refine (command_calls _ Y S LB base pv A ok _ zs full off lar x L r _ role (H.out.below H1.out.blw) HP.out hr HRO.out (RArr.mono HVL.out (fun b q => H1.out.blw.block b q.2) (fun _ q => q)) HID.out hk20 hoff (HGL.out _ H1.out.blw).ht).mono ?_; rintro e W3 ⟨pv', A', ok', zs', x', hbs, hmap, rfl, hfr, hna, hno⟩; have HN1 : Hid (W3.heap[w.heap.size + 1]? = some (.cells (respCs rsp0) 75 (0, 0))) := (hfr.fr _ hN1 (by omega) (by omega) (fun q => by have := (H.out.stm.own.block _ q).2; omega)).trans H1.out.rs; have h1 := whole_blk HN1.out; have HBS := hide hbs; have HMP := hide hmap; have HFR := hide hfr; have HNA := hide hna; have HNO := hide hno; clear hbs hmap hfr hna hno)
      have hz3 := HFR.out.bel.size
      have hzw := H1.out.blw.size
      have f1 := heap_setRow_at (ds := respCs { rsp0 with code := (cmdR (zs.map (·.2)) full off lar L r role).c, issued := (cmdR (zs.map (·.2)) full off lar L r role).iss }) HN1.out
      refine bodyPost_ret (results_cell1 Tryz.results78 _ _ (w.heap.size + 1) _ _ _ _ rfl f1 Tryz.underlying75 rfl (by kernel_rfl)) rfl ?_
      rw [HE.out]
      have hfr0 : Fr w W3 S LB base pv pv' := ⟨fun b p1 p2 p3 p4 => (HFR.out.fr b (by omega) p2 p3 p4).trans (H1.out.blw.block b p1), (H1.out.blw.mono hbl).trans HFR.out.bel, HFR.out.own.imp id (fun q b e => by have := q b e; omega)⟩
      refine ⟨pv', A', ok', zs', x', _, HBS.out.other ⟨by omega, by omega, by omega⟩ (fun q => ?_) (fun q => ?_) (fun q => ?_), HMP.out, rfl, hfr0.row (Or.inl (by omega)) (by omega), fun b q => (HNA.out b q).imp id (fun q => by omega), fun b q => (HNO.out b q).imp id (fun q => by omega), fun _ => rfl⟩
      · rcases HFR.out.own with e | e
        · have := (H.out.stm.own.block _ (e ▸ q)).2; omega
        · have := e _ q; omega
      · rcases HNA.out _ q with q | q
        · have := H.out.stm.lt _ q; omega
        · omega
      · rcases HNO.out _ q with q | q
        · have := (H.out.okl _ q).1; omega
        · omega

end Go.Proofs.Qxb6500666aGreatDoor
