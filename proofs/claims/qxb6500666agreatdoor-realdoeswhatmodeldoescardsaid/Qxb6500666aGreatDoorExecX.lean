/- Execute with the exact response. (Made by tools/mk_execx.py.) -/
import Derived.Test.Qxb6500666aGreatDoorExec
namespace Go.Proofs.Qxb6500666aGreatDoor
open Go.RowKit

noncomputable def rd21X (ps : List KV) (r : Req) : Except Int (Rsp → Prop) := (accR ps r.id).map fun s x => x = { rsp0 with role := s.1, active := s.2 }
noncomputable def rd22X (ps : List KV) : Except Int (Rsp → Prop) := (statR ps).map fun s x => x = { rsp0 with st := s }
noncomputable def rd23X (w : World) (w' : World) (ps : List KV) (r : Req) : Except Int (Rsp → Prop) := (entR ps r.id).map fun s x => ∃ a n c, x = { rsp0 with en := s, el := (a, n, c) } ∧ U32sAt w' (w.heap.size ≤ ·) (.slice a n c) s.req.list
noncomputable def rd24X (L : Low) (r : Req) : Except Int (Rsp → Prop) := eligX L r.id r.ref
noncomputable def rd25X (w : World) (w' : World) (ps : List KV) (L : Low) : Except Int (Rsp → Prop) := (optX (pendR ps L)).map fun l x => ∃ a n c, x = { rsp0 with chg := (a, n, c) } ∧ OwnR w' w.heap.size 111 14 changeCs (.slice a n c) l
noncomputable def rd26X (ps : List KV) (r : Req) : Except Int (Rsp → Prop) := (hdrR ps r.id).map fun s x => x = { rsp0 with hd := s }
noncomputable def rd27X (w : World) (w' : World) (ps : List KV) (r : Req) : Except Int (Rsp → Prop) := (fbR ps r.id).map fun l x => ∃ a n c, x = { rsp0 with bytes := (a, n, c) } ∧ OwnR w' w.heap.size 5 1 byteCs (.slice a n c) l
noncomputable def rd28X (w : World) (w' : World) (ps : List KV) (r : Req) : Except Int (Rsp → Prop) := reconX w w' ps r.id r.ref
noncomputable def rd29X (w : World) (w' : World) (L : Low) : Except Int (Rsp → Prop) := (optX (heldRs L)).map fun l x => ∃ a n c, x = { rsp0 with held := (a, n, c) } ∧ OwnR w' w.heap.size 101 3 heldCs (.slice a n c) l
noncomputable def rd30X (rn : Nat → ByteArray) (kn : Nat → ByteArray) (w : World) (w' : World) (ps : List KV) : Except Int (Rsp → Prop) := trailX rn kn w w' ps
/-- What a permitted reading answers. -/
noncomputable def rdX (rn kn : Nat → ByteArray) (w w' : World) (ps : List KV) (L : Low) (r : Req) : Except Int (Rsp → Prop) :=
  if r.kind = 21 then rd21X ps r else
  if r.kind = 22 then rd22X ps else
  if r.kind = 23 then rd23X w w' ps r else
  if r.kind = 24 then rd24X L r else
  if r.kind = 25 then rd25X w w' ps L else
  if r.kind = 26 then rd26X ps r else
  if r.kind = 27 then rd27X w w' ps r else
  if r.kind = 28 then rd28X w w' ps r else
  if r.kind = 29 then rd29X w w' L else
  rd30X rn kn w w' ps
def RV (X : Except Int (Rsp → Prop)) (x : Rsp) : Prop := match X with
  | .error c => x = { rsp0 with code := c }
  | .ok P => P x
theorem RdPost.rv {w w' : World} {e : Ending} {P : Except Int (Rsp → Prop)} (h : RdPost w w' e P) : (∃ x, e = .returned (.agg (respCs x)) ∧ RV P x) ∧ Below w.heap.size w w' := by
  cases P with
  | error c => exact ⟨⟨_, h.1, rfl⟩, h.2⟩
  | ok P => obtain ⟨⟨x, h1, h3⟩, h2⟩ := h; exact ⟨⟨x, h1, h3⟩, h2⟩
theorem RV.imp {P Q : Except Int (Rsp → Prop)} {x : Rsp} (h : RV P x) (h1 : ∀ c, P = .error c → Q = .error c) (h2 : ∀ p, P = .ok p → ∃ q, Q = .ok q ∧ (p x → q x)) : RV Q x := by
  cases P with
  | error c => rw [h1 c rfl]; exact h
  | ok p => obtain ⟨q, e, k⟩ := h2 p rfl; rw [e]; exact k h
theorem RV.map {α : Type} {R : Except Int α} {p q : α → Rsp → Prop} {x : Rsp} (h : RV (R.map p) x) (k : ∀ a, R = .ok a → p a x → q a x) : RV (R.map q) x := by
  cases R with
  | error c => exact h
  | ok a => exact k a rfl h
theorem rdX_keep {rn kn : Nat → ByteArray} {w W1 W3 W4 : World} {ps : List KV} {L : Low} {r : Req} {x : Rsp} (h : w.heap.size ≤ W1.heap.size) (hs : ∀ b, W1.heap.size ≤ b → b < W3.heap.size → W4.heap[b]? = W3.heap[b]?) (hx : RV (rdX rn kn W1 W3 ps L r) x) : RV (rdX rn kn w W4 ps L r) x := by
  have own : ∀ {α : Type} {t : TypeId} {sz : Nat} {f : α → Array Value} {v : Value} {l : List α}, OwnR W3 W1.heap.size t sz f v l → OwnR W4 w.heap.size t sz f v l := fun q => (q.mono fun b e => hs b (q.block b e).1 (q.block b e).2).baseLe h
  unfold rdX at hx ⊢
  iterate 9
    split at hx
    · rename_i e
      rw [if_pos e]
      first
        | exact hx
        | (refine RV.map hx ?_; rintro a - ⟨a1, a2, a3, a4, a5⟩; first | exact ⟨a1, a2, a3, a4, own a5⟩ | exact ⟨a1, a2, a3, a4, RArr.mono (RArr.lt a5) (fun b q => hs b q.1 q.2) (fun b q => by have := q.1; omega)⟩)
        | (unfold rd28X reconX at *; split at hx <;> first | exact hx | (split at hx <;> first | exact hx | (obtain ⟨a1, a2, a3, a4, a5, a6, a7, a8, a9⟩ := hx; exact ⟨a1, a2, a3, a4, a5, a6, a7, own a8, own a9⟩)))
    rename_i e
    rw [if_neg e]
    clear e
  unfold rd30X trailX at *
  split at hx
  · exact hx
  · split at hx
    · exact hx
    · obtain ⟨a1, a2, a3, a4, a5⟩ := hx
      exact ⟨a1, a2, a3, a4, own a5⟩
theorem read_x (w : World) (Y S LB : Nat) (A ok : Nat → Prop) (ps : List KV) (full : Bool) (x : LV) (L : Low) (r : Req) (lv : Value) (h : SysSt w Y S LB A ok ps full x L) (hr : r.Ok) (rn kn ft : Nat → ByteArray) (hnm : NmAt w rn kn ft) (hk : isRdg r.kind = true) :
    Calls Tryz.prog 128 #[.pointer (some ⟨Y, 0, none⟩), .agg (reqA r lv)] w fun e w' => (∃ x, e = .returned (.agg (respCs x)) ∧ RV (rdX rn kn w w' ps L r) x) ∧ Below w.heap.size w w' := by
  rcases kindRd hk with e | e | e | e | e | e | e | e | e | e
  · rw [show reqA r lv = #[.int .u8 21, .int .u32 r.user, .int .i64 r.now, .int .u32 r.id, .int .u32 r.ref, .int .u32 r.kit, .int .u32 r.subject, .int .u32 r.visit, .int .u8 r.role, .int .u8 r.cls, .int .i64 r.time, .int .i64 r.till, .int .i64 r.value, .int .i64 r.l0, .int .i64 r.l1, .int .i64 r.l2, lv] by unfold reqA; rw [e]]
    refine (read21 w Y S LB A ok ps full x L r lv h hr).mono fun e1 w' q => ?_
    rw [show rdX rn kn w w' ps L r = rd21X ps r by unfold rdX; simp [e]]
    exact q.rv
  · rw [show reqA r lv = #[.int .u8 22, .int .u32 r.user, .int .i64 r.now, .int .u32 r.id, .int .u32 r.ref, .int .u32 r.kit, .int .u32 r.subject, .int .u32 r.visit, .int .u8 r.role, .int .u8 r.cls, .int .i64 r.time, .int .i64 r.till, .int .i64 r.value, .int .i64 r.l0, .int .i64 r.l1, .int .i64 r.l2, lv] by unfold reqA; rw [e]]
    refine (read22 w Y S LB A ok ps full x L r lv h ).mono fun e1 w' q => ?_
    rw [show rdX rn kn w w' ps L r = rd22X ps by unfold rdX; simp [e]]
    exact q.rv
  · rw [show reqA r lv = #[.int .u8 23, .int .u32 r.user, .int .i64 r.now, .int .u32 r.id, .int .u32 r.ref, .int .u32 r.kit, .int .u32 r.subject, .int .u32 r.visit, .int .u8 r.role, .int .u8 r.cls, .int .i64 r.time, .int .i64 r.till, .int .i64 r.value, .int .i64 r.l0, .int .i64 r.l1, .int .i64 r.l2, lv] by unfold reqA; rw [e]]
    refine (read23 w Y S LB A ok ps full x L r lv h hr).mono fun e1 w' q => ?_
    rw [show rdX rn kn w w' ps L r = rd23X w w' ps r by unfold rdX; simp [e]]
    exact q.rv
  · rw [show reqA r lv = #[.int .u8 24, .int .u32 r.user, .int .i64 r.now, .int .u32 r.id, .int .u32 r.ref, .int .u32 r.kit, .int .u32 r.subject, .int .u32 r.visit, .int .u8 r.role, .int .u8 r.cls, .int .i64 r.time, .int .i64 r.till, .int .i64 r.value, .int .i64 r.l0, .int .i64 r.l1, .int .i64 r.l2, lv] by unfold reqA; rw [e]]
    refine (read24 w Y S LB A ok ps full x L r lv h ).mono fun e1 w' q => ?_
    rw [show rdX rn kn w w' ps L r = rd24X L r by unfold rdX; simp [e]]
    exact q.rv
  · rw [show reqA r lv = #[.int .u8 25, .int .u32 r.user, .int .i64 r.now, .int .u32 r.id, .int .u32 r.ref, .int .u32 r.kit, .int .u32 r.subject, .int .u32 r.visit, .int .u8 r.role, .int .u8 r.cls, .int .i64 r.time, .int .i64 r.till, .int .i64 r.value, .int .i64 r.l0, .int .i64 r.l1, .int .i64 r.l2, lv] by unfold reqA; rw [e]]
    refine (read25 w Y S LB A ok ps full x L r lv h ).mono fun e1 w' q => ?_
    rw [show rdX rn kn w w' ps L r = rd25X w w' ps L by unfold rdX; simp [e]]
    exact q.rv
  · rw [show reqA r lv = #[.int .u8 26, .int .u32 r.user, .int .i64 r.now, .int .u32 r.id, .int .u32 r.ref, .int .u32 r.kit, .int .u32 r.subject, .int .u32 r.visit, .int .u8 r.role, .int .u8 r.cls, .int .i64 r.time, .int .i64 r.till, .int .i64 r.value, .int .i64 r.l0, .int .i64 r.l1, .int .i64 r.l2, lv] by unfold reqA; rw [e]]
    refine (read26 w Y S LB A ok ps full x L r lv h hr).mono fun e1 w' q => ?_
    rw [show rdX rn kn w w' ps L r = rd26X ps r by unfold rdX; simp [e]]
    exact q.rv
  · rw [show reqA r lv = #[.int .u8 27, .int .u32 r.user, .int .i64 r.now, .int .u32 r.id, .int .u32 r.ref, .int .u32 r.kit, .int .u32 r.subject, .int .u32 r.visit, .int .u8 r.role, .int .u8 r.cls, .int .i64 r.time, .int .i64 r.till, .int .i64 r.value, .int .i64 r.l0, .int .i64 r.l1, .int .i64 r.l2, lv] by unfold reqA; rw [e]]
    refine (read27 w Y S LB A ok ps full x L r lv h hr).mono fun e1 w' q => ?_
    rw [show rdX rn kn w w' ps L r = rd27X w w' ps r by unfold rdX; simp [e]]
    exact q.rv
  · rw [show reqA r lv = #[.int .u8 28, .int .u32 r.user, .int .i64 r.now, .int .u32 r.id, .int .u32 r.ref, .int .u32 r.kit, .int .u32 r.subject, .int .u32 r.visit, .int .u8 r.role, .int .u8 r.cls, .int .i64 r.time, .int .i64 r.till, .int .i64 r.value, .int .i64 r.l0, .int .i64 r.l1, .int .i64 r.l2, lv] by unfold reqA; rw [e]]
    refine (read28 w Y S LB A ok ps full x L r lv h hr).mono fun e1 w' q => ?_
    rw [show rdX rn kn w w' ps L r = rd28X w w' ps r by unfold rdX; simp [e]]
    exact q.rv
  · rw [show reqA r lv = #[.int .u8 29, .int .u32 r.user, .int .i64 r.now, .int .u32 r.id, .int .u32 r.ref, .int .u32 r.kit, .int .u32 r.subject, .int .u32 r.visit, .int .u8 r.role, .int .u8 r.cls, .int .i64 r.time, .int .i64 r.till, .int .i64 r.value, .int .i64 r.l0, .int .i64 r.l1, .int .i64 r.l2, lv] by unfold reqA; rw [e]]
    refine (read29 w Y S LB A ok ps full x L r lv h ).mono fun e1 w' q => ?_
    rw [show rdX rn kn w w' ps L r = rd29X w w' L by unfold rdX; simp [e]]
    exact q.rv
  · rw [show reqA r lv = #[.int .u8 30, .int .u32 r.user, .int .i64 r.now, .int .u32 r.id, .int .u32 r.ref, .int .u32 r.kit, .int .u32 r.subject, .int .u32 r.visit, .int .u8 r.role, .int .u8 r.cls, .int .i64 r.time, .int .i64 r.till, .int .i64 r.value, .int .i64 r.l0, .int .i64 r.l1, .int .i64 r.l2, lv] by unfold reqA; rw [e]]
    refine (read30 w Y S LB A ok ps full x L r lv h rn kn ft hnm).mono fun e1 w' q => ?_
    rw [show rdX rn kn w w' ps L r = rd30X rn kn w w' ps by unfold rdX; simp [e]]
    exact q.rv

/-- What Execute answers. -/
def RspP (rn kn : Nat → ByteArray) (w w' : World) (ps : List KV) (full : Bool) (off lar : Int) (L : Low) (r : Req) (x : Rsp) : Prop :=
  (isRdg r.kind = true → ∀ role, authR ps r.user r.kind = .ok role → RV (rdX rn kn w w' ps L r) x) ∧ ((isRdg r.kind = false ∨ ∃ c, authR ps r.user r.kind = .error c) → x = { rsp0 with code := (exR ps full off lar L r).c, issued := (exR ps full off lar L r).iss })
def ExX (w w' : World) (Y S LB base : Nat) (pv : Value) (A ok : Nat → Prop) (full : Bool) (e : Ending) (R : CR) (RP : Rsp → Prop) : Prop :=
  ∃ pv' A' ok' zs' x' rsp, BS w' Y S LB base pv' A' ok' zs' full R.off R.lar x' R.low ∧ zs'.map (·.2) = R.ps ∧ e = .returned (.agg (respCs rsp)) ∧ Fr w w' S LB base pv pv' ∧ Nw w A A' ∧ Nw w ok ok' ∧ RP rsp
theorem ExX.refuse {w w' : World} {Y S LB base : Nat} {pv : Value} {A ok : Nat → Prop} {zs : List ZP} {full : Bool} {off lar : Int} {x : LV} {L : Low} {c : Int} {R : CR} {RP : Rsp → Prop} (h : BS w Y S LB base pv A ok zs full off lar x L) (hb : Below w.heap.size w w') (hR : R = ⟨c, 0, zs.map (·.2), off, lar, L⟩) (hp : RP { rsp0 with code := c }) : ExX w w' Y S LB base pv A ok full (.returned (.agg (respCs { rsp0 with code := c }))) R RP := by
  subst hR
  exact ⟨pv, A, ok, zs, x, _, h.below hb, rfl, rfl, Fr.of_below hb (by have := h.bs; have := blk_lt h.lb; omega), Nw.refl _ _, Nw.refl _ _, hp⟩

attribute [local go_sem] ext_const Ext.cell Ext.frozen Ext.rng Ext.whole
attribute [local go_sem ↓] exec_ldRsp exec_stRsp exec_bdRsp exec_ldReq exec_stReq
attribute [local go_sem] run_ldRsp run_stRsp run_bdRsp0 run_bdRsp1 respCs_ones run_ldReq run_stReq reqA_size whole_alloc_lt whole_alloc_at whole_drew setRow_alloc_at setRow_alloc_lt rng_alloc_lt rng_alloc_at rng_drew rng_drewN rng_setCell_other whole_setCell_other

set_option maxRecDepth 100000 in
set_option maxHeartbeats 4000000 in
theorem execute_x (w : World) (Y S LB base : Nat) (pv : Value) (A ok okv okg : Nat → Prop) (zs : List ZP) (full : Bool) (off lar : Int) (x : LV) (L : Low) (r : Req) (lv : Value) (rn kn ft : Nat → ByteArray) (h : BS w Y S LB base pv A ok zs full off lar x L) (hp : PO (zs.map (·.2)) L) (hr : r.Ok) (hvis : RArr w okv 1 u32Cs lv r.list) (hids : ∀ y ∈ r.list, U32 y) (hoff : 0 ≤ off ∧ off ≤ 1000000000000000) (hgl : Gl w base rn kn ft okg) :
    Calls Tryz.prog 78 #[.pointer (some ⟨Y, 0, none⟩), .agg (reqA r lv)] w fun e w' => ExX w w' Y S LB base pv A ok full e (exR (zs.map (·.2)) full off lar L r) (RspP rn kn w w' (zs.map (·.2)) full off lar L r) := by
  obtain ⟨R, hR⟩ : ∃ R, R = exR (zs.map (·.2)) full off lar L r := ⟨_, rfl⟩
  rw [← hR]
  have HR := hide hR
  have HS := hide (fun W (hb : Below w.heap.size w W) => (h.toSys hp).below hb)
  have H := hide h
  have HP := hide hp
  have HID := hide hids
  have hbl : base ≤ w.heap.size := by have := h.bs; have := blk_lt h.lb; omega
  have HGL := hide (fun W (hb : Below w.heap.size w W) => hgl.same hb hbl)
  have HVL := hide (RArr.lt hvis)
  clear hR hp h hids hgl
  obtain ⟨la, lc, ll, lo, rfl, hll, -⟩ := hvis
  have HAU := hide (fun W (hb : Below w.heap.size w W) => auth_calls W Y S LB _ okg _ full r (.slice la r.list.length lc) (HS.out W hb).sys (HS.out W hb).st (HS.out W hb).pk (HGL.out W hb).gr hr.user hr.kind)
  obtain ⟨b1, c1⟩ : ∃ b, isCmd r.kind = b := ⟨_, rfl⟩
  obtain ⟨b2, c2⟩ : ∃ b, isRdg r.kind = b := ⟨_, rfl⟩
  have HC1 := hide c1
  have HC2 := hide c2
  go_enter Tryz.func78, Tryz.ntmps78
  go_upto_region 1 with fail
  have H0 := hide (CB.start w (reqA r (.slice la r.list.length lc)))
  change Code.wp _ _ _ _ ((w.alloc (.cells (reqA r (.slice la r.list.length lc)) 53)).alloc (.cells (respCs rsp0) 75))
  generalize (w.alloc (.cells (reqA r (.slice la r.list.length lc)) 53)).alloc (.cells (respCs rsp0) 75) = W0 at *
  obtain ⟨-, hq, hqr, hz⟩ := H0.out.facts
  have q0 := hq 0
  simp only [reqA, List.getElem?_toArray, List.getElem?_cons_zero] at q0
  rw [reqA_size] at hqr
  clear hq
  cases b1 with
  | false =>
    cases b2 with
    | false =>
      have HE : Hid (R = ⟨2, 0, zs.map (·.2), off, lar, L⟩) := HR.out.trans (by unfold exR; rw [HC1.out, HC2.out]; rfl)
      go_wp2_with (first
        | (go_at_call 26; refine (isCmd_calls _ _).mono ?_; rintro e w1 ⟨rfl, rfl⟩; rw [c1])
        | (go_at_call 39; refine (isRdg_calls _ _).mono ?_; rintro e w1 ⟨rfl, rfl⟩; rw [c2])
        | (go_at_call 126; refine (refuse_calls _ 2).mono ?_; rintro e W3 ⟨rfl, hb⟩; have H3 := hide (H0.out.next hb); obtain ⟨h1, -⟩ := H3.out.facts; clear hb))
      obtain ⟨f1, f2⟩ := H3.out.fin { rsp0 with code := 2 }
      refine bodyPost_ret (results_cell1 Tryz.results78 _ _ (w.heap.size + 1) _ _ _ _ rfl f1 Tryz.underlying75 rfl (by kernel_rfl)) rfl ?_
      exact ExX.refuse H.out f2 HE.out ⟨fun q => (by rw [HC2.out] at q; cases q), fun _ => (by rw [← HR.out, HE.out]; rfl)⟩
    | true =>
      have HRA : Hid (R = match authR (zs.map (·.2)) r.user r.kind with | .error c => ⟨c, 0, zs.map (·.2), off, lar, L⟩ | .ok _ => ⟨0, 0, zs.map (·.2), off, lar, L⟩) := HR.out.trans (by unfold exR; rw [HC1.out, HC2.out]; rfl)
      cases ha : authR (zs.map (·.2)) r.user r.kind with
      | error c =>
        have HE : Hid (R = ⟨c, 0, zs.map (·.2), off, lar, L⟩) := HRA.out.trans (by rw [ha])
        have HA := hide ha
        clear ha
        go_wp2_with (first
          | (go_at_call 26; refine (isCmd_calls _ _).mono ?_; rintro e w1 ⟨rfl, rfl⟩; rw [c1])
          | (go_at_call 39; refine (isRdg_calls _ _).mono ?_; rintro e w1 ⟨rfl, rfl⟩; rw [c2])
          | (go_at_call 127; refine (HAU.out _ H0.out.blw).mono ?_; rintro e W1 ⟨he, hb⟩; rw [HA.out] at he; have he : e = .returned (.tuple #[.int .u8 0, .iface 63 (.int .u8 c)]) := he; subst he; have H1 := hide (H0.out.next hb); clear hb)
          | (go_at_call 126; refine (refuse_calls _ c).mono ?_; rintro e W3 ⟨rfl, hb⟩; have H3 := hide (H1.out.next hb); obtain ⟨h1, -⟩ := H3.out.facts; clear hb))
        obtain ⟨f1, f2⟩ := H3.out.fin { rsp0 with code := c }
        refine bodyPost_ret (results_cell1 Tryz.results78 _ _ (w.heap.size + 1) _ _ _ _ rfl f1 Tryz.underlying75 rfl (by kernel_rfl)) rfl ?_
        exact ExX.refuse H.out f2 HE.out ⟨fun _ role q => (by rw [HA.out] at q; cases q), fun _ => (by rw [← HR.out, HE.out]; rfl)⟩
      | ok role =>
        have HE : Hid (R = ⟨0, 0, zs.map (·.2), off, lar, L⟩) := HRA.out.trans (by rw [ha])
        have HA := hide ha
        clear ha
        go_upto_region 7 with (first | (go_at_call 26; refine (isCmd_calls _ _).mono ?_; rintro e w1 ⟨rfl, rfl⟩; rw [c1]) | (go_at_call 39; refine (isRdg_calls _ _).mono ?_; rintro e w1 ⟨rfl, rfl⟩; rw [c2]) | (go_at_call 127; refine (HAU.out _ H0.out.blw).mono ?_; rintro e W1 ⟨he, hb⟩; rw [HA.out] at he; have he : e = .returned (.tuple #[.int .u8 role, .nilIface]) := he; subst he; have H1 := hide (H0.out.next hb); have q1 := H1.out.facts.2.1 0; simp only [reqA, List.getElem?_toArray, List.getElem?_cons_zero] at q1; clear hb))
        have hqr1 := H1.out.facts.2.2.1
        rw [reqA_size] at hqr1
        go_wp2_with (go_at_call 128; refine (read_x _ Y S LB _ ok _ full x L r _ (HS.out _ H1.out.blw) hr rn kn ft (HGL.out _ H1.out.blw).nm HC2.out).mono ?_; rintro e W3 ⟨⟨rsp, rfl, hrv⟩, hb⟩; have HRV := hide hrv; clear hrv; have H3 := hide (H1.out.next hb); obtain ⟨h1, -⟩ := H3.out.facts; clear hb)
        obtain ⟨f1, f2⟩ := H3.out.fin rsp
        refine bodyPost_ret (results_cell1 Tryz.results78 _ _ (w.heap.size + 1) _ _ _ _ rfl f1 Tryz.underlying75 rfl (by kernel_rfl)) rfl ?_
        rw [HE.out]
        exact ⟨pv, A, ok, zs, x, rsp, H.out.below f2, rfl, rfl, Fr.of_below f2 hbl, Nw.refl _ _, Nw.refl _ _, fun _ _ _ => rdX_keep H1.out.blw.size (fun b q _ => setRow_other _ _ _ _ (by have := blk_lt H1.out.rs; omega)) HRV.out, fun q => q.elim (fun q => by rw [HC2.out] at q; cases q) (fun ⟨c, q⟩ => by rw [HA.out] at q; cases q)⟩
  | true =>
    have hb2 : b2 = false := by
      cases b2 with
      | false => rfl
      | true =>
        have h1 := HC1.out
        have h2 := HC2.out
        unfold isCmd at h1
        unfold isRdg at h2
        simp at h1 h2
        omega
    subst hb2
    have HRA : Hid (R = match authR (zs.map (·.2)) r.user r.kind with | .error c => ⟨c, 0, zs.map (·.2), off, lar, L⟩ | .ok role => cmdR (zs.map (·.2)) full off lar L r role) := HR.out.trans (by unfold exR; rw [HC1.out, HC2.out]; rfl)
    cases ha : authR (zs.map (·.2)) r.user r.kind with
    | error c =>
      have HE : Hid (R = ⟨c, 0, zs.map (·.2), off, lar, L⟩) := HRA.out.trans (by rw [ha])
      have HA := hide ha
      clear ha
      go_wp2_with (first
        | (go_at_call 26; refine (isCmd_calls _ _).mono ?_; rintro e w1 ⟨rfl, rfl⟩; rw [c1])
        | (go_at_call 39; refine (isRdg_calls _ _).mono ?_; rintro e w1 ⟨rfl, rfl⟩; rw [c2])
        | (go_at_call 127; refine (HAU.out _ H0.out.blw).mono ?_; rintro e W1 ⟨he, hb⟩; rw [HA.out] at he; have he : e = .returned (.tuple #[.int .u8 0, .iface 63 (.int .u8 c)]) := he; subst he; have H1 := hide (H0.out.next hb); clear hb)
        | (go_at_call 126; refine (refuse_calls _ c).mono ?_; rintro e W3 ⟨rfl, hb⟩; have H3 := hide (H1.out.next hb); obtain ⟨h1, -⟩ := H3.out.facts; clear hb))
      obtain ⟨f1, f2⟩ := H3.out.fin { rsp0 with code := c }
      refine bodyPost_ret (results_cell1 Tryz.results78 _ _ (w.heap.size + 1) _ _ _ _ rfl f1 Tryz.underlying75 rfl (by kernel_rfl)) rfl ?_
      exact ExX.refuse H.out f2 HE.out ⟨fun _ role q => (by rw [HA.out] at q; cases q), fun _ => (by rw [← HR.out, HE.out]; rfl)⟩
    | ok role =>
      have HE : Hid (R = cmdR (zs.map (·.2)) full off lar L r role) := HRA.out.trans (by rw [ha])
      have HRO := hide (authR_u8 HP.out.pk ha)
      have HA := hide ha
      clear ha
      go_upto_region 8 with (first | (go_at_call 26; refine (isCmd_calls _ _).mono ?_; rintro e w1 ⟨rfl, rfl⟩; rw [c1]) | (go_at_call 39; refine (isRdg_calls _ _).mono ?_; rintro e w1 ⟨rfl, rfl⟩; rw [c2]) | (go_at_call 127; refine (HAU.out _ H0.out.blw).mono ?_; rintro e W1 ⟨he, hb⟩; rw [HA.out] at he; have he : e = .returned (.tuple #[.int .u8 role, .nilIface]) := he; subst he; have H1 := hide (H0.out.next hb); have q1 := H1.out.facts.2.1 0; simp only [reqA, List.getElem?_toArray, List.getElem?_cons_zero] at q1; clear hb))
      have hqr1 := H1.out.facts.2.2.1
      rw [reqA_size] at hqr1
      have hk20 : 1 ≤ r.kind ∧ r.kind ≤ 20 := by
        have h1 := HC1.out
        unfold isCmd at h1
        simpa using h1
      have hSl := blk_lt H.out.stm.top
      have hLl := blk_lt H.out.lb
      have hYl := blk_lt H.out.sys
      have hN1 := blk_lt H1.out.rs
      go_wp2_with (go_at_call 129; refine (command_calls _ Y S LB base pv A ok _ zs full off lar x L r _ role (H.out.below H1.out.blw) HP.out hr HRO.out (RArr.mono HVL.out (fun b q => H1.out.blw.block b q.2) (fun _ q => q)) HID.out hk20 hoff (HGL.out _ H1.out.blw).ht).mono ?_; rintro e W3 ⟨pv', A', ok', zs', x', hbs, hmap, rfl, hfr, hna, hno⟩; have HN1 : Hid (W3.heap[w.heap.size + 1]? = some (.cells (respCs rsp0) 75 (0, 0))) := (hfr.fr _ hN1 (by omega) (by omega) (fun q => by have := (H.out.stm.own.block _ q).2; omega)).trans H1.out.rs; have h1 := whole_blk HN1.out; have HBS := hide hbs; have HMP := hide hmap; have HFR := hide hfr; have HNA := hide hna; have HNO := hide hno; clear hbs hmap hfr hna hno)
      have hz3 := HFR.out.bel.size
      have hzw := H1.out.blw.size
      have f1 := heap_setRow_at (ds := respCs { rsp0 with code := (cmdR (zs.map (·.2)) full off lar L r role).c, issued := (cmdR (zs.map (·.2)) full off lar L r role).iss }) HN1.out
      refine bodyPost_ret (results_cell1 Tryz.results78 _ _ (w.heap.size + 1) _ _ _ _ rfl f1 Tryz.underlying75 rfl (by kernel_rfl)) rfl ?_
      rw [HE.out]
      have hfr0 : Fr w W3 S LB base pv pv' := ⟨fun b p1 p2 p3 p4 => (HFR.out.fr b (by omega) p2 p3 p4).trans (H1.out.blw.block b p1), (H1.out.blw.mono hbl).trans HFR.out.bel, HFR.out.own.imp id (fun q b e => by have := q b e; omega)⟩
      refine ⟨pv', A', ok', zs', x', _, HBS.out.other ⟨by omega, by omega, by omega⟩ (fun q => ?_) (fun q => ?_) (fun q => ?_), HMP.out, rfl, hfr0.row (Or.inl (by omega)) (by omega), fun b q => (HNA.out b q).imp id (fun q => by omega), fun b q => (HNO.out b q).imp id (fun q => by omega), fun q => (by rw [HC2.out] at q; cases q), fun _ => (by rw [← HR.out, HE.out])⟩
      · rcases HFR.out.own with e | e
        · have := (H.out.stm.own.block _ (e ▸ q)).2; omega
        · have := e _ q; omega
      · rcases HNA.out _ q with q | q
        · have := H.out.stm.lt _ q; omega
        · omega
      · rcases HNO.out _ q with q | q
        · have := (H.out.okl _ q).1; omega
        · omega

end Go.Proofs.Qxb6500666aGreatDoor
