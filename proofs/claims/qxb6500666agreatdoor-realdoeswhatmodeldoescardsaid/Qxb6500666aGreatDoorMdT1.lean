/- The model's read: kinds 21, 22, 25. (Made by tools/mk_mrd.py.) -/
import Derived.Test.Qxb6500666aGreatDoorMdK6
import Derived.Test.Qxb6500666aGreatDoorMRen
import Derived.Test.Qxb6500666aGreatDoorMRrp
import Derived.Test.Qxb6500666aGreatDoorMRtr
import Derived.Test.Qxb6500666aGreatDoorReadK
import Derived.Test.Qxb6500666aGreatDoorRcnM
import Derived.Test.Qxb6500666aGreatDoorMVrp
namespace Go.Proofs.Qxb6500666aGreatDoor
open Go.RowKit
/-- The file compared from. -/
def mFrom (m : Mod) (id : Int) : Option File := if id = 0 then some ⟨67, 0, 0, 0, []⟩ else mIss m id
/-- What read finds. -/
structure RdI (rn kn ft : Nat → ByteArray) (w : World) (M : Nat) (ok : Nat → Prop) (v : MV) (m : Mod) (r : Req) : Prop where
  at' : MAt w M ok v m
  req : r.Ok
  small : m.low.Small
  times : m.low.Times
  su : SU m.low.sm
  fl : m.fs.length ≤ 100000
  al : m.au.length ≤ 100000
  cl : ∀ f ∈ m.fs, f.changes.length ≤ 65536
  rl : (mrl m.fs m.fs.length).length ≤ 1000000
  file : ∀ f ∈ m.fs, FileOk f.kind f.seq f.issued f.base f.changes ∧ U32 f.seq ∧ I64 f.issued ∧ U32 f.base ∧ ∀ c ∈ f.changes, c.Ok
  ents : ∀ e ∈ m.au, e.Ok
  rep : ∀ fe fl, mFrom m r.id = some fe → mIss m r.ref = some fl → fe.kind = 67 → fl.kind = 67 → r.id < r.ref → rpC r.id r.ref (mDiffs (fe.changes.map (·.row)) (fl.changes.map (·.row))) = 0 ∧ ∀ d ∈ mDiffs (fe.changes.map (·.row)) (fl.changes.map (·.row)), d.Ok
  nm : NmAt w rn kn ft
theorem mIss_mem {m : Mod} {seq : Int} {f : File} (h : mIss m seq = some f) : f ∈ m.fs := by
  unfold mIss at h
  split at h
  · cases h
  · exact List.mem_of_getElem? h
section
variable (ρ : Operand → Value) (dst : Option Tmp) (a b c d e f g : Operand) (ty : TypeId) (pos : String) (after : Array Edge) (guard : Option (Nat × Bool))
def bdHd7S (a b c d e f g : Value) : Sem Value := Instr.build 71 #[(0, a), (1, b), (2, c), (3, d), (4, e), (5, f), (6, g)]
theorem exec_bdHd7 : execOp ρ { dst, op := .build 71 #[(0, a), (1, b), (2, c), (3, d), (4, e), (5, f), (6, g)], type := ty, pos, after, guard } = (do pure (.value (← bdHd7S (ρ a) (ρ b) (ρ c) (ρ d) (ρ e) (ρ f) (ρ g)))) := by simp [execOp, bdHd7S]
end
theorem run_bdHd7 (w : World) (a b c d e f g : Int) : (bdHd7S (.int .u8 a) (.int .u32 b) (.int .i64 c) (.int .u32 d) (.int .u32 e) (.int .u32 f) (.int .u32 g)).run Tryz.prog w = .ok (.agg (hdrCs ⟨a, b, c, d, e, f, g⟩)) w := by kernel_rfl
noncomputable def hdrM (f : File) : Hdr := hdrOf f.kind f.seq f.issued f.base f.changes
/-- What the readings answer. -/
def rdM21 (m : Mod) (r : Req) : Except Int (Rsp → Prop) := if (mUser m r.id).2.1 then .ok (fun x => x = { rsp0 with role := (mUser m r.id).1, active := (mUser m r.id).2.2 }) else .error 17
def rdM22 (m : Mod) : Except Int (Rsp → Prop) := .ok (fun x => x = { rsp0 with st := mStat m })
def rdM23 (ok : Nat → Prop) (w' : World) (m : Mod) (r : Req) : Except Int (Rsp → Prop) := if r.id = 0 ∨ (m.au.length : Int) < r.id then .error 24 else .ok (fun x => ∃ s, m.au[(r.id - 1).toNat]? = some s ∧ ∃ a n c, x = { rsp0 with en := s, el := (a, n, c) } ∧ U32sAt w' ok (.slice a n c) s.req.list)
def rdM24 (m : Mod) (r : Req) : Except Int (Rsp → Prop) := match resGet m.low.sm r.id r.ref with
  | none => .error 21
  | some y => match smpGet m.low.sm r.id with
    | none => .ok (fun _ => True)
    | some s => .ok (fun x => x = { rsp0 with holds := holdsOf m.low s y })
def rdM25 (w w' : World) (m : Mod) : Except Int (Rsp → Prop) := .ok (fun x => ∃ a n c, x = { rsp0 with chg := (a, n, c) } ∧ OwnR w' w.heap.size 111 14 changeCs (.slice a n c) (mPend m))
noncomputable def rdM26 (m : Mod) (r : Req) : Except Int (Rsp → Prop) := match mIss m r.id with | none => .error 23 | some f => .ok (fun x => x = { rsp0 with hd := hdrM f })
noncomputable def rdM27 (w w' : World) (m : Mod) (r : Req) : Except Int (Rsp → Prop) := match mIss m r.id with | none => .error 23 | some f => .ok (fun x => ∃ a n c, x = { rsp0 with bytes := (a, n, c) } ∧ BytesAt w' (w.heap.size ≤ ·) (.slice a n c) (txt f))
/-- What a comparison of two files answers. -/
def rdM28 (w w' : World) (m : Mod) (r : Req) : Except Int (Rsp → Prop) := match mIss m r.ref with
  | none => .error 23
  | some fl => match mFrom m r.id with
    | none => .error 23
    | some fe => if fe.kind != 67 || fl.kind != 67 then .error 26 else if r.ref ≤ r.id then .error 16 else .ok (fun x => ∃ a n c a2 n2 c2, x = { rsp0 with diffs := (a, n, c), bytes := (a2, n2, c2) } ∧ RArr w' (w.heap.size ≤ ·) 5 diffCs (.slice a n c) (mDiffs (fe.changes.map (·.row)) (fl.changes.map (·.row))) ∧ BytesAt w' (w.heap.size ≤ ·) (.slice a2 n2 c2) (repText r.id r.ref (mDiffs (fe.changes.map (·.row)) (fl.changes.map (·.row)))))
/-- The held results as the model lists them. -/
def mHeldOf (L : Low) (k : Row) : Option HeldR := match resGet L.sm k.sample k.analyte, smpGet L.sm k.sample with
  | some y, some s => if holdsOf L s y = 0 then none else some ⟨k.sample, k.analyte, holdsOf L s y⟩
  | _, _ => none
def mKeyL (L : Low) : List Row := L.sm.rs.map (fun y => { zeroRow with sample := y.sample, analyte := y.analyte })
def mHeld (L : Low) : List HeldR := (ordK (mKeyL L)).filterMap (mHeldOf L)
def rdM29 (w w' : World) (m : Mod) : Except Int (Rsp → Prop) := .ok (fun x => ∃ a n c, x = { rsp0 with held := (a, n, c) } ∧ OwnR w' w.heap.size 101 3 heldCs (.slice a n c) (mHeld m.low))
def rdM30 (rn kn : Nat → ByteArray) (w w' : World) (m : Mod) : Except Int (Rsp → Prop) := if rtB 0 m.au then .ok (fun x => ∃ a n c, x = { rsp0 with bytes := (a, n, c) } ∧ BytesAt w' (w.heap.size ≤ ·) (.slice a n c) (trText rn kn m.au)) else .ok (fun x => x = rsp0)
attribute [local go_sem] ext_const Ext.cell Ext.frozen Ext.rng Ext.whole
attribute [local go_sem ↓] exec_ldRsp exec_stRsp exec_bdRsp exec_stStat exec_stHd exec_ldFile exec_stFile exec_bdHd7 exec_bdFile1 exec_ldEnt exec_stEnt exec_ldSmS exec_ldRes exec_stRes exec_ldSmp exec_stSmp exec_ldRow exec_stRow exec_bsRow exec_bdRow2 exec_bdHeld exec_bsHeld
attribute [local go_sem] run_ldRsp run_stRsp run_bdRsp0 run_bdRsp1 respCs_ones run_ldFile run_stFile run_bdHd7 run_bdFile1 fileCs_size fileCs_ones fileCs_all file_ones zfCs_size run_ldEnt run_ldSmS run_ldRes run_stRes resCs_size resCs_ones run_ldSmp run_stSmp smpCs_size smpCs_ones run_ldRow run_stRow run_bsRow run_bdRow2 run_bdHeld run_bsHeld rowCs_size rowCs_ones rowCs_all whole_alloc_lt whole_alloc_at whole_drew setRow_alloc_at setRow_alloc_lt setRow_drew rng_alloc_lt rng_alloc_at rng_drew rng_drewN rng_setCell_other whole_setCell_other

set_option maxRecDepth 100000 in
set_option maxHeartbeats 8000000 in
theorem mrd21_calls (rn kn ft : Nat → ByteArray) (w : World) (M : Nat) (ok : Nat → Prop) (v : MV) (m : Mod) (r : Req) (lv : Value) (h : RdI rn kn ft w M ok v m r) (hk : r.kind = 21) :
    Calls Tryz.prog 145 #[.pointer (some ⟨M, 0, none⟩), .agg (reqA r lv)] w fun e w' => RdPost w w' e (rdM21 m r) := by
  have HH := hide h
  have zM := blk_lt h.at'.top
  clear h
  go_enter Tryz.func145, Tryz.ntmps145
  go_upto_region 2 with fail
  have H0 := hide (RB.start w (reqA r lv))
  change Code.wp _ _ _ _ (((w.alloc (.cells (reqA r lv) 53)).alloc (.cells (respCs rsp0) 75)).alloc (.cells (respCs rsp0) 75))
  generalize (((w.alloc (.cells (reqA r lv) 53)).alloc (.cells (respCs rsp0) 75)).alloc (.cells (respCs rsp0) 75)) = W0 at *
  obtain ⟨-, -, hq, -, -, hz⟩ := H0.out.facts
  have q0 := hq 0
  have q3 := hq 3
  simp only [reqA, List.getElem?_toArray, List.getElem?_cons_zero, List.getElem?_cons_succ] at q0 q3
  rw [hk] at q0
  have HM := hide (HH.out.at'.below H0.out.blw)
  have zM0 : M < W0.heap.size := by omega
  clear hq
  have HU := hide (mUser_calls W0 M ok v m r.id HM.out)
  have HRD : Hid (rdM21 m r = if (mUser m r.id).2.1 then .ok (fun x => x = { rsp0 with role := (mUser m r.id).1, active := (mUser m r.id).2.2 }) else .error 17) := rfl
  generalize mUser m r.id = U at *
  obtain ⟨ro, kn', ac⟩ := U
  cases kn' with
  | false =>
    go_upto_region 6 with (go_at_call 144; refine HU.out.mono ?_; rintro e W1 ⟨rfl, hb⟩; unfold usrAns; have H1 := hide (H0.out.next hb))
    obtain ⟨h1, -⟩ := H1.out.facts
    go_wp2
    obtain ⟨f1, f2⟩ := H1.out.fin (y := { rsp0 with code := 17 })
    refine bodyPost_ret (results_cell1 Tryz.results145 _ _ (w.heap.size + 1) _ _ _ _ rfl f1 Tryz.underlying75 rfl (by kernel_rfl)) rfl ?_
    rw [show rdM21 m r = .error 17 from HRD.out]
    exact ⟨rfl, f2⟩
  | true =>
    go_upto_region 7 with (go_at_call 144; refine HU.out.mono ?_; rintro e W1 ⟨rfl, hb⟩; unfold usrAns; have H1 := hide (H0.out.next hb); have c2 := H1.out.facts.2.2.2.1 2; simp only [respCs, List.getElem?_toArray, List.getElem?_cons_zero, List.getElem?_cons_succ] at c2; have g2 := H1.out.facts.2.2.2.2.1 2; have c3 := H1.out.facts.2.2.2.1 3; simp only [respCs, List.getElem?_toArray, List.getElem?_cons_zero, List.getElem?_cons_succ] at c3; have g3 := H1.out.facts.2.2.2.2.1 3)
    have hz1 := H1.out.facts.2.2.2.2.2
    go_upto_region 66 with fail
    have H2 := hide ((H1.out.cell (j := 2) (v := .int .u8 ro) { rsp0 with role := ro } rfl).cell (j := 3) (v := .bool ac) { rsp0 with role := ro, active := ac } rfl)
    generalize World.setCell _ _ _ = W2 at *
    clear c2 g2 c3 g3
    obtain ⟨h1, h2, -, -, -, -⟩ := H2.out.facts
    go_wp2
    obtain ⟨f1, f2⟩ := H2.out.fin (y := { rsp0 with role := ro, active := ac })
    refine bodyPost_ret (results_cell1 Tryz.results145 _ _ (w.heap.size + 1) _ _ _ _ rfl f1 Tryz.underlying75 rfl (by kernel_rfl)) rfl ?_
    rw [show rdM21 m r = .ok (fun x => x = { rsp0 with role := ro, active := ac }) from HRD.out]
    exact ⟨⟨_, rfl, rfl⟩, f2⟩

set_option maxRecDepth 100000 in
set_option maxHeartbeats 8000000 in
theorem mrd22_calls (rn kn ft : Nat → ByteArray) (w : World) (M : Nat) (ok : Nat → Prop) (v : MV) (m : Mod) (r : Req) (lv : Value) (h : RdI rn kn ft w M ok v m r) (hk : r.kind = 22) :
    Calls Tryz.prog 145 #[.pointer (some ⟨M, 0, none⟩), .agg (reqA r lv)] w fun e w' => RdPost w w' e (rdM22 m) := by
  have HH := hide h
  have zM := blk_lt h.at'.top
  clear h
  go_enter Tryz.func145, Tryz.ntmps145
  go_upto_region 2 with fail
  have H0 := hide (RB.start w (reqA r lv))
  change Code.wp _ _ _ _ (((w.alloc (.cells (reqA r lv) 53)).alloc (.cells (respCs rsp0) 75)).alloc (.cells (respCs rsp0) 75))
  generalize (((w.alloc (.cells (reqA r lv) 53)).alloc (.cells (respCs rsp0) 75)).alloc (.cells (respCs rsp0) 75)) = W0 at *
  obtain ⟨-, -, hq, -, -, hz⟩ := H0.out.facts
  have q0 := hq 0

  simp only [reqA, List.getElem?_toArray, List.getElem?_cons_zero] at q0 
  rw [hk] at q0
  have HM := hide (HH.out.at'.below H0.out.blw)
  have zM0 : M < W0.heap.size := by omega
  clear hq
  have HRD : Hid (rdM22 m = .ok (fun x => x = { rsp0 with st := mStat m })) := rfl
  have HU := hide (mStat_calls W0 M ok v m HM.out (by have := HH.out.fl; omega) (by have := HH.out.al; omega))
  generalize mStat m = s at *
  go_upto_region 66 with (go_at_call 23; refine HU.out.mono ?_; rintro e W1 ⟨rfl, hb⟩; have H1 := hide (H0.out.next hb); have hst := run_stStat4 _ _ _ s H1.out.rp)
  have H2 := hide (H1.out.row { rsp0 with st := s })
  generalize World.setRow _ _ _ = W2 at *
  clear hst
  obtain ⟨h1, h2, -, -, -, -⟩ := H2.out.facts
  go_wp2
  obtain ⟨f1, f2⟩ := H2.out.fin (y := { rsp0 with st := s })
  refine bodyPost_ret (results_cell1 Tryz.results145 _ _ (w.heap.size + 1) _ _ _ _ rfl f1 Tryz.underlying75 rfl (by kernel_rfl)) rfl ?_
  rw [HRD.out]
  exact ⟨⟨_, rfl, rfl⟩, f2⟩

set_option maxRecDepth 100000 in
set_option maxHeartbeats 8000000 in
theorem mrd25_calls (rn kn ft : Nat → ByteArray) (w : World) (M : Nat) (ok : Nat → Prop) (v : MV) (m : Mod) (r : Req) (lv : Value) (h : RdI rn kn ft w M ok v m r) (hk : r.kind = 25) :
    Calls Tryz.prog 145 #[.pointer (some ⟨M, 0, none⟩), .agg (reqA r lv)] w fun e w' => RdPost w w' e (rdM25 w w' m) := by
  have HH := hide h
  have zM := blk_lt h.at'.top
  clear h
  go_enter Tryz.func145, Tryz.ntmps145
  go_upto_region 2 with fail
  have H0 := hide (RB.start w (reqA r lv))
  change Code.wp _ _ _ _ (((w.alloc (.cells (reqA r lv) 53)).alloc (.cells (respCs rsp0) 75)).alloc (.cells (respCs rsp0) 75))
  generalize (((w.alloc (.cells (reqA r lv) 53)).alloc (.cells (respCs rsp0) 75)).alloc (.cells (respCs rsp0) 75)) = W0 at *
  obtain ⟨-, -, hq, -, -, hz⟩ := H0.out.facts
  have q0 := hq 0

  simp only [reqA, List.getElem?_toArray, List.getElem?_cons_zero] at q0 
  rw [hk] at q0
  have HM := hide (HH.out.at'.below H0.out.blw)
  have zM0 : M < W0.heap.size := by omega
  clear hq
  have HRD : Hid (∀ w', rdM25 w w' m = .ok (fun x => ∃ a n c, x = { rsp0 with chg := (a, n, c) } ∧ OwnR w' w.heap.size 111 14 changeCs (.slice a n c) (mPend m))) := fun _ => rfl
  have HU := hide (mPend_calls W0 M ok v m HM.out HH.out.fl HH.out.cl HH.out.rl HH.out.su HH.out.times HH.out.small.sm.b)
  generalize mPend m = P at *
  go_upto_region 66 with (go_at_call 183; refine HU.out.mono ?_; rintro e W1 ⟨v1, rfl, ho, hb⟩; obtain ⟨a, n, c, rfl⟩ := ho.form3; have HO := hide ho; have H1 := hide (H0.out.next hb); have c29 := H1.out.facts.2.2.2.1 29; simp only [respCs, List.getElem?_toArray, List.getElem?_cons_zero, List.getElem?_cons_succ] at c29; have g29 := H1.out.facts.2.2.2.2.1 29; clear hb ho)
  have HO2 : Hid (OwnR (W1.setCell ⟨w.heap.size + 2, 29, none⟩ (.slice a n c)) W0.heap.size 111 14 changeCs (.slice a n c) P) := HO.out.mono fun b hb => Below.heap_setCell _ _ _ _ (fun e => by have := (HO.out.block b hb).1; simp at e; omega)
  have H2 := hide (H1.out.cell (j := 29) (v := .slice a n c) { rsp0 with chg := (a, n, c) } rfl)
  generalize World.setCell _ _ _ = W2 at *
  clear c29 g29
  obtain ⟨h1, h2, -, -, -, -⟩ := H2.out.facts
  go_wp2
  obtain ⟨f1, f2⟩ := H2.out.fin (y := { rsp0 with chg := (a, n, c) })
  refine bodyPost_ret (results_cell1 Tryz.results145 _ _ (w.heap.size + 1) _ _ _ _ rfl f1 Tryz.underlying75 rfl (by kernel_rfl)) rfl ?_
  rw [HRD.out]
  exact ⟨⟨_, rfl, a, n, c, rfl, (HO2.out.mono fun b hb => setRow_other _ _ _ _ (by have := (HO2.out.block b hb).1; omega)).lower H0.out.blw.size⟩, f2⟩
end Go.Proofs.Qxb6500666aGreatDoor
