/- The model's Step. (Made by tools/mk_mst.py.) -/
import Derived.Test.Qxb6500666aGreatDoorMdX
import Derived.Test.Qxb6500666aGreatDoorXAll
import Derived.Test.Qxb6500666aGreatDoorDmgX
import Derived.Test.Qxb6500666aGreatDoorOnlP
import Derived.Test.Qxb6500666aGreatDoorStX
import Derived.Test.Qxb6500666aGreatDoorModelValid
namespace Go.Proofs.Qxb6500666aGreatDoor
open Go.RowKit
/-- A string of bytes as a file, if it renders one: chosen once. -/
structure PkF where
  t : Bool
  k : Int
  s : Int
  i : Int
  bb : Int
  cs : List Change
theorem pkF_ex (bs : List Int) : ∃ p : PkF, PFt bs p.t p.k p.s p.i p.bb p.cs := by
  obtain ⟨t, k, s, i, bb, cs, h⟩ := ft_pick bs
  exact ⟨⟨t, k, s, i, bb, cs⟩, h⟩
noncomputable def pkF (bs : List Int) : PkF := Classical.choose (pkF_ex bs)
theorem pkF_is (bs : List Int) : PFt bs (pkF bs).t (pkF bs).k (pkF bs).s (pkF bs).i (pkF bs).bb (pkF bs).cs := Classical.choose_spec (pkF_ex bs)
/-- A string of bytes as a trail, if it renders one: chosen once. -/
structure PkT where
  t : Bool
  xs : List Ent
theorem pkT_ex (rn kn : Nat → ByteArray) (bs : List Int) : ∃ p : PkT, PTt rn kn bs p.t p.xs := by
  obtain ⟨t, xs, h⟩ := tt_pick rn kn bs
  exact ⟨⟨t, xs⟩, h⟩
noncomputable def pkT (rn kn : Nat → ByteArray) (bs : List Int) : PkT := Classical.choose (pkT_ex rn kn bs)
theorem pkT_is (rn kn : Nat → ByteArray) (bs : List Int) : PTt rn kn bs (pkT rn kn bs).t (pkT rn kn bs).xs := Classical.choose_spec (pkT_ex rn kn bs)
/-- The answer when bytes are put to the parser of files. -/
def ParA (w w' : World) (p : PkF) (a : AnsR) : Prop := (p.t = false ∧ a = { ans0 with code := 29 }) ∨ (p.t = true ∧ ∃ ad cap, a = { ans0 with fk := p.k, fs := p.s, fi := p.i, fb := p.bb, fc := (ad, p.cs.length, cap) } ∧ ChangesAt w' (w.heap.size ≤ ·) (.slice ad p.cs.length cap) p.cs)
/-- The answer when bytes are put to the parser of trails. -/
def TrlA (w w' : World) (p : PkT) (a : AnsR) : Prop := (p.t = false ∧ a = { ans0 with code := 29 }) ∨ (p.t = true ∧ ∃ ad cap zs, a = { ans0 with trail := (ad, zs.length, cap) } ∧ RArr w' (w.heap.size ≤ ·) 20 zeCs (.slice ad zs.length cap) zs ∧ ZipE w' (w.heap.size ≤ ·) zs ∧ zs.map (·.1) = p.xs)
/-- The answer when a file is rendered. -/
def RenA (w w' : World) (f : FileD) (a : AnsR) : Prop := (FileOk f.kind f.seq f.issued f.base f.changes → ∃ ad n c, a = { ans0 with bytes := (ad, n, c) } ∧ BytesAt w' (w.heap.size ≤ ·) (.slice ad n c) (fileText f.kind f.seq f.issued f.base f.changes)) ∧ (¬ FileOk f.kind f.seq f.issued f.base f.changes → a = { ans0 with code := 29 })
def trT (rn kn : Nat → ByteArray) (m : Mod) : List Int := if rtB 0 m.au then trText rn kn m.au else []
/-- What Step answers. -/
structure AnsM (rn kn : Nat → ByteArray) (ok : Nat → Prop) (w w' : World) (m : Mod) (o : Op) (a : AnsR) : Prop where
  k1 : o.kind = 1 → ∃ x, a = { ans0 with resp := x } ∧ RspM rn kn ok w w' m o.req x
  k23 : o.kind = 2 ∨ o.kind = 3 → a = ans0
  k4 : o.kind = 4 → ParA w w' (pkF o.data) a
  k5 : o.kind = 5 → (mIss m o.seq = none → a = { ans0 with code := 23 }) ∧ ∀ f, mIss m o.seq = some f → ParA w w' (pkF (dmgP (txt f) o.mode o.num o.data)) a
  k6 : o.kind = 6 → RenA w w' o.file a
  k7 : o.kind = 7 → TrlA w w' (pkT rn kn (dmgP (trT rn kn m) o.mode o.num o.data)) a
  kd : (o.kind ≠ 1 ∧ o.kind ≠ 2 ∧ o.kind ≠ 3 ∧ o.kind ≠ 4 ∧ o.kind ≠ 5 ∧ o.kind ≠ 6 ∧ o.kind ≠ 7) → a = { ans0 with code := 1 }
/-- What Step finds. -/
structure StI (rn kn ft : Nat → ByteArray) (okg : Nat → Prop) (w : World) (M : Nat) (ok : Nat → Prop) (v : MV) (m : Mod) (o : Op) (lv dv : Value) (ca : Option Addr) (cn cc : Nat) : Prop where
  at' : MAt w M ok v m
  nok : ∀ b, ok b → b ≠ M
  new : ∀ b, w.heap.size ≤ b → ok b
  inv : MInv m
  op : OpIn w ok o lv dv ca cn cc
  by' : ByteL o.data
  nm : NmAt w rn kn ft
  ng : NmG rn kn
  gr : GrAt w okg
def MStp (rn kn : Nat → ByteArray) (w w' : World) (M : Nat) (ok : Nat → Prop) (m : Mod) (o : Op) (e : Ending) : Prop :=
  (∃ v', MAt w' M ok v' (mStep m o)) ∧ But M w w' ∧ ∃ a, e = .returned (.agg (ansCs a)) ∧ AnsM rn kn (fun b => ok b ∧ b < w.heap.size) w w' m o a
/-- A step that leaves the model. -/
theorem MStp.same {rn kn : Nat → ByteArray} {w w' : World} {M : Nat} {ok : Nat → Prop} {v : MV} {m : Mod} {o : Op} {a : AnsR} (h : MAt w M ok v m) (hb : Below w.heap.size w w') (h1 : o.kind ≠ 1) (h2 : o.kind ≠ 2) (ha : AnsM rn kn (fun b => ok b ∧ b < w.heap.size) w w' m o a) : MStp rn kn w w' M ok m o (.returned (.agg (ansCs a))) := by
  refine ⟨⟨v, ?_⟩, But.of hb (Nat.le_of_lt (blk_lt h.top)), a, rfl, ha⟩
  unfold mStep
  rw [if_neg h1, if_neg h2]
  exact h.below hb
theorem MAt.putFull {W : World} {M : Nat} {ok : Nat → Prop} {v : MV} {m : Mod} (h : MAt W M ok v m) (hk : ∀ b, ok b → b ≠ M) (b : Bool) : MAt (W.setCell ⟨M, 11, none⟩ (.bool b)) M ok v { m with full := b } ∧ But M W (W.setCell ⟨M, 11, none⟩ (.bool b)) :=
  have hb : But M W (W.setCell ⟨M, 11, none⟩ (.bool b)) := But.set _ _
  have hi := h.inn.but hk hb
  ⟨⟨heap_setM h.top rfl, hi.low, hi.us, hi.au, hi.fs⟩, hb⟩
theorem mparse_no (w : World) (ok : Nat → Prop) (v : Value) (bs : List Int) (h : BytesAt w ok v bs) (hB : ByteL bs) (hl : bs.length ≤ 100000000) {p : PkF} (hp : pkF bs = p) (ht : p.t = false) :
    Calls Tryz.prog 82 #[v] w fun e w' => e = .returned (.tuple #[.agg zFile, .int .u8 29]) ∧ Below w.heap.size w w' := by
  subst hp
  refine (mparse_both w ok v bs h hB hl (pkF_is bs)).mono ?_
  rintro e w' ⟨fc, ev, rfl, h1, h2⟩
  rcases h1.out with ⟨-, rfl, rfl⟩ | ⟨h3, -⟩
  · exact ⟨rfl, h2.out⟩
  · rw [ht] at h3; cases h3
theorem mparse_yes (w : World) (ok : Nat → Prop) (v : Value) (bs : List Int) (h : BytesAt w ok v bs) (hB : ByteL bs) (hl : bs.length ≤ 100000000) {p : PkF} (hp : pkF bs = p) (ht : p.t = true) :
    Calls Tryz.prog 82 #[v] w fun e w' => ∃ a cap, e = .returned (.tuple #[.agg (fileCs p.k p.s p.i p.bb a p.cs.length cap), .int .u8 0]) ∧ ChangesAt w' (w.heap.size ≤ ·) (.slice a p.cs.length cap) p.cs ∧ Below w.heap.size w w' := by
  subst hp
  refine (mparse_both w ok v bs h hB hl (pkF_is bs)).mono ?_
  rintro e w' ⟨fc, ev, rfl, h1, h2⟩
  rcases h1.out with ⟨h3, -⟩ | ⟨-, rfl, a, cap, rfl, h4⟩
  · rw [ht] at h3; cases h3
  · exact ⟨a, cap, rfl, h4, h2.out⟩
theorem mptrail_no (w : World) (ok : Nat → Prop) (rn kn ft : Nat → ByteArray) (v : Value) (bs : List Int) (h : BytesAt w ok v bs) (hB : ByteL bs) (hl : bs.length ≤ 100000000) (hnm : NmAt w rn kn ft) (hg : NmG rn kn) {p : PkT} (hp : pkT rn kn bs = p) (ht : p.t = false) :
    Calls Tryz.prog 87 #[v] w fun e w' => e = .returned (.tuple #[.slice none 0 0, .int .u8 29]) ∧ Below w.heap.size w w' := by
  subst hp
  refine (mparseTrail_both w ok rn kn ft v bs h hB hl hnm hg (pkT_is rn kn bs)).mono ?_
  rintro e w' ⟨fc, ev, rfl, h1, h2⟩
  rcases h1.out with ⟨-, rfl, rfl⟩ | ⟨h3, -⟩
  · exact ⟨rfl, h2.out⟩
  · rw [ht] at h3; cases h3
theorem mptrail_yes (w : World) (ok : Nat → Prop) (rn kn ft : Nat → ByteArray) (v : Value) (bs : List Int) (h : BytesAt w ok v bs) (hB : ByteL bs) (hl : bs.length ≤ 100000000) (hnm : NmAt w rn kn ft) (hg : NmG rn kn) {p : PkT} (hp : pkT rn kn bs = p) (ht : p.t = true) :
    Calls Tryz.prog 87 #[v] w fun e w' => ∃ a n cap zs, e = .returned (.tuple #[.slice a n cap, .int .u8 0]) ∧ n = zs.length ∧ RArr w' (w.heap.size ≤ ·) 20 zeCs (.slice a n cap) zs ∧ ZipE w' (w.heap.size ≤ ·) zs ∧ zs.map (·.1) = p.xs ∧ Below w.heap.size w w' := by
  subst hp
  refine (mparseTrail_both w ok rn kn ft v bs h hB hl hnm hg (pkT_is rn kn bs)).mono ?_
  rintro e w' ⟨fc, ev, rfl, h1, h2⟩
  rcases h1.out with ⟨h3, -⟩ | ⟨-, rfl, a, cap, zs, rfl, h4, h5, h6⟩
  · rw [ht] at h3; cases h3
  · exact ⟨a, _, cap, zs, rfl, rfl, h4, h5, h6, h2.out⟩
theorem mvalid_yes (w : World) (ok : Nat → Prop) (k s i bb : Int) (a : Option Addr) (n cap : Nat) (cs : List Change) (hn : n = cs.length) (h : ChangesAt w ok (.slice a n cap) cs) (hS : U32 s) (hOk : ∀ c ∈ cs, c.Ok) (res : Bool) (hr : res = true ↔ FileOk k s i bb cs) : Calls Tryz.prog 85 #[.agg (fileCs k s i bb a n cap)] w fun e w' => e = .returned (.bool res) ∧ Below w.heap.size w w' := by
  subst hn
  exact valid_calls w ok k s i bb a cap cs h hS hOk (.bool res) (fun h => by rw [hr.2 h]) (fun h => by
    cases res with
    | false => rfl
    | true => exact absurd (hr.1 rfl) h)
attribute [local go_sem] ext_const Ext.cell Ext.frozen Ext.rng Ext.whole
attribute [local go_sem ↓] exec_ldAns exec_stAns exec_ldFile exec_stFile exec_ldReq exec_stRsp
attribute [local go_sem] run_ldAns run_stAns run_ldFile run_stFile run_ldReq ansCs_ones opA_size fileCs_size fileCs_ones fileCs_all file_ones whole_alloc_lt whole_alloc_at whole_drew setRow_alloc_at setRow_alloc_lt rng_alloc_lt rng_alloc_at rng_drew rng_drewN rng_setCell_other whole_setCell_other

set_option maxRecDepth 100000 in
set_option maxHeartbeats 8000000 in
theorem mstD_calls (rn kn ft : Nat → ByteArray) (okg : Nat → Prop) (w : World) (M : Nat) (ok : Nat → Prop) (v : MV) (m : Mod) (o : Op) (lv dv : Value) (ca : Option Addr) (cn cc : Nat) (h : StI rn kn ft okg w M ok v m o lv dv ca cn cc) (hk : o.kind ≠ 1 ∧ o.kind ≠ 2 ∧ o.kind ≠ 3 ∧ o.kind ≠ 4 ∧ o.kind ≠ 5 ∧ o.kind ≠ 6 ∧ o.kind ≠ 7) :
    Calls Tryz.prog 22 #[.pointer (some ⟨M, 0, none⟩), .agg (opA o lv dv ca cn cc)] w fun e w' => MStp rn kn w w' M ok m o e := by
  have HH := hide h
  have zM := blk_lt h.at'.top
  clear h
  go_enter Tryz.func22, Tryz.ntmps22
  go_upto_region 2 with fail
  have HS0 := hide (SB.start w (opA o lv dv ca cn cc)).1
  have HB0 := hide (SB.start w (opA o lv dv ca cn cc)).2
  change Code.wp _ _ _ _ (((w.alloc (.cells (opA o lv dv ca cn cc) 61)).alloc (.cells (ansCs ans0) 77)).alloc (.cells (ansCs ans0) 77))
  generalize (((w.alloc (.cells (opA o lv dv ca cn cc) 61)).alloc (.cells (ansCs ans0) 77)).alloc (.cells (ansCs ans0) 77)) = W0 at *
  obtain ⟨-, -, hq, -, -, hz⟩ := HS0.out.facts
  have q0 := hq 0

  simp only [opA, List.getElem?_toArray, List.getElem?_cons_zero] at q0
  clear hq
  have zM0 : M < W0.heap.size := by omega
  obtain ⟨k1, k2, k3, k4, k5, k6, k7⟩ := hk
  have t1 : (o.kind == 1) = false := by simpa using k1
  have t2 : (o.kind == 2) = false := by simpa using k2
  have t3 : (o.kind == 3) = false := by simpa using k3
  have t4 : (o.kind == 4) = false := by simpa using k4
  have t5 : (o.kind == 5) = false := by simpa using k5
  have t6 : (o.kind == 6) = false := by simpa using k6
  have t7 : (o.kind == 7) = false := by simpa using k7
  have c40 := HS0.out.facts.2.2.2.1 40
  simp only [ansCs, List.getElem?_toArray, List.getElem?_cons_zero, List.getElem?_cons_succ] at c40
  have g40 := HS0.out.facts.2.2.2.2.1 40
  go_upto_region 24 with fail
  have HS1 := hide (HS0.out.cell (j := 40) (v := .int .u8 1) { ans0 with code := 1 } rfl).1
  have HB1 : Hid (Below w.heap.size w (W0.setCell ⟨w.heap.size + 2, 40, none⟩ (.int .u8 1))) := HB0.out.setCell (p := ⟨w.heap.size + 2, 40, none⟩) (by simp) _
  generalize World.setCell _ _ _ = W1 at *
  clear c40 g40
  have s1 := HS1.out.facts.1
  have s2 := HS1.out.facts.2.1
  have s3 := HS1.out.facts.2.2.2.2.2
  go_wp2
  have HF := hide (heap_setRow_at (ds := ansCs { ans0 with code := 1 }) HS1.out.rs)
  refine bodyPost_ret (results_cell1 Tryz.results22 _ _ (w.heap.size + 1) _ _ _ _ rfl HF.out Tryz.underlying77 rfl (by kernel_rfl)) rfl ?_
  have hfb : Below w.heap.size w (W1.setRow (w.heap.size + 1) (ansCs { ans0 with code := 1 })) := HB1.out.trans ⟨rfl, rfl, rfl, by simp, fun k hk => setRow_other _ _ _ _ (by omega)⟩
  exact MStp.same HH.out.at' hfb (by omega) (by omega) ⟨fun k => by omega, fun k => by omega, fun k => by omega, fun k => by omega, fun k => by omega, fun k => by omega, fun _ => rfl⟩

set_option maxRecDepth 100000 in
set_option maxHeartbeats 8000000 in
theorem mst3_calls (rn kn ft : Nat → ByteArray) (okg : Nat → Prop) (w : World) (M : Nat) (ok : Nat → Prop) (v : MV) (m : Mod) (o : Op) (lv dv : Value) (ca : Option Addr) (cn cc : Nat) (h : StI rn kn ft okg w M ok v m o lv dv ca cn cc) (hk : o.kind = 3) :
    Calls Tryz.prog 22 #[.pointer (some ⟨M, 0, none⟩), .agg (opA o lv dv ca cn cc)] w fun e w' => MStp rn kn w w' M ok m o e := by
  have HH := hide h
  have zM := blk_lt h.at'.top
  clear h
  go_enter Tryz.func22, Tryz.ntmps22
  go_upto_region 2 with fail
  have HS0 := hide (SB.start w (opA o lv dv ca cn cc)).1
  have HB0 := hide (SB.start w (opA o lv dv ca cn cc)).2
  change Code.wp _ _ _ _ (((w.alloc (.cells (opA o lv dv ca cn cc) 61)).alloc (.cells (ansCs ans0) 77)).alloc (.cells (ansCs ans0) 77))
  generalize (((w.alloc (.cells (opA o lv dv ca cn cc) 61)).alloc (.cells (ansCs ans0) 77)).alloc (.cells (ansCs ans0) 77)) = W0 at *
  obtain ⟨-, -, hq, -, -, hz⟩ := HS0.out.facts
  have q0 := hq 0

  simp only [opA, List.getElem?_toArray, List.getElem?_cons_zero] at q0
  clear hq
  have zM0 : M < W0.heap.size := by omega
  rw [hk] at q0
  go_upto_region 24 with fail
  have s1 := HS0.out.facts.1
  have s2 := HS0.out.facts.2.1
  have s3 := HS0.out.facts.2.2.2.2.2
  go_wp2
  have HF := hide (heap_setRow_at (ds := ansCs ans0) HS0.out.rs)
  refine bodyPost_ret (results_cell1 Tryz.results22 _ _ (w.heap.size + 1) _ _ _ _ rfl HF.out Tryz.underlying77 rfl (by kernel_rfl)) rfl ?_
  have hfb : Below w.heap.size w (W0.setRow (w.heap.size + 1) (ansCs ans0)) := HB0.out.trans ⟨rfl, rfl, rfl, by simp, fun k hk => setRow_other _ _ _ _ (by omega)⟩
  exact MStp.same HH.out.at' hfb (by omega) (by omega) ⟨fun k => by omega, fun _ => rfl, fun k => by omega, fun k => by omega, fun k => by omega, fun k => by omega, fun k => by omega⟩

set_option maxRecDepth 100000 in
set_option maxHeartbeats 8000000 in
theorem mst2_calls (rn kn ft : Nat → ByteArray) (okg : Nat → Prop) (w : World) (M : Nat) (ok : Nat → Prop) (v : MV) (m : Mod) (o : Op) (lv dv : Value) (ca : Option Addr) (cn cc : Nat) (h : StI rn kn ft okg w M ok v m o lv dv ca cn cc) (hk : o.kind = 2) :
    Calls Tryz.prog 22 #[.pointer (some ⟨M, 0, none⟩), .agg (opA o lv dv ca cn cc)] w fun e w' => MStp rn kn w w' M ok m o e := by
  have HH := hide h
  have zM := blk_lt h.at'.top
  clear h
  go_enter Tryz.func22, Tryz.ntmps22
  go_upto_region 2 with fail
  have HS0 := hide (SB.start w (opA o lv dv ca cn cc)).1
  have HB0 := hide (SB.start w (opA o lv dv ca cn cc)).2
  change Code.wp _ _ _ _ (((w.alloc (.cells (opA o lv dv ca cn cc) 61)).alloc (.cells (ansCs ans0) 77)).alloc (.cells (ansCs ans0) 77))
  generalize (((w.alloc (.cells (opA o lv dv ca cn cc) 61)).alloc (.cells (ansCs ans0) 77)).alloc (.cells (ansCs ans0) 77)) = W0 at *
  obtain ⟨-, -, hq, -, -, hz⟩ := HS0.out.facts
  have q0 := hq 0
  have q20 := hq 20
  simp only [opA, List.getElem?_toArray, List.getElem?_cons_zero, List.getElem?_cons_succ] at q0 q20
  clear hq
  have zM0 : M < W0.heap.size := by omega
  rw [hk] at q0
  have HM0 : Hid (MAt W0 M (fun b => ok b ∧ (b < w.heap.size ∨ W0.heap.size ≤ b)) v m) := ⟨(HB0.out.block _ zM).trans HH.out.at'.top, HH.out.at'.inn.lt.mono (fun b q => HB0.out.block b q.2) (fun b q => ⟨q.1, Or.inl q.2⟩)⟩
  have f11 : W0.cell? ⟨M, 11, none⟩ = some (.bool m.full) := cells_all HM0.out.top 11
  have g11 := HM0.out.fz 11
  go_upto_region 24 with fail
  have hput := HM0.out.putFull (fun b q => HH.out.nok b q.1) (o.num == 1)
  have HPM := hide hput.1
  have HPB := hide hput.2
  have hne : ∀ j, w.heap.size + j ≠ M := fun j => by omega
  have HS1 : Hid (SB w (W0.setCell ⟨M, 11, none⟩ (.bool (o.num == 1))) (opA o lv dv ca cn cc) ans0) := ⟨(Below.heap_setCell _ _ _ _ (by have := hne 0; simpa using this)).trans HS0.out.op, (Below.heap_setCell _ _ _ _ (hne 1)).trans HS0.out.rs, (Below.heap_setCell _ _ _ _ (hne 2)).trans HS0.out.an⟩
  have HBT : Hid (But M w (W0.setCell ⟨M, 11, none⟩ (.bool (o.num == 1)))) := (But.of HB0.out (by omega)).trans hput.2
  have hz0 : W0.heap.size = (W0.setCell ⟨M, 11, none⟩ (.bool (o.num == 1))).heap.size := (World.size_setCell ..).symm
  have HZ := hide hz0
  clear hput hz0 f11 g11
  generalize World.setCell _ _ _ = W1 at *
  have s1 := HS1.out.facts.1
  have s2 := HS1.out.facts.2.1
  have s3 := HS1.out.facts.2.2.2.2.2
  go_wp2
  have HF := hide (heap_setRow_at (ds := ansCs ans0) HS1.out.rs)
  refine bodyPost_ret (results_cell1 Tryz.results22 _ _ (w.heap.size + 1) _ _ _ _ rfl HF.out Tryz.underlying77 rfl (by kernel_rfl)) rfl ?_
  have hfr : ∀ b, b ≠ w.heap.size + 1 → (W1.setRow (w.heap.size + 1) (ansCs ans0)).heap[b]? = W1.heap[b]? := fun b hb => setRow_other _ _ _ _ hb
  refine ⟨⟨v, ?_⟩, ⟨HBT.out.bel.trans ⟨rfl, rfl, rfl, by simp, fun k hk => setRow_other _ _ _ _ (by omega)⟩, fun b hb hn => (hfr b (by omega)).trans (HBT.out.fr b hb hn)⟩, ans0, rfl, ⟨fun k => by omega, fun _ => rfl, fun k => by omega, fun k => by omega, fun k => by omega, fun k => by omega, fun k => by omega⟩⟩
  have e : mStep m o = { m with full := o.num == 1 } := by unfold mStep; rw [if_neg (by omega), if_pos hk]
  rw [e]
  exact ⟨(hfr M (by omega)).trans HPM.out.top, HPM.out.inn.mono (fun b q => hfr b (by rcases q.2 with h | h <;> omega)) (fun b q => q.1)⟩

set_option maxRecDepth 100000 in
set_option maxHeartbeats 8000000 in
theorem mst1_calls (rn kn ft : Nat → ByteArray) (okg : Nat → Prop) (w : World) (M : Nat) (ok : Nat → Prop) (v : MV) (m : Mod) (o : Op) (lv dv : Value) (ca : Option Addr) (cn cc : Nat) (h : StI rn kn ft okg w M ok v m o lv dv ca cn cc) (hk : o.kind = 1) :
    Calls Tryz.prog 22 #[.pointer (some ⟨M, 0, none⟩), .agg (opA o lv dv ca cn cc)] w fun e w' => MStp rn kn w w' M ok m o e := by
  have HH := hide h
  have zM := blk_lt h.at'.top
  clear h
  go_enter Tryz.func22, Tryz.ntmps22
  go_upto_region 2 with fail
  have HS0 := hide (SB.start w (opA o lv dv ca cn cc)).1
  have HB0 := hide (SB.start w (opA o lv dv ca cn cc)).2
  change Code.wp _ _ _ _ (((w.alloc (.cells (opA o lv dv ca cn cc) 61)).alloc (.cells (ansCs ans0) 77)).alloc (.cells (ansCs ans0) 77))
  generalize (((w.alloc (.cells (opA o lv dv ca cn cc) 61)).alloc (.cells (ansCs ans0) 77)).alloc (.cells (ansCs ans0) 77)) = W0 at *
  obtain ⟨-, -, hq, -, -, hz⟩ := HS0.out.facts
  have q0 := hq 0

  simp only [opA, List.getElem?_toArray, List.getElem?_cons_zero] at q0
  clear hq
  have zM0 : M < W0.heap.size := by omega
  rw [hk] at q0
  have HM0 : Hid (MAt W0 M (fun b => ok b ∧ (b < w.heap.size ∨ W0.heap.size ≤ b)) v m) := ⟨(HB0.out.block _ zM).trans HH.out.at'.top, HH.out.at'.inn.lt.mono (fun b q => HB0.out.block b q.2) (fun b q => ⟨q.1, Or.inl q.2⟩)⟩
  have hrq : rng W0 w.heap.size 1 17 = some (reqA o.req lv) := by unfold rng; rw [HS0.out.op]; rfl
  have HXI : Hid (ExI rn kn ft okg W0 M (fun b => ok b ∧ (b < w.heap.size ∨ W0.heap.size ≤ b)) v m o.req lv) := ⟨HM0.out, fun b q => HH.out.nok b q.1, fun b q => ⟨HH.out.new b (by have := HB0.out.size; omega), Or.inr q⟩, HH.out.op.list.lt.mono (fun b q => HB0.out.block b q.2) (fun b q => ⟨q.1, Or.inl q.2⟩), HH.out.inv, HH.out.op.req, HH.out.nm.below HB0.out, HH.out.gr.below HB0.out⟩
  have HEX := hide (mExec_calls rn kn ft okg W0 M _ v m o.req lv HXI.out)
  have HOK : Hid ((fun b => (ok b ∧ (b < w.heap.size ∨ W0.heap.size ≤ b)) ∧ b < W0.heap.size) = fun b => ok b ∧ b < w.heap.size) := by
    show _ = _
    funext b
    have := HB0.out.size
    refine propext ⟨fun q => ⟨q.1.1, by omega⟩, fun q => ⟨⟨q.1, Or.inl q.2⟩, by omega⟩⟩
  go_upto_region 24 with (go_at_call 81; refine HEX.out.mono ?_; rintro e W1 ⟨⟨v1, hm1⟩, hbt, x, rfl, hrs⟩; have HM1 := hide hm1; have HBT := hide hbt; have HRS := hide hrs; have HS1 : Hid (SB w W1 (opA o lv dv ca cn cc) ans0) := ⟨(hbt.fr _ (by omega) (by omega)).trans HS0.out.op, (hbt.fr _ (by omega) (by omega)).trans HS0.out.rs, (hbt.fr _ (by omega) (by omega)).trans HS0.out.an⟩; have hst := run_stRspA W1 (w.heap.size + 2) ans0 x HS1.out.an; have hz1 := hbt.size; clear hm1 hbt hrs)
  have HS2 := hide (HS1.out.row { ans0 with resp := x })
  have HF2 : Hid (∀ b, b ≠ w.heap.size + 2 → (W1.setRow (w.heap.size + 2) (ansCs { ans0 with resp := x })).heap[b]? = W1.heap[b]?) := fun b hb => setRow_other _ _ _ _ hb
  have HBL : Hid (Below w.heap.size W1 (W1.setRow (w.heap.size + 2) (ansCs { ans0 with resp := x }))) := ⟨rfl, rfl, rfl, by simp, fun k hk => setRow_other _ _ _ _ (by omega)⟩
  generalize World.setRow _ _ _ = W2 at *
  clear hst
  have s1 := HS2.out.facts.1
  have s2 := HS2.out.facts.2.1
  have s3 := HS2.out.facts.2.2.2.2.2
  go_wp2
  have HF := hide (heap_setRow_at (ds := ansCs { ans0 with resp := x }) HS2.out.rs)
  refine bodyPost_ret (results_cell1 Tryz.results22 _ _ (w.heap.size + 1) _ _ _ _ rfl HF.out Tryz.underlying77 rfl (by kernel_rfl)) rfl ?_
  have hfr : ∀ b, b ≠ w.heap.size + 1 → b ≠ w.heap.size + 2 → (W2.setRow (w.heap.size + 1) (ansCs { ans0 with resp := x })).heap[b]? = W1.heap[b]? := fun b hb hc => (setRow_other _ _ _ _ hb).trans (HF2.out b hc)
  have hzw := HB0.out.size
  have hbm : But M w W1 := (But.of HB0.out (by omega)).trans HBT.out
  refine ⟨⟨v1, ?_⟩, ⟨hbm.bel.trans ((HBL.out.mono (by omega)).trans ⟨rfl, rfl, rfl, by simp, fun k hk => setRow_other _ _ _ _ (by omega)⟩), fun b hb hn => (hfr b (by omega) (by omega)).trans (hbm.fr b hb hn)⟩, _, rfl, ⟨fun _ => ⟨x, rfl, ?_⟩, fun k => by omega, fun k => by omega, fun k => by omega, fun k => by omega, fun k => by omega, fun k => absurd hk k.1⟩⟩
  · have e : mStep m o = (mEx m o.req).m := by unfold mStep; rw [if_pos hk]
    rw [e]
    exact ⟨(hfr M (by omega) (by omega)).trans HM1.out.top, HM1.out.inn.mono (fun b q => hfr b (by rcases q.2 with h | h <;> omega) (by rcases q.2 with h | h <;> omega)) (fun b q => q.1)⟩
  · have hr := HRS.out
    rw [HOK.out] at hr
    exact ⟨fun k => rdM_keep hzw (fun b p1 p2 => hfr b (by omega) (by omega)) (fun b p1 p2 => hfr b (by omega) (by omega)) (hr.1 k), hr.2⟩
end Go.Proofs.Qxb6500666aGreatDoor
