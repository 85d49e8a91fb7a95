/- sameAnswer, walked on any two answers that read alike; a step of both sides. -/
import Derived.Test.Qxb6500666aGreatDoorCraA
import Derived.Test.Qxb6500666aGreatDoorRdmP
import Derived.Test.Qxb6500666aGreatDoorStYA
import Derived.Test.Qxb6500666aGreatDoorStYB
import Derived.Test.Qxb6500666aGreatDoorStYC
namespace Go.Proofs.Qxb6500666aGreatDoor
open Go.RowKit
theorem RspA.rs {W : World} {x y : Rsp} (h : RspA W x y) : RS W x y := by
  obtain ⟨h1, h2, ⟨l3, a3, b3⟩, ⟨l4, a4, b4⟩, ⟨l5, a5, b5⟩, ⟨l6, a6, b6⟩⟩ := h
  exact ⟨h1, h2, ⟨l3, RWk.arr a3, RWk.arr b3⟩, ⟨l4, RWk.arr a4, RWk.arr b4⟩, ⟨l5, RWk.arr a5, RWk.arr b5⟩, ⟨l6, RWk.arr a6, RWk.arr b6⟩⟩
/-- The two boxes. -/
structure AA2 (w W : World) (x y : AnsR) : Prop where
  a : W.heap[w.heap.size]? = some (.cells (ansCs x) 77 (0, 0))
  b : W.heap[w.heap.size + 1]? = some (.cells (ansCs y) 77 (0, 0))
  bel : Below w.heap.size w W
theorem AA2.start (w : World) (x y : AnsR) : AA2 w ((w.alloc (.cells (ansCs x) 77)).alloc (.cells (ansCs y) 77)) x y :=
  ⟨(Below.heap_alloc _ _ _ (by simp)).trans (heap_alloc_at _ _), box2 w _ _ _ _, ((Below.refl _ _).alloc (Nat.le_refl _) _).alloc (by simp) _⟩
theorem AA2.below {w W W' : World} {x y : AnsR} (h : AA2 w W x y) (hb : Below W.heap.size W W') : AA2 w W' x y :=
  ⟨(hb.block _ (blk_lt h.a)).trans h.a, (hb.block _ (blk_lt h.b)).trans h.b, h.bel.trans (hb.mono h.bel.size)⟩
theorem ansCs_rsA (x : AnsR) : (ansCs x).extract 0 (0 + 40) = respCs x.resp := by kernel_rfl
theorem ansCs_flA (x : AnsR) : (ansCs x).extract 41 (41 + 5) = fileCs x.fk x.fs x.fi x.fb x.fc.1 x.fc.2.1 x.fc.2.2 := by kernel_rfl
/-- The facts read out of one box. -/
structure CA1 (W : World) (B : Nat) (r : Rsp) (code fk fs fi fb : Int) (fa : Option Addr) (n c : Nat) (bv tv : SV) : Prop where
  rs : rng W B 0 40 = some (respCs r)
  c40 : W.cell? ⟨B, 40, none⟩ = some (.int .u8 code)
  fl : rng W B 41 5 = some (fileCs fk fs fi fb fa n c)
  c46 : W.cell? ⟨B, 46, none⟩ = some (sv bv)
  c47 : W.cell? ⟨B, 47, none⟩ = some (sv tv)
theorem CA1.of {W : World} {B : Nat} {x : AnsR} {t : TypeId} (h : W.heap[B]? = some (.cells (ansCs x) t (0, 0))) : CA1 W B x.resp x.code x.fk x.fs x.fi x.fb x.fc.1 x.fc.2.1 x.fc.2.2 x.bytes x.trail := by
  have h48 : rng W B 0 48 = some (ansCs x) := rng_whole h
  have s1 := rng_sub (o := 0) (m := 40) h48 (by decide)
  have s2 := rng_sub (o := 41) (m := 5) h48 (by decide)
  rw [ansCs_rsA, Nat.zero_add] at s1
  rw [ansCs_flA, Nat.zero_add] at s2
  exact ⟨s1, cells_all h 40, s2, cells_all h 46, cells_all h 47⟩
theorem RArr.len3 {α : Type} {W : World} {ok : Nat → Prop} {sz : Nat} {f : α → Array Value} {a : Option Addr} {n c : Nat} {l : List α} (h : RArr W ok sz f (.slice a n c) l) : n = l.length := by
  obtain ⟨_, _, _, _, e, -⟩ := h
  injection e
attribute [local go_sem] ext_const Ext.cell Ext.frozen Ext.rng Ext.whole
attribute [local go_sem ↓] exec_ldRsp exec_ldFile
attribute [local go_sem] run_ldRsp run_ldFile
set_option maxRecDepth 100000 in
set_option maxHeartbeats 4000000 in
theorem sameAnsA_calls (w : World) (x y : AnsR) (h : AnsA w x y) :
    Calls Tryz.prog 20 #[.agg (ansCs x), .agg (ansCs y)] w fun e w' => e = .returned (.bool true) ∧ Below w.heap.size w w' := by
  have HRS := hide (fun W (hb : Below w.heap.size w W) => h.rsp.rs.below hb)
  obtain ⟨e1, e2, e3, e4, e5⟩ := h.same
  obtain ⟨l, f1, f2⟩ := h.fc
  obtain ⟨lb, g1, g2⟩ := h.bys
  obtain ⟨zs, ys, t1, t2, t3, t4, t5⟩ := h.tr
  have HR0 := hide (AA2.start w x y)
  have hB0 : ∀ W, AA2 w W x y → CA1 W w.heap.size x.resp x.code x.fk x.fs x.fi x.fb x.fc.1 x.fc.2.1 x.fc.2.2 x.bytes x.trail ∧ CA1 W (w.heap.size + 1) y.resp x.code x.fk x.fs x.fi x.fb y.fc.1 y.fc.2.1 y.fc.2.2 y.bytes y.trail := fun W hr => ⟨CA1.of hr.a, by have := CA1.of hr.b; rw [e1, e2, e3, e4, e5] at this; exact this⟩
  have n1 : x.fc.2.1 = l.length := RArr.len3 f1
  have n2 : y.fc.2.1 = x.fc.2.1 := (RArr.len3 f2).trans n1.symm
  rw [n2] at hB0
  have HFL := hide (fun W (hb : Below w.heap.size w W) => sameFile_calls W (fun _ => True) (fun _ => True) x.fk x.fs x.fi x.fb x.fc.1 y.fc.1 x.fc.2.1 x.fc.2.2 y.fc.2.2 l (RArr.below f1 hb) (by have := RArr.below f2 hb; rw [show sv y.fc = .slice y.fc.1 y.fc.2.1 y.fc.2.2 from rfl, n2] at this; exact this))
  have HBL := hide (fun W (hb : Below w.heap.size w W) => sameBytW_calls W (sv x.bytes) (sv y.bytes) lb ((RWk.arr g1).below hb) ((RWk.arr g2).below hb))
  have HTL := hide (fun W (hb : Below w.heap.size w W) => sameTrail_calls W (fun _ => True) (fun _ => True) (fun _ => True) (fun _ => True) (sv x.trail) (sv y.trail) zs ys (RArr.below t1 hb) (RArr.below t2 hb) (fun z hz => RArr.below (t3 z hz) hb) (fun z hz => RArr.below (t4 z hz) hb) t5)
  have HB := hide hB0
  clear h e1 e2 e3 e4 e5 f1 f2 g1 g2 t1 t2 t3 t4 t5 n1 n2 hB0
  generalize x.fc.1 = xa at *
  generalize x.fc.2.1 = xn at *
  generalize x.fc.2.2 = xc at *
  generalize y.fc.1 = ya at *
  generalize y.fc.2.2 = yc at *
  go_enter Tryz.func20, Tryz.ntmps20
  go_upto_region 1 with fail
  change Code.wp _ _ _ _ ((w.alloc (.cells (ansCs x) 77)).alloc (.cells (ansCs y) 77))
  generalize (w.alloc (.cells (ansCs x) 77)).alloc (.cells (ansCs y) 77) = W0 at *
  obtain ⟨⟨p0, -, -, -, -⟩, ⟨q0, -, -, -, -⟩⟩ := HB.out _ HR0.out
  go_wp2_with (first
    | (go_at_call 77; refine (sameResp_calls _ x.resp y.resp (HRS.out _ HR0.out.bel)).mono ?_; rintro e W1 ⟨rfl, hb1⟩; have HR1 := hide (HR0.out.below hb1); clear hb1 p0 q0; obtain ⟨⟨-, p1, p2, -, -⟩, ⟨-, q1, q2, -, -⟩⟩ := HB.out _ HR1.out)
    | (go_at_call 45; refine (HFL.out _ HR1.out.bel).mono ?_; rintro e W2 ⟨rfl, hb2⟩; have HR2 := hide (HR1.out.below hb2); clear hb2 p1 q1 p2 q2; obtain ⟨⟨-, -, -, p3, -⟩, ⟨-, -, -, q3, -⟩⟩ := HB.out _ HR2.out)
    | (go_at_call 48; refine (HBL.out _ HR2.out.bel).mono ?_; rintro e W3' ⟨rfl, k3, rfl⟩; have HR3 := hide (HR2.out.below (below_drewN (Below.refl _ _) k3)); generalize W2.drewN k3 = W3 at *; clear p3 q3; obtain ⟨⟨-, -, -, -, p4⟩, ⟨-, -, -, -, q4⟩⟩ := HB.out _ HR3.out)
    | (go_at_call 38; refine (HTL.out _ HR3.out.bel).mono ?_; rintro e W4 ⟨rfl, hb4⟩; have HR4 := hide (HR3.out.below hb4); clear hb4))
  go_ret
  exact ⟨rfl, HR4.out.bel⟩

theorem step_y (w : World) (Bn Y S LB base : Nat) (pv : Value) (A ok oko okg : Nat → Prop) (zs : List ZP) (full : Bool) (off lar : Int) (x : LV) (L : Low) (o : Op) (lv dv : Value) (ca : Option Addr) (cn cc : Nat) (rn kn ft : Nat → ByteArray) (h : BN w Bn Y S LB base pv A ok zs full off lar x L) (hp : PO (zs.map (·.2)) L) (ho : OpIn w oko o lv dv ca cn cc) (hgl : Gl w base rn kn ft okg) (htx : TxOk rn kn (zs.map (·.2)) o) (hg : NmG rn kn) (hoff : 0 ≤ off ∧ off ≤ 1000000000000000) :
    Calls Tryz.prog 21 #[.pointer (some ⟨Bn, 0, none⟩), .agg (opA o lv dv ca cn cc)] w fun e w' => StY w w' Bn Y S LB base pv A ok e (stepR ⟨zs.map (·.2), full, off, lar, L⟩ o) (AnsQ rn kn w w' ⟨zs.map (·.2), full, off, lar, L⟩ o) := by
  by_cases h1 : o.kind = 1
  · exact step1y w Bn Y S LB base pv A ok oko okg zs full off lar x L o lv dv ca cn cc rn kn ft h hp ho hgl htx hg hoff h1
  by_cases h2 : o.kind = 2
  · exact step2y w Bn Y S LB base pv A ok oko okg zs full off lar x L o lv dv ca cn cc rn kn ft h hp ho hgl htx hg h2
  by_cases h3 : o.kind = 3
  · exact step3y w Bn Y S LB base pv A ok oko okg zs full off lar x L o lv dv ca cn cc rn kn ft h hp ho hgl htx hg h3
  by_cases h4 : o.kind = 4
  · exact step4y w Bn Y S LB base pv A ok oko okg zs full off lar x L o lv dv ca cn cc rn kn ft h hp ho hgl htx hg h4
  by_cases h5 : o.kind = 5
  · exact step5y w Bn Y S LB base pv A ok oko okg zs full off lar x L o lv dv ca cn cc rn kn ft h hp ho hgl htx hg h5
  by_cases h6 : o.kind = 6
  · exact step6y w Bn Y S LB base pv A ok oko okg zs full off lar x L o lv dv ca cn cc rn kn ft h hp ho hgl htx hg h6
  by_cases h7 : o.kind = 7
  · exact step7y w Bn Y S LB base pv A ok oko okg zs full off lar x L o lv dv ca cn cc rn kn ft h hp ho hgl htx hg h7
  exact stepDy w Bn Y S LB base pv A ok oko okg zs full off lar x L o lv dv ca cn cc rn kn ft h hp ho hgl htx hg ⟨h1, h2, h3, h4, h5, h6, h7⟩
theorem BX.stepY {w W : World} {K : Nat → Prop} {t : ST} {oko okg : Nat → Prop} {o : Op} {lv dv : Value} {ca : Option Addr} {cn cc : Nat} {rn kn ft : Nat → ByteArray} (h : BX w W K t) (hp : PO t.ps t.low) (ho : OpIn W oko o lv dv ca cn cc) (hgl : Gl W w.heap.size rn kn ft okg) (htx : TxOk rn kn t.ps o) (hg : NmG rn kn) (hoff : 0 ≤ t.off ∧ t.off ≤ 1000000000000000) :
    Calls Tryz.prog 21 #[.pointer (some ⟨w.heap.size + 2, 0, none⟩), .agg (opA o lv dv ca cn cc)] W fun e w' => ∃ ans, e = .returned (.agg (ansCs ans)) ∧ BX w w' K (stepR t o) ∧ (∀ g, K g → w'.heap[g]? = W.heap[g]?) ∧ AnsQ rn kn W w' t o ans := by
  obtain ⟨Y, pv, A, ok, zs, x, h1, h2, h3, h4⟩ := h
  obtain ⟨ps, full, off, lar, low⟩ := t
  dsimp only at h2 hp hoff h1 htx
  subst h2
  refine (step_y W _ Y _ _ _ pv A ok oko okg zs full off lar x low o lv dv ca cn cc rn kn ft h1 hp ho hgl htx hg hoff).mono ?_
  rintro e w' ⟨Y', pv', A', ok', zs', x', ans, k1, k2, k3, k4, k5⟩
  refine ⟨ans, k3, ⟨Y', pv', A', ok', zs', x', k1, k2, h3.trans k4.bel, fun g hg => ⟨?_, (k4.aw (h4 g hg).1 (h4 g hg).2).1⟩⟩, fun g hg => (k4.aw (h4 g hg).1 (h4 g hg).2).2, k5⟩
  exact Nat.lt_of_lt_of_le (h4 g hg).1 k4.bel.size
/-- A step of both sides, and the comparison of their answers. -/
theorem MX.both {w W : World} {M g : Nat} {K : Nat → Prop} {q : Nat} {t : ST} {m : Mod} {rows : List Row} {o : Op} {lv dv : Value} {ca : Option Addr} {cn cc : Nat} {rn kn ft : Nat → ByteArray} {okg : Nat → Prop} (h : MX w W M K t m) (ht : TQ rn kn q t m rows) (ho : OpIn w (· < w.heap.size) o lv dv ca cn cc) (hB : ByteL o.data) (hgl : ∀ W, Below w.heap.size w W → Gl W w.heap.size rn kn ft okg) (hn : NmG rn kn) (hg : K g) :
    Calls Tryz.prog 21 #[.pointer (some ⟨w.heap.size + 2, 0, none⟩), .agg (opA o lv dv ca cn cc)] W fun e W1 => ∃ a, e = .returned (.agg (ansCs a)) ∧ W1.heap[g]? = W.heap[g]? ∧
      Calls Tryz.prog 22 #[.pointer (some ⟨M, 0, none⟩), .agg (opA o lv dv ca cn cc)] W1 fun e W2 => ∃ b, e = .returned (.agg (ansCs b)) ∧
        Calls Tryz.prog 20 #[.agg (ansCs a), .agg (ansCs b)] W2 fun e W3 => e = .returned (.bool true) ∧ ∃ K', (∀ x, K x → K' x ∧ (x ≠ M → W3.heap[x]? = W.heap[x]?)) ∧ MX w W3 M K' (stepR t o) (mStep m o) := by
  have hq := ht.hq
  have hMW : M < W.heap.size := by obtain ⟨v, hv⟩ := h.md; exact blk_lt hv.top
  refine (h.bx.stepY (ht.inv.po hq) (ho.below h.bx.blw) (hgl _ h.bx.blw) (ht.tx ho.seq hB) hn ⟨ht.inv.off.1, by have := ht.inv.off.2; omega⟩).mono ?_
  rintro e W1 ⟨a, rfl, hx1, hf1, ha⟩
  have h1 := h.real hx1 hf1
  refine ⟨a, rfl, hf1 g hg, ?_⟩
  refine (h1.step ht.mi (ho.below h1.bx.blw) hB (hgl _ h1.bx.blw) hn).mono ?_
  rintro e W2 ⟨b, rfl, hx2, hbt, hb⟩
  refine ⟨b, rfl, ?_⟩
  have hA := ht.ans ho.req ho.seq (ha.keep fun b q1 q2 => hbt.fr b q2 (by omega)) hb
  refine (sameAnsA_calls W2 a b hA).mono ?_
  rintro e W3 ⟨rfl, hb3⟩
  have hz2 := hbt.size
  refine ⟨rfl, _, fun x hx => ⟨Or.inl hx, fun hne => ?_⟩, hx2.below hb3⟩
  have hxl : x < W1.heap.size := by
    obtain ⟨_, _, _, _, _, _, -, -, -, hk⟩ := hx1
    exact (hk x hx).1
  exact (hb3.block x (by omega)).trans ((hbt.fr x hxl hne).trans (hf1 x hx))
end Go.Proofs.Qxb6500666aGreatDoor
