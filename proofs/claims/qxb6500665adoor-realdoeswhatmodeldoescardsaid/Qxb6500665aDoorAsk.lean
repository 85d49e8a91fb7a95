/- The questions behind the script, walked: each is a query. -/
import Derived.Test.Qxb6500665aDoorStepX
import Derived.Test.Qxb6500665aDoorSmall
import Derived.Deep.DeepCutAuto
import Derived.Deep.CutBlock
import Derived.Deep.LoopGhost
namespace Go.Proofs.Qxb6500665aDoor
open Go.RowKit Go.Proofs.Qxb6500665aDoor.Cal

/-- A question. -/
structure QQ where
  k : Int
  id : Int
  ref : Int
  m : Int
def QQ.op (q : QQ) : Op := ⟨q.k, q.id, q.ref, q.m, 0, 0, 0, 0, [], []⟩
def qqCs (q : QQ) : Array Value := opCs q.op (.slice none 0 0) (.slice none 0 0)
structure QQ.Ok (q : QQ) : Prop where
  lo : 6 ≤ q.k
  hi : q.k ≤ 15
  id : U32 q.id
  ref : U32 q.ref
  m : I64 q.m
theorem i64_zero : I64 0 := ⟨by decide, by decide⟩
theorem QQ.Ok.op {q : QQ} (h : q.Ok) : q.op.Ok := ⟨⟨by have := h.lo; show 0 ≤ q.k; omega, by have := h.hi; show q.k ≤ 255; omega⟩, h.id, h.ref, h.m, i64_zero, i64_zero, i64_zero, i64_zero, fun x hx => absurd hx (by simp [QQ.op]), fun x hx => absurd hx (by simp [QQ.op])⟩
theorem qqCs_size (q : QQ) : (qqCs q).size = 10 := rfl
theorem qqCs_one (q : QQ) : ∀ u ∈ (qqCs q).toList, u.oneCell' = true := by simp [qqCs, opCs, Value.oneCell']

def bd4S (t : TypeId) (a b c d : Value) : Sem Value := Instr.build t #[(0, a), (1, b), (2, c), (3, d)]
def bd3S (t : TypeId) (a c d : Value) : Sem Value := Instr.build t #[(0, a), (2, c), (3, d)]
def bs2S (t : TypeId) (a b : Value) : Sem Value := Instr.buildSlice t 2 #[(0, a), (1, b)]
section
variable (ρ : Operand → Value) (dst : Option Tmp) (x y z u : Operand) (ty : TypeId) (pos : String) (after : Array Edge) (guard : Option (Nat × Bool))
theorem exec_ldOp : execOp ρ { dst, op := .load 34 x, type := ty, pos, after, guard } = (do pure (.value (← ldS 34 (ρ x)))) := rfl
theorem exec_stOp : execOp ρ { dst, op := .store 34 x y, type := ty, pos, after, guard } = (do stS 34 (ρ x) (ρ y); pure .skip) := rfl
theorem exec_bd4Op : execOp ρ { dst, op := .build 34 #[(0, x), (1, y), (2, z), (3, u)], type := ty, pos, after, guard } = (do pure (.value (← bd4S 34 (ρ x) (ρ y) (ρ z) (ρ u)))) := by simp [execOp, bd4S]
theorem exec_bd3Op : execOp ρ { dst, op := .build 34 #[(0, x), (2, z), (3, u)], type := ty, pos, after, guard } = (do pure (.value (← bd3S 34 (ρ x) (ρ z) (ρ u)))) := by simp [execOp, bd3S]
theorem exec_bsOp : execOp ρ { dst, op := .buildSlice 22 1 #[(0, x)], type := ty, pos, after, guard } = (do pure (.value (← bsS 22 (ρ x)))) := by simp [execOp, bsS]
theorem exec_bs2Op : execOp ρ { dst, op := .buildSlice 22 2 #[(0, x), (1, y)], type := ty, pos, after, guard } = (do pure (.value (← bs2S 22 (ρ x) (ρ y)))) := by simp [execOp, bs2S]
end
theorem run_ldOp (w : World) (b off : Nat) : (ldS 34 (.pointer (some ⟨b, off, none⟩))).run Tryd.prog w = match rng w b off 10 with | some cs => .ok (.agg cs) w | none => (Instr.loadAt 34 (.pointer (some ⟨b, off, none⟩))).run Tryd.prog w :=
  run_ldS Tryd.underlying34 Tryd.size34 w b off
theorem run_stOp (w : World) (b : Nat) (cs : Array Value) : (stS 34 (.pointer (some ⟨b, 0, none⟩)) (.agg cs)).run Tryd.prog w = if whole w b 10 = true ∧ ones cs 10 = true then .ok () (w.setRow b cs) else (Instr.storeAt 34 (.pointer (some ⟨b, 0, none⟩)) (.agg cs)).run Tryd.prog w := run_stS Tryd.size34 w b cs
theorem run_bd4Op (w : World) (k id ref m : Int) : (bd4S 34 (.int .u8 k) (.int .u32 id) (.int .u32 ref) (.int .i64 m)).run Tryd.prog w = .ok (.agg (qqCs ⟨k, id, ref, m⟩)) w := by kernel_rfl
theorem run_bd3Op (w : World) (k ref m : Int) : (bd3S 34 (.int .u8 k) (.int .u32 ref) (.int .i64 m)).run Tryd.prog w = .ok (.agg (qqCs ⟨k, 0, ref, m⟩)) w := by kernel_rfl
theorem run_bsOp (w : World) (q : QQ) : (bsS 22 (.agg (qqCs q))).run Tryd.prog w = .ok (.slice (some ⟨w.heap.size, 0, none⟩) 1 1) (w.alloc (.cells (qqCs q) 34)) := by kernel_rfl
theorem run_bs2Op (w : World) (q r : QQ) : (bs2S 22 (.agg (qqCs q)) (.agg (qqCs r))).run Tryd.prog w = .ok (.slice (some ⟨w.heap.size, 0, none⟩) 2 2) (w.alloc (.cells (qqCs q ++ qqCs r) 34)) := by kernel_rfl
theorem run_stVisitQ (w : World) (b : Nat) (cs : Array Value) : (stS 63 (.pointer (some ⟨b, 0, none⟩)) (.agg cs)).run Tryd.prog w = if whole w b 5 = true ∧ ones cs 5 = true then .ok () (w.setRow b cs) else (Instr.storeAt 63 (.pointer (some ⟨b, 0, none⟩)) (.agg cs)).run Tryd.prog w := run_stS Tryd.size63 w b cs
theorem Tryd.info34 : (Tryd.prog.info? 34).map (fun i => (i.zero, i.size, i.bytes)) = some (some (.agg (qqCs ⟨0, 0, 0, 0⟩)), 10, 104) := by kernel_rfl

theorem u32s_form {w : World} {ok : Nat → Prop} {v : Value} {xs : List Int} (h : U32sAt w ok v xs) : ∃ a cap, v = .slice a xs.length cap := by
  obtain ⟨a, cap, b, off, h1, -⟩ := h
  exact ⟨a, cap, h1⟩

/-- A step of the script as it lies in memory. -/
theorem op_at {w : World} {ok : Nat → Prop} {b off : Nat} {o : Op} {cs : List Value} (h : EOp w ok cs o) (hc : ∀ j (hj : j < cs.length), w.cell? ⟨b, off + j, none⟩ = some cs[j]) :
    ∃ la ln lc va vn vc, rng w b off 10 = some (opCs o (.slice la ln lc) (.slice va vn vc)) ∧ o.Ok ∧ U32sAt w ok (.slice la ln lc) o.list ∧ VisitsAt w ok (.slice va vn vc) o.visits := by
  obtain ⟨lv, vv, rfl, a1, a2, a3, a4, a5, a6, a7, a8, hl, hv⟩ := h
  obtain ⟨l1, l2⟩ := U32sAt.of_arr hl
  obtain ⟨v1, v2⟩ := VisitsAt.of_arr hv
  obtain ⟨la, lc, hla⟩ := u32s_form l1
  obtain ⟨va, vc, hva⟩ := v1.form
  subst hla hva
  refine ⟨_, _, _, _, _, _, ?_, ⟨a1, a2, a3, a4, a5, a6, a7, a8, l2, v2⟩, l1, v1⟩
  exact rng_of_cells (by simp) hc

theorem Tryd.size28 (w : World) : (sizeOf 28).run Tryd.prog w = .ok 1 w := by kernel_rfl

/-- The kinds of the queries, as the program's text lays them. -/
structure QK (w : World) (kb ko kc : Nat) : Prop where
  head : w.cell? ⟨0, 0, none⟩ = some (.slice (some ⟨kb, ko, none⟩) 10 kc)
  cap : 10 ≤ kc ∧ kc ≤ maxLen
  lt : 0 < w.heap.size ∧ kb < w.heap.size
  at' : ∀ i, i < 10 → w.cell? ⟨kb, ko + i, none⟩ = some (.int .u8 (6 + (i : Int)))

theorem QK.below {w w' : World} {kb ko kc : Nat} (h : QK w kb ko kc) (hb : Below w.heap.size w w') : QK w' kb ko kc := by
  have hz := hb.size
  exact ⟨(hb.cell (p := ⟨0, 0, none⟩) h.lt.1).trans h.head, h.cap, ⟨by have := h.lt.1; omega, by have := h.lt.2; omega⟩, fun i hi => (hb.cell (p := ⟨kb, ko + i, none⟩) h.lt.2).trans (h.at' i hi)⟩

/-- How many questions come of the first steps. -/
def askN (s : List Op) : Nat := 10 * s.length + 2 * sumOf (fun o => o.visits.length) s
theorem askN_take {s : List Op} {q : Nat} (h : q < s.length) : askN (s.take (q + 1)) = askN (s.take q) + 10 + 2 * s[q].visits.length := by
  unfold askN
  rw [sumOf_take_succ _ s q h, List.length_take, List.length_take]
  omega
theorem askN_total (s : List Op) : askN s ≤ 10 * total s := by
  unfold askN total
  have : sumOf (fun o : Op => o.visits.length) s ≤ sumOf Op.weight s := by
    induction s with
    | nil => simp [sumOf]
    | cons x r ih => simp only [sumOf]; have : x.visits.length ≤ Op.weight x := by unfold Op.weight; omega
                     omega
  omega
theorem askN_le (s : List Op) (q : Nat) : askN (s.take q) ≤ askN s := by
  unfold askN
  have := sumOf_take_le (fun o : Op => o.visits.length) s q
  rw [List.length_take]
  omega

/-- What has been asked so far. -/
structure QI (w wr : World) (v : Value) (N : Nat) : Prop where
  ex : ∃ qs : List QQ, OwnR wr w.heap.size 34 10 qqCs v qs ∧ (∀ q ∈ qs, q.Ok) ∧ qs.length ≤ N
  below : Below w.heap.size w wr

theorem qq_fst (q r : QQ) : (qqCs q ++ qqCs r).extract 0 10 = qqCs q := by kernel_rfl
theorem qq_snd (q r : QQ) : (qqCs q ++ qqCs r).extract 10 20 = qqCs r := by kernel_rfl
theorem two_at (w : World) (q r : QQ) : ∀ i (h : i < [q, r].length), rng (w.alloc (.cells (qqCs q ++ qqCs r) 34)) w.heap.size (0 + i * 10) 10 = some (qqCs [q, r][i]) := fun i h => by
  have h1 := qq_fst q r
  have h2 := qq_snd q r
  have h3 : (qqCs q ++ qqCs r).size = 20 := by rw [Array.size_append, qqCs_size, qqCs_size]
  obtain rfl | rfl : i = 0 ∨ i = 1 := by simp at h; omega
  · unfold rng
    rw [heap_alloc_at]
    simp [h1, h3]
  · unfold rng
    rw [heap_alloc_at]
    simp [h2, h3]

attribute [local go_sem] ext_const Ext.cell Ext.frozen Ext.rng Ext.whole
attribute [local go_sem ↓] exec_ldOp exec_stOp exec_bd4Op exec_bd3Op exec_bsOp exec_bs2Op exec_ldVisit exec_stVisit
attribute [local go_sem] run_ldOp run_stOp run_bd4Op run_bd3Op run_bsOp run_bs2Op run_ldVisit run_stVisitQ whole_alloc_lt whole_alloc_at whole_drew setRow_alloc_at setRow_alloc_lt rng_alloc_lt rng_drew rng_drewN

set_option maxRecDepth 100000 in
set_option maxHeartbeats 4000000 in
theorem questions_calls (w : World) (v : Value) (s : List Op) (kb ko kc : Nat) (h : Script w (· < w.heap.size) v s) (hq : QK w kb ko kc) (htot : total s ≤ 65536) :
    Calls Tryd.prog 11 #[v] w fun e w' => ∃ qv, e = .returned qv ∧ QI w w' qv 655360 := by
  have hask : ∀ q, askN (s.take q) ≤ 655360 := fun q => by have := askN_le s q; have := askN_total s; omega
  have HASK := hide hask
  have HQ := hide hq
  have hg0 := hq.lt.1
  have hkb := hq.lt.2
  have hkc := hq.cap
  obtain ⟨a, cap, b, off, rfl, hl, hm, hr, ha, hc⟩ := h
  obtain ⟨n, hn⟩ : ∃ n, n = s.length := ⟨_, rfl⟩
  have Hn : Hid (n = s.length) := hn
  have hlen : n ≤ 65536 := by unfold total at htot; omega
  rw [← hn] at hl hr ha ⊢
  have hi := run_indexAt_arr (P := Tryd.prog) (cap := cap) Tryd.underlying22 Tryd.size34 (fun h => (ha h).1)
  have HB : Hid (0 < n → b < w.heap.size) := fun h => (ha h).2
  have HC := hide hc
  have hki := run_indexAt_arr (P := Tryd.prog) (n := 10) (cap := kc) (a := some ⟨kb, ko, none⟩) Tryd.underlying122 Tryd.size28 (b := kb) (off := ko) (fun _ => rfl)
  clear ha hc hn hm hl hq htot hask
  go_enter Tryd.func11, Tryd.ntmps11
  go_upto_region 3 with fail
  go_loopg [3, 12] n (fun g x3 x12 wr => ∃ q : Nat, q ≤ n ∧ g = n - q ∧ x12 = .int .i64 q ∧ Hid (QI w wr x3 (askN (s.take q))))
  case atStart => exact ⟨0, by omega, by omega, rfl, ⟨[], OwnR.nil _ _ _ _ _, fun q hq => absurd hq (by simp), by simp⟩, Below.refl _ _⟩
  case round =>
    obtain ⟨q, hqn, rfl, rfl, HI⟩ := hrel
    by_cases hlt : q < n
    · have hqs : q < s.length := by rw [← Hn.out]; exact hlt
      have hbb := HB.out (by omega)
      obtain ⟨cs, -, hE, hcell⟩ := HC.out q hqs
      obtain ⟨la, ln, lc, va, vn, vc, hrg, hok, hlist, hvis⟩ := op_at hE hcell
      clear hE hcell hlist
      have hbel := HI.out.below
      have hsr := hbel.size
      rw [← rng_of_block (hbel.block b hbb)] at hrg
      have hbw : b < wr.heap.size := by omega
      have HNX := hide (askN_take hqs)
      generalize s[q] = o at *
      obtain ⟨okind, oid, oref, omin, odel, ol0, ol1, ol2, olist, ovis⟩ := o
      have hid := hok.id
      have hre := hok.ref
      have hmi := hok.minute
      have hvo := hok.visits
      simp only [opCs] at hrg hid hre hmi
      simp only at HNX hvis hvo
      have HVO := hide hvo
      have HOK := hide (And.intro hid (And.intro hre hmi))
      clear hok hid hre hmi hvo
      go_upto_region 5 with fail
      obtain ⟨G, hG⟩ : ∃ G, G = wr.heap.size := ⟨_, rfl⟩
      obtain ⟨wa, hwa⟩ : ∃ wa, wa = wr.alloc (.cells #[.int .u8 okind, .int .u32 oid, .int .u32 oref, .int .i64 omin, .int .i64 odel, .int .i64 ol0, .int .i64 ol1, .int .i64 ol2, .slice la ln lc, .slice va vn vc] 34) := ⟨_, rfl⟩
      have hba : Below wr.heap.size wr wa := by rw [hwa]; exact (Below.refl _ _).alloc (Nat.le_refl _) _
      have hga : wa.heap[G]? = some (.cells #[.int .u8 okind, .int .u32 oid, .int .u32 oref, .int .i64 omin, .int .i64 odel, .int .i64 ol0, .int .i64 ol1, .int .i64 ol2, .slice la ln lc, .slice va vn vc] 34 (0, 0)) := by rw [hwa, hG]; exact heap_alloc_at _ _
      have hsa : G < wa.heap.size := by rw [hwa, hG]; simp
      have hGl : w.heap.size ≤ G := by omega
      rw [← hwa]
      rw [← hG] at hba ⊢
      have HIa : Hid (∃ qs : List QQ, OwnR wa w.heap.size 34 10 qqCs u3 qs ∧ (∀ q ∈ qs, q.Ok) ∧ qs.length ≤ askN (s.take q)) := by
        obtain ⟨qs, z1, z2, z3⟩ := HI.out.ex
        exact ⟨qs, z1.below (by rw [← hG]; exact hba) (Nat.le_refl _), z2, z3⟩
      have HBa := hide (hbel.trans (hba.mono hGl))
      have HOB : Hid (u3.ownBlock ≠ some G) := fun e => by
        obtain ⟨qs, z1, z2, z3⟩ := HI.out.ex
        have := (z1.block G e).2
        omega
      have hvisa : VisitsAt wa (· < w.heap.size) (.slice va vn vc) ovis := hvis.mono (fun b hb => HBa.out.block b hb) (fun _ h => h)
      have HGA := hide hga
      have c0 : wa.cell? ⟨0, 0, none⟩ = some (.slice (some ⟨kb, ko, none⟩) 10 kc) := by rw [HBa.out.cell (p := ⟨0, 0, none⟩) hg0]; exact HQ.out.head
      have hz0 : 0 < wa.heap.size := by omega
      clear hwa hrg hG hba HI hga hbel hvis hsr hbw
      go_upto_region 6 with fail
      obtain ⟨qs0, HO0, HQ0, hl0⟩ := HIa.out
      go_loopg [3, 18] 10 (fun g x3 x18 wx => ∃ (k : Nat) (qs : List QQ), k ≤ 10 ∧ g = 10 - k ∧ x18 = .int .i64 k ∧ Hid (OwnR wx w.heap.size 34 10 qqCs x3 qs) ∧ Hid (∀ q ∈ qs, q.Ok) ∧ qs.length ≤ askN (s.take q) + k ∧ Hid (Below w.heap.size w wx) ∧ Hid (wx.heap[G]? = wa.heap[G]?) ∧ Hid (x3.ownBlock ≠ some G) ∧ G < wx.heap.size)
      case atStart => exact ⟨0, qs0, by omega, by omega, rfl, HO0, HQ0, by omega, HBa, rfl, HOB, hsa⟩
      case round =>
        obtain ⟨k, qs, hk, rfl, rfl, HO, HQS, hql, HBX, HGX, HOX, hGx⟩ := hrel
        have hgx := HGX.out.trans HGA.out
        have d1 : wr.cell? ⟨G, 1, none⟩ = some (.int .u32 oid) := by rw [World.cell?, hgx]; rfl
        have d2 : wr.cell? ⟨G, 2, none⟩ = some (.int .u32 oref) := by rw [World.cell?, hgx]; rfl
        have d3 : wr.cell? ⟨G, 3, none⟩ = some (.int .i64 omin) := by rw [World.cell?, hgx]; rfl
        have d9 : wr.cell? ⟨G, 9, none⟩ = some (.slice va vn vc) := by rw [World.cell?, hgx]; rfl
        have hsx := HBX.out.size
        have hqb := HASK.out q
        clear hgx
        by_cases hk2 : k < 10
        · have e0 : wr.cell? ⟨kb, ko + k, none⟩ = some (.int .u8 (6 + (k : Int))) := by rw [HBX.out.cell (p := ⟨kb, ko + k, none⟩) hkb]; exact HQ.out.at' k hk2
          have hkx : kb < wr.heap.size := by omega
          have HNEW : Hid (∀ y ∈ qs ++ [⟨6 + (k : Int), oid, oref, omin⟩], QQ.Ok y) := fun y hy => by
            rcases List.mem_append.1 hy with hy | hy
            · exact HQS.out y hy
            · rw [List.mem_singleton.1 hy]
              exact ⟨by show 6 ≤ 6 + (k : Int); omega, by show 6 + (k : Int) ≤ 15; omega, HOK.out.1, HOK.out.2.1, HOK.out.2.2⟩
          go_wp2_with (at_builtin; refine wpList_app1 (α := QQ) rfl _ _ 22 rfl w.heap.size 34 qqCs Tryd.underlying22 Tryd.info34 rfl (by decide) qqCs_size qqCs_one _ qs rfl (OwnR.below HO.out ((Below.refl _ _).alloc (Nat.le_refl _) _) (Nat.le_refl _)) _ rfl (⟨6 + (k : Int), oid, oref, omin⟩ : QQ) (rng_whole (heap_alloc_at _ _)) (by omega) (by unfold maxLen; omega) (by simp; omega) ?_; intro v8 w8 hown8 hsame8 hbel8 hat8)
          go_roundg (10 - (k + 1))
          case measure => omega
          case rel =>
            have h8 := hbel8.size
            simp only [World.size_alloc] at h8
            refine ⟨k + 1, _, by omega, rfl, by go_num, hown8, HNEW, by simp only [List.length_append, List.length_singleton]; omega, (HBX.out.alloc hsx _).trans hbel8, ?_, fun e => ?_, by omega⟩
            · exact ((hsame8 G ⟨by simp only [World.size_alloc]; omega, HOX.out⟩).trans (Below.heap_alloc _ _ _ hGx)).trans HGX.out
            · rcases hat8 with h | h
              · rw [h] at e; exact HOX.out e
              · rw [h] at e; injection e with e; simp only [World.size_alloc] at e; omega
        · obtain ⟨zs, hRR, hzm, hzp⟩ := hvisa
          obtain ⟨za, zcap, zb, zo, hv0, zl, zm, zr, zha, zhc⟩ := hRR
          injection hv0 with e1 hzn e3
          subst e1 e3
          rw [← hzn] at zl zr zha
          have hzi := run_indexAt_arr (P := Tryd.prog) (n := vn) (cap := vc) Tryd.underlying32 Tryd.size63 (fun h => (zha h).1)
          have HZB : Hid (0 < vn → zb < w.heap.size) := fun h => (zha h).2
          have HZC := hide zhc
          have HZN := hide hzn
          have hvl : ovis.length = vn := by rw [← hzm, List.length_map]; exact hzn.symm
          rw [hvl] at HNX
          have HZU : Hid (∀ i (hi : i < zs.length), U32 zs[i].1.id) := fun i hi => (HVO.out zs[i].1 (by rw [← hzm]; exact List.mem_map.2 ⟨_, List.getElem_mem hi, rfl⟩)).id
          clear hzn hzm hzp zha zhc hvl zm
          obtain ⟨wb, hwb⟩ : ∃ wb, wb = wr := ⟨_, rfl⟩
          go_upto_region 11 with fail
          go_loopg [3, 37] vn (fun g x3 x37 wx => ∃ (j : Nat) (qs : List QQ), j ≤ vn ∧ g = vn - j ∧ x37 = .int .i64 j ∧ Hid (OwnR wx w.heap.size 34 10 qqCs x3 qs) ∧ Hid (∀ q ∈ qs, q.Ok) ∧ qs.length ≤ askN (s.take q) + 10 + 2 * j ∧ Hid (Below w.heap.size w wx) ∧ Hid (wx.heap[G]? = wa.heap[G]?) ∧ Hid (x3.ownBlock ≠ some G) ∧ G < wx.heap.size)
          case atStart => exact ⟨0, qs, by omega, by omega, rfl, HO, HQS, by omega, HBX, HGX, HOX, hGx⟩
          case round =>
            clear d1 d2 d3 d9 HO HQS HBX HGX HOX hGx hsx
            obtain ⟨j, qs, hj, rfl, rfl, HO, HQS, hql, HBX, HGX, HOX, hGx⟩ := hrel
            have hgx := HGX.out.trans HGA.out
            have d1 : wr.cell? ⟨G, 1, none⟩ = some (.int .u32 oid) := by rw [World.cell?, hgx]; rfl
            have d3 : wr.cell? ⟨G, 3, none⟩ = some (.int .i64 omin) := by rw [World.cell?, hgx]; rfl
            have hsx := HBX.out.size
            clear hgx
            by_cases hj2 : j < vn
            · have hjz : j < zs.length := by rw [← HZN.out]; exact hj2
              have hrg := HZC.out j hjz
              have hzbb := HZB.out (by omega)
              have hU := HZU.out j hjz
              rw [rng_of_block (HBa.out.block zb hzbb), ← rng_of_block (HBX.out.block zb hzbb)] at hrg
              have hzx : zb < wr.heap.size := by omega
              generalize zs[j] = z at *
              obtain ⟨⟨xid, xta, xea, xla, xpa⟩, ⟨pa, pn, pc⟩⟩ := z
              simp only [vzCs, sv] at hrg
              simp only at hU
              have HNEW : Hid (∀ y ∈ qs ++ [⟨13, 0, xid, omin⟩, ⟨6, oid, xid, omin⟩], QQ.Ok y) := fun y hy => by
                rcases List.mem_append.1 hy with hy | hy
                · exact HQS.out y hy
                · rcases List.mem_cons.1 hy with rfl | hy
                  · exact ⟨by show (6 : Int) ≤ 13; decide, by show (13 : Int) ≤ 15; decide, u32_small 0 (by decide), hU, HOK.out.2.2⟩
                  · rw [List.mem_singleton.1 hy]
                    exact ⟨by show (6 : Int) ≤ 6; decide, by show (6 : Int) ≤ 15; decide, HOK.out.1, hU, HOK.out.2.2⟩
              have hov : ones #[.int .u32 xid, .int .i64 xta, .int .i64 xea, .int .i64 xla, .slice pa pn pc] 5 = true := rfl
              clear hU
              go_upto_region 13 with fail
              obtain ⟨wc, hwc⟩ : ∃ wc, wc = wr.alloc (.cells #[.int .u32 xid, .int .i64 xta, .int .i64 xea, .int .i64 xla, .slice pa pn pc] 63) := ⟨_, rfl⟩
              have hbc : Below wr.heap.size wr wc := by rw [hwc]; exact (Below.refl _ _).alloc (Nat.le_refl _) _
              have hgc : wc.heap[wr.heap.size]? = some (.cells #[.int .u32 xid, .int .i64 xta, .int .i64 xea, .int .i64 xla, .slice pa pn pc] 63 (0, 0)) := by rw [hwc]; exact heap_alloc_at _ _
              have hsc : wr.heap.size < wc.heap.size := by rw [hwc]; simp
              rw [← hwc]
              have f0 : wc.cell? ⟨wr.heap.size, 0, none⟩ = some (.int .u32 xid) := by rw [World.cell?, hgc]; rfl
              have f1 : wc.cell? ⟨G, 1, none⟩ = some (.int .u32 oid) := by rw [hbc.cell (p := ⟨G, 1, none⟩) hGx]; exact d1
              have f3 : wc.cell? ⟨G, 3, none⟩ = some (.int .i64 omin) := by rw [hbc.cell (p := ⟨G, 3, none⟩) hGx]; exact d3
              have hGc : G < wc.heap.size := by omega
              have HOc := hide (HO.out.below hbc (Nat.le_refl _))
              have HBc := hide (HBX.out.trans (hbc.mono hsx))
              have HGc : Hid (wc.heap[G]? = wa.heap[G]?) := (hbc.block G hGx).trans HGX.out
              have hsc' : w.heap.size ≤ wc.heap.size := by omega
              have hqb : askN (s.take q) + 10 + 2 * vn ≤ 655360 := by have := HASK.out (q + 1); rw [HNX.out] at this; exact this
              clear hwc hrg hgc d1 d3 hbc
              go_wp2_with (at_builtin; refine wpList_appN (α := QQ) rfl _ _ 22 rfl w.heap.size 34 qqCs Tryd.underlying22 Tryd.info34 rfl (by decide) qqCs_size qqCs_one _ qs rfl (OwnR.below HOc.out ((Below.refl _ _).alloc (Nat.le_refl _) _) (Nat.le_refl _)) _ 2 2 rfl [⟨13, 0, xid, omin⟩, ⟨6, oid, xid, omin⟩] rfl (fun h => by cases h) (fun _ => ⟨_, _, rfl, two_at _ _ _⟩) (by omega) (by unfold maxLen; omega) (by simp only [World.size_alloc]; omega) ?_; intro v8 w8 hown8 hsame8 hbel8 hat8)
              go_roundg (vn - (j + 1))
              case measure => omega
              case rel =>
                have h8 := hbel8.size
                simp only [World.size_alloc] at h8
                refine ⟨j + 1, _, by omega, rfl, by go_num, hown8, HNEW, by simp only [List.length_append, List.length_cons, List.length_nil]; omega, (HBc.out.alloc hsc' _).trans hbel8, ?_, fun e => ?_, by omega⟩
                · exact ((hsame8 G ⟨by simp only [World.size_alloc]; omega, HOX.out⟩).trans (Below.heap_alloc _ _ _ hGc)).trans HGc.out
                · rcases hat8 with h | h
                  · rw [h] at e; exact HOX.out e
                  · rw [h] at e; injection e with e; simp only [World.size_alloc] at e; omega
            · go_wp2
              go_roundg (n - (q + 1))
              case measure => omega
              case rel => exact ⟨q + 1, by omega, rfl, by go_num, ⟨qs, HO.out, HQS.out, by rw [HNX.out]; omega⟩, HBX.out⟩
    · have HF := hide (HASK.out q)
      go_wp2
      go_ret
      obtain ⟨qs, h1, h2, h3⟩ := HI.out.ex
      exact ⟨_, rfl, ⟨qs, h1, h2, Nat.le_trans h3 HF.out⟩, HI.out.below⟩

end Go.Proofs.Qxb6500665aDoor
