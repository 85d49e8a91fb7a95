/- command, walked. -/
import Derived.Test.Qxb6500666aGreatDoorCmdS
import Derived.Test.Qxb6500666aGreatDoorEntOk
namespace Go.Proofs.Qxb6500666aGreatDoor
open Go.RowKit

section
variable (ρ : Operand → Value) (dst : Option Tmp) (x y z u : Operand) (ty : TypeId) (pos : String) (after : Array Edge) (guard : Option (Nat × Bool))
theorem exec_ldBen : execOp ρ { dst, op := .load 83 x, type := ty, pos, after, guard } = (do pure (.value (← ldS 83 (ρ x)))) := rfl
theorem exec_stBen : execOp ρ { dst, op := .store 83 x y, type := ty, pos, after, guard } = (do stS 83 (ρ x) (ρ y); pure .skip) := rfl
def bdDrS (a b c : Value) : Sem Value := Instr.build 330 #[(0, a), (1, b), (2, c)]
theorem exec_bdDr : execOp ρ { dst, op := .build 330 #[(0, x), (1, y), (2, z)], type := ty, pos, after, guard } = (do pure (.value (← bdDrS (ρ x) (ρ y) (ρ z)))) := by simp [execOp, bdDrS]
def bdEnt4S (a b c d : Value) : Sem Value := Instr.build 67 #[(0, a), (1, b), (2, c), (3, d)]
theorem exec_bdEnt4 : execOp ρ { dst, op := .build 67 #[(0, x), (1, y), (2, z), (3, u)], type := ty, pos, after, guard } = (do pure (.value (← bdEnt4S (ρ x) (ρ y) (ρ z) (ρ u)))) := by simp [execOp, bdEnt4S]
end
theorem Tryz.size83_z (w : World) : (sizeOf 83).run Tryz.prog w = .ok 8 w := by kernel_rfl
theorem run_ldBen (w : World) (b off : Nat) : (ldS 83 (.pointer (some ⟨b, off, none⟩))).run Tryz.prog w = match rng w b off 8 with | some cs => .ok (.agg cs) w | none => (Instr.loadAt 83 (.pointer (some ⟨b, off, none⟩))).run Tryz.prog w :=
  run_ldS Tryz.underlying83 Tryz.size83_z w b off
theorem run_stBen (w : World) (b : Nat) (cs : Array Value) : (stS 83 (.pointer (some ⟨b, 0, none⟩)) (.agg cs)).run Tryz.prog w = if whole w b 8 = true ∧ ones cs 8 = true then .ok () (w.setRow b cs) else (Instr.storeAt 83 (.pointer (some ⟨b, 0, none⟩)) (.agg cs)).run Tryz.prog w := run_stS Tryz.size83_z w b cs
theorem run_bdDr (w : World) (r : Req) (lv : Value) (s : Stat) (x : LV) : (bdDrS (.agg (reqA r lv)) (.agg (statCs s)) (.agg (lvCs x))).run Tryz.prog w = .ok (.agg (draftCs r lv s x (.slice none 0 0) 0)) w := by kernel_rfl
theorem run_bdEnt4 (w : World) (a b c : Int) (r : Req) (lv : Value) : (bdEnt4S (.int .u32 a) (.int .u8 b) (.int .u32 c) (.agg (reqA r lv))).run Tryz.prog w = .ok (.agg (entA ⟨a, b, c, r⟩ lv)) w := by kernel_rfl
theorem low_ones {w : World} {ok : Nat → Prop} {x : LV} {L : Low} (h : LowAt w ok x L) : ones (lvCs x) 8 = true := by
  obtain ⟨p0, p1, p2, p3, k, s1, s2, s3⟩ := x
  obtain ⟨⟨_, _, _, e0⟩, ⟨_, _, _, e1⟩, ⟨_, _, _, e2⟩, ⟨_, _, _, e3⟩⟩ := h.pr.forms
  obtain ⟨_, _, _, _, ek, _⟩ := h.kit
  obtain ⟨⟨_, _, _, f1⟩, ⟨_, _, _, f2⟩, ⟨_, _, _, f3⟩⟩ := h.sm.forms
  dsimp only at e0 e1 e2 e3 ek f1 f2 f3
  subst e0 e1 e2 e3 ek f1 f2 f3
  rfl
theorem reqA_size (r : Req) (lv : Value) : (reqA r lv).size = 17 := rfl
theorem draftCs_size (r : Req) (lv : Value) (s : Stat) (x : LV) (wv : Value) (iss : Int) : (draftCs r lv s x wv iss).size = 31 := rfl

attribute [local go_sem] ext_const Ext.cell Ext.frozen Ext.rng Ext.whole
attribute [local go_sem ↓] exec_ldRsp exec_stRsp exec_bdRsp exec_ldStat exec_stStat exec_ldReq exec_stReq exec_ldEnt exec_stEnt exec_ldBen exec_stBen exec_bdDr exec_bdEnt4
attribute [local go_sem] run_ldRsp run_stRsp run_bdRsp0 run_bdRsp1 respCs_ones run_ldStat run_stStat run_ldReq run_stReq run_ldEnt run_stEnt run_ldBen run_stBen run_bdDr run_bdEnt4 entA_size reqA_size draftCs_size whole_alloc_lt whole_alloc_at whole_drew setRow_alloc_at setRow_alloc_lt rng_alloc_lt rng_alloc_at rng_drew rng_drewN rng_setCell_other whole_setCell_other

/-- The table of handlers, as it is laid. -/
structure HtAt (w : World) : Prop where
  lt : 5 < w.heap.size
  t1 : w.cell? ⟨3, 1, none⟩ = some (.func (.func 283) #[] #[])
  t2 : w.cell? ⟨3, 2, none⟩ = some (.func (.func 284) #[] #[])
  t3 : w.cell? ⟨3, 3, none⟩ = some (.func (.func 285) #[] #[])
  t4 : w.cell? ⟨3, 4, none⟩ = some (.func (.func 286) #[] #[])
  t5 : w.cell? ⟨3, 5, none⟩ = some (.func (.func 287) #[] #[])
  t6 : w.cell? ⟨3, 6, none⟩ = some (.func (.func 288) #[] #[])
  t7 : w.cell? ⟨3, 7, none⟩ = some (.func (.func 289) #[] #[])
  t8 : w.cell? ⟨3, 8, none⟩ = some (.func (.func 290) #[] #[])
  t9 : w.cell? ⟨3, 9, none⟩ = some (.func (.func 291) #[] #[])
  t10 : w.cell? ⟨3, 10, none⟩ = some (.func (.func 292) #[] #[])
  t11 : w.cell? ⟨3, 11, none⟩ = some (.func (.func 293) #[] #[])
  t12 : w.cell? ⟨3, 12, none⟩ = some (.func (.func 294) #[] #[])
  t13 : w.cell? ⟨3, 13, none⟩ = some (.func (.func 295) #[] #[])
  t14 : w.cell? ⟨3, 14, none⟩ = some (.func (.func 296) #[] #[])
  t15 : w.cell? ⟨3, 15, none⟩ = some (.func (.func 297) #[] #[])
  t16 : w.cell? ⟨3, 16, none⟩ = some (.func (.func 298) #[] #[])
  t17 : w.cell? ⟨3, 17, none⟩ = some (.func (.func 299) #[] #[])
  t18 : w.cell? ⟨3, 18, none⟩ = some (.func (.func 300) #[] #[])
  t19 : w.cell? ⟨3, 19, none⟩ = some (.func (.func 301) #[] #[])
  t20 : w.cell? ⟨3, 20, none⟩ = some (.func (.func 302) #[] #[])
theorem HtAt.below {w w' : World} {B : Nat} (h : HtAt w) (hb : Below B w w') (hB : 5 < B) : HtAt w' :=
  ⟨Nat.lt_of_lt_of_le h.lt hb.size, (hb.cell (p := ⟨_, _, none⟩) (by dsimp only; omega)).trans h.t1, (hb.cell (p := ⟨_, _, none⟩) (by dsimp only; omega)).trans h.t2, (hb.cell (p := ⟨_, _, none⟩) (by dsimp only; omega)).trans h.t3, (hb.cell (p := ⟨_, _, none⟩) (by dsimp only; omega)).trans h.t4, (hb.cell (p := ⟨_, _, none⟩) (by dsimp only; omega)).trans h.t5, (hb.cell (p := ⟨_, _, none⟩) (by dsimp only; omega)).trans h.t6, (hb.cell (p := ⟨_, _, none⟩) (by dsimp only; omega)).trans h.t7, (hb.cell (p := ⟨_, _, none⟩) (by dsimp only; omega)).trans h.t8, (hb.cell (p := ⟨_, _, none⟩) (by dsimp only; omega)).trans h.t9, (hb.cell (p := ⟨_, _, none⟩) (by dsimp only; omega)).trans h.t10, (hb.cell (p := ⟨_, _, none⟩) (by dsimp only; omega)).trans h.t11, (hb.cell (p := ⟨_, _, none⟩) (by dsimp only; omega)).trans h.t12, (hb.cell (p := ⟨_, _, none⟩) (by dsimp only; omega)).trans h.t13, (hb.cell (p := ⟨_, _, none⟩) (by dsimp only; omega)).trans h.t14, (hb.cell (p := ⟨_, _, none⟩) (by dsimp only; omega)).trans h.t15, (hb.cell (p := ⟨_, _, none⟩) (by dsimp only; omega)).trans h.t16, (hb.cell (p := ⟨_, _, none⟩) (by dsimp only; omega)).trans h.t17, (hb.cell (p := ⟨_, _, none⟩) (by dsimp only; omega)).trans h.t18, (hb.cell (p := ⟨_, _, none⟩) (by dsimp only; omega)).trans h.t19, (hb.cell (p := ⟨_, _, none⟩) (by dsimp only; omega)).trans h.t20⟩
theorem kind20 {k : Int} (h : 1 ≤ k ∧ k ≤ 20) : k = 1 ∨ k = 2 ∨ k = 3 ∨ k = 4 ∨ k = 5 ∨ k = 6 ∨ k = 7 ∨ k = 8 ∨ k = 9 ∨ k = 10 ∨ k = 11 ∨ k = 12 ∨ k = 13 ∨ k = 14 ∨ k = 15 ∨ k = 16 ∨ k = 17 ∨ k = 18 ∨ k = 19 ∨ k = 20 := by omega
theorem DraftAt.rng8 {w : World} {D : Nat} {r : Req} {lv : Value} {s : Stat} {x : LV} {wv : Value} {iss : Int} (h : DraftAt w D r lv s x wv iss) : Qxb6500666aGreatDoor.rng w D 21 8 = some (lvCs x) ∧ Qxb6500666aGreatDoor.rng w D 17 4 = some (statCs s) := by
  refine ⟨?_, ?_⟩ <;> (unfold Qxb6500666aGreatDoor.rng; rw [h]; rfl)

set_option maxRecDepth 100000 in
set_option maxHeartbeats 4000000 in
theorem command_calls (w : World) (Y S LB base : Nat) (pv : Value) (A ok okv : Nat → Prop) (zs : List ZP) (full : Bool) (off lar : Int) (x : LV) (L : Low) (r : Req) (lv : Value) (role : Int) (h : BS w Y S LB base pv A ok zs full off lar x L) (hp : PO (zs.map (·.2)) L) (hr : r.Ok) (hrole : U8 role) (hvis : RArr w okv 1 u32Cs lv r.list) (hids : ∀ y ∈ r.list, U32 y) (hk : 1 ≤ r.kind ∧ r.kind ≤ 20) (hoff : 0 ≤ off ∧ off ≤ 1000000000000000) (hht : HtAt w) :
    Calls Tryz.prog 129 #[.pointer (some ⟨Y, 0, none⟩), .agg (reqA r lv), .int .u8 role] w fun e w' => CmdPost w w' Y S LB base pv A ok full e (cmdR (zs.map (·.2)) full off lar L r role) := by
  obtain ⟨R, hR⟩ : ∃ R, R = cmdR (zs.map (·.2)) full off lar L r role := ⟨_, rfl⟩
  rw [← hR]
  have HR := hide hR
  have HS := hide (fun W (hb : Below w.heap.size w W) => (h.toSys hp).below hb)
  have H := hide h
  have HP := hide hp
  have HST := hide (fun W (hb : Below w.heap.size w W) => statR_calls W Y S LB _ _ full (HS.out W hb).sys (HS.out W hb).st hp.pk)
  have HVL := hide (RArr.lt hvis)
  have HT := hide hht
  have HID := hide hids
  have h5 := hht.lt
  have hSl := blk_lt h.stm.top
  have hLl := blk_lt h.lb
  have hYl := blk_lt h.sys
  have hYc := (sys_cells h.sys)
  clear hR hp h hht hids
  have hov : ∀ x, ones (statCs x) 4 = true := fun _ => rfl
  obtain ⟨la, lc, ll, lo, rfl, hll, -⟩ := hvis
  go_enter Tryz.func129, Tryz.ntmps129
  go_upto_region 1 with fail
  have H0 := hide (CB.start w (reqA r (.slice la r.list.length lc)))
  change Code.wp _ _ _ _ ((w.alloc (.cells (reqA r (.slice la r.list.length lc)) 53)).alloc (.cells (respCs rsp0) 75))
  generalize (w.alloc (.cells (reqA r (.slice la r.list.length lc)) 53)).alloc (.cells (respCs rsp0) 75) = W0 at *
  cases hs : statR (zs.map (·.2)) with
  | error c =>
    have HE : Hid (R = ⟨c, 0, zs.map (·.2), off, lar, L⟩) := HR.out.trans (by unfold cmdR; rw [hs])
    have HSS := hide hs
    clear hs
    --B
    go_upto_region 2 with (go_at_call 116; refine (HST.out _ H0.out.blw).mono ?_; rintro e W1 hp; obtain ⟨rfl, hb⟩ := hp.isErr HSS.out; have H1 := hide (H0.out.next hb); clear hp hb)
    have H2 : Hid (CB w (W1.alloc (.cells (statCs ⟨0, 0, 0, 0⟩) 65)) _) := H1.out.next ((Below.refl _ _).alloc (Nat.le_refl _) _)
    generalize W1.alloc _ = W2 at *
    go_wp2_with (go_at_call 126; refine (refuse_calls _ c).mono ?_; rintro e W3 ⟨rfl, hb⟩; have H3 := hide (H2.out.next hb); obtain ⟨h1, -⟩ := H3.out.facts; clear hb)
    obtain ⟨f1, f2⟩ := H3.out.fin { rsp0 with code := c }
    refine bodyPost_ret (results_cell1 Tryz.results129 _ _ (w.heap.size + 1) _ _ _ _ rfl f1 Tryz.underlying75 rfl (by kernel_rfl)) rfl ?_
    exact CmdPost.refuse H.out f2 HE.out
    --E
  | ok s =>
  have HSO := hide (statR_ok HP.out.pk hs)
  have HRS : Hid (R = if ¬ (0 ≤ r.now ∧ r.now ≤ 157785119) then ⟨5, 0, zs.map (·.2), off, lar, L⟩ else if r.now < s.lastMin then ⟨6, 0, zs.map (·.2), off, lar, L⟩ else if 12 < r.list.length then ⟨14, 0, zs.map (·.2), off, lar, L⟩ else cmdH (zs.map (·.2)) full off lar L r role s) := HR.out.trans (by unfold cmdR; rw [hs])
  have HSS := hide hs
  clear hs HR
  go_upto_region 4 with (go_at_call 116; refine (HST.out _ H0.out.blw).mono ?_; rintro e W1 hp; obtain ⟨rfl, hb⟩ := hp.isOk HSS.out; have H1 := hide (H0.out.next hb); clear hp hb)
  have H2 : Hid (CB w (W1.alloc (.cells (statCs s) 65)) (reqA r (.slice la r.list.length lc))) := H1.out.next ((Below.refl _ _).alloc (Nat.le_refl _) _)
  have HK : Hid ((W1.alloc (.cells (statCs s) 65)).heap[W1.heap.size]? = some (.cells (statCs s) 65 (0, 0))) := heap_alloc_at _ _
  have hKN : w.heap.size + 1 < W1.heap.size := H1.out.facts.2.2.2
  clear H1 H0
  generalize W1.alloc _ = W2 at *
  generalize W1.heap.size = K at *
  obtain ⟨-, hq, hqr, hz2⟩ := H2.out.facts
  have q0 := hq 0
  have q2 := hq 2
  have q16 := hq 16
  simp only [reqA, List.getElem?_toArray, List.getElem?_cons_zero, List.getElem?_cons_succ] at q0 q2 q16
  rw [reqA_size] at hqr
  have k3 : W2.cell? ⟨K, 3, none⟩ = some (.int .i64 s.lastMin) := cells_all HK.out 3
  have hKl := blk_lt HK.out
  clear hq
  obtain ⟨t1, ht1⟩ := bool_for (0 ≤ r.now ∧ r.now ≤ 157785119)
  have HT1 := hide ht1
  clear ht1
  cases t1 with
  | false =>
    have HE : Hid (R = ⟨5, 0, zs.map (·.2), off, lar, L⟩) := HRS.out.trans (if_pos (fun q => by have := HT1.out.2 q; cases this))
    --B
    go_upto_region 5 with (go_at_call 159; refine (validMinute_calls _ _ false HT1.out).mono ?_; rintro e w1 ⟨rfl, rfl⟩)
    go_wp2_with (go_at_call 126; refine (refuse_calls _ 5).mono ?_; rintro e W3 ⟨rfl, hb⟩; have H3 := hide (H2.out.next hb); obtain ⟨h1, -⟩ := H3.out.facts; clear hb)
    obtain ⟨f1, f2⟩ := H3.out.fin { rsp0 with code := 5 }
    refine bodyPost_ret (results_cell1 Tryz.results129 _ _ (w.heap.size + 1) _ _ _ _ rfl f1 Tryz.underlying75 rfl (by kernel_rfl)) rfl ?_
    exact CmdPost.refuse H.out f2 HE.out
    --E
  | true =>
  have HRT : Hid (R = if r.now < s.lastMin then ⟨6, 0, zs.map (·.2), off, lar, L⟩ else if 12 < r.list.length then ⟨14, 0, zs.map (·.2), off, lar, L⟩ else cmdH (zs.map (·.2)) full off lar L r role s) := HRS.out.trans (if_neg (fun q => q (HT1.out.1 rfl)))
  clear HRS
  go_upto_region 6 with (go_at_call 159; refine (validMinute_calls _ _ true HT1.out).mono ?_; rintro e w1 ⟨rfl, rfl⟩)
  cases t2 : decide (r.now < s.lastMin) with
  | true =>
    have HE : Hid (R = ⟨6, 0, zs.map (·.2), off, lar, L⟩) := HRT.out.trans (if_pos (by simpa using t2))
    --B
    go_upto_region 7 with fail
    go_wp2_with (go_at_call 126; refine (refuse_calls _ 6).mono ?_; rintro e W3 ⟨rfl, hb⟩; have H3 := hide (H2.out.next hb); obtain ⟨h1, -⟩ := H3.out.facts; clear hb)
    obtain ⟨f1, f2⟩ := H3.out.fin { rsp0 with code := 6 }
    refine bodyPost_ret (results_cell1 Tryz.results129 _ _ (w.heap.size + 1) _ _ _ _ rfl f1 Tryz.underlying75 rfl (by kernel_rfl)) rfl ?_
    exact CmdPost.refuse H.out f2 HE.out
    --E
  | false =>
  have HRU : Hid (R = if 12 < r.list.length then ⟨14, 0, zs.map (·.2), off, lar, L⟩ else cmdH (zs.map (·.2)) full off lar L r role s) := HRT.out.trans (if_neg (by simpa using t2))
  clear HRT
  go_upto_region 8 with fail
  clear t2
  cases t3 : decide (12 < r.list.length) with
  | true =>
    have HE : Hid (R = ⟨14, 0, zs.map (·.2), off, lar, L⟩) := HRU.out.trans (if_pos (by simpa using t3))
    have t3' : 12 < r.list.length := by simpa using t3
    --B
    go_upto_region 9 with fail
    go_wp2_with (go_at_call 126; refine (refuse_calls _ 14).mono ?_; rintro e W3 ⟨rfl, hb⟩; have H3 := hide (H2.out.next hb); obtain ⟨h1, -⟩ := H3.out.facts; clear hb)
    obtain ⟨f1, f2⟩ := H3.out.fin { rsp0 with code := 14 }
    refine bodyPost_ret (results_cell1 Tryz.results129 _ _ (w.heap.size + 1) _ _ _ _ rfl f1 Tryz.underlying75 rfl (by kernel_rfl)) rfl ?_
    exact CmdPost.refuse H.out f2 HE.out
    --E
  | false =>
  have HRH : Hid (R = cmdH (zs.map (·.2)) full off lar L r role s) := HRU.out.trans (if_neg (by simpa using t3))
  have t3' : r.list.length ≤ 12 := by simpa using t3
  clear HRU
  go_upto_region 10 with fail
  clear t3 k3 q2 q16
  have y1 : W2.cell? ⟨Y, 1, none⟩ = some (.pointer (some ⟨LB, 0, none⟩)) := (H2.out.blw.cell (p := ⟨Y, 1, none⟩) hYl).trans hYc.2
  have hYz : Y < W2.heap.size := by have := H2.out.blw.size; omega
  have hLz : LB < W2.heap.size := by have := H2.out.blw.size; omega
  have hNz : w.heap.size < W2.heap.size := by omega
  have kr : rng W2 K 0 4 = some (statCs s) := rng_whole HK.out
  have lr : rng W2 LB 0 8 = some (lvCs x) := rng_whole ((H2.out.blw.block _ hLl).trans H.out.lb)
  refine wp_region_mixT (W2.heap.size) [0, 1, 5, 7] (by kernel_rfl) ?_
  refine mixT_slots [2, 3, 4] (fuel := 8) rfl (by kernel_rfl) (by kernel_rfl) (fun d _ _ _ _ h => by cases d <;> exact h) ?_
  simp only [opersAt, List.getElem?_toArray, List.getElem?_cons_zero, List.getElem?_cons_succ]
  repeat (go_big_quiet_step (fail))
  refine wpQuiet_nil ?_
  refine mixT_reads [0, 1, 5] (fuel := 5) rfl (by kernel_rfl) (by decide) (by kernel_rfl) (fun d _ _ _ _ h => by cases d <;> exact h) (ext_drew _ _) ?_
  simp only [opersAt, List.getElem?_toArray, List.getElem?_cons_zero, List.getElem?_cons_succ]
  repeat (go_big_quiet_step (fail))
  refine wpQuiet_nil ?_
  refine mixT_slots [6] (fuel := 4) rfl (by kernel_rfl) (by kernel_rfl) (fun d _ _ _ _ h => by cases d <;> exact h) ?_
  simp only [opersAt, List.getElem?_toArray, List.getElem?_cons_zero, List.getElem?_cons_succ]
  repeat (go_big_quiet_step (fail))
  refine wpQuiet_nil ?_
  refine mixT_reads [7] (fuel := 3) rfl (by kernel_rfl) (by decide) (by kernel_rfl) (fun d _ _ _ _ h => by cases d <;> exact h) (ext_drew _ _) ?_
  simp only [opersAt, List.getElem?_toArray, List.getElem?_cons_zero, List.getElem?_cons_succ]
  repeat (go_big_quiet_step (fail))
  refine wpQuiet_nil ?_
  refine mixT_slots [8] (fuel := 2) rfl (by kernel_rfl) (by kernel_rfl) (fun d _ _ _ _ h => by cases d <;> exact h) ?_
  simp only [opersAt, List.getElem?_toArray, List.getElem?_cons_zero, List.getElem?_cons_succ]
  repeat (go_big_quiet_step (fail))
  refine wpQuiet_nil ?_
  refine mixT_one (k := 9) (by kernel_rfl) rfl ?_
  go_wp2
  refine ⟨Or.inl (by kernel_rfl), ?_⟩
  refine mixT_one (k := 10) (by kernel_rfl) rfl ?_
  go_wp2
  refine ⟨Or.inl (by kernel_rfl), ?_⟩
  refine mixT_nil (by kernel_rfl) ?_
  go_upto_region 11 with fail
  have H4 : Hid (CB w (W2.alloc (.cells (draftCs r (.slice la r.list.length lc) s x (.slice none 0 0) 0) 330)).drew (reqA r (.slice la r.list.length lc))) := (H2.out.next ((Below.refl _ _).alloc (Nat.le_refl _) _)).next (Below.refl _ _).drew
  have HD : Hid (DraftAt (W2.alloc (.cells (draftCs r (.slice la r.list.length lc) s x (.slice none 0 0) 0) 330)).drew W2.heap.size r (.slice la r.list.length lc) s x (.slice none 0 0) 0) := heap_alloc_at W2 _
  have hzV : (W2.alloc (.cells (draftCs r (.slice la r.list.length lc) s x (.slice none 0 0) 0) 330)).drew.heap.size = W2.heap.size + 1 := by simp [World.drew]
  generalize World.drew _ = V at *
  have hKD : K < W2.heap.size := hKl
  clear H2 HK kr lr y1 hYz hLz hNz hqr q0 hKl
  generalize W2.heap.size = D at *
  obtain ⟨h1, hq, hqr, hz4⟩ := H4.out.facts
  have q0 := hq 0
  have q2 := hq 2
  simp only [reqA, List.getElem?_toArray, List.getElem?_cons_zero, List.getElem?_cons_succ] at q0 q2
  rw [reqA_size] at hqr
  clear hq h1
  have hwV := H4.out.blw.size
  have HPR : Hid (HPre V Y S LB D D (fun b => A b ∨ pv.ownBlock = some b) (fun b => ok b ∨ V.heap.size ≤ b) (fun b => okv b ∧ b < w.heap.size) (zs.map (·.2)) full r (.slice la r.list.length lc) s x L) :=
    ⟨(HS.out V H4.out.blw).sys, (HS.out V H4.out.blw).st, HP.out.pk, (HS.out V H4.out.blw).plen, hr, HSO.out, ⟨HD.out, OwnR.nil _ _ _ _ _, fun z hz => by (cases hz), fun _ e => (nomatch (show (none : Option Nat) = some _ from e)), fun e => e, fun _ e => e.elim, Nat.le_refl _⟩, (HS.out V H4.out.blw).low.mono (Same.refl _ _) (fun _ q => Or.inl q), HP.out.small, HP.out.times, fun b q => by rcases q with q | q; (have := (H.out.okl b q).1; omega); omega, fun b q => Or.inr q, RArr.mono HVL.out (fun b q => H4.out.blw.block b q.2) (fun _ q => q), HP.out.hco, HP.out.hcc⟩
  obtain ⟨RH, hRH⟩ : ∃ RH, handR (zs.map (·.2)) L s r = RH := ⟨_, rfl⟩
  have HRC : Hid (R = if RH.c = 0 then endR (zs.map (·.2)) full off lar L r role RH else ⟨RH.c, 0, zs.map (·.2), off, lar, L⟩) := HRH.out.trans (by unfold cmdH; rw [hRH])
  have HRHe := hide hRH
  have HTV := hide (HT.out.below (B := w.heap.size) H4.out.blw h5)
  have h5V : 5 < V.heap.size := by omega
  clear hRH HRH HT HSS HSO HST HS
  go_cut [10] (fun v W => v = errV RH.c ∧ Hid (HX V W D D (fun b => ok b ∨ V.heap.size ≤ b) r (.slice la r.list.length lc) (.returned v) RH))
  case first =>
    as_aux_lemma =>
      --B
      rcases kind20 hk with e | e | e | e | e | e | e | e | e | e | e | e | e | e | e | e | e | e | e | e
      · rw [e] at q0
        have tt := HTV.out.t1
        go_wp2_with (go_at_call 283; refine (hand1 HPR.out e).mono ?_; rintro e' W5 hx; rw [HRHe.out] at hx; have hret := hx.ret; subst hret; have HHX := hide hx; clear hx)
        go_meet
        case rel => exact ⟨rfl, HHX⟩
      · rw [e] at q0
        have tt := HTV.out.t2
        go_wp2_with (go_at_call 284; refine (hand2 HPR.out e).mono ?_; rintro e' W5 hx; rw [HRHe.out] at hx; have hret := hx.ret; subst hret; have HHX := hide hx; clear hx)
        go_meet
        case rel => exact ⟨rfl, HHX⟩
      · rw [e] at q0
        have tt := HTV.out.t3
        go_wp2_with (go_at_call 285; refine (hand3 HPR.out e).mono ?_; rintro e' W5 hx; rw [HRHe.out] at hx; have hret := hx.ret; subst hret; have HHX := hide hx; clear hx)
        go_meet
        case rel => exact ⟨rfl, HHX⟩
      · rw [e] at q0
        have tt := HTV.out.t4
        go_wp2_with (go_at_call 286; refine (hand4 HPR.out e).mono ?_; rintro e' W5 hx; rw [HRHe.out] at hx; have hret := hx.ret; subst hret; have HHX := hide hx; clear hx)
        go_meet
        case rel => exact ⟨rfl, HHX⟩
      · rw [e] at q0
        have tt := HTV.out.t5
        go_wp2_with (go_at_call 287; refine (hand5 HPR.out e).mono ?_; rintro e' W5 hx; rw [HRHe.out] at hx; have hret := hx.ret; subst hret; have HHX := hide hx; clear hx)
        go_meet
        case rel => exact ⟨rfl, HHX⟩
      · rw [e] at q0
        have tt := HTV.out.t6
        go_wp2_with (go_at_call 288; refine (hand6 HPR.out e).mono ?_; rintro e' W5 hx; rw [HRHe.out] at hx; have hret := hx.ret; subst hret; have HHX := hide hx; clear hx)
        go_meet
        case rel => exact ⟨rfl, HHX⟩
      · rw [e] at q0
        have tt := HTV.out.t7
        go_wp2_with (go_at_call 289; refine (hand7 HPR.out e).mono ?_; rintro e' W5 hx; rw [HRHe.out] at hx; have hret := hx.ret; subst hret; have HHX := hide hx; clear hx)
        go_meet
        case rel => exact ⟨rfl, HHX⟩
      · rw [e] at q0
        have tt := HTV.out.t8
        go_wp2_with (go_at_call 290; refine (hand8 HPR.out e).mono ?_; rintro e' W5 hx; rw [HRHe.out] at hx; have hret := hx.ret; subst hret; have HHX := hide hx; clear hx)
        go_meet
        case rel => exact ⟨rfl, HHX⟩
      · rw [e] at q0
        have tt := HTV.out.t9
        go_wp2_with (go_at_call 291; refine (hand9 HPR.out e).mono ?_; rintro e' W5 hx; rw [HRHe.out] at hx; have hret := hx.ret; subst hret; have HHX := hide hx; clear hx)
        go_meet
        case rel => exact ⟨rfl, HHX⟩
      · rw [e] at q0
        have tt := HTV.out.t10
        go_wp2_with (go_at_call 292; refine (hand10 HPR.out e).mono ?_; rintro e' W5 hx; rw [HRHe.out] at hx; have hret := hx.ret; subst hret; have HHX := hide hx; clear hx)
        go_meet
        case rel => exact ⟨rfl, HHX⟩
      · rw [e] at q0
        have tt := HTV.out.t11
        go_wp2_with (go_at_call 293; refine (hand11 HPR.out e).mono ?_; rintro e' W5 hx; rw [HRHe.out] at hx; have hret := hx.ret; subst hret; have HHX := hide hx; clear hx)
        go_meet
        case rel => exact ⟨rfl, HHX⟩
      · rw [e] at q0
        have tt := HTV.out.t12
        go_wp2_with (go_at_call 294; refine (hand12 HPR.out e).mono ?_; rintro e' W5 hx; rw [HRHe.out] at hx; have hret := hx.ret; subst hret; have HHX := hide hx; clear hx)
        go_meet
        case rel => exact ⟨rfl, HHX⟩
      · rw [e] at q0
        have tt := HTV.out.t13
        go_wp2_with (go_at_call 295; refine (hand13 HPR.out e).mono ?_; rintro e' W5 hx; rw [HRHe.out] at hx; have hret := hx.ret; subst hret; have HHX := hide hx; clear hx)
        go_meet
        case rel => exact ⟨rfl, HHX⟩
      · rw [e] at q0
        have tt := HTV.out.t14
        go_wp2_with (go_at_call 296; refine (hand14 HPR.out e).mono ?_; rintro e' W5 hx; rw [HRHe.out] at hx; have hret := hx.ret; subst hret; have HHX := hide hx; clear hx)
        go_meet
        case rel => exact ⟨rfl, HHX⟩
      · rw [e] at q0
        have tt := HTV.out.t15
        go_wp2_with (go_at_call 297; refine (hand15 HPR.out e).mono ?_; rintro e' W5 hx; rw [HRHe.out] at hx; have hret := hx.ret; subst hret; have HHX := hide hx; clear hx)
        go_meet
        case rel => exact ⟨rfl, HHX⟩
      · rw [e] at q0
        have tt := HTV.out.t16
        go_wp2_with (go_at_call 298; refine (hand16 HPR.out e).mono ?_; rintro e' W5 hx; rw [HRHe.out] at hx; have hret := hx.ret; subst hret; have HHX := hide hx; clear hx)
        go_meet
        case rel => exact ⟨rfl, HHX⟩
      · rw [e] at q0
        have tt := HTV.out.t17
        go_wp2_with (go_at_call 299; refine (hand17 HPR.out e).mono ?_; rintro e' W5 hx; rw [HRHe.out] at hx; have hret := hx.ret; subst hret; have HHX := hide hx; clear hx)
        go_meet
        case rel => exact ⟨rfl, HHX⟩
      · rw [e] at q0
        have tt := HTV.out.t18
        go_wp2_with (go_at_call 300; refine (hand18 HPR.out e).mono ?_; rintro e' W5 hx; rw [HRHe.out] at hx; have hret := hx.ret; subst hret; have HHX := hide hx; clear hx)
        go_meet
        case rel => exact ⟨rfl, HHX⟩
      · rw [e] at q0
        have tt := HTV.out.t19
        go_wp2_with (go_at_call 301; refine (hand19 HPR.out e).mono ?_; rintro e' W5 hx; rw [HRHe.out] at hx; have hret := hx.ret; subst hret; have HHX := hide hx; clear hx)
        go_meet
        case rel => exact ⟨rfl, HHX⟩
      · rw [e] at q0
        have tt := HTV.out.t20
        go_wp2_with (go_at_call 302; refine (hand20 HPR.out e).mono ?_; rintro e' W5 hx; rw [HRHe.out] at hx; have hret := hx.ret; subst hret; have HHX := hide hx; clear hx)
        go_meet
        case rel => exact ⟨rfl, HHX⟩
      --E
  case rest =>
  obtain ⟨rfl, HHX⟩ := hcut
  generalize wc = V1 at *
  have HRS := hide (handR_st (zs.map (·.2)) L s r HPR.out.stat)
  have HSZ := hide (handR_size (zs.map (·.2)) L s r)
  rw [HRHe.out] at HRS HSZ
  have HWZ := hide (wsAll_size (role := role) HSZ.out t3')
  obtain ⟨x', wv, B, zw, hdw, hws, hlow, hB, hwv⟩ := HHX.out.ex
  obtain ⟨wa, wn, wcap, hwf⟩ := hdw.own.form3
  subst hwf
  have HCS : Hid (CS w V V1 D (reqA r (.slice la r.list.length lc)) (fun b => ok b ∨ V.heap.size ≤ b) r (.slice la r.list.length lc) RH.st x' (.slice wa wn wcap) RH.iss B zw RH.low) := ⟨⟨(HHX.out.fr _ (by omega) (by omega)).trans H4.out.rq, (HHX.out.fr _ (by omega) (by omega)).trans H4.out.rs, H4.out.blw.trans (HHX.out.bel.mono (by omega))⟩, hdw, hlow, HHX.out.fr, HHX.out.bel, hB, hwv, HPR.out.okD, ⟨by omega, by omega⟩⟩
  have HWS := hide hws
  clear HHX hdw hws hlow hB hwv HPR HRHe HTV H4 q0 q2 hqr hz4 HD
  by_cases hc : RH.c = 0
  · rw [show errV RH.c = .nilIface from if_pos hc]
    have HE0 : Hid (R = endR (zs.map (·.2)) full off lar L r role RH) := HRC.out.trans (if_pos hc)
    clear hc HRC
    have d17 := HCS.out.dr.at'.cells.2 17
    simp only [draftCs, List.getElem?_toArray, List.getElem?_cons_zero, List.getElem?_cons_succ] at d17
    have g17 := HCS.out.dr.at'.cells.1 17
    have hent := HRS.out.1.entries
    have he0 := hent.1
    have he1 := hent.2
    go_upto_region 15 with fail
    have HC1 := hide (HCS.out.cell (s' := { RH.st with entries := (RH.st.entries + 1) % 4294967296 }) (j := 17) (v := .int .u32 ((RH.st.entries + 1) % 4294967296)) rfl)
    clear d17 g17 HCS
    generalize World.setCell _ _ _ = V2 at *
    have d20 := HC1.out.dr.at'.cells.2 20
    simp only [draftCs, List.getElem?_toArray, List.getElem?_cons_zero, List.getElem?_cons_succ] at d20
    have g20 := HC1.out.dr.at'.cells.1 20
    have q2 := HC1.out.cb.facts.2.1 2
    simp only [reqA, List.getElem?_toArray, List.getElem?_cons_zero, List.getElem?_cons_succ] at q2
    go_upto_region 16 with fail
    have HC2 : Hid (CS w V (V2.setCell ⟨D, 20, none⟩ (.int .i64 r.now)) D (reqA r (.slice la r.list.length lc)) (fun b => ok b ∨ V.heap.size ≤ b) r (.slice la r.list.length lc) (stNext RH.st r.now) x' (.slice wa wn wcap) RH.iss B zw RH.low) := HC1.out.cell (j := 20) (v := .int .i64 r.now) rfl
    clear d20 g20 q2 HC1 hent he0 he1
    generalize World.setCell _ _ _ = V3 at *
    have HNX := hide (stNext_ok (now := r.now) HRS.out.1 hr.now)
    have HIS := hide HRS.out.2
    obtain ⟨sn, hsn⟩ : ∃ sn, stNext RH.st r.now = sn := ⟨_, rfl⟩
    rw [hsn] at HC2 HNX
    have HSN := hide hsn
    clear hsn
    have d17 := HC2.out.dr.at'.cells.2 17
    have d30 := HC2.out.dr.at'.cells.2 30
    simp only [draftCs, List.getElem?_toArray, List.getElem?_cons_zero, List.getElem?_cons_succ] at d17 d30
    have hqr := HC2.out.cb.facts.2.2.1
    rw [reqA_size] at hqr
    have hz3 := HC2.out.cb.facts.2.2.2
    have hDl := HC2.out.dr.at'.lt
    have hNl : w.heap.size < V3.heap.size := by omega
    refine wp_region_mixT (V3.heap.size) [4, 9, 10] (by kernel_rfl) ?_
    refine mixT_slots [0, 1, 2, 3, 5, 6, 7, 8] (fuel := 6) rfl (by kernel_rfl) (by kernel_rfl) (fun d _ _ _ _ h => by cases d <;> exact h) ?_
    simp only [opersAt, List.getElem?_toArray, List.getElem?_cons_zero, List.getElem?_cons_succ]
    repeat (go_big_quiet_step (fail))
    refine wpQuiet_nil ?_
    refine mixT_reads [4, 9, 10] (fuel := 3) rfl (by kernel_rfl) (by decide) (by kernel_rfl) (fun d _ _ _ _ h => by cases d <;> exact h) (ext_drew _ _) ?_
    simp only [opersAt, List.getElem?_toArray, List.getElem?_cons_zero, List.getElem?_cons_succ]
    repeat (go_big_quiet_step (fail))
    refine wpQuiet_nil ?_
    refine mixT_slots [11] (fuel := 2) rfl (by kernel_rfl) (by kernel_rfl) (fun d _ _ _ _ h => by cases d <;> exact h) ?_
    simp only [opersAt, List.getElem?_toArray, List.getElem?_cons_zero, List.getElem?_cons_succ]
    repeat (go_big_quiet_step (fail))
    refine wpQuiet_nil ?_
    refine mixT_one (k := 12) (by kernel_rfl) rfl ?_
    go_wp2
    refine ⟨Or.inr (by intros; exact ⟨⟨_, ((Below.refl _ V3).alloc (Nat.le_refl _) _).drew⟩, rfl⟩), ?_⟩
    refine mixT_one (k := 13) (by kernel_rfl) rfl ?_
    go_wp2
    refine ⟨Or.inl (by kernel_rfl), ?_⟩
    refine mixT_nil (by kernel_rfl) ?_
    go_upto_region 17 with fail
    have hb4 : Below V3.heap.size V3 ((V3.alloc (.cells (entA zeroEnt (.slice none 0 0)) 67)).drew.setRow V3.heap.size (entA ⟨sn.entries, role, RH.iss, r⟩ (.slice la r.list.length lc))) := ((Below.refl _ V3).alloc (Nat.le_refl _) _).drew.trans ⟨rfl, rfl, rfl, by simp, fun k hk => setRow_other _ _ _ _ (by omega)⟩
    have HE4 : Hid (((V3.alloc (.cells (entA zeroEnt (.slice none 0 0)) 67)).drew.setRow V3.heap.size (entA ⟨sn.entries, role, RH.iss, r⟩ (.slice la r.list.length lc))).heap[V3.heap.size]? = some (.cells (entA ⟨sn.entries, role, RH.iss, r⟩ (.slice la r.list.length lc)) 67 (0, 0))) := heap_setRow_at (w := (V3.alloc (.cells (entA zeroEnt (.slice none 0 0)) 67)).drew) (heap_alloc_at V3 _)
    have HC3 := hide (HC2.out.next hb4)
    change Code.wp _ _ _ _ ((V3.alloc (.cells (entA zeroEnt (.slice none 0 0)) 67)).drew.setRow V3.heap.size (entA ⟨sn.entries, role, RH.iss, r⟩ (.slice la r.list.length lc)))
    generalize (V3.alloc (.cells (entA zeroEnt (.slice none 0 0)) 67)).drew.setRow V3.heap.size (entA ⟨sn.entries, role, RH.iss, r⟩ (.slice la r.list.length lc)) = V4 at *
    clear hb4 HC2 d17 d30 hqr hNl hz3
    generalize V3.heap.size = E at *
    have e0 : V4.cell? ⟨E, 0, none⟩ = some (.int .u32 sn.entries) := cells_all HE4.out 0
    have er : rng V4 E 0 20 = some (entA ⟨sn.entries, role, RH.iss, r⟩ (.slice la r.list.length lc)) := rng_whole HE4.out
    have hEl := blk_lt HE4.out
    have hV4 : w.heap.size ≤ V4.heap.size := HC3.out.cb.blw.size
    refine wp_region_mixT (V4.heap.size) [2, 4] (by kernel_rfl) ?_
    refine mixT_slots [0, 1] (fuel := 5) rfl (by kernel_rfl) (by kernel_rfl) (fun d _ _ _ _ h => by cases d <;> exact h) ?_
    simp only [opersAt, List.getElem?_toArray, List.getElem?_cons_zero, List.getElem?_cons_succ]
    repeat (go_big_quiet_step (fail))
    refine wpQuiet_nil ?_
    refine mixT_reads [2, 4] (fuel := 3) rfl (by kernel_rfl) (by decide) (by kernel_rfl) (fun d _ _ _ _ h => by cases d <;> exact h) (ext_drew _ _) ?_
    simp only [opersAt, List.getElem?_toArray, List.getElem?_cons_zero, List.getElem?_cons_succ]
    repeat (go_big_quiet_step (fail))
    refine wpQuiet_nil ?_
    refine mixT_one (k := 3) (by kernel_rfl) rfl ?_
    go_wp2_with (go_at_call 163; refine (key1_calls _ 97 sn.entries (u8c 97 (by decide)) HNX.out.entries).mono ?_; rintro e w5 ⟨kv, rfl, hk5, hb5⟩)
    have hbk : Below V4.heap.size V4 w5 := (Below.refl _ _).drew.trans hb5
    refine ⟨Or.inr (by intros; exact ⟨⟨_, hbk⟩, rfl⟩), ?_⟩
    obtain ⟨ka, kn, kc, ek⟩ := hk5.form3
    subst ek
    refine mixT_one (k := 5) (by kernel_rfl) rfl ?_
    go_wp2_with (go_at_call 178; refine (ent_calls _ _ sn.entries role RH.iss r (.slice la r.list.length lc) hrole HIS.out hr (RArr.mono HVL.out (fun b q => (hbk.block b (by have := q.2; omega)).trans (HC3.out.cb.blw.block b q.2)) (fun _ q => q)) HID.out (by omega)).mono ?_; rintro e w6 ⟨vv, rfl, hv6, hb6⟩)
    have hz5 := hbk.size
    have hbv : Below V4.heap.size V4 w6 := hbk.trans (hb6.mono hz5)
    refine ⟨Or.inr (by intros; exact ⟨⟨_, hbv⟩, rfl⟩), ?_⟩
    obtain ⟨va, vn, vc, ev⟩ := hv6.form3
    subst ev
    have HKB := hide (OwnR.since (V := V4) hk5 (Nat.le_refl _) (by rw [key1B_len]; omega) hb6)
    have HVB := hide (OwnR.since (V := V4) hv6 hz5 (by rw [entB_len]; omega) (Below.refl _ _))
    have HBV := hide hbv
    have HZL : Hid (zw.length ≤ 41) := by have := congrArg List.length HWS.out; rw [List.length_map] at this; show _ ≤ _; have := HSZ.out.2; omega
    clear hk5 hv6 hb5 hb6 hbk hbv
    refine mixT_one (k := 6) (by kernel_rfl) rfl ?_
    go_wp2_with (go_at_call 177; refine (put_fresh V4 _ D D r (.slice la r.list.length lc) sn x' (.slice wa wn wcap) RH.iss B zw ka kn kc (key1B 97 sn.entries) va vn vc (entB role RH.iss r) HC3.out.dr HBV.out HKB.out HVB.out (by have := HZL.out; omega)).mono ?_; rintro e w7 ⟨rfl, wv7, hd7, hs7⟩)
    refine ⟨Or.inl (by kernel_rfl), ?_⟩
    refine mixT_nil (by kernel_rfl) ?_
    obtain ⟨wa7, wn7, wc7, hwf7⟩ := hd7.own.form3
    subst hwf7
    have HC7 := hide (HC3.out.put hd7 hs7 (fun b q => by rcases q with q | q; exact HC3.out.new b q; have := q.1; have := HC3.out.bel.size; omega))
    have HZ7 : Hid ((zw ++ [(((ka, kn, kc), (va, vn, vc)), ((key1B 97 sn.entries, entB role RH.iss r), false))]).map (·.2) = RH.ws ++ [((key1B 97 sn.entries, entB role RH.iss r), false)]) := by show _ = _; rw [List.map_append, HWS.out]; rfl
    generalize zw ++ [(((ka, kn, kc), (va, vn, vc)), ((key1B 97 sn.entries, entB role RH.iss r), false))] = zw7 at *
    clear hd7 hs7 e0 er hEl HE4 HKB HVB HBV HC3 HZL hz5 hV4
    generalize Since B V4 _ = B7 at *
    go_upto_region 18 with fail
    have hDl7 := HC7.out.dr.at'.lt
    have ds7 : rng w7 D 17 4 = some (statCs sn) := HC7.out.dr.at'.rng8.2
    have HZL7 : Hid (zw7.length ≤ 42) := by have h1 := congrArg List.length HZ7.out; rw [List.length_map, List.length_append] at h1; have h2 := HSZ.out.2; simp only [List.length_cons, List.length_nil] at h1; show _ ≤ _; omega
    refine wp_region_mixT (w7.heap.size) [5] (by kernel_rfl) ?_
    refine mixT_slots [0, 2, 3, 4] (fuel := 4) rfl (by kernel_rfl) (by kernel_rfl) (fun d _ _ _ _ h => by cases d <;> exact h) ?_
    simp only [opersAt, List.getElem?_toArray, List.getElem?_cons_zero, List.getElem?_cons_succ]
    repeat (go_big_quiet_step (fail))
    refine wpQuiet_nil ?_
    refine mixT_reads [5] (fuel := 3) rfl (by kernel_rfl) (by decide) (by kernel_rfl) (fun d _ _ _ _ h => by cases d <;> exact h) (ext_drew _ _) ?_
    simp only [opersAt, List.getElem?_toArray, List.getElem?_cons_zero, List.getElem?_cons_succ]
    repeat (go_big_quiet_step (fail))
    refine wpQuiet_nil ?_
    refine mixT_one (k := 1) (by kernel_rfl) rfl ?_
    go_wp2_with (go_at_call 161; refine (key0_calls _ 115).mono ?_; rintro e w8 ⟨kv, rfl, hk8, hb8⟩)
    have hbk : Below w7.heap.size w7 w8 := (Below.refl _ _).drew.trans hb8
    refine ⟨Or.inr (by intros; exact ⟨⟨_, hbk⟩, rfl⟩), ?_⟩
    obtain ⟨ka, kn, kc, ek⟩ := hk8.form3
    subst ek
    refine mixT_one (k := 6) (by kernel_rfl) rfl ?_
    go_wp2_with (go_at_call 179; refine (stat_calls _ sn HNX.out).mono ?_; rintro e w6 ⟨vv, rfl, hv6, hb6⟩)
    have hz5 := hbk.size
    have hbv : Below w7.heap.size w7 w6 := hbk.trans (hb6.mono hz5)
    refine ⟨Or.inr (by intros; exact ⟨⟨_, hbv⟩, rfl⟩), ?_⟩
    obtain ⟨va, vn, vc, ev⟩ := hv6.form3
    subst ev
    have HKB := hide (OwnR.since (V := w7) hk8 (Nat.le_refl _) (by simp [key0B]) hb6)
    have HVB := hide (OwnR.since (V := w7) hv6 hz5 (by simp [statB, i64B_len, d256_len]) (Below.refl _ _))
    have HBV := hide hbv
    clear hk8 hv6 hb8 hb6 hbk hbv
    refine mixT_one (k := 7) (by kernel_rfl) rfl ?_
    go_wp2_with (go_at_call 177; refine (put_fresh w7 _ D D r (.slice la r.list.length lc) sn x' (.slice wa7 wn7 wc7) RH.iss B7 zw7 ka kn kc (key0B 115) va vn vc (statB sn) HC7.out.dr HBV.out HKB.out HVB.out (by have := HZL7.out; omega)).mono ?_; rintro e w9 ⟨rfl, wv9, hd9, hs9⟩)
    refine ⟨Or.inl (by kernel_rfl), ?_⟩
    refine mixT_nil (by kernel_rfl) ?_
    obtain ⟨wa9, wn9, wc9, hwf9⟩ := hd9.own.form3
    subst hwf9
    have HC9 := hide (HC7.out.put hd9 hs9 (fun b q => by rcases q with q | q; exact HC7.out.new b q; have := q.1; have := HC7.out.bel.size; omega))
    have HZ9 : Hid ((zw7 ++ [(((ka, kn, kc), (va, vn, vc)), ((key0B 115, statB sn), false))]).map (·.2) = wsAll RH r role) := by show _ = _; unfold wsAll; rw [List.map_append, HZ7.out, HSN.out]; rfl
    generalize zw7 ++ [(((ka, kn, kc), (va, vn, vc)), ((key0B 115, statB sn), false))] = zw9 at *
    clear hd9 hs9 HKB HVB HBV HC7 hz5 hDl7 ds7 HZ7 HZL7
    generalize Since B7 w7 _ = B9 at *
    go_upto_region 19 with fail
    have hz9 := HC9.out.cb.blw.size
    have y0 : w9.cell? ⟨Y, 0, none⟩ = some (.pointer (some ⟨S, 0, none⟩)) := (HC9.out.cb.blw.cell (p := ⟨Y, 0, none⟩) hYl).trans hYc.1
    have hY9 : Y < w9.heap.size := by omega
    have d29 := HC9.out.dr.at'.cells.2 29
    simp only [draftCs, List.getElem?_toArray, List.getElem?_cons_zero, List.getElem?_cons_succ] at d29
    have hDl9 := HC9.out.dr.at'.lt
    have hwV0 : w.heap.size ≤ V.heap.size := hwV
    cases hbf : (decide (3000 < sizeW (wsAll RH r role)) || full) with
    | true =>
      have HR27 : Hid (R = ⟨27, 0, zs.map (·.2), off + 1, larN lar (wsAll RH r role), L⟩) := HE0.out.trans (by unfold endR; rw [if_pos hbf])
      --B
      have HAP := hide (fun W (hW : Below w9.heap.size w9 W) => applyY_calls W S base pv A (fun b => V.heap.size ≤ b) zs full off lar (.slice wa9 wn9 wc9) (wsAll RH r role) ((H.out.below HC9.out.cb.blw).stm.below hW) (by have := HC9.out.batch (by have := HZ9.out; have := congrArg List.length this; rw [List.length_map] at this; have := HWZ.out.2; omega); rw [HZ9.out] at this; exact this.below hW) (fun b q => ⟨by omega, fun e => by have := (H.out.stm.own.block b e).2; omega⟩) (by have := HWZ.out.1; omega) (by have := HP.out.plen; rw [List.length_map] at this; have := HWZ.out.2; omega) ⟨hoff.1, by omega⟩)
      refine wp_region_mixT (w9.heap.size) [3, 7] (by kernel_rfl) ?_
      refine mixT_slots [0, 1, 2, 4, 5, 6] (fuel := 4) rfl (by kernel_rfl) (by kernel_rfl) (fun d _ _ _ _ h => by cases d <;> exact h) ?_
      simp only [opersAt, List.getElem?_toArray, List.getElem?_cons_zero, List.getElem?_cons_succ]
      repeat (go_big_quiet_step (fail))
      refine wpQuiet_nil ?_
      refine mixT_reads [3, 7] (fuel := 2) rfl (by kernel_rfl) (by decide) (by kernel_rfl) (fun d _ _ _ _ h => by cases d <;> exact h) (ext_drew _ _) ?_
      simp only [opersAt, List.getElem?_toArray, List.getElem?_cons_zero, List.getElem?_cons_succ]
      repeat (go_big_quiet_step (fail))
      refine wpQuiet_nil ?_
      refine mixT_one (k := 8) (by kernel_rfl) rfl ?_
      go_wp2_with (go_at_call 180; refine (HAP.out _ (Below.refl _ _).drew).mono ?_; rintro e w10 hap; obtain ⟨v, rfl, hv⟩ := hap.ret; unfold apV at hv; rw [hbf] at hv; obtain ⟨es, hv⟩ := (show ∃ es, v = .iface 391 (.string es) from hv); subst hv; obtain ⟨pv', A', zs', hm, hst, hmap⟩ := hap.st; have HCA := hide (CS.apply H.out (HC9.out.next (Below.refl _ _).drew) hm hst); have HMP := hide hmap; clear hv hm hst hmap hap)
      refine ⟨Or.inl (by kernel_rfl), ?_⟩
      refine mixT_one (k := 9) (by kernel_rfl) rfl ?_
      go_wp2
      refine ⟨Or.inl (by kernel_rfl), ?_⟩
      refine mixT_nil (by kernel_rfl) ?_
      clear HAP y0 d29 hY9 hDl9 HC9
      go_upto_region 21 with fail
      go_wp2_with (go_at_call 126; refine (refuse_calls _ 27).mono ?_; rintro e W3 ⟨rfl, hb⟩; have HB3 := hide hb; have HR3 := hide ((hb.block _ (blk_lt HCA.out.rs)).trans HCA.out.rs); have hw3 := whole_blk HR3.out; clear hb)
      have f1 := heap_setRow_at (ds := respCs { rsp0 with code := 27 }) HR3.out
      refine bodyPost_ret (results_cell1 Tryz.results129 _ _ (w.heap.size + 1) _ _ _ _ rfl f1 Tryz.underlying75 rfl (by kernel_rfl)) rfl ?_
      rw [HR27.out]
      have hbl := HCA.out.bl
      have hfz := HCA.out.fr.bel.size
      refine ⟨pv', A', ok, zs', x, (HCA.out.bs.below HB3.out).other HCA.out.n1 HCA.out.n2 HCA.out.n3 HCA.out.n4.1, ?_, rfl, (HCA.out.fr.after HB3.out (by omega)).row (Or.inl (by omega)) (by omega), HCA.out.an, Nw.refl _ _⟩
      rw [HMP.out, hbf]; rfl
      --E
    | false =>
      have HR0 : Hid (R = ⟨0, RH.iss, applyW (zs.map (·.2)) (wsAll RH r role), off + 1, larN lar (wsAll RH r role), RH.low⟩) := HE0.out.trans (by unfold endR; rw [if_neg (by rw [hbf]; simp)])
      --B
      have HAP := hide (fun W (hW : Below w9.heap.size w9 W) => applyY_calls W S base pv A (fun b => V.heap.size ≤ b) zs full off lar (.slice wa9 wn9 wc9) (wsAll RH r role) ((H.out.below HC9.out.cb.blw).stm.below hW) (by have := HC9.out.batch (by have := HZ9.out; have := congrArg List.length this; rw [List.length_map] at this; have := HWZ.out.2; omega); rw [HZ9.out] at this; exact this.below hW) (fun b q => ⟨by omega, fun e => by have := (H.out.stm.own.block b e).2; omega⟩) (by have := HWZ.out.1; omega) (by have := HP.out.plen; rw [List.length_map] at this; have := HWZ.out.2; omega) ⟨hoff.1, by omega⟩)
      refine wp_region_mixT (w9.heap.size) [3, 7] (by kernel_rfl) ?_
      refine mixT_slots [0, 1, 2, 4, 5, 6] (fuel := 4) rfl (by kernel_rfl) (by kernel_rfl) (fun d _ _ _ _ h => by cases d <;> exact h) ?_
      simp only [opersAt, List.getElem?_toArray, List.getElem?_cons_zero, List.getElem?_cons_succ]
      repeat (go_big_quiet_step (fail))
      refine wpQuiet_nil ?_
      refine mixT_reads [3, 7] (fuel := 2) rfl (by kernel_rfl) (by decide) (by kernel_rfl) (fun d _ _ _ _ h => by cases d <;> exact h) (ext_drew _ _) ?_
      simp only [opersAt, List.getElem?_toArray, List.getElem?_cons_zero, List.getElem?_cons_succ]
      repeat (go_big_quiet_step (fail))
      refine wpQuiet_nil ?_
      refine mixT_one (k := 8) (by kernel_rfl) rfl ?_
      go_wp2_with (go_at_call 180; refine (HAP.out _ (Below.refl _ _).drew).mono ?_; rintro e w10 hap; obtain ⟨v, rfl, hv⟩ := hap.ret; unfold apV at hv; rw [hbf] at hv; have hv : v = .nilIface := hv; subst hv; obtain ⟨pv', A', zs', hm, hst, hmap⟩ := hap.st; have HCA := hide (CS.apply H.out (HC9.out.next (Below.refl _ _).drew) hm hst); have HMP := hide hmap; clear hv hm hst hmap hap)
      refine ⟨Or.inl (by kernel_rfl), ?_⟩
      refine mixT_one (k := 9) (by kernel_rfl) rfl ?_
      go_wp2
      refine ⟨Or.inl (by kernel_rfl), ?_⟩
      refine mixT_nil (by kernel_rfl) ?_
      clear HAP y0 d29 hY9 hDl9 HC9
      go_upto_region 22 with fail
      have y1 : w10.cell? ⟨Y, 1, none⟩ = some (.pointer (some ⟨LB, 0, none⟩)) := (sys_cells HCA.out.bs.sys).2
      have hYl2 := blk_lt HCA.out.bs.sys
      have hLl2 := blk_lt HCA.out.bs.lb
      have hDl2 := blk_lt HCA.out.dr
      have hrd : rng w10 D 21 8 = some (lvCs x') := (DraftAt.rng8 HCA.out.dr).1
      have hwl : whole w10 LB 8 = true := whole_blk HCA.out.bs.lb
      have hon : ones (lvCs x') 8 = true := low_ones HCA.out.low
      have HBS2 := hide (HCA.out.bs.commit HCA.out.low HCA.out.okn)
      have hDL : D ≠ LB := by omega
      have HD2 := hide ((setRow_other w10 LB D (lvCs x') hDL).trans HCA.out.dr)
      have HRS2 := hide ((setRow_other w10 LB (w.heap.size + 1) (lvCs x') HCA.out.n1.2.2).trans HCA.out.rs)
      have HFR2 : Hid (Fr w (w10.setRow LB (lvCs x')) S LB base pv pv') := HCA.out.fr.row (Or.inr rfl) HCA.out.bs.bs
      refine wp_region_mixT (w10.heap.size) [3, 7] (by kernel_rfl) ?_
      refine mixT_slots [0, 1, 2, 4, 5, 6] (fuel := 4) rfl (by kernel_rfl) (by kernel_rfl) (fun d _ _ _ _ h => by cases d <;> exact h) ?_
      simp only [opersAt, List.getElem?_toArray, List.getElem?_cons_zero, List.getElem?_cons_succ]
      repeat (go_big_quiet_step (fail))
      refine wpQuiet_nil ?_
      refine mixT_reads [3, 7] (fuel := 2) rfl (by kernel_rfl) (by decide) (by kernel_rfl) (fun d _ _ _ _ h => by cases d <;> exact h) (ext_drew _ _) ?_
      simp only [opersAt, List.getElem?_toArray, List.getElem?_cons_zero, List.getElem?_cons_succ]
      repeat (go_big_quiet_step (fail))
      refine wpQuiet_nil ?_
      refine mixT_slots [8] (fuel := 1) rfl (by kernel_rfl) (by kernel_rfl) (fun d _ _ _ _ h => by cases d <;> exact h) ?_
      simp only [opersAt, List.getElem?_toArray, List.getElem?_cons_zero, List.getElem?_cons_succ]
      repeat (go_big_quiet_step (fail))
      refine wpQuiet_nil ?_
      refine mixT_one (k := 9) (by kernel_rfl) rfl ?_
      go_wp2
      refine ⟨Or.inl (by kernel_rfl), ?_⟩
      refine mixT_nil (by kernel_rfl) ?_
      go_upto_region 23 with fail
      have HBS3 := hide (HBS2.out.below (w' := World.drew (w10.setRow LB (lvCs x'))) (Below.refl _ _).drew)
      have HD3 : Hid ((World.drew (w10.setRow LB (lvCs x'))).heap[D]? = _) := HD2.out
      have HRS3 : Hid ((World.drew (w10.setRow LB (lvCs x'))).heap[w.heap.size + 1]? = _) := HRS2.out
      have hbl := HCA.out.bl
      have hfz := HCA.out.fr.bel.size
      have HFR3 : Hid (Fr w (World.drew (w10.setRow LB (lvCs x'))) S LB base pv pv') := HFR2.out.after (Below.refl _ _).drew (by simp; omega)
      change Code.wp _ _ _ _ (World.drew (w10.setRow LB (lvCs x')))
      generalize World.drew (w10.setRow LB (lvCs x')) = w11 at *
      clear HBS2 HD2 HRS2 HFR2
      have d30 : w11.cell? ⟨D, 30, none⟩ = some (.int .u32 RH.iss) := cells_all HD3.out 30
      have hw3 := whole_blk HRS3.out
      go_wp2
      have f1 := heap_setRow_at (ds := respCs { rsp0 with issued := RH.iss }) HRS3.out
      refine bodyPost_ret (results_cell1 Tryz.results129 _ _ (w.heap.size + 1) _ _ _ _ rfl f1 Tryz.underlying75 rfl (by kernel_rfl)) rfl ?_
      rw [HR0.out]
      refine ⟨pv', A', _, zs', x', HBS3.out.other HCA.out.n1 HCA.out.n2 HCA.out.n3 HCA.out.n4.2, ?_, rfl, HFR3.out.row (Or.inl (by omega)) (by omega), HCA.out.an, HCA.out.on⟩
      rw [HMP.out, hbf]; rfl
      --E
  · rw [show errV RH.c = .iface 63 (.int .u8 RH.c) from if_neg hc]
    have HE : Hid (R = ⟨RH.c, 0, zs.map (·.2), off, lar, L⟩) := HRC.out.trans (if_neg hc)
    have H2 := hide HCS.out.cb
    clear hc
    --B
    go_wp2_with (go_at_call 126; refine (refuse_calls _ RH.c).mono ?_; rintro e W3 ⟨rfl, hb⟩; have H3 := hide (H2.out.next hb); obtain ⟨h1, -⟩ := H3.out.facts; clear hb)
    obtain ⟨f1, f2⟩ := H3.out.fin { rsp0 with code := RH.c }
    refine bodyPost_ret (results_cell1 Tryz.results129 _ _ (w.heap.size + 1) _ _ _ _ rfl f1 Tryz.underlying75 rfl (by kernel_rfl)) rfl ?_
    exact CmdPost.refuse H.out f2 HE.out
    --E

end Go.Proofs.Qxb6500666aGreatDoor
