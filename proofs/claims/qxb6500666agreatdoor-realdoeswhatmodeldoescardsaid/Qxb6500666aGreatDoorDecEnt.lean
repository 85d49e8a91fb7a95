/- decodeEntry, walked. -/
import Derived.Test.Qxb6500666aGreatDoorReq
import Derived.Test.Qxb6500666aGreatDoorParseParts
import Derived.Test.Qxb6500666aGreatDoorGets
namespace Go.Proofs.Qxb6500666aGreatDoor
open Go.RowKit

structure Ent where
  seq : Int
  role : Int
  issued : Int
  req : Req
def entA (x : Ent) (lv : Value) : Array Value := #[.int .u32 x.seq, .int .u8 x.role, .int .u32 x.issued, .int .u8 x.req.kind, .int .u32 x.req.user, .int .i64 x.req.now, .int .u32 x.req.id, .int .u32 x.req.ref, .int .u32 x.req.kit, .int .u32 x.req.subject, .int .u32 x.req.visit, .int .u8 x.req.role, .int .u8 x.req.cls, .int .i64 x.req.time, .int .i64 x.req.till, .int .i64 x.req.value, .int .i64 x.req.l0, .int .i64 x.req.l1, .int .i64 x.req.l2, lv]
def zeroEnt : Ent := ⟨0, 0, 0, zeroReq⟩
def decEnt (seq : Int) (bs : List Int) : Option Ent :=
  let p1 := rdDig 1 ⟨bs, false⟩
  let p2 := rdDig 4 p1.2
  let q := readReq p2.2
  if ! q.1.2 then none else if ! rdDone q.2 then none else if ! roleOk p1.1 then none else some ⟨seq, p1.1, p2.1, q.1.1⟩
def EntPost (w w' : World) (e : Ending) : Option Ent → Prop
  | none => e = .returned (.tuple #[.agg (entA zeroEnt (.slice none 0 0)), .iface 63 (.int .u8 28)]) ∧ Below w.heap.size w w'
  | some x => ∃ a n c, e = .returned (.tuple #[.agg (entA x (.slice a n c)), .nilIface]) ∧ U32sAt w' (w.heap.size ≤ ·) (.slice a n c) x.req.list ∧ Below w.heap.size w w'
theorem ent_none {w w' : World} {R : Option Ent} (HE : Hid (R = none)) (hb : Below w.heap.size w w') : EntPost w w' (.returned (.tuple #[.agg (entA zeroEnt (.slice none 0 0)), .iface 63 (.int .u8 28)])) R := by
  rw [HE.out]; exact ⟨rfl, hb⟩

section
variable (ρ : Operand → Value) (dst : Option Tmp) (x y z : Operand) (ty : TypeId) (pos : String) (after : Array Edge) (guard : Option (Nat × Bool))
theorem exec_ldEnt : execOp ρ { dst, op := .load 67 x, type := ty, pos, after, guard } = (do pure (.value (← ldS 67 (ρ x)))) := rfl
theorem exec_stEnt : execOp ρ { dst, op := .store 67 x y, type := ty, pos, after, guard } = (do stS 67 (ρ x) (ρ y); pure .skip) := rfl
def bdEntS (a b c : Value) : Sem Value := Instr.build 67 #[(0, a), (1, b), (2, c)]
theorem exec_bdEnt : execOp ρ { dst, op := .build 67 #[(0, x), (1, y), (2, z)], type := ty, pos, after, guard } = (do pure (.value (← bdEntS (ρ x) (ρ y) (ρ z)))) := by simp [execOp, bdEntS]
def bdEnt0S : Sem Value := Instr.build 67 #[]
theorem exec_bdEnt0 : execOp ρ { dst, op := .build 67 #[], type := ty, pos, after, guard } = (do pure (.value (← bdEnt0S))) := by simp [execOp, bdEnt0S]
end
theorem run_bdEnt (w : World) (a b c : Int) : (bdEntS (.int .u32 a) (.int .u8 b) (.int .u32 c)).run Tryz.prog w = .ok (.agg (entA ⟨a, b, c, zeroReq⟩ (.slice none 0 0))) w := by kernel_rfl
theorem run_bdEnt0 (w : World) : bdEnt0S.run Tryz.prog w = .ok (.agg (entA zeroEnt (.slice none 0 0))) w := by kernel_rfl
theorem Tryz.size67_z (w : World) : (sizeOf 67).run Tryz.prog w = .ok 20 w := by kernel_rfl
theorem run_ldEnt (w : World) (b off : Nat) : (ldS 67 (.pointer (some ⟨b, off, none⟩))).run Tryz.prog w = match rng w b off 20 with | some cs => .ok (.agg cs) w | none => (Instr.loadAt 67 (.pointer (some ⟨b, off, none⟩))).run Tryz.prog w :=
  run_ldS Tryz.underlying67 Tryz.size67_z w b off
theorem run_stEnt (w : World) (b : Nat) (cs : Array Value) : (stS 67 (.pointer (some ⟨b, 0, none⟩)) (.agg cs)).run Tryz.prog w = if whole w b 20 = true ∧ ones cs 20 = true then .ok () (w.setRow b cs) else (Instr.storeAt 67 (.pointer (some ⟨b, 0, none⟩)) (.agg cs)).run Tryz.prog w := run_stS Tryz.size67_z w b cs
theorem entA_size (x : Ent) (lv : Value) : (entA x lv).size = 20 := rfl
theorem entA_ones (x : Ent) (a : Option Addr) (n c : Nat) : ones (entA x (.slice a n c)) 20 = true := rfl
theorem reqA_one (q : Req) (a : Option Addr) (n c : Nat) : ∀ u ∈ (reqA q (.slice a n c)).toList, u.oneCell' = true := by simp [reqA, Value.oneCell']
theorem run_stReq3 (w : World) (C : Nat) (s r i : Int) (q0 q : Req) (l0 : Value) (a : Option Addr) (n c : Nat) (h : w.heap[C]? = some (.cells (entA ⟨s, r, i, q0⟩ l0) 67 (0, 0))) :
    (stS 53 (.pointer (some ⟨C, 3, none⟩)) (.agg (reqA q (.slice a n c)))).run Tryz.prog w = .ok () (w.setRow C (entA ⟨s, r, i, q⟩ (.slice a n c))) := by
  have := store_cells_off (P := Tryz.prog) C 3 67 (reqA q (.slice a n c)).toList w 0 [.int .u32 s, .int .u8 r, .int .u32 i] (reqA q0 l0).toList (fun v hv => reqA_one q a n c v (by simpa using hv)) rfl rfl h
  simp [stS, Instr.storeAt, Instr.sureAddr, storeVar, Sem.run_bind, Value.cells]
  exact this

attribute [local go_sem] ext_const Ext.cell Ext.frozen Ext.rng Ext.whole
attribute [local go_sem ↓] exec_ldReq exec_stReq exec_ldEnt exec_stEnt exec_bdEnt exec_bdEnt0
attribute [local go_sem] run_ldReq run_stReq run_ldEnt run_stEnt run_bdEnt run_bdEnt0 entA_size entA_ones whole_alloc_lt whole_alloc_at whole_drew setRow_alloc_at setRow_alloc_lt rng_alloc_lt rng_alloc_at rng_drew rng_drewN rng_setRow_other whole_setRow_other

set_option maxRecDepth 100000 in
set_option maxHeartbeats 4000000 in
theorem decEnt_calls (w : World) (seq : Int) (ok : Nat → Prop) (v : Value) (bs : List Int) (hB : BytesAt w ok v bs) (hby : ByteL bs) :
    Calls Tryz.prog 164 #[.int .u32 seq, v] w fun e w' => EntPost w w' e (decEnt seq bs) := by
  obtain ⟨R, hR⟩ : ∃ R, R = decEnt seq bs := ⟨_, rfl⟩
  rw [← hR]
  obtain ⟨p1, E1⟩ : ∃ p, p = rdDig 1 ⟨bs, false⟩ := ⟨_, rfl⟩
  obtain ⟨p2, E2⟩ : ∃ p, p = rdDig 4 p1.2 := ⟨_, rfl⟩
  obtain ⟨Q, E3⟩ : ∃ p, p = readReq p2.2 := ⟨_, rfl⟩
  have HR : Hid (R = if ! Q.1.2 then none else if ! rdDone Q.2 then none else if ! roleOk p1.1 then none else some ⟨seq, p1.1, p2.1, Q.1.1⟩) := hR.trans (by subst E3 E2 E1; rfl)
  have HE1 := hide E1
  have HE2 := hide E2
  have HE3 := hide E3
  obtain ⟨a, m, c, rfl, -⟩ := Src.of hB
  have HB : Hid (BytesAt w (fun b => ok b ∧ b < w.heap.size) (.slice a m c) bs) := RArr.lt hB
  clear hR hB E1 E2 E3
  go_enter Tryz.func164, Tryz.ntmps164
  go_upto_region 1 with fail
  have hb0 : Below w.heap.size w (w.alloc (.cells (entA zeroEnt (.slice none 0 0)) 67)) := (Below.refl _ _).alloc (Nat.le_refl _) _
  have hx0 : (w.alloc (.cells (entA zeroEnt (.slice none 0 0)) 67)).heap[w.heap.size]? = some (.cells (entA zeroEnt (.slice none 0 0)) 67 (0, 0)) := heap_alloc_at _ _
  have hs0 : (w.alloc (.cells (entA zeroEnt (.slice none 0 0)) 67)).heap.size = w.heap.size + 1 := by simp
  simp only [entA, zeroEnt, zeroReq] at hb0 hx0 hs0
  have HB1 : Hid (BytesAt (w.alloc (.cells (entA zeroEnt (.slice none 0 0)) 67)) (fun b => ok b ∧ b < w.heap.size) (.slice a m c) bs) := HB.out.mono (fun b hb => hb0.block b hb.2) (fun _ h => h)
  simp only [entA, zeroEnt, zeroReq] at HB1
  generalize (World.alloc w _) = W at *
  go_upto_region 2 with (go_at_call 211; refine (newRd_calls _ a m c).mono ?_; rintro e w0 ⟨rfl, rfl⟩)
  have hr0 := RdAt.new HB1.out hby
  have hb1 := hb0.alloc hb0.size (.cells #[.slice a m c, .bool false] 407)
  have hx1 := (Below.heap_alloc W (.cells #[.slice a m c, .bool false] 407) w.heap.size (by omega)).trans hx0
  have hs1 : (W.alloc (.cells #[.slice a m c, .bool false] 407)).heap.size = w.heap.size + 2 := by simp [hs0]
  rw [hs0] at hr0
  generalize (World.alloc W _) = V at *
  have hok : ∀ b, (ok b ∧ b < w.heap.size) → b ≠ w.heap.size + 1 := fun b hb => by have := hb.2; omega
  have HV0 := hide hb1
  have HX0 := hide hx1
  have HS0 := hide hs1
  have HD0 := hide hr0
  clear hb0 hx0 hs0 HB HB1 hb1 hx1 hs1 hr0
  have HQ0 : Hid (RdStep V V (w.heap.size + 1)) := ⟨rfl, fun _ _ => rfl, Below.refl _ _⟩
  go_upto_region 3 with (first | (go_at_call 212; refine (rdU32_calls _ _ _ _ HD1.out hok).mono ?_; rintro e w2 ⟨rfl, hd2, hs2⟩; rw [← HE2.out] at hd2 ⊢; have HD2 := hide hd2; have HQ2 := hide (HQ1.out.trans hs2); clear hd2 hs2) | (go_at_call 218; refine (rdU8_calls _ _ _ _ HD0.out hok).mono ?_; rintro e w1 ⟨rfl, hd1, hs1⟩; rw [← HE1.out] at hd1 ⊢; have HD1 := hide hd1; have HQ1 := hide (HQ0.out.trans hs1); clear hd1 hs1))
  have hzz : w2.heap.size = w.heap.size + 2 := HQ2.out.size.trans HS0.out
  have hxA := (Below.heap_alloc w2 (.cells (entA ⟨seq, p1.1, p2.1, zeroReq⟩ (.slice none 0 0)) 67) w.heap.size (by omega)).trans ((HQ2.out.same w.heap.size (by omega)).trans HX0.out)
  have hcA : (w2.alloc (.cells (entA ⟨seq, p1.1, p2.1, zeroReq⟩ (.slice none 0 0)) 67)).heap[w.heap.size + 2]? = some (.cells (entA ⟨seq, p1.1, p2.1, zeroReq⟩ (.slice none 0 0)) 67 (0, 0)) := by rw [← hzz]; exact heap_alloc_at _ _
  have hbA : Below w.heap.size w (w2.alloc (.cells (entA ⟨seq, p1.1, p2.1, zeroReq⟩ (.slice none 0 0)) 67)) := (HV0.out.trans (HQ2.out.below.mono (by omega))).alloc (by omega) _
  have hdA : RdAt (w2.alloc (.cells (entA ⟨seq, p1.1, p2.1, zeroReq⟩ (.slice none 0 0)) 67)) (w.heap.size + 1) (fun b => ok b ∧ b < w.heap.size) p2.2 := ⟨HD2.out.at'.elim fun v h => ⟨v, (Below.heap_alloc _ _ _ (by omega)).trans h.1, RArr.below h.2 ((Below.refl _ _).alloc (Nat.le_refl _) _)⟩, HD2.out.bytes⟩
  have hsA : (w2.alloc (.cells (entA ⟨seq, p1.1, p2.1, zeroReq⟩ (.slice none 0 0)) 67)).heap.size = w.heap.size + 3 := by simp [hzz]
  rw [hzz]
  generalize (World.alloc w2 _) = VA at *
  have HXA := hide hxA
  have HCA := hide hcA
  have HBA := hide hbA
  have HDA := hide hdA
  have HSA := hide hsA
  clear hzz hxA hcA hbA hdA hsA HQ2 HD2 HQ1 HD1 HQ0 HD0 HX0 HV0 HS0
  go_upto_region 4 with (go_at_call 219; refine (readReq_calls _ (w.heap.size + 1) _ p2.2 HDA.out hok (fun b hb => by have := hb.2; have := HSA.out; omega)).mono ?_; rintro e w3 hp; rw [← HE3.out] at hp; obtain ⟨⟨lv, rfl, hlv, la, ln, lc, rfl⟩, hd3, hs3, hb3⟩ := hp)
  obtain ⟨⟨q, okc⟩, rd⟩ := Q
  simp only at hlv hd3 HR ⊢
  have hz3 := hb3.size
  have hzA := HSA.out
  have ho3 : ∀ b, b < w.heap.size + 3 → b ≠ w.heap.size + 1 → (w3.alloc (.cells (reqA q (.slice la ln lc)) 53)).heap[b]? = VA.heap[b]? := fun b h1 h2 => (Below.heap_alloc _ _ _ (by omega)).trans (hs3 b (by omega) h2)
  have hxB : (w3.alloc (.cells (reqA q (.slice la ln lc)) 53)).heap[w.heap.size]? = some (.cells (entA zeroEnt (.slice none 0 0)) 67 (0, 0)) := (ho3 _ (by omega) (by omega)).trans HXA.out
  have hcB := (ho3 (w.heap.size + 2) (by omega) (by omega)).trans HCA.out
  have hqB : rng (w3.alloc (.cells (reqA q (.slice la ln lc)) 53)) w3.heap.size 0 17 = some (reqA q (.slice la ln lc)) := rng_whole (heap_alloc_at _ _)
  have hql : w3.heap.size < (w3.alloc (.cells (reqA q (.slice la ln lc)) 53)).heap.size := by simp
  have hbB : Below w.heap.size w (w3.alloc (.cells (reqA q (.slice la ln lc)) 53)) := (HBA.out.trans (hb3.mono (by omega))).alloc (by omega) _
  have hdB : RdAt (w3.alloc (.cells (reqA q (.slice la ln lc)) 53)) (w.heap.size + 1) (fun b => ok b ∧ b < w.heap.size) rd := ⟨hd3.at'.elim fun v h => ⟨v, (Below.heap_alloc _ _ _ (blk_lt h.1)).trans h.1, RArr.below h.2 ((Below.refl _ _).alloc (Nat.le_refl _) _)⟩, hd3.bytes⟩
  have hlB : U32sAt (w3.alloc (.cells (reqA q (.slice la ln lc)) 53)) (w.heap.size + 3 ≤ ·) (.slice la ln lc) q.list := RArr.mono (RArr.below hlv ((Below.refl _ _).alloc (Nat.le_refl _) _)) (Same.refl _ _) (fun b hb => by omega)
  generalize (World.alloc w3 _) = V3 at *
  have HXB := hide hxB
  have HCB := hide hcB
  have HBB := hide hbB
  have HDB := hide hdB
  have HLB := hide hlB
  have c1 : V3.cell? ⟨w.heap.size + 2, 1, none⟩ = some (.int .u8 p1.1) := by rw [World.cell?, hcB]; rfl
  have hlE := blk_lt hcB
  have hlR := blk_lt hxB
  have hwR : whole V3 w.heap.size 20 = true := whole_blk hxB
  have hst := run_stReq3 V3 (w.heap.size + 2) seq p1.1 p2.1 zeroReq q _ la ln lc hcB
  have hrE : rng (V3.setRow (w.heap.size + 2) (entA ⟨seq, p1.1, p2.1, q⟩ (.slice la ln lc))) (w.heap.size + 2) 0 20 = some (entA ⟨seq, p1.1, p2.1, q⟩ (.slice la ln lc)) := rng_whole (heap_setRow_at hcB)
  have hwS : whole (V3.setRow (w.heap.size + 2) (entA ⟨seq, p1.1, p2.1, q⟩ (.slice la ln lc))) w.heap.size 20 = true := whole_blk ((setRow_other _ _ _ _ (by omega)).trans hxB)
  clear hxB hcB hbB hdB hlB ho3 hs3 hd3 hlv hb3 HXA HCA HBA HDA hz3
  cases t0 : okc with
  | false =>
    have HF : Hid (R = none) := HR.out.trans (by rw [t0]; rfl)
    go_wp2
    refine bodyPost_ret (results_cell_tmp Tryz.results164 _ _ w.heap.size _ _ _ _ rfl (heap_setRow_at HXB.out) Tryz.underlying67 rfl (by kernel_rfl)) rfl ?_
    exact ent_none HF (HBB.out.trans (below_setRow' _ _ (Nat.le_refl _)))
  | true =>
    cases t1 : rdDone rd with
    | false =>
      have HF : Hid (R = none) := HR.out.trans (by rw [t0, t1]; rfl)
      go_wp2_with (go_at_call 214; refine (rdDone_calls _ _ _ _ HDB.out).mono ?_; rintro e w99 ⟨⟨sx, rfl⟩, rfl⟩; rw [t1])
      refine bodyPost_ret (results_cell_tmp Tryz.results164 _ _ w.heap.size _ _ _ _ rfl (heap_setRow_at HXB.out) Tryz.underlying67 rfl (by kernel_rfl)) rfl ?_
      exact ent_none HF (HBB.out.trans (below_setRow' _ _ (Nat.le_refl _)))
    | true =>
      cases t2 : roleOk p1.1 with
      | false =>
        have HF : Hid (R = none) := HR.out.trans (by rw [t0, t1, t2]; rfl)
        go_wp2_with (first | (go_at_call 214; refine (rdDone_calls _ _ _ _ HDB.out).mono ?_; rintro e w99 ⟨⟨sx, rfl⟩, rfl⟩; rw [t1]) | (go_at_call 181; refine (validRole_calls _ _).mono ?_; rintro e w9 ⟨rfl, hw9⟩; have hw8 := hw9.symm; subst hw8; rw [t2]))
        refine bodyPost_ret (results_cell_tmp Tryz.results164 _ _ w.heap.size _ _ _ _ rfl (heap_setRow_at HXB.out) Tryz.underlying67 rfl (by kernel_rfl)) rfl ?_
        exact ent_none HF (HBB.out.trans (below_setRow' _ _ (Nat.le_refl _)))
      | true =>
        have HF : Hid (R = some ⟨seq, p1.1, p2.1, q⟩) := HR.out.trans (by rw [t0, t1, t2]; rfl)
        go_wp2_with (first | (go_at_call 214; refine (rdDone_calls _ _ _ _ HDB.out).mono ?_; rintro e w99 ⟨⟨sx, rfl⟩, rfl⟩; rw [t1]) | (go_at_call 181; refine (validRole_calls _ _).mono ?_; rintro e w9 ⟨rfl, hw9⟩; have hw8 := hw9.symm; subst hw8; rw [t2]))
        refine bodyPost_ret (results_cell_tmp Tryz.results164 _ _ w.heap.size _ _ _ _ rfl (heap_setRow_at ((setRow_other _ _ _ _ (by omega)).trans HXB.out)) Tryz.underlying67 rfl (by kernel_rfl)) rfl ?_
        rw [HF.out]
        exact ⟨la, ln, lc, rfl, RArr.mono HLB.out (fun b hb => (setRow_other _ _ _ _ (by omega)).trans (setRow_other _ _ _ _ (by omega))) (fun b hb => by omega), HBB.out.trans ((below_setRow' _ _ (by omega)).trans (below_setRow' _ _ (Nat.le_refl _)))⟩

end Go.Proofs.Qxb6500666aGreatDoor
