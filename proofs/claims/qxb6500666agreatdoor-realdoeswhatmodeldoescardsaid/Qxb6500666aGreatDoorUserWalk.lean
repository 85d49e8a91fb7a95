/- addUser, revokeUser, walked. -/
import Derived.Test.Qxb6500666aGreatDoorPutWalk
import Derived.Test.Qxb6500666aGreatDoorAuth2
namespace Go.Proofs.Qxb6500666aGreatDoor
open Go.RowKit

/-- What a handler that only writes leaves. -/
structure UPost (w w' : World) (D bd : Nat) (r : Req) (lv : Value) (s : Stat) (x : LV) (iss : Int) (e : Ending) (c : Int) (news : List WR) : Prop where
  ret : e = .returned (errV c)
  ex : ∃ wv' B' zs', DrW w' D bd r lv s x wv' iss B' zs' ∧ zs'.map (·.2) = news ∧ DrStep w w' D bd (.slice none 0 0) wv' ∧ (∀ b, B' b → w.heap.size ≤ b)
theorem UPost.refuse {w w' : World} {D bd : Nat} {r : Req} {lv : Value} {s : Stat} {x : LV} {iss : Int} {R : Int × List WR} {c : Int} {v : Value} (HE : Hid (R = (c, []))) (hv : v = errV c) (h : DrW w D bd r lv s x (.slice none 0 0) iss (fun _ => False) []) (hb : Below w.heap.size w w') : UPost w w' D bd r lv s x iss (.returned v) R.1 R.2 := by
  rw [HE.out]
  have := h.at'.lt
  have := h.baseD
  exact ⟨by rw [hv], _, _, _, h.below hb, rfl, DrStep.of_below hb (by omega), fun _ h => h.elim⟩

def addUserR (ps : List KV) (r : Req) : Int × List WR :=
  if (r.id == 0) then (7, []) else if ! roleOk r.role then (8, []) else match accR ps r.id with
    | .ok _ => (10, [])
    | .error c => if c = 17 then (0, [((key1B 117 r.id, accB r.role true), false)]) else (c, [])
def revokeR (ps : List KV) (r : Req) : Int × List WR :=
  if (r.id == 1) then (9, []) else match accR ps r.id with
    | .error c => (c, [])
    | .ok a => if ! a.2 then (11, []) else (0, [((key1B 117 r.id, accB a.1 false), false)])

theorem run_nec1 (w : World) : (binOp .neq 113 (.iface 63 (.int .u8 17)) (.iface 63 (.int .u8 17))).run Tryz.prog w = .ok (.bool false) w := by kernel_rfl
theorem run_nec2 (w : World) : (binOp .neq 113 (.iface 63 (.int .u8 28)) (.iface 63 (.int .u8 17))).run Tryz.prog w = .ok (.bool true) w := by kernel_rfl
theorem run_nec3 (w : World) : (binOp .neq 113 .nilIface (.iface 63 (.int .u8 17))).run Tryz.prog w = .ok (.bool true) w := by kernel_rfl

theorem accR_role {ps : List KV} {u ro : Int} {ac : Bool} (hps : PsOk ps) (h : accR ps u = .ok (ro, ac)) : U8 ro := by
  unfold accR at h
  split at h
  · injection h with h; injection h with h1 h2; subst h1; exact ⟨by decide, by decide⟩
  · split at h
    · cases h
    · rename_i v hv
      have hb := getB_ok hps hv
      unfold ofOpt at h
      split at h
      · cases h
      · rename_i y hy
        injection h with h
        subst h
        unfold decAcc at hy
        simp only at hy
        split at hy
        · cases hy
        · split at hy
          · cases hy
          · split at hy
            · cases hy
            · injection hy with hy
              injection hy with h1 h2
              have := rdDig_bound (c := 1) (r := ⟨v, false⟩) hb
              rw [← h1]
              exact ⟨this.1, by have := this.2; omega⟩

/-- An encoder's bytes, as the draft takes them. -/
theorem OwnR.fresh {w w' : World} {v : Value} {bs : List Int} {m : Nat} (h : OwnR w m 5 1 byteCs v bs) (hl : bs.length ≤ 100000) (hb : Below w.heap.size w w') : BytesAt w' (fun b => m ≤ b ∧ b < w'.heap.size) v bs :=
  (RArr.lt (RArr.below (h.rows byteCs_size (by decide) (by omega)) hb)).mono (Same.refl _ _) (fun _ h => h)

attribute [local go_sem] run_nec1 run_nec2 run_nec3 ext_const Ext.cell Ext.frozen Ext.rng Ext.whole
attribute [local go_sem ↓] exec_ldAcc exec_stAcc
attribute [local go_sem] run_ldAcc run_stAcc whole_alloc_lt whole_alloc_at whole_drew setRow_alloc_at setRow_alloc_lt rng_alloc_lt rng_alloc_at rng_drew rng_drewN rng_setCell_other whole_setCell_other

set_option maxRecDepth 100000 in
set_option maxHeartbeats 2000000 in
theorem addUser_calls (w : World) (Y S LB D bd : Nat) (A : Nat → Prop) (ps : List KV) (full : Bool) (r : Req) (lv : Value) (s : Stat) (x : LV) (iss : Int) (hY : SysAt w Y S LB) (hS : StoreAt w S A ps full) (hps : PsOk ps) (hr : r.Ok) (h : DrW w D bd r lv s x (.slice none 0 0) iss (fun _ => False) []) :
    Calls Tryz.prog 283 #[.pointer (some ⟨Y, 0, none⟩), .pointer (some ⟨D, 0, none⟩)] w fun e w' => UPost w w' D bd r lv s x iss e (addUserR ps r).1 (addUserR ps r).2 := by
  obtain ⟨R, hR⟩ : ∃ R, R = addUserR ps r := ⟨_, rfl⟩
  rw [← hR]
  have HR := hide hR
  have HH := hide h
  have HY := hide hY
  have HS := hide hS
  have hYl := blk_lt hY
  have hDl := h.at'.lt
  have hbd := h.baseD
  have hc := h.at'.cells.2
  have q3 := hc 3
  have q8 := hc 8
  simp only [draftCs, List.getElem?_toArray, List.getElem?_cons_succ, List.getElem?_cons_zero] at q3 q8
  have hov : ∀ x, ones (accCs x) 2 = true := fun _ => rfl
  clear hR hY hS h hc
  cases t0 : (r.id == 0) with
  | true =>
    have HE : Hid (R = (7, [])) := HR.out.trans (by simp [addUserR, t0])
    go_enter Tryz.func283, Tryz.ntmps283
    go_wp2
    go_ret
    exact UPost.refuse HE rfl HH.out (Below.refl _ _)
  | false =>
    cases t1 : roleOk r.role with
    | false =>
      have HE : Hid (R = (8, [])) := HR.out.trans (by simp [addUserR, t0, t1])
      go_enter Tryz.func283, Tryz.ntmps283
      go_wp2_with (go_at_call 181; refine (validRole_calls _ _).mono ?_; rintro e w9 ⟨rfl, hw9⟩; have hw8 := hw9.symm; subst hw8; rw [t1])
      go_ret
      exact UPost.refuse HE rfl HH.out (Below.refl _ _)
    | true =>
      cases ha : accR ps r.id with
      | ok a =>
        have HE : Hid (R = (10, [])) := HR.out.trans (by simp [addUserR, t0, t1, ha])
        go_enter Tryz.func283, Tryz.ntmps283
        go_upto_region 6 with (first | (go_at_call 181; refine (validRole_calls _ _).mono ?_; rintro e w9 ⟨rfl, hw9⟩; have hw8 := hw9.symm; subst hw8; rw [t1]) | (go_at_call 171; refine (accR_calls _ Y S LB A ps full r.id HY.out HS.out hps hr.id).mono ?_; rintro e w1 ⟨hg, hb1⟩; rw [ha] at hg; have hg2 : e = .returned (.tuple #[.agg (accCs a), .nilIface]) := hg; subst hg2))
        have hbA : Below w.heap.size w (w1.alloc (.cells (accCs a) 314)) := hb1.alloc hb1.size _
        have haA : (w1.alloc (.cells (accCs a) 314)).heap[w1.heap.size]? = some (.cells (accCs a) 314 (0, 0)) := heap_alloc_at _ _
        have hKl := hb1.size
        generalize hK : w1.heap.size = K at *
        generalize (World.alloc w1 _) = V at *
        have HBA := hide hbA
        have HAA := hide haA
        simp only [accCs] at haA
        clear hK hb1
        go_wp2
        go_ret
        exact UPost.refuse HE rfl HH.out HBA.out
      | error c =>
        rcases accR_err ha with rfl | rfl
        · have HE : Hid (R = (0, [((key1B 117 r.id, accB r.role true), false)])) := HR.out.trans (by simp [addUserR, t0, t1, ha])
          go_enter Tryz.func283, Tryz.ntmps283
          go_upto_region 6 with (first | (go_at_call 181; refine (validRole_calls _ _).mono ?_; rintro e w9 ⟨rfl, hw9⟩; have hw8 := hw9.symm; subst hw8; rw [t1]) | (go_at_call 171; refine (accR_calls _ Y S LB A ps full r.id HY.out HS.out hps hr.id).mono ?_; rintro e w1 ⟨hg, hb1⟩; rw [ha] at hg; have hg2 : e = .returned (.tuple #[.agg (accCs (0, false)), .iface 63 (.int .u8 17)]) := hg; subst hg2))
          have hbA : Below w.heap.size w (w1.alloc (.cells (accCs (0, false)) 314)) := hb1.alloc hb1.size _
          have haA : (w1.alloc (.cells (accCs (0, false)) 314)).heap[w1.heap.size]? = some (.cells (accCs (0, false)) 314 (0, 0)) := heap_alloc_at _ _
          have hKl := hb1.size
          generalize hK : w1.heap.size = K at *
          generalize (World.alloc w1 _) = V at *
          have HBA := hide hbA
          have HAA := hide haA
          simp only [accCs] at haA
          clear hK hb1
          go_upto_region 10 with fail
          have HDV := hide (HH.out.below HBA.out)
          have q3v := (HDV.out.at'.cells.2 3)
          have q8v := (HDV.out.at'.cells.2 8)
          have hDv := HDV.out.at'.lt
          simp only [draftCs, List.getElem?_toArray, List.getElem?_cons_succ, List.getElem?_cons_zero] at q3v q8v
          refine wp_region_mixT (V.heap.size) [5, 11] (by kernel_rfl) ?_
          refine mixT_slots [0, 1, 2, 3, 4, 7, 8, 9, 10] (fuel := 6) rfl (by kernel_rfl) (by kernel_rfl) (fun d _ _ _ _ h => by cases d <;> exact h) ?_
          simp only [opersAt, List.getElem?_toArray, List.getElem?_cons_zero, List.getElem?_cons_succ]
          repeat (go_big_quiet_step (fail))
          refine wpQuiet_nil ?_
          refine mixT_reads [5, 11] (fuel := 4) rfl (by kernel_rfl) (by decide) (by kernel_rfl) (fun d _ _ _ _ h => by cases d <;> exact h) (ext_drew _ _) ?_
          simp only [opersAt, List.getElem?_toArray, List.getElem?_cons_zero, List.getElem?_cons_succ]
          repeat (go_big_quiet_step (fail))
          refine wpQuiet_nil ?_
          refine mixT_slots [12] (fuel := 3) rfl (by kernel_rfl) (by kernel_rfl) (fun d _ _ _ _ h => by cases d <;> exact h) ?_
          simp only [opersAt, List.getElem?_toArray, List.getElem?_cons_zero, List.getElem?_cons_succ]
          repeat (go_big_quiet_step (fail))
          refine wpQuiet_nil ?_
          refine mixT_one (k := 6) (by kernel_rfl) rfl ?_
          go_wp2_with (go_at_call 163; refine (key1_calls _ 117 r.id (u8c 117 (by decide)) hr.id).mono ?_; rintro e w3 ⟨kv, rfl, hk3, hb3⟩)
          have hbk : Below V.heap.size V w3 := (Below.refl _ _).drew.trans hb3
          refine ⟨Or.inr (by intros; exact ⟨⟨_, hbk⟩, rfl⟩), ?_⟩
          obtain ⟨ka, kn, kc, ek⟩ := hk3.form3
          subst ek
          refine mixT_one (k := 13) (by kernel_rfl) rfl ?_
          go_wp2_with (go_at_call 303; refine (acc_calls _ r.role true hr.role).mono ?_; rintro e w4 ⟨vv, rfl, hv4, hb4⟩)
          have hz3 := hbk.size
          have hbv : Below V.heap.size V w4 := hbk.trans (hb4.mono hz3)
          refine ⟨Or.inr (by intros; exact ⟨⟨_, hbv⟩, rfl⟩), ?_⟩
          obtain ⟨va, vn, vc, ev⟩ := hv4.form3
          subst ev
          have HKB := hide (OwnR.fresh hk3 (by simp [key1B, d256_len]) hb4)
          have HVB := hide (RArr.mono (OwnR.fresh hv4 (by simp [accB, d256_len]) (Below.refl _ _)) (Same.refl _ _) (fun b hb => (⟨Nat.le_trans hz3 hb.1, hb.2⟩ : V.heap.size ≤ b ∧ b < w4.heap.size)))
          have HD4 := hide (HDV.out.below hbv)
          have hzw := HBA.out.size
          have hz4 := hbv.size
          have HBV := hide hbv
          clear hk3 hb3 hv4 hb4 hbk hbv
          refine mixT_one (k := 14) (by kernel_rfl) rfl ?_
          go_wp2_with (go_at_call 177; refine (put_calls _ D bd r lv s x _ iss (fun _ => False) (fun b => V.heap.size ≤ b ∧ b < w4.heap.size) [] ka kn kc (key1B 117 r.id) HD4.out HKB.out va vn vc (accB r.role true) HVB.out (fun _ h => h.elim) (fun b hb => ⟨hb.2, by omega, by intro h9; cases h9⟩) (by simp)).mono ?_; rintro e w5 ⟨rfl, wv5, hd5, hs5⟩)
          refine ⟨Or.inl (by kernel_rfl), ?_⟩
          refine mixT_nil (by kernel_rfl) ?_
          go_wp2
          go_ret
          rw [HE.out]
          exact ⟨rfl, wv5, _, _, hd5, rfl, (DrStep.of_below (HBA.out.trans (HBV.out.mono hzw)) (by omega)).trans hs5, fun b hb => by have := hb.1; omega⟩
        · have HE : Hid (R = (28, [])) := HR.out.trans (by simp [addUserR, t0, t1, ha])
          go_enter Tryz.func283, Tryz.ntmps283
          go_upto_region 6 with (first | (go_at_call 181; refine (validRole_calls _ _).mono ?_; rintro e w9 ⟨rfl, hw9⟩; have hw8 := hw9.symm; subst hw8; rw [t1]) | (go_at_call 171; refine (accR_calls _ Y S LB A ps full r.id HY.out HS.out hps hr.id).mono ?_; rintro e w1 ⟨hg, hb1⟩; rw [ha] at hg; have hg2 : e = .returned (.tuple #[.agg (accCs (0, false)), .iface 63 (.int .u8 28)]) := hg; subst hg2))
          have hbA : Below w.heap.size w (w1.alloc (.cells (accCs (0, false)) 314)) := hb1.alloc hb1.size _
          have haA : (w1.alloc (.cells (accCs (0, false)) 314)).heap[w1.heap.size]? = some (.cells (accCs (0, false)) 314 (0, 0)) := heap_alloc_at _ _
          have hKl := hb1.size
          generalize hK : w1.heap.size = K at *
          generalize (World.alloc w1 _) = V at *
          have HBA := hide hbA
          have HAA := hide haA
          simp only [accCs] at haA
          clear hK hb1
          go_wp2
          go_ret
          exact UPost.refuse HE rfl HH.out HBA.out

set_option maxRecDepth 100000 in
set_option maxHeartbeats 2000000 in
theorem revoke_calls (w : World) (Y S LB D bd : Nat) (A : Nat → Prop) (ps : List KV) (full : Bool) (r : Req) (lv : Value) (s : Stat) (x : LV) (iss : Int) (hY : SysAt w Y S LB) (hS : StoreAt w S A ps full) (hps : PsOk ps) (hr : r.Ok) (h : DrW w D bd r lv s x (.slice none 0 0) iss (fun _ => False) []) :
    Calls Tryz.prog 284 #[.pointer (some ⟨Y, 0, none⟩), .pointer (some ⟨D, 0, none⟩)] w fun e w' => UPost w w' D bd r lv s x iss e (revokeR ps r).1 (revokeR ps r).2 := by
  obtain ⟨R, hR⟩ : ∃ R, R = revokeR ps r := ⟨_, rfl⟩
  rw [← hR]
  have HR := hide hR
  have HH := hide h
  have HY := hide hY
  have HS := hide hS
  have hYl := blk_lt hY
  have hDl := h.at'.lt
  have hbd := h.baseD
  have hc := h.at'.cells.2
  have q3 := hc 3
  have q8 := hc 8
  simp only [draftCs, List.getElem?_toArray, List.getElem?_cons_succ, List.getElem?_cons_zero] at q3 q8
  have hov : ∀ x, ones (accCs x) 2 = true := fun _ => rfl
  clear hR hY hS h hc
  cases t0 : (r.id == 1) with
  | true =>
    have HE : Hid (R = (9, [])) := HR.out.trans (by simp [revokeR, t0])
    go_enter Tryz.func284, Tryz.ntmps284
    go_wp2
    go_ret
    exact UPost.refuse HE rfl HH.out (Below.refl _ _)
  | false =>
    cases ha : accR ps r.id with
    | error c =>
      rcases accR_err ha with rfl | rfl
      · have HE : Hid (R = (17, [])) := HR.out.trans (by simp [revokeR, t0, ha])
        go_enter Tryz.func284, Tryz.ntmps284
        go_upto_region 4 with (go_at_call 171; refine (accR_calls _ Y S LB A ps full r.id HY.out HS.out hps hr.id).mono ?_; rintro e w1 ⟨hg, hb1⟩; rw [ha] at hg; have hg2 : e = .returned (.tuple #[.agg (accCs (0, false)), .iface 63 (.int .u8 17)]) := hg; subst hg2)
        have hbA : Below w.heap.size w (w1.alloc (.cells (accCs (0, false)) 314)) := hb1.alloc hb1.size _
        have haA : (w1.alloc (.cells (accCs (0, false)) 314)).heap[w1.heap.size]? = some (.cells (accCs (0, false)) 314 (0, 0)) := heap_alloc_at _ _
        have hKl := hb1.size
        generalize hK : w1.heap.size = K at *
        generalize (World.alloc w1 _) = V at *
        have HBA := hide hbA
        have HAA := hide haA
        simp only [accCs] at haA
        clear hK hb1
        go_wp2
        go_ret
        exact UPost.refuse HE rfl HH.out HBA.out
      · have HE : Hid (R = (28, [])) := HR.out.trans (by simp [revokeR, t0, ha])
        go_enter Tryz.func284, Tryz.ntmps284
        go_upto_region 4 with (go_at_call 171; refine (accR_calls _ Y S LB A ps full r.id HY.out HS.out hps hr.id).mono ?_; rintro e w1 ⟨hg, hb1⟩; rw [ha] at hg; have hg2 : e = .returned (.tuple #[.agg (accCs (0, false)), .iface 63 (.int .u8 28)]) := hg; subst hg2)
        have hbA : Below w.heap.size w (w1.alloc (.cells (accCs (0, false)) 314)) := hb1.alloc hb1.size _
        have haA : (w1.alloc (.cells (accCs (0, false)) 314)).heap[w1.heap.size]? = some (.cells (accCs (0, false)) 314 (0, 0)) := heap_alloc_at _ _
        have hKl := hb1.size
        generalize hK : w1.heap.size = K at *
        generalize (World.alloc w1 _) = V at *
        have HBA := hide hbA
        have HAA := hide haA
        simp only [accCs] at haA
        clear hK hb1
        go_wp2
        go_ret
        exact UPost.refuse HE rfl HH.out HBA.out
    | ok a =>
      obtain ⟨ro, ac⟩ := a
      have hro : U8 ro := accR_role hps ha
      cases ac with
      | false =>
        have HE : Hid (R = (11, [])) := HR.out.trans (by simp [revokeR, t0, ha])
        go_enter Tryz.func284, Tryz.ntmps284
        go_upto_region 4 with (go_at_call 171; refine (accR_calls _ Y S LB A ps full r.id HY.out HS.out hps hr.id).mono ?_; rintro e w1 ⟨hg, hb1⟩; rw [ha] at hg; have hg2 : e = .returned (.tuple #[.agg (accCs (ro, false)), .nilIface]) := hg; subst hg2)
        have hbA : Below w.heap.size w (w1.alloc (.cells (accCs (ro, false)) 314)) := hb1.alloc hb1.size _
        have haA : (w1.alloc (.cells (accCs (ro, false)) 314)).heap[w1.heap.size]? = some (.cells (accCs (ro, false)) 314 (0, 0)) := heap_alloc_at _ _
        have hKl := hb1.size
        generalize hK : w1.heap.size = K at *
        generalize (World.alloc w1 _) = V at *
        have HBA := hide hbA
        have HAA := hide haA
        simp only [accCs] at haA
        clear hK hb1
        obtain ⟨d0, d1, df, hdl⟩ := cell_two haA
        go_wp2
        go_ret
        exact UPost.refuse HE rfl HH.out HBA.out
      | true =>
        have HE : Hid (R = (0, [((key1B 117 r.id, accB ro false), false)])) := HR.out.trans (by simp [revokeR, t0, ha])
        go_enter Tryz.func284, Tryz.ntmps284
        go_upto_region 4 with (go_at_call 171; refine (accR_calls _ Y S LB A ps full r.id HY.out HS.out hps hr.id).mono ?_; rintro e w1 ⟨hg, hb1⟩; rw [ha] at hg; have hg2 : e = .returned (.tuple #[.agg (accCs (ro, true)), .nilIface]) := hg; subst hg2)
        have hbA : Below w.heap.size w (w1.alloc (.cells (accCs (ro, true)) 314)) := hb1.alloc hb1.size _
        have haA : (w1.alloc (.cells (accCs (ro, true)) 314)).heap[w1.heap.size]? = some (.cells (accCs (ro, true)) 314 (0, 0)) := heap_alloc_at _ _
        have hKl := hb1.size
        generalize hK : w1.heap.size = K at *
        generalize (World.alloc w1 _) = V at *
        have HBA := hide hbA
        have HAA := hide haA
        simp only [accCs] at haA
        clear hK hb1
        obtain ⟨d0, d1, df, hdl⟩ := cell_two haA
        go_upto_region 9 with fail
        have hcN : (V.setCell ⟨K, 1, none⟩ (.bool false)).heap[K]? = some (.cells #[.int .u8 ro, .bool false] 314 (0, 0)) := heap_set3 haA
        have hbN := HBA.out.setCell (p := ⟨K, 1, none⟩) hKl (.bool false)
        clear haA HAA HBA d0 d1 df hdl
        generalize (World.setCell V _ _) = V2 at *
        have HBA := hide hbN
        have hrK : rng V2 K 0 2 = some #[.int .u8 ro, .bool false] := rng_whole hcN
        have hlK := blk_lt hcN
        clear hbN hcN
        have HDV := hide (HH.out.below HBA.out)
        have q3v := (HDV.out.at'.cells.2 3)
        have q8v := (HDV.out.at'.cells.2 8)
        have hDv := HDV.out.at'.lt
        simp only [draftCs, List.getElem?_toArray, List.getElem?_cons_succ, List.getElem?_cons_zero] at q3v q8v
        refine wp_region_mixT (V2.heap.size) [5, 7] (by kernel_rfl) ?_
        refine mixT_slots [0, 1, 2, 3, 4] (fuel := 5) rfl (by kernel_rfl) (by kernel_rfl) (fun d _ _ _ _ h => by cases d <;> exact h) ?_
        simp only [opersAt, List.getElem?_toArray, List.getElem?_cons_zero, List.getElem?_cons_succ]
        repeat (go_big_quiet_step (fail))
        refine wpQuiet_nil ?_
        refine mixT_reads [5, 7] (fuel := 3) rfl (by kernel_rfl) (by decide) (by kernel_rfl) (fun d _ _ _ _ h => by cases d <;> exact h) (ext_drew _ _) ?_
        simp only [opersAt, List.getElem?_toArray, List.getElem?_cons_zero, List.getElem?_cons_succ]
        repeat (go_big_quiet_step (fail))
        refine wpQuiet_nil ?_
        refine mixT_one (k := 6) (by kernel_rfl) rfl ?_
        go_wp2_with (go_at_call 163; refine (key1_calls _ 117 r.id (u8c 117 (by decide)) hr.id).mono ?_; rintro e w3 ⟨kv, rfl, hk3, hb3⟩)
        have hbk : Below V2.heap.size V2 w3 := (Below.refl _ _).drew.trans hb3
        refine ⟨Or.inr (by intros; exact ⟨⟨_, hbk⟩, rfl⟩), ?_⟩
        obtain ⟨ka, kn, kc, ek⟩ := hk3.form3
        subst ek
        refine mixT_one (k := 8) (by kernel_rfl) rfl ?_
        go_wp2_with (go_at_call 303; refine (acc_calls _ ro false hro).mono ?_; rintro e w4 ⟨vv, rfl, hv4, hb4⟩)
        have hz3 := hbk.size
        have hbv : Below V2.heap.size V2 w4 := hbk.trans (hb4.mono hz3)
        refine ⟨Or.inr (by intros; exact ⟨⟨_, hbv⟩, rfl⟩), ?_⟩
        obtain ⟨va, vn, vc, ev⟩ := hv4.form3
        subst ev
        have HKB := hide (OwnR.fresh hk3 (by simp [key1B, d256_len]) hb4)
        have HVB := hide (RArr.mono (OwnR.fresh hv4 (by simp [accB, d256_len]) (Below.refl _ _)) (Same.refl _ _) (fun b hb => (⟨Nat.le_trans hz3 hb.1, hb.2⟩ : V2.heap.size ≤ b ∧ b < w4.heap.size)))
        have HD4 := hide (HDV.out.below hbv)
        have hzw := HBA.out.size
        have hz4 := hbv.size
        have HBV := hide hbv
        clear hk3 hb3 hv4 hb4 hbk hbv
        refine mixT_one (k := 9) (by kernel_rfl) rfl ?_
        go_wp2_with (go_at_call 177; refine (put_calls _ D bd r lv s x _ iss (fun _ => False) (fun b => V2.heap.size ≤ b ∧ b < w4.heap.size) [] ka kn kc (key1B 117 r.id) HD4.out HKB.out va vn vc (accB ro false) HVB.out (fun _ h => h.elim) (fun b hb => ⟨hb.2, by omega, by intro h9; cases h9⟩) (by simp)).mono ?_; rintro e w5 ⟨rfl, wv5, hd5, hs5⟩)
        refine ⟨Or.inl (by kernel_rfl), ?_⟩
        refine mixT_nil (by kernel_rfl) ?_
        go_wp2
        go_ret
        rw [HE.out]
        exact ⟨rfl, wv5, _, _, hd5, rfl, (DrStep.of_below (HBA.out.trans (HBV.out.mono hzw)) (by omega)).trans hs5, fun b hb => by have := hb.1; omega⟩

end Go.Proofs.Qxb6500666aGreatDoor
