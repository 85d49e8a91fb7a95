/- The model's Step: rendering; trails. (Made by tools/mk_mst.py.) -/
import Derived.Test.Qxb6500666aGreatDoorMdV
namespace Go.Proofs.Qxb6500666aGreatDoor
open Go.RowKit
attribute [local go_sem] ext_const Ext.cell Ext.frozen Ext.rng Ext.whole
attribute [local go_sem ↓] exec_ldAns exec_stAns exec_ldFile exec_stFile exec_ldReq exec_stRsp
attribute [local go_sem] run_ldAns run_stAns run_ldFile run_stFile run_ldReq ansCs_ones opA_size fileCs_size fileCs_ones fileCs_all file_ones whole_alloc_lt whole_alloc_at whole_drew setRow_alloc_at setRow_alloc_lt rng_alloc_lt rng_alloc_at rng_drew rng_drewN rng_setCell_other whole_setCell_other

set_option maxRecDepth 100000 in
set_option maxHeartbeats 8000000 in
theorem mst6_calls (rn kn ft : Nat → ByteArray) (okg : Nat → Prop) (w : World) (M : Nat) (ok : Nat → Prop) (v : MV) (m : Mod) (o : Op) (lv dv : Value) (ca : Option Addr) (cn cc : Nat) (h : StI rn kn ft okg w M ok v m o lv dv ca cn cc) (hk : o.kind = 6) :
    Calls Tryz.prog 22 #[.pointer (some ⟨M, 0, none⟩), .agg (opA o lv dv ca cn cc)] w fun e w' => MStp rn kn w w' M ok m o e := by
  have HH := hide h
  have zM := blk_lt h.at'.top
  clear h
  go_enter Tryz.func22, Tryz.ntmps22
  go_upto_region 2 with fail
  have HS0 := hide (SB.start w (opA o lv dv ca cn cc)).1
  have HB0 := hide (SB.start w (opA o lv dv ca cn cc)).2
  change Code.wp _ _ _ _ (((w.alloc (.cells (opA o lv dv ca cn cc) 61)).alloc (.cells (ansCs ans0) 77)).alloc (.cells (ansCs ans0) 77))
  generalize (((w.alloc (.cells (opA o lv dv ca cn cc) 61)).alloc (.cells (ansCs ans0) 77)).alloc (.cells (ansCs ans0) 77)) = W0 at *
  obtain ⟨-, -, hq, -, -, hz⟩ := HS0.out.facts
  have q0 := hq 0

  simp only [opA, List.getElem?_toArray, List.getElem?_cons_zero] at q0
  clear hq
  have zM0 : M < W0.heap.size := by omega
  rw [hk] at q0
  have hfl : rng W0 w.heap.size 22 5 = some (fileCs o.file.kind o.file.seq o.file.issued o.file.base ca cn cc) := by unfold rng; rw [HS0.out.op]; rfl
  have hn : cn = o.file.changes.length := by obtain ⟨_, _, _, _, e, -⟩ := HH.out.op.ch; injection e
  have hzb := HB0.out.size
  obtain ⟨res, hres⟩ := bool_for (FileOk o.file.kind o.file.seq o.file.issued o.file.base o.file.changes)
  have HRE := hide hres
  have HVL := hide (mvalid_yes W0 ok o.file.kind o.file.seq o.file.issued o.file.base ca cn cc o.file.changes hn (RArr.below HH.out.op.ch HB0.out) HH.out.op.fok.seq HH.out.op.cok res hres)
  have HNN := hide hn
  clear hres hn
  cases res with
  | false =>
    have HNO : Hid (¬ FileOk o.file.kind o.file.seq o.file.issued o.file.base o.file.changes) := fun k => by have := HRE.out.2 k; cases this
    go_upto_region 20 with (go_at_call 85; refine HVL.out.mono ?_; rintro e W1 ⟨rfl, hb⟩)
    have HS1 := hide (HS0.out.next hb)
    have HB1 := hide (HB0.out.trans (hb.mono hzb))
    have c40 := HS1.out.facts.2.2.2.1 40
    simp only [ansCs, List.getElem?_toArray, List.getElem?_cons_zero, List.getElem?_cons_succ] at c40
    have g40 := HS1.out.facts.2.2.2.2.1 40
    have zz := HS1.out.facts.2.2.2.2.2
    go_upto_region 24 with fail
    have HS3 := hide (HS1.out.cell (j := 40) (v := .int .u8 29) { ans0 with code := 29 } rfl).1
    have HB3 : Hid (Below w.heap.size w (W1.setCell ⟨w.heap.size + 2, 40, none⟩ (.int .u8 29))) := HB1.out.setCell (p := ⟨w.heap.size + 2, 40, none⟩) (by simp) _
    generalize World.setCell _ _ _ = W3 at *
    clear c40 g40 zz
    have s1 := HS3.out.facts.1
    have s2 := HS3.out.facts.2.1
    have s3 := HS3.out.facts.2.2.2.2.2
    go_wp2
    have HF := hide (heap_setRow_at (ds := ansCs { ans0 with code := 29 }) HS3.out.rs)
    refine bodyPost_ret (results_cell1 Tryz.results22 _ _ (w.heap.size + 1) _ _ _ _ rfl HF.out Tryz.underlying77 rfl (by kernel_rfl)) rfl ?_
    have hfb : Below w.heap.size w (W3.setRow (w.heap.size + 1) (ansCs { ans0 with code := 29 })) := HB3.out.trans ⟨rfl, rfl, rfl, by simp, fun k hk => setRow_other _ _ _ _ (by omega)⟩
    exact MStp.same HH.out.at' hfb (by omega) (by omega) ⟨fun k => by omega, fun k => by omega, fun k => by omega, fun k => by omega, fun _ => ⟨fun k => absurd k HNO.out, fun _ => rfl⟩, fun k => by omega, fun k => by omega⟩
  | true =>
    have HOKF : Hid (FileOk o.file.kind o.file.seq o.file.issued o.file.base o.file.changes) := HRE.out.1 rfl
    go_upto_region 19 with (go_at_call 85; refine HVL.out.mono ?_; rintro e W1 ⟨rfl, hb⟩)
    have HS1 := hide (HS0.out.next hb)
    have HB1 := hide (HB0.out.trans (hb.mono hzb))
    have hfl1 : rng W1 w.heap.size 22 5 = some (fileCs o.file.kind o.file.seq o.file.issued o.file.base ca cn cc) := by unfold rng; rw [HS1.out.op]; rfl
    have HRN := hide (mrender_calls W1 ok o.file.kind o.file.seq o.file.issued o.file.base ca cn cc o.file.changes HNN.out (RArr.below HH.out.op.ch HB1.out) HOKF.out HH.out.op.fok.seq HH.out.op.fok.issued HH.out.op.fok.base HH.out.op.cok (by have := HH.out.op.lf; rw [HNN.out]; omega))
    have zz := HS1.out.facts.2.2.2.2.2
    have hzb1 := HB1.out.size
    clear hfl hb
    generalize crc (bodyText o.file.kind o.file.seq o.file.issued o.file.base o.file.changes) = cr at *
    have HTX : Hid (fileText o.file.kind o.file.seq o.file.issued o.file.base o.file.changes = fileText o.file.kind o.file.seq o.file.issued o.file.base o.file.changes) := rfl
    go_upto_region 24 with (go_at_call 84; refine HRN.out.mono ?_; rintro e W6 ⟨vt, rfl, hby⟩; obtain ⟨ta, tn, tc, rfl, hts⟩ := Src.of hby.at'; have HBY := hide hby; have HS6 := hide (HS1.out.next hby.bel); have HB6 := hide (HB1.out.trans (hby.bel.mono hzb1)); have c46 := HS6.out.facts.2.2.2.1 46; simp only [ansCs, List.getElem?_toArray, List.getElem?_cons_zero, List.getElem?_cons_succ] at c46; have g46 := HS6.out.facts.2.2.2.2.1 46; clear hts hby)
    have HS7 := hide (HS6.out.cell (j := 46) (v := .slice ta tn tc) { ans0 with bytes := (ta, tn, tc) } rfl).1
    have HB7 : Hid (Below w.heap.size w (W6.setCell ⟨w.heap.size + 2, 46, none⟩ (.slice ta tn tc))) := HB6.out.setCell (p := ⟨w.heap.size + 2, 46, none⟩) (by simp) _
    have HF7 : Hid (∀ b, b ≠ w.heap.size + 2 → (W6.setCell ⟨w.heap.size + 2, 46, none⟩ (.slice ta tn tc)).heap[b]? = W6.heap[b]?) := fun b hb => Below.heap_setCell _ _ _ _ hb
    generalize World.setCell _ _ _ = W7 at *
    clear c46 g46
    have s1 := HS7.out.facts.1
    have s2 := HS7.out.facts.2.1
    have s3 := HS7.out.facts.2.2.2.2.2
    go_wp2
    have HF := hide (heap_setRow_at (ds := ansCs { ans0 with bytes := (ta, tn, tc) }) HS7.out.rs)
    refine bodyPost_ret (results_cell1 Tryz.results22 _ _ (w.heap.size + 1) _ _ _ _ rfl HF.out Tryz.underlying77 rfl (by kernel_rfl)) rfl ?_
    have hfb : Below w.heap.size w (W7.setRow (w.heap.size + 1) (ansCs { ans0 with bytes := (ta, tn, tc) })) := HB7.out.trans ⟨rfl, rfl, rfl, by simp, fun k hk => setRow_other _ _ _ _ (by omega)⟩
    exact MStp.same HH.out.at' hfb (by omega) (by omega) ⟨fun k => by omega, fun k => by omega, fun k => by omega, fun k => by omega, fun _ => ⟨fun _ => ⟨ta, tn, tc, rfl, RArr.mono HBY.out.at' (fun b hb => (setRow_other _ _ _ _ (by omega)).trans (HF7.out b (by omega))) (fun b hb => by omega)⟩, fun k => absurd HOKF.out k⟩, fun k => by omega, fun k => by omega⟩

set_option maxRecDepth 100000 in
set_option maxHeartbeats 8000000 in
theorem mst7_calls (rn kn ft : Nat → ByteArray) (okg : Nat → Prop) (w : World) (M : Nat) (ok : Nat → Prop) (v : MV) (m : Mod) (o : Op) (lv dv : Value) (ca : Option Addr) (cn cc : Nat) (h : StI rn kn ft okg w M ok v m o lv dv ca cn cc) (hk : o.kind = 7) :
    Calls Tryz.prog 22 #[.pointer (some ⟨M, 0, none⟩), .agg (opA o lv dv ca cn cc)] w fun e w' => MStp rn kn w w' M ok m o e := by
  have HH := hide h
  have zM := blk_lt h.at'.top
  clear h
  go_enter Tryz.func22, Tryz.ntmps22
  go_upto_region 2 with fail
  have HS0 := hide (SB.start w (opA o lv dv ca cn cc)).1
  have HB0 := hide (SB.start w (opA o lv dv ca cn cc)).2
  change Code.wp _ _ _ _ (((w.alloc (.cells (opA o lv dv ca cn cc) 61)).alloc (.cells (ansCs ans0) 77)).alloc (.cells (ansCs ans0) 77))
  generalize (((w.alloc (.cells (opA o lv dv ca cn cc) 61)).alloc (.cells (ansCs ans0) 77)).alloc (.cells (ansCs ans0) 77)) = W0 at *
  obtain ⟨-, -, hq, -, -, hz⟩ := HS0.out.facts
  have q0 := hq 0
  have q19 := hq 19
  have q20 := hq 20
  have q21 := hq 21
  simp only [opA, List.getElem?_toArray, List.getElem?_cons_zero, List.getElem?_cons_succ] at q0 q19 q20 q21
  clear hq
  have zM0 : M < W0.heap.size := by omega
  rw [hk] at q0
  have HM0 := hide (HH.out.at'.below HB0.out)
  have hzb := HB0.out.size
  obtain ⟨zs, hz1, hz2, hz3⟩ := HM0.out.inn.au
  obtain ⟨a, n0, cap0, hv, hsr⟩ := Src.of hz1
  have hnl : n0 = zs.length := hsr.len
  have cu : W0.cell? ⟨M, 9, none⟩ = some (.slice a n0 cap0) := by rw [← hv]; exact cells_all HM0.out.top 9
  rw [hv] at hz1
  have hal : m.au.length = n0 := by rw [← hz3, List.length_map, hnl]
  have HU := hide (mrenderTrail_calls W0 ok rn kn ft a n0 cap0 zs hz1 hz2 (by have := HH.out.inv.al; omega) (HH.out.nm.below HB0.out) (fun z hz => HH.out.inv.ents _ (by rw [← hz3]; exact List.mem_map.2 ⟨z, hz, rfl⟩)))
  rw [hz3] at HU
  have HTB : Hid ((trT rn kn m).length ≤ 90000000 ∧ ByteL (trT rn kn m)) := by
    unfold trT
    cases hb : rtB 0 m.au with
    | true => exact trText_len HH.out.nm.rs HH.out.nm.ks HH.out.inv.ents HH.out.inv.al (by unfold rtR; rw [hb]; rfl)
    | false => exact ⟨Nat.zero_le _, byteL_nil⟩
  obtain ⟨p, hp⟩ : ∃ p, p = pkT rn kn (dmgP (trT rn kn m) o.mode o.num o.data) := ⟨_, rfl⟩
  have HP : Hid (pkT rn kn (dmgP (trT rn kn m) o.mode o.num o.data) = p) := hp.symm
  clear hz1 hz2 hz3 hv hsr hnl hal hp
  go_upto_region 23 with (go_at_call 86; refine HU.out.mono ?_; rintro e W6 hp; obtain ⟨ta, tn, tc, bv, rfl, hb, hcase⟩ := hp.two)
  have HBY : Hid (BytesAt W6 (W0.heap.size ≤ ·) (.slice ta tn tc) (trT rn kn m)) := by
    unfold trT
    rcases hcase with ⟨h9, hby⟩ | ⟨h9, e9⟩
    · rw [h9]; exact hby
    · rw [h9, e9]; exact RArr.nil _ _ _ _
  have HS6 := hide (HS0.out.next hb)
  have HB6 := hide (HB0.out.trans (hb.mono hzb))
  have hzb6 := HB6.out.size
  have HDM := hide (damage_x W6 _ ok _ dv (trT rn kn m) o.data o.mode o.num HBY.out (RArr.below HH.out.op.data HB6.out) HH.out.op.mode HH.out.op.num (by have := HTB.out.1; omega) (by have := HH.out.op.ld; omega))
  have hq6 := HS6.out.facts.2.2.1
  have r19 := hq6 19
  have r20 := hq6 20
  have r21 := hq6 21
  simp only [opA, List.getElem?_toArray, List.getElem?_cons_zero, List.getElem?_cons_succ] at r19 r20 r21
  have zz6 := HS6.out.facts.2.2.2.2.2
  clear hq6 hcase hp hb HU q19 q20 q21 cu HBY
  cases ht : p.t with
  | false =>
    go_upto_region 24 with (first | (go_at_call 51; refine HDM.out.mono ?_; rintro e W7 ⟨vd, rfl, hby, hb7⟩; have HS7 := hide (HS6.out.next hb7); have hz67 := hb7.size; have HB7 := hide (HB6.out.trans (hb7.mono hzb6)); have hzb7 := HB7.out.size; have HPC := hide (mptrail_no W7 _ rn kn ft vd _ hby (dmgP_byte _ _ HTB.out.2 HH.out.by') (by have h1 := dmgP_len (trT rn kn m) o.mode o.num o.data; have h2 := HH.out.op.ld; have h3 := HTB.out.1; omega) (HH.out.nm.below HB7.out) HH.out.ng HP.out ht); clear hby hb7 HDM) | (go_at_call 87; refine HPC.out.mono ?_; rintro e W1 ⟨rfl, hb⟩; have HS1 := hide (HS7.out.next hb); have HB1 := hide (HB7.out.trans (hb.mono hzb7)); have c47 := HS1.out.facts.2.2.2.1 47; have c40 := HS1.out.facts.2.2.2.1 40; simp only [ansCs, List.getElem?_toArray, List.getElem?_cons_zero, List.getElem?_cons_succ] at c47 c40; have g47 := HS1.out.facts.2.2.2.2.1 47; have g40 := HS1.out.facts.2.2.2.2.1 40; have zz := HS1.out.facts.2.2.2.2.2; clear hb))
    have HSb := hide ((HS1.out.cell (j := 47) (v := .slice none 0 0) ans0 rfl).1.cell (j := 40) (v := .int .u8 29) { ans0 with code := 29 } rfl).1
    have HBb : Hid (Below w.heap.size w ((W1.setCell ⟨w.heap.size + 2, 47, none⟩ (.slice none 0 0)).setCell ⟨w.heap.size + 2, 40, none⟩ (.int .u8 29))) := (HB1.out.setCell (p := ⟨w.heap.size + 2, 47, none⟩) (by simp) _).setCell (p := ⟨w.heap.size + 2, 40, none⟩) (by simp) _
    have HFb : Hid (∀ b, b ≠ w.heap.size + 2 → ((W1.setCell ⟨w.heap.size + 2, 47, none⟩ (.slice none 0 0)).setCell ⟨w.heap.size + 2, 40, none⟩ (.int .u8 29)).heap[b]? = W1.heap[b]?) := fun b hb => (Below.heap_setCell _ _ _ _ hb).trans (Below.heap_setCell _ _ _ _ hb)
    generalize World.setCell _ _ _ = W5 at *
    clear c40 g40 c47 g47 zz
    have s1 := HSb.out.facts.1
    have s2 := HSb.out.facts.2.1
    have s3 := HSb.out.facts.2.2.2.2.2
    go_wp2
    have HF := hide (heap_setRow_at (ds := ansCs { ans0 with code := 29 }) HSb.out.rs)
    refine bodyPost_ret (results_cell1 Tryz.results22 _ _ (w.heap.size + 1) _ _ _ _ rfl HF.out Tryz.underlying77 rfl (by kernel_rfl)) rfl ?_
    have hfb : Below w.heap.size w (W5.setRow (w.heap.size + 1) (ansCs { ans0 with code := 29 })) := HBb.out.trans ⟨rfl, rfl, rfl, by simp, fun k hk => setRow_other _ _ _ _ (by omega)⟩
    exact MStp.same HH.out.at' hfb (by omega) (by omega) ⟨fun k => by omega, fun k => by omega, fun k => by omega, fun k => by omega, fun k => by omega, fun _ => by rw [HP.out]; exact Or.inl ⟨ht, rfl⟩, fun k => by omega⟩
  | true =>
    go_upto_region 24 with (first | (go_at_call 51; refine HDM.out.mono ?_; rintro e W7 ⟨vd, rfl, hby, hb7⟩; have HS7 := hide (HS6.out.next hb7); have hz67 := hb7.size; have HB7 := hide (HB6.out.trans (hb7.mono hzb6)); have hzb7 := HB7.out.size; have HPC := hide (mptrail_yes W7 _ rn kn ft vd _ hby (dmgP_byte _ _ HTB.out.2 HH.out.by') (by have h1 := dmgP_len (trT rn kn m) o.mode o.num o.data; have h2 := HH.out.op.ld; have h3 := HTB.out.1; omega) (HH.out.nm.below HB7.out) HH.out.ng HP.out ht); clear hby hb7 HDM) | (go_at_call 87; refine HPC.out.mono ?_; rintro e W1 ⟨ad, n, cap, zs', rfl, hnl, hra, hzi, hmp, hb⟩; have HRA := hide hra; have HZI := hide hzi; have HMP := hide hmp; have HNL := hide hnl; have HS1 := hide (HS7.out.next hb); have HB1 := hide (HB7.out.trans (hb.mono hzb7)); have c47 := HS1.out.facts.2.2.2.1 47; have c40 := HS1.out.facts.2.2.2.1 40; simp only [ansCs, List.getElem?_toArray, List.getElem?_cons_zero, List.getElem?_cons_succ] at c47 c40; have g47 := HS1.out.facts.2.2.2.2.1 47; have g40 := HS1.out.facts.2.2.2.2.1 40; have zz := HS1.out.facts.2.2.2.2.2; clear hb hra hzi hmp hnl))
    have HSb := hide ((HS1.out.cell (j := 47) (v := .slice ad n cap) { ans0 with trail := (ad, n, cap) } rfl).1.cell (j := 40) (v := .int .u8 0) { ans0 with trail := (ad, n, cap) } rfl).1
    have HBb : Hid (Below w.heap.size w ((W1.setCell ⟨w.heap.size + 2, 47, none⟩ (.slice ad n cap)).setCell ⟨w.heap.size + 2, 40, none⟩ (.int .u8 0))) := (HB1.out.setCell (p := ⟨w.heap.size + 2, 47, none⟩) (by simp) _).setCell (p := ⟨w.heap.size + 2, 40, none⟩) (by simp) _
    have HFb : Hid (∀ b, b ≠ w.heap.size + 2 → ((W1.setCell ⟨w.heap.size + 2, 47, none⟩ (.slice ad n cap)).setCell ⟨w.heap.size + 2, 40, none⟩ (.int .u8 0)).heap[b]? = W1.heap[b]?) := fun b hb => (Below.heap_setCell _ _ _ _ hb).trans (Below.heap_setCell _ _ _ _ hb)
    generalize World.setCell _ _ _ = W5 at *
    clear c40 g40 c47 g47 zz
    have s1 := HSb.out.facts.1
    have s2 := HSb.out.facts.2.1
    have s3 := HSb.out.facts.2.2.2.2.2
    go_wp2
    have HF := hide (heap_setRow_at (ds := ansCs { ans0 with trail := (ad, n, cap) }) HSb.out.rs)
    refine bodyPost_ret (results_cell1 Tryz.results22 _ _ (w.heap.size + 1) _ _ _ _ rfl HF.out Tryz.underlying77 rfl (by kernel_rfl)) rfl ?_
    have hfb : Below w.heap.size w (W5.setRow (w.heap.size + 1) (ansCs { ans0 with trail := (ad, n, cap) })) := HBb.out.trans ⟨rfl, rfl, rfl, by simp, fun k hk => setRow_other _ _ _ _ (by omega)⟩
    exact MStp.same HH.out.at' hfb (by omega) (by omega) ⟨fun k => by omega, fun k => by omega, fun k => by omega, fun k => by omega, fun k => by omega, fun _ => by rw [HP.out]; exact Or.inr ⟨ht, ad, cap, zs', by rw [HNL.out], by rw [← HNL.out]; exact RArr.mono HRA.out (fun b hb => (setRow_other _ _ _ _ (by omega)).trans (HFb.out b (by omega))) (fun b hb => by omega), fun z hz => RArr.mono (HZI.out z hz) (fun b hb => (setRow_other _ _ _ _ (by omega)).trans (HFb.out b (by omega))) (fun b hb => by omega), HMP.out⟩, fun k => by omega⟩
end Go.Proofs.Qxb6500666aGreatDoor
