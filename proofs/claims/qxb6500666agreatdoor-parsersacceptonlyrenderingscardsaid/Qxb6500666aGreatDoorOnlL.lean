/- ParsersAcceptOnlyRenderings, walked. -/
import Derived.Test.Qxb6500666aGreatDoorOnlW
import Derived.Test.Qxb6500666aGreatDoorOnlP
import Derived.Test.Qxb6500666aGreatDoorDmgB
import Derived.Test.Qxb6500666aGreatDoorDamR
import Derived.BigQuiet
import Derived.Deep.CutBlock
namespace Go.Proofs.Qxb6500666aGreatDoor
open Go.RowKit
/-- Texts in a row of their own. -/
def svC (x : SV) : Array Value := #[sv x]
theorem svC_size (x : SV) : (svC x).size = 1 := rfl
theorem svC_one (x : SV) : ∀ u ∈ (svC x).toList, u.oneCell' = true := by simp [svC, sv, Value.oneCell']
def TxK (W : World) (ok : Nat → Prop) (v : Value) : Prop := ∃ bs, BytesAt W ok v bs ∧ ByteL bs ∧ bs.length ≤ 90000000
theorem TxB.k {w w' : World} {v : Value} (h : TxB w w' v) : TxK w' (· < w'.heap.size) v := by
  obtain ⟨bs, h1, h2, h3⟩ := h
  exact ⟨bs, RArr.mono h1.lt (Same.refl _ _) (fun _ q => q.2), h2, h3⟩
theorem TxK.mono {W W' : World} {ok ok' : Nat → Prop} {v : Value} (h : TxK W ok v) (hs : Same ok W W') (hk : ∀ b, ok b → ok' b) : TxK W' ok' v := by
  obtain ⟨bs, h1, h2, h3⟩ := h
  exact ⟨bs, RArr.mono h1 hs hk, h2, h3⟩
theorem own_two {W : World} {B g : Nat} {x y : SV} (h : W.heap[g]? = some (.cells #[sv x, sv y] 55 (0, 0))) (hB : B ≤ g) : OwnR W B 55 1 svC (.slice (some ⟨g, 0, none⟩) 2 2) [x, y] :=
  ⟨rfl, Or.inr ⟨g, 2, _, rfl, hB, h, Nat.le_refl _, by decide, rfl, rfl⟩⟩
theorem run_fld9 (w : World) (r : Rsp) : (fldS 75 9 (.agg (respCs r))).run Tryz.prog w = .ok (sv r.bytes) w := by kernel_rfl
theorem stC_ones (s : Stat) : ones (statCs s) 4 = true := rfl
theorem stC_size (s : Stat) : (statCs s).size = 4 := rfl
theorem Tryz.size55_o (w : World) : (sizeOf 55).run Tryz.prog w = .ok 1 w := by kernel_rfl
theorem Tryz.info55_o : (Tryz.prog.info? 55).map (fun i => (i.zero, i.size, i.bytes)) = some (some (.slice none 0 0), 1, 24) := by kernel_rfl
attribute [local go_sem] ext_const Ext.cell Ext.frozen Ext.rng Ext.whole
attribute [local go_sem ↓] exec_ldOpz exec_stOpz exec_ldStat exec_stStat exec_fldRsp
attribute [local go_sem] run_ldOpz run_stOpz opA_size run_ldStat run_stStat run_fld4 run_fld9 stC_ones stC_size whole_alloc_lt whole_alloc_at whole_drew setRow_alloc_at setRow_alloc_lt setRow_drew rng_alloc_lt rng_alloc_at rng_drew rng_drewN

set_option maxRecDepth 100000 in
set_option maxHeartbeats 60000000 in
theorem only_walk (w : World) (v : Value) (s : List Op) (rn kn ft : Nat → ByteArray) (okg : Nat → Prop) (h : Script w (· < w.heap.size) v s) (hgl : Gl w w.heap.size rn kn ft okg) (hng : NmG rn kn) :
    Calls Tryz.prog 11 #[v] w fun e w' => e = .returned (.bool true) ∧ Below w.heap.size w w' := by
  have HSm := hide (small_calls w _ v s h)
  have HGL := hide (fun W (hb : Below w.heap.size w W) => hgl.same hb (Nat.le_refl _))
  have HNG := hide hng
  have HNB := hide (newBench_calls w)
  obtain ⟨a, cap, b, off, rfl, hl, hm, hr, ha, hc⟩ := h
  obtain ⟨n, hn⟩ : ∃ n, n = s.length := ⟨_, rfl⟩
  have Hn : Hid (n = s.length) := hn
  rw [← hn] at hl hr ha HSm ⊢
  have hi := run_indexAt_arr (P := Tryz.prog) (cap := cap) Tryz.underlying22 Tryz.size61 (fun h => (ha h).1)
  have HB : Hid (0 < n → b < w.heap.size) := fun h => (ha h).2
  by_cases hsm : total s ≤ 65536
  · have HC : Hid (∀ k (h : k < s.length), ∃ lv dv ca cn cc, rng w b (off + k * 27) 27 = some (opA s[k] lv dv ca cn cc) ∧ OpIn w (· < w.heap.size) s[k] lv dv ca cn cc ∧ ones (opA s[k] lv dv ca cn cc) 27 = true ∧ ByteL s[k].data) := fun k h => by
      obtain ⟨cs, hlen, hE, hcell⟩ := hc k h
      have ht := total_le h hsm
      obtain ⟨lv, dv, ca, cn, cc, e, hO, h1⟩ := opIn_of hE ht.2.1 ht.2.2
      refine ⟨lv, dv, ca, cn, cc, ?_, hO, h1, opByte_of hE⟩
      rw [← e]
      have hl27 : cs.length = 27 := by have := congrArg Array.size e; simpa [opA] using this
      have := rng_of_cells (w := w) (b := b) (off := off + k * 27) (by omega) hcell
      rw [hl27] at this
      exact this
    have HRO : Hid (∀ k (hk : k < s.length), s[k].req.Ok ∧ ∀ x ∈ s[k].req.list, U32 x) := fun k hk => by
      obtain ⟨_, _, _, _, _, _, h1, _⟩ := HC.out k hk
      exact ⟨h1.req, h1.ids⟩
    have HIV : Hid (∀ q, q ≤ s.length → Inv q (stAt s q)) := inv_all (fun k hk => (HRO.out k hk).1)
    have hn2 : n ≤ 65536 := by have := hsm; unfold total at this; omega
    have HCI : Hid (∀ q, q ≤ n → ∃ fs rows vf lf, CI (stAt s q) fs rows vf lf ∧ fs.length ≤ q) := fun q hq => ci_all (fun k hk => (HRO.out k hk).1) (by omega) q (by omega)
    have HAI : Hid (∀ q, q ≤ n → ∃ es, AI (stAt s q).ps es ∧ es.length ≤ q) := fun q hq => ai_all HRO.out (by omega) q (by omega)
    have hd : decide (total s ≤ 65536) = true := by simpa using hsm
    rw [hd] at HSm
    clear hd hsm ha hc hn hgl HRO hng
    go_enter Tryz.func11, Tryz.ntmps11
    go_upto_region 3 with (go_at_call 18; refine HSm.out.mono ?_; rintro e w1 ⟨rfl, rfl⟩)
    go_upto_region 4 with (go_at_call 19; refine HNB.out.mono ?_; rintro e W0 ⟨rfl, hbn, hb0⟩)
    have HQ0 : Hid (BX w W0 (fun _ => False) (stAt s 0)) := BX.start hbn hb0
    clear hbn hb0 HSm HNB
    go_upto_region 5 with fail
    go_loopg [18] n (fun g j wr => ∃ q : Nat, q ≤ n ∧ g = n - q ∧ j = .int .i64 q ∧ Hid (BX w wr (fun _ => False) (stAt s q)))
    case atStart => exact ⟨0, by omega, by omega, rfl, HQ0⟩
    clear HQ0
    case round =>
      obtain ⟨q, hq, rfl, rfl, HQ⟩ := hrel
      by_cases hlt : q < n
      · have hqs : q < s.length := by rw [← Hn.out]; exact hlt
        have hbb := HB.out (by omega)
        obtain ⟨lv, dv, ca, cn, cc, hcl, hO, hones, hby⟩ := HC.out q hqs
        have HIQ := hide (HIV.out q (by omega))
        have HIS := hide (HIV.out (q + 1) (by omega))
        obtain ⟨fs, rows, vf, lf, hci, hfl⟩ := HCI.out (q + 1) (by omega)
        obtain ⟨es, hai, hel⟩ := HAI.out (q + 1) (by omega)
        have HSQ := hide (stAt_succ hqs)
        rw [HSQ.out] at HIS hci hai
        have HFI := hide hci.fi
        have HCL := hide hci.cl
        have HAE := hide hai
        have hfl2 : fs.length ≤ 65536 := by omega
        have hel2 : es.length ≤ 65536 := by omega
        generalize s[q] = p at *
        have hcells : rng wr b (off + q * 27) 27 = some (opA p lv dv ca cn cc) := by rw [rng_of_block (HQ.out.blw.block _ hbb)]; exact hcl
        have hbw : b < wr.heap.size := by have := HQ.out.blw.size; omega
        have HOI := hide hO
        have HBY := hide hby
        clear hO hcl hby hci hai hfl hel
        go_upto_region 7 with fail
        have HQ1 : Hid (BX w (wr.alloc (.cells (opA p lv dv ca cn cc) 61)) (fun g => g = wr.heap.size) (stAt s q)) := HQ.out.more ((Below.refl _ _).alloc (Nat.le_refl _) _) (fun g q => by
          subst q
          exact Or.inr ⟨Nat.le_refl _, by simp⟩)
        have hk1 : (wr.alloc (.cells (opA p lv dv ca cn cc) 61)).heap[wr.heap.size]? = some (.cells (opA p lv dv ca cn cc) 61 (0, 0)) := heap_alloc_at _ _
        generalize wr.alloc (.cells (opA p lv dv ca cn cc) 61) = U1 at *
        generalize wr.heap.size = D at *
        generalize stAt s q = t at *
        have hr1 : rng U1 D 0 27 = some (opA p lv dv ca cn cc) := rng_whole hk1
        have HK1 := hide hk1
        have HST := hide (HQ1.out.step (HIQ.out.po (by omega)) (HOI.out.below HQ1.out.blw) (HGL.out _ HQ1.out.blw) ⟨HIQ.out.off.1, by have := HIQ.out.off.2; omega⟩)
        clear hk1 hcells hbw HQ
        go_upto_region 8 with (go_at_call 21; refine HST.out.mono ?_; rintro e U2 ⟨ans, rfl, hq2, hf2, ha2⟩; have HQ2 := hide hq2; have HF2 := hide hf2; clear hq2 hf2 ha2)
        clear hr1 HST HIQ
        have HK2 : Hid (U2.heap[D]? = some (.cells (opA p lv dv ca cn cc) 61 (0, 0))) := (HF2.out D rfl).trans HK1.out
        have HPO := hide (HIS.out.po (by omega))
        generalize stepR t p = t2 at *
        clear HF2 HK1 HQ1 HIS
        have HW2 := hide HQ2.out.blw
        have HON : Hid (∀ (W : World) (ok : Nat → Prop) (v : Value) (bs : List Int), Below w.heap.size w W → BytesAt W ok v bs → ByteL bs → bs.length ≤ 100000000 → Calls Tryz.prog 50 #[v] W fun e w' => e = .returned (.bool true) ∧ Below W.heap.size W w') := fun W ok v bs h1 h2 h3 h4 => only_calls W ok rn kn ft v bs h2 h3 h4 (HGL.out W h1).nm HNG.out
        have HDA : Hid (∀ W : World, Below w.heap.size w W → BytesAt W (· < w.heap.size) dv p.data) := fun W hW => RArr.below HOI.out.data hW
        go_cut [28] (fun v W => v = .bool false ∧ Hid (Below U2.heap.size U2 W))
        case first =>
          as_aux_lemma =>
            have c21 : U2.cell? ⟨D, 21, none⟩ = some dv := cells_all HK2.out 21
            have zD := blk_lt HK2.out
            go_wp2_with (go_at_call 50; refine (HON.out U2 _ dv p.data HW2.out (HDA.out U2 HW2.out) HBY.out (by have := HOI.out.ld; omega)).mono ?_; rintro e U3 ⟨rfl, hb3⟩)
            go_meet
            case rel => exact ⟨rfl, hb3⟩
        case rest =>
        obtain ⟨rfl, HB3⟩ := hcut
        have HQ3 := hide (HQ2.out.below HB3.out)
        have HK3 := hide ((HB3.out.block _ (blk_lt HK2.out)).trans HK2.out)
        clear HQ2 HK2 HB3 HW2
        generalize wc = U3 at *
        have HW3 := hide HQ3.out.blw
        go_upto_region 10 with fail
        obtain ⟨tn, htn⟩ : ∃ tn : Bool, tn = ((p.kind != 5) && (p.kind != 7)) := ⟨_, rfl⟩
        have HTN := hide htn
        clear htn
        go_cut [36] (fun v W => v = .bool tn ∧ U3 = W)
        case first =>
          as_aux_lemma =>
            have c0 : U3.cell? ⟨D, 0, none⟩ = some (.int .u8 p.kind) := cells_all HK3.out 0
            have zD := blk_lt HK3.out
            cases h5 : (p.kind != 5) with
            | false =>
              obtain rfl : tn = false := HTN.out.trans (by rw [h5]; rfl)
              go_wp2
              go_meet
              case rel => exact ⟨rfl, rfl⟩
            | true =>
              cases h7 : (p.kind != 7) with
              | false =>
                obtain rfl : tn = false := HTN.out.trans (by rw [h5, h7]; rfl)
                go_wp2
                go_meet
                case rel => exact ⟨rfl, rfl⟩
              | true =>
                obtain rfl : tn = true := HTN.out.trans (by rw [h5, h7]; rfl)
                go_wp2
                go_meet
                case rel => exact ⟨rfl, rfl⟩
        case rest =>
        obtain ⟨rfl, rfl⟩ := hcut
        clear HTN
        cases tn with
        | true =>
          as_aux_lemma =>
          go_wp2
          go_roundg (n - (q + 1))
          case measure => omega
          case rel => exact ⟨q + 1, by omega, rfl, by go_num, by show BX _ _ _ _; rw [HSQ.out]; exact HQ3.out.more (Below.refl _ _) (fun g q => q.elim)⟩
        | false =>
        go_upto_region 11 with fail
        go_cut [6] (fun pv W => ∃ T st, pv = .pointer (some ⟨T, 0, none⟩) ∧ Hid (st.lastCum = cumOf fs) ∧ Hid (W.heap[T]? = some (.cells (statCs st) 65 (0, 0))) ∧ Hid (Below U3.heap.size U3 W))
        case first =>
          as_aux_lemma =>
            have HK22 := hide (HQ3.out.askB HPO.out (HGL.out _ HW3.out) 22 0 0 rfl u32z u32z)
            go_wp2_with (go_at_call 27; refine HK22.out.mono ?_; rintro e U4 ⟨rsp, rfl, hb4, hp4⟩; have HB4 := hide hb4; have HP4 := hide hp4; clear hb4 hp4)
            go_meet
            case rel => exact ⟨U4.heap.size, rsp.st, rfl, (ask_trans HP4.out HFI.out).2, heap_alloc_at _ _, HB4.out.alloc HB4.out.size _⟩
        case rest =>
        obtain ⟨T, st, rfl, HST, HKT, HB4⟩ := hcut
        have HQ4 := hide (HQ3.out.below HB4.out)
        have HK4 := hide ((HB4.out.block _ (blk_lt HK3.out)).trans HK3.out)
        clear HQ3 HK3 HW3 HB4
        generalize wc = U4 at *
        have HW4 := hide HQ4.out.blw
        obtain ⟨m, hm⟩ : ∃ m : Nat, cumOf fs = m := ⟨(cumOf fs).toNat, by have := (cumOf_bound fs (fun i h => (HFI.out.seq i h).1)).1; omega⟩
        have hml : m ≤ fs.length := by have := (cumOf_bound fs (fun i h => (HFI.out.seq i h).1)).2; omega
        have HSM : Hid (st.lastCum = (m : Int)) := HST.out.trans hm
        have HFRr : Hid (∀ f ∈ file0 :: fs, FR f) := fun f hf => by
          rcases List.mem_cons.1 hf with rfl | hf
          · exact FR.zero
          · obtain ⟨k, hk, rfl⟩ := List.getElem_of_mem hf
            exact FR.of HFI.out hk
        clear hm HST
        go_upto_region 12 with fail
        go_cut [7] (fun tv W => ∃ TB x1 x2, tv = .slice (some ⟨TB, 0, none⟩) 2 2 ∧ Hid (W.heap[TB]? = some (.cells #[sv x1, sv x2] 55 (0, 0))) ∧ Hid (U4.heap.size ≤ TB) ∧ Hid (TxK W (· < TB) (sv x1)) ∧ Hid (TxK W (· < TB) (sv x2)) ∧ Hid (Below U4.heap.size U4 W))
        case first =>
          as_aux_lemma =>
            have cT : U4.cell? ⟨T, 2, none⟩ = some (.int .u32 (m : Int)) := by rw [← HSM.out]; exact cells_all HKT.out 2
            have zT := blk_lt HKT.out
            have HR := hide (HGL.out _ HW4.out).nm
            refine wp_region_mixT (U4.heap.size) [5] (by kernel_rfl) ?_
            refine mixT_slots [0, 3, 4] (fuel := 7) rfl (by kernel_rfl) (by kernel_rfl) (fun d _ _ _ _ h => by cases d <;> exact h) ?_
            simp only [opersAt, List.getElem?_toArray, List.getElem?_cons_zero, List.getElem?_cons_succ]
            repeat (go_big_quiet_step (fail))
            refine wpQuiet_nil ?_
            refine mixT_reads [5] (fuel := 6) rfl (by kernel_rfl) (by decide) (by kernel_rfl) (fun d _ _ _ _ h => by cases d <;> exact h) (ext_drew _ _) ?_
            simp only [opersAt, List.getElem?_toArray, List.getElem?_cons_zero, List.getElem?_cons_succ]
            repeat (go_big_quiet_step (fail))
            refine wpQuiet_nil ?_
            refine mixT_one (k := 1) (by kernel_rfl) rfl ?_
            go_wp2_with (go_at_call 27; refine (((HQ4.out.below ((Below.refl _ _).drew)).askB HPO.out (HGL.out _ (HW4.out.trans ((Below.refl _ _).drew.mono HW4.out.size))) 30 0 0 rfl u32z u32z)).mono ?_; rintro e V1 ⟨r1, rfl, hb1, hp1⟩)
            have HC1 : Hid (Below U4.heap.size U4 V1) := ((Below.refl U4.heap.size U4).drew).trans (hb1.mono ((Below.refl U4.heap.size U4).drew).size)
            have HX1 : Hid (TxK V1 (· < V1.heap.size) (sv r1.bytes)) := (ask_trailB hp1 HR.out.rs HR.out.ks HAE.out hel2 HPO.out.pk).k
            refine ⟨Or.inr (by intros; exact ⟨⟨_, HC1.out⟩, rfl⟩), ?_⟩
            clear hb1 hp1
            refine mixT_slots [2] (fuel := 4) rfl (by kernel_rfl) (by kernel_rfl) (fun d _ _ _ _ h => by cases d <;> exact h) ?_
            simp only [opersAt, List.getElem?_toArray, List.getElem?_cons_zero, List.getElem?_cons_succ]
            repeat (go_big_quiet_step (fail))
            refine wpQuiet_nil ?_
            refine mixT_one (k := 6) (by kernel_rfl) rfl ?_
            go_wp2_with (go_at_call 27; refine (((HQ4.out.below HC1.out).askB HPO.out (HGL.out _ (HW4.out.trans (HC1.out.mono HW4.out.size))) 28 0 m rfl u32z ⟨by omega, by omega⟩)).mono ?_; rintro e V2 ⟨r2, rfl, hb2, hp2⟩)
            have HC2 : Hid (Below U4.heap.size U4 V2) := HC1.out.trans (hb2.mono HC1.out.size)
            have HX2 : Hid (TxK V2 (· < V2.heap.size) (sv r2.bytes)) := (ask_repB hp2 HFI.out hfl2 hml HFRr.out HCL.out).k
            have HX1' : Hid (TxK V2 (· < V2.heap.size) (sv r1.bytes)) := HX1.out.mono (fun b hb => hb2.block b hb) (fun b hb => by have h1 : b < V1.heap.size := hb; have := hb2.size; show b < V2.heap.size; omega)
            refine ⟨Or.inr (by intros; exact ⟨⟨_, HC2.out⟩, rfl⟩), ?_⟩
            clear hb2 hp2 HX1
            refine mixT_slots [7] (fuel := 2) rfl (by kernel_rfl) (by kernel_rfl) (fun d _ _ _ _ h => by cases d <;> exact h) ?_
            simp only [opersAt, List.getElem?_toArray, List.getElem?_cons_zero, List.getElem?_cons_succ]
            repeat (go_big_quiet_step (fail))
            refine wpQuiet_nil ?_
            generalize r1.bytes = y1 at *
            generalize r2.bytes = y2 at *
            obtain ⟨ya, yn, yc⟩ := y1
            obtain ⟨za, zn, zc⟩ := y2
            simp only [sv] at HX1' HX2 ⊢
            refine mixT_one (k := 8) (by kernel_rfl) rfl ?_
            go_wp2
            have HC3 : Hid (Below U4.heap.size U4 (V2.alloc (.cells #[.slice ya yn yc, .slice za zn zc] 55))) := HC2.out.alloc HC2.out.size _
            refine ⟨Or.inr (by intros; exact ⟨⟨_, HC3.out⟩, rfl⟩), ?_⟩
            refine mixT_slots [9] (fuel := 0) rfl (by kernel_rfl) (by kernel_rfl) (fun d _ _ _ _ h => by cases d <;> exact h) ?_
            simp only [opersAt, List.getElem?_toArray, List.getElem?_cons_zero, List.getElem?_cons_succ]
            repeat (go_big_quiet_step (fail))
            refine wpQuiet_nil ?_
            refine mixT_nil (by kernel_rfl) ?_
            go_wp2
            go_meet
            case rel =>
              have ha : Same (· < V2.heap.size) V2 (V2.alloc (.cells #[.slice ya yn yc, .slice za zn zc] 55)) := fun b hb => ((Below.refl V2.heap.size V2).alloc (Nat.le_refl _) _).block b hb
              exact ⟨V2.heap.size, (ya, yn, yc), (za, zn, zc), rfl, heap_alloc_at _ _, HC2.out.size, HX1'.out.mono ha (fun _ h => h), HX2.out.mono ha (fun _ h => h), HC3⟩
        case rest =>
        obtain ⟨TB, x1, x2, rfl, HKB, HLB, HX1, HX2, HB5⟩ := hcut
        have hDT : D < TB := by have := blk_lt HK4.out; have := HLB.out; omega
        have hwT : w.heap.size ≤ TB := by have := HW4.out.size; have := HLB.out; omega
        have HQ5 : Hid (BX w wc (fun g => g = D ∨ g = TB) t2) := HQ4.out.more HB5.out (fun g h => h.elim Or.inl (fun e => Or.inr (by subst e; exact ⟨HLB.out, blk_lt HKB.out⟩)))
        have HK5 := hide ((HB5.out.block _ (blk_lt HK4.out)).trans HK4.out)
        clear HQ4 HK4 HW4 HB5 HKT HSM HFRr
        generalize wc = U5 at *
        have HW5 := hide HQ5.out.blw
        have zB := blk_lt HKB.out
        have HFX := hide (fileB_tx HFI.out hfl2 HCL.out HOI.out.seq)
        go_upto_region 13 with fail
        go_cut [8, 9] (fun fv ev W => ∃ (t3 : Bool) (x3 : SV), fv = sv x3 ∧ ((t3 = true ∧ ev = .nilIface ∧ Hid (TxK W (fun k => U5.heap.size ≤ k) (sv x3))) ∨ (t3 = false ∧ ∃ c, ev = .iface 63 (.int .u8 c))) ∧ Hid (Below U5.heap.size U5 W))
        case first =>
          as_aux_lemma =>
            obtain ⟨Y, hbn, hfile⟩ := HQ5.out.fileB HPO.out HOI.out.seq
            have cb : U5.cell? ⟨w.heap.size + 2, 2, none⟩ = some (.pointer (some ⟨Y, 0, none⟩)) := cells_all hbn 2
            have zb := blk_lt hbn
            have cD : U5.cell? ⟨D, 18, none⟩ = some (.int .u32 p.seq) := cells_all HK5.out 18
            have zD := blk_lt HK5.out
            clear hbn
            rcases HFX.out with ⟨c, hf⟩ | ⟨tx, hf, hfb, hft⟩
            · have HFL : Hid (∀ W', Below U5.heap.size U5 W' → Calls Tryz.prog 32 #[.pointer (some ⟨Y, 0, none⟩), .int .u32 p.seq] W' fun e w' => e = .returned (.tuple #[.slice none 0 0, .iface 63 (.int .u8 c)]) ∧ Below W'.heap.size W' w') := fun W' hW => by
                have := hfile W' hW
                rw [hf] at this
                exact this
              clear hfile hf
              refine wp_region_mixT (U5.heap.size) [3, 5] (by kernel_rfl) ?_
              refine mixT_slots [0, 1, 2, 4] (fuel := 8) rfl (by kernel_rfl) (by kernel_rfl) (fun d _ _ _ _ h => by cases d <;> exact h) ?_
              simp only [opersAt, List.getElem?_toArray, List.getElem?_cons_zero, List.getElem?_cons_succ]
              repeat (go_big_quiet_step (fail))
              refine wpQuiet_nil ?_
              refine mixT_reads [3, 5] (fuel := 6) rfl (by kernel_rfl) (by decide) (by kernel_rfl) (fun d _ _ _ _ h => by cases d <;> exact h) (ext_drew _ _) ?_
              simp only [opersAt, List.getElem?_toArray, List.getElem?_cons_zero, List.getElem?_cons_succ]
              repeat (go_big_quiet_step (fail))
              refine wpQuiet_nil ?_
              refine mixT_one (k := 6) (by kernel_rfl) rfl ?_
              go_wp2_with (go_at_call 32; refine (HFL.out U5.drew ((Below.refl _ _).drew)).mono ?_; rintro e V1 ⟨rfl, hb1⟩)
              have HC1 : Hid (Below U5.heap.size U5 V1) := ((Below.refl U5.heap.size U5).drew).trans (hb1.mono ((Below.refl U5.heap.size U5).drew).size)
              refine ⟨Or.inr (by intros; exact ⟨⟨_, HC1.out⟩, rfl⟩), ?_⟩
              clear hb1
              refine mixT_slots [7, 8, 9, 10, 11] (fuel := 0) rfl (by kernel_rfl) (by kernel_rfl) (fun d _ _ _ _ h => by cases d <;> exact h) ?_
              simp only [opersAt, List.getElem?_toArray, List.getElem?_cons_zero, List.getElem?_cons_succ]
              repeat (go_big_quiet_step (fail))
              refine wpQuiet_nil ?_
              refine mixT_nil (by kernel_rfl) ?_
              go_wp2
              go_meet
              case rel => exact ⟨false, (none, 0, 0), rfl, Or.inr ⟨rfl, c, rfl⟩, HC1⟩
            · have HFL : Hid (∀ W', Below U5.heap.size U5 W' → Calls Tryz.prog 32 #[.pointer (some ⟨Y, 0, none⟩), .int .u32 p.seq] W' fun e w' => ∃ (x3 : SV), e = .returned (.tuple #[sv x3, .nilIface]) ∧ Hid (BytesAt w' (W'.heap.size ≤ ·) (sv x3) tx) ∧ Below W'.heap.size W' w') := fun W' hW => by
                have := hfile W' hW
                rw [hf] at this
                refine this.mono ?_
                rintro e w' ⟨v, rfl, ho, hb⟩
                obtain ⟨a3, c3, hv⟩ := ho.form
                subst hv
                exact ⟨(a3, tx.length, c3), rfl, ho.rows byteCs_size (by decide) (by omega), hb⟩
              have HTB : Hid (ByteL tx ∧ tx.length ≤ 90000000) := ⟨hfb, hft⟩
              clear hfile hf hfb hft
              refine wp_region_mixT (U5.heap.size) [3, 5] (by kernel_rfl) ?_
              refine mixT_slots [0, 1, 2, 4] (fuel := 8) rfl (by kernel_rfl) (by kernel_rfl) (fun d _ _ _ _ h => by cases d <;> exact h) ?_
              simp only [opersAt, List.getElem?_toArray, List.getElem?_cons_zero, List.getElem?_cons_succ]
              repeat (go_big_quiet_step (fail))
              refine wpQuiet_nil ?_
              refine mixT_reads [3, 5] (fuel := 6) rfl (by kernel_rfl) (by decide) (by kernel_rfl) (fun d _ _ _ _ h => by cases d <;> exact h) (ext_drew _ _) ?_
              simp only [opersAt, List.getElem?_toArray, List.getElem?_cons_zero, List.getElem?_cons_succ]
              repeat (go_big_quiet_step (fail))
              refine wpQuiet_nil ?_
              refine mixT_one (k := 6) (by kernel_rfl) rfl ?_
              go_wp2_with (go_at_call 32; refine (HFL.out U5.drew ((Below.refl _ _).drew)).mono ?_; rintro e V1 ⟨⟨a3, n3, c3⟩, rfl, HT3, hb1⟩; simp only [sv])
              have HC1 : Hid (Below U5.heap.size U5 V1) := ((Below.refl U5.heap.size U5).drew).trans (hb1.mono ((Below.refl U5.heap.size U5).drew).size)
              refine ⟨Or.inr (by intros; exact ⟨⟨_, HC1.out⟩, rfl⟩), ?_⟩
              clear hb1
              refine mixT_slots [7, 8, 9, 10, 11] (fuel := 0) rfl (by kernel_rfl) (by kernel_rfl) (fun d _ _ _ _ h => by cases d <;> exact h) ?_
              simp only [opersAt, List.getElem?_toArray, List.getElem?_cons_zero, List.getElem?_cons_succ]
              repeat (go_big_quiet_step (fail))
              refine wpQuiet_nil ?_
              refine mixT_nil (by kernel_rfl) ?_
              go_wp2
              go_meet
              case rel => exact ⟨true, (a3, n3, c3), rfl, Or.inl ⟨rfl, rfl, ⟨tx, HT3.out, HTB.out.1, HTB.out.2⟩⟩, HC1⟩
        case rest =>
        obtain ⟨t3, x3, rfl, HE3, HB6⟩ := hcut
        have HQ6 := hide (HQ5.out.below HB6.out)
        have HK6 := hide ((HB6.out.block _ (blk_lt HK5.out)).trans HK5.out)
        have HKB6 := hide ((HB6.out.block _ zB).trans HKB.out)
        have HY1 : Hid (TxK wc (· < TB) (sv x1)) := HX1.out.mono (fun b hb => HB6.out.block b (by have h1 : b < TB := hb; omega)) (fun _ h => h)
        have HY2 : Hid (TxK wc (· < TB) (sv x2)) := HX2.out.mono (fun b hb => HB6.out.block b (by have h1 : b < TB := hb; omega)) (fun _ h => h)
        have hz6 := HB6.out.size
        clear HQ5 HK5 HKB HX1 HX2 HW5 HB6
        have HU5 : Hid (TB < U5.heap.size) := zB
        generalize U5.heap.size = M5 at *
        generalize wc = U6 at *
        go_upto_region 14 with fail
        go_cut [60] (fun v W => v = .bool t3 ∧ U6 = W)
        case first =>
          as_aux_lemma =>
            rcases HE3 with ⟨rfl, rfl, -⟩ | ⟨rfl, c, rfl⟩
            · go_wp2
              go_meet
              case rel => exact ⟨rfl, rfl⟩
            · go_wp2
              go_meet
              case rel => exact ⟨rfl, rfl⟩
        case rest =>
        obtain ⟨rfl, rfl⟩ := hcut
        go_upto_if 60 with fail
        go_cut [7] (fun tv W => ∃ (a7 : Option Addr) (c7 : Nat) (zl : List SV), tv = .slice a7 zl.length c7 ∧ zl.length ≤ 3 ∧ Hid (OwnR W w.heap.size 55 1 svC (.slice a7 zl.length c7) zl) ∧ Hid (∀ z ∈ zl, TxK W (fun _ => True) (sv z)) ∧ Hid (BX w W (fun g => g = D ∨ g = TB) t2) ∧ Hid (W.heap[D]? = some (.cells (opA p lv dv ca cn cc) 61 (0, 0))))
        case first =>
          as_aux_lemma =>
            rcases HE3 with ⟨rfl, rfl, HT3⟩ | ⟨rfl, c, rfl⟩
            · have HO6 := hide (own_two HKB6.out hwT)
              have hw6 : w.heap.size ≤ U6.heap.size := HQ6.out.blw.size
              obtain ⟨a3, n3, c3⟩ := x3
              simp only [sv] at HT3 ⊢
              go_wp2_with (at_builtin; refine wpList_app1 (α := SV) rfl _ _ 144 rfl w.heap.size 55 svC Tryz.underlying144 Tryz.info55_o rfl (by decide) svC_size svC_one _ [x1, x2] rfl (OwnR.below HO6.out ((Below.refl _ _).alloc (Nat.le_refl _) _) (Nat.le_refl _)) _ rfl (a3, n3, c3) (rng_whole (heap_alloc_at _ _)) (by simp) (by simp; unfold maxLen; omega) (by simp only [World.size_alloc]; omega) ?_; intro v1 w1 hown1 hsame1 hbel1 hat1X; obtain ⟨a1, cap1, hv1⟩ := hown1.form; subst hv1)
              go_meet
              case rel =>
                have hsm : ∀ k, k < U6.heap.size → k ≠ TB → w1.heap[k]? = U6.heap[k]? := fun k h1 h2 => (hsame1 k ⟨by simp only [World.size_alloc]; omega, fun e => h2 (Option.some.inj e).symm⟩).trans (((Below.refl U6.heap.size U6).alloc (Nat.le_refl _) _).block k h1)
                have hbw : Below w.heap.size w w1 := (HQ6.out.blw.alloc hw6 _).trans hbel1
                have hzw : U6.heap.size ≤ w1.heap.size := by have := hbel1.size; simp only [World.size_alloc] at this; omega
                have zB6 := blk_lt HKB6.out
                refine ⟨a1, cap1, [x1, x2] ++ [(a3, n3, c3)], rfl, by simp, hown1, fun z hz => ?_, HQ6.out.mine (fun b h1 h2 => hsm b h1 (fun e => h2 (Or.inr e))) hzw hbw, (hsm D (blk_lt HK6.out) (by omega)).trans HK6.out⟩
                have k1 : TxK w1 (fun _ => True) (sv x1) := HY1.out.mono (fun b hb => hsm b (by have h1 : b < TB := hb; omega) (by have h1 : b < TB := hb; omega)) (fun _ _ => trivial)
                have k2 : TxK w1 (fun _ => True) (sv x2) := HY2.out.mono (fun b hb => hsm b (by have h1 : b < TB := hb; omega) (by have h1 : b < TB := hb; omega)) (fun _ _ => trivial)
                have k3 : TxK w1 (fun _ => True) (sv (a3, n3, c3)) := by
                  obtain ⟨bs, q1, q2, q3⟩ := HT3.out
                  exact ⟨bs, RArr.mono q1.lt (fun b hb => hsm b hb.2 (by have h1 : M5 ≤ b := hb.1; have := HU5.out; omega)) (fun _ _ => trivial), q2, q3⟩
                simp only [List.cons_append, List.nil_append, List.mem_cons, List.not_mem_nil, or_false] at hz
                rcases hz with rfl | rfl | rfl
                · exact k1
                · exact k2
                · exact k3
            · go_wp2
              go_meet
              case rel =>
                refine ⟨some ⟨TB, 0, none⟩, 2, [x1, x2], rfl, by simp, own_two HKB6.out hwT, fun z hz => ?_, HQ6, HK6⟩
                simp only [List.mem_cons, List.not_mem_nil, or_false] at hz
                rcases hz with rfl | rfl
                · exact HY1.out.mono (Same.refl _ _) (fun _ _ => trivial)
                · exact HY2.out.mono (Same.refl _ _) (fun _ _ => trivial)
        case rest =>
        obtain ⟨a7, c7, zl, rfl, hz3, HO7, HTX, HQ7, HK7⟩ := hcut
        clear HQ6 HK6 HKB6 HY1 HY2 HE3
        generalize wc = U7 at *
        obtain ⟨ra, rc, rb, ro, re, rl1, rl2, rl3, rha, rhc⟩ := RArr.lt (HO7.out.rows svC_size (by decide) (by omega))
        injection re with re1 re2 re3
        subst re1
        subst re3
        have hif := run_indexAt_arr (P := Tryz.prog) (n := zl.length) (cap := c7) Tryz.underlying144 Tryz.size55_o (fun h => (rha h).1)
        have HRB : Hid (0 < zl.length → rb < U7.heap.size) := fun h => (rha h).2.2
        have HRC := hide rhc
        obtain ⟨m7, hm7⟩ : ∃ m7, m7 = zl.length := ⟨_, rfl⟩
        rw [← hm7] at hif hz3 ⊢
        have HM7 := hide hm7
        have HW7 := hide HQ7.out.blw
        have zD := blk_lt HK7.out
        have HB70 := hide (Below.refl U7.heap.size U7)
        clear re2 rl1 rl2 rl3 rha rhc hm7
        go_upto_region 17 with fail
        go_loopg [67] m7 (fun g j W => ∃ r : Nat, r ≤ m7 ∧ g = m7 - r ∧ j = .int .i64 r ∧ Hid (Below U7.heap.size U7 W))
        case atStart => exact ⟨0, by omega, by omega, rfl, HB70⟩
        clear HB70
        case round =>
          obtain ⟨r, hr, rfl, rfl, HBr⟩ := hrel
          have HWr : Hid (Below w.heap.size w wr) := HW7.out.trans (HBr.out.mono HW7.out.size)
          by_cases hltr : r < m7
          · as_aux_lemma =>
            have hrs : r < zl.length := by rw [← HM7.out]; exact hltr
            have hrbb := HRB.out (by omega)
            have hcr : wr.cell? ⟨rb, ro + r, none⟩ = some (sv zl[r]) := by
              have h1 := (rng_cell (HRC.out r hrs)).2 0 (by decide)
              rw [Nat.mul_one, Nat.add_zero] at h1
              rw [HBr.out.cell (p := ⟨rb, ro + r, none⟩) hrbb]
              exact h1
            have hrbw : rb < wr.heap.size := by have := HBr.out.size; omega
            obtain ⟨bs, hb1, hb2, hb3⟩ := HTX.out _ (List.getElem_mem hrs)
            generalize zl[r] = z at *
            have HBS : Hid (∀ W, Below U7.heap.size U7 W → BytesAt W (fun k => True ∧ k < U7.heap.size) (sv z) bs) := fun W hW => RArr.mono hb1.lt (fun b q => hW.block b q.2) (fun _ q => q)
            have HB2 := hide hb2
            have HB3 := hide hb3
            have k3 : wr.cell? ⟨D, 19, none⟩ = some (.int .u8 p.mode) := (HBr.out.cell (p := ⟨D, 19, none⟩) zD).trans (cells_all HK7.out 19)
            clear hb1 hb2 hb3
            obtain ⟨za, zn, zc⟩ := z
            simp only [sv] at hcr HBS
            have HCD : Hid (∀ W, Below U7.heap.size U7 W → W.cell? ⟨D, 19, none⟩ = some (.int .u8 p.mode) ∧ W.cell? ⟨D, 20, none⟩ = some (.int .u64 p.num) ∧ W.cell? ⟨D, 21, none⟩ = some dv ∧ D < W.heap.size) := fun W hW => ⟨(hW.cell (p := ⟨D, 19, none⟩) zD).trans (cells_all HK7.out 19), (hW.cell (p := ⟨D, 20, none⟩) zD).trans (cells_all HK7.out 20), (hW.cell (p := ⟨D, 21, none⟩) zD).trans (cells_all HK7.out 21), Nat.lt_of_lt_of_le zD hW.size⟩
            clear k3
            go_wp2_with (first
              | (go_at_call 51; refine (damage_b V1 _ _ _ dv bs p.data p.mode p.num (HBS.out V1 HV1.out) (HDA.out V1 (HW7.out.trans (HV1.out.mono HW7.out.size))) HOI.out.mode HOI.out.num (by have := HB3.out; omega) (by have := HOI.out.ld; omega)).mono ?_; rintro e V2 ⟨v2, bs2, rfl, hx1, hx2, hx3, hx4⟩; have HX1 := hide hx1; have HX2 := hide hx2; have HX3 := hide (hx3 HB2.out HBY.out); have HV2 : Hid (Below U7.heap.size U7 V2) := HV1.out.trans (hx4.mono HV1.out.size); clear hx1 hx2 hx3 hx4)
              | (go_at_call 50; have hq := HX1.out; refine (HON.out V2 _ v2 bs2 (HW7.out.trans (HV2.out.mono HW7.out.size)) hq HX3.out (by have := HX2.out; have := HB3.out; have := HOI.out.ld; omega)).mono ?_; rintro e V3 ⟨rfl, hv3⟩; have HV3 : Hid (Below U7.heap.size U7 V3) := HV2.out.trans (hv3.mono HV2.out.size); clear hv3 hq)
              | (go_at_call 50; refine (HON.out wr _ _ bs HWr.out (HBS.out wr HBr.out) HB2.out (by have := HB3.out; omega)).mono ?_; rintro e V1 ⟨rfl, hv1⟩; have HV1 : Hid (Below U7.heap.size U7 V1) := HBr.out.trans (hv1.mono HBr.out.size); obtain ⟨e19, e20, e21, eD⟩ := HCD.out V1 HV1.out; clear hv1))
            go_roundg (m7 - (r + 1))
            case measure => omega
            case rel => exact ⟨r + 1, by omega, rfl, by go_num, HV3⟩
          · obtain rfl : r = m7 := by omega
            go_wp2
            go_roundg (n - (q + 1))
            case measure => omega
            case rel => exact ⟨q + 1, by omega, rfl, by go_num, by show BX _ _ _ _; rw [HSQ.out]; exact HQ7.out.more HBr.out (fun g q => q.elim)⟩
      · obtain rfl : q = n := by omega
        have HBF := hide HQ.out.blw
        go_wp2
        go_ret
        exact ⟨rfl, HBF.out⟩
  · have hd : decide (total s ≤ 65536) = false := by simpa using hsm
    rw [hd] at HSm
    clear hd hsm ha hc hn hgl HNB hng
    go_enter Tryz.func11, Tryz.ntmps11
    go_wp2_with (go_at_call 18; refine HSm.out.mono ?_; rintro e w1 ⟨rfl, rfl⟩)
    go_ret
    exact ⟨rfl, Below.refl _ _⟩
end Go.Proofs.Qxb6500666aGreatDoor
