/- definePanel of the model, walked. -/
import Derived.Test.Qxb6500665aDoorModEnr
namespace Go.Proofs.Qxb6500665aDoor
open Go.RowKit Go.Proofs.Qxb6500665aDoor.Cal

def mPan (T : Tab) (full : Bool) (id : Int) (ids : List Int) : Int :=
  if id = 0 then 2 else if listErr ids 8 ≠ 0 then listErr ids 8 else if (T.pan id).isSome then 9 else if ids.all (fun x => (T.an x).isSome) then (if full then 21 else 0) else 14
def mPanT (T : Tab) (full : Bool) (id : Int) (ids : List Int) : Tab := if mPan T full id ids = 0 then { T with pan := upd T.pan id (some ids) } else T

def PanPost (w w' : World) (e : Ending) (M base N a p s u : Nat) (v : Value) (C : Nat → Prop) (full : Bool) (k : Int) (T' : Tab) : Prop :=
  e = .returned (.int .u8 k) ∧ ∃ C', MCmd w w' M base N a p s u v v C C' T' full
theorem ret_pan {w w' : World} {e : Ending} {M base N a p s u : Nat} {v : Value} {C : Nat → Prop} {full : Bool} {k k' : Int} {T' T'' : Tab} (h : Hid (k = k' ∧ T' = T'')) (hp : PanPost w w' e M base N a p s u v C full k' T'') : PanPost w w' e M base N a p s u v C full k T' := by
  rw [h.out.1, h.out.2]; exact hp

theorem Tryd.mapPan : Tryd.prog.underlying 65 = some (.map 29 31) := by kernel_rfl
theorem Tryd.zeroPan (w : World) : (zeroValue 31).run Tryd.prog w = .ok (.slice none 0 0) w := by kernel_rfl

theorem pan_form {w : World} {M base N a p s u : Nat} {v : Value} {C : Nat → Prop} {T : Tab} {full : Bool} (h : MAt w M base N a p s u v C T full) {id : Int} (hid : U32 id) :
    ∃ (pa : Option Addr) (pn pc : Nat), (∀ W, Below w.heap.size w W → (Instr.lookup 65 (.map (some p)) (.int .u32 id) true).run Tryd.prog W = .ok (.tuple #[.slice pa pn pc, .bool (T.pan id).isSome]) W ∧ (Instr.lookup 65 (.map (some p)) (.int .u32 id) false).run Tryd.prog W = .ok (.slice pa pn pc) W) ∧ U32sAt w C (.slice pa pn pc) ((T.pan id).getD []) := by
  obtain ⟨pf, h1, h2⟩ := h.pan
  have key : ∀ W, Below w.heap.size w W → (Instr.lookup 65 (.map (some p)) (.int .u32 id) true).run Tryd.prog W = .ok (.tuple #[(pf id).getD (.slice none 0 0), .bool (pf id).isSome]) W ∧ (Instr.lookup 65 (.map (some p)) (.int .u32 id) false).run Tryd.prog W = .ok ((pf id).getD (.slice none 0 0)) W := fun W hW =>
    ⟨(h1.same (hW.block p h1.lt)).look_ok Tryd.mapPan (Tryd.zeroPan W) hid, (h1.same (hW.block p h1.lt)).look Tryd.mapPan (Tryd.zeroPan W) hid⟩
  rcases h2 id hid with ⟨h3, h4⟩ | ⟨ids, pv, h3, h4, h5⟩
  · refine ⟨none, 0, 0, fun W hW => ?_, by rw [h3]; exact RArr.nil _ _ _ _⟩
    have := key W hW
    rw [h4] at this
    rw [h3]
    exact this
  · obtain ⟨pa, pc, hpv⟩ := h5.form
    refine ⟨pa, ids.length, pc, fun W hW => ?_, by rw [h3]; rw [hpv] at h5; exact h5⟩
    have := key W hW
    rw [h4, hpv] at this
    rw [h3]
    exact this

/-- A list that the call has gathered: its one block. -/
theorem own_at {W : World} {base : Nat} {v : Value} {l : List Int} (h : OwnR W base 29 1 u32Cs v l) (hl : l.length ≤ 140737488355328) (h0 : 0 < l.length) :
    ∃ g gc, v = .slice (some ⟨g, 0, none⟩) l.length gc ∧ base ≤ g ∧ g < W.heap.size ∧ U32sAt W (· = g) v l := by
  obtain ⟨a', c', b', o', e1, e2, e3, e4, e5, e6⟩ := h.rows u32Cs_size (by decide) hl
  have hb := h.block
  rcases h.2 with ⟨h1, h2⟩ | ⟨g, cap, cur, h1, h2, -⟩
  · omega
  · have e7 := e1
    rw [h1, (e5 h0).1] at e7
    injection e7 with e7 _ _
    injection e7 with e7
    injection e7 with e7 e8 _
    subst e7
    exact ⟨g, cap, h1, h2, (hb g (by rw [h1]; rfl)).2, a', c', g, o', e1, e2, e3, e4, fun h => ⟨(e5 h).1, rfl⟩, e6⟩

attribute [local go_sem ↓] exec_stAnalyte
attribute [local go_sem] run_stAnalyte whole_alloc_lt whole_alloc_at whole_drew setRow_alloc_at setRow_alloc_lt setRow_drew ext_const Ext.cell Ext.frozen Ext.rng Ext.whole

set_option maxRecDepth 100000 in
set_option maxHeartbeats 4000000 in
theorem definePanel_m (w : World) (M base N a p s u : Nat) (v : Value) (C : Nat → Prop) (T : Tab) (full : Bool) (id : Int) (ids : List Int) (la : Option Addr) (ln lc : Nat) (ok : Nat → Prop) (h : MAt w M base N a p s u v C T full) (hid : U32 id) (hl : U32sAt w ok (.slice la ln lc) ids) (hxs : ∀ x ∈ ids, U32 x) (hN : N < 1000000000) :
    Calls Tryd.prog 35 #[.pointer (some ⟨M, 0, none⟩), .int .u32 id, .slice la ln lc] w fun e w' => PanPost w w' e M base (N + 1) a p s u v C full (mPan T full id ids) (mPanT T full id ids) := by
  obtain ⟨K, hK⟩ : ∃ K, K = mPan T full id ids := ⟨_, rfl⟩
  obtain ⟨T', hT'⟩ : ∃ T', T' = mPanT T full id ids := ⟨_, rfl⟩
  rw [← hK, ← hT']
  have HK : Hid (K = mPan T full id ids ∧ T' = if K = 0 then { T with pan := upd T.pan id (some ids) } else T) := ⟨hK, by rw [hT', mPanT, hK]⟩
  clear hK hT'
  have HM := hide h
  have HNO : Hid (∀ W, Below w.heap.size w W → ∃ C', MCmd w W M base (N + 1) a p s u v v C C' T full) := fun W hW => ⟨C, MCmd.after HM.out hW (MCmd.refl (HM.out.ext hW))⟩
  have HLC := hide (listCode_calls w ok (.slice la ln lc) ids 8 hl (by decide))
  have HL := hide hl
  have HXS := hide hxs
  clear h hl hxs
  by_cases h0 : id = 0
  · have t0 : (id == 0) = true := by simp [h0]
    have HE : Hid (K = 2 ∧ T' = T) := by
      have e : K = 2 := by rw [HK.out.1, mPan, if_pos h0]
      exact ⟨e, by rw [HK.out.2, e, if_neg (by decide)]⟩
    clear h0
    go_enter Tryd.func35, Tryd.ntmps35
    go_wp2
    go_ret
    exact ret_pan HE ⟨rfl, HNO.out _ (Below.refl _ _)⟩
  have t0 : (id == 0) = false := by simp [h0]
  by_cases hle : listErr ids 8 = 0
  case neg =>
    have HE : Hid (K = listErr ids 8 ∧ T' = T) := by
      have e : K = listErr ids 8 := by rw [HK.out.1, mPan, if_neg h0, if_pos hle]
      exact ⟨e, by rw [HK.out.2, e, if_neg hle]⟩
    have t1 : (listErr ids 8 != 0) = true := by simp [hle]
    generalize listErr ids 8 = lk at *
    clear h0 hle
    go_enter Tryd.func35, Tryd.ntmps35
    go_wp2_with (go_at_call 73; refine HLC.out.mono ?_; rintro e w' ⟨rfl, d, rfl⟩)
    go_ret
    exact ret_pan HE ⟨rfl, HNO.out _ (below_drewN (Below.refl _ _) d)⟩
  have hll := listErr_zero hle
  have HK2 : Hid (K = (if (T.pan id).isSome then 9 else if ids.all (fun x => (T.an x).isSome) then (if full then 21 else 0) else 14) ∧ T' = if K = 0 then { T with pan := upd T.pan id (some ids) } else T) := by
    refine ⟨?_, HK.out.2⟩
    rw [HK.out.1, mPan, if_neg h0, if_neg (by omega)]
  rw [hle] at HLC
  clear HK h0 hle
  obtain ⟨pa, pn, pc, hpl, hpu⟩ := pan_form HM.out hid
  have HPL := hide hpl
  clear hpl hpu
  have hMl := HM.out.hlt M (Or.inl (by simp))
  go_enter Tryd.func35, Tryd.ntmps35
  go_upto_region 4 with (go_at_call 73; refine HLC.out.mono ?_; rintro e w1 ⟨rfl, d, hw1⟩; have hb1 : Below w.heap.size w w1 := (by rw [hw1]; exact below_drewN (Below.refl _ _) d); clear hw1)
  have hs1 := hb1.size
  obtain ⟨c0, c1, -, -, -, c5, -, -⟩ := cell_six ((hb1.block M hMl).trans HM.out.top)
  have hlk := (HPL.out w1 hb1).1
  have HB1 := hide hb1
  clear hb1
  cases hTp : T.pan id with
  | some l =>
    rw [hTp] at hlk
    have HE : Hid (K = 9 ∧ T' = T) := by
      have e : K = 9 := by rw [HK2.out.1, hTp]; rfl
      exact ⟨e, by rw [HK2.out.2, e, if_neg (by decide)]⟩
    simp only [Option.isSome_some] at hlk
    go_wp2
    go_ret
    exact ret_pan HE ⟨rfl, HNO.out _ HB1.out⟩
  | none =>
    rw [hTp] at hlk
    simp only [Option.isSome_none] at hlk
    have HK3 : Hid (K = (if ids.all (fun x => (T.an x).isSome) then (if full then 21 else 0) else 14) ∧ T' = if K = 0 then { T with pan := upd T.pan id (some ids) } else T) := ⟨by rw [HK2.out.1, hTp]; rfl, HK2.out.2⟩
    have HTP := hide hTp
    obtain ⟨n, hnl, hn⟩ : ∃ n, ln = n ∧ ids.length = n := ⟨_, rfl, by obtain ⟨_, _, h⟩ := HL.out.form; injection h with _ h _; exact h.symm⟩
    subst hnl
    obtain ⟨la', lc', b, off, hlv, r1, r2, r3, r4, ha, hc⟩ := HL.out.parts ln hn
    cases hlv
    have hi := run_indexAt_arr (P := Tryd.prog) (n := ln) (cap := lc) Tryd.underlying31 Tryd.size29 (fun h => (ha h).1)
    have HA := hide ha
    have HC := hide hc
    have HN := hide hn
    have hn1 : ln ≤ 8 := by omega
    have hn0 : 0 < ln := by omega
    clear ha hc hn hTp HK2 hll
    go_upto_region 10 with fail
    clear hlk
    go_loopg [33] ln (fun g x wr => ∃ q : Nat, q ≤ ln ∧ g = ln - q ∧ x = .int .i64 q ∧ Hid (Below w.heap.size w wr) ∧ Hid (∀ x ∈ ids.take q, (T.an x).isSome = true))
    case atStart => exact ⟨0, by omega, by omega, rfl, HB1, by show ∀ x ∈ ids.take 0, _; simp⟩
    case round =>
      obtain ⟨q, hq, rfl, rfl, HB, HI⟩ := hrel
      have HMr := hide (HM.out.ext HB.out)
      obtain ⟨d0, d1, -, -, -, d5, -, hMr⟩ := cell_six HMr.out.top
      clear c0 c1 c5
      by_cases hlt : q < ln
      · have hqi : q < ids.length := by rw [HN.out]; exact hlt
        have hx := HXS.out ids[q] (List.getElem_mem hqi)
        have hcx := HC.out q hqi
        have hbb := (HA.out hn0).2.2
        have c0 : wr.cell? ⟨b, off + q, none⟩ = some (.int .u32 ids[q]) := (HB.out.cell (p := ⟨b, off + q, none⟩) hbb).trans hcx
        have hlk := HMr.out.an.look_ok Tryd.mapAn (Tryd.zeroAn wr) hx
        have HT : Hid (ids.take (q + 1) = ids.take q ++ [ids[q]]) := List.take_succ_eq_append_getElem hqi
        have HBAD : Hid (T.an ids[q] = none → K = 14 ∧ T' = T) := fun hnn => by
          have e : K = 14 := by
            rw [HK3.out.1, if_neg]
            intro hall
            have := List.all_eq_true.1 hall ids[q] (List.getElem_mem hqi)
            rw [hnn] at this
            cases this
          exact ⟨e, by rw [HK3.out.2, e, if_neg (by decide)]⟩
        generalize ids[q] = x at *
        clear hcx hqi
        cases hTa : T.an x with
        | none =>
          have HE := hide (HBAD.out hTa)
          rw [hTa] at hlk
          simp only [Option.map_none, Option.getD_none, Option.isSome_none, anZ] at hlk
          clear hTa
          go_wp2
          go_ret
          exact ret_pan HE ⟨rfl, HNO.out _ (HB.out.alloc HB.out.size _)⟩
        | some l =>
          rw [hTa] at hlk
          simp only [Option.map_some, Option.getD_some, Option.isSome_some, anV] at hlk
          have HTA := hide hTa
          clear hTa
          go_wp2
          go_roundg (ln - (q + 1))
          case measure => omega
          case rel =>
            refine ⟨q + 1, by omega, rfl, by go_num, HB.out.alloc HB.out.size _, ?_⟩
            show ∀ y ∈ ids.take (q + 1), _
            rw [HT.out]
            intro y hy
            rcases List.mem_append.1 hy with hy | hy
            · exact HI.out y hy
            · rw [List.mem_singleton.1 hy, HTA.out]; rfl
      · have hqn : q = ln := by omega
        subst hqn
        have HALL : Hid (ids.all (fun x => (T.an x).isSome) = true) := by
          show _ = _
          rw [List.all_eq_true]
          intro x hx
          exact HI.out x (by rw [List.take_of_length_le (by rw [HN.out]; omega)]; exact hx)
        have HK4 : Hid (K = (if full then 21 else 0) ∧ T' = if K = 0 then { T with pan := upd T.pan id (some ids) } else T) := ⟨by rw [HK3.out.1, HALL.out]; rfl, HK3.out.2⟩
        clear HI HALL HK3
        cases full with
        | true =>
          have HE : Hid (K = 21 ∧ T' = T) := by
            have e : K = 21 := by rw [HK4.out.1]; rfl
            exact ⟨e, by rw [HK4.out.2, e, if_neg (by decide)]⟩
          go_wp2
          go_ret
          exact ret_pan HE ⟨rfl, HNO.out _ HB.out⟩
        | false =>
          have HE : Hid (K = 0 ∧ T' = { T with pan := upd T.pan id (some ids) }) := by
            have e : K = 0 := by rw [HK4.out.1]; rfl
            exact ⟨e, by rw [HK4.out.2, e, if_pos rfl]⟩
          go_upto_region 18 with fail
          have hsrc : ∀ i (hi : i < ids.length), rng wr.drew b (off + i * 1) 1 = some (u32Cs ids[i]) := fun i hi => by
            have h2 : wr.cell? ⟨b, off + i, none⟩ = some (.int .u32 ids[i]) := (HB.out.cell (p := ⟨b, off + i, none⟩) (HA.out hn0).2.2).trans (HC.out i hi)
            have := rng_of_cells (w := wr) (b := b) (off := off + i * 1) (cs := [.int .u32 ids[i]]) (by simp) (fun j hj => by
              have : j = 0 := by simpa using hj
              subst this
              simpa using h2)
            exact this
          have HSRC := hide hsrc
          clear hsrc
          refine wp_region_mixT (wr.heap.size) [3] (by kernel_rfl) ?_
          refine mixT_slots [0, 1, 2, 4, 5] (fuel := 3) rfl (by kernel_rfl) (by kernel_rfl) (fun d _ _ _ _ h => by cases d <;> exact h) ?_
          simp only [opersAt, List.getElem?_toArray, List.getElem?_cons_zero, List.getElem?_cons_succ]
          repeat (go_big_quiet_step (fail))
          refine wpQuiet_nil ?_
          refine mixT_reads [3] (fuel := 2) rfl (by kernel_rfl) (by decide) (by kernel_rfl) (fun d _ _ _ _ h => by cases d <;> exact h) (ext_drew _ _) ?_
          simp only [opersAt, List.getElem?_toArray, List.getElem?_cons_zero, List.getElem?_cons_succ]
          repeat (go_big_quiet_step (fail))
          refine wpQuiet_nil ?_
          refine mixT_one (k := 6) (by kernel_rfl) rfl ?_
          go_wp2_with (at_builtin; refine wpList_appN (α := Int) rfl _ _ 31 rfl wr.heap.size 29 u32Cs Tryd.underlying31 Tryd.info29 rfl (by decide) u32Cs_size u32Cs_one (.slice none 0 0) [] rfl (OwnR.nil _ _ _ _ _) la q lc rfl ids HN.out.symm r4 (fun _ => ⟨b, off, (HA.out hn0).1, HSRC.out⟩) (by simp; omega) (by unfold maxLen; simp; omega) (Nat.le_refl _) ?_; intro vO w5 hown5 hsame5 hbel5 hat5)
          rw [List.nil_append] at hown5
          have hb5 : Below wr.heap.size wr w5 := (Below.refl _ _).drew.trans hbel5
          have hbw5 := HB.out.trans (hb5.mono HB.out.size)
          refine ⟨Or.inr (fun _ => ⟨⟨_, hb5⟩, rfl⟩), ?_⟩
          obtain ⟨g, gc, rfl, hg1, hg2, hU5⟩ := own_at hown5 (by rw [HN.out]; omega) (by rw [HN.out]; exact hn0)
          rw [HN.out] at hU5 ⊢
          obtain ⟨pf, hpm, hpf⟩ := HMr.out.pan
          have hpb := (HMr.out.low p (by simp)).1
          have hbs := HMr.out.bs
          have hpl := hpm.lt
          have hsz5 := hb5.size
          have hgp : g ≠ p := by omega
          obtain ⟨w6, hup, hmu, hg⟩ := (hpm.same (hb5.block p hpl)).put Tryd.mapPan (show N < maxLen by unfold maxLen; omega) hid (.slice (some ⟨g, 0, none⟩) q gc)
          have HM6 := hide (HMr.out.putPan (g := g) (ids := ids) (w' := w6) (fun b hb hne => (hg.block b (by omega) (by simpa using hne)).trans (hb5.block b hb)) ((hb5.mono hbs).grown hg (by omega) (fun j hj => by cases hj; exact hpb)) hpf hmu hg1 (Nat.lt_of_lt_of_le hg2 hg.size) (hU5.mono (fun b hb => by subst hb; exact hg.block b hg2 (by simpa using hgp)) (fun _ h => h)))
          refine mixT_one (k := 7) (by kernel_rfl) rfl ?_
          go_wp2
          refine ⟨Or.inl (by kernel_rfl), ?_⟩
          refine mixT_nil (by kernel_rfl) ?_
          go_wp2
          go_ret
          exact ret_pan HE ⟨rfl, _, MCmd.after HM.out HB.out HM6.out⟩

end Go.Proofs.Qxb6500665aDoor
