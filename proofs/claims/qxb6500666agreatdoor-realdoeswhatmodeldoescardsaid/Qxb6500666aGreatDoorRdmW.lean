/- RealDoesWhatModelDoes, walked. (Written by tools/mk_rdmw.py.) -/
import Derived.Test.Qxb6500666aGreatDoorRdmA
import Derived.Test.Qxb6500666aGreatDoorRdmBits
import Derived.Test.Qxb6500666aGreatDoorCraQ
import Derived.Test.Qxb6500666aGreatDoorSameB
import Derived.Test.Qxb6500666aGreatDoorIfpP
import Derived.Test.Qxb6500666aGreatDoorDamR
import Derived.BigQuiet
import Derived.Deep.CutBlock
namespace Go.Proofs.Qxb6500666aGreatDoor
open Go.RowKit
section
variable (ρ : Operand → Value) (dst : Option Tmp) (x y z : Operand) (ty : TypeId) (pos : String) (after : Array Edge) (guard : Option (Nat × Bool))
def bdBen3S (a b c : Value) : Sem Value := Instr.build 83 #[(0, a), (1, b), (2, c)]
theorem exec_bdBen3 : execOp ρ { dst, op := .build 83 #[(0, x), (1, y), (2, z)], type := ty, pos, after, guard } = (do pure (.value (← bdBen3S (ρ x) (ρ y) (ρ z)))) := by simp [execOp, bdBen3S]
end
theorem run_bdBen3 (w : World) (p0 p1 p2 p3 k s1 s2 s3 : Value) : (bdBen3S (.agg #[p0, p1, p2, p3]) (.agg #[k]) (.agg #[s1, s2, s3])).run Tryz.prog w = .ok (.agg (lvCs ⟨p0, p1, p2, p3, k, s1, s2, s3⟩)) w := by kernel_rfl
attribute [local go_sem] ext_const Ext.cell Ext.frozen Ext.rng Ext.whole
attribute [local go_sem ↓] exec_ldOpz exec_stOpz exec_ldBen exec_ldPrS exec_ldKtS exec_ldSmS exec_bdBen3 exec_stStD
attribute [local go_sem] run_ldOpz run_stOpz opA_size run_ldBen run_ldPrS run_ldKtS run_ldSmS run_bdBen3 run_stStD qCs_ones whole_alloc_lt whole_alloc_at whole_drew setRow_alloc_at setRow_alloc_lt setRow_drew rng_alloc_lt rng_alloc_at rng_drew rng_drewN
/-- A question as a step. -/
theorem qOp_in {r : Req} (hr : r.Ok) (hl : r.list = []) (W : World) (ok : Nat → Prop) : OpIn W ok (qOp r) (.slice none 0 0) (.slice none 0 0) none 0 0 := by
  refine ⟨⟨by show (0 : Int) ≤ 1; decide, by show (1 : Int) ≤ 255; decide⟩, hr, u32z, u8z, u64z, ?_, ?_, RArr.nil _ _ _ _, ?_, ?_, ?_, ?_, ?_⟩
  · show RArr _ _ _ _ _ r.list
    rw [hl]
    exact RArr.nil _ _ _ _
  · show ∀ y ∈ r.list, _
    rw [hl]
    intro y hy
    cases hy
  · exact RArr.nil _ _ _ _
  · exact ⟨u8z, u32z, i64z, u32z⟩
  · intro c hc
    cases hc
  · show 0 ≤ 65536
    omega
  · show 0 ≤ 65536
    omega
/-- A reading leaves both sides as they were. -/
theorem qOp_same {rn kn : Nat → ByteArray} {q : Nat} {t : ST} {m : Mod} {rows : List Row} {r : Req} (h : TQ rn kn q t m rows) (hr : r.Ok) (hk : isRdg r.kind = true) : stepR t (qOp r) = t ∧ mStep m (qOp r) = m := by
  refine ⟨stepR_rd rfl hk, ?_⟩
  have e := (ex_tie h.tj h.hq h.inv h.su h.vi hr).2.2 (fun k => by rw [cmd_rdg k.1] at hk; cases hk)
  unfold mStep
  rw [if_pos (show (qOp r).kind = 1 from rfl)]
  exact e
/-- Both sides while the questions are put. -/
def QX (w V W : World) (M qb QN : Nat) (t : ST) (m : Mod) : Prop := ∃ K, MX w W M K t m ∧ (0 < QN → K qb ∧ W.heap[qb]? = V.heap[qb]?)
theorem BX.lowC {w W : World} {K : Nat → Prop} {t : ST} (h : BX w W K t) : ∃ Y ok x, W.heap[w.heap.size + 2]? = some (.cells #[.pointer (some ⟨w.heap.size, 0, none⟩), .pointer (some ⟨w.heap.size + 1, 0, none⟩), .pointer (some ⟨Y, 0, none⟩)] 88 (0, 0)) ∧ W.heap[w.heap.size + 1]? = some (.cells (lvCs x) 83 (0, 0)) ∧ LowAt W ok x t.low := by
  obtain ⟨Y, pv, A, ok, zs, x, h1, -⟩ := h
  exact ⟨Y, ok, x, h1.bn, h1.bs.lb, h1.bs.low⟩
theorem mv_rng {W : World} {M : Nat} {v : MV} {full : Bool} (h : W.heap[M]? = some (.cells (mvCs v full) 45 (0, 0))) : rng W M 0 4 = some #[v.x.p0, v.x.p1, v.x.p2, v.x.p3] ∧ rng W M 4 1 = some #[v.x.k] ∧ rng W M 5 3 = some #[v.x.s1, v.x.s2, v.x.s3] := by
  refine ⟨?_, ?_, ?_⟩ <;> (unfold rng; rw [h]; rfl)
set_option maxRecDepth 100000 in
set_option maxHeartbeats 16000000 in
theorem rdm_walk (w : World) (v : Value) (s : List Op) (rn kn ft : Nat → ByteArray) (okg : Nat → Prop) (h : Script w (· < w.heap.size) v s) (hgl : Gl w w.heap.size rn kn ft okg) (hng : NmG rn kn) :
    Calls Tryz.prog 3 #[v] w fun e w' => e = .returned (.bool true) ∧ Below w.heap.size w w' := by
  have HSm := hide (small_calls w _ v s h)
  have HGL := hide (fun W (hb : Below w.heap.size w W) => hgl.same hb (Nat.le_refl _))
  have HNG := hide hng
  have HNB := hide (newBench_calls w)
  obtain ⟨a, cap, b, off, rfl, hl, hm, hr, ha, hc⟩ := h
  obtain ⟨n, hn⟩ : ∃ n, n = s.length := ⟨_, rfl⟩
  have Hn : Hid (n = s.length) := hn
  rw [← hn] at hl hr ha HSm ⊢
  have hi := run_indexAt_arr (P := Tryz.prog) (cap := cap) Tryz.underlying22 Tryz.size61 (fun h => (ha h).1)
  have HB : Hid (0 < n → b < w.heap.size) := fun h => (ha h).2
  by_cases hsm : total s ≤ 65536
  · have HC : Hid (∀ k (h : k < s.length), ∃ lv dv ca cn cc, rng w b (off + k * 27) 27 = some (opA s[k] lv dv ca cn cc) ∧ OpIn w (· < w.heap.size) s[k] lv dv ca cn cc ∧ ones (opA s[k] lv dv ca cn cc) 27 = true ∧ ByteL s[k].data) := fun k h => by
      obtain ⟨cs, hlen, hE, hcell⟩ := hc k h
      have ht := total_le h hsm
      obtain ⟨lv, dv, ca, cn, cc, e, hO, h1⟩ := opIn_of hE ht.2.1 ht.2.2
      refine ⟨lv, dv, ca, cn, cc, ?_, hO, h1, opByte_of hE⟩
      rw [← e]
      have hl27 : cs.length = 27 := by have := congrArg Array.size e; simpa [opA] using this
      have := rng_of_cells (w := w) (b := b) (off := off + k * 27) (by omega) hcell
      rw [hl27] at this
      exact this
    have HRO : Hid (∀ k (hk : k < s.length), s[k].req.Ok) := fun k hk => by
      obtain ⟨_, _, _, _, _, _, h1, _⟩ := HC.out k hk
      exact h1.req
    have HID : Hid (∀ k (hk : k < s.length), ∀ y ∈ s[k].req.list, U32 y) := fun k hk => by
      obtain ⟨_, _, _, _, _, _, h1, _⟩ := HC.out k hk
      exact h1.ids
    have HIV : Hid (∀ q, q ≤ s.length → Inv q (stAt s q)) := inv_all HRO.out
    have hn2 : n ≤ 65536 := by have := hsm; unfold total at this; omega
    have HVI : Hid (∀ q, q ≤ s.length → VI q (stAt s q).low) := vi_all s (by omega)
    have HSU : Hid (∀ q, q ≤ s.length → SU (stAt s q).low.sm) := su_all s
    have HTJ : Hid (∀ q, q ≤ s.length → ∃ rows, TJ q (stAt s q) (mdAt s q) rows) := ti_all HRO.out HID.out (by omega)
    have hd : decide (total s ≤ 65536) = true := by simpa using hsm
    rw [hd] at HSm
    have HE0 : Hid (∀ q, q ≤ s.length → getB (stAt s q).ps (key1B 97 0) = none) := noE0_all HRO.out HID.out (by omega)
    have HNS : Hid ((∀ k, (rn k).size ≤ 64) ∧ ∀ k, (kn k).size ≤ 64) := ⟨hgl.nm.rs, hgl.nm.ks⟩
    have HTQ : Hid (∀ q, q ≤ s.length → ∃ rows, TQ rn kn q (stAt s q) (mdAt s q) rows) := fun q hq => by
      obtain ⟨rows, htj⟩ := HTJ.out q hq
      exact ⟨rows, htj, by omega, HIV.out q hq, HSU.out q hq, HVI.out q hq, HE0.out q hq, htj.minv (by omega) (HIV.out q hq) (HSU.out q hq), HNS.out.1, HNS.out.2⟩
    clear hd hsm ha hc hn hgl hng HRO HID HIV HVI HSU HTJ HE0 HNS
    go_enter Tryz.func3, Tryz.ntmps3
    go_upto_region 3 with (go_at_call 18; refine HSm.out.mono ?_; rintro e w1 ⟨rfl, rfl⟩)
    go_upto_region 4 with (go_at_call 19; refine HNB.out.mono ?_; rintro e W0 ⟨rfl, hbn, hb0⟩)
    have HQ0 : Hid (BX w W0 (fun _ => False) (stAt s 0)) := BX.start hbn hb0
    clear hbn hb0 HSm HNB
    go_upto_region 5 with fail
    have HE0 : Hid (∃ K, MX w (W0.alloc (.cells (mvCs mv0 false) 45)) W0.heap.size K (stAt s 0) (mdAt s 0)) := by
      refine ⟨fun g => g = W0.heap.size, HQ0.out.more ((Below.refl _ _).alloc (Nat.le_refl _) _) (fun g q => Or.inr ?_), ⟨mv0, MAt.start _ (heap_alloc_at _ _)⟩, rfl, HQ0.out.blw.size⟩
      rw [q]
      exact ⟨Nat.le_refl _, by simp⟩
    change Code.wp _ _ _ _ (W0.alloc (.cells (mvCs mv0 false) 45))
    generalize W0.alloc (.cells (mvCs mv0 false) 45) = W1 at *
    generalize W0.heap.size = M at *
    clear HQ0
    refine wp_loop_mask rdL1 (fun g x wr => ∃ q : Nat, q ≤ n ∧ g = n - q ∧ x = .int .i64 q ∧ Hid (∃ K, MX w wr M K (stAt s q) (mdAt s q))) n (.int .i64 0) ⟨0, by omega, by omega, rfl, HE0⟩ (by kernel_rfl) ?_
    clear HE0
    intro gk1 x1 u1 wr hrel J1 K1 hJ1 hK1
    dsimp only [rdL1, maskL_keep, maskL_any, maskL_is, maskL_nil]
    obtain ⟨q, hq, rfl, rfl, HQ⟩ := hrel
    by_cases hlt : q < n
    · as_aux_lemma =>
      have hqs : q < s.length := by rw [← Hn.out]; exact hlt
      have hbb := HB.out (by omega)
      obtain ⟨lv, dv, ca, cn, cc, hcl, hO, hones, hby⟩ := HC.out q hqs
      have HSQ := hide (stAt_succ hqs)
      have HMQ := hide (mdAt_succ hqs)
      obtain ⟨rows, htq⟩ := HTQ.out q (by omega)
      obtain ⟨K, hmx⟩ := HQ.out
      have HTI := hide htq
      have HMX := hide hmx
      have HBY := hide hby
      generalize s[q] = p at *
      clear htq hmx hby HQ HTQ
      have hcells : rng wr b (off + q * 27) 27 = some (opA p lv dv ca cn cc) := by rw [rng_of_block (HMX.out.bx.blw.block _ hbb)]; exact hcl
      have hbw : b < wr.heap.size := by have := HMX.out.bx.blw.size; omega
      have HOI := hide hO
      clear hO hcl HC
      go_upto_region 7 with fail
      have hb1 : Below wr.heap.size wr (wr.alloc (.cells (opA p lv dv ca cn cc) 61)) := (Below.refl _ _).alloc (Nat.le_refl _) _
      have HX1 : Hid (MX w (wr.alloc (.cells (opA p lv dv ca cn cc) 61)) M (fun g => K g ∨ g = wr.heap.size) (stAt s q) (mdAt s q)) := HMX.out.more hb1 (fun g q => by
        rcases q with q | rfl
        · exact Or.inl q
        · exact Or.inr ⟨Nat.le_refl _, by simp⟩) (fun g q => Or.inl q)
      have hk1 : (wr.alloc (.cells (opA p lv dv ca cn cc) 61)).heap[wr.heap.size]? = some (.cells (opA p lv dv ca cn cc) 61 (0, 0)) := heap_alloc_at _ _
      clear HMX hb1
      generalize wr.alloc (.cells (opA p lv dv ca cn cc) 61) = U1 at *
      generalize wr.heap.size = D at *
      have hra : rng U1 D 0 27 = some (opA p lv dv ca cn cc) := rng_whole hk1
      have hgl : D < U1.heap.size := blk_lt hk1
      have HT1 := hide (MX.both (g := D) (HX1.out.below (W' := U1.drew) (Below.refl _ _).drew) HTI.out HOI.out HBY.out HGL.out HNG.out (Or.inr rfl))
      have HR1 : Hid (∀ w1 : World, w1.heap[D]? = U1.drew.heap[D]? → rng w1 D 0 27 = some (opA p lv dv ca cn cc)) := fun w1 h1 => by rw [rng_of_block h1]; exact hra
      clear hcells hbw hk1 HX1 HOI HBY HTI
      refine wp_region_mixT (0) [] (by kernel_rfl) ?_
      refine mixT_slots [0, 3] (fuel := 6) rfl (by kernel_rfl) (by kernel_rfl) (fun d _ _ _ _ h => by cases d <;> exact h) ?_
      simp only [opersAt, List.getElem?_toArray, List.getElem?_cons_zero, List.getElem?_cons_succ]
      repeat (go_big_quiet_step (fail))
      refine wpQuiet_nil ?_
      refine mixT_two (k := 1) (k' := 4) (by kernel_rfl) rfl rfl ?_ ?_
      · go_wp2
        first | refine ⟨Or.inl (by kernel_rfl), ?_⟩ | skip
        refine mixT_two (k := 2) (k' := 4) (by kernel_rfl) rfl rfl ?_ ?_
        · go_wp2_with (go_at_call 21; refine HT1.out.mono ?_; rintro e w1 ⟨x, rfl, hg1, hS⟩)
          first | refine ⟨Or.inl (by kernel_rfl), ?_⟩ | skip
          have hr1 := HR1.out w1 hg1
          refine mixT_one (k := 4) (by kernel_rfl) rfl ?_
          go_wp2
          first | refine ⟨Or.inl (by kernel_rfl), ?_⟩ | skip
          refine mixT_one (k := 5) (by kernel_rfl) rfl ?_
          go_wp2_with (go_at_call 22; refine hS.mono ?_; rintro e w2 ⟨x2, rfl, hD⟩)
          first | refine ⟨Or.inl (by kernel_rfl), ?_⟩ | skip
          refine mixT_one (k := 6) (by kernel_rfl) rfl ?_
          go_wp2_with (go_at_call 20; refine hD.mono ?_; rintro e w3 ⟨rfl, hJ⟩)
          first | refine ⟨Or.inl (by kernel_rfl), ?_⟩ | skip
          refine mixT_one (k := 7) (by kernel_rfl) rfl ?_
          go_wp2
          first | refine ⟨Or.inl (by kernel_rfl), ?_⟩ | skip
          refine mixT_nil (by kernel_rfl) ?_
          go_wp2
          have HX4 : Hid (∃ K', MX w w3 M K' (stAt s (q + 1)) (mdAt s (q + 1))) := by obtain ⟨K', -, hK'⟩ := hJ; exact ⟨K', by rw [HSQ.out, HMQ.out]; exact hK'⟩
          refine Handed.intro (n - (q + 1)) (by omega) ?_
          exact hJ1.out _ (.int .i64 ((q + 1 : Nat) : Int)) _ _ ⟨q + 1, by omega, rfl, rfl, HX4⟩ (by kernel_rfl)
        · go_wp2
          first | refine ⟨Or.inl (by kernel_rfl), ?_⟩ | skip
          refine mixT_one (k := 2) (by kernel_rfl) rfl ?_
          go_wp2_with (go_at_call 21; refine HT1.out.mono ?_; rintro e w1 ⟨x, rfl, hg1, hS⟩)
          first | refine ⟨Or.inl (by kernel_rfl), ?_⟩ | skip
          refine mixT_one (k := 5) (by kernel_rfl) rfl ?_
          go_wp2_with (go_at_call 22; refine hS.mono ?_; rintro e w2 ⟨x2, rfl, hD⟩)
          first | refine ⟨Or.inl (by kernel_rfl), ?_⟩ | skip
          refine mixT_one (k := 6) (by kernel_rfl) rfl ?_
          go_wp2_with (go_at_call 20; refine hD.mono ?_; rintro e w3 ⟨rfl, hJ⟩)
          first | refine ⟨Or.inl (by kernel_rfl), ?_⟩ | skip
          refine mixT_one (k := 7) (by kernel_rfl) rfl ?_
          go_wp2
          first | refine ⟨Or.inl (by kernel_rfl), ?_⟩ | skip
          refine mixT_nil (by kernel_rfl) ?_
          go_wp2
          have HX4 : Hid (∃ K', MX w w3 M K' (stAt s (q + 1)) (mdAt s (q + 1))) := by obtain ⟨K', -, hK'⟩ := hJ; exact ⟨K', by rw [HSQ.out, HMQ.out]; exact hK'⟩
          refine Handed.intro (n - (q + 1)) (by omega) ?_
          exact hJ1.out _ (.int .i64 ((q + 1 : Nat) : Int)) _ _ ⟨q + 1, by omega, rfl, rfl, HX4⟩ (by kernel_rfl)
      · go_wp2
        first | refine ⟨Or.inl (by kernel_rfl), ?_⟩ | skip
        refine mixT_one (k := 1) (by kernel_rfl) rfl ?_
        go_wp2
        first | refine ⟨Or.inl (by kernel_rfl), ?_⟩ | skip
        refine mixT_one (k := 2) (by kernel_rfl) rfl ?_
        go_wp2_with (go_at_call 21; refine HT1.out.mono ?_; rintro e w1 ⟨x, rfl, hg1, hS⟩)
        first | refine ⟨Or.inl (by kernel_rfl), ?_⟩ | skip
        refine mixT_one (k := 5) (by kernel_rfl) rfl ?_
        go_wp2_with (go_at_call 22; refine hS.mono ?_; rintro e w2 ⟨x2, rfl, hD⟩)
        first | refine ⟨Or.inl (by kernel_rfl), ?_⟩ | skip
        refine mixT_one (k := 6) (by kernel_rfl) rfl ?_
        go_wp2_with (go_at_call 20; refine hD.mono ?_; rintro e w3 ⟨rfl, hJ⟩)
        first | refine ⟨Or.inl (by kernel_rfl), ?_⟩ | skip
        refine mixT_one (k := 7) (by kernel_rfl) rfl ?_
        go_wp2
        first | refine ⟨Or.inl (by kernel_rfl), ?_⟩ | skip
        refine mixT_nil (by kernel_rfl) ?_
        go_wp2
        have HX4 : Hid (∃ K', MX w w3 M K' (stAt s (q + 1)) (mdAt s (q + 1))) := by obtain ⟨K', -, hK'⟩ := hJ; exact ⟨K', by rw [HSQ.out, HMQ.out]; exact hK'⟩
        refine Handed.intro (n - (q + 1)) (by omega) ?_
        exact hJ1.out _ (.int .i64 ((q + 1 : Nat) : Int)) _ _ ⟨q + 1, by omega, rfl, rfl, HX4⟩ (by kernel_rfl)
    · as_aux_lemma =>
      obtain rfl : q = n := by omega
      obtain ⟨rows, htq⟩ := HTQ.out q (by rw [← Hn.out]; exact Nat.le_refl _)
      have HTI := hide htq
      obtain ⟨K, hmx⟩ := HQ.out
      clear HQ htq HTQ
      generalize hte : stAt s q = t at *
      generalize hme : mdAt s q = m at *
      clear hte hme
      have HMX := hide hmx
      obtain ⟨v, hv⟩ := HMX.out.md
      have hfl := HTI.out.tj.fl
      have hal := HTI.out.tj.al
      have zM := blk_lt hv.top
      have HST := hide (mStat_calls wr M _ v m hv (by omega) (by omega))
      obtain ⟨F, hF⟩ : ∃ F, F = m.fs.length := ⟨_, rfl⟩
      obtain ⟨E, hE⟩ : ∃ E, E = m.au.length := ⟨_, rfl⟩
      have hF6 : F ≤ 65536 := by omega
      have hE6 : E ≤ 65536 := by omega
      obtain ⟨st, hst⟩ : ∃ st, st = mStat m := ⟨_, rfl⟩
      have hs0 : st.entries = (E : Int) := by rw [hst, hE]; rfl
      have hs1 : st.transfers = (F : Int) := by rw [hst, hF]; rfl
      rw [← hst] at HST
      clear hmx hv hfl hal hst hF hE
      go_upto_region 11 with (go_at_call 23; refine HST.out.mono ?_; rintro e V6 ⟨rfl, hb6⟩; have HB6 := hide hb6; clear hb6)
      have hB7 : Below wr.heap.size wr (V6.alloc (.cells (statCs st) 65)) := HB6.out.alloc HB6.out.size _
      have hk7 : (V6.alloc (.cells (statCs st) 65)).heap[V6.heap.size]? = some (.cells (statCs st) 65 (0, 0)) := heap_alloc_at _ _
      generalize V6.alloc (.cells (statCs st) 65) = V7 at *
      generalize V6.heap.size = DS at *
      have c0 := cells_all hk7 0
      have c1 := cells_all hk7 1
      have zDS := blk_lt hk7
      simp only [statCs, List.getElem?_toArray, List.getElem?_cons_zero, List.getElem?_cons_succ] at c0 c1
      rw [hs0] at c0
      rw [hs1] at c1
      have HX7 := hide (HMX.out.below hB7)
      have HB7 := hide HX7.out.bx.blw
      have HQS := hide (questions_calls V7 a b off q cap s F E hF6 hE6 Hn.out hn2 hi (fun h => Nat.lt_of_lt_of_le (HB.out h) HB7.out.size) (fun k hk => by
        obtain ⟨lv, dv, ca, cn, cc, k1, k2, k3, -⟩ := HC.out k hk
        exact ⟨lv, dv, ca, cn, cc, (rng_of_block (HB7.out.block _ (HB.out (by have := Hn.out; omega))) _ _).trans k1, k2.req, k3⟩))
      clear hk7 HST HMX HB6 hB7 hi HC hs0 hs1
      go_upto_region 12 with (go_at_call 24; refine HQS.out.mono ?_; rintro e V8 ⟨qv, qs, rfl, hqa⟩; obtain ⟨qa, qc, rfl⟩ := hqa.own.form; have HQA := hide hqa; clear hqa)
      clear HQS c0 c1
      have hql := HQA.out.len
      have hzM : M < V7.heap.size := by obtain ⟨v9, hv9⟩ := HX7.out.md; exact blk_lt hv9.top
      obtain ⟨ra, rc, qb, ro, re, rl1, rl2, rl3, rha, rhc⟩ := RArr.lt (HQA.out.own.rows qCs_size (by decide) (by omega))
      injection re with re1 re2 re3
      subst re1
      subst re3
      have hiq := run_indexAt_arr (P := Tryz.prog) (n := qs.length) (cap := qc) Tryz.underlying22 Tryz.size61 (fun h => (rha h).1)
      have HRB : Hid (0 < qs.length → V7.heap.size ≤ qb ∧ qb < V8.heap.size) := fun h => (rha h).2
      have HRC := hide rhc
      have HQI := hide HQA.out.ok
      obtain ⟨QN, hQN⟩ : ∃ QN, QN = qs.length := ⟨_, rfl⟩
      rw [← hQN] at hiq HRB hql
      have HQN := hide hQN
      rw [← hQN]
      have HNE : Hid (0 < QN → qb ≠ M) := fun h => by have := (HRB.out h).1; omega
      have HX8 : Hid (QX w V8 V8 M qb QN t m) := ⟨fun g => K g ∨ (0 < QN ∧ g = qb), HX7.out.more HQA.out.bel (fun g hg => hg.imp id (fun hg => by rw [hg.2]; exact HRB.out hg.1)) (fun g hg => Or.inl hg), fun hp => ⟨Or.inr ⟨hp, rfl⟩, rfl⟩⟩
      clear re2 rl1 rl2 rl3 rha rhc HQA HX7 HB7 hQN zM zDS hzM
      refine wp_loop_mask rdL2 (fun g x wy => ∃ k : Nat, k ≤ QN ∧ g = QN - k ∧ x = .int .i64 k ∧ Hid (QX w V8 wy M qb QN t m)) QN (.int .i64 0) ⟨0, by omega, by omega, rfl, HX8⟩ (by kernel_rfl) ?_
      clear HX8
      intro gk3 x3 u3 wy hrel J3 K3 hJ3 hK3
      dsimp only [rdL2, maskL_keep, maskL_any, maskL_is, maskL_nil]
      obtain ⟨k, hkN, rfl, rfl, HQY⟩ := hrel
      by_cases hkl : k < QN
      · as_aux_lemma =>
        have hks : k < qs.length := by rw [← HQN.out]; exact hkl
        obtain ⟨hrb1, hrb2⟩ := HRB.out (by omega)
        obtain ⟨KY, hmy, hky⟩ := HQY.out
        have HKQ := hide hky
        have HMY := hide hmy
        have hqc : rng wy qb (ro + k * 27) 27 = some (qCs qs[k]) := (rng_of_block (hky (by omega)).2 _ _).trans (HRC.out k hks)
        obtain ⟨kk, ki, kj, hr0, hkk, hki, hkj⟩ := HQI.out _ (List.getElem_mem hks)
        rw [hr0] at hqc
        have hk8 : U8 kk := by
          unfold isRdg at hkk
          simp at hkk
          exact ⟨by omega, by omega⟩
        have HRQ := hide (askReq_ok hk8 hki hkj)
        have HRD : Hid (isRdg (askReq kk ki kj).kind = true) := hkk
        have HRL : Hid ((askReq kk ki kj).list = []) := rfl
        have hrbw : qb < wy.heap.size := by
          obtain ⟨_, _, _, _, _, _, -, -, -, hk9⟩ := hmy.bx
          exact (hk9 qb (hky (by omega)).1).1
        clear hr0 hkk hki hkj hk8 hmy hky HQY HQI HRC
        generalize askReq kk ki kj = r at *
        have HQR := hide (qOp_same HTI.out HRQ.out HRD.out)
        go_upto_region 14 with fail
        have hb1 : Below wy.heap.size wy (wy.alloc (.cells (qCs r) 61)) := (Below.refl _ _).alloc (Nat.le_refl _) _
        have HX1 : Hid (MX w (wy.alloc (.cells (qCs r) 61)) M (fun g => KY g ∨ g = wy.heap.size) t m) := HMY.out.more hb1 (fun g q => by
          rcases q with q | rfl
          · exact Or.inl q
          · exact Or.inr ⟨Nat.le_refl _, by simp⟩) (fun g q => Or.inl q)
        have HKU : Hid (0 < QN → (wy.alloc (.cells (qCs r) 61)).drew.heap[qb]? = wy.heap[qb]?) := fun _ => hb1.block qb hrbw
        have hk1 : (wy.alloc (.cells (qCs r) 61)).heap[wy.heap.size]? = some (.cells (qCs r) 61 (0, 0)) := heap_alloc_at _ _
        clear HMY hb1
        generalize wy.alloc (.cells (qCs r) 61) = U1 at *
        generalize wy.heap.size = D at *
        have hra : rng U1 D 0 27 = some (qCs r) := rng_whole hk1
        have hgl : D < U1.heap.size := blk_lt hk1
        have HT1 := hide (MX.both (g := D) (HX1.out.below (W' := U1.drew) (Below.refl _ _).drew) HTI.out (qOp_in HRQ.out HRL.out w (· < w.heap.size)) byteL_nil HGL.out HNG.out (Or.inr rfl))
        rw [show opA (qOp r) (.slice none 0 0) (.slice none 0 0) none 0 0 = qCs r from rfl] at HT1
        have HR1 : Hid (∀ w1 : World, w1.heap[D]? = U1.drew.heap[D]? → rng w1 D 0 27 = some (qCs r)) := fun w1 h1 => by rw [rng_of_block h1]; exact hra
        clear hqc hrbw hk1 HX1 HTI hiq
        refine wp_region_mixT (0) [] (by kernel_rfl) ?_
        refine mixT_slots [0, 3] (fuel := 6) rfl (by kernel_rfl) (by kernel_rfl) (fun d _ _ _ _ h => by cases d <;> exact h) ?_
        simp only [opersAt, List.getElem?_toArray, List.getElem?_cons_zero, List.getElem?_cons_succ]
        repeat (go_big_quiet_step (fail))
        refine wpQuiet_nil ?_
        refine mixT_two (k := 1) (k' := 4) (by kernel_rfl) rfl rfl ?_ ?_
        · go_wp2
          first | refine ⟨Or.inl (by kernel_rfl), ?_⟩ | skip
          refine mixT_two (k := 2) (k' := 4) (by kernel_rfl) rfl rfl ?_ ?_
          · go_wp2_with (go_at_call 21; refine HT1.out.mono ?_; rintro e w1 ⟨x, rfl, hg1, hS⟩)
            first | refine ⟨Or.inl (by kernel_rfl), ?_⟩ | skip
            have hr1 := HR1.out w1 hg1
            refine mixT_one (k := 4) (by kernel_rfl) rfl ?_
            go_wp2
            first | refine ⟨Or.inl (by kernel_rfl), ?_⟩ | skip
            refine mixT_one (k := 5) (by kernel_rfl) rfl ?_
            go_wp2_with (go_at_call 22; refine hS.mono ?_; rintro e w2 ⟨x2, rfl, hD⟩)
            first | refine ⟨Or.inl (by kernel_rfl), ?_⟩ | skip
            refine mixT_one (k := 6) (by kernel_rfl) rfl ?_
            go_wp2_with (go_at_call 20; refine hD.mono ?_; rintro e w3 ⟨rfl, hJ⟩)
            first | refine ⟨Or.inl (by kernel_rfl), ?_⟩ | skip
            refine mixT_one (k := 7) (by kernel_rfl) rfl ?_
            go_wp2
            first | refine ⟨Or.inl (by kernel_rfl), ?_⟩ | skip
            refine mixT_nil (by kernel_rfl) ?_
            go_wp2
            have HX4 : Hid (QX w V8 w3 M qb QN t m) := by obtain ⟨K', hK1, hK2⟩ := hJ; rw [HQR.out.1, HQR.out.2] at hK2; exact ⟨K', hK2, fun hp => ⟨(hK1 qb (Or.inl (HKQ.out hp).1)).1, ((hK1 qb (Or.inl (HKQ.out hp).1)).2 (HNE.out hp)).trans ((HKU.out hp).trans (HKQ.out hp).2)⟩⟩
            refine Handed.intro (QN - (k + 1)) (by omega) ?_
            exact hJ3.out _ (.int .i64 ((k + 1 : Nat) : Int)) _ _ ⟨k + 1, by omega, rfl, rfl, HX4⟩ (by kernel_rfl)
          · go_wp2
            first | refine ⟨Or.inl (by kernel_rfl), ?_⟩ | skip
            refine mixT_one (k := 2) (by kernel_rfl) rfl ?_
            go_wp2_with (go_at_call 21; refine HT1.out.mono ?_; rintro e w1 ⟨x, rfl, hg1, hS⟩)
            first | refine ⟨Or.inl (by kernel_rfl), ?_⟩ | skip
            refine mixT_one (k := 5) (by kernel_rfl) rfl ?_
            go_wp2_with (go_at_call 22; refine hS.mono ?_; rintro e w2 ⟨x2, rfl, hD⟩)
            first | refine ⟨Or.inl (by kernel_rfl), ?_⟩ | skip
            refine mixT_one (k := 6) (by kernel_rfl) rfl ?_
            go_wp2_with (go_at_call 20; refine hD.mono ?_; rintro e w3 ⟨rfl, hJ⟩)
            first | refine ⟨Or.inl (by kernel_rfl), ?_⟩ | skip
            refine mixT_one (k := 7) (by kernel_rfl) rfl ?_
            go_wp2
            first | refine ⟨Or.inl (by kernel_rfl), ?_⟩ | skip
            refine mixT_nil (by kernel_rfl) ?_
            go_wp2
            have HX4 : Hid (QX w V8 w3 M qb QN t m) := by obtain ⟨K', hK1, hK2⟩ := hJ; rw [HQR.out.1, HQR.out.2] at hK2; exact ⟨K', hK2, fun hp => ⟨(hK1 qb (Or.inl (HKQ.out hp).1)).1, ((hK1 qb (Or.inl (HKQ.out hp).1)).2 (HNE.out hp)).trans ((HKU.out hp).trans (HKQ.out hp).2)⟩⟩
            refine Handed.intro (QN - (k + 1)) (by omega) ?_
            exact hJ3.out _ (.int .i64 ((k + 1 : Nat) : Int)) _ _ ⟨k + 1, by omega, rfl, rfl, HX4⟩ (by kernel_rfl)
        · go_wp2
          first | refine ⟨Or.inl (by kernel_rfl), ?_⟩ | skip
          refine mixT_one (k := 1) (by kernel_rfl) rfl ?_
          go_wp2
          first | refine ⟨Or.inl (by kernel_rfl), ?_⟩ | skip
          refine mixT_one (k := 2) (by kernel_rfl) rfl ?_
          go_wp2_with (go_at_call 21; refine HT1.out.mono ?_; rintro e w1 ⟨x, rfl, hg1, hS⟩)
          first | refine ⟨Or.inl (by kernel_rfl), ?_⟩ | skip
          refine mixT_one (k := 5) (by kernel_rfl) rfl ?_
          go_wp2_with (go_at_call 22; refine hS.mono ?_; rintro e w2 ⟨x2, rfl, hD⟩)
          first | refine ⟨Or.inl (by kernel_rfl), ?_⟩ | skip
          refine mixT_one (k := 6) (by kernel_rfl) rfl ?_
          go_wp2_with (go_at_call 20; refine hD.mono ?_; rintro e w3 ⟨rfl, hJ⟩)
          first | refine ⟨Or.inl (by kernel_rfl), ?_⟩ | skip
          refine mixT_one (k := 7) (by kernel_rfl) rfl ?_
          go_wp2
          first | refine ⟨Or.inl (by kernel_rfl), ?_⟩ | skip
          refine mixT_nil (by kernel_rfl) ?_
          go_wp2
          have HX4 : Hid (QX w V8 w3 M qb QN t m) := by obtain ⟨K', hK1, hK2⟩ := hJ; rw [HQR.out.1, HQR.out.2] at hK2; exact ⟨K', hK2, fun hp => ⟨(hK1 qb (Or.inl (HKQ.out hp).1)).1, ((hK1 qb (Or.inl (HKQ.out hp).1)).2 (HNE.out hp)).trans ((HKU.out hp).trans (HKQ.out hp).2)⟩⟩
          refine Handed.intro (QN - (k + 1)) (by omega) ?_
          exact hJ3.out _ (.int .i64 ((k + 1 : Nat) : Int)) _ _ ⟨k + 1, by omega, rfl, rfl, HX4⟩ (by kernel_rfl)
      · as_aux_lemma =>
        obtain rfl : k = QN := by omega
        obtain ⟨KY, hmy, -⟩ := HQY.out
        have HEND := hide hmy.bx.blw
        obtain ⟨Y, okL, xL, hbn, hlb, hlow⟩ := hmy.bx.lowC
        obtain ⟨vv, hvv⟩ := hmy.md
        obtain ⟨m1, m2, m3⟩ := mv_rng hvv.top
        have hml : m.low = t.low := HTI.out.tj.low
        have HLW := hide (fun W (hb : Below wy.heap.size wy W) => hlow.below hb)
        have HLM : Hid (∀ W, Below wy.heap.size wy W → LowAt W (okM w KY M) vv.x t.low) := fun W hb => by rw [← hml]; exact hvv.inn.low.below hb
        have b1 := cells_all hbn 1
        simp only [List.getElem?_toArray, List.getElem?_cons_zero, List.getElem?_cons_succ] at b1
        have zB := blk_lt hbn
        have zL := blk_lt hlb
        have zM := blk_lt hvv.top
        have rL : rng wy (w.heap.size + 1) 0 8 = some (lvCs xL) := rng_whole hlb
        clear hmy hbn hlb hlow hvv hml HQY
        go_upto_region 17 with fail
        refine wp_region_mixT (wy.heap.size) [3, 5, 9, 13, 17] (by kernel_rfl) ?_
        refine mixT_slots [0, 1, 2, 6, 7, 8, 10, 11, 12, 14, 15, 16] (fuel := 9) rfl (by kernel_rfl) (by kernel_rfl) (fun d _ _ _ _ h => by cases d <;> exact h) ?_
        simp only [opersAt, List.getElem?_toArray, List.getElem?_cons_zero, List.getElem?_cons_succ]
        repeat (go_big_quiet_step (fail))
        refine wpQuiet_nil ?_
        refine mixT_reads [3] (fuel := 8) rfl (by kernel_rfl) (by decide) (by kernel_rfl) (fun d _ _ _ _ h => by cases d <;> exact h) (ext_drew _ _) ?_
        simp only [opersAt, List.getElem?_toArray, List.getElem?_cons_zero, List.getElem?_cons_succ]
        repeat (go_big_quiet_step (fail))
        refine wpQuiet_nil ?_
        refine mixT_slots [4] (fuel := 7) rfl (by kernel_rfl) (by kernel_rfl) (fun d _ _ _ _ h => by cases d <;> exact h) ?_
        simp only [opersAt, List.getElem?_toArray, List.getElem?_cons_zero, List.getElem?_cons_succ]
        repeat (go_big_quiet_step (fail))
        refine wpQuiet_nil ?_
        refine mixT_reads [5, 9, 13, 17] (fuel := 3) rfl (by kernel_rfl) (by decide) (by kernel_rfl) (fun d _ _ _ _ h => by cases d <;> exact h) (ext_drew _ _) ?_
        simp only [opersAt, List.getElem?_toArray, List.getElem?_cons_zero, List.getElem?_cons_succ]
        repeat (go_big_quiet_step (fail))
        refine wpQuiet_nil ?_
        refine mixT_slots [18] (fuel := 2) rfl (by kernel_rfl) (by kernel_rfl) (fun d _ _ _ _ h => by cases d <;> exact h) ?_
        simp only [opersAt, List.getElem?_toArray, List.getElem?_cons_zero, List.getElem?_cons_succ]
        repeat (go_big_quiet_step (fail))
        refine wpQuiet_nil ?_
        refine mixT_one (k := 19) (by kernel_rfl) rfl ?_
        go_wp2_with (go_at_call 25; refine (sameBeneath_calls _ okL (okM w KY M) xL vv.x t.low (HLW.out _ (Below.refl _ _).drew) (HLM.out _ (Below.refl _ _).drew)).mono ?_; rintro e V1 ⟨rfl, hb1⟩)
        have hbV : Below wy.heap.size wy V1 := (Below.refl _ _).drew.trans hb1
        refine ⟨Or.inr (by intros; exact ⟨⟨_, hbV⟩, rfl⟩), ?_⟩
        have HFV : Hid (Below w.heap.size w V1) := HEND.out.trans (hbV.mono HEND.out.size)
        clear hb1 hbV
        refine mixT_slots [20] (fuel := 0) rfl (by kernel_rfl) (by kernel_rfl) (fun d _ _ _ _ h => by cases d <;> exact h) ?_
        simp only [opersAt, List.getElem?_toArray, List.getElem?_cons_zero, List.getElem?_cons_succ]
        repeat (go_big_quiet_step (fail))
        refine wpQuiet_nil ?_
        refine mixT_nil (by kernel_rfl) ?_
        go_wp2
        go_ret
        exact ⟨rfl, HFV.out⟩
  · have hd : decide (total s ≤ 65536) = false := by simpa using hsm
    rw [hd] at HSm
    clear hd hsm ha hc hn hgl HNB hng
    go_enter Tryz.func3, Tryz.ntmps3
    go_wp2_with (go_at_call 18; refine HSm.out.mono ?_; rintro e w1 ⟨rfl, rfl⟩)
    go_ret
    exact ⟨rfl, Below.refl _ _⟩
end Go.Proofs.Qxb6500666aGreatDoor
