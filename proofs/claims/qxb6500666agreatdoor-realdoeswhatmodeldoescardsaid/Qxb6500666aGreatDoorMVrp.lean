/- The model's ValidReport, walked. (Made by tools/mk_mvrp.py.) -/
import Derived.Test.Qxb6500666aGreatDoorMRepP
import Derived.Test.Qxb6500666aGreatDoorModelValid
import Derived.Test.Qxb6500666aGreatDoorMask
import Derived.BigQuiet
namespace Go.Proofs.Qxb6500666aGreatDoor
open Go.RowKit
theorem vdB_iff {d : Diff} (hd : d.Ok) : vdB d = true ↔ 1 ≤ d.sample ∧ 1 ≤ d.analyte ∧ ((d.action = 78 ∧ d.before = 0 ∧ 1 ≤ d.after) ∨ (d.action = 87 ∧ 1 ≤ d.before ∧ d.after = 0) ∨ (d.action = 67 ∧ 1 ≤ d.before ∧ 1 ≤ d.after)) := by
  have h1 := hd.sample.1
  have h2 := hd.analyte.1
  have h3 := hd.before.1
  have h4 := hd.after.1
  unfold vdB
  constructor
  · intro h
    repeat' split at h
    all_goals simp_all
    all_goals omega
  · rintro ⟨a1, a2, h⟩
    rw [if_neg (by simp; omega), if_neg (by simp; omega)]
    rcases h with ⟨e, e1, e2⟩ | ⟨e, e1, e2⟩ | ⟨e, e1, e2⟩
    · rw [if_pos (by simp [e]), if_pos (by simp [e1])]; simp; omega
    · rw [if_neg (by simp [e]), if_pos (by simp [e]), if_pos (by simp; omega)]; simp [e2]
    · rw [if_neg (by simp [e]), if_neg (by simp [e]), if_pos (by simp [e]), if_pos (by simp; omega)]; simp; omega
def rpV (ea la : Int) (ds : List Diff) : Bool := if decide (la ≤ ea) then false else rpB none ds
theorem rpV_iff {ea la : Int} {ds : List Diff} : rpV ea la ds = true ↔ rpC ea la ds = 0 := by
  unfold rpV rpC
  split
  · simp
  · split <;> simp_all
section
variable (ρ : Operand → Value) (dst : Option Tmp) (x y : Operand) (ty : TypeId) (pos : String) (after : Array Edge) (guard : Option (Nat × Bool))
def bdRow2S (a b : Value) : Sem Value := Instr.build 109 #[(0, a), (1, b)]
theorem exec_bdRow2 : execOp ρ { dst, op := .build 109 #[(0, x), (1, y)], type := ty, pos, after, guard } = (do pure (.value (← bdRow2S (ρ x) (ρ y)))) := by simp [execOp, bdRow2S]
end
def rowDm (d : Diff) : Row := ⟨d.sample, d.analyte, 0, 0, 0, 0, 0, 0, 0, 0, 0, 0, 0⟩
theorem run_bdRow2 (w : World) (a b : Int) : (bdRow2S (.int .u32 a) (.int .u32 b)).run Tryz.prog w = .ok (.agg (rowCs ⟨a, b, 0, 0, 0, 0, 0, 0, 0, 0, 0, 0, 0⟩)) w := by kernel_rfl
theorem kbB_lt (a b : Diff) : kbB a b = true ↔ keyLt (rowDm a) (rowDm b) := by
  unfold kbB keyLt rowDm
  split
  · simp_all
  · split
    · simp_all
    · simp_all
attribute [local go_sem] ext_const Ext.cell Ext.frozen Ext.rng Ext.whole
attribute [local go_sem ↓] exec_ldDiff exec_stDiff exec_bdRow2
attribute [local go_sem] run_ldDiff run_stDiff run_bdRow2 diffCs_size whole_alloc_lt whole_alloc_at whole_drew setRow_alloc_at setRow_alloc_lt rng_alloc_lt rng_alloc_at rng_drew rng_drewN

set_option maxRecDepth 100000 in
set_option maxHeartbeats 8000000 in
theorem mvalidReport_calls (w : World) (ok : Nat → Prop) (ea la : Int) (a : Option Addr) (n cap : Nat) (ds : List Diff) (h : RArr w ok 5 diffCs (.slice a n cap) ds) (hok : ∀ d ∈ ds, d.Ok) :
    Calls Tryz.prog 165 #[.int .u32 ea, .int .u32 la, .slice a n cap] w fun e w' => e = .returned (.bool (rpV ea la ds)) ∧ Below w.heap.size w w' := by
  obtain ⟨R, hR⟩ : ∃ R, R = rpV ea la ds := ⟨_, rfl⟩
  rw [← hR]
  have HR := hide hR
  have HOK := hide hok
  obtain ⟨a', cap', b, off, hv, hl, hm, hr, ha, hc⟩ := RArr.lt h
  simp only [Value.slice.injEq] at hv
  obtain ⟨rfl, hn, rfl⟩ := hv
  have Hn : Hid (n = ds.length) := hn
  rw [← hn] at hl hr ha
  have hi := run_indexAt_arr (P := Tryz.prog) (n := n) (cap := cap) Tryz.underlying72 Tryz.size166_z (fun h => (ha h).1)
  have HB : Hid (0 < n → b < w.heap.size) := fun h => (ha h).2.2
  have HC := hide hc
  have hov : ∀ x : Diff, ones (diffCs x) 5 = true := fun _ => rfl
  clear ha hc hn hm hl h hR hok
  cases t0 : decide (la ≤ ea) with
  | true =>
    have t0' := of_decide_eq_true t0
    have HE : Hid (R = false) := HR.out.trans (by simp [rpV, t0'])
    go_enter Tryz.func165, Tryz.ntmps165
    go_wp2
    go_ret
    exact ⟨ret_boolH HE, Below.refl _ _⟩
  | false =>
    have t0' := of_decide_eq_false t0
    have HE : Hid (R = rpB (prevD ds 0) (ds.drop 0)) := HR.out.trans (by simp [rpV, t0', prevD_zero])
    have HB0 := hide (Below.refl w.heap.size w)
    go_enter Tryz.func165, Tryz.ntmps165
    go_upto_region 4 with fail
    clear t0 t0'
    go_loopg [14] n (fun gk j wr => ∃ q : Nat, q ≤ n ∧ gk = n - q ∧ j = .int .i64 q ∧ Hid (Below w.heap.size w wr) ∧ Hid (R = rpB (prevD ds q) (ds.drop q)))
    case atStart => exact ⟨0, by omega, by omega, rfl, HB0, HE⟩
    clear HB0 HE HR
    case round =>
      obtain ⟨q, hq, rfl, rfl, HBR, HE⟩ := hrel
      have hsr := HBR.out.size
      by_cases hlt : q < n
      · have hqs : q < ds.length := by rw [← Hn.out]; exact hlt
        have c0 := HC.out q hqs
        have hbb := HB.out (by omega)
        rw [← rng_of_block (HBR.out.block _ hbb)] at c0
        have hbw : b < wr.heap.size := by omega
        have HD : Hid (R = rpB (prevD ds q) (ds[q] :: ds.drop (q + 1))) := HE.out.trans (by rw [List.drop_eq_getElem_cons hqs])
        have HP : Hid (prevD ds (q + 1) = some ds[q]) := prevD_succ hqs
        obtain ⟨px, hpx⟩ : ∃ px : Diff, 0 < q → prevD ds q = some px ∧ rng wr b (off + (q - 1) * 5) 5 = some (diffCs px) := by
          by_cases h0 : 0 < q
          · have h1 : q - 1 < ds.length := by omega
            refine ⟨ds[q - 1], fun _ => ⟨?_, ?_⟩⟩
            · have := prevD_succ h1
              rwa [show q - 1 + 1 = q by omega] at this
            · rw [rng_of_block (HBR.out.block _ hbb)]
              exact HC.out (q - 1) h1
          · exact ⟨⟨0, 0, 0, 0, 0⟩, fun h => absurd h h0⟩
        have HDO := hide (HOK.out _ (List.getElem_mem hqs))
        generalize ds[q] = d at *
        have HPX := hide hpx
        clear hpx HE
        go_upto_region 6 with fail
        have hb1 : Below w.heap.size w (wr.alloc (.cells (diffCs d) 166)) := HBR.out.alloc hsr _
        have hk1 : (wr.alloc (.cells (diffCs d) 166)).heap[wr.heap.size]? = some (.cells (diffCs d) 166 (0, 0)) := heap_alloc_at _ _
        have hbk : ∀ o, rng (wr.alloc (.cells (diffCs d) 166)) b o 5 = rng wr b o 5 := fun o => rng_of_block (Below.heap_alloc _ _ _ hbw) _ _
        have hbw2 : b < (wr.alloc (.cells (diffCs d) 166)).heap.size := by simp; omega
        generalize (World.alloc wr _) = W1 at *
        generalize wr.heap.size = D at *
        have hl1 := blk_lt hk1
        have HB1 := hide hb1
        have HBK := hide hbk
        clear hb1 c0 hbk
        have HP2 : Hid (R = if vdB d then (if 0 < q then (if kbB px d then rpB (some d) (ds.drop (q + 1)) else false) else rpB (some d) (ds.drop (q + 1))) else false) := HD.out.trans (by
          cases hv : vdB d with
          | false => simp [rpB, hv]
          | true =>
            rcases Nat.eq_zero_or_pos q with h | h
            · subst h; simp [rpB, hv, prevD_zero]
            · simp [rpB, hv, (HPX.out h).1, h])
        clear HD
        have HDD : Hid (d = d) := rfl
        obtain ⟨dd, hdd⟩ : ∃ dd : Diff, dd = d := ⟨_, rfl⟩
        rw [← hdd] at HP2 HP HDO
        have HDS : Hid (dd.sample = d.sample ∧ dd.analyte = d.analyte ∧ dd.action = d.action ∧ dd.before = d.before ∧ dd.after = d.after) := by rw [hdd]; exact ⟨rfl, rfl, rfl, rfl, rfl⟩
        clear HDD hdd
        obtain ⟨ac, sm, an, bf, af⟩ := d
        have HDS : Hid (dd.sample = sm ∧ dd.analyte = an ∧ dd.action = ac ∧ dd.before = bf ∧ dd.after = af) := HDS
        have c0 : W1.cell? ⟨D, 0, none⟩ = some (.int .u8 ac) := cells_all hk1 0
        have c1 : W1.cell? ⟨D, 1, none⟩ = some (.int .u32 sm) := cells_all hk1 1
        have c2 : W1.cell? ⟨D, 2, none⟩ = some (.int .u32 an) := cells_all hk1 2
        have c3 : W1.cell? ⟨D, 3, none⟩ = some (.int .u32 bf) := cells_all hk1 3
        have c4 : W1.cell? ⟨D, 4, none⟩ = some (.int .u32 af) := cells_all hk1 4
        clear hk1
        by_cases hv : vdB dd = true
        case neg =>
          as_aux_lemma =>
          have HF : Hid (R = false) := HP2.out.trans (by rw [if_neg (by simpa using hv)])
          have HNV := hide hv
          clear hv
          cases qs : decide (sm < 1) with
          | true =>
            go_wp2
            go_ret
            exact ⟨ret_boolH HF, HB1.out⟩
          | false =>
            cases qn : decide (an < 1) with
            | true =>
              go_wp2
              go_ret
              exact ⟨ret_boolH HF, HB1.out⟩
            | false =>
              by_cases q78 : ac = 78
              · subst q78
                cases r1 : (bf == 0) with
                | false =>
                  go_wp2
                  go_ret
                  exact ⟨ret_boolH HF, HB1.out⟩
                | true =>
                  cases r2 : decide (1 ≤ af) with
                  | false =>
                    go_wp2
                    go_ret
                    exact ⟨ret_boolH HF, HB1.out⟩
                  | true =>
                    exfalso
                    refine HNV.out ((vdB_iff HDO.out).2 ?_)
                    obtain ⟨z1, z2, z3, z4, z5⟩ := HDS.out
                    rw [z1, z2, z3, z4, z5]
                    simp at r1 r2 qs qn
                    omega
              ·
                have u78 : (ac == 78) = false := by simpa using q78
                have v78 : (ac != 78) = true := by simpa using q78
                by_cases q87 : ac = 87
                · subst q87
                  cases r1 : decide (1 ≤ bf) with
                  | false =>
                    go_wp2
                    go_ret
                    exact ⟨ret_boolH HF, HB1.out⟩
                  | true =>
                    cases r2 : (af == 0) with
                    | false =>
                      go_wp2
                      go_ret
                      exact ⟨ret_boolH HF, HB1.out⟩
                    | true =>
                      exfalso
                      refine HNV.out ((vdB_iff HDO.out).2 ?_)
                      obtain ⟨z1, z2, z3, z4, z5⟩ := HDS.out
                      rw [z1, z2, z3, z4, z5]
                      simp at r1 r2 qs qn
                      omega
                ·
                  have u87 : (ac == 87) = false := by simpa using q87
                  have v87 : (ac != 87) = true := by simpa using q87
                  by_cases q67 : ac = 67
                  · subst q67
                    cases r1 : decide (1 ≤ bf) with
                    | false =>
                      go_wp2
                      go_ret
                      exact ⟨ret_boolH HF, HB1.out⟩
                    | true =>
                      cases r2 : decide (1 ≤ af) with
                      | false =>
                        go_wp2
                        go_ret
                        exact ⟨ret_boolH HF, HB1.out⟩
                      | true =>
                        exfalso
                        refine HNV.out ((vdB_iff HDO.out).2 ?_)
                        obtain ⟨z1, z2, z3, z4, z5⟩ := HDS.out
                        rw [z1, z2, z3, z4, z5]
                        simp at r1 r2 qs qn
                        omega
                  ·
                    have u67 : (ac == 67) = false := by simpa using q67
                    have v67 : (ac != 67) = true := by simpa using q67
                    clear q78 q87 q67
                    go_wp2
                    go_ret
                    exact ⟨ret_boolH HF, HB1.out⟩
        case pos =>
        have hv2 := (vdB_iff HDO.out).1 hv
        rw [HDS.out.1, HDS.out.2.1, HDS.out.2.2.1, HDS.out.2.2.2.1, HDS.out.2.2.2.2] at hv2
        have HV := hide hv
        have HDS : Hid (dd.sample = sm ∧ dd.analyte = an) := ⟨HDS.out.1, HDS.out.2.1⟩
        clear hv
        obtain ⟨g1, g2, g3⟩ := hv2
        have g1' : decide (sm < 1) = false := by simp; exact g1
        have g2' : decide (an < 1) = false := by simp; exact g2
        clear g1 g2
        rcases g3 with ⟨rfl, rfl, k1⟩ | ⟨rfl, k1, rfl⟩ | ⟨rfl, k1, k2⟩
        · as_aux_lemma =>
          have k1' : decide (1 ≤ af) = true := by simpa using k1
          clear k1
          go_upto_region 16 with fail
          obtain ⟨tk, htk⟩ : ∃ t, t = (decide (0 < q) && ! kbB px dd) := ⟨_, rfl⟩
          have HTK := hide htk
          clear htk
          go_cut [105] (fun t W => t = .bool tk ∧ Hid (Below W1.heap.size W1 W))
          case first =>
            as_aux_lemma =>
            by_cases h0 : 0 < q
            · obtain ⟨hp1, hp2⟩ := HPX.out h0
              rw [← HBK.out] at hp2
              have hix : ∀ W : World, (Instr.indexAt 72 (.slice a n cap) (.int .i64 ((q : Int) - 1))).run Tryz.prog W = .ok (.pointer (some ⟨b, off + (q - 1) * 5, none⟩)) W := fun W => by
                have := hi W ((q : Int) - 1) (by omega) (by omega)
                rwa [show ((q : Int) - 1).toNat = q - 1 by omega] at this
              have e1 : W1.cell? ⟨b, off + (q - 1) * 5 + 1, none⟩ = some (.int .u32 px.sample) := (rng_cell hp2).2 1 (by decide)
              have e2 : W1.cell? ⟨b, off + (q - 1) * 5 + 2, none⟩ = some (.int .u32 px.analyte) := (rng_cell hp2).2 2 (by decide)
              have HT3 : Hid ((! tk) = true ↔ keyLt ⟨px.sample, px.analyte, 0, 0, 0, 0, 0, 0, 0, 0, 0, 0, 0⟩ ⟨sm, an, 0, 0, 0, 0, 0, 0, 0, 0, 0, 0, 0⟩) := by
                show _ ↔ _
                rw [HTK.out]
                simp only [h0, decide_true, Bool.true_and, Bool.not_not]
                have := kbB_lt px dd
                unfold rowDm at this
                rw [HDS.out.1, HDS.out.2.1] at this
                exact this
              clear hp1 hp2
              refine wp_region_ext W1.heap.size (by kernel_rfl) (by kernel_rfl) ?_
              repeat (go_big_quiet_step ((go_at_call 153; refine ext_call (Nat.le_refl _) (before_calls _ _ _ (!tk) HT3.out))))
              refine wpQuiet_nil ?_
              intro _ hw'
              obtain ⟨x, hw2⟩ := hw'
              subst hw2
              go_wp2
              go_meet
              case rel => exact ⟨by first | rfl | rw [Bool.not_not], x.below⟩
            · have hq0 : q = 0 := by omega
              subst hq0
              obtain rfl : tk = false := HTK.out.trans (by simp)
              refine wp_region_ext W1.heap.size (by kernel_rfl) (by kernel_rfl) ?_
              repeat (go_big_quiet_step (fail))
              refine wpQuiet_nil ?_
              intro _ hw'
              obtain ⟨x, hw2⟩ := hw'
              subst hw2
              go_wp2
              go_meet
              case rel => exact ⟨rfl, x.below⟩
          case rest =>
          obtain ⟨rfl, HBC⟩ := hcut
          have HBW : Hid (Below w.heap.size w wc) := HB1.out.trans (HBC.out.mono HB1.out.size)
          cases hcd : tk with
          | true =>
            have HF : Hid (R = false) := HP2.out.trans (by
              have hc := HTK.out
              rw [hcd] at hc
              have hc := hc.symm
              simp only [Bool.and_eq_true, decide_eq_true_eq, Bool.not_eq_true'] at hc
              rw [if_pos (by simpa using HV.out), if_pos hc.1, if_neg (by simp [hc.2])])
            go_wp2
            go_ret
            exact ⟨ret_boolH HF, HBW.out⟩
          | false =>
            have HF : Hid (R = rpB (prevD ds (q + 1)) (ds.drop (q + 1))) := HP2.out.trans (by
              have hc := HTK.out
              rw [hcd] at hc
              have hc := hc.symm
              rw [if_pos (by simpa using HV.out), HP.out]
              by_cases h0 : 0 < q
              · rw [if_pos h0, if_pos (by simpa [h0] using hc)]
              · rw [if_neg h0])
            go_wp2
            go_roundg (n - (q + 1))
            case measure => omega
            case rel => exact ⟨q + 1, by omega, rfl, by go_num, HBW, HF⟩
        · as_aux_lemma =>
          have k1' : decide (1 ≤ bf) = true := by simpa using k1
          clear k1
          go_upto_region 16 with fail
          obtain ⟨tk, htk⟩ : ∃ t, t = (decide (0 < q) && ! kbB px dd) := ⟨_, rfl⟩
          have HTK := hide htk
          clear htk
          go_cut [105] (fun t W => t = .bool tk ∧ Hid (Below W1.heap.size W1 W))
          case first =>
            as_aux_lemma =>
            by_cases h0 : 0 < q
            · obtain ⟨hp1, hp2⟩ := HPX.out h0
              rw [← HBK.out] at hp2
              have hix : ∀ W : World, (Instr.indexAt 72 (.slice a n cap) (.int .i64 ((q : Int) - 1))).run Tryz.prog W = .ok (.pointer (some ⟨b, off + (q - 1) * 5, none⟩)) W := fun W => by
                have := hi W ((q : Int) - 1) (by omega) (by omega)
                rwa [show ((q : Int) - 1).toNat = q - 1 by omega] at this
              have e1 : W1.cell? ⟨b, off + (q - 1) * 5 + 1, none⟩ = some (.int .u32 px.sample) := (rng_cell hp2).2 1 (by decide)
              have e2 : W1.cell? ⟨b, off + (q - 1) * 5 + 2, none⟩ = some (.int .u32 px.analyte) := (rng_cell hp2).2 2 (by decide)
              have HT3 : Hid ((! tk) = true ↔ keyLt ⟨px.sample, px.analyte, 0, 0, 0, 0, 0, 0, 0, 0, 0, 0, 0⟩ ⟨sm, an, 0, 0, 0, 0, 0, 0, 0, 0, 0, 0, 0⟩) := by
                show _ ↔ _
                rw [HTK.out]
                simp only [h0, decide_true, Bool.true_and, Bool.not_not]
                have := kbB_lt px dd
                unfold rowDm at this
                rw [HDS.out.1, HDS.out.2.1] at this
                exact this
              clear hp1 hp2
              refine wp_region_ext W1.heap.size (by kernel_rfl) (by kernel_rfl) ?_
              repeat (go_big_quiet_step ((go_at_call 153; refine ext_call (Nat.le_refl _) (before_calls _ _ _ (!tk) HT3.out))))
              refine wpQuiet_nil ?_
              intro _ hw'
              obtain ⟨x, hw2⟩ := hw'
              subst hw2
              go_wp2
              go_meet
              case rel => exact ⟨by first | rfl | rw [Bool.not_not], x.below⟩
            · have hq0 : q = 0 := by omega
              subst hq0
              obtain rfl : tk = false := HTK.out.trans (by simp)
              refine wp_region_ext W1.heap.size (by kernel_rfl) (by kernel_rfl) ?_
              repeat (go_big_quiet_step (fail))
              refine wpQuiet_nil ?_
              intro _ hw'
              obtain ⟨x, hw2⟩ := hw'
              subst hw2
              go_wp2
              go_meet
              case rel => exact ⟨rfl, x.below⟩
          case rest =>
          obtain ⟨rfl, HBC⟩ := hcut
          have HBW : Hid (Below w.heap.size w wc) := HB1.out.trans (HBC.out.mono HB1.out.size)
          cases hcd : tk with
          | true =>
            have HF : Hid (R = false) := HP2.out.trans (by
              have hc := HTK.out
              rw [hcd] at hc
              have hc := hc.symm
              simp only [Bool.and_eq_true, decide_eq_true_eq, Bool.not_eq_true'] at hc
              rw [if_pos (by simpa using HV.out), if_pos hc.1, if_neg (by simp [hc.2])])
            go_wp2
            go_ret
            exact ⟨ret_boolH HF, HBW.out⟩
          | false =>
            have HF : Hid (R = rpB (prevD ds (q + 1)) (ds.drop (q + 1))) := HP2.out.trans (by
              have hc := HTK.out
              rw [hcd] at hc
              have hc := hc.symm
              rw [if_pos (by simpa using HV.out), HP.out]
              by_cases h0 : 0 < q
              · rw [if_pos h0, if_pos (by simpa [h0] using hc)]
              · rw [if_neg h0])
            go_wp2
            go_roundg (n - (q + 1))
            case measure => omega
            case rel => exact ⟨q + 1, by omega, rfl, by go_num, HBW, HF⟩
        · as_aux_lemma =>
          have k1' : decide (1 ≤ bf) = true := by simpa using k1
          have k2' : decide (1 ≤ af) = true := by simpa using k2
          clear k1 k2
          go_upto_region 16 with fail
          obtain ⟨tk, htk⟩ : ∃ t, t = (decide (0 < q) && ! kbB px dd) := ⟨_, rfl⟩
          have HTK := hide htk
          clear htk
          go_cut [105] (fun t W => t = .bool tk ∧ Hid (Below W1.heap.size W1 W))
          case first =>
            as_aux_lemma =>
            by_cases h0 : 0 < q
            · obtain ⟨hp1, hp2⟩ := HPX.out h0
              rw [← HBK.out] at hp2
              have hix : ∀ W : World, (Instr.indexAt 72 (.slice a n cap) (.int .i64 ((q : Int) - 1))).run Tryz.prog W = .ok (.pointer (some ⟨b, off + (q - 1) * 5, none⟩)) W := fun W => by
                have := hi W ((q : Int) - 1) (by omega) (by omega)
                rwa [show ((q : Int) - 1).toNat = q - 1 by omega] at this
              have e1 : W1.cell? ⟨b, off + (q - 1) * 5 + 1, none⟩ = some (.int .u32 px.sample) := (rng_cell hp2).2 1 (by decide)
              have e2 : W1.cell? ⟨b, off + (q - 1) * 5 + 2, none⟩ = some (.int .u32 px.analyte) := (rng_cell hp2).2 2 (by decide)
              have HT3 : Hid ((! tk) = true ↔ keyLt ⟨px.sample, px.analyte, 0, 0, 0, 0, 0, 0, 0, 0, 0, 0, 0⟩ ⟨sm, an, 0, 0, 0, 0, 0, 0, 0, 0, 0, 0, 0⟩) := by
                show _ ↔ _
                rw [HTK.out]
                simp only [h0, decide_true, Bool.true_and, Bool.not_not]
                have := kbB_lt px dd
                unfold rowDm at this
                rw [HDS.out.1, HDS.out.2.1] at this
                exact this
              clear hp1 hp2
              refine wp_region_ext W1.heap.size (by kernel_rfl) (by kernel_rfl) ?_
              repeat (go_big_quiet_step ((go_at_call 153; refine ext_call (Nat.le_refl _) (before_calls _ _ _ (!tk) HT3.out))))
              refine wpQuiet_nil ?_
              intro _ hw'
              obtain ⟨x, hw2⟩ := hw'
              subst hw2
              go_wp2
              go_meet
              case rel => exact ⟨by first | rfl | rw [Bool.not_not], x.below⟩
            · have hq0 : q = 0 := by omega
              subst hq0
              obtain rfl : tk = false := HTK.out.trans (by simp)
              refine wp_region_ext W1.heap.size (by kernel_rfl) (by kernel_rfl) ?_
              repeat (go_big_quiet_step (fail))
              refine wpQuiet_nil ?_
              intro _ hw'
              obtain ⟨x, hw2⟩ := hw'
              subst hw2
              go_wp2
              go_meet
              case rel => exact ⟨rfl, x.below⟩
          case rest =>
          obtain ⟨rfl, HBC⟩ := hcut
          have HBW : Hid (Below w.heap.size w wc) := HB1.out.trans (HBC.out.mono HB1.out.size)
          cases hcd : tk with
          | true =>
            have HF : Hid (R = false) := HP2.out.trans (by
              have hc := HTK.out
              rw [hcd] at hc
              have hc := hc.symm
              simp only [Bool.and_eq_true, decide_eq_true_eq, Bool.not_eq_true'] at hc
              rw [if_pos (by simpa using HV.out), if_pos hc.1, if_neg (by simp [hc.2])])
            go_wp2
            go_ret
            exact ⟨ret_boolH HF, HBW.out⟩
          | false =>
            have HF : Hid (R = rpB (prevD ds (q + 1)) (ds.drop (q + 1))) := HP2.out.trans (by
              have hc := HTK.out
              rw [hcd] at hc
              have hc := hc.symm
              rw [if_pos (by simpa using HV.out), HP.out]
              by_cases h0 : 0 < q
              · rw [if_pos h0, if_pos (by simpa [h0] using hc)]
              · rw [if_neg h0])
            go_wp2
            go_roundg (n - (q + 1))
            case measure => omega
            case rel => exact ⟨q + 1, by omega, rfl, by go_num, HBW, HF⟩
      · have HF : Hid (R = true) := HE.out.trans (by rw [List.drop_of_length_le (by rw [← Hn.out]; omega)]; simp [rpB])
        go_wp2
        go_ret
        exact ⟨ret_boolH HF, HBR.out⟩
end Go.Proofs.Qxb6500666aGreatDoor
