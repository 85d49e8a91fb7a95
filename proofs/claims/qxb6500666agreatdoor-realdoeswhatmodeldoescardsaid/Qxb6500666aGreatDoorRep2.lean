/- checkReport, RenderReport, walked. (Made by tools/mk_rep2.py.) -/
import Derived.Test.Qxb6500666aGreatDoorRep
import Derived.Test.Qxb6500666aGreatDoorRenderWalk
namespace Go.Proofs.Qxb6500666aGreatDoor
open Go.RowKit

def rpB : Option Diff → List Diff → Bool
  | _, [] => true
  | p, d :: ds => if ! vdB d then false else match p with
    | none => rpB (some d) ds
    | some x => if ! kbB x d then false else rpB (some d) ds
def prevD (ds : List Diff) (q : Nat) : Option Diff := if q = 0 then none else ds[q - 1]?
def rpC (ea la : Int) (ds : List Diff) : Int := if decide (la ≤ ea) then 29 else if rpB none ds then 0 else 29
theorem prevD_zero (ds : List Diff) : prevD ds 0 = none := rfl
theorem prevD_succ {ds : List Diff} {q : Nat} (h : q < ds.length) : prevD ds (q + 1) = some ds[q] := by simp [prevD, h]

attribute [local go_sem] ext_const Ext.cell Ext.frozen Ext.rng Ext.whole
attribute [local go_sem ↓] exec_ldDiff exec_stDiff
attribute [local go_sem] run_ldDiff run_stDiff diffCs_size whole_alloc_lt whole_alloc_at whole_drew setRow_alloc_at setRow_alloc_lt rng_alloc_lt rng_alloc_at rng_drew rng_drewN

set_option maxRecDepth 100000 in
set_option maxHeartbeats 4000000 in
theorem checkReport_calls (w : World) (ok : Nat → Prop) (ea la : Int) (a : Option Addr) (n cap : Nat) (ds : List Diff) (h : RArr w ok 5 diffCs (.slice a n cap) ds) :
    Calls Tryz.prog 124 #[.int .u32 ea, .int .u32 la, .slice a n cap] w fun e w' => e = .returned (errV (rpC ea la ds)) ∧ Below w.heap.size w w' := by
  obtain ⟨R, hR⟩ : ∃ R, R = rpC ea la ds := ⟨_, rfl⟩
  rw [← hR]
  have HR := hide hR
  obtain ⟨a', cap', b, off, hv, hl, hm, hr, ha, hc⟩ := RArr.lt h
  simp only [Value.slice.injEq] at hv
  obtain ⟨rfl, hn, rfl⟩ := hv
  have Hn : Hid (n = ds.length) := hn
  rw [← hn] at hl hr ha
  have hi := run_indexAt_arr (P := Tryz.prog) (n := n) (cap := cap) Tryz.underlying72 Tryz.size166_z (fun h => (ha h).1)
  have HB : Hid (0 < n → b < w.heap.size) := fun h => (ha h).2.2
  have HC := hide hc
  have hov : ∀ x : Diff, ones (diffCs x) 5 = true := fun _ => rfl
  clear ha hc hn hm hl h hR
  cases t0 : decide (la ≤ ea) with
  | true =>
    have t0' := of_decide_eq_true t0
    have HE : Hid (R = 29) := HR.out.trans (by simp [rpC, t0'])
    go_enter Tryz.func124, Tryz.ntmps124
    go_wp2
    go_ret
    rw [HE.out]
    exact ⟨rfl, Below.refl _ _⟩
  | false =>
    have t0' := of_decide_eq_false t0
    have HE : Hid (R = if rpB (prevD ds 0) (ds.drop 0) then 0 else 29) := HR.out.trans (by simp [rpC, t0', prevD_zero])
    have HB0 := hide (Below.refl w.heap.size w)
    go_enter Tryz.func124, Tryz.ntmps124
    go_upto_region 4 with fail
    go_loopg [15] n (fun gk j wr => ∃ q : Nat, q ≤ n ∧ gk = n - q ∧ j = .int .i64 q ∧ Hid (Below w.heap.size w wr) ∧ Hid (R = if rpB (prevD ds q) (ds.drop q) then 0 else 29))
    case atStart => exact ⟨0, by omega, by omega, rfl, HB0, HE⟩
    clear HB0 HE HR
    case round =>
      obtain ⟨q, hq, rfl, rfl, HBR, HE⟩ := hrel
      have hsr := HBR.out.size
      by_cases hlt : q < n
      · have hqs : q < ds.length := by rw [← Hn.out]; exact hlt
        have c0 := HC.out q hqs
        have hbb := HB.out (by omega)
        rw [← rng_of_block (HBR.out.block _ hbb)] at c0
        have hbw : b < wr.heap.size := by omega
        have HD : Hid (R = if rpB (prevD ds q) (ds[q] :: ds.drop (q + 1)) then 0 else 29) := HE.out.trans (by rw [List.drop_eq_getElem_cons hqs])
        have HP : Hid (prevD ds (q + 1) = some ds[q]) := prevD_succ hqs
        obtain ⟨px, hpx⟩ : ∃ px : Diff, 0 < q → prevD ds q = some px ∧ rng wr b (off + (q - 1) * 5) 5 = some (diffCs px) := by
          by_cases h0 : 0 < q
          · have h1 : q - 1 < ds.length := by omega
            refine ⟨ds[q - 1], fun _ => ⟨?_, ?_⟩⟩
            · have := prevD_succ h1
              rwa [show q - 1 + 1 = q by omega] at this
            · rw [rng_of_block (HBR.out.block _ hbb)]
              exact HC.out (q - 1) h1
          · exact ⟨⟨0, 0, 0, 0, 0⟩, fun h => absurd h h0⟩
        generalize ds[q] = d at *
        have HPX := hide hpx
        clear hpx HE
        go_upto_region 6 with fail
        have hb1 : Below w.heap.size w (wr.alloc (.cells (diffCs d) 166)) := HBR.out.alloc hsr _
        have hr1 : rng (wr.alloc (.cells (diffCs d) 166)) wr.heap.size 0 5 = some (diffCs d) := rng_whole (heap_alloc_at _ _)
        have hl1 : wr.heap.size < (wr.alloc (.cells (diffCs d) 166)).heap.size := by simp
        have hbk : ∀ o, rng (wr.alloc (.cells (diffCs d) 166)) b o 5 = rng wr b o 5 := fun o => rng_of_block (Below.heap_alloc _ _ _ hbw) _ _
        have hbw2 : b < (wr.alloc (.cells (diffCs d) 166)).heap.size := by simp; omega
        generalize (World.alloc wr _) = W1 at *
        have HB1 := hide hb1
        have HBK := hide hbk
        clear hb1 c0 hbk
        obtain ⟨tv, htv⟩ : ∃ t, t = vdB d := ⟨_, rfl⟩
        have HTV := hide htv
        obtain ⟨tk, htk⟩ : ∃ t, t = kbB px d := ⟨_, rfl⟩
        have HTK := hide htk
        obtain ⟨cond, hcond⟩ : ∃ c : Bool, c = (! tv || (decide (0 < q) && ! tk)) := ⟨_, rfl⟩
        have HCO := hide hcond
        clear htv htk hcond
        go_cut [36] (fun t W => t = .bool cond ∧ Hid (Below W1.heap.size W1 W))
        case first =>
          as_aux_lemma =>
            refine wp_region_ext W1.heap.size (by kernel_rfl) (by kernel_rfl) ?_
            have HVD : Hid (∀ X : World, Calls Tryz.prog 168 #[.agg (diffCs d)] X fun e w' => e = .returned (.bool tv) ∧ Below X.heap.size X w') := fun X => by rw [HTV.out]; exact validDiff_calls X d
            have HKB : Hid (∀ X : World, Calls Tryz.prog 169 #[.agg (diffCs px), .agg (diffCs d)] X fun e w' => e = .returned (.bool tk) ∧ Below X.heap.size X w') := fun X => by rw [HTK.out]; exact keyBefore_calls X px d
            cases tv with
            | false =>
              obtain rfl : cond = true := HCO.out.trans rfl
              repeat (go_big_quiet_step ((go_at_call 168; refine ext_call (Nat.le_refl _) (HVD.out _))))
              refine wpQuiet_nil ?_
              intro _ hw'
              obtain ⟨x, hw2⟩ := hw'
              subst hw2
              go_wp2
              go_meet
              case rel => exact ⟨rfl, x.below⟩
            | true =>
              by_cases h0 : 0 < q
              · obtain ⟨hp1, hp2⟩ := HPX.out h0
                rw [← HBK.out] at hp2
                have hix : ∀ W : World, (Instr.indexAt 72 (.slice a n cap) (.int .i64 ((q : Int) - 1))).run Tryz.prog W = .ok (.pointer (some ⟨b, off + (q - 1) * 5, none⟩)) W := fun W => by
                  have := hi W ((q : Int) - 1) (by omega) (by omega)
                  rwa [show ((q : Int) - 1).toNat = q - 1 by omega] at this
                have hq0 : decide ((0 : Int) < q) = true := by simpa using h0
                have hcond : cond = ! tk := HCO.out.trans (by simp [h0])
                repeat (go_big_quiet_step ((first | (go_at_call 168; refine ext_call (Nat.le_refl _) (HVD.out _)) | (go_at_call 169; refine ext_call (Nat.le_refl _) (HKB.out _)))))
                refine wpQuiet_nil ?_
                intro _ hw'
                obtain ⟨x, hw2⟩ := hw'
                subst hw2
                go_wp2
                go_meet
                case rel => exact ⟨by rw [hcond], x.below⟩
              · have hq0 : q = 0 := by omega
                subst hq0
                obtain rfl : cond = false := HCO.out.trans (by simp)
                repeat (go_big_quiet_step ((go_at_call 168; refine ext_call (Nat.le_refl _) (HVD.out _))))
                refine wpQuiet_nil ?_
                intro _ hw'
                obtain ⟨x, hw2⟩ := hw'
                subst hw2
                go_wp2
                go_meet
                case rel => exact ⟨rfl, x.below⟩
        case rest =>
          obtain ⟨rfl, HBC⟩ := hcut
          have HBW : Hid (Below w.heap.size w wc) := HB1.out.trans (HBC.out.mono HB1.out.size)
          cases hcd : cond with
          | true =>
            have HF : Hid (R = 29) := HD.out.trans (by
              have hc := HCO.out
              rw [hcd, HTV.out, HTK.out] at hc
              cases hv : vdB d with
              | false => simp [rpB, hv]
              | true =>
                rw [hv] at hc
                have h0 : 0 < q := by
                  rcases Nat.eq_zero_or_pos q with h | h
                  · simp [h] at hc
                  · exact h
                obtain ⟨hp1, -⟩ := HPX.out h0
                have hk : kbB px d = false := by simpa [h0] using hc.symm
                simp [rpB, hv, hp1, hk])
            go_wp2
            go_ret
            rw [HF.out]
            exact ⟨rfl, HBW.out⟩
          | false =>
            have HF : Hid (R = if rpB (prevD ds (q + 1)) (ds.drop (q + 1)) then 0 else 29) := HD.out.trans (by
              have hc := HCO.out
              rw [hcd, HTV.out, HTK.out] at hc
              have hv : vdB d = true := by
                cases hv : vdB d with
                | true => rfl
                | false => rw [hv] at hc; simp at hc
              rw [HP.out]
              rcases Nat.eq_zero_or_pos q with h | h
              · subst h
                simp [rpB, hv, prevD_zero]
              · obtain ⟨hp1, -⟩ := HPX.out h
                rw [hv] at hc
                have hk : kbB px d = true := by simpa [h] using hc.symm
                simp [rpB, hv, hp1, hk])
            go_wp2
            go_roundg (n - (q + 1))
            case measure => omega
            case rel => exact ⟨q + 1, by omega, rfl, by go_num, HBW, HF⟩
      · have HF : Hid (R = 0) := HE.out.trans (by rw [List.drop_of_length_le (by rw [← Hn.out]; omega)]; simp [rpB])
        go_wp2
        go_ret
        rw [HF.out]
        exact ⟨rfl, HBR.out⟩

end Go.Proofs.Qxb6500666aGreatDoor
