/- The model's inKeyOrder. -/
import Derived.Test.Qxb6500666aGreatDoorMdA
import Derived.Test.Qxb6500666aGreatDoorAsCur
namespace Go.Proofs.Qxb6500666aGreatDoor
open Go.RowKit
def befB (a b : Row) : Bool := decide (a.sample < b.sample) || ((a.sample == b.sample) && decide (a.analyte < b.analyte))
theorem befB_lt (a b : Row) : befB a b = true ↔ keyLt a b := by
  unfold befB keyLt
  simp
/-- Put into its place. -/
def insK (out : List Row) (r : Row) : List Row := out.takeWhile (befB · r) ++ r :: out.dropWhile (befB · r)
def ordK (rows : List Row) : List Row := rows.foldl insK []
theorem while_eq {f : Row → Bool} : ∀ {l : List Row} {p : Nat}, (∀ k (h : k < l.length), k < p → f l[k] = true) → p ≤ l.length → (∀ (h : p < l.length), f l[p] = false) → l.takeWhile f = l.take p ∧ l.dropWhile f = l.drop p
  | [], p, _, h, _ => by
    have : p = 0 := by simpa using h
    subst this
    exact ⟨rfl, rfl⟩
  | x :: l, 0, _, _, h => by
    have h0 : f x = false := h (by simp)
    rw [List.takeWhile_cons, List.dropWhile_cons, h0]
    exact ⟨rfl, rfl⟩
  | x :: l, p + 1, h1, h2, h3 => by
    have h0 : f x = true := h1 0 (by simp) (by omega)
    have ih := while_eq (l := l) (p := p) (fun k hk hp => h1 (k + 1) (by simpa using hk) (by omega)) (by simpa using h2) (fun hp => h3 (by simpa using hp))
    rw [List.takeWhile_cons, List.dropWhile_cons, h0]
    exact ⟨by simp [ih.1], by simp [ih.2]⟩
theorem insK_len (out : List Row) (r : Row) : (insK out r).length = out.length + 1 := by
  have h := congrArg List.length (List.takeWhile_append_dropWhile (p := (befB · r)) (l := out))
  unfold insK
  rw [List.length_append] at h ⊢
  simp only [List.length_cons]
  omega
theorem run_slToS {P : Program} {t e : TypeId} (ht : P.underlying t = some (.slice e)) {size : Nat} (hs : ∀ w, (sizeOf e).run P w = .ok size w) {a : Option Addr} {n cap : Nat} (hA : a = none ∨ ∃ b off, a = some ⟨b, off, none⟩) (hcap : n ≤ cap) (i : Nat) (hi : i ≤ n) (w : World) :
    (Instr.sliceAt t (.slice a n cap) none (some (.int .i64 (i : Int))) none).run P w = .ok (.slice a i cap) w := by
  have h2 : i ≤ cap := by omega
  rcases hA with rfl | ⟨b, off, rfl⟩
  · simp [Instr.sliceAt, Instr.slice, run_underlying ht, hs, Instr.sliceBounds, Instr.sliceBound, asIntOf, h2]
  · simp [Instr.sliceAt, Instr.slice, run_underlying ht, hs, Instr.sliceBounds, Instr.sliceBound, asIntOf, h2, Addr.add_lit]
attribute [local go_sem] ext_const Ext.cell Ext.frozen Ext.rng Ext.whole
attribute [local go_sem ↓] exec_ldRow exec_stRow exec_bsRow
attribute [local go_sem] run_ldRow run_stRow run_bsRow rowCs_size rowCs_ones rowCs_all whole_alloc_lt whole_alloc_at whole_drew setRow_alloc_at setRow_alloc_lt setRow_drew rng_alloc_lt rng_alloc_at rng_drew rng_drewN

set_option maxRecDepth 100000 in
set_option maxHeartbeats 8000000 in
theorem inKey_calls (w : World) (ok : Nat → Prop) (a : Option Addr) (n cap : Nat) (rows : List Row) (h : RArr w ok 13 rowCs (.slice a n cap) rows) (hlen : n ≤ 10000000) :
    Calls Tryz.prog 186 #[.slice a n cap] w fun e w' => ∃ v, e = .returned v ∧ OwnR w' w.heap.size 109 13 rowCs v (ordK rows) ∧ Below w.heap.size w w' := by
  obtain ⟨R, hR⟩ : ∃ R, R = ordK rows := ⟨_, rfl⟩
  rw [← hR]
  have HR : Hid (R = (rows.drop 0).foldl insK []) := hR
  obtain ⟨a', cap', b, off, hv, hl, hm, hr, ha, hc⟩ := RArr.lt h
  simp only [Value.slice.injEq] at hv
  obtain ⟨rfl, hn, rfl⟩ := hv
  have Hn : Hid (n = rows.length) := hn
  rw [← hn] at hl hr ha
  have hi := run_indexAt_arr (P := Tryz.prog) (n := n) (cap := cap) Tryz.underlying150 Tryz.size109 (fun h => (ha h).1)
  have HB : Hid (0 < n → b < w.heap.size) := fun h => (ha h).2.2
  have HC := hide hc
  clear ha hc hn hm hl h hR
  have HO0 : Hid (OwnR w w.heap.size 109 13 rowCs (.slice none 0 0) []) := OwnR.nil _ _ _ _ _
  have HB0 := hide (Below.refl w.heap.size w)
  go_enter Tryz.func186, Tryz.ntmps186
  go_upto_region 3 with fail
  go_loopg [3, 10] n (fun gk ov j W => ∃ (q : Nat) (oa : Option Addr) (oc : Nat) (out : List Row), q ≤ n ∧ gk = n - q ∧ ov = .slice oa q oc ∧ j = .int .i64 q ∧ Hid (out.length = q) ∧ Hid (OwnR W w.heap.size 109 13 rowCs (.slice oa q oc) out) ∧ Hid (Below w.heap.size w W) ∧ Hid (R = (rows.drop q).foldl insK out))
  case atStart => exact ⟨0, none, 0, [], by omega, by omega, rfl, rfl, rfl, HO0, HB0, HR⟩
  clear HB0 HR HO0
  case round =>
    obtain ⟨q, oa, oc, out, hq, rfl, rfl, rfl, HOL, HOW, HBR, HE⟩ := hrel
    have hsr := HBR.out.size
    by_cases hlt : q < n
    · have hqs : q < rows.length := by rw [← Hn.out]; exact hlt
      have hbb := HB.out (by omega)
      have c0 := HC.out q hqs
      rw [← rng_of_block (HBR.out.block _ hbb)] at c0
      have hbw : b < wr.heap.size := by omega
      have HD : Hid (R = (rows.drop (q + 1)).foldl insK (insK out rows[q])) := HE.out.trans (by rw [List.drop_eq_getElem_cons hqs]; rfl)
      generalize rows[q] = r at *
      clear HE
      go_upto_region 6 with fail
      have hb2 : Below wr.heap.size wr (wr.alloc (.cells (rowCs r) 109)) := (Below.refl _ _).alloc (Nat.le_refl _) _
      have hkx : (wr.alloc (.cells (rowCs r) 109)).heap[wr.heap.size]? = some (.cells (rowCs r) 109 (0, 0)) := heap_alloc_at _ _
      generalize wr.alloc (.cells (rowCs r) 109) = V at *
      have HV : Hid (Below w.heap.size w V) := HBR.out.trans (hb2.mono hsr)
      have HOV := hide (HOW.out.below hb2 (Nat.le_refl _))
      have HKX := hide hkx
      have zx := blk_lt hkx
      obtain ⟨ra, rc, ob, oo, re, rl1, rl2, rl3, rha, rhc⟩ := RArr.lt (HOV.out.rows rowCs_size (by decide) (by rw [HOL.out]; omega))
      injection re with re1 re2 re3
      subst re1
      subst re3
      rw [HOL.out] at rha rl1
      have hio := run_indexAt_arr (P := Tryz.prog) (n := q) (cap := oc) Tryz.underlying150 Tryz.size109 (fun h => (rha h).1)
      have HOB : Hid (0 < q → oa = some ⟨ob, oo, none⟩ ∧ ob < V.heap.size) := fun h => ⟨(rha h).1, (rha h).2.2⟩
      have HOC := hide rhc
      have HNL : Hid (oa = none → oc = 0) := rl2.2
      have HAF : Hid (oa = none ∨ ∃ b off, oa = some ⟨b, off, none⟩) := by
        rcases HOV.out.2 with ⟨h1, h2⟩ | ⟨g, c, cur, h1, -⟩
        · injection h1 with h1; exact Or.inl h1
        · injection h1 with h1; exact Or.inr ⟨g, 0, h1⟩
      clear c0 hbw hb2 hkx HBR HOW re2 rl2 rl3 rha rhc
      generalize wr.heap.size = D at *
      have HBV := hide (Below.refl V.heap.size V)
      have HP0 : Hid (∀ k (h : k < out.length), k < 0 → befB out[k] r = true) := fun k h h' => absurd h' (Nat.not_lt_zero _)
      go_loopg [6] q (fun gk j W => ∃ p : Nat, p ≤ q ∧ gk = q - p ∧ j = .int .i64 p ∧ Hid (∀ k (h : k < out.length), k < p → befB out[k] r = true) ∧ Hid (Below V.heap.size V W))
      case atStart => exact ⟨0, by omega, by omega, rfl, HP0, HBV⟩
      clear HP0 HBV
      case round =>
        obtain ⟨p, hp, rfl, rfl, HPR, HBW⟩ := hrel
        have hsw := HBW.out.size
        have rD : rng wr D 0 13 = some (rowCs r) := (rng_of_block (HBW.out.block _ zx) _ _).trans (rng_whole HKX.out)
        have zD : D < wr.heap.size := by omega
        obtain ⟨t, ht⟩ : ∃ t : Bool, t = (if h : p < out.length then befB out[p] r else false) := ⟨_, rfl⟩
        have HT := hide ht
        clear ht
        go_upto_region 6 with fail
        go_cut [25] (fun v W => v = .bool t ∧ Hid (Below wr.heap.size wr W))
        case first =>
          as_aux_lemma =>
          by_cases hpq : p < q
          · have hpo : p < out.length := by rw [HOL.out]; exact hpq
            obtain ⟨ho1, ho2⟩ := HOB.out (by omega)
            have rp : rng wr ob (oo + p * 13) 13 = some (rowCs out[p]) := (rng_of_block (HBW.out.block _ ho2) _ _).trans (HOC.out p hpo)
            have zo : ob < wr.heap.size := by omega
            have HT3 : Hid (t = true ↔ keyLt out[p] r) := by show _ ↔ _; rw [HT.out, dif_pos hpo]; exact befB_lt _ _
            generalize out[p] = x at *
            clear HT
            refine wp_region_ext wr.heap.size (by kernel_rfl) (by kernel_rfl) ?_
            repeat (go_big_quiet_step ((go_at_call 153; refine ext_call (Nat.le_refl _) (before_calls _ _ _ t HT3.out))))
            refine wpQuiet_nil ?_
            intro _ hw'
            obtain ⟨x, hw2⟩ := hw'
            subst hw2
            go_wp2
            go_meet
            case rel => exact ⟨rfl, x.below⟩
          · obtain rfl : p = q := by omega
            obtain rfl : t = false := HT.out.trans (by rw [dif_neg (by rw [HOL.out]; omega)])
            refine wp_region_ext wr.heap.size (by kernel_rfl) (by kernel_rfl) ?_
            repeat (go_big_quiet_step (fail))
            refine wpQuiet_nil ?_
            intro _ hw'
            obtain ⟨x, hw2⟩ := hw'
            subst hw2
            go_wp2
            go_meet
            case rel => exact ⟨rfl, x.below⟩
        case rest =>
        obtain ⟨rfl, HBc⟩ := hcut
        have HBU : Hid (Below V.heap.size V wc) := HBW.out.trans (HBc.out.mono HBW.out.size)
        clear HBc rD zD
        cases t with
        | true =>
          have HLT : Hid (p < q ∧ ∀ (h : p < out.length), befB out[p] r = true) := by
            have h1 := HT.out
            by_cases hpo : p < out.length
            · rw [dif_pos hpo] at h1
              exact ⟨by rw [← HOL.out]; exact hpo, fun _ => h1.symm⟩
            · rw [dif_neg hpo] at h1
              cases h1
          have hpq := HLT.out.1
          clear HT
          go_wp2
          go_roundg (q - (p + 1))
          case measure => omega
          case rel =>
            refine ⟨p + 1, by omega, rfl, by go_num, fun k hk hkp => ?_, HBU⟩
            by_cases e : k = p
            · subst e; exact HLT.out.2 hk
            · exact HPR.out k hk (by omega)
        | false =>
          have HWE : Hid (out.takeWhile (befB · r) = out.take p ∧ out.dropWhile (befB · r) = out.drop p) := while_eq (f := (befB · r)) HPR.out (by rw [HOL.out]; exact hp) (fun h => by have h1 := HT.out; rw [dif_pos h] at h1; exact h1.symm)
          clear HT HPR HBW hsw
          generalize wc = U at *
          have hUV := HBU.out.size
          have HUw : Hid (Below w.heap.size w U) := HV.out.trans (HBU.out.mono HV.out.size)
          have hUz := HUw.out.size
          have hsl1 := fun W => run_slToS (P := Tryz.prog) Tryz.underlying150 Tryz.size109 (a := oa) (n := q) (cap := oc) HAF.out rl1 p hp W
          obtain ⟨ao, hsl2', hao, hanil⟩ := run_slFrom (P := Tryz.prog) Tryz.underlying150 Tryz.size109 (a := oa) (b := ob) (off := oo) (n := q) (cap := oc) (fun h => (HOB.out h).1) rl1 HNL.out p hp
          have hsl2 : ∀ W, (Instr.sliceAt 150 (.slice oa q oc) (some (.int .i64 (p : Int))) none none).run Tryz.prog W = .ok (.slice ao (q - p) (oc - p)) W := hsl2'
          have HAO := hide hao
          have HAN := hide hanil
          clear hao hanil hsl2'
          go_upto_region 10 with (at_builtin; refine wpList_appN (α := Row) rfl _ _ 150 rfl w.heap.size 109 rowCs Tryz.underlying150 Tryz.info109 rfl (by decide) rowCs_size rowCs_one (.slice none 0 0) [] rfl (OwnR.nil _ _ _ _ _) oa p oc rfl (out.take p) (by rw [List.length_take, HOL.out]; omega) HNL.out (fun hp9 => ⟨ob, oo, (HOB.out (by omega)).1, fun i hi => by rw [List.length_take] at hi; rw [List.getElem_take]; exact (rng_of_block (HBU.out.block _ (HOB.out (by omega)).2) _ _).trans (HOC.out i (by omega))⟩) (by simp; omega) (by simp; unfold maxLen; omega) hUz ?_; intro v7 w7 hown7 hsame7 hbel7 hat7; obtain ⟨a7, c7, hv7⟩ := hown7.form; rw [List.nil_append, List.length_take, HOL.out, Nat.min_eq_left hp] at hv7; subst hv7; rw [List.nil_append] at hown7)
          have HS7 : Hid (∀ k, k < U.heap.size → w7.heap[k]? = U.heap[k]?) := fun k hk => hsame7 k ⟨hk, fun e => nomatch (show (none : Option Nat) = some k from e)⟩
          have hz7 : U.heap.size ≤ w7.heap.size := hbel7.size
          have HO7 := hide hown7
          have HB7 : Hid (Below w.heap.size w w7) := HUw.out.trans hbel7
          have HN7 : Hid (∀ k, (Value.slice a7 p c7).ownBlock = some k → U.heap.size ≤ k) := fun k e => hat7.elim (fun h => nomatch (show (none : Option Nat) = some k from h.symm.trans e)) (fun h => by have := Option.some.inj (h.symm.trans e); omega)
          have rD7 : rng w7 D 0 13 = some (rowCs r) := (rng_of_block ((HS7.out D (by omega)).trans (HBU.out.block _ zx)) _ _).trans (rng_whole HKX.out)
          have zD7 : D < w7.heap.size := by omega
          have hw7 := HB7.out.size
          have hpl : (out.take p).length = p := by rw [List.length_take, HOL.out]; omega
          have HPL := hide hpl
          clear hown7 hsame7 hbel7 hat7 hpl
          go_upto_region 11 with (at_builtin; refine wpList_app1 (α := Row) rfl _ _ 150 rfl w.heap.size 109 rowCs Tryz.underlying150 Tryz.info109 rfl (by decide) rowCs_size rowCs_one (.slice a7 p c7) (out.take p) rfl (OwnR.below HO7.out ((Below.refl _ _).alloc (Nat.le_refl _) _) (Nat.le_refl _)) _ rfl r (rng_whole (heap_alloc_at _ _)) (by rw [HPL.out]; omega) (by rw [HPL.out]; unfold maxLen; omega) (by simp only [World.size_alloc]; omega) ?_; intro v8 w8 hown8 hsame8 hbel8 hat8; obtain ⟨a8, c8, hv8⟩ := hown8.form; rw [List.length_append, HPL.out, List.length_singleton] at hv8; subst hv8)
          have HS8 : Hid (∀ k, k < U.heap.size → w8.heap[k]? = U.heap[k]?) := fun k hk => (hsame8 k ⟨by simp only [World.size_alloc]; omega, fun e => by have := HN7.out k e; omega⟩).trans ((((Below.refl w7.heap.size w7).alloc (Nat.le_refl _) _).block k (by omega)).trans (HS7.out k hk))
          have HO8 := hide hown8
          have HB8 : Hid (Below w.heap.size w w8) := (HB7.out.alloc hw7 _).trans hbel8
          have hw8 := HB8.out.size
          have HL8 : Hid ((out.take p ++ [r]).length = p + 1) := by show _ = _; rw [List.length_append, HPL.out]; rfl
          have hz8 : U.heap.size ≤ w8.heap.size := by have := hbel8.size; simp only [World.size_alloc] at this; omega
          have HDL : Hid (q - p = (out.drop p).length) := by show _ = _; rw [List.length_drop, HOL.out]
          clear hown8 hsame8 hbel8 hat8 rD7 zD7
          have HIE : Hid (insK out r = out.take p ++ [r] ++ out.drop p) := by show _ = _; rw [insK, HWE.out.1, HWE.out.2, List.append_assoc]; rfl
          have HL9 : Hid ((out.take p ++ [r] ++ out.drop p).length = q + 1) := by show _ = _; rw [← HIE.out, insK_len, HOL.out]
          go_upto_region 12 with (at_builtin; refine wpList_appN (α := Row) rfl _ _ 150 rfl w.heap.size 109 rowCs Tryz.underlying150 Tryz.info109 rfl (by decide) rowCs_size rowCs_one (.slice a8 (p + 1) c8) (out.take p ++ [r]) rfl HO8.out ao (q - p) (oc - p) rfl (out.drop p) HDL.out HAN.out (fun hp9 => ⟨ob, oo + p * 13, HAO.out (by omega), fun i hi => by have hi2 := HDL.out; rw [List.getElem_drop]; have h1 := HOC.out (p + i) (by rw [HOL.out]; omega); rw [show oo + p * 13 + i * 13 = oo + (p + i) * 13 by omega, rng_of_block ((HS8.out ob (by have := (HOB.out (by omega)).2; omega)).trans (HBU.out.block _ (HOB.out (by omega)).2))]; exact h1⟩) (by rw [HL8.out]; omega) (by rw [HL8.out]; unfold maxLen; omega) hw8 ?_; intro v9 w9 hown9 hsame9 hbel9 hat9; obtain ⟨a9, c9, hv9⟩ := hown9.form; rw [HL9.out] at hv9; subst hv9)
          have HO9 : Hid (OwnR w9 w.heap.size 109 13 rowCs (.slice a9 (q + 1) c9) (insK out r)) := by rw [HIE.out]; exact hown9
          have HB9 : Hid (Below w.heap.size w w9) := HB8.out.trans hbel9
          clear hown9 hsame9 hbel9 hat9
          go_wp2
          go_roundg (n - (q + 1))
          case measure => omega
          case rel => exact ⟨q + 1, a9, c9, insK out r, by omega, rfl, rfl, by go_num, by show _ = _; rw [insK_len, HOL.out], HO9, HB9, HD⟩
    · obtain rfl : q = n := by omega
      have HF : Hid (R = out) := HE.out.trans (by rw [List.drop_of_length_le (by rw [← Hn.out]; omega)]; rfl)
      go_wp2
      go_ret
      refine ⟨_, rfl, ?_, HBR.out⟩
      rw [HF.out]
      exact HOW.out
end Go.Proofs.Qxb6500666aGreatDoor
