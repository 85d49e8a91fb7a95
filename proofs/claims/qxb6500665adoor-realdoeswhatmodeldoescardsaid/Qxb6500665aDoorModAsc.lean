/- ascending of the model, walked. -/
import Derived.Test.Qxb6500665aDoorModCls
namespace Go.Proofs.Qxb6500665aDoor
open Go.RowKit Go.Proofs.Qxb6500665aDoor.Cal

def insU (x : Int) : List Int → List Int
  | [] => [x]
  | y :: r => if y < x then y :: insU x r else if y = x then y :: r else x :: y :: r
def ascS (keep : Int → Bool) (out : List Int) (x : Int) : List Int := if keep x then insU x out else out
def ascL (keep : Int → Bool) (l : List Int) : List Int := l.foldl (ascS keep) []

theorem ascL_take {keep : Int → Bool} {l : List Int} {q : Nat} (h : q < l.length) : ascL keep (l.take (q + 1)) = ascS keep (ascL keep (l.take q)) l[q] := by
  rw [List.take_succ_eq_append_getElem h, ascL, List.foldl_append]
  rfl
theorem insU_at {x : Int} : ∀ {out : List Int} {k : Nat}, k ≤ out.length → (∀ j (hj : j < out.length), j < k → out[j] < x) → (∀ h : k < out.length, ¬ out[k] < x) →
    insU x out = (match out[k]? with | some y => if y = x then out else out.take k ++ [x] ++ out.drop k | none => out.take k ++ [x] ++ out.drop k)
  | [], k, hk, _, _ => by
    have : k = 0 := by simpa using hk
    subst this
    rfl
  | y :: r, 0, _, _, h2 => by
    have h3 : ¬ y < x := h2 (by simp)
    simp only [insU, if_neg h3, List.getElem?_cons_zero]
    split <;> simp
  | y :: r, k + 1, hk, h1, h2 => by
    have h3 : y < x := h1 0 (by simp) (by omega)
    have ih := insU_at (x := x) (out := r) (k := k) (by simpa using hk) (fun j hj hjk => h1 (j + 1) (by simpa using hj) (by omega)) (fun h => h2 (by simpa using h))
    simp only [insU, if_pos h3, List.getElem?_cons_succ, ih]
    cases r[k]? with
    | none => simp
    | some z =>
      simp only
      split <;> simp
theorem insU_len (x : Int) : ∀ out : List Int, (insU x out).length ≤ out.length + 1
  | [] => by simp [insU]
  | y :: r => by
    simp only [insU]
    have := insU_len x r
    split
    · simp; omega
    · split <;> simp
theorem ascS_len (keep : Int → Bool) (out : List Int) (x : Int) : (ascS keep out x).length ≤ out.length + 1 := by
  unfold ascS
  split
  · exact insU_len x out
  · omega

theorem run_slTo' {P : Program} {t e : TypeId} {size : Nat} (ht : P.underlying t = some (.slice e)) (hs : ∀ w, (sizeOf e).run P w = .ok size w) {a : Option Addr} {n cap : Nat} (hcap : n ≤ cap) (i : Nat) (hi : i ≤ n) :
    ∃ ao : Option Addr, (∀ w, (Instr.sliceAt t (.slice a n cap) none (some (.int .i64 (i : Int))) none).run P w = .ok (.slice ao i cap) w) ∧ (∀ b off, a = some ⟨b, off, none⟩ → ao = some ⟨b, off, none⟩) ∧ (ao = none → a = none) := by
  refine ⟨if cap = 0 then a else a.map (·.add 0), fun w => ?_, fun b off h => ?_, fun h => ?_⟩
  · simp [Instr.sliceAt, Instr.slice, run_underlying ht, hs, Instr.sliceBounds, Instr.sliceBound, asIntOf]
    omega
  · subst h
    split
    · rfl
    · simp [Addr.add_lit]
  · split at h
    · exact h
    · simpa using h

theorem OwnR.base {α : Type} {w : World} {base base' : Nat} {e : TypeId} {size : Nat} {f : α → Array Value} {v : Value} {xs : List α} (h : OwnR w base e size f v xs) (hb : base' ≤ base) : OwnR w base' e size f v xs := by
  obtain ⟨h1, h2⟩ := h
  refine ⟨h1, ?_⟩
  rcases h2 with h2 | ⟨g, cap, cur, h2, h3, h4⟩
  · exact Or.inl h2
  · exact Or.inr ⟨g, cap, cur, h2, by omega, h4⟩

/-- The closure answers keep, and changes nothing. -/
def Keeps (w : World) (fid : FuncId) (caps : Array Value) (keep : Int → Bool) (ids : List Int) : Prop :=
  ∀ W x, Below w.heap.size w W → x ∈ ids → Calls Tryd.prog fid (#[.int .u32 x] ++ caps) W fun e w' => e = .returned (.bool (keep x)) ∧ ∃ d, w' = W.drewN d

def AscPost (w w' : World) (e : Ending) (l : List Int) : Prop := ∃ v, e = .returned v ∧ OwnR w' w.heap.size 29 1 u32Cs v l ∧ Below w.heap.size w w'

set_option maxRecDepth 100000 in
set_option maxHeartbeats 4000000 in
theorem ascending_m (w : World) (fid : FuncId) (caps : Array Value) (keep : Int → Bool) (ids : List Int) (la : Option Addr) (ln lc : Nat) (ok : Nat → Prop) (hcf : ∀ args w, (callFunc fid args).run Tryd.prog w = .ok (.enter fid args) w) (hk : Keeps w fid caps keep ids) (hl : U32sAt w ok (.slice la ln lc) ids) (hlen : ids.length ≤ 10000000) :
    Calls Tryd.prog 42 #[.func (.func fid) #[] caps, .slice la ln lc] w fun e w' => AscPost w w' e (ascL keep ids) := by
  obtain ⟨R, hR⟩ : ∃ R, R = ascL keep ids := ⟨_, rfl⟩
  rw [← hR]
  have HR := hide hR
  clear hR
  have hn : ids.length = ln := by obtain ⟨_, _, h⟩ := hl.form; injection h with _ h _; exact h.symm
  obtain ⟨la', lc', b, off, hlv, r1, r2, r3, r4, ha, hc⟩ := hl.parts ln hn
  cases hlv
  have hi := run_indexAt_arr (P := Tryd.prog) (n := ln) (cap := lc) Tryd.underlying31 Tryd.size29 (fun h => (ha h).1)
  have HA := hide ha
  have HC := hide hc
  have HN := hide hn
  have HK := hide hk
  have hn1 : ln ≤ 10000000 := by omega
  clear ha hc hn hk hlen hl
  go_enter Tryd.func42, Tryd.ntmps42
  go_wp2
  go_loopg [5, 12] ln (fun g x5 x12 wr => ∃ (q : Nat) (out : List Int), q ≤ ln ∧ g = ln - q ∧ x12 = .int .i64 q ∧ Hid (OwnR wr w.heap.size 29 1 u32Cs x5 out) ∧ Hid (out = ascL keep (ids.take q)) ∧ Hid (Below w.heap.size w wr) ∧ out.length ≤ q)
  case atStart => exact ⟨0, [], by omega, by omega, rfl, OwnR.nil _ _ _ _ _, rfl, Below.refl _ _, by simp⟩
  case round =>
    obtain ⟨q, out, hq, rfl, rfl, HO, HOE, HB, hol⟩ := hrel
    by_cases hlt : q < ln
    · have hqi : q < ids.length := by rw [HN.out]; exact hlt
      have hbb := (HA.out (by omega)).2.2
      have c0 : wr.cell? ⟨b, off + q, none⟩ = some (.int .u32 ids[q]) := (HB.out.cell (p := ⟨b, off + q, none⟩) hbb).trans (HC.out q hqi)
      have HKC := hide (HK.out wr ids[q] HB.out (List.getElem_mem hqi))
      have HOE2 : Hid (ascL keep (ids.take (q + 1)) = ascS keep out ids[q]) := by show _ = _; rw [ascL_take hqi, HOE.out]
      generalize ids[q] = x at *
      clear hqi
      go_wp2_with fail
      refine HKC.out.mono ?_
      rintro e w1 ⟨rfl, d, hw1⟩
      have hb1 : Below wr.heap.size wr w1 := by rw [hw1]; exact below_drewN (Below.refl _ _) d
      have HO1 : Hid (OwnR w1 w.heap.size 29 1 u32Cs u5 out) := HO.out.below hb1 (Nat.le_refl _)
      have HB1 := hide (HB.out.trans (hb1.mono HB.out.size))
      clear hw1 hb1 HO HB HKC c0
      cases hkx : keep x with
      | false =>
        have HOE3 : Hid (out = ascL keep (ids.take (q + 1))) := by show _ = _; rw [HOE2.out, ascS, hkx]; rfl
        go_wp2
        go_roundg (ln - (q + 1))
        case measure => omega
        case rel => exact ⟨q + 1, out, by omega, rfl, by go_num, HO1, HOE3, HB1, by omega⟩
      | true =>
        have HOE3 : Hid (ascL keep (ids.take (q + 1)) = insU x out) := by show _ = _; rw [HOE2.out, ascS, hkx]; rfl
        clear HOE2 hkx
        obtain ⟨oa, oc, hov⟩ := HO1.out.form
        obtain ⟨oa', oc', ob, oo, hov', o1, o2, o3, hoa, hoc⟩ := (HO1.out.rows u32Cs_size (by decide) (by omega)).lt
        rw [hov] at hov'
        cases hov'
        subst hov
        obtain ⟨on, hon⟩ : ∃ on, out.length = on := ⟨_, rfl⟩
        rw [hon] at o1 o3 hoa hol ⊢
        have hoi := run_indexAt_arr (P := Tryd.prog) (n := on) (cap := oc) Tryd.underlying31 Tryd.size29 (fun h => (hoa h).1)
        have HON := hide hon
        have HOA := hide hoa
        have HOC := hide hoc
        clear hon hoa hoc
        go_upto_region 7 with fail
        have HCC : Hid (∀ j (hj : j < out.length), w1.cell? ⟨ob, oo + j, none⟩ = some (.int .u32 out[j])) := fun j hj => by
          have := (rng_cell (HOC.out j hj)).2 0 (by decide)
          simpa [u32Cs] using this
        go_loopg [8] on (fun g x8 wr => ∃ k : Nat, k ≤ on ∧ g = on - k ∧ x8 = .int .i64 k ∧ w1 = wr ∧ Hid (∀ j (hj : j < out.length), j < k → out[j] < x))
        case atStart => exact ⟨0, by omega, by omega, rfl, rfl, fun j _ h => absurd h (by omega)⟩
        case round =>
          obtain ⟨k, hk, rfl, rfl, rfl, HLT⟩ := hrel
          have HFIN : Hid ((∀ h : k < out.length, ¬ out[k] < x) → ascL keep (ids.take (q + 1)) = (match out[k]? with | some y => if y = x then out else out.take k ++ [x] ++ out.drop k | none => out.take k ++ [x] ++ out.drop k)) := fun h => HOE3.out.trans (insU_at (by rw [HON.out]; exact hk) HLT.out h)
          by_cases hko : k < on
          · have hkl : k < out.length := by rw [HON.out]; exact hko
            have c1 := HCC.out k hkl
            have hek : out[k]? = some out[k] := List.getElem?_eq_getElem hkl
            have HST : Hid (out[k] < x → ∀ j (hj : j < out.length), j < k + 1 → out[j] < x) := fun h j hj hjk => by
              by_cases he : j = k
              · subst he; exact h
              · exact HLT.out j hj (by omega)
            rw [hek] at HFIN
            simp only at HFIN
            have HGE : Hid (¬ out[k] < x → ∀ h : k < out.length, ¬ out[k] < x) := fun h _ => h
            generalize out[k] = y at *
            by_cases hyx : y < x
            · go_wp2
              go_roundg (on - (k + 1))
              case measure => omega
              case rel => exact ⟨k + 1, by omega, rfl, by go_num, by first | rfl | trivial, HST.out hyx⟩
            · by_cases hye : y = x
              · have HE : Hid (out = ascL keep (ids.take (q + 1))) := by
                  have := HFIN.out (HGE.out hyx)
                  rw [if_pos hye] at this
                  exact this.symm
                have t1 : (y == x) = true := by simp [hye]
                clear hye
                go_wp2
                go_roundg (ln - (q + 1))
                case measure => omega
                case rel => exact ⟨q + 1, out, by omega, rfl, by go_num, by rw [← HON.out]; exact HO1, HE, HB1, by rw [HON.out]; omega⟩
              · have HE : Hid (ascL keep (ids.take (q + 1)) = out.take k ++ [x] ++ out.drop k) := by
                  have := HFIN.out (HGE.out hyx)
                  rw [if_neg hye] at this
                  exact this
                have t1 : (y == x) = false := by simp [hye]
                clear hye
                go_upto_region 11 with fail
                obtain ⟨ao1, hsl1, hs1a, hs1n⟩ := run_slTo' (P := Tryd.prog) Tryd.underlying31 Tryd.size29 (a := oa) o1 k hk
                obtain ⟨ao2, hsl2', hs2a, hs2n⟩ := run_slFrom (P := Tryd.prog) Tryd.underlying31 Tryd.size29 (a := oa) (fun h => (HOA.out h).1) o1 o2.2 k hk
                have hsl2 : ∀ w, (Instr.sliceAt 31 (.slice oa on oc) (some (.int .i64 (k : Int))) none none).run Tryd.prog w = .ok (.slice ao2 (on - k) (oc - k)) w := hsl2'
                have H1A : Hid (0 < k → ∃ b off, ao1 = some ⟨b, off, none⟩ ∧ ∀ i (h : i < (out.take k).length), rng w1 b (off + i * 1) 1 = some (u32Cs (out.take k)[i])) := fun h => ⟨ob, oo, hs1a _ _ (HOA.out (by omega)).1, fun i hi => by
                  rw [List.getElem_take]
                  exact HOC.out i (by simp at hi; omega)⟩
                have H1N : Hid (ao1 = none → oc = 0) := fun h => o2.2 (hs1n h)
                have H2A : Hid (∀ w3, Below w1.heap.size w1 w3 → 0 < on - k → ∃ b off, ao2 = some ⟨b, off, none⟩ ∧ ∀ i (h : i < (out.drop k).length), rng w3 b (off + i * 1) 1 = some (u32Cs (out.drop k)[i])) := fun w3 hb3 h => ⟨ob, oo + k * 1, hs2a (by omega), fun i hi => by
                  rw [List.getElem_drop, rng_of_block (hb3.block ob (HOA.out (by omega)).2.2)]
                  have h9 : k + i < out.length := by simp at hi; omega
                  have := HOC.out (k + i) h9
                  rw [show oo + (k + i) * 1 = oo + k * 1 + i * 1 by omega] at this
                  exact this⟩
                have H2N := hide hs2n
                have HTL : Hid (k = (out.take k).length) := by show _ = _; rw [List.length_take, HON.out]; omega
                have HDL : Hid (on - k = (out.drop k).length) := by show _ = _; rw [List.length_drop, HON.out]
                clear hs1a hs1n hsl2' hs2a hs2n
                go_upto_region 12 with (at_builtin; refine wpList_appN (α := Int) rfl _ _ 31 rfl w1.heap.size 29 u32Cs Tryd.underlying31 Tryd.info29 rfl (by decide) u32Cs_size u32Cs_one (.slice none 0 0) [] rfl (OwnR.nil _ _ _ _ _) ao1 k oc rfl (out.take k) HTL.out H1N.out H1A.out (by simp; omega) (by unfold maxLen; simp; omega) (Nat.le_refl _) ?_; intro v2 w2 hown2 hsame2 hbel2 hat2)
                rw [List.nil_append] at hown2
                have HO2 := hide hown2
                have hz2 := hbel2.size
                have HB2 := hide hbel2
                clear hown2 hsame2 hbel2 hat2
                go_upto_region 13 with (at_builtin; refine wpList_app1 (α := Int) rfl _ _ 31 rfl w1.heap.size 29 u32Cs Tryd.underlying31 Tryd.info29 rfl (by decide) u32Cs_size u32Cs_one _ (out.take k) rfl (OwnR.below HO2.out ((Below.refl _ _).alloc (Nat.le_refl _) _) (Nat.le_refl _)) _ rfl x (by rw [rng_alloc_at _ _ _ _ _ _ _ (by first | rfl | simp)]; rfl) (by rw [← HTL.out]; omega) (by rw [← HTL.out]; unfold maxLen; omega) (by simp; omega) ?_; intro v3 w3 hown3 hsame3 hbel3 hat3)
                have HO3 := hide hown3
                have HB3 : Hid (Below w1.heap.size w1 w3) := (HB2.out.alloc hz2 _).trans hbel3
                have hz3 := HB3.out.size
                clear hown3 hsame3 hbel3 hat3
                go_wp2_with (at_builtin; refine wpList_appN (α := Int) rfl _ _ 31 rfl w1.heap.size 29 u32Cs Tryd.underlying31 Tryd.info29 rfl (by decide) u32Cs_size u32Cs_one v3 (out.take k ++ [x]) rfl HO3.out ao2 (on - k) (oc - k) rfl (out.drop k) HDL.out H2N.out (H2A.out _ HB3.out) (by have := HTL.out; simp only [List.length_append, List.length_cons, List.length_nil, ← HTL.out]; omega) (by unfold maxLen; simp only [List.length_append, List.length_cons, List.length_nil, ← HTL.out]; omega) hz3 ?_; intro v4 w4 hown4 hsame4 hbel4 hat4)
                go_roundg (ln - (q + 1))
                case measure => omega
                case rel => exact ⟨q + 1, _, by omega, rfl, by go_num, hown4.base HB1.out.size, HE.out.symm, HB1.out.trans ((HB3.out.trans hbel4).mono HB1.out.size), by simp only [List.length_append, List.length_cons, List.length_nil, ← HTL.out, ← HDL.out]; omega⟩
          · have HE : Hid (ascL keep (ids.take (q + 1)) = out.take k ++ [x] ++ out.drop k) := by
              have := HFIN.out (fun h => absurd h (by rw [HON.out]; omega))
              rw [List.getElem?_eq_none (by rw [HON.out]; omega)] at this
              exact this
            go_upto_region 11 with fail
            obtain ⟨ao1, hsl1, hs1a, hs1n⟩ := run_slTo' (P := Tryd.prog) Tryd.underlying31 Tryd.size29 (a := oa) o1 k hk
            obtain ⟨ao2, hsl2', hs2a, hs2n⟩ := run_slFrom (P := Tryd.prog) Tryd.underlying31 Tryd.size29 (a := oa) (fun h => (HOA.out h).1) o1 o2.2 k hk
            have hsl2 : ∀ w, (Instr.sliceAt 31 (.slice oa on oc) (some (.int .i64 (k : Int))) none none).run Tryd.prog w = .ok (.slice ao2 (on - k) (oc - k)) w := hsl2'
            have H1A : Hid (0 < k → ∃ b off, ao1 = some ⟨b, off, none⟩ ∧ ∀ i (h : i < (out.take k).length), rng w1 b (off + i * 1) 1 = some (u32Cs (out.take k)[i])) := fun h => ⟨ob, oo, hs1a _ _ (HOA.out (by omega)).1, fun i hi => by
              rw [List.getElem_take]
              exact HOC.out i (by simp at hi; omega)⟩
            have H1N : Hid (ao1 = none → oc = 0) := fun h => o2.2 (hs1n h)
            have H2A : Hid (∀ w3, Below w1.heap.size w1 w3 → 0 < on - k → ∃ b off, ao2 = some ⟨b, off, none⟩ ∧ ∀ i (h : i < (out.drop k).length), rng w3 b (off + i * 1) 1 = some (u32Cs (out.drop k)[i])) := fun w3 hb3 h => ⟨ob, oo + k * 1, hs2a (by omega), fun i hi => by
              rw [List.getElem_drop, rng_of_block (hb3.block ob (HOA.out (by omega)).2.2)]
              have h9 : k + i < out.length := by simp at hi; omega
              have := HOC.out (k + i) h9
              rw [show oo + (k + i) * 1 = oo + k * 1 + i * 1 by omega] at this
              exact this⟩
            have H2N := hide hs2n
            have HTL : Hid (k = (out.take k).length) := by show _ = _; rw [List.length_take, HON.out]; omega
            have HDL : Hid (on - k = (out.drop k).length) := by show _ = _; rw [List.length_drop, HON.out]
            clear hs1a hs1n hsl2' hs2a hs2n
            go_upto_region 12 with (at_builtin; refine wpList_appN (α := Int) rfl _ _ 31 rfl w1.heap.size 29 u32Cs Tryd.underlying31 Tryd.info29 rfl (by decide) u32Cs_size u32Cs_one (.slice none 0 0) [] rfl (OwnR.nil _ _ _ _ _) ao1 k oc rfl (out.take k) HTL.out H1N.out H1A.out (by simp; omega) (by unfold maxLen; simp; omega) (Nat.le_refl _) ?_; intro v2 w2 hown2 hsame2 hbel2 hat2)
            rw [List.nil_append] at hown2
            have HO2 := hide hown2
            have hz2 := hbel2.size
            have HB2 := hide hbel2
            clear hown2 hsame2 hbel2 hat2
            go_upto_region 13 with (at_builtin; refine wpList_app1 (α := Int) rfl _ _ 31 rfl w1.heap.size 29 u32Cs Tryd.underlying31 Tryd.info29 rfl (by decide) u32Cs_size u32Cs_one _ (out.take k) rfl (OwnR.below HO2.out ((Below.refl _ _).alloc (Nat.le_refl _) _) (Nat.le_refl _)) _ rfl x (by rw [rng_alloc_at _ _ _ _ _ _ _ (by first | rfl | simp)]; rfl) (by rw [← HTL.out]; omega) (by rw [← HTL.out]; unfold maxLen; omega) (by simp; omega) ?_; intro v3 w3 hown3 hsame3 hbel3 hat3)
            have HO3 := hide hown3
            have HB3 : Hid (Below w1.heap.size w1 w3) := (HB2.out.alloc hz2 _).trans hbel3
            have hz3 := HB3.out.size
            clear hown3 hsame3 hbel3 hat3
            go_wp2_with (at_builtin; refine wpList_appN (α := Int) rfl _ _ 31 rfl w1.heap.size 29 u32Cs Tryd.underlying31 Tryd.info29 rfl (by decide) u32Cs_size u32Cs_one v3 (out.take k ++ [x]) rfl HO3.out ao2 (on - k) (oc - k) rfl (out.drop k) HDL.out H2N.out (H2A.out _ HB3.out) (by have := HTL.out; simp only [List.length_append, List.length_cons, List.length_nil, ← HTL.out]; omega) (by unfold maxLen; simp only [List.length_append, List.length_cons, List.length_nil, ← HTL.out]; omega) hz3 ?_; intro v4 w4 hown4 hsame4 hbel4 hat4)
            go_roundg (ln - (q + 1))
            case measure => omega
            case rel => exact ⟨q + 1, _, by omega, rfl, by go_num, hown4.base HB1.out.size, HE.out.symm, HB1.out.trans ((HB3.out.trans hbel4).mono HB1.out.size), by simp only [List.length_append, List.length_cons, List.length_nil, ← HTL.out, ← HDL.out]; omega⟩
    · have hqn : q = ln := by omega
      subst hqn
      have HE : Hid (R = out) := by show _ = _; rw [HR.out, HOE.out, List.take_of_length_le (by rw [HN.out]; omega)]
      go_wp2
      go_ret
      exact ⟨_, rfl, by rw [HE.out]; exact HO.out, HB.out⟩

end Go.Proofs.Qxb6500665aDoor
