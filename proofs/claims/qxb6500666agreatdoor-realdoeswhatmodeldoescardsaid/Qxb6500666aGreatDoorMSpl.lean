/- The model's split, guess and letter. -/
import Derived.Test.Qxb6500666aGreatDoorMTxt
import Derived.Test.Qxb6500666aGreatDoorXFld
namespace Go.Proofs.Qxb6500666aGreatDoor
open Go.RowKit

/-- The pieces of a text between the separators. -/
def splitB (sep : Int) : List Int → List (List Int)
  | [] => [[]]
  | x :: r => if x = sep then [] :: splitB sep r else match splitB sep r with
    | [] => [[x]]
    | p :: ps => (x :: p) :: ps
theorem splitB_cons (sep x : Int) (r : List Int) : splitB sep (x :: r) = if x = sep then [] :: splitB sep r else match splitB sep r with
    | [] => [[x]]
    | p :: ps => (x :: p) :: ps := rfl
theorem splitB_ne (sep : Int) (l : List Int) : splitB sep l ≠ [] := by
  cases l with
  | nil => simp [splitB]
  | cons x r =>
    unfold splitB
    split
    · simp
    · split <;> simp
theorem splitB_none {sep : Int} : ∀ {l : List Int}, (∀ x ∈ l, x ≠ sep) → splitB sep l = [l]
  | [], _ => rfl
  | x :: r, h => by
    unfold splitB
    rw [if_neg (h x (List.mem_cons_self ..)), splitB_none (fun y hy => h y (List.mem_cons_of_mem _ hy))]
theorem splitB_at {sep : Int} : ∀ {a b : List Int}, (∀ x ∈ a, x ≠ sep) → splitB sep (a ++ sep :: b) = a :: splitB sep b
  | [], b, _ => by
    show splitB sep (sep :: b) = _
    rw [splitB_cons, if_pos rfl]
  | x :: a, b, h => by
    have ih := splitB_at (b := b) (fun y hy => h y (List.mem_cons_of_mem _ hy)) (a := a)
    show splitB sep (x :: (a ++ sep :: b)) = _
    rw [splitB_cons, if_neg (h x (List.mem_cons_self ..)), ih]
theorem splitB_mem {sep : Int} : ∀ {l : List Int} {p : List Int}, p ∈ splitB sep l → ∀ x ∈ p, x ∈ l
  | [], p, hp, x, hx => by
    rw [List.mem_singleton.1 (show p ∈ [([] : List Int)] from hp)] at hx
    cases hx
  | y :: r, p, hp, x, hx => by
    unfold splitB at hp
    split at hp
    · rcases List.mem_cons.1 hp with rfl | hp
      · cases hx
      · exact List.mem_cons_of_mem _ (splitB_mem hp x hx)
    · split at hp
      · rw [List.mem_singleton.1 hp] at hx
        rw [List.mem_singleton.1 hx]
        exact List.mem_cons_self ..
      · rename_i q ps hq
        rcases List.mem_cons.1 hp with rfl | hp
        · rcases List.mem_cons.1 hx with rfl | hx
          · exact List.mem_cons_self ..
          · exact List.mem_cons_of_mem _ (splitB_mem (by rw [hq]; exact List.mem_cons_self ..) x hx)
        · exact List.mem_cons_of_mem _ (splitB_mem (by rw [hq]; exact List.mem_cons_of_mem _ hp) x hx)
theorem splitB_len (sep : Int) : ∀ l : List Int, (splitB sep l).length ≤ l.length + 1
  | [] => by simp [splitB]
  | x :: r => by
    have ih := splitB_len sep r
    unfold splitB
    split
    · simp only [List.length_cons]; omega
    · split
      · simp
      · rename_i q ps hq
        rw [hq] at ih
        simp only [List.length_cons] at ih ⊢
        omega
def strCs (p : List Int) : Array Value := #[.string (strOfNums p)]
theorem strCs_size (p : List Int) : (strCs p).size = 1 := rfl
theorem strCs_one (p : List Int) : ∀ u ∈ (strCs p).toList, u.oneCell' = true := by simp [strCs, Value.oneCell']
theorem Tryz.info9_s : (Tryz.prog.info? 9).map (fun i => (i.zero, i.size, i.bytes)) = some (some (.string ByteArray.empty), 1, 16) := by kernel_rfl
section
variable (ρ : Operand → Value) (dst : Option Tmp) (x y : Operand) (ty : TypeId) (pos : String) (after : Array Edge) (guard : Option (Nat × Bool))
theorem exec_bsStr : execOp ρ { dst, op := .buildSlice 98 1 #[(0, x)], type := ty, pos, after, guard } = (do pure (.value (← bsS 98 (ρ x)))) := by simp [execOp, bsS]
end
theorem run_bsStr (w : World) (S : ByteArray) : (bsS 98 (.string S)).run Tryz.prog w = .ok (.slice (some ⟨w.heap.size, 0, none⟩) 1 1) (w.alloc (.cells #[.string S] 9)) := by kernel_rfl
theorem str_extract {bs : List Int} {lo hi : Nat} : (strOfNums bs).extract lo hi = strOfNums ((bs.drop lo).take (hi - lo)) := by
  apply ByteArray.ext
  apply Array.ext'
  simp [strOfNums, ByteArray.data_extract, List.map_take, List.map_drop]
/-- How far split has come. -/
structure SpI (w W : World) (sep : Int) (bs : List Int) (st i : Nat) (v : Value) (ps : List (List Int)) : Prop where
  own : OwnR W w.heap.size 9 1 strCs v ps
  eq : splitB sep bs = ps ++ splitB sep (bs.drop st)
  no : ∀ t (h : t < bs.length), st ≤ t → t < i → bs[t] ≠ sep
  bel : Below w.heap.size w W
  le : st ≤ i ∧ i ≤ bs.length
  pl : ps.length ≤ st
attribute [local go_sem ↓] exec_bsStr
attribute [local go_sem] run_bsStr

set_option maxRecDepth 100000 in
set_option maxHeartbeats 2000000 in
theorem msplit_calls (w : World) (bs : List Int) (sep : Int) (hB : ByteL bs) (hl : bs.length ≤ 1000000000000) :
    Calls Tryz.prog 147 #[.string (strOfNums bs), .int .u8 sep] w fun e w' => ∃ v, e = .returned v ∧ OwnR w' w.heap.size 9 1 strCs v (splitB sep bs) ∧ Below w.heap.size w w' := by
  obtain ⟨S, hS⟩ : ∃ S, S = strOfNums bs := ⟨_, rfl⟩
  obtain ⟨n, hn⟩ : ∃ n, n = bs.length := ⟨_, rfl⟩
  have hsz : S.size = n := by rw [hS, strOfNums_size, hn]
  rw [← hS]
  have HS := hide hS
  have HN := hide hn
  have HB := hide hB
  rw [← hn] at hl
  have HAT : Hid (∀ i (h : i < S.size) (h' : i < bs.length), ((S[i]'h).toNat : Int) = bs[i]) := fun i h h' => by
    subst hS
    have h2 := hB _ (List.getElem_mem h')
    have := strOfNums_at h' (by omega)
    omega
  clear hS hn hB
  go_enter Tryz.func147, Tryz.ntmps147
  go_upto_region 4 with fail
  go_loopg [5, 6, 7] n (fun gk v st i W => ∃ (s0 i0 : Nat) (ps : List (List Int)), gk = n - i0 ∧ st = .int .i64 s0 ∧ i = .int .i64 i0 ∧ s0 ≤ i0 ∧ i0 ≤ n ∧ Hid (SpI w W sep bs s0 i0 v ps))
  case atStart => exact ⟨0, 0, [], by omega, rfl, rfl, by omega, by omega, ⟨OwnR.nil _ _ _ _ _, by rw [List.drop_zero, List.nil_append], fun t _ _ h => by omega, Below.refl _ _, ⟨by omega, by omega⟩, by simp⟩⟩
  case round =>
    obtain ⟨s0, i0, ps, rfl, rfl, rfl, hs0, hi0, HI⟩ := hrel
    by_cases hlt : i0 < n
    · have hib : i0 < bs.length := by rw [← HN.out]; exact hlt
      have his : i0 < S.size := by omega
      obtain ⟨d, hd⟩ : ∃ d : Int, ((S[i0]'his).toNat : Int) = d := ⟨_, rfl⟩
      have HDD : Hid (bs[i0] = d) := by show _ = _; rw [← hd, HAT.out i0 his hib]
      cases t1 : (d == sep) with
      | true =>
        have HSE : Hid (splitB sep (bs.drop s0) = (bs.drop s0).take (i0 - s0) :: splitB sep (bs.drop (i0 + 1))) := by
          have hds : d = sep := by simpa using t1
          have h1 : bs.drop s0 = (bs.drop s0).take (i0 - s0) ++ sep :: bs.drop (i0 + 1) := by
            have h2 : (bs.drop s0).drop (i0 - s0) = sep :: bs.drop (i0 + 1) := by
              rw [List.drop_drop, show s0 + (i0 - s0) = i0 by omega, List.drop_eq_getElem_cons hib, HDD.out, hds]
            rw [← h2, List.take_append_drop]
          show _ = _
          conv => lhs; rw [h1]
          refine splitB_at (fun x hx => ?_)
          obtain ⟨t, ht, rfl⟩ := List.getElem_of_mem hx
          rw [List.length_take, List.length_drop] at ht
          rw [List.getElem_take, List.getElem_drop]
          exact HI.out.no (s0 + t) (by omega) (by omega) (by omega)
        have HXT : Hid (S.extract s0 i0 = strOfNums ((bs.drop s0).take (i0 - s0))) := by show _ = _; rw [HS.out]; exact str_extract
        have hB5 : Below wr.heap.size wr (wr.alloc (.cells #[.string (S.extract s0 i0)] 9)) := (Below.refl _ _).alloc (Nat.le_refl _) _
        have HO5 := hide (HI.out.own.below hB5 (Nat.le_refl _))
        have HR5 : Hid (rng (wr.alloc (.cells #[.string (S.extract s0 i0)] 9)) wr.heap.size 0 1 = some (strCs ((bs.drop s0).take (i0 - s0)))) := by
          have := rng_whole (heap_alloc_at wr (.cells #[.string (S.extract s0 i0)] 9))
          show _ = _
          unfold strCs
          rw [← HXT.out]
          exact this
        have HB5 := hide hB5
        have hzb := HI.out.bel.size
        have hz5 : w.heap.size ≤ (wr.alloc (.cells #[.string (S.extract s0 i0)] 9)).heap.size := by simp; omega
        have hpl := HI.out.pl
        obtain ⟨va, vc, hv⟩ := HI.out.own.form
        subst hv
        clear hB5
        go_wp2_with (at_builtin; refine wpList_app1 (α := List Int) rfl _ _ 98 rfl w.heap.size 9 strCs Tryz.underlying98 Tryz.info9_s rfl (by decide) strCs_size strCs_one _ ps rfl HO5.out _ rfl ((bs.drop s0).take (i0 - s0)) HR5.out (by omega) (by unfold maxLen; omega) hz5 ?_; intro v6 w6 hown6 hsame6 hbel6 hat6; have HO6 := hide hown6; have HB6 := hide hbel6; clear hown6 hsame6 hbel6 hat6)
        go_roundg (n - (i0 + 1))
        case measure => omega
        case rel =>
          refine ⟨i0 + 1, i0 + 1, ps ++ [(bs.drop s0).take (i0 - s0)], by omega, by go_num, by go_num, by omega, by omega, ⟨HO6.out, ?_, fun t _ h1 h2 => by omega, ?_, ⟨by omega, by omega⟩, by simp; omega⟩⟩
          · rw [HI.out.eq, HSE.out]
            simp
          · exact HI.out.bel.trans ((HB5.out.mono (by omega)).trans HB6.out)
      | false =>
        have HNO : Hid (∀ t (h : t < bs.length), s0 ≤ t → t < i0 + 1 → bs[t] ≠ sep) := fun t h h1 h2 => by
          rcases Nat.lt_or_ge t i0 with h3 | h3
          · exact HI.out.no t h h1 h3
          · obtain rfl : t = i0 := by omega
            rw [HDD.out]
            simpa using t1
        go_wp2
        go_roundg (n - (i0 + 1))
        case measure => omega
        case rel => exact ⟨s0, i0 + 1, ps, by omega, rfl, by go_num, by omega, by omega, ⟨HI.out.own, HI.out.eq, HNO.out, HI.out.bel, ⟨by omega, by omega⟩, HI.out.pl⟩⟩
    · obtain rfl : i0 = n := by omega
      have HXT : Hid (S.extract s0 i0 = strOfNums (bs.drop s0)) := by
        show _ = _
        rw [HS.out, str_extract, List.take_of_length_le (by rw [List.length_drop]; have := HN.out; omega)]
      have HSE : Hid (splitB sep (bs.drop s0) = [bs.drop s0]) := splitB_none (fun x hx => by
        obtain ⟨t, ht, rfl⟩ := List.getElem_of_mem hx
        rw [List.length_drop] at ht
        rw [List.getElem_drop]
        exact HI.out.no (s0 + t) (by omega) (by omega) (by have := HN.out; omega))
      have hB5 : Below wr.heap.size wr (wr.alloc (.cells #[.string (S.extract s0 i0)] 9)) := (Below.refl _ _).alloc (Nat.le_refl _) _
      have HO5 := hide (HI.out.own.below hB5 (Nat.le_refl _))
      have HR5 : Hid (rng (wr.alloc (.cells #[.string (S.extract s0 i0)] 9)) wr.heap.size 0 1 = some (strCs (bs.drop s0))) := by
        have := rng_whole (heap_alloc_at wr (.cells #[.string (S.extract s0 i0)] 9))
        show _ = _
        unfold strCs
        rw [← HXT.out]
        exact this
      have HB5 := hide hB5
      have hzb := HI.out.bel.size
      have hz5 : w.heap.size ≤ (wr.alloc (.cells #[.string (S.extract s0 i0)] 9)).heap.size := by simp; omega
      have hpl := HI.out.pl
      obtain ⟨va, vc, hv⟩ := HI.out.own.form
      subst hv
      clear hB5
      go_wp2_with (at_builtin; refine wpList_app1 (α := List Int) rfl _ _ 98 rfl w.heap.size 9 strCs Tryz.underlying98 Tryz.info9_s rfl (by decide) strCs_size strCs_one _ ps rfl HO5.out _ rfl (bs.drop s0) HR5.out (by omega) (by unfold maxLen; omega) hz5 ?_; intro v6 w6 hown6 hsame6 hbel6 hat6; have HO6 := hide hown6; have HB6 := hide hbel6; clear hown6 hsame6 hbel6 hat6)
      go_ret
      refine ⟨_, rfl, ?_, HI.out.bel.trans ((HB5.out.mono (by omega)).trans HB6.out)⟩
      rw [HI.out.eq, HSE.out]
      exact HO6.out

set_option maxRecDepth 100000 in
theorem mguess_calls (w : World) (p : List Int) (hB : ByteL p) (hl : p.length ≤ 140737488355328) :
    Calls Tryz.prog 149 #[.string (strOfNums p)] w fun e w' => ∃ x, e = .returned (.int .i64 x) ∧ I64 x ∧ (p = dec x ∨ (¬ IsNum p ∧ x = 0)) ∧ Below w.heap.size w w' := by
  obtain ⟨c1, w1, hcv, hby⟩ := conv_bytes w p hB hl
  have hcap := bytesAt_cap hby.at'
  have HCE : Hid (∀ t (h : t < p.length), w1.cell? ⟨w.heap.size, 0 + t, none⟩ = some (.int .u8 p[t])) := bytesAt_cells hby.at'
  have HB1 := hide hby.bel
  clear hby
  go_enter Tryz.func149, Tryz.ntmps149
  go_wp2_with (go_at_call 157; refine (parseInt_x w1 w.heap.size 0 p.length c1 p rfl ⟨hcap.1, hcap.2.1⟩ hl HCE.out hB).mono ?_; rintro e w2 ⟨x, er, rfl, hx, her, rfl⟩)
  go_ret
  refine ⟨x, rfl, hx, ?_, HB1.out⟩
  rcases her with ⟨-, h⟩ | ⟨-, h1, h2⟩
  · exact Or.inl h
  · exact Or.inr ⟨h1, h2⟩
set_option maxRecDepth 100000 in
theorem mletter_calls (w : World) (p : List Int) (hB : ByteL p) :
    Calls Tryz.prog 148 #[.string (strOfNums p)] w fun e w' => e = .returned (.int .u8 (ltrV p)) ∧ w = w' := by
  have hsz : (strOfNums p).size = p.length := strOfNums_size p
  by_cases h1 : p.length = 1
  · obtain ⟨x, rfl⟩ := List.length_eq_one_iff.1 h1
    have hx := hB x (List.mem_cons_self ..)
    have hat : (((strOfNums [x])[0]'(by rw [strOfNums_size]; simp)).toNat : Int) = x := by
      have := strOfNums_at (xs := [x]) (i := 0) (by simp) (by simp; omega)
      simp only [List.getElem_cons_zero] at this
      rw [this]
      omega
    have hz1 : (strOfNums [x]).size = 1 := hsz
    go_enter Tryz.func148, Tryz.ntmps148
    go_wp2
    go_ret
    exact ⟨rfl, rfl⟩
  · have hl0 : ltrV p = 0 := by
      match p, h1 with
      | [], _ => rfl
      | [x], h => exact absurd rfl h
      | _ :: _ :: _, _ => rfl
    have t0 : (((strOfNums p).size : Int) == 1) = false := by rw [hsz]; simp; omega
    rw [hl0]
    clear hl0
    go_enter Tryz.func148, Tryz.ntmps148
    go_wp2
    go_ret
    exact ⟨rfl, rfl⟩
end Go.Proofs.Qxb6500666aGreatDoor
