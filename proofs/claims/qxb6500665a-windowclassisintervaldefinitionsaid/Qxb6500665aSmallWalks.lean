/- Limit, addOnce, Open, newBench, walked. -/
import Derived.Test.Qxb6500665aClassifyWalk
namespace Go.Proofs.Qxb6500665a
open Go.RowKit Go.Proofs.Qxb6500665a.Cal

attribute [local go_sem ↓] exec_stAnalyte
attribute [local go_sem] run_stAnalyte ones_iiii whole_alloc_lt whole_alloc_at whole_drew whole_setCell_other whole_setRow_other setRow_alloc_at setRow_alloc_lt

set_option maxRecDepth 100000 in
set_option maxHeartbeats 1000000 in
theorem limit_bad (w : World) (P : Nat) (id c : Int) (hc : c < 1 ∨ 3 < c) :
    Calls Try.prog 39 #[.pointer (some ⟨P, 0, none⟩), .int .u32 id, .int .u8 c] w fun e w' => e = .returned (.tuple #[.int .i64 0, errV 6]) ∧ Below w.heap.size w w' := by
  by_cases h1 : c < 1
  · clear hc
    go_enter Try.func39, Try.ntmps39
    go_wp2
    go_ret2
    exact ⟨rfl, Below.refl _ _⟩
  · have h2 : 3 < c := by omega
    clear hc
    go_enter Try.func39, Try.ntmps39
    go_wp2
    go_ret2
    exact ⟨rfl, Below.refl _ _⟩

set_option maxRecDepth 100000 in
set_option maxHeartbeats 1000000 in
theorem limit_none (w : World) (P S : Nat) (A : Nat → Prop) (ps : List KV) (full : Bool) (id c : Int) (h : PAt w P S A ps full) (h1 : 1 ≤ c) (h3 : c ≤ 3) (hid : U32 id) (hO : getB ps (keyB 97 id) = none) :
    Calls Try.prog 39 #[.pointer (some ⟨P, 0, none⟩), .int .u32 id, .int .u8 c] w fun e w' => e = .returned (.tuple #[.int .i64 0, errV 14]) ∧ Below w.heap.size w w' := by
  have HA := hide (analyte_none w P S A ps full id h hid hO)
  clear h hO
  have k1 : ¬ c < 1 := by omega
  have k2 : ¬ 3 < c := by omega
  go_enter Try.func39, Try.ntmps39
  go_wp2_with (go_at_call 36; refine HA.out.mono ?_; rintro e w1 ⟨rfl, hb1⟩)
  go_ret2
  exact ⟨rfl, hb1.alloc hb1.size _⟩

set_option maxRecDepth 100000 in
set_option maxHeartbeats 1000000 in
theorem limit_some (w : World) (P S : Nat) (A : Nat → Prop) (ps : List KV) (full : Bool) (id c l0 l1 l2 : Int) (h : PAt w P S A ps full) (h1 : 1 ≤ c) (h3 : c ≤ 3) (hid : U32 id) (hO : getB ps (keyB 97 id) = some (anaB l0 l1 l2)) (k0 : I64 l0) (k1 : I64 l1) (k2 : I64 l2) :
    Calls Try.prog 39 #[.pointer (some ⟨P, 0, none⟩), .int .u32 id, .int .u8 c] w fun e w' => e = .returned (.tuple #[.int .i64 (if c = 1 then l0 else if c = 2 then l1 else l2), .nilIface]) ∧ Below w.heap.size w w' := by
  have HA := hide (analyte_some w P S A ps full id l0 l1 l2 h hid hO k0 k1 k2)
  clear h hO
  rcases (show c = 1 ∨ c = 2 ∨ c = 3 by omega) with rfl | rfl | rfl
  · have hix : ∀ g W, (Instr.indexAt 34 (.pointer (some ⟨g, 1, none⟩)) (.int .u8 0)).run Try.prog W = .ok (.pointer (some ⟨g, 1, none⟩)) W := fun g W => by kernel_rfl
    go_enter Try.func39, Try.ntmps39
    go_wp2_with (go_at_call 36; refine HA.out.mono ?_; rintro e w1 ⟨rfl, hb1⟩)
    go_ret2
    exact ⟨rfl, hb1.alloc hb1.size _⟩
  · have hix : ∀ g W, (Instr.indexAt 34 (.pointer (some ⟨g, 1, none⟩)) (.int .u8 1)).run Try.prog W = .ok (.pointer (some ⟨g, 2, none⟩)) W := fun g W => by kernel_rfl
    go_enter Try.func39, Try.ntmps39
    go_wp2_with (go_at_call 36; refine HA.out.mono ?_; rintro e w1 ⟨rfl, hb1⟩)
    go_ret2
    exact ⟨rfl, hb1.alloc hb1.size _⟩
  · have hix : ∀ g W, (Instr.indexAt 34 (.pointer (some ⟨g, 1, none⟩)) (.int .u8 2)).run Try.prog W = .ok (.pointer (some ⟨g, 3, none⟩)) W := fun g W => by kernel_rfl
    go_enter Try.func39, Try.ntmps39
    go_wp2_with (go_at_call 36; refine HA.out.mono ?_; rintro e w1 ⟨rfl, hb1⟩)
    go_ret2
    exact ⟨rfl, hb1.alloc hb1.size _⟩

def i64Cs (x : Int) : Array Value := #[.int .i64 x]
theorem i64Cs_size (b : Int) : (i64Cs b).size = 1 := rfl
theorem i64Cs_one (b : Int) : ∀ u ∈ (i64Cs b).toList, u.oneCell' = true := by simp [i64Cs, Value.oneCell']
theorem Try.info2 : (Try.prog.info? 2).map (fun i => (i.zero, i.size, i.bytes)) = some (some (.int .i64 0), 1, 8) := by kernel_rfl
theorem Try.size2 (w : World) : (sizeOf 2).run Try.prog w = .ok 1 w := by kernel_rfl

/-- x behind the list, unless it is in it. -/
def addOnce (l : List Int) (x : Int) : List Int := if x ∈ l then l else l ++ [x]

theorem addOnce_hit {l : List Int} {x : Int} (h : x ∈ l) : addOnce l x = l := if_pos h
theorem addOnce_miss {l : List Int} {x : Int} (h : x ∉ l) : addOnce l x = l ++ [x] := if_neg h

set_option maxRecDepth 100000 in
set_option maxHeartbeats 1000000 in
theorem addOnce64_calls (w : World) (base : Nat) (v : Value) (l : List Int) (x : Int) (h : OwnR w base 2 1 i64Cs v l) (hb : base ≤ w.heap.size) (hl : l.length ≤ 10000000) :
    Calls Try.prog 13 #[v, .int .i64 x] w fun e w' => ∃ v', e = .returned v' ∧ OwnR w' base 2 1 i64Cs v' (addOnce l x) ∧ Same (fun b => b < w.heap.size ∧ v.ownBlock ≠ some b) w w' ∧ Below base w w' ∧ (v'.ownBlock = v.ownBlock ∨ ∀ b, v'.ownBlock = some b → w.heap.size ≤ b) := by
  obtain ⟨R, hR⟩ : ∃ R, R = addOnce l x := ⟨_, rfl⟩
  have HR := hide hR
  rw [← hR]
  clear hR
  have hrows := h.rows i64Cs_size (by decide) (by omega)
  obtain ⟨a, cap, b, off, rfl, r1, r2, r3, ha, hc⟩ := RArr.lt hrows
  obtain ⟨n, hn⟩ : ∃ n, n = l.length := ⟨_, rfl⟩
  have HN := hide hn
  rw [← hn] at r1 r3 ha h ⊢
  have hi := run_indexAt_arr (P := Try.prog) (n := n) (cap := cap) Try.underlying31 Try.size2 (fun h => (ha h).1)
  have HC := hide hc
  have HO := hide h
  have hl' : n ≤ 10000000 := by omega
  clear ha hc hrows h r2 hn
  go_enter Try.func13, Try.ntmps13
  go_wp2
  go_loopw [9] (fun j wr => ∃ q : Nat, q ≤ n ∧ j = .int .i64 q ∧ w = wr ∧ Hid (x ∉ l.take q)) (fun j _ => n - (intOf j).toNat)
  case atStart => exact ⟨0, by omega, rfl, rfl, by show x ∉ List.take 0 l; simp⟩
  case round =>
    obtain ⟨q, hq, rfl, rfl, HX⟩ := hrel
    by_cases hlt : q < n
    · have hql : q < l.length := by rw [← HN.out]; exact hlt
      have c0 := (rng_cell (HC.out q hql)).2 0 (by decide)
      simp only [i64Cs, List.getElem?_toArray, List.getElem?_cons_zero, Nat.add_zero, Nat.mul_one] at c0
      have HT := hide (List.take_succ_eq_append_getElem hql)
      have HM := hide (List.getElem_mem hql)
      generalize l[q] = y at *
      by_cases hxy : y = x
      · have hb1 : (y == x) = true := by simp [hxy]
        have HF : Hid (R = l) := by show _ = _; rw [HR.out, addOnce_hit (hxy ▸ HM.out)]
        clear hxy
        go_wp2
        go_ret
        exact ⟨_, rfl, by rw [HF.out]; exact HO.out, Same.refl _ _, Below.refl _ _, Or.inl rfl⟩
      · have hb1 : (y == x) = false := by simp [hxy]
        have HX1 : Hid (x ∉ l.take (q + 1)) := by
          show _ ∉ _
          rw [HT.out]
          intro hm
          rcases List.mem_append.1 hm with hm | hm
          · exact HX.out hm
          · exact hxy (List.mem_singleton.1 hm).symm
        clear hxy
        go_wp2
        go_roundw
        case measure => simp [intOf]; omega
        case rel => exact ⟨q + 1, by omega, by go_num, by first | rfl | trivial, HX1⟩
    · have HF : Hid (R = l ++ [x]) := by
        show _ = _
        have := HX.out
        rw [List.take_of_length_le (by rw [← HN.out]; omega)] at this
        rw [HR.out, addOnce_miss this]
      have hLl : l.length ≤ 10000000 := by rw [← HN.out]; exact hl'
      go_wp2_with (at_builtin; refine wpList_app1 (α := Int) rfl _ _ 31 rfl base 2 i64Cs Try.underlying31 Try.info2 rfl (by decide) i64Cs_size i64Cs_one _ l rfl (OwnR.below HO.out ((Below.refl _ _).alloc (Nat.le_refl _) _) (Nat.le_refl _)) _ rfl x (by rw [rng_alloc_at _ _ _ _ _ _ _ (by first | rfl | simp)]; rfl) (by omega) (by unfold maxLen; omega) (by simp; omega) ?_; intro v' w' hown' hsame hbel' hat)
      go_ret
      refine ⟨v', rfl, by rw [HF.out]; exact hown', fun b hb' => (hsame b ⟨by simp; omega, hb'.2⟩).trans (Below.heap_alloc _ _ _ hb'.1), ((Below.refl _ _).alloc hb _).trans hbel', ?_⟩
      rcases hat with h | h
      · exact Or.inl h
      · refine Or.inr fun b hb' => ?_
        rw [h] at hb'
        simp at hb'
        omega

set_option maxRecDepth 100000 in
set_option maxHeartbeats 1000000 in
theorem addOnce32_calls (w : World) (base : Nat) (v : Value) (l : List Int) (x : Int) (h : OwnR w base 33 1 u32Cs v l) (hb : base ≤ w.heap.size) (hl : l.length ≤ 10000000) :
    Calls Try.prog 15 #[v, .int .u32 x] w fun e w' => ∃ v', e = .returned v' ∧ OwnR w' base 33 1 u32Cs v' (addOnce l x) ∧ Same (fun b => b < w.heap.size ∧ v.ownBlock ≠ some b) w w' ∧ Below base w w' ∧ (v'.ownBlock = v.ownBlock ∨ ∀ b, v'.ownBlock = some b → w.heap.size ≤ b) := by
  obtain ⟨R, hR⟩ : ∃ R, R = addOnce l x := ⟨_, rfl⟩
  have HR := hide hR
  rw [← hR]
  clear hR
  have hrows := h.rows u32Cs_size (by decide) (by omega)
  obtain ⟨a, cap, b, off, rfl, r1, r2, r3, ha, hc⟩ := RArr.lt hrows
  obtain ⟨n, hn⟩ : ∃ n, n = l.length := ⟨_, rfl⟩
  have HN := hide hn
  rw [← hn] at r1 r3 ha h ⊢
  have hi := run_indexAt_arr (P := Try.prog) (n := n) (cap := cap) Try.underlying28 Try.size33 (fun h => (ha h).1)
  have HC := hide hc
  have HO := hide h
  have hl' : n ≤ 10000000 := by omega
  clear ha hc hrows h r2 hn
  go_enter Try.func15, Try.ntmps15
  go_wp2
  go_loopw [9] (fun j wr => ∃ q : Nat, q ≤ n ∧ j = .int .i64 q ∧ w = wr ∧ Hid (x ∉ l.take q)) (fun j _ => n - (intOf j).toNat)
  case atStart => exact ⟨0, by omega, rfl, rfl, by show x ∉ List.take 0 l; simp⟩
  case round =>
    obtain ⟨q, hq, rfl, rfl, HX⟩ := hrel
    by_cases hlt : q < n
    · have hql : q < l.length := by rw [← HN.out]; exact hlt
      have c0 := (rng_cell (HC.out q hql)).2 0 (by decide)
      simp only [u32Cs, List.getElem?_toArray, List.getElem?_cons_zero, Nat.add_zero, Nat.mul_one] at c0
      have HT := hide (List.take_succ_eq_append_getElem hql)
      have HM := hide (List.getElem_mem hql)
      generalize l[q] = y at *
      by_cases hxy : y = x
      · have hb1 : (y == x) = true := by simp [hxy]
        have HF : Hid (R = l) := by show _ = _; rw [HR.out, addOnce_hit (hxy ▸ HM.out)]
        clear hxy
        go_wp2
        go_ret
        exact ⟨_, rfl, by rw [HF.out]; exact HO.out, Same.refl _ _, Below.refl _ _, Or.inl rfl⟩
      · have hb1 : (y == x) = false := by simp [hxy]
        have HX1 : Hid (x ∉ l.take (q + 1)) := by
          show _ ∉ _
          rw [HT.out]
          intro hm
          rcases List.mem_append.1 hm with hm | hm
          · exact HX.out hm
          · exact hxy (List.mem_singleton.1 hm).symm
        clear hxy
        go_wp2
        go_roundw
        case measure => simp [intOf]; omega
        case rel => exact ⟨q + 1, by omega, by go_num, by first | rfl | trivial, HX1⟩
    · have HF : Hid (R = l ++ [x]) := by
        show _ = _
        have := HX.out
        rw [List.take_of_length_le (by rw [← HN.out]; omega)] at this
        rw [HR.out, addOnce_miss this]
      have hLl : l.length ≤ 10000000 := by rw [← HN.out]; exact hl'
      go_wp2_with (at_builtin; refine wpList_app1 (α := Int) rfl _ _ 28 rfl base 33 u32Cs Try.underlying28 Try.info33 rfl (by decide) u32Cs_size u32Cs_one _ l rfl (OwnR.below HO.out ((Below.refl _ _).alloc (Nat.le_refl _) _) (Nat.le_refl _)) _ rfl x (by rw [rng_alloc_at _ _ _ _ _ _ _ (by first | rfl | simp)]; rfl) (by omega) (by unfold maxLen; omega) (by simp; omega) ?_; intro v' w' hown' hsame hbel' hat)
      go_ret
      refine ⟨v', rfl, by rw [HF.out]; exact hown', fun b hb' => (hsame b ⟨by simp; omega, hb'.2⟩).trans (Below.heap_alloc _ _ _ hb'.1), ((Below.refl _ _).alloc hb _).trans hbel', ?_⟩
      rcases hat with h | h
      · exact Or.inl h
      · refine Or.inr fun b hb' => ?_
        rw [h] at hb'
        simp at hb'
        omega

set_option maxRecDepth 100000 in
theorem open_calls (w : World) (S : Nat) :
    Calls Try.prog 28 #[.pointer (some ⟨S, 0, none⟩)] w fun e w' => e = .returned (.pointer (some ⟨w.heap.size, 0, none⟩)) ∧ w.alloc (.cells #[.pointer (some ⟨S, 0, none⟩)] 118) = w' := by
  go_enter Try.func28, Try.ntmps28
  go_wp2
  go_ret
  exact ⟨rfl, rfl⟩

/-- The bench at block B: the store's block, the handle's. -/
structure BAt (w : World) (B P S : Nat) (A : Nat → Prop) (ps : List KV) (full : Bool) : Prop where
  bench : w.heap[B]? = some (.cells #[.pointer (some ⟨S, 0, none⟩), .pointer (some ⟨P, 0, none⟩)] 65 (0, 0))
  at' : PAt w P S A ps full

set_option maxRecDepth 100000 in
theorem newBench_calls (w : World) :
    Calls Try.prog 10 #[] w fun e w' => e = .returned (.pointer (some ⟨w.heap.size + 2, 0, none⟩)) ∧ BAt w' (w.heap.size + 2) (w.heap.size + 1) w.heap.size (fun _ => False) [] false ∧ w'.heap.size = w.heap.size + 3 ∧ Below w.heap.size w w' := by
  go_enter Try.func10, Try.ntmps10
  go_wp2_with (go_at_call 28; refine (open_calls _ _).mono ?_; rintro e w2 ⟨rfl, rfl⟩)
  go_ret
  refine ⟨rfl, ⟨?_, ?_, ?_⟩, by simp, (((Below.refl _ _).alloc (Nat.le_refl _) _).alloc (by simp) _).alloc (by simp; omega) _⟩
  · have := heap_alloc_at ((w.alloc (.cells #[.slice none 0 0, .bool false] 76)).alloc (.cells #[.pointer (some ⟨w.heap.size, 0, none⟩)] 118)) (.cells #[.pointer (some ⟨w.heap.size, 0, none⟩), .pointer (some ⟨w.heap.size + 1, 0, none⟩)] 65)
    simpa using this
  · rw [Below.heap_alloc _ _ _ (by simp)]
    have := heap_alloc_at (w.alloc (.cells #[.slice none 0 0, .bool false] 76)) (.cells #[.pointer (some ⟨w.heap.size, 0, none⟩)] 118)
    simpa using this
  · refine ⟨⟨.slice none 0 0, ?_, ⟨[], RArr.nil _ _ _ _, rfl, fun i hi => by cases hi⟩⟩, fun h => h, fun b h => h.elim⟩
    rw [Below.heap_alloc _ _ _ (by simp; omega), Below.heap_alloc _ _ _ (by simp)]
    exact heap_alloc_at _ _

end Go.Proofs.Qxb6500665a
