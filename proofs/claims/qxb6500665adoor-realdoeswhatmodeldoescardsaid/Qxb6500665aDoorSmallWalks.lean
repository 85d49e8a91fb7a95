/- Limit, addOnce, Open, newBench, walked. -/
import Derived.Test.Qxb6500665aDoorClassifyWalk
namespace Go.Proofs.Qxb6500665aDoor
open Go.RowKit Go.Proofs.Qxb6500665aDoor.Cal

attribute [local go_sem ↓] exec_stAnalyte
attribute [local go_sem] run_stAnalyte ones_iiii whole_alloc_lt whole_alloc_at whole_drew whole_setCell_other whole_setRow_other setRow_alloc_at setRow_alloc_lt

set_option maxRecDepth 100000 in
set_option maxHeartbeats 1000000 in
theorem limit_bad (w : World) (P : Nat) (id c : Int) (hc : c < 1 ∨ 3 < c) :
    Calls Tryd.prog 27 #[.pointer (some ⟨P, 0, none⟩), .int .u32 id, .int .u8 c] w fun e w' => e = .returned (.tuple #[.int .i64 0, errV 6]) ∧ Below w.heap.size w w' := by
  by_cases h1 : c < 1
  · clear hc
    go_enter Tryd.func27, Tryd.ntmps27
    go_wp2
    go_ret2
    exact ⟨rfl, Below.refl _ _⟩
  · have h2 : 3 < c := by omega
    clear hc
    go_enter Tryd.func27, Tryd.ntmps27
    go_wp2
    go_ret2
    exact ⟨rfl, Below.refl _ _⟩

set_option maxRecDepth 100000 in
set_option maxHeartbeats 1000000 in
theorem limit_none (w : World) (P S : Nat) (A : Nat → Prop) (ps : List KV) (full : Bool) (id c : Int) (h : PAt w P S A ps full) (h1 : 1 ≤ c) (h3 : c ≤ 3) (hid : U32 id) (hO : getB ps (keyB 97 id) = none) :
    Calls Tryd.prog 27 #[.pointer (some ⟨P, 0, none⟩), .int .u32 id, .int .u8 c] w fun e w' => e = .returned (.tuple #[.int .i64 0, errV 14]) ∧ Below w.heap.size w w' := by
  have HA := hide (analyte_none w P S A ps full id h hid hO)
  clear h hO
  have k1 : ¬ c < 1 := by omega
  have k2 : ¬ 3 < c := by omega
  go_enter Tryd.func27, Tryd.ntmps27
  go_wp2_with (go_at_call 24; refine HA.out.mono ?_; rintro e w1 ⟨rfl, hb1⟩)
  go_ret2
  exact ⟨rfl, hb1.alloc hb1.size _⟩

set_option maxRecDepth 100000 in
set_option maxHeartbeats 1000000 in
theorem limit_some (w : World) (P S : Nat) (A : Nat → Prop) (ps : List KV) (full : Bool) (id c l0 l1 l2 : Int) (h : PAt w P S A ps full) (h1 : 1 ≤ c) (h3 : c ≤ 3) (hid : U32 id) (hO : getB ps (keyB 97 id) = some (anaB l0 l1 l2)) (k0 : I64 l0) (k1 : I64 l1) (k2 : I64 l2) :
    Calls Tryd.prog 27 #[.pointer (some ⟨P, 0, none⟩), .int .u32 id, .int .u8 c] w fun e w' => e = .returned (.tuple #[.int .i64 (if c = 1 then l0 else if c = 2 then l1 else l2), .nilIface]) ∧ Below w.heap.size w w' := by
  have HA := hide (analyte_some w P S A ps full id l0 l1 l2 h hid hO k0 k1 k2)
  clear h hO
  rcases (show c = 1 ∨ c = 2 ∨ c = 3 by omega) with rfl | rfl | rfl
  · have hix : ∀ g W, (Instr.indexAt 30 (.pointer (some ⟨g, 1, none⟩)) (.int .u8 0)).run Tryd.prog W = .ok (.pointer (some ⟨g, 1, none⟩)) W := fun g W => by kernel_rfl
    go_enter Tryd.func27, Tryd.ntmps27
    go_wp2_with (go_at_call 24; refine HA.out.mono ?_; rintro e w1 ⟨rfl, hb1⟩)
    go_ret2
    exact ⟨rfl, hb1.alloc hb1.size _⟩
  · have hix : ∀ g W, (Instr.indexAt 30 (.pointer (some ⟨g, 1, none⟩)) (.int .u8 1)).run Tryd.prog W = .ok (.pointer (some ⟨g, 2, none⟩)) W := fun g W => by kernel_rfl
    go_enter Tryd.func27, Tryd.ntmps27
    go_wp2_with (go_at_call 24; refine HA.out.mono ?_; rintro e w1 ⟨rfl, hb1⟩)
    go_ret2
    exact ⟨rfl, hb1.alloc hb1.size _⟩
  · have hix : ∀ g W, (Instr.indexAt 30 (.pointer (some ⟨g, 1, none⟩)) (.int .u8 2)).run Tryd.prog W = .ok (.pointer (some ⟨g, 3, none⟩)) W := fun g W => by kernel_rfl
    go_enter Tryd.func27, Tryd.ntmps27
    go_wp2_with (go_at_call 24; refine HA.out.mono ?_; rintro e w1 ⟨rfl, hb1⟩)
    go_ret2
    exact ⟨rfl, hb1.alloc hb1.size _⟩

def i64Cs (x : Int) : Array Value := #[.int .i64 x]
theorem i64Cs_size (b : Int) : (i64Cs b).size = 1 := rfl
theorem i64Cs_one (b : Int) : ∀ u ∈ (i64Cs b).toList, u.oneCell' = true := by simp [i64Cs, Value.oneCell']
theorem Tryd.info2 : (Tryd.prog.info? 2).map (fun i => (i.zero, i.size, i.bytes)) = some (some (.int .i64 0), 1, 8) := by kernel_rfl
theorem Tryd.size2 (w : World) : (sizeOf 2).run Tryd.prog w = .ok 1 w := by kernel_rfl

/-- x behind the list, unless it is in it. -/
def addOnce (l : List Int) (x : Int) : List Int := if x ∈ l then l else l ++ [x]

theorem addOnce_hit {l : List Int} {x : Int} (h : x ∈ l) : addOnce l x = l := if_pos h
theorem addOnce_miss {l : List Int} {x : Int} (h : x ∉ l) : addOnce l x = l ++ [x] := if_neg h

set_option maxRecDepth 100000 in
theorem open_calls (w : World) (S : Nat) :
    Calls Tryd.prog 13 #[.pointer (some ⟨S, 0, none⟩)] w fun e w' => e = .returned (.pointer (some ⟨w.heap.size, 0, none⟩)) ∧ w.alloc (.cells #[.pointer (some ⟨S, 0, none⟩)] 124) = w' := by
  go_enter Tryd.func13, Tryd.ntmps13
  go_wp2
  go_ret
  exact ⟨rfl, rfl⟩

/-- The bench at block B: the store's block, the handle's. -/
structure BAt (w : World) (B P S : Nat) (A : Nat → Prop) (ps : List KV) (full : Bool) : Prop where
  bench : w.heap[B]? = some (.cells #[.pointer (some ⟨S, 0, none⟩), .pointer (some ⟨P, 0, none⟩)] 55 (0, 0))
  at' : PAt w P S A ps full

set_option maxRecDepth 100000 in
theorem newBench_calls (w : World) :
    Calls Tryd.prog 6 #[] w fun e w' => e = .returned (.pointer (some ⟨w.heap.size + 2, 0, none⟩)) ∧ BAt w' (w.heap.size + 2) (w.heap.size + 1) w.heap.size (fun _ => False) [] false ∧ w'.heap.size = w.heap.size + 3 ∧ Below w.heap.size w w' := by
  go_enter Tryd.func6, Tryd.ntmps6
  go_wp2_with (go_at_call 13; refine (open_calls _ _).mono ?_; rintro e w2 ⟨rfl, rfl⟩)
  go_ret
  refine ⟨rfl, ⟨?_, ?_, ?_⟩, by simp, (((Below.refl _ _).alloc (Nat.le_refl _) _).alloc (by simp) _).alloc (by simp; omega) _⟩
  · have := heap_alloc_at ((w.alloc (.cells #[.slice none 0 0, .bool false] 57)).alloc (.cells #[.pointer (some ⟨w.heap.size, 0, none⟩)] 124)) (.cells #[.pointer (some ⟨w.heap.size, 0, none⟩), .pointer (some ⟨w.heap.size + 1, 0, none⟩)] 55)
    simpa using this
  · rw [Below.heap_alloc _ _ _ (by simp)]
    have := heap_alloc_at (w.alloc (.cells #[.slice none 0 0, .bool false] 57)) (.cells #[.pointer (some ⟨w.heap.size, 0, none⟩)] 124)
    simpa using this
  · refine ⟨⟨.slice none 0 0, ?_, ⟨[], RArr.nil _ _ _ _, rfl, fun i hi => by cases hi⟩⟩, fun h => h, fun b h => h.elim⟩
    rw [Below.heap_alloc _ _ _ (by simp; omega), Below.heap_alloc _ _ _ (by simp)]
    exact heap_alloc_at _ _

end Go.Proofs.Qxb6500665aDoor
