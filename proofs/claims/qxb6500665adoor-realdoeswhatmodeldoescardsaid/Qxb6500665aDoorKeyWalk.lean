/- finish, key, writeIDs: walked. -/
import Derived.Test.Qxb6500665aDoorWriterWalk
namespace Go.Proofs.Qxb6500665aDoor
open Go.RowKit

set_option maxRecDepth 100000 in
theorem wFinish_calls (w : World) (g : Nat) (v : Value) (hg : w.heap[g]? = some (.cells #[v] 159 (0, 0))) :
    Calls Tryd.prog 93 #[.pointer (some ⟨g, 0, none⟩)] w fun e w' => e = .returned (.tuple #[v, .nilIface]) ∧ w = w' := by
  obtain ⟨hc, -, -⟩ := cell_one hg
  go_enter Tryd.func93, Tryd.ntmps93
  go_wp2
  go_ret2
  exact ⟨rfl, rfl⟩

set_option maxRecDepth 100000 in
theorem finish_calls (w : World) (g : Nat) (v : Value) (hg : w.heap[g]? = some (.cells #[v] 159 (0, 0))) :
    Calls Tryd.prog 79 #[.pointer (some ⟨g, 0, none⟩)] w fun e w' => e = .returned v ∧ w = w' := by
  go_enter Tryd.func79, Tryd.ntmps79
  go_wp2_with (go_at_call 93; refine (wFinish_calls _ g v hg).mono ?_; rintro e w1 ⟨rfl, rfl⟩)
  go_ret
  exact ⟨rfl, rfl⟩

/-- A new writer. -/
theorem writer_new (w : World) : WriterAt (w.alloc (.cells #[.slice none 0 0] 159)) w.heap.size w.heap.size (fun _ => False) [] :=
  ⟨none, 0, heap_alloc_at _ _, Nat.le_refl _, OwnR.nil _ _ _ _ _, by simp [Value.ownBlock], fun h => h, fun _ _ h => h, fun _ h => h.elim⟩

def keyB (tag id : Int) : List Int := d256 1 tag ++ d256 4 id

set_option maxRecDepth 100000 in
set_option maxHeartbeats 1000000 in
theorem key_calls (w : World) (tag id : Int) (h1 : 0 ≤ tag ∧ tag ≤ 255) (h2 : 0 ≤ id ∧ id ≤ 4294967295) :
    Calls Tryd.prog 49 #[.int .u8 tag, .int .u32 id] w fun e w' => ∃ v, e = .returned v ∧ OwnR w' w.heap.size 5 1 byteCs v (keyB tag id) ∧ Below w.heap.size w w' := by
  have hW0 := writer_new w
  have hb0 : Below w.heap.size w (w.alloc (.cells #[.slice none 0 0] 159)) := (Below.refl _ _).alloc (Nat.le_refl _) _
  go_enter Tryd.func49, Tryd.ntmps49
  go_upto_region 3 with (go_at_call 77; refine (wU8_calls _ _ _ _ [] tag hW0 (by simp) h1.1 h1.2).mono ?_; rintro e w1 ⟨rfl, hW1⟩)
  go_upto_region 4 with (go_at_call 78; refine (wU32_calls _ _ _ _ _ id hW1.text (by simp [d256]) h2.1 h2.2).mono ?_; rintro e w2 ⟨rfl, hW2⟩)
  obtain ⟨a, cap, hg, -, hown, -⟩ := hW2.text
  go_wp2_with (go_at_call 79; refine (finish_calls _ _ _ hg).mono ?_; rintro e w3 ⟨rfl, rfl⟩)
  go_ret
  exact ⟨_, rfl, hown, hb0.trans (hW1.below.trans hW2.below)⟩

end Go.Proofs.Qxb6500665aDoor
