/- How large a command's batch is (plain). -/
import Derived.Test.Qxb6500666aGreatDoorCmdP
namespace Go.Proofs.Qxb6500666aGreatDoor

theorem chgB_len (c : Change) : (chgB c).length = 66 := by simp [chgB, i64B_len, d256_len]
theorem ptrW_size (seq : Int) (i : Nat) (c : Change) : (ptrW seq i c).1.1.length + (ptrW seq i c).1.2.length ≤ 17 := by
  unfold ptrW
  split <;> simp [key2B, placeB, d256_len]
theorem incW_size (seq : Int) : ∀ (i : Nat) (cs : List Change), sizeW (incW seq i cs) ≤ 116 * cs.length ∧ (incW seq i cs).length = 2 * cs.length
  | _, [] => ⟨by simp [incW, sizeW], rfl⟩
  | i, c :: cs => by
    have h := incW_size seq (i + 1) cs
    have h2 := ptrW_size seq i c
    have h3 := chgB_len c
    constructor
    · simp only [incW, sizeW, List.length_cons, h3]
      simp only [key2B, List.length_append, d256_len]
      omega
    · simp only [incW, List.length_cons]; omega
theorem hdrB_len (x : Hdr) : (hdrB x).length = 25 := by simp [hdrB, i64B_len, d256_len]
theorem key1B_len (t a : Int) : (key1B t a).length = 5 := by simp [key1B, d256_len]
theorem incR_size (ps : List KV) (L : Low) (now : Int) (s : Stat) : sizeW (incR ps L now s 0).2.2.2 ≤ 2362 ∧ (incR ps L now s 0).2.2.2.length ≤ 41 := by
  unfold incR
  split
  · simp [sizeW]
  · rename_i all _
    split
    · have h := incW_size ((s.transfers + 1) % 4294967296) 0 (all.take 20)
      have h2 : (all.take 20).length ≤ 20 := by simp; omega
      constructor
      · simp only [sizeW, key1B_len, hdrB_len]; omega
      · simp only [List.length_cons]; omega
    · simp [sizeW]
theorem cumR_size (ps : List KV) (L : Low) (now : Int) (s : Stat) : sizeW (cumR ps L now s 0).2.2.2 ≤ 2362 ∧ (cumR ps L now s 0).2.2.2.length ≤ 41 := by
  unfold cumR
  split
  · simp [sizeW]
  · split
    · simp [sizeW]
    · split
      · simp [sizeW]
      · split
        · simp [sizeW, key1B_len, hdrB_len]
        · simp [sizeW]
theorem user_size (ps : List KV) (r : Req) : (sizeW (addUserR ps r).2 ≤ 2362 ∧ (addUserR ps r).2.length ≤ 41) ∧ (sizeW (revokeR ps r).2 ≤ 2362 ∧ (revokeR ps r).2.length ≤ 41) := by
  constructor
  · unfold addUserR
    split
    · simp [sizeW]
    · split
      · simp [sizeW]
      · split
        · simp [sizeW]
        · split <;> simp [sizeW, key1B_len, accB, d256_len]
  · unfold revokeR
    split
    · simp [sizeW]
    · split
      · simp [sizeW]
      · split <;> simp [sizeW, key1B_len, accB, d256_len]
def SmallR (R : HR) : Prop := sizeW R.ws ≤ 2362 ∧ R.ws.length ≤ 41
theorem ite_small {c : Prop} [Decidable c] {a b : HR} (h1 : SmallR a) (h2 : SmallR b) : SmallR (if c then a else b) := by
  split
  · exact h1
  · exact h2
theorem handR_size (ps : List KV) (L : Low) (s : Stat) (r : Req) : sizeW (handR ps L s r).ws ≤ 2362 ∧ (handR ps L s r).ws.length ≤ 41 := by
  have h1 := user_size ps r
  have h2 := incR_size ps L r.now s
  have h3 := cumR_size ps L r.now s
  show SmallR (handR ps L s r)
  unfold handR
  have z : ∀ (c : Int) (l : Low), SmallR ⟨c, s, 0, [], l⟩ := fun _ _ => ⟨Nat.zero_le _, Nat.zero_le _⟩
  refine ite_small h1.1 (ite_small h1.2 (ite_small (z _ _) (ite_small (z _ _) (ite_small (z _ _) (ite_small (z _ _) (ite_small (z _ _) (ite_small (z _ _) (ite_small (z _ _) (ite_small (z _ _) (ite_small (z _ _) (ite_small (z _ _) (ite_small (z _ _) (ite_small (z _ _) (ite_small (z _ _) (ite_small (z _ _) (ite_small (z _ _) (ite_small (z _ _) (ite_small h2 h3))))))))))))))))))
theorem entB_len (role issued : Int) (r : Req) : (entB role issued r).length = 89 + 4 * r.list.length := by
  have h3 : (limB r 3).length = 24 := by show (i64B r.l0 ++ i64B r.l1 ++ i64B r.l2).length = 24; simp only [List.length_append, i64B_len]
  have h4 : (reqHeadB r).length = 59 := by unfold reqHeadB; simp only [List.length_append, i64B_len, d256_len]
  unfold entB reqB
  simp only [List.length_append, h3, h4, d256_len, idsT_len]
  omega
theorem wsAll_size {R : HR} {r : Req} {role : Int} (h1 : sizeW R.ws ≤ 2362 ∧ R.ws.length ≤ 41) (h2 : r.list.length ≤ 12) : sizeW (wsAll R r role) ≤ 3000 ∧ (wsAll R r role).length ≤ 43 := by
  unfold wsAll
  rw [sizeW_append, sizeW_append]
  simp only [sizeW, key1B_len, entB_len, List.length_append, List.length_cons, List.length_nil]
  simp only [key0B, statB, i64B_len, d256_len, List.length_append, List.length_cons, List.length_nil]
  omega

end Go.Proofs.Qxb6500666aGreatDoor
