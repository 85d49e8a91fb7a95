/- What every step keeps (plain). -/
import Derived.Test.Qxb6500666aGreatDoorCmdS
import Derived.Test.Qxb6500666aGreatDoorEntOk
namespace Go.Proofs.Qxb6500666aGreatDoor

theorem byteL_app {a b : List Int} (h1 : ByteL a) (h2 : ByteL b) : ByteL (a ++ b) := fun x hx => by
  rcases List.mem_append.1 hx with hx | hx
  · exact h1 x hx
  · exact h2 x hx
theorem d256_bytes : ∀ (c : Nat) (n : Int), ByteL (d256 c n)
  | 0, _ => fun _ h => by cases h
  | c + 1, n => byteL_app (d256_bytes c (n / 256)) (fun x hx => by
      rw [List.mem_singleton.1 hx]
      omega)
theorem i64B_bytes (x : Int) : ByteL (i64B x) := d256_bytes _ _
theorem idsT_bytes (l : List Int) : ByteL (idsT l) := by
  induction l with
  | nil => intro x hx; cases hx
  | cons x r ih => exact byteL_app (d256_bytes 4 x) ih
theorem byteL_nil : ByteL [] := fun _ h => by cases h
theorem key1B_bytes (t a : Int) : ByteL (key1B t a) := byteL_app (d256_bytes _ _) (d256_bytes _ _)
theorem key2B_bytes (t a b : Int) : ByteL (key2B t a b) := byteL_app (byteL_app (d256_bytes _ _) (d256_bytes _ _)) (d256_bytes _ _)
theorem key0B_bytes {t : Int} (h : 0 ≤ t ∧ t ≤ 255) : ByteL (key0B t) := fun x hx => by rw [List.mem_singleton.1 hx]; exact h
theorem placeB_bytes (a b : Int) : ByteL (placeB a b) := byteL_app (d256_bytes _ _) (d256_bytes _ _)
theorem accB_bytes (a : Int) (b : Bool) : ByteL (accB a b) := byteL_app (d256_bytes _ _) (d256_bytes _ _)
theorem statB_bytes (s : Stat) : ByteL (statB s) :=
  byteL_app (byteL_app (byteL_app (d256_bytes _ _) (d256_bytes _ _)) (d256_bytes _ _)) (i64B_bytes _)
theorem hdrB_bytes (s : Hdr) : ByteL (hdrB s) :=
  byteL_app (byteL_app (byteL_app (byteL_app (byteL_app (d256_bytes _ _) (i64B_bytes _)) (d256_bytes _ _)) (d256_bytes _ _)) (d256_bytes _ _)) (d256_bytes _ _)
theorem chgB_bytes (s : Change) : ByteL (chgB s) :=
  byteL_app (byteL_app (byteL_app (byteL_app (byteL_app (byteL_app (byteL_app (byteL_app (byteL_app (byteL_app (byteL_app (byteL_app (byteL_app (d256_bytes _ _) (d256_bytes _ _)) (d256_bytes _ _)) (d256_bytes _ _)) (i64B_bytes _)) (d256_bytes _ _)) (d256_bytes _ _)) (d256_bytes _ _)) (d256_bytes _ _)) (d256_bytes _ _)) (d256_bytes _ _)) (i64B_bytes _)) (i64B_bytes _)) (i64B_bytes _)
theorem reqHeadB_bytes (s : Req) : ByteL (reqHeadB s) :=
  byteL_app (byteL_app (byteL_app (byteL_app (byteL_app (byteL_app (byteL_app (byteL_app (byteL_app (byteL_app (byteL_app (byteL_app (d256_bytes _ _) (d256_bytes _ _)) (i64B_bytes _)) (d256_bytes _ _)) (d256_bytes _ _)) (d256_bytes _ _)) (d256_bytes _ _)) (d256_bytes _ _)) (d256_bytes _ _)) (d256_bytes _ _)) (i64B_bytes _)) (i64B_bytes _)) (i64B_bytes _)
theorem entB_bytes (a b : Int) (r : Req) : ByteL (entB a b r) := by
  have h3 : ByteL (limB r 3) := byteL_app (byteL_app (i64B_bytes _) (i64B_bytes _)) (i64B_bytes _)
  unfold entB reqB
  exact byteL_app (byteL_app (d256_bytes _ _) (d256_bytes _ _)) (byteL_app (byteL_app (byteL_app (reqHeadB_bytes r) h3) (d256_bytes _ _)) (idsT_bytes _))
def WsOk (ws : List WR) : Prop := ∀ x ∈ ws, ByteL x.1.1 ∧ ByteL x.1.2
theorem wsOk_nil : WsOk [] := fun _ h => by cases h
theorem wsOk_cons {x : WR} {ws : List WR} (h : ByteL x.1.1 ∧ ByteL x.1.2) (k : WsOk ws) : WsOk (x :: ws) := fun y hy => by
  rcases List.mem_cons.1 hy with rfl | hy
  · exact h
  · exact k y hy
theorem wsOk_app {a b : List WR} (h : WsOk a) (k : WsOk b) : WsOk (a ++ b) := fun y hy => by
  rcases List.mem_append.1 hy with hy | hy
  · exact h y hy
  · exact k y hy
theorem incW_ok (seq : Int) : ∀ (i : Nat) (cs : List Change), WsOk (incW seq i cs)
  | _, [] => wsOk_nil
  | i, c :: cs => wsOk_cons ⟨key2B_bytes _ _ _, chgB_bytes c⟩ (wsOk_cons (by
      unfold ptrW
      split
      · exact ⟨key2B_bytes _ _ _, byteL_nil⟩
      · exact ⟨key2B_bytes _ _ _, placeB_bytes _ _⟩) (incW_ok seq (i + 1) cs))
theorem incR_ws (ps : List KV) (L : Low) (now : Int) (s : Stat) : WsOk (incR ps L now s 0).2.2.2 := by
  unfold incR
  split
  · exact wsOk_nil
  · split
    · exact wsOk_cons ⟨key1B_bytes _ _, hdrB_bytes _⟩ (incW_ok _ _ _)
    · exact wsOk_nil
theorem cumR_ws (ps : List KV) (L : Low) (now : Int) (s : Stat) : WsOk (cumR ps L now s 0).2.2.2 := by
  unfold cumR
  split
  · exact wsOk_nil
  · split
    · exact wsOk_nil
    · split
      · exact wsOk_nil
      · split
        · exact wsOk_cons ⟨key1B_bytes _ _, hdrB_bytes _⟩ wsOk_nil
        · exact wsOk_nil
theorem addUser_ws (ps : List KV) (r : Req) : WsOk (addUserR ps r).2 := by
  unfold addUserR
  repeat' split
  all_goals first | exact wsOk_nil | exact wsOk_cons ⟨key1B_bytes _ _, accB_bytes _ _⟩ wsOk_nil
theorem revoke_ws (ps : List KV) (r : Req) : WsOk (revokeR ps r).2 := by
  unfold revokeR
  repeat' split
  all_goals first | exact wsOk_nil | exact wsOk_cons ⟨key1B_bytes _ _, accB_bytes _ _⟩ wsOk_nil
def WsR (R : HR) : Prop := WsOk R.ws
theorem ite_ws {c : Prop} [Decidable c] {a b : HR} (h1 : WsR a) (h2 : WsR b) : WsR (if c then a else b) := by
  split
  · exact h1
  · exact h2
theorem handR_ws (ps : List KV) (L : Low) (s : Stat) (r : Req) : WsOk (handR ps L s r).ws := by
  show WsR (handR ps L s r)
  unfold handR
  have z : ∀ (c : Int) (l : Low), WsR ⟨c, s, 0, [], l⟩ := fun _ _ => wsOk_nil
  refine ite_ws (addUser_ws ps r) (ite_ws (revoke_ws ps r) (ite_ws (z _ _) (ite_ws (z _ _) (ite_ws (z _ _) (ite_ws (z _ _) (ite_ws (z _ _) (ite_ws (z _ _) (ite_ws (z _ _) (ite_ws (z _ _) (ite_ws (z _ _) (ite_ws (z _ _) (ite_ws (z _ _) (ite_ws (z _ _) (ite_ws (z _ _) (ite_ws (z _ _) (ite_ws (z _ _) (ite_ws (z _ _) (ite_ws (incR_ws ps L r.now s) (cumR_ws ps L r.now s)))))))))))))))))))
theorem wsAll_ok {R : HR} {r : Req} {role : Int} (h : WsOk R.ws) : WsOk (wsAll R r role) :=
  wsOk_app (wsOk_app h (wsOk_cons ⟨key1B_bytes _ _, entB_bytes _ _ _⟩ wsOk_nil)) (wsOk_cons ⟨key0B_bytes (by decide), statB_bytes _⟩ wsOk_nil)
theorem rmB_sub {ps : List KV} {k : List Int} : (rmB ps k).length ≤ ps.length ∧ ∀ p ∈ rmB ps k, p ∈ ps := by
  induction ps with
  | nil => exact ⟨Nat.le_refl _, fun _ h => h⟩
  | cons x r ih =>
    unfold rmB
    split
    · exact ⟨by simp, fun p hp => by simp [hp]⟩
    · refine ⟨by simp; exact ih.1, fun p hp => ?_⟩
      rcases List.mem_cons.1 hp with rfl | hp
      · simp
      · simp [ih.2 p hp]
theorem putW_ok {ps : List KV} {x : WR} (h : PsOk ps) (hx : ByteL x.1.1 ∧ ByteL x.1.2) : PsOk (putW ps x) ∧ (putW ps x).length ≤ ps.length + 1 := by
  have hr := rmB_sub (ps := ps) (k := x.1.1)
  unfold putW
  constructor
  · intro p hp
    rcases List.mem_append.1 hp with hp | hp
    · exact h p (hr.2 p hp)
    · split at hp
      · cases hp
      · rw [List.mem_singleton.1 hp]; exact hx
  · have := hr.1
    split <;> simp <;> omega
theorem applyW_ok : ∀ {ws : List WR} {ps : List KV}, PsOk ps → WsOk ws → PsOk (applyW ps ws) ∧ (applyW ps ws).length ≤ ps.length + ws.length
  | [], ps, h, _ => ⟨h, by simp [applyW]⟩
  | x :: r, ps, h, hw => by
    have h1 := putW_ok h (hw x (by simp))
    have h2 := applyW_ok (ws := r) h1.1 (fun y hy => hw y (by simp [hy]))
    have e : applyW ps (x :: r) = applyW (putW ps x) r := rfl
    rw [e]
    exact ⟨h2.1, by simp; omega⟩

end Go.Proofs.Qxb6500666aGreatDoor
