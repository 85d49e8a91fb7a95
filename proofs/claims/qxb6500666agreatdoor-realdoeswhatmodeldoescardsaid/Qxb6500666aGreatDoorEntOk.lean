/- What the stored bytes decode to is in range. -/
import Derived.Test.Qxb6500666aGreatDoorRTrail2
import Derived.Test.Qxb6500666aGreatDoorRowsB
namespace Go.Proofs.Qxb6500666aGreatDoor

theorem rdIds_ok : ∀ (n : Nat) (r : Rd) (acc : List Int), ByteL r.rest → (∀ y ∈ acc, U32 y) → ∀ y ∈ (rdIds n r acc).1, U32 y
  | 0, _, _, _, h => h
  | n + 1, r, acc, hb, h => rdIds_ok n (rdDig 4 r).2 (acc ++ [(rdDig 4 r).1]) (rdDig_bytes hb) (fun y hy => by
      rcases List.mem_append.1 hy with hy | hy
      · exact h y hy
      · rw [List.mem_singleton.1 hy]; exact dig4_u32 hb)
theorem zeroReq_ok : zeroReq.Ok := by
  constructor <;> exact ⟨by decide, by decide⟩
theorem readReq_ok {r : Rd} (h : ByteL r.rest) : (readReq r).1.1.Ok ∧ ∀ y ∈ (readReq r).1.1.list, U32 y := by
  have b1 := rdDig_bytes (c := 1) h
  have b2 := rdDig_bytes (c := 4) b1
  have b3 := rdI64_bytes b2
  have b4 := rdDig_bytes (c := 4) b3
  have b5 := rdDig_bytes (c := 4) b4
  have b6 := rdDig_bytes (c := 4) b5
  have b7 := rdDig_bytes (c := 4) b6
  have b8 := rdDig_bytes (c := 4) b7
  have b9 := rdDig_bytes (c := 1) b8
  have b10 := rdDig_bytes (c := 1) b9
  have b11 := rdI64_bytes b10
  have b12 := rdI64_bytes b11
  have b13 := rdI64_bytes b12
  have b14 := rdI64_bytes b13
  have b15 := rdI64_bytes b14
  have b16 := rdI64_bytes b15
  have b17 := rdDig_bytes (c := 1) b16
  unfold readReq
  dsimp only
  split
  · exact ⟨zeroReq_ok, by simp [zeroReq]⟩
  · exact ⟨⟨dig1_u8 h, dig4_u32 b1, rdI64_i64 b2, dig4_u32 b3, dig4_u32 b4, dig4_u32 b5, dig4_u32 b6, dig4_u32 b7, dig1_u8 b8, dig1_u8 b9, rdI64_i64 b10, rdI64_i64 b11, rdI64_i64 b12, rdI64_i64 b13, rdI64_i64 b14, rdI64_i64 b15⟩, rdIds_ok _ _ [] b17 (by simp)⟩
theorem decEnt_ok {seq : Int} {bs : List Int} {x : Ent} (hb : ByteL bs) (h : decEnt seq bs = some x) : x.Ok := by
  have b0 : ByteL (⟨bs, false⟩ : Rd).rest := hb
  have b1 := rdDig_bytes (c := 1) b0
  have b2 := rdDig_bytes (c := 4) b1
  have h3 := readReq_ok b2
  unfold decEnt at h
  dsimp only at h
  split at h
  · cases h
  · split at h
    · cases h
    · split at h
      · cases h
      · injection h with h
        subst h
        exact ⟨dig1_u8 b0, dig4_u32 b1, h3.1, h3.2⟩
theorem entR_ok {ps : List KV} {s : Int} {x : Ent} (hps : PsOk ps) (h : entR ps s = .ok x) : x.Ok := by
  unfold entR at h
  split at h
  · cases h
  · rename_i v hv
    unfold ofOpt at h
    split at h
    · cases h
    · rename_i y hy
      injection h with h
      subst h
      exact decEnt_ok (getB_ok hps hv) hy
theorem trGo_ok {ps : List KV} (hps : PsOk ps) : ∀ (k n : Nat) (acc l : List Ent), (∀ x ∈ acc, x.Ok) → trGo ps k n acc = some l → ∀ x ∈ l, x.Ok
  | 0, n, acc, l, h, hl => by injection hl with hl; exact hl ▸ h
  | k + 1, n, acc, l, h, hl => by
    unfold trGo at hl
    split at hl
    · cases hl
    · rename_i x hx
      exact trGo_ok hps k (n + 1) (acc ++ [x]) l (fun y hy => by
        rcases List.mem_append.1 hy with hy | hy
        · exact h y hy
        · rw [List.mem_singleton.1 hy]; exact entR_ok hps hx) hl
theorem trGo_len {ps : List KV} : ∀ (k n : Nat) (acc l : List Ent), (∀ j : Nat, 1 ≤ j → j < n → ∃ v, getB ps (key1B 97 j) = some v) → 1 ≤ n → n + k < 4294967297 → acc.length = n - 1 → trGo ps k n acc = some l → l.length ≤ ps.length
  | 0, n, acc, l, h, h1, h2, h3, hl => by
    injection hl with hl
    subst hl
    rw [h3]
    exact keys_bound (m := n - 1) (by omega) (fun j q1 q2 => h j q1 (by omega))
  | k + 1, n, acc, l, h, h1, h2, h3, hl => by
    unfold trGo at hl
    split at hl
    · cases hl
    · rename_i x hx
      refine trGo_len k (n + 1) (acc ++ [x]) l (fun j q1 q2 => ?_) (by omega) (by omega) (by simp; omega) hl
      by_cases hj : j < n
      · exact h j q1 hj
      · obtain rfl : j = n := by omega
        exact entR_some hx
theorem trailR_ok {ps : List KV} {l : List Ent} (hps : PsOk ps) (h : trailR ps = some l) : (∀ x ∈ l, x.Ok) ∧ l.length ≤ ps.length := by
  unfold trailR at h
  split at h
  · cases h
  · rename_i s hs
    have ho := (statR_ok hps hs).entries
    unfold U32 at ho
    exact ⟨trGo_ok hps _ _ [] l (by simp) h, trGo_len _ 1 [] l (fun j a b => by omega) (by omega) (by omega) (by simp) h⟩

end Go.Proofs.Qxb6500666aGreatDoor
