/- Headers, lines, places and keys, written and read back. Plain. -/
import Derived.Test.Qxb6500666aGreatDoorScanL
import Derived.Test.Qxb6500666aGreatDoorStage
import Derived.Test.Qxb6500666aGreatDoorLines
namespace Go.Proofs.Qxb6500666aGreatDoor
open Go.RowKit

theorem key2B_inj {t a b c d : Int} (ha : U32 a) (hb : U32 b) (hc : U32 c) (hd : U32 d) (h : key2B t a b = key2B t c d) : a = c ∧ b = d := by
  unfold key2B at h
  have p4 : (256 : Int) ^ 4 = 4294967296 := by decide
  obtain ⟨h1, h2⟩ := List.append_inj h (by simp [d256_len])
  have h3 := List.append_cancel_left h1
  exact ⟨d256_inj (c := 4) ⟨ha.1, by have := ha.2; omega⟩ ⟨hc.1, by have := hc.2; omega⟩ h3, d256_inj (c := 4) ⟨hb.1, by have := hb.2; omega⟩ ⟨hd.1, by have := hd.2; omega⟩ h2⟩
theorem decPlc_enc {a b : Int} (ha : U32 a) (hb : U32 b) (h0 : a ≠ 0) : decPlc (placeB a b) = some (a, b) := by
  have e1 := rdDig4 (d256 4 b) ha
  have e2 := rdDig4 [] hb
  rw [List.append_nil] at e2
  unfold decPlc placeB
  dsimp only
  rw [e1]
  dsimp only
  rw [e2]
  simp [rdDone, h0]
theorem splitK_enc {a b : Int} (ha : U32 a) (hb : U32 b) : splitK 114 (key2B 114 a b) = some (a, b) := by
  have e0 := rdDig1 (n := 114) (d256 4 a ++ d256 4 b) ⟨by decide, by decide⟩
  have e1 := rdDig4 (d256 4 b) ha
  have e2 := rdDig4 [] hb
  rw [List.append_nil] at e2
  unfold splitK key2B
  rw [List.append_assoc]
  dsimp only
  rw [e0]
  dsimp only
  rw [e1]
  dsimp only
  rw [e2]
  simp [rdDone]
theorem decHdr_enc {h : Hdr} (ho : h.Ok) (hk : h.kind = 67 ∨ h.kind = 73) (hb : h.base < h.seq) : decHdr h.seq (hdrB h) = some h := by
  have e1 := rdDig1 (i64B h.issued ++ (d256 4 h.base ++ (d256 4 h.count ++ (d256 4 h.sum ++ d256 4 h.len)))) ho.kind
  have e2 := rdI64_enc (d256 4 h.base ++ (d256 4 h.count ++ (d256 4 h.sum ++ d256 4 h.len))) ho.issued
  have e3 := rdDig4 (d256 4 h.count ++ (d256 4 h.sum ++ d256 4 h.len)) ho.base
  have e4 := rdDig4 (d256 4 h.sum ++ d256 4 h.len) ho.count
  have e5 := rdDig4 (d256 4 h.len) ho.sum
  have e6 := rdDig4 [] ho.len
  rw [List.append_nil] at e6
  unfold decHdr hdrB
  simp only [List.append_assoc]
  rw [e1]
  dsimp only
  rw [e2]
  dsimp only
  rw [e3]
  dsimp only
  rw [e4]
  dsimp only
  rw [e5]
  dsimp only
  rw [e6]
  have hd : decide (h.seq ≤ h.base) = false := by simp; omega
  have hkk : ((h.kind != 67) && (h.kind != 73)) = false := by rcases hk with e | e <;> simp [e]
  dsimp only
  rw [hd, hkk]
  simp [rdDone]
open Classical in
theorem decChg_eq {bs : List Int} {p1 p2 p3 p4 p5 p6 p7 p8 p9 p10 p11 p12 p13 p14 : Int × Rd} (e1 : rdDig 1 ⟨bs, false⟩ = p1) (e2 : rdDig 4 p1.2 = p2) (e3 : rdDig 4 p2.2 = p3) (e4 : rdDig 4 p3.2 = p4) (e5 : rdI64 p4.2 = p5) (e6 : rdDig 4 p5.2 = p6) (e7 : rdDig 4 p6.2 = p7) (e8 : rdDig 4 p7.2 = p8) (e9 : rdDig 4 p8.2 = p9) (e10 : rdDig 4 p9.2 = p10) (e11 : rdDig 1 p10.2 = p11) (e12 : rdI64 p11.2 = p12) (e13 : rdI64 p12.2 = p13) (e14 : rdI64 p13.2 = p14) : decChg bs = if ! rdDone p14.2 then none else if ¬ ActOk 73 p1.1 then none else if ¬ RowOk ⟨p2.1, p3.1, p4.1, p5.1, p6.1, p7.1, p8.1, p9.1, p10.1, p11.1, p12.1, p13.1, p14.1⟩ then none else some ⟨p1.1, ⟨p2.1, p3.1, p4.1, p5.1, p6.1, p7.1, p8.1, p9.1, p10.1, p11.1, p12.1, p13.1, p14.1⟩⟩ := by
  subst e1
  subst e2
  subst e3
  subst e4
  subst e5
  subst e6
  subst e7
  subst e8
  subst e9
  subst e10
  subst e11
  subst e12
  subst e13
  subst e14
  rfl
theorem decChg_enc {c : Change} (hc : c.Ok) (ha : ActOk 73 c.action) (hr : RowOk c.row) : decChg (chgB c) = some c := by
  obtain ⟨ac, s, an, ve, va, su, si, vi, pr, ki, cl, co, re, te⟩ := c
  obtain ⟨h0, h1, h2, h3, h4, h5, h6, h7, h8, h9, h10, h11, h12, h13⟩ := hc
  dsimp only at *
  have q14 := rdI64_enc [] h13
  rw [List.append_nil] at q14
  have q13 := rdI64_enc (i64B te) h12
  have q12 := rdI64_enc (i64B re ++ i64B te) h11
  have q11 := rdDig1 (i64B co ++ (i64B re ++ i64B te)) h10
  have q10 := rdDig4 (d256 1 cl ++ (i64B co ++ (i64B re ++ i64B te))) h9
  have q9 := rdDig4 (d256 4 ki ++ (d256 1 cl ++ (i64B co ++ (i64B re ++ i64B te)))) h8
  have q8 := rdDig4 (d256 4 pr ++ (d256 4 ki ++ (d256 1 cl ++ (i64B co ++ (i64B re ++ i64B te))))) h7
  have q7 := rdDig4 (d256 4 vi ++ (d256 4 pr ++ (d256 4 ki ++ (d256 1 cl ++ (i64B co ++ (i64B re ++ i64B te)))))) h6
  have q6 := rdDig4 (d256 4 si ++ (d256 4 vi ++ (d256 4 pr ++ (d256 4 ki ++ (d256 1 cl ++ (i64B co ++ (i64B re ++ i64B te))))))) h5
  have q5 := rdI64_enc (d256 4 su ++ (d256 4 si ++ (d256 4 vi ++ (d256 4 pr ++ (d256 4 ki ++ (d256 1 cl ++ (i64B co ++ (i64B re ++ i64B te)))))))) h4
  have q4 := rdDig4 (i64B va ++ (d256 4 su ++ (d256 4 si ++ (d256 4 vi ++ (d256 4 pr ++ (d256 4 ki ++ (d256 1 cl ++ (i64B co ++ (i64B re ++ i64B te))))))))) h3
  have q3 := rdDig4 (d256 4 ve ++ (i64B va ++ (d256 4 su ++ (d256 4 si ++ (d256 4 vi ++ (d256 4 pr ++ (d256 4 ki ++ (d256 1 cl ++ (i64B co ++ (i64B re ++ i64B te)))))))))) h2
  have q2 := rdDig4 (d256 4 an ++ (d256 4 ve ++ (i64B va ++ (d256 4 su ++ (d256 4 si ++ (d256 4 vi ++ (d256 4 pr ++ (d256 4 ki ++ (d256 1 cl ++ (i64B co ++ (i64B re ++ i64B te))))))))))) h1
  have q1 := rdDig1 (d256 4 s ++ (d256 4 an ++ (d256 4 ve ++ (i64B va ++ (d256 4 su ++ (d256 4 si ++ (d256 4 vi ++ (d256 4 pr ++ (d256 4 ki ++ (d256 1 cl ++ (i64B co ++ (i64B re ++ i64B te)))))))))))) h0
  have hb : chgB ⟨ac, s, an, ve, va, su, si, vi, pr, ki, cl, co, re, te⟩ = d256 1 ac ++ (d256 4 s ++ (d256 4 an ++ (d256 4 ve ++ (i64B va ++ (d256 4 su ++ (d256 4 si ++ (d256 4 vi ++ (d256 4 pr ++ (d256 4 ki ++ (d256 1 cl ++ (i64B co ++ (i64B re ++ i64B te)))))))))))) := by
    simp only [chgB, List.append_assoc]
  rw [hb, decChg_eq q1 q2 q3 q4 q5 q6 q7 q8 q9 q10 q11 q12 q13 q14]
  rw [if_neg (by simp [rdDone]), if_neg (fun q => q ha), if_neg (fun q => q hr)]
/-- The order of pointers' keys is the order of the rows' keys. -/
theorem ltB_app : ∀ {a b x y : List Int}, a.length = b.length → ltB (a ++ x) (b ++ y) = true → ltB a b = true ∨ (a = b ∧ ltB x y = true)
  | [], [], x, y, _, h => Or.inr ⟨rfl, h⟩
  | [], _ :: _, _, _, hl, _ => by simp at hl
  | _ :: _, [], _, _, hl, _ => by simp at hl
  | u :: r, v :: s, x, y, hl, h => by
    simp only [List.cons_append, ltB] at h ⊢
    by_cases huv : u = v
    · subst huv
      rw [if_pos rfl] at h ⊢
      rcases ltB_app (by simpa using hl) h with h1 | ⟨rfl, h1⟩
      · exact Or.inl h1
      · exact Or.inr ⟨rfl, h1⟩
    · rw [if_neg huv] at h ⊢
      exact Or.inl h
theorem key2B_lt {t a b c d : Int} (ha : U32 a) (hb : U32 b) (hc : U32 c) (hd : U32 d) (h : ltB (key2B t a b) (key2B t c d) = true) : a < c ∨ (a = c ∧ b < d) := by
  have p4 : (256 : Int) ^ 4 = 4294967296 := by decide
  unfold key2B at h
  rw [List.append_assoc, List.append_assoc] at h
  rcases ltB_app rfl h with h | ⟨-, h⟩
  · rw [ltB_irrefl] at h; cases h
  · rcases ltB_app (by rw [d256_len, d256_len]) h with h | ⟨h1, h⟩
    · exact Or.inl (d256_lt 4 a c ha.1 hc.1 (by have := ha.2; omega) (by have := hc.2; omega) h)
    · exact Or.inr ⟨d256_inj (c := 4) ⟨ha.1, by have := ha.2; omega⟩ ⟨hc.1, by have := hc.2; omega⟩ h1, d256_lt 4 b d hb.1 hd.1 (by have := hb.2; omega) (by have := hd.2; omega) h⟩
theorem key2B_in (a b : Int) : inRange (key0B 114) (key0B 115) none (key2B 114 a b) = true := by
  have h1 : key2B 114 a b = 114 :: (d256 4 a ++ d256 4 b) := rfl
  have : d256 4 a ++ d256 4 b ≠ [] := fun e => by have := d256_len 4 a; rw [List.append_eq_nil_iff] at e; rw [e.1] at this; cases this
  rw [h1]
  simp only [inRange, key0B, ltB, Bool.and_true, Bool.and_eq_true, Bool.not_eq_true']
  refine ⟨?_, ?_⟩
  · cases hd : d256 4 a ++ d256 4 b with
    | nil => exact absurd hd this
    | cons x r => simp
  · decide
theorem inRange_head {k : List Int} (h : inRange (key0B 114) (key0B 115) none k = true) : k.head? = some 114 := by
  cases k with
  | nil => simp [inRange, key0B, ltB] at h
  | cons x r =>
    simp only [inRange, key0B, ltB, Bool.and_true, Bool.and_eq_true, Bool.not_eq_true'] at h
    obtain ⟨h1, h2⟩ := h
    by_cases e : x = 114
    · rw [e]; rfl
    · rw [if_neg e] at h1
      have h1 := of_decide_eq_false h1
      split at h2
      · cases r <;> cases h2
      · have h2 := of_decide_eq_true h2
        omega
theorem getB_in : ∀ {ps : List KV} {k v : List Int}, getB ps k = some v → (k, v) ∈ ps
  | [], _, _, h => by simp [getB] at h
  | p :: r, k, v, h => by
    simp only [getB] at h
    split at h
    · rename_i hp; cases h; subst hp; exact List.mem_cons_self ..
    · exact List.mem_cons_of_mem _ (getB_in h)

end Go.Proofs.Qxb6500666aGreatDoor
