/- The store's pairs, plain: what is found behind a batch; numbers written and read back. -/
import Derived.Test.Qxb6500666aGreatDoorInvP
namespace Go.Proofs.Qxb6500666aGreatDoor

/-- No key stands twice. -/
def KN (ps : List KV) : Prop := (ps.map (·.1)).Nodup
theorem KN.nil : KN [] := List.nodup_nil
theorem getB_none {ps : List KV} {k : List Int} : getB ps k = none ↔ k ∉ ps.map (·.1) := by
  induction ps with
  | nil => simp [getB]
  | cons p r ih =>
    unfold getB
    by_cases h : p.1 = k
    · simp [h]
    · rw [if_neg h, ih, List.map_cons, List.mem_cons]
      exact ⟨fun q e => e.elim (fun e => h e.symm) q, fun q e => q (Or.inr e)⟩
theorem getB_app (a b : List KV) (k : List Int) : getB (a ++ b) k = match getB a k with | some v => some v | none => getB b k := by
  induction a with
  | nil => rfl
  | cons p r ih =>
    by_cases h : p.1 = k
    · have e1 : getB (p :: r) k = some p.2 := by rw [getB, if_pos h]
      have e2 : getB (p :: (r ++ b)) k = some p.2 := by rw [getB, if_pos h]
      rw [e1]
      exact e2
    · have e1 : getB (p :: r) k = getB r k := by rw [getB, if_neg h]
      have e2 : getB (p :: (r ++ b)) k = getB (r ++ b) k := by rw [getB, if_neg h]
      rw [e1]
      exact e2.trans ih
theorem getB_rm_ne {ps : List KV} {k k' : List Int} (h : k' ≠ k) : getB (rmB ps k) k' = getB ps k' := by
  induction ps with
  | nil => rfl
  | cons p r ih =>
    unfold rmB
    by_cases e : p.1 = k
    · rw [if_pos e]
      show _ = getB (p :: r) k'
      rw [getB, if_neg (fun e' => h (e'.symm.trans e))]
    · rw [if_neg e]
      show getB (p :: rmB r k) k' = getB (p :: r) k'
      unfold getB
      rw [ih]
theorem rmB_keys {ps : List KV} {k x : List Int} (h : x ∈ (rmB ps k).map (·.1)) : x ∈ ps.map (·.1) := by
  obtain ⟨p, hp, rfl⟩ := List.mem_map.1 h
  exact List.mem_map.2 ⟨p, rmB_sub.2 p hp, rfl⟩
theorem KN.rm {ps : List KV} (h : KN ps) (k : List Int) : KN (rmB ps k) ∧ k ∉ (rmB ps k).map (·.1) := by
  induction ps with
  | nil => exact ⟨h, by simp [rmB]⟩
  | cons p r ih =>
    have hn : p.1 ∉ r.map (·.1) ∧ KN r := List.nodup_cons.1 h
    unfold rmB
    by_cases e : p.1 = k
    · rw [if_pos e]
      exact ⟨hn.2, e ▸ hn.1⟩
    · rw [if_neg e]
      obtain ⟨h1, h2⟩ := ih hn.2
      refine ⟨List.nodup_cons.2 ⟨fun q => hn.1 (rmB_keys q), h1⟩, fun q => ?_⟩
      rcases List.mem_cons.1 q with q | q
      · exact e q.symm
      · exact h2 q
theorem KN.put {ps : List KV} (h : KN ps) (x : WR) : KN (putW ps x) := by
  obtain ⟨h1, h2⟩ := h.rm x.1.1
  unfold putW
  split
  · simpa using h1
  · unfold KN
    rw [List.map_append]
    refine List.nodup_append.2 ⟨h1, by simp, fun a ha b hb e => ?_⟩
    have h3 : b = x.1.1 := by simpa using hb
    rw [e, h3] at ha
    exact h2 ha
theorem getB_put {ps : List KV} (h : KN ps) (x : WR) (k : List Int) : getB (putW ps x) k = if x.1.1 = k then (if x.2 then none else some x.1.2) else getB ps k := by
  obtain ⟨h1, h2⟩ := h.rm x.1.1
  unfold putW
  rw [getB_app]
  by_cases e : x.1.1 = k
  · subst e
    rw [getB_none.2 h2, if_pos rfl]
    cases x.2 <;> simp [getB]
  · rw [getB_rm_ne (fun q => e q.symm), if_neg e]
    cases hg : getB ps k with
    | some v => rfl
    | none => cases x.2 <;> simp [getB, e]
/-- What a batch leaves under a key. -/
def lastW (ws : List WR) (k : List Int) (d : Option (List Int)) : Option (List Int) := ws.foldl (fun d x => if x.1.1 = k then (if x.2 then none else some x.1.2) else d) d
theorem getB_apply : ∀ (ws : List WR) {ps : List KV}, KN ps → ∀ k, getB (applyW ps ws) k = lastW ws k (getB ps k)
  | [], _, _, _ => rfl
  | x :: r, ps, h, k => by
    show getB (applyW (putW ps x) r) k = _
    rw [getB_apply r (h.put x) k, getB_put h]
    rfl
theorem KN.apply : ∀ (ws : List WR) {ps : List KV}, KN ps → KN (applyW ps ws)
  | [], _, h => h
  | x :: r, _, h => KN.apply r (h.put x)
theorem lastW_none : ∀ {ws : List WR} {k : List Int} {d : Option (List Int)}, (∀ x ∈ ws, x.1.1 ≠ k) → lastW ws k d = d
  | [], _, _, _ => rfl
  | x :: r, k, d, h => by
    show lastW r k (if x.1.1 = k then _ else d) = d
    rw [if_neg (h x (by simp))]
    exact lastW_none (fun y hy => h y (by simp [hy]))
theorem lastW_app (a b : List WR) (k : List Int) (d : Option (List Int)) : lastW (a ++ b) k d = lastW b k (lastW a k d) := by
  unfold lastW
  rw [List.foldl_append]
theorem rdDig_enc (c : Nat) {n : Int} (rest : List Int) (h1 : 0 ≤ n) (h2 : n < 256 ^ c) : rdDig c ⟨d256 c n ++ rest, false⟩ = (n, ⟨rest, false⟩) := by
  have hl := d256_len c n
  unfold rdDig
  rw [if_neg (by simp [hl])]
  simp only [List.take_left' hl, List.drop_left' hl]
  rw [v256_d256 c n h1 h2]
theorem rdDig1 {n : Int} (rest : List Int) (h : U8 n) : rdDig 1 ⟨d256 1 n ++ rest, false⟩ = (n, ⟨rest, false⟩) := rdDig_enc 1 rest h.1 (by have := h.2; show n < 256; omega)
theorem rdDig4 {n : Int} (rest : List Int) (h : U32 n) : rdDig 4 ⟨d256 4 n ++ rest, false⟩ = (n, ⟨rest, false⟩) := rdDig_enc 4 rest h.1 (by have := h.2; show n < 4294967296; omega)
theorem rdI64_enc {n : Int} (rest : List Int) (h : I64 n) : rdI64 ⟨i64B n ++ rest, false⟩ = (n, ⟨rest, false⟩) := by
  have := rdDig_enc 8 (n := n + 9223372036854775808) rest (by have := h.1; omega) (by have := h.2; show _ < (18446744073709551616 : Int); omega)
  unfold rdI64 i64B
  rw [this]
  simp
theorem d256_inj {c : Nat} {a b : Int} (ha : 0 ≤ a ∧ a < 256 ^ c) (hb : 0 ≤ b ∧ b < 256 ^ c) (h : d256 c a = d256 c b) : a = b := by
  rw [← v256_d256 c a ha.1 ha.2, ← v256_d256 c b hb.1 hb.2, h]
theorem key1B_inj {t a b : Int} (ha : U32 a) (hb : U32 b) (h : key1B t a = key1B t b) : a = b := by
  unfold key1B at h
  exact d256_inj (c := 4) ⟨ha.1, by have := ha.2; show a < 4294967296; omega⟩ ⟨hb.1, by have := hb.2; show b < 4294967296; omega⟩ (List.append_cancel_left h)
theorem key1B_head (t a : Int) : (key1B t a).head? = some (t % 256) := rfl
theorem key2B_head (t a b : Int) : (key2B t a b).head? = some (t % 256) := rfl
theorem key0B_head (t : Int) : (key0B t).head? = some t := rfl
theorem head_ne {a b : List Int} {x y : Int} (h1 : a.head? = some x) (h2 : b.head? = some y) (h : x ≠ y) : a ≠ b := fun e => h (by rw [e, h2] at h1; injection h1 with h1; exact h1.symm)
theorem decAcc_enc {r : Int} {b : Bool} (h1 : U8 r) (h2 : roleOk r = true) : decAcc (accB r b) = some (r, b) := by
  have e1 := rdDig1 (d256 1 (if b then 1 else 0)) h1
  have e2 : rdDig 1 ⟨d256 1 (if b then 1 else 0), false⟩ = ((if b then 1 else 0), ⟨[], false⟩) := by
    have := rdDig1 (n := if b then 1 else 0) [] (by cases b <;> exact ⟨by decide, by decide⟩)
    rwa [List.append_nil] at this
  unfold decAcc accB
  dsimp only
  rw [e1]
  dsimp only
  rw [e2]
  cases b <;> simp [rdDone, h2]
theorem decStat_enc {s : Stat} (h : s.Ok) (h1 : s.lastCum ≤ s.transfers) (h2 : inCal s.lastMin = true) : decStat (statB s) = some s := by
  have e1 := rdDig4 (d256 4 s.transfers ++ (d256 4 s.lastCum ++ i64B s.lastMin)) h.entries
  have e2 := rdDig4 (d256 4 s.lastCum ++ i64B s.lastMin) h.transfers
  have e3 := rdDig4 (i64B s.lastMin) h.lastCum
  have e4 := rdI64_enc [] h.lastMin
  rw [List.append_nil] at e4
  unfold decStat statB
  simp only [List.append_assoc]
  rw [e1]
  dsimp only
  rw [e2]
  dsimp only
  rw [e3]
  dsimp only
  rw [e4]
  simp [rdDone, h2]
  omega

end Go.Proofs.Qxb6500666aGreatDoor
