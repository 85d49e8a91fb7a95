/- The files on record, read; and behind any step. Plain. -/
import Derived.Test.Qxb6500666aGreatDoorFilT
namespace Go.Proofs.Qxb6500666aGreatDoor
open Go.RowKit

section
variable {ps : List KV} {fs : List File} {rows : List Row}
theorem relOf_none (fs : List File) : fs.foldl relF none = none := by
  induction fs with
  | nil => rfl
  | cons f r ih => exact ih
/-- At every point of the chain some rows were released. -/
theorem FI.pre (h : FI ps fs rows) (i : Nat) : ∃ rs, relOf (fs.take i) = some rs := by
  have h1 := h.rel
  unfold relOf at h1 ⊢
  rw [← List.take_append_drop i fs, List.foldl_append] at h1
  cases hr : (fs.take i).foldl relF (some []) with
  | none => rw [hr, relOf_none] at h1; cases h1
  | some rs => exact ⟨rs, rfl⟩
theorem relOf_len : ∀ (fs : List File) (a out : List Row), (∀ f ∈ fs, f.kind = 73 → f.changes.length ≤ 20) → fs.foldl relF (some a) = some out → out.length ≤ a.length + 20 * fs.length
  | [], a, out, _, h => by
    injection h with h
    subst h
    simp
  | f :: fs, a, out, hf, h => by
    rw [List.foldl_cons] at h
    have hf' := fun g hg => hf g (List.mem_cons_of_mem _ hg)
    by_cases hk : f.kind = 73
    · have e : relF (some a) f = applyF a f.changes := by unfold relF; simp [hk]
      rw [e] at h
      cases ha : applyF a f.changes with
      | none => rw [ha, relOf_none] at h; cases h
      | some b =>
        rw [ha] at h
        have h1 := relOf_len fs b out hf' h
        have h2 := agree_len ha
        have h3 := hf f (List.mem_cons_self ..) hk
        simp only [List.length_cons]
        omega
    · have e : relF (some a) f = some a := by unfold relF; simp [hk]
      rw [e] at h
      have h1 := relOf_len fs a out hf' h
      simp only [List.length_cons]
      omega
theorem FI.preLen (h : FI ps fs rows) {i : Nat} {rs : List Row} (hr : relOf (fs.take i) = some rs) : rs.length ≤ 20 * fs.length := by
  have := relOf_len (fs.take i) [] rs (fun f hf hk => inc_len h (List.mem_of_mem_take hf) hk) hr
  have h2 : (fs.take i).length ≤ fs.length := by rw [List.length_take]; omega
  simp at this
  omega
theorem FI.rowsLen (h : FI ps fs rows) : rows.length ≤ 20 * fs.length := h.preLen (i := fs.length) (by rw [List.take_length]; exact h.rel)
theorem FI.chLen (h : FI ps fs rows) {i : Nat} (hi : i < fs.length) : fs[i].changes.length ≤ 20 * fs.length := by
  rcases h.kind (List.getElem_mem hi) with k | k
  · obtain ⟨rs, h1, h2⟩ := h.cum i hi k
    rw [h2]
    have := h.preLen h1
    simpa [asCur] using this
  · have := inc_len h (List.getElem_mem hi) k
    omega
theorem FI.nums (h : FI ps fs rows) (hl : fs.length ≤ 1000000) {i : Nat} (hi : i < fs.length) : U8 fs[i].kind ∧ U32 fs[i].seq ∧ I64 fs[i].issued ∧ U32 fs[i].base ∧ fs[i].base < fs[i].seq ∧ 0 ≤ fs[i].issued ∧ fs[i].issued ≤ 157785119 := by
  have hF := h.fok _ (List.getElem_mem hi)
  have hs := h.seq i hi
  have hc := cumOf_bound (fs.take i) (fun j hj => by
    have hj' : j < fs.length := by rw [List.length_take] at hj; omega
    rw [List.getElem_take]
    exact (h.seq j hj').1)
  rw [List.length_take] at hc
  have hn := hF.2.1
  unfold NumsOk at hn
  refine ⟨?_, ⟨by omega, by omega⟩, ⟨by omega, by omega⟩, ⟨by omega, by omega⟩, by omega, by omega, by omega⟩
  rcases hF.1 with k | k <;> rw [k] <;> exact ⟨by decide, by decide⟩
theorem FI.hdrR (h : FI ps fs rows) (hl : fs.length ≤ 1000000) {i : Nat} (hi : i < fs.length) : hdrR ps ((i : Int) + 1) = .ok (hdrOf fs[i].kind fs[i].seq fs[i].issued fs[i].base fs[i].changes) := by
  obtain ⟨n1, n2, n3, n4, n5, -, -⟩ := h.nums hl hi
  have hcl := h.chLen hi
  have ho : (hdrOf fs[i].kind fs[i].seq fs[i].issued fs[i].base fs[i].changes).Ok := hdrOf_ok n1 n2 n3 n4 (by omega)
  have e := decHdr_enc ho (h.kind (List.getElem_mem hi)) n5
  have hs : (hdrOf fs[i].kind fs[i].seq fs[i].issued fs[i].base fs[i].changes).seq = (i : Int) + 1 := (h.seq i hi).1
  rw [hs] at e
  unfold Go.Proofs.Qxb6500666aGreatDoor.hdrR
  rw [h.hdr i hi]
  dsimp only
  rw [e]
  rfl
theorem FI.hdrNo (h : FI ps fs rows) {k : Int} (hk : U32 k) (hn : k = 0 ∨ (fs.length : Int) < k) : Go.Proofs.Qxb6500666aGreatDoor.hdrR ps k = .error 23 := by
  unfold Go.Proofs.Qxb6500666aGreatDoor.hdrR
  rw [h.no k hk hn]
theorem linesGo_all {seq : Int} {cs : List Change} (h : ∀ j (hj : j < cs.length), chgR ps seq (j : Int) = .ok cs[j]) : ∀ k j, j + k = cs.length → linesGo ps seq k j (cs.take j) = some cs
  | 0, j, e => by
    show some (cs.take j) = some cs
    rw [List.take_of_length_le (by omega)]
  | k + 1, j, e => by
    have hj : j < cs.length := by omega
    unfold linesGo
    rw [h j hj]
    dsimp only
    rw [← List.take_succ_eq_append_getElem hj]
    exact linesGo_all h k (j + 1) (by omega)
theorem FI.linesR (h : FI ps fs rows) {i : Nat} (hi : i < fs.length) (hk : fs[i].kind = 73) : linesR ps (hdrOf fs[i].kind fs[i].seq fs[i].issued fs[i].base fs[i].changes) = some fs[i].changes := by
  have h20 := inc_len h (List.getElem_mem hi) hk
  unfold Go.Proofs.Qxb6500666aGreatDoor.linesR hdrOf
  dsimp only
  rw [if_neg (by omega), Int.toNat_natCast, (h.seq i hi).1]
  exact linesGo_all (fun j hj => h.chg hi hk hj) _ 0 (by omega)
theorem FI.rbGo (h : FI ps fs rows) (hl : fs.length ≤ 1000000) : ∀ (k j : Nat) (rs : List Row), j + k ≤ fs.length → relOf (fs.take j) = some rs → rbGo ps k (j + 1) rs = relOf (fs.take (j + k))
  | 0, j, rs, _, hr => hr.symm
  | k + 1, j, rs, hk, hr => by
    have hj : j < fs.length := by omega
    have hh := h.hdrR hl hj
    have hs : relOf (fs.take (j + 1)) = relF (some rs) fs[j] := by rw [List.take_succ_eq_append_getElem hj, relOf_snoc, hr]
    have hc : ((j + 1 : Nat) : Int) = (j : Int) + 1 := by omega
    unfold Go.Proofs.Qxb6500666aGreatDoor.rbGo
    rw [hc, hh]
    dsimp only
    by_cases k73 : fs[j].kind = 73
    · have hkk : (hdrOf fs[j].kind fs[j].seq fs[j].issued fs[j].base fs[j].changes).kind = 73 := k73
      rw [hkk, h.linesR hj k73]
      simp only [bne_self_eq_false, Bool.false_eq_true, if_false]
      have e : relF (some rs) fs[j] = applyF rs fs[j].changes := by unfold relF; simp [k73]
      rw [e] at hs
      obtain ⟨out, ho⟩ := h.pre (j + 1)
      rw [ho] at hs
      rw [← hs]
      dsimp only
      have := FI.rbGo h hl k (j + 1) out (by omega) ho
      rw [this, show j + 1 + k = j + (k + 1) by omega]
    · have hkk : ((hdrOf fs[j].kind fs[j].seq fs[j].issued fs[j].base fs[j].changes).kind != 73) = true := by
        show (fs[j].kind != 73) = true
        simpa using k73
      rw [if_pos hkk]
      have e : relF (some rs) fs[j] = some rs := by unfold relF; simp [k73]
      rw [e] at hs
      have := FI.rbGo h hl k (j + 1) rs (by omega) hs
      rw [this, show j + 1 + k = j + (k + 1) by omega]
/-- The rows before file number i + 1. -/
theorem FI.rbR (h : FI ps fs rows) (hl : fs.length ≤ 1000000) {i : Nat} (hi : i ≤ fs.length) : rbR ps ((i : Int) + 1) = relOf (fs.take i) := by
  unfold Go.Proofs.Qxb6500666aGreatDoor.rbR
  rw [show ((i : Int) + 1).toNat - 1 = i by omega]
  have := h.rbGo hl i 0 [] (by omega) rfl
  rwa [Nat.zero_add, Nat.zero_add] at this
theorem FI.fileR (h : FI ps fs rows) (hl : fs.length ≤ 1000000) {i : Nat} (hi : i < fs.length) : fileR ps ((i : Int) + 1) = .ok (hdrOf fs[i].kind fs[i].seq fs[i].issued fs[i].base fs[i].changes, fs[i].changes) := by
  unfold Go.Proofs.Qxb6500666aGreatDoor.fileR
  rw [h.hdrR hl hi]
  dsimp only
  rcases h.kind (List.getElem_mem hi) with k | k
  · have hkk : ((hdrOf fs[i].kind fs[i].seq fs[i].issued fs[i].base fs[i].changes).kind == 73) = false := by
      show (fs[i].kind == 73) = false
      rw [k]; rfl
    rw [hkk, h.rbR hl (by omega)]
    obtain ⟨rs, h1, h2⟩ := h.cum i hi k
    rw [h1, h2]
    rfl
  · have hkk : ((hdrOf fs[i].kind fs[i].seq fs[i].issued fs[i].base fs[i].changes).kind == 73) = true := by
      show (fs[i].kind == 73) = true
      rw [k]; rfl
    rw [hkk, if_pos rfl, h.linesR hi k]
/-- A file on record, as text. -/
theorem FI.fbR (h : FI ps fs rows) (hl : fs.length ≤ 1000000) {i : Nat} (hi : i < fs.length) : fbR ps ((i : Int) + 1) = .ok (fileText fs[i].kind fs[i].seq fs[i].issued fs[i].base fs[i].changes) := by
  unfold Go.Proofs.Qxb6500666aGreatDoor.fbR
  rw [h.fileR hl hi]
  dsimp only
  have hF := h.fok _ (List.getElem_mem hi)
  rw [if_neg (fun q => q hF)]
  exact if_pos rfl
theorem FI.fbNo (h : FI ps fs rows) {k : Int} (hk : U32 k) (hn : k = 0 ∨ (fs.length : Int) < k) : Go.Proofs.Qxb6500666aGreatDoor.fbR ps k = .error 23 := by
  unfold Go.Proofs.Qxb6500666aGreatDoor.fbR Go.Proofs.Qxb6500666aGreatDoor.fileR
  rw [h.hdrNo hk hn]
end

/-- A step that is an accepted command. -/
def AccS (t : ST) (o : Op) : Prop := o.kind = 1 ∧ isCmd o.req.kind = true ∧ (exR t.ps t.full t.off t.lar t.low o.req).c = 0
theorem stepR_one {t : ST} {o : Op} (k : o.kind = 1) : stepR t o = ⟨(exR t.ps t.full t.off t.lar t.low o.req).ps, t.full, (exR t.ps t.full t.off t.lar t.low o.req).off, (exR t.ps t.full t.off t.lar t.low o.req).lar, (exR t.ps t.full t.off t.lar t.low o.req).low⟩ := by unfold stepR; rw [if_pos k]
theorem stepR_not {t : ST} {o : Op} (h : ¬ AccS t o) : (stepR t o).ps = t.ps ∧ (stepR t o).low = t.low := by
  by_cases k : o.kind = 1
  · rw [stepR_one k]
    cases hc : isCmd o.req.kind with
    | false => exact exR_rd hc
    | true => exact ⟨exR_same (fun z => h ⟨k, hc, z⟩), exR_low (fun z => h ⟨k, hc, z⟩)⟩
  · unfold stepR
    rw [if_neg k]
    split <;> exact ⟨rfl, rfl⟩
theorem accP_iff {t : ST} {o : Op} {rn kn : Nat → ByteArray} {w w' : World} {x : Rsp} (ha : AnsP rn kn w w' t o x) : accP o x = true ↔ AccS t o := by
  unfold accP AccS
  by_cases k : o.kind = 1
  · cases hc : isCmd o.req.kind with
    | false => simp
    | true =>
      have hrd : isRdg o.req.kind = false := by
        unfold isCmd at hc
        unfold isRdg
        simp at hc ⊢
        omega
      have ex := (ha.2 k).2 (Or.inl hrd)
      have ec : x.code = (exR t.ps t.full t.off t.lar t.low o.req).c := by rw [ex]
      rw [ec]
      simp [k]
  · simp [k]
theorem FI.step {t : ST} {o : Op} {fs : List File} {rows : List Row} (h : FI t.ps fs rows) (hl : fs.length ≤ 900000) (hu : SU t.low.sm) (hp : PO t.ps t.low) :
    ∃ fs' rows', FI (stepR t o).ps fs' rows' ∧ fs'.length ≤ fs.length + 1 ∧ (AccS t o → FStep t.low o.req (exR t.ps t.full t.off t.lar t.low o.req).iss fs rows fs' rows' (stepR t o).low) ∧ (¬ AccS t o → fs' = fs ∧ rows' = rows) := by
  by_cases ha : AccS t o
  · obtain ⟨fs', rows', h1, h2⟩ := h.cmd (full := t.full) (off := t.off) (lar := t.lar) hl hu hp ha.2.1 ha.2.2
    rw [stepR_one ha.1]
    refine ⟨fs', rows', h1, ?_, fun _ => h2, fun q => absurd ha q⟩
    rcases h2 with ⟨-, -, e, -⟩ | ⟨-, -, -, E, -, e, -⟩ | ⟨-, -, -, -, e, -⟩
    · rw [e]; omega
    · rw [e]; simp
    · rw [e]; simp
  · exact ⟨fs, rows, by rw [(stepR_not ha).1]; exact h, by omega, fun q => absurd q ha, fun _ => ⟨rfl, rfl⟩⟩
/-- The files on record behind any script. -/
theorem fi_all {s : List Op} (hr : ∀ k (hk : k < s.length), s[k].req.Ok) (hl : s.length ≤ 65536) : ∀ q, q ≤ s.length → ∃ fs rows, FI (stAt s q).ps fs rows ∧ fs.length ≤ q
  | 0, _ => ⟨[], [], FI.start, Nat.le_refl _⟩
  | q + 1, hq => by
    obtain ⟨fs, rows, h1, h2⟩ := fi_all hr hl q (by omega)
    obtain ⟨fs', rows', k1, k2, -⟩ := h1.step (t := stAt s q) (o := s[q]) (by omega) (su_all s q (by omega)) ((inv_all hr q (by omega)).po (by omega))
    rw [stAt_succ (by omega)]
    exact ⟨fs', rows', k1, by omega⟩

end Go.Proofs.Qxb6500666aGreatDoor
