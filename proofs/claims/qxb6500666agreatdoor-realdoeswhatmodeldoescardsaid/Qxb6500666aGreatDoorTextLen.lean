/- How long the texts are (plain). -/
import Derived.Test.Qxb6500666aGreatDoorReadK
import Derived.Test.Qxb6500666aGreatDoorEntOk
namespace Go.Proofs.Qxb6500666aGreatDoor

theorem rowText_len {c : Change} (h : c.Ok) : (rowText c).length ≤ 275 := by
  have h1 := fld_len h.row.sample.i64
  have h2 := fld_len h.row.analyte.i64
  have h3 := fld_len h.row.version.i64
  have h4 := fld_len h.row.value
  have h5 := fld_len h.row.subject.i64
  have h6 := fld_len h.row.site.i64
  have h7 := fld_len h.row.visit.i64
  have h8 := fld_len h.row.proto.i64
  have h9 := fld_len h.row.kit.i64
  have h10 := fld_len h.row.cls.i64
  have h11 := fld_len h.row.collected
  have h12 := fld_len h.row.received
  have h13 := fld_len h.row.tested
  unfold rowText
  simp only [List.length_append, List.length_cons, List.length_nil]
  omega
theorem flatK_len {α : Type} {f : α → List Int} {k : Nat} : ∀ {l : List α}, (∀ x ∈ l, (f x).length ≤ k) → (flatL f l).length ≤ k * l.length
  | [], _ => by simp [flatL]
  | x :: r, h => by
    have h1 := flatK_len (l := r) (fun y hy => h y (by simp [hy]))
    have h2 := h x (by simp)
    simp only [flatL, List.length_append, List.length_cons, Nat.mul_add, Nat.mul_one]
    omega
theorem trailText_len {bs : List Int} {n : Int} (h : I64 n) : (trailText bs n).length ≤ bs.length + 44 := by
  have h1 := fld_len h
  have h2 := fld_len (x := crc bs) ⟨by have := crc_lo bs; omega, by have := crc_hi bs; omega⟩
  unfold trailText
  simp only [List.length_append, List.length_cons, List.length_nil]
  omega
theorem fileText_len {k s i b : Int} {cs : List Change} (hs : U32 s) (hi : I64 i) (hb : U32 b) (hok : ∀ c ∈ cs, c.Ok) (hl : cs.length ≤ 80000000) : (fileText k s i b cs).length ≤ 99000000000 := by
  have hn : I64 (cs.length : Int) := ⟨by omega, by omega⟩
  have h1 := fld_len hs.i64
  have h2 := fld_len hi
  have h3 := fld_len hb.i64
  have h4 := fld_len hn
  have h5 := flatK_len (f := rowText) (k := 275) (l := cs) (fun c hc => rowText_len (hok c hc))
  have h6 := trailText_len (bs := bodyText k s i b cs) hn
  have h7 : (bodyText k s i b cs).length ≤ 100 + 275 * cs.length := by
    unfold bodyText headText linesText
    simp only [List.length_append, List.length_cons, List.length_nil]
    omega
  unfold fileText
  omega
theorem fbR_ok {ps : List KV} {seq : Int} {t : List Int} (hps : PsOk ps) (hpl : ps.length ≤ 4000000) (hs : U32 seq) (h : fbR ps seq = .ok t) : t.length ≤ 99000000000 := by
  unfold fbR at h
  split at h
  · cases h
  · rename_i p hp
    obtain ⟨k1, k2, k3, k4⟩ := fileR_ok hps hpl hs (h := p.1) (cs := p.2) hp
    split at h
    · cases h
    · split at h
      · injection h with h
        subst h
        exact fileText_len (k2 ▸ hs) k1.issued k1.base k3 k4
      · cases h
theorem hdrR_err {ps : List KV} {seq c : Int} (h : hdrR ps seq = .error c) : c = 23 ∨ c = 28 := by
  unfold hdrR at h
  split at h
  · injection h with h; exact Or.inl h.symm
  · unfold ofOpt at h
    split at h
    · injection h with h; exact Or.inr h.symm
    · cases h
theorem fileR_err {ps : List KV} {seq c : Int} (h : fileR ps seq = .error c) : c = 23 ∨ c = 28 := by
  unfold fileR at h
  split at h
  · rename_i c' hc
    injection h with h
    exact h ▸ hdrR_err hc
  · split at h
    · split at h
      · injection h with h; exact Or.inr h.symm
      · cases h
    · split at h
      · injection h with h; exact Or.inr h.symm
      · cases h
theorem fbR_err {ps : List KV} {seq c : Int} (h : fbR ps seq = .error c) : U8 c ∧ c ≠ 0 := by
  have key : c = 23 ∨ c = 28 := by
    unfold fbR at h
    split at h
    · rename_i c' hc
      injection h with h
      exact h ▸ fileR_err hc
    · split at h
      · injection h with h; exact Or.inr h.symm
      · split at h
        · cases h
        · injection h with h; exact Or.inr h.symm
  rcases key with rfl | rfl
  · exact ⟨u8c 23 (by decide), by decide⟩
  · exact ⟨u8c 28 (by decide), by decide⟩
theorem trLine_len {rn kn : Nat → ByteArray} {x : Ent} (hr : ∀ k, (rn k).size ≤ 64) (hk : ∀ k, (kn k).size ≤ 64) (h : x.Ok) (hq : U32 x.seq) (hl : x.req.list.length ≤ 12) : (trLine rn kn x).length ≤ 760 := by
  have h0 := fld_len hq.i64
  have h1 := fld_len h.issued.i64
  have h2 := fld_len h.req.user.i64
  have h3 := fld_len h.req.now
  have h4 := fld_len h.req.id.i64
  have h5 := fld_len h.req.ref.i64
  have h6 := fld_len h.req.kit.i64
  have h7 := fld_len h.req.subject.i64
  have h8 := fld_len h.req.visit.i64
  have h9 := fld_len h.req.role.i64
  have h10 := fld_len h.req.cls.i64
  have h11 := fld_len h.req.time
  have h12 := fld_len h.req.till
  have h13 := fld_len h.req.value
  have h14 := fld_len h.req.l0
  have h15 := fld_len h.req.l1
  have h16 := fld_len h.req.l2
  have h17 := nmOf_size (top := 6) (x := x.role) hr
  have h18 := nmOf_size (top := 30) (x := x.req.kind) hk
  have h19 := lstT_len 0 x.req.list h.list
  have h20 : (lstText x.req.list).length ≤ 266 := by
    unfold lstText
    split <;> simp only [List.length_append, List.length_cons, List.length_nil] <;> omega
  unfold trLine
  simp only [List.length_append, List.length_cons, List.length_nil, strB_len]
  omega
theorem rtB_all : ∀ {i : Nat} {xs : List Ent}, rtB i xs = true → ∀ x ∈ xs, x.req.list.length ≤ 12 ∧ ∃ n : Nat, n ≤ i + xs.length ∧ x.seq = n
  | _, [], _, x, hx => by cases hx
  | i, y :: r, h, x, hx => by
    unfold rtB at h
    split at h
    · rename_i he
      rcases List.mem_cons.1 hx with rfl | hx
      · unfold entOk at he
        split at he
        · rename_i e1
          split at he
          · split at he
            · exact ⟨by simpa using he, i + 1, by simp, by simpa using e1⟩
            · cases he
          · cases he
        · cases he
      · obtain ⟨h1, n, h2, h3⟩ := rtB_all h x hx
        exact ⟨h1, n, by simp; omega, h3⟩
    · cases h
theorem rtR_len {rn kn : Nat → ByteArray} {xs : List Ent} {t : List Int} (hr : ∀ k, (rn k).size ≤ 64) (hk : ∀ k, (kn k).size ≤ 64) (hok : ∀ x ∈ xs, x.Ok) (hl : xs.length ≤ 4000000) (h : rtR rn kn xs = .ok t) : t.length ≤ 3900000000 := by
  unfold rtR at h
  split at h
  · rename_i hb
    injection h with h
    subst h
    have hn : I64 (xs.length : Int) := ⟨by omega, by omega⟩
    have h1 := flatK_len (f := trLine rn kn) (k := 760) (l := xs) (fun x hx => by
      obtain ⟨p1, n, p2, p3⟩ := rtB_all hb x hx
      exact trLine_len hr hk (hok x hx) (by rw [p3]; unfold U32; omega) p1)
    have h2 := fld_len hn
    have h3 := trailText_len (bs := trHead xs.length ++ flatL (trLine rn kn) xs) hn
    have h4 : (trHead (xs.length : Int)).length ≤ 40 := by
      unfold trHead
      simp only [List.length_append, List.length_cons, List.length_nil]
      omega
    rw [List.length_append] at h3
    unfold trText
    omega
  · cases h

end Go.Proofs.Qxb6500666aGreatDoor
