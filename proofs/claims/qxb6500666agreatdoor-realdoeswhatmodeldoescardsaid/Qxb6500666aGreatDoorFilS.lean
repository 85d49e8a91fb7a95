/- The files on record behind a command that issues one. Plain. -/
import Derived.Test.Qxb6500666aGreatDoorFilP
namespace Go.Proofs.Qxb6500666aGreatDoor
open Go.RowKit

/-! Lines carried out, and the pointers. -/
theorem applyGo_pre : ∀ (a b : List Change) (prev : Option Row) (rest out o : List Row), applyGo prev rest out (a ++ b) = some o → ∃ o', applyGo prev rest out a = some o'
  | [], b, prev, rest, out, o, _ => ⟨_, rfl⟩
  | c :: a, b, prev, rest, out, o, h => by
    rw [List.cons_append, applyGo] at h
    rw [applyGo]
    split at h
    · cases h
    · rename_i hp
      rw [if_neg hp]
      split at h
      · cases h
      · rename_i out' rest' hst
        exact applyGo_pre a b _ rest' out' o h
theorem applyF_take {rs : List Row} {cs : List Change} {o : List Row} (n : Nat) (h : applyF rs cs = some o) : ∃ o', applyF rs (cs.take n) = some o' := by
  unfold applyF at h ⊢
  rw [← List.take_append_drop n cs] at h
  exact applyGo_pre _ _ _ _ _ _ h
/-- No key stands twice in the lines. -/
def CApart (cs : List Change) : Prop := cs.Pairwise fun p q => ¬ (p.row.sample = q.row.sample ∧ p.row.analyte = q.row.analyte)
theorem capart_of_rise {cs : List Change} (h : Rise (cs.map (·.row))) : CApart cs := (List.pairwise_map.1 h).imp fun {a b} k e => by unfold keyLt at k; omega
theorem plainGo_look : ∀ {cs : List Change} {m m' : List Row}, plainGo m cs = some m' → CApart cs → (∀ s a, (∀ c ∈ cs, ¬ (c.row.sample = s ∧ c.row.analyte = a)) → mlook m' s a = mlook m s a) ∧ (∀ c ∈ cs, mlook m' c.row.sample c.row.analyte = if c.action = 87 then none else some c.row)
  | [], m, m', h, _ => by
    simp only [plainGo, Option.some.injEq] at h
    subst h
    exact ⟨fun _ _ _ => rfl, fun c hc => by cases hc⟩
  | c :: cs, m, m', h, hA => by
    have hA' := List.pairwise_cons.1 hA
    simp only [plainGo] at h
    split at h
    · cases h
    · rename_i m1 hst
      obtain ⟨h1, h2⟩ := plainGo_look h hA'.2
      have hone : (∀ s a, ¬ (c.row.sample = s ∧ c.row.analyte = a) → mlook m1 s a = mlook m s a) ∧ mlook m1 c.row.sample c.row.analyte = if c.action = 87 then none else some c.row := by
        unfold plainStep at hst
        split at hst
        · rename_i hc
          injection hst with hst
          subst hst
          have : ¬ c.action = 87 := by simp only [Bool.and_eq_true, beq_iff_eq] at hc; omega
          exact ⟨fun s a hn => mlook_put_other _ _ _ _ (fun e => hn ⟨e.1.symm, e.2.symm⟩), by rw [mlook_put_same, if_neg this]⟩
        · split at hst
          · rename_i hc
            injection hst with hst
            subst hst
            have : ¬ c.action = 87 := by simp only [Bool.and_eq_true, beq_iff_eq] at hc; omega
            exact ⟨fun s a hn => mlook_put_other _ _ _ _ (fun e => hn ⟨e.1.symm, e.2.symm⟩), by rw [mlook_put_same, if_neg this]⟩
          · split at hst
            · rename_i hc
              injection hst with hst
              subst hst
              have : c.action = 87 := by simp only [Bool.and_eq_true, beq_iff_eq] at hc; omega
              exact ⟨fun s a hn => mlook_del_other _ _ _ _ _ (fun e => hn ⟨e.1.symm, e.2.symm⟩), by rw [mlook_del_same, if_pos this]⟩
            · cases hst
      refine ⟨fun s a hn => ?_, fun d hd => ?_⟩
      · rw [h1 s a (fun d hd => hn d (List.mem_cons_of_mem _ hd)), hone.1 s a (hn c (List.mem_cons_self ..))]
      · rcases List.mem_cons.1 hd with rfl | hd
        · rw [h1 _ _ (fun e he q => hA'.1 e he ⟨q.1.symm, q.2.symm⟩)]
          exact hone.2
        · exact h2 d hd
/-- What the lines of a file leave of the rows. -/
theorem applyF_look {rs o : List Row} {cs : List Change} (hr : Rise rs) (h : applyF rs cs = some o) : Rise o ∧ Rise (cs.map (·.row)) ∧ (∀ s a, (∀ c ∈ cs, ¬ (c.row.sample = s ∧ c.row.analyte = a)) → mlook o s a = mlook rs s a) ∧ (∀ c ∈ cs, mlook o c.row.sample c.row.analyte = if c.action = 87 then none else some c.row) := by
  rcases apply_plain cs hr with ⟨h1, -⟩ | ⟨o', m, h1, h2, h3, h4⟩
  · rw [h] at h1; cases h1
  · rw [h] at h1
    injection h1 with h1
    subst h1
    have hR := rise_of_ordB h3
    obtain ⟨k1, k2⟩ := plainGo_look h2 (capart_of_rise hR)
    exact ⟨h4.rise, hR, fun s a hn => by rw [← h4.look, k1 s a hn, (mapOf_agree hr).look], fun c hc => by rw [← h4.look]; exact k2 c hc⟩

theorem incW_heads (seq : Int) : ∀ (cs : List Change) (i : Nat), ∀ x ∈ incW seq i cs, x.1.1.head? = some 99 ∨ x.1.1.head? = some 114
  | [], _, x, hx => by cases hx
  | c :: cs, i, x, hx => by
    unfold incW at hx
    rcases List.mem_cons.mp hx with e | hx
    · rw [e]; exact Or.inl rfl
    · rcases List.mem_cons.mp hx with e | hx
      · rw [e]; unfold ptrW; split <;> exact Or.inr rfl
      · exact incW_heads seq cs (i + 1) x hx
theorem lastW_hit2 (a : WR) (ws : List WR) (k : List Int) (d : Option (List Int)) : lastW (a :: ws) k d = lastW ws k (if a.1.1 = k then (if a.2 then none else some a.1.2) else d) := rfl
theorem lastW_99 {seq : Int} (hs : U32 seq) : ∀ (cs : List Change) (i : Nat), i + cs.length ≤ 1000000 → ∀ (q : Int) (j : Nat) (d : Option (List Int)), U32 q → j ≤ 1000000 → lastW (incW seq i cs) (key2B 99 q (j : Int)) d = if h : q = seq ∧ i ≤ j ∧ j - i < cs.length then some (chgB (cs[j - i]'h.2.2)) else d
  | [], i, _, q, j, d, _, _ => by
    rw [dif_neg (by simp)]
    rfl
  | c :: cs, i, hl, q, j, d, hq, hj => by
    have hl' : i + 1 + cs.length ≤ 1000000 := by simp at hl; omega
    rw [incW, lastW_hit2, lastW_hit2]
    have hp : (ptrW seq i c).1.1 ≠ key2B 99 q (j : Int) := by
      have : (ptrW seq i c).1.1 = key2B 114 c.row.sample c.row.analyte := by unfold ptrW; split <;> rfl
      rw [this]
      exact head_ne (key2B_head _ _ _) (key2B_head _ _ _) (by decide)
    rw [if_neg hp, lastW_99 hs cs (i + 1) hl' q j _ hq hj]
    by_cases e : key2B 99 seq (i : Int) = key2B 99 q (j : Int)
    · obtain ⟨e1, e2⟩ := key2B_inj hs ⟨by omega, by omega⟩ hq ⟨by omega, by omega⟩ e
      have e2 : i = j := by omega
      subst e1 e2
      rw [if_pos e, dif_neg (by omega), dif_pos ⟨rfl, Nat.le_refl _, by simp⟩]
      simp
    · rw [if_neg e]
      by_cases h1 : q = seq ∧ i + 1 ≤ j ∧ j - (i + 1) < cs.length
      · rw [dif_pos h1, dif_pos ⟨h1.1, by omega, by simp; omega⟩]
        congr 2
        have : j - i = (j - (i + 1)) + 1 := by omega
        simp only [this, List.getElem_cons_succ]
      · rw [dif_neg h1, dif_neg]
        rintro ⟨rfl, h2, h3⟩
        simp at h3
        by_cases h4 : j = i
        · subst h4; exact e rfl
        · exact h1 ⟨rfl, by omega, by omega⟩
theorem lastW_114n {seq : Int} : ∀ (cs : List Change) (i : Nat) (s a : Int) (d : Option (List Int)), U32 s → U32 a → (∀ c ∈ cs, c.row.Ok) → (∀ c ∈ cs, ¬ (c.row.sample = s ∧ c.row.analyte = a)) → lastW (incW seq i cs) (key2B 114 s a) d = d
  | [], _, _, _, _, _, _, _, _ => rfl
  | c :: cs, i, s, a, d, hs, ha, ho, hn => by
    rw [incW, lastW_hit2, lastW_hit2, if_neg (head_ne (key2B_head _ _ _) (key2B_head _ _ _) (by decide))]
    have hp : (ptrW seq i c).1.1 = key2B 114 c.row.sample c.row.analyte := by unfold ptrW; split <;> rfl
    have hc := ho c (List.mem_cons_self ..)
    rw [hp, if_neg (fun e => hn c (List.mem_cons_self ..) (key2B_inj hc.sample hc.analyte hs ha e))]
    exact lastW_114n cs (i + 1) s a d hs ha (fun x hx => ho x (List.mem_cons_of_mem _ hx)) (fun x hx => hn x (List.mem_cons_of_mem _ hx))
theorem lastW_114 {seq : Int} : ∀ (cs : List Change) (i : Nat) (d : Option (List Int)), (∀ c ∈ cs, c.row.Ok) → CApart cs → ∀ j (hj : j < cs.length), lastW (incW seq i cs) (key2B 114 cs[j].row.sample cs[j].row.analyte) d = if cs[j].action = 87 then none else some (placeB seq ((i + j : Nat) : Int))
  | [], _, _, _, _, j, hj => by simp at hj
  | c :: cs, i, d, ho, hA, 0, _ => by
    have hA' := List.pairwise_cons.1 hA
    have hc := ho c (List.mem_cons_self ..)
    simp only [List.getElem_cons_zero]
    rw [incW, lastW_hit2, lastW_hit2, if_neg (head_ne (key2B_head _ _ _) (key2B_head _ _ _) (by decide)), lastW_114n cs (i + 1) _ _ _ hc.sample hc.analyte (fun x hx => ho x (List.mem_cons_of_mem _ hx)) (fun x hx e => hA'.1 x hx ⟨e.1.symm, e.2.symm⟩)]
    by_cases e : c.action = 87
    · have : ptrW seq i c = ((key2B 114 c.row.sample c.row.analyte, []), true) := by unfold ptrW; rw [if_pos (by simpa using e)]
      rw [this, if_pos rfl, if_pos e]; rfl
    · have : ptrW seq i c = ((key2B 114 c.row.sample c.row.analyte, placeB seq i), false) := by unfold ptrW; rw [if_neg (by simpa using e)]
      rw [this, if_pos rfl, if_neg e]; rfl
  | c :: cs, i, d, ho, hA, j + 1, hj => by
    have hA' := List.pairwise_cons.1 hA
    have hj' : j < cs.length := by simpa using hj
    simp only [List.getElem_cons_succ]
    rw [incW, lastW_hit2, lastW_hit2, lastW_114 cs (i + 1) _ (fun x hx => ho x (List.mem_cons_of_mem _ hx)) hA'.2 j hj', show i + 1 + j = i + (j + 1) by omega]

/-- A file's header goes on record, with lines or without. -/
structure IssW (n : Nat) (H : Hdr) (ws ls : List WR) : Prop where
  ws : ws = ((key1B 104 ((n : Int) + 1), hdrB H), false) :: ls
  hd : ∀ x ∈ ls, x.1.1.head? = some 99 ∨ x.1.1.head? = some 114
theorem IssW.k104 {n : Nat} {H : Hdr} {ws ls : List WR} (h : IssW n H ws ls) (hn : n ≤ 1000000) {k : Int} (hk : U32 k) (d : Option (List Int)) : lastW ws (key1B 104 k) d = if k = (n : Int) + 1 then some (hdrB H) else d := by
  rw [h.ws, lastW_hit2, lastW_none]
  · by_cases e : k = (n : Int) + 1
    · subst e; rw [if_pos rfl, if_pos rfl]; rfl
    · rw [if_neg e, if_neg (fun q => e (key1B_inj ⟨by omega, by omega⟩ hk q).symm)]
  · intro x hx e
    rcases h.hd x hx with q | q <;> rw [e, key1B_head] at q <;> (injection q with q; omega)
theorem IssW.other {n : Nat} {H : Hdr} {ws ls : List WR} (h : IssW n H ws ls) {k : List Int} (hk : k.head? ≠ some 104) (d : Option (List Int)) : lastW ws k d = lastW ls k d := by
  rw [h.ws, lastW_hit2, if_neg (fun e => hk (by rw [← e]; rfl))]

theorem FI.issue {ps : List KV} {fs : List File} {rows rows' : List Row} {s : Stat} {f : File} {ls : List WR} (h : FI ps fs rows) (hl : fs.length ≤ 900000) (R : HR) (r : Req) (role : Int) (hs : statR ps = .ok s) (hn : 0 ≤ r.now ∧ r.now ≤ 157785119) (hm : s.lastMin ≤ r.now)
    (hf : f.seq = (fs.length : Int) + 1 ∧ f.base = cumOf fs ∧ f.issued = r.now) (hok : FileOk f.kind f.seq f.issued f.base f.changes) (hcok : ∀ c ∈ f.changes, c.Ok)
    (hst : R.st = { s with transfers := (fs.length : Int) + 1, lastCum := if f.kind = 67 then (fs.length : Int) + 1 else s.lastCum }) (hW : IssW fs.length (hdrOf f.kind f.seq f.issued f.base f.changes) R.ws ls)
    (h99o : ∀ (q : Int) (j : Nat), U32 q → j ≤ 1000000 → q ≠ (fs.length : Int) + 1 → ∀ d, lastW ls (key2B 99 q (j : Int)) d = d) (h99n : f.kind = 73 → ∀ j (hj : j < f.changes.length) d, lastW ls (key2B 99 ((fs.length : Int) + 1) (j : Int)) d = some (chgB f.changes[j]))
    (hrel : relF (some rows) f = some rows') (hcum : f.kind = 67 → f.changes = asCur rows) (hrise : Rise rows') (hrok : ∀ r ∈ rows', r.Ok)
    (hp0 : ∀ x a, U32 x → U32 a → mlook rows' x a = none → lastW ls (key2B 114 x a) (getB ps (key2B 114 x a)) = none)
    (hp1 : ∀ y ∈ rows', (y ∈ rows ∧ ∀ d, lastW ls (key2B 114 y.sample y.analyte) d = d) ∨ (f.kind = 73 ∧ ∃ j, ∃ hj : j < f.changes.length, f.changes[j].row = y ∧ f.changes[j].action ≠ 87 ∧ ∀ d, lastW ls (key2B 114 y.sample y.analyte) d = some (placeB ((fs.length : Int) + 1) (j : Int))))
    (hkeys : ∀ x ∈ ls, x.1.1.head? = some 114 → ∃ a b, U32 a ∧ U32 b ∧ x.1.1 = key2B 114 a b) : FI (applyW ps (wsAll R r role)) (fs ++ [f]) rows' := by
  obtain ⟨s0, t1, t2, t3, t4⟩ := h.st
  rw [hs] at t1
  injection t1 with t1
  subst t1
  have hcb := h.cumB
  have hseq : ∀ i (hi : i < (fs ++ [f]).length), (fs ++ [f])[i].seq = (i : Int) + 1 ∧ (fs ++ [f])[i].base = cumOf ((fs ++ [f]).take i) := fun i hi => by
    by_cases e : i < fs.length
    · rw [List.getElem_append_left e, List.take_append_of_le_length (by omega)]
      exact h.seq i e
    · have e' : i = fs.length := by simp at hi; omega
      subst e'
      rw [List.getElem_append_right (Nat.le_refl _), List.take_left' rfl]
      simp only [Nat.sub_self, List.getElem_cons_zero]
      exact ⟨hf.1, hf.2.1⟩
  have hlen : ((fs ++ [f]).length : Int) = (fs.length : Int) + 1 := by simp
  have hsn : stNext R.st r.now = ⟨(s.entries + 1) % 4294967296, (fs.length : Int) + 1, if f.kind = 67 then (fs.length : Int) + 1 else s.lastCum, r.now⟩ := by rw [hst]; rfl
  have hlc : (if f.kind = 67 then (fs.length : Int) + 1 else s.lastCum) = cumOf (fs ++ [f]) := by
    rw [cumOf_snoc, hf.1, t3]
  have hcb2 := cumOf_bound (fs ++ [f]) (fun i hi => (hseq i hi).1)
  rw [hlen] at hcb2
  have hO : (stNext R.st r.now).Ok := by
    rw [hsn, hlc]
    exact ⟨u32mod _, ⟨by dsimp only; omega, by dsimp only; omega⟩, ⟨by dsimp only; omega, by dsimp only; omega⟩, ⟨by dsimp only; omega, by dsimp only; omega⟩⟩
  have g1 : ∀ k, U32 k → getB (applyW ps (wsAll R r role)) (key1B 104 k) = if k = (fs.length : Int) + 1 then some (hdrB (hdrOf f.kind f.seq f.issued f.base f.changes)) else getB ps (key1B 104 k) := fun k hk => by
    rw [getB_ws h.kn R r role (by rw [key1B_head]; decide) (by rw [key1B_head]; decide), hW.k104 (by omega) hk]
  have g2 : ∀ k j, getB (applyW ps (wsAll R r role)) (key2B 99 k j) = lastW ls (key2B 99 k j) (getB ps (key2B 99 k j)) := fun k j => by
    rw [getB_ws h.kn R r role (by rw [key2B_head]; decide) (by rw [key2B_head]; decide), hW.other (by rw [key2B_head]; decide)]
  have g3 : ∀ k j, getB (applyW ps (wsAll R r role)) (key2B 114 k j) = lastW ls (key2B 114 k j) (getB ps (key2B 114 k j)) := fun k j => by
    rw [getB_ws h.kn R r role (by rw [key2B_head]; decide) (by rw [key2B_head]; decide), hW.other (by rw [key2B_head]; decide)]
  have hmem : ∀ g ∈ fs ++ [f], g ∈ fs ∨ g = f := fun g hg => by simpa using hg
  refine ⟨h.kn.apply _, ⟨stNext R.st r.now, stat_ws h.kn R r role hO ?_ hn, by rw [hsn, hlen], by rw [hsn]; exact hlc, fun g hg => ?_⟩, hseq, ?_, fun g hg => ?_, fun g hg => ?_, fun i hi => ?_, fun i hi hk j hj => ?_, fun k hk q => ?_, by rw [relOf_snoc, h.rel]; exact hrel, fun i hi hk => ?_, fun x a hx ha q => by rw [g3]; exact hp0 x a hx ha q, fun y hy => ?_, fun p hp q => ?_, hrise, hrok⟩
  · rw [hst]; dsimp only; rw [hlc]; exact hcb2.2
  · rw [hsn]
    show g.issued ≤ r.now
    rcases hmem g hg with q | q
    · have := t4 g q; omega
    · rw [q, hf.2.2]; omega
  · refine List.pairwise_append.2 ⟨h.mono, List.pairwise_singleton _ _, fun a ha b hb => ?_⟩
    rw [List.mem_singleton.1 hb, hf.2.2]
    have := t4 a ha
    omega
  · rcases hmem g hg with q | q
    · exact h.fok g q
    · rw [q]; exact hok
  · rcases hmem g hg with q | q
    · exact h.cok g q
    · rw [q]; exact hcok
  · have hii : i < fs.length + 1 := by simpa using hi
    rw [g1 _ ⟨by omega, by omega⟩]
    by_cases e : i < fs.length
    · rw [if_neg (by omega), List.getElem_append_left e]
      exact h.hdr i e
    · have e' : i = fs.length := by omega
      subst e'
      rw [if_pos rfl, List.getElem_append_right (Nat.le_refl _)]
      simp
  · have hii : i < fs.length + 1 := by simpa using hi
    rw [g2]
    by_cases e : i < fs.length
    · have hk' := hk
      have hj' := hj
      rw [List.getElem_append_left e] at hk' hj'
      have hj20 := inc_len h (List.getElem_mem e) hk'
      rw [h99o _ _ ⟨by omega, by omega⟩ (by omega) (by omega), h.lin i e hk' j hj']
      simp only [List.getElem_append_left e]
    · have e' : i = fs.length := by omega
      subst e'
      have e2 : (fs ++ [f])[fs.length] = f := by simp
      have hk' := hk
      have hj' := hj
      rw [e2] at hk' hj'
      rw [h99n hk' j hj']
      simp only [e2]
  · rw [hlen] at q
    rw [g1 k hk, if_neg (by omega)]
    exact h.no k hk (by omega)
  · have hii : i < fs.length + 1 := by simpa using hi
    by_cases e : i < fs.length
    · have hk' := hk
      rw [List.getElem_append_left e] at hk'
      rw [List.getElem_append_left e, List.take_append_of_le_length (by omega)]
      exact h.cum i e hk'
    · have e' : i = fs.length := by omega
      subst e'
      have e2 : (fs ++ [f])[fs.length] = f := by simp
      have hk' := hk
      rw [e2] at hk'
      rw [e2, List.take_left' rfl]
      exact ⟨rows, h.rel, hcum hk'⟩
  · rcases hp1 y hy with ⟨k1, k2⟩ | ⟨k1, j, hj, k2, k3, k4⟩
    · obtain ⟨i, j, hi, hj, q1, q2, q3, q4⟩ := h.ptr1 y k1
      refine ⟨i, j, by simp; omega, by rw [List.getElem_append_left hi]; exact hj, ?_⟩
      simp only [List.getElem_append_left hi]
      exact ⟨q1, q2, q3, by rw [g3, k2]; exact q4⟩
    · have e2 : (fs ++ [f])[fs.length]'(by simp) = f := by simp
      refine ⟨fs.length, j, by simp, by rw [e2]; exact hj, ?_⟩
      simp only [e2]
      exact ⟨k1, k2, k3, by rw [g3, k4]⟩
  · rcases applyW_mem hp with hp | ⟨x, hx, -, rfl⟩
    · exact h.keys p hp q
    · unfold wsAll at hx
      rcases List.mem_append.1 hx with hx | hx
      · rcases List.mem_append.1 hx with hx | hx
        · rw [hW.ws] at hx
          rcases List.mem_cons.1 hx with rfl | hx
          · exfalso
            have q : (key1B 104 _).head? = some 114 := q
            rw [key1B_head] at q
            injection q with q; omega
          · exact hkeys x hx q
        · exfalso
          rw [List.mem_singleton.1 hx] at q
          have q : (key1B 97 _).head? = some 114 := q
          rw [key1B_head] at q
          injection q with q; omega
      · exfalso
        rw [List.mem_singleton.1 hx] at q
        have q : (key0B 115).head? = some 114 := q
        rw [key0B_head] at q
        injection q with q; omega

end Go.Proofs.Qxb6500666aGreatDoor
