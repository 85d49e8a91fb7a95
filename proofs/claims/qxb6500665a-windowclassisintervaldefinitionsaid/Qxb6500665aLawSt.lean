/- The state behind the script's steps. -/
import Derived.Test.Qxb6500665aWinLaw
namespace Go.Proofs.Qxb6500665a
open Go.RowKit Go.Proofs.Qxb6500665a.Cal

theorem Bn.same {w w' : World} {B S : Nat} {A : Nat → Prop} {T : Tab} {full : Bool} {N : Nat} (h : Bn w B S A T full N) (hs : ∀ b, A b ∨ b = S ∨ b = B → w'.heap[b]? = w.heap[b]?) (hz : w.heap.size ≤ w'.heap.size) : Bn w' B S A T full N := by
  obtain ⟨⟨P, ps, ⟨h1, h2, h3⟩, h4, h5, h6⟩, h7, h8⟩ := h
  obtain ⟨pv, h9, h10⟩ := h3.ex
  exact ⟨⟨P, ps, ⟨(hs B (Or.inr (Or.inr rfl))).trans h1, (hs P (Or.inl h6)).trans h2, ⟨⟨pv, (hs S (Or.inr (Or.inl rfl))).trans h9, h10.mono (fun b hb => hs b (Or.inl hb)) (fun _ h => h)⟩, h3.out, fun b hb => Nat.lt_of_lt_of_le (h3.lt b hb) hz⟩⟩, h4, h5, h6⟩, h7, h8⟩

theorem Bn.lt {w : World} {B S : Nat} {A : Nat → Prop} {T : Tab} {full : Bool} {N : Nat} (h : Bn w B S A T full N) : B < w.heap.size ∧ S < w.heap.size ∧ ¬ A S ∧ ∀ b, A b → b < w.heap.size := by
  obtain ⟨⟨P, ps, ⟨h1, h2, h3⟩, h4, h5, h6⟩, h7, h8⟩ := h
  exact ⟨(cell_two h1).2.2.2, h3.size, h3.out, h3.lt⟩

structure LS (W w : World) (B S h : Nat) (A D : Nat → Prop) (T : Tab) (full : Bool) (hv : List HVer) (hs : List HSub) (dv : Value) (days : List Int) (q : Nat) : Prop where
  bn : Bn w B S A T full (2 * q)
  hi : HistAt w h W.heap.size D hv hs q
  own : OwnR w W.heap.size 2 1 i64Cs dv days
  dD : ∀ b, D b → ¬ A b ∧ b ≠ S ∧ b ≠ B
  dA : ∀ b, dv.ownBlock = some b → ¬ A b ∧ b ≠ S ∧ b ≠ B ∧ ¬ D b
  inv : HInv T hv hs
  vis : ∀ x ∈ hv, VisitsAt w (· < W.heap.size) (sv x.s) x.vs
  dr : ∀ d ∈ days, 0 ≤ d ∧ d ≤ 109572
  below : Below W.heap.size W w
  hS : W.heap.size ≤ S
  hB : W.heap.size ≤ B

section
variable {W w : World} {B S h : Nat} {A D : Nat → Prop} {T : Tab} {full : Bool} {hv : List HVer} {hs : List HSub} {dv : Value} {days : List Int} {q : Nat}

theorem LS.ext {wa : World} (k : LS W w B S h A D T full hv hs dv days q) (hb : Below w.heap.size w wa) : LS W wa B S h A D T full hv hs dv days q := by
  obtain ⟨b1, b2, b3, b4⟩ := k.bn.lt
  refine ⟨k.bn.same (fun b hb' => hb.block b ?_) hb.size, k.hi.below hb, k.own.below hb (Nat.le_refl _), k.dD, k.dA, k.inv, fun x hx => (k.vis x hx).below hb, k.dr, k.below.trans (hb.mono k.below.size), k.hS, k.hB⟩
  rcases hb' with h | h | h
  · exact b4 b h
  · omega
  · omega

/-- Behind a step and its note. -/
theorem LS.next {w4 w5 : World} {o : Op} {a : Ans} {T' : Tab} {full' : Bool} {s : SV} (k : LS W w B S h A D T full hv hs dv days q)
    (hrel : Rel T o T' a.code a.num) (hbn : Bn w4 B S (Anew w A w4) T' full' (2 * q + 2)) (hsame : ∀ b, b < w.heap.size → b ≠ S → b ≠ B → w4.heap[b]? = w.heap[b]?) (hbel : Below W.heap.size w w4)
    (hn : NotePost w4 w5 h W.heap.size D (noteV o a.code a.num s hv) (noteS o a.code hs) (q + 1)) (hid : U32 o.id) (hvis : VisitsAt w (· < W.heap.size) (sv s) o.visits) :
    LS W w5 B S h (Anew w A w4) (Anew w4 D w5) T' full' (noteV o a.code a.num s hv) (noteS o a.code hs) dv days (q + 1) := by
  have hWw := k.below.size
  have hw4 := hbel.size
  have hbel5 : Below W.heap.size w w5 := hbel.trans hn.below
  have hw5 := hn.below.size
  obtain ⟨c1, c2, c3, c4⟩ := k.bn.lt
  obtain ⟨d1, d2, d3, d4⟩ := hbn.lt
  have hAD : ∀ b, Anew w A w4 b ∨ b = S ∨ b = B → ¬ D b := fun b hb hD => by
    obtain ⟨e1, e2, e3⟩ := k.dD b hD
    have := (k.hi.lt b hD).2
    rcases hb with (h | h) | h | h
    · exact e1 h
    · omega
    · exact e2 h
    · exact e3 h
  refine ⟨?_, hn.hist, ?_, ?_, ?_, k.inv.next s hrel hid, ?_, k.dr, k.below.trans hbel5, k.hS, k.hB⟩
  · refine (hbn.same (fun b hb => hn.same b ⟨?_, hAD b hb⟩) hw5)
    rcases hb with h | h | h
    · exact d4 b h
    · omega
    · omega
  · refine k.own.mono fun b hb => ?_
    obtain ⟨e1, e2, e3, e4⟩ := k.dA b hb
    have := (k.own.block b hb).2
    rw [hn.same b ⟨by omega, e4⟩, hsame b this e2 e3]
  · intro b hb
    rcases hb with hb | hb
    · exact ⟨fun h => hAD b (Or.inl h) hb, (k.dD b hb).2⟩
    · refine ⟨fun h => ?_, by omega, by omega⟩
      have := d4 b h
      omega
  · intro b hb
    obtain ⟨e1, e2, e3, e4⟩ := k.dA b hb
    have := (k.own.block b hb).2
    exact ⟨fun h => h.elim e1 (fun h => by omega), e2, e3, fun h => h.elim e4 (fun h => by omega)⟩
  · intro x hx
    have hx2 : x ∈ hv ∨ VisitsAt w (· < W.heap.size) (sv x.s) x.vs := by
      unfold noteV at hx
      split at hx
      · rcases List.mem_append.1 hx with hx | hx
        · exact Or.inl hx
        · rw [List.mem_singleton.1 hx]; exact Or.inr hvis
      · exact Or.inl hx
    have hx3 : VisitsAt w (· < W.heap.size) (sv x.s) x.vs := hx2.elim (k.vis x) id
    exact hx3.mono (fun b hb => hbel5.block b hb) (fun _ h => h)

/-- Behind addOnce of a day. -/
theorem LS.day {w6 : World} {dv' : Value} {d : Int} (k : LS W w B S h A D T full hv hs dv days q) (hown : OwnR w6 W.heap.size 2 1 i64Cs dv' (addOnce days d)) (hsame : Same (fun b => b < w.heap.size ∧ dv.ownBlock ≠ some b) w w6) (hbel : Below W.heap.size w w6) (hat : dv'.ownBlock = dv.ownBlock ∨ ∀ b, dv'.ownBlock = some b → w.heap.size ≤ b) (hd : 0 ≤ d ∧ d ≤ 109572) :
    LS W w6 B S h A D T full hv hs dv' (addOnce days d) q := by
  obtain ⟨c1, c2, c3, c4⟩ := k.bn.lt
  refine ⟨k.bn.same (fun b hb => hsame b ⟨?_, fun h => ?_⟩) hbel.size, k.hi.same (fun b hb => hsame b ⟨(k.hi.lt b hb).2, fun h => (k.dA b h).2.2.2 hb⟩) hbel.size, hown, k.dD, fun b hb => ?_, k.inv, fun x hx => (k.vis x hx).mono (fun b hb => hbel.block b hb) (fun _ h => h), fun y hy => ?_, k.below.trans hbel, k.hS, k.hB⟩
  · rcases hb with h | h | h
    · exact c4 b h
    · omega
    · omega
  · obtain ⟨e1, e2, e3, e4⟩ := k.dA b h
    rcases hb with h | h | h
    · exact e1 h
    · exact e2 h
    · exact e3 h
  · rcases hat with h | h
    · exact k.dA b (h ▸ hb)
    · have h9 := h b hb
      exact ⟨fun h => by have := c4 b h; omega, by omega, by omega, fun h => by have := (k.hi.lt b h).2; omega⟩
  · unfold addOnce at hy
    split at hy
    · exact k.dr y hy
    · rcases List.mem_append.1 hy with hy | hy
      · exact k.dr y hy
      · rw [List.mem_singleton.1 hy]; exact hd

theorem addOnce_len (l : List Int) (x : Int) : (addOnce l x).length ≤ l.length + 1 := by
  unfold addOnce
  split
  · omega
  · simp

end

/-- All that the second half of the law reads. -/
structure Fix (w : World) (B P S h base : Nat) (A D : Nat → Prop) (ps : List KV) (T : Tab) (full : Bool) (hv : List HVer) (hs : List HSub) (N : Nat) : Prop where
  ben : BAt w B P S A ps full
  rep : Rep ps T
  hi : HistAt w h base D hv hs N
  vis : ∀ x ∈ hv, VisitsAt w (· < base) (sv x.s) x.vs

theorem Fix.below {w w' : World} {B P S h base : Nat} {A D : Nat → Prop} {ps : List KV} {T : Tab} {full : Bool} {hv : List HVer} {hs : List HSub} {N : Nat} (k : Fix w B P S h base A D ps T full hv hs N) (hb : Below w.heap.size w w') : Fix w' B P S h base A D ps T full hv hs N :=
  ⟨⟨(hb.block B (cell_two k.ben.bench).2.2.2).trans k.ben.bench, k.ben.at'.below hb⟩, k.rep, k.hi.below hb, fun x hx => (k.vis x hx).below hb⟩

theorem LS.fix {W w : World} {B S h : Nat} {A D : Nat → Prop} {T : Tab} {full : Bool} {hv : List HVer} {hs : List HSub} {dv : Value} {days : List Int} {q : Nat} (k : LS W w B S h A D T full hv hs dv days q) : ∃ P ps, Fix w B P S h W.heap.size A D ps T full hv hs q := by
  obtain ⟨⟨P, ps, h1, h2, -, -⟩, -, -⟩ := k.bn
  exact ⟨P, ps, h1, h2, k.hi, k.vis⟩

/-- A version has twelve visits at most. -/
theorem Fix.twelve {w : World} {B P S h base : Nat} {A D : Nat → Prop} {ps : List KV} {T : Tab} {full : Bool} {hv : List HVer} {hs : List HSub} {N : Nat} (k : Fix w B P S h base A D ps T full hv hs N) (hi : HInv T hv hs) : ∀ x ∈ hv, x.vs.length ≤ 12 := fun x hx => by
  have h1 := k.rep.vers.ok (toVer x) (by rw [hi.vers]; exact List.mem_map_of_mem hx)
  have h2 := h1.len
  have h3 := (sortL_perm ltV x.vs).length_eq
  show x.vs.length ≤ 12
  rw [← h3]
  exact h2

/-- Between a step and its note. -/
def Mid (W w w4 : World) (B S : Nat) (A : Nat → Prop) (T : Tab) (q : Nat) (o : Op) (a : Ans) : Prop :=
  ∃ T' full', Rel T o T' a.code a.num ∧ Bn w4 B S (Anew w A w4) T' full' (2 * q + 2) ∧ (∀ b, b < w.heap.size → b ≠ S → b ≠ B → w4.heap[b]? = w.heap[b]?) ∧ Below W.heap.size w w4

def LSx (W w : World) (B S h : Nat) (dv : Value) (days : List Int) (q : Nat) : Prop := ∃ A D T full hv hs, LS W w B S h A D T full hv hs dv days q

section
variable {W w : World} {B S h : Nat} {A D : Nat → Prop} {T : Tab} {full : Bool} {hv : List HVer} {hs : List HSub} {dv : Value} {days : List Int} {q : Nat}

theorem LS.fresh (k : LS W w B S h A D T full hv hs dv days q) {g : Nat} (hg : w.heap.size ≤ g) : g ≠ S ∧ g ≠ B ∧ ¬ D g := by
  obtain ⟨c1, c2, -, -⟩ := k.bn.lt
  exact ⟨by omega, by omega, fun h => by have := (k.hi.lt g h).2; omega⟩

theorem LS.step (k : LS W w B S h A D T full hv hs dv days q) (hq : q ≤ 65536) {o : Op} (ho : o.Ok) {la va : Option Addr} {ln lc vn vc : Nat} {ok : Nat → Prop} (hl : U32sAt w ok (.slice la ln lc) o.list) (hvi : VisitsAt w ok (.slice va vn vc) o.visits) :
    Calls Try.prog 12 #[.pointer (some ⟨B, 0, none⟩), .agg (opCs o (.slice la ln lc) (.slice va vn vc))] w fun e w4 => ∃ a, e = .returned (.agg (ansCs a)) ∧ Mid W w w4 B S A T q o a := by
  have hTl : T.vers.length ≤ 800000 := by
    rw [k.inv.vers, List.length_map]
    have := k.hi.lv
    omega
  refine (step_all w B S W.heap.size A ok T full (2 * q) o la va ln lc vn vc k.bn (by omega) k.hS k.hB hTl ho hl hvi).mono ?_
  rintro e w4 ⟨⟨a, T', full', rfl, h1, h2⟩, h3, h4⟩
  exact ⟨a, rfl, T', full', h1, h2, h3, h4⟩

theorem LS.note {w4 : World} (k : LS W w B S h A D T full hv hs dv days q) (hq : q ≤ 65536) {o : Op} {a : Ans} (m : Mid W w w4 B S A T q o a) (ho : o.Ok) {la va : Option Addr} {ln lc vn vc : Nat} (hvi : VisitsAt w (· < W.heap.size) (.slice va vn vc) o.visits) :
    Calls Try.prog 11 #[.pointer (some ⟨h, 0, none⟩), .agg (opCs o (.slice la ln lc) (.slice va vn vc)), .agg (ansCs a)] w4 fun e w5 => e = .returned (.tuple #[]) ∧ LSx W w5 B S h dv days (q + 1) ∧ ∀ g, g < w.heap.size → g ≠ S ∧ g ≠ B ∧ ¬ D g → w5.heap[g]? = w.heap[g]? := by
  obtain ⟨T', full', h1, h2, h3, h4⟩ := m
  have hw4 := h4.size
  have hWw := k.below.size
  have hhi : HistAt w4 h W.heap.size D hv hs q := k.hi.same (fun b hb => h3 b (k.hi.lt b hb).2 (k.dD b hb).2.1 (k.dD b hb).2.2) hw4
  have hnum : a.code = 0 → o.kind = 3 → 0 ≤ a.num ∧ a.num ≤ 4294967295 := fun c1 c2 => by
    obtain ⟨-, e1, -⟩ := h1.am c2 c1
    rw [k.inv.vers, List.length_map] at e1
    have := k.hi.lv
    omega
  refine (note_calls w4 h W.heap.size D hv hs q o a la va ln lc vn vc hhi (by omega) (by omega) hnum).mono ?_
  rintro e w5 ⟨rfl, hn⟩
  refine ⟨rfl, ⟨_, _, _, _, _, _, k.next h1 h2 h3 h4 hn ho.id hvi⟩, fun g hg h5 => ?_⟩
  rw [hn.same g ⟨by omega, h5.2.2⟩, h3 g hg h5.1 h5.2.1]
end

/-- The start. -/
theorem ls_start {w w1 : World} (hB : BAt w1 (w.heap.size + 2) (w.heap.size + 1) w.heap.size (fun _ => False) [] false) (hs : w1.heap.size = w.heap.size + 3) (hb : Below w.heap.size w w1) :
    LS w (w1.alloc (.cells #[.slice none 0 0, .slice none 0 0, .slice none 0 0] 30)) (w.heap.size + 2) w.heap.size (w.heap.size + 3) (· = w.heap.size + 1) (· = w.heap.size + 3) ⟨fun _ => none, fun _ => none, [], fun _ => false, fun _ => none⟩ false [] [] (.slice none 0 0) [] 0 := by
  obtain ⟨w2, hw2⟩ : ∃ w2, w2 = w1.alloc (.cells #[.slice none 0 0, .slice none 0 0, .slice none 0 0] 30) := ⟨_, rfl⟩
  have hh : w2.heap[w.heap.size + 3]? = some (.cells #[.slice none 0 0, .slice none 0 0, .slice none 0 0] 30 (0, 0)) := by rw [hw2, ← hs]; exact heap_alloc_at _ _
  have h12 : Below w1.heap.size w1 w2 := by rw [hw2]; exact (Below.refl _ _).alloc (Nat.le_refl _) _
  have hs2 : w2.heap.size = w.heap.size + 4 := by rw [hw2]; simp; omega
  rw [← hw2]
  clear hw2
  obtain ⟨b1, b2, b3⟩ := hB
  have b1' := (h12.block _ (by omega)).trans b1
  have b2' := (h12.block _ (by omega)).trans b2
  obtain ⟨⟨pv, b4, b5⟩, b6, b7⟩ := b3.below h12
  refine ⟨⟨⟨_, [], ⟨b1', b2', ⟨⟨pv, b4, b5.mono (fun b hb => hb.elim) (fun b hb => hb.elim)⟩, by omega, fun b hb => by omega⟩⟩, rep_empty, by simp, rfl⟩, by omega, by omega⟩, ⟨⟨_, _, _, [], hh, OwnR.nil _ _ _ _ _, OwnR.nil _ _ _ _ _, OwnR.nil _ _ _ _ _, by simp, fun b hb => (by cases hb), fun b hb => (by cases hb), fun b hb => (by cases hb)⟩, by simp, by simp, rfl, fun b hb => by omega⟩, OwnR.nil _ _ _ _ _, fun b hb => by omega, fun b hb => (by cases hb), hinv_nil _ rfl, fun x hx => (by cases hx), fun d hd => (by cases hd), hb.trans (h12.mono (by omega)), by omega, by omega⟩

end Go.Proofs.Qxb6500665a
