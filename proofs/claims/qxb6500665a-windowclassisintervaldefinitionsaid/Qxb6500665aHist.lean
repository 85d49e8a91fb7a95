/- The history of a script, walked. -/
import Derived.Test.Qxb6500665aBench
namespace Go.Proofs.Qxb6500665a
open Go.RowKit Go.Proofs.Qxb6500665a.Cal

/-- A version as the script gave it. -/
structure HVer where
  num : Int
  eff : Int
  s : SV
  vs : List Visit

def hvCs (x : HVer) : Array Value := #[.int .u32 x.num, .int .i64 x.eff, sv x.s]
theorem hvCs_size (x : HVer) : (hvCs x).size = 3 := rfl
theorem hvCs_one (x : HVer) : ∀ u ∈ (hvCs x).toList, u.oneCell' = true := by simp [hvCs, sv, Value.oneCell']

structure HSub where
  id : Int
  site : Int
  anchor : Int
def suCs (x : HSub) : Array Value := #[.int .u32 x.id, .int .u32 x.site, .int .i64 x.anchor]
theorem suCs_size (x : HSub) : (suCs x).size = 3 := rfl
theorem suCs_one (x : HSub) : ∀ u ∈ (suCs x).toList, u.oneCell' = true := by simp [suCs, Value.oneCell']

theorem Try.info44 : (Try.prog.info? 44).map (fun i => (i.zero, i.size, i.bytes)) = some (some (.agg #[.int .u32 0, .int .i64 0, .slice none 0 0]), 3, 40) := by kernel_rfl
theorem Try.info48 : (Try.prog.info? 48).map (fun i => (i.zero, i.size, i.bytes)) = some (some (.agg #[.int .u32 0, .int .u32 0, .int .i64 0]), 3, 16) := by kernel_rfl

/-- The history at block h. -/
structure HistAt (w : World) (h base : Nat) (D : Nat → Prop) (hv : List HVer) (hs : List HSub) (N : Nat) : Prop where
  ex : ∃ vv ss pv, ∃ hp : List Int, w.heap[h]? = some (.cells #[vv, ss, pv] 30 (0, 0)) ∧ OwnR w base 44 3 hvCs vv hv ∧ OwnR w base 48 3 suCs ss hs ∧ OwnR w base 33 1 u32Cs pv hp ∧ hp.length ≤ N ∧
    (∀ b, vv.ownBlock = some b → D b ∧ b ≠ h ∧ ss.ownBlock ≠ some b ∧ pv.ownBlock ≠ some b) ∧ (∀ b, ss.ownBlock = some b → D b ∧ b ≠ h ∧ pv.ownBlock ≠ some b) ∧ (∀ b, pv.ownBlock = some b → D b ∧ b ≠ h)
  lv : hv.length ≤ N
  ls : hs.length ≤ N
  top : D h
  lt : ∀ b, D b → base ≤ b ∧ b < w.heap.size

theorem HistAt.same {w w' : World} {h base : Nat} {D : Nat → Prop} {hv : List HVer} {hs : List HSub} {N : Nat} (k : HistAt w h base D hv hs N) (hsame : ∀ b, D b → w'.heap[b]? = w.heap[b]?) (hsz : w.heap.size ≤ w'.heap.size) : HistAt w' h base D hv hs N := by
  obtain ⟨⟨vv, ss, pv, hp, h1, h2, h3, h4, h5, h6, h7, h8⟩, l1, l2, l3, l4⟩ := k
  exact ⟨⟨vv, ss, pv, hp, (hsame h l3).trans h1, h2.mono (fun b hb => hsame b (h6 b hb).1), h3.mono (fun b hb => hsame b (h7 b hb).1), h4.mono (fun b hb => hsame b (h8 b hb).1), h5, h6, h7, h8⟩, l1, l2, l3, fun b hb => ⟨(l4 b hb).1, Nat.lt_of_lt_of_le (l4 b hb).2 hsz⟩⟩

theorem HistAt.below {w w' : World} {h base : Nat} {D : Nat → Prop} {hv : List HVer} {hs : List HSub} {N : Nat} (k : HistAt w h base D hv hs N) (hb : Below w.heap.size w w') : HistAt w' h base D hv hs N :=
  k.same (fun b hd => hb.block b (k.lt b hd).2) hb.size

theorem HistAt.grow {w w' w'' : World} {h base : Nat} {D : Nat → Prop} {hv : List HVer} {hs : List HSub} {N M : Nat} (k : HistAt w' h base D hv hs N) (hb : base ≤ w.heap.size) (hM : N ≤ M) (hw : w'.heap.size ≤ w''.heap.size) (he : ∀ b, D b → w''.heap[b]? = w'.heap[b]?) : HistAt w'' h base (Anew w D w'') hv hs M := by
  obtain ⟨⟨vv, ss, pv, hp, h1, h2, h3, h4, h5, h6, h7, h8⟩, l1, l2, l3, l4⟩ := k.same he hw
  exact ⟨⟨vv, ss, pv, hp, h1, h2, h3, h4, by omega, fun b hb => ⟨Or.inl (h6 b hb).1, (h6 b hb).2⟩, fun b hb => ⟨Or.inl (h7 b hb).1, (h7 b hb).2⟩, fun b hb => ⟨Or.inl (h8 b hb).1, (h8 b hb).2⟩⟩, by omega, by omega, Or.inl l3, fun b hb' => hb'.elim (l4 b) (fun h => ⟨by omega, h.2⟩)⟩

/-- What note leaves. -/
structure NotePost (w w' : World) (h base : Nat) (D : Nat → Prop) (hv : List HVer) (hs : List HSub) (N : Nat) : Prop where
  hist : HistAt w' h base (Anew w D w') hv hs N
  same : Same (fun b => b < w.heap.size ∧ ¬ D b) w w'
  below : Below base w w'

theorem NotePost.of_below {w w' : World} {h base : Nat} {D : Nat → Prop} {hv : List HVer} {hs : List HSub} {N : Nat} (k : HistAt w h base D hv hs N) (hb : base ≤ w.heap.size) (hbw : Below w.heap.size w w') : NotePost w w' h base D hv hs (N + 1) :=
  ⟨k.grow hb (by omega) hbw.size (fun b hd => hbw.block b (k.lt b hd).2), fun b hb => hbw.block b hb.1, hbw.mono hb⟩

/-- Behind an append to one of the three lists: w3 = before the append, w4 behind it. -/
theorem NotePost.putV {w w3 w4 : World} {h base : Nat} {D : Nat → Prop} {hv' : List HVer} {hs : List HSub} {hp : List Int} {N : Nat} {vv ss pv v' : Value} (hD : D h) (hlt : ∀ b, D b → base ≤ b ∧ b < w.heap.size) (hb : base ≤ w.heap.size)
    (h1 : w.heap[h]? = some (.cells #[vv, ss, pv] 30 (0, 0))) (h3 : OwnR w base 48 3 suCs ss hs) (h4 : OwnR w base 33 1 u32Cs pv hp) (h5 : hp.length ≤ N) (l1 : hv'.length ≤ N + 1) (l2 : hs.length ≤ N)
    (h6 : ∀ b, vv.ownBlock = some b → D b ∧ b ≠ h ∧ ss.ownBlock ≠ some b ∧ pv.ownBlock ≠ some b) (h7 : ∀ b, ss.ownBlock = some b → D b ∧ b ≠ h ∧ pv.ownBlock ≠ some b) (h8 : ∀ b, pv.ownBlock = some b → D b ∧ b ≠ h)
    (hb3 : Below w.heap.size w w3) (hown : OwnR w4 base 44 3 hvCs v' hv') (hsame : Same (fun b => b < w3.heap.size ∧ vv.ownBlock ≠ some b) w3 w4) (hb4 : Below base w3 w4) (hat : v'.ownBlock = vv.ownBlock ∨ v'.ownBlock = some w3.heap.size) :
    NotePost w (w4.setCell ⟨h, 0, none⟩ v') h base D hv' hs (N + 1) := by
  have hsz : (w4.setCell ⟨h, 0, none⟩ v').heap.size = w4.heap.size := by simp [World.setCell]
  have hhl := (hlt h hD).2
  have hs3 := hb3.size
  have hs4 := hb4.size
  have ho : ∀ b, b ≠ h → (w4.setCell ⟨h, 0, none⟩ v').heap[b]? = w4.heap[b]? := fun b hb => Below.heap_setCell _ _ _ _ hb
  have hold : ∀ b, b < w.heap.size → vv.ownBlock ≠ some b → w4.heap[b]? = w.heap[b]? := fun b hb hv => (hsame b ⟨by omega, hv⟩).trans (hb3.block b hb)
  have hh4 : w4.heap[h]? = some (.cells #[vv, ss, pv] 30 (0, 0)) := (hold h hhl (fun e => (h6 h e).2.1 rfl)).trans h1
  have hnew : ∀ b, v'.ownBlock = some b → (vv.ownBlock = some b ∨ w.heap.size ≤ b) := fun b hb => by
    rcases hat with h | h
    · exact Or.inl (h ▸ hb)
    · rw [h] at hb; cases hb; exact Or.inr hs3
  refine ⟨⟨⟨v', ss, pv, hp, ?_, ?_, ?_, ?_, by omega, ?_, ?_, ?_⟩, l1, by omega, Or.inl hD, ?_⟩, ?_, ?_⟩
  · have := heap_setCell_same w4 h 0 _ _ v' hh4
    simpa using this
  · refine hown.mono fun b hb' => ho b ?_
    rintro rfl
    rcases hnew b hb' with hn | hn
    · exact (h6 b hn).2.1 rfl
    · omega
  · exact h3.mono fun b hb' => (ho b (h7 b hb').2.1).trans (hold b (hlt b (h7 b hb').1).2 (fun e => (h6 b e).2.2.1 hb'))
  · exact h4.mono fun b hb' => (ho b (h8 b hb').2).trans (hold b (hlt b (h8 b hb').1).2 (fun e => (h6 b e).2.2.2 hb'))
  · intro b hb'
    have hbl := (hown.block b hb').2
    rcases hnew b hb' with hn | hn
    · exact ⟨Or.inl (h6 b hn).1, (h6 b hn).2⟩
    · refine ⟨Or.inr ⟨hn, by omega⟩, by omega, fun e => ?_, fun e => ?_⟩
      · have := (hlt b (h7 b e).1).2; omega
      · have := (hlt b (h8 b e).1).2; omega
  · exact fun b hb' => ⟨Or.inl (h7 b hb').1, (h7 b hb').2⟩
  · exact fun b hb' => ⟨Or.inl (h8 b hb').1, (h8 b hb').2⟩
  · exact fun b hb' => hb'.elim (fun h => ⟨(hlt b h).1, by have := (hlt b h).2; omega⟩) (fun h => ⟨by omega, h.2⟩)
  · exact fun b hb' => (ho b (fun e => hb'.2 (e ▸ hD))).trans (hold b hb'.1 (fun e => hb'.2 (h6 b e).1))
  · exact ((hb3.mono hb).trans hb4).setCell (p := ⟨h, 0, none⟩) (hlt h hD).1 _

theorem NotePost.putS {w w3 w4 : World} {h base : Nat} {D : Nat → Prop} {hv : List HVer} {hs' : List HSub} {hp : List Int} {N : Nat} {vv ss pv v' : Value} (hD : D h) (hlt : ∀ b, D b → base ≤ b ∧ b < w.heap.size) (hb : base ≤ w.heap.size)
    (h1 : w.heap[h]? = some (.cells #[vv, ss, pv] 30 (0, 0))) (h3 : OwnR w base 44 3 hvCs vv hv) (h4 : OwnR w base 33 1 u32Cs pv hp) (h5 : hp.length ≤ N) (l1 : hv.length ≤ N) (l2 : hs'.length ≤ N + 1)
    (h6 : ∀ b, vv.ownBlock = some b → D b ∧ b ≠ h ∧ ss.ownBlock ≠ some b ∧ pv.ownBlock ≠ some b) (h7 : ∀ b, ss.ownBlock = some b → D b ∧ b ≠ h ∧ pv.ownBlock ≠ some b) (h8 : ∀ b, pv.ownBlock = some b → D b ∧ b ≠ h)
    (hb3 : Below w.heap.size w w3) (hown : OwnR w4 base 48 3 suCs v' hs') (hsame : Same (fun b => b < w3.heap.size ∧ ss.ownBlock ≠ some b) w3 w4) (hb4 : Below base w3 w4) (hat : v'.ownBlock = ss.ownBlock ∨ v'.ownBlock = some w3.heap.size) :
    NotePost w (w4.setCell ⟨h, 1, none⟩ v') h base D hv hs' (N + 1) := by
  have hsz : (w4.setCell ⟨h, 1, none⟩ v').heap.size = w4.heap.size := by simp [World.setCell]
  have hhl := (hlt h hD).2
  have hs3 := hb3.size
  have hs4 := hb4.size
  have ho : ∀ b, b ≠ h → (w4.setCell ⟨h, 1, none⟩ v').heap[b]? = w4.heap[b]? := fun b hb => Below.heap_setCell _ _ _ _ hb
  have hold : ∀ b, b < w.heap.size → ss.ownBlock ≠ some b → w4.heap[b]? = w.heap[b]? := fun b hb hv => (hsame b ⟨by omega, hv⟩).trans (hb3.block b hb)
  have hh4 : w4.heap[h]? = some (.cells #[vv, ss, pv] 30 (0, 0)) := (hold h hhl (fun e => (h7 h e).2.1 rfl)).trans h1
  have hnew : ∀ b, v'.ownBlock = some b → (ss.ownBlock = some b ∨ w.heap.size ≤ b) := fun b hb => by
    rcases hat with h | h
    · exact Or.inl (h ▸ hb)
    · rw [h] at hb; cases hb; exact Or.inr hs3
  refine ⟨⟨⟨vv, v', pv, hp, ?_, ?_, ?_, ?_, by omega, ?_, ?_, ?_⟩, by omega, l2, Or.inl hD, ?_⟩, ?_, ?_⟩
  · have := heap_setCell_same w4 h 1 _ _ v' hh4
    simpa using this
  · exact h3.mono fun b hb' => (ho b (h6 b hb').2.1).trans (hold b (hlt b (h6 b hb').1).2 (fun e => (h6 b hb').2.2.1 e))
  · refine hown.mono fun b hb' => ho b ?_
    rintro rfl
    rcases hnew b hb' with hn | hn
    · exact (h7 b hn).2.1 rfl
    · omega
  · exact h4.mono fun b hb' => (ho b (h8 b hb').2).trans (hold b (hlt b (h8 b hb').1).2 (fun e => (h7 b e).2.2 hb'))
  · intro b hb'
    refine ⟨Or.inl (h6 b hb').1, (h6 b hb').2.1, fun e => ?_, (h6 b hb').2.2.2⟩
    rcases hnew b e with hn | hn
    · exact (h6 b hb').2.2.1 hn
    · have := (hlt b (h6 b hb').1).2; omega
  · intro b hb'
    have hbl := (hown.block b hb').2
    rcases hnew b hb' with hn | hn
    · exact ⟨Or.inl (h7 b hn).1, (h7 b hn).2⟩
    · refine ⟨Or.inr ⟨hn, by omega⟩, by omega, fun e => ?_⟩
      have := (hlt b (h8 b e).1).2; omega
  · exact fun b hb' => ⟨Or.inl (h8 b hb').1, (h8 b hb').2⟩
  · exact fun b hb' => hb'.elim (fun h => ⟨(hlt b h).1, by have := (hlt b h).2; omega⟩) (fun h => ⟨by omega, h.2⟩)
  · exact fun b hb' => (ho b (fun e => hb'.2 (e ▸ hD))).trans (hold b hb'.1 (fun e => hb'.2 (h7 b e).1))
  · exact ((hb3.mono hb).trans hb4).setCell (p := ⟨h, 1, none⟩) (hlt h hD).1 _

theorem NotePost.putP {w w3 w4 : World} {h base : Nat} {D : Nat → Prop} {hv : List HVer} {hs : List HSub} {hp' : List Int} {N : Nat} {vv ss pv v' : Value} (hD : D h) (hlt : ∀ b, D b → base ≤ b ∧ b < w.heap.size) (hb : base ≤ w.heap.size)
    (h1 : w.heap[h]? = some (.cells #[vv, ss, pv] 30 (0, 0))) (h3 : OwnR w base 44 3 hvCs vv hv) (h4 : OwnR w base 48 3 suCs ss hs) (h5 : hp'.length ≤ N + 1) (l1 : hv.length ≤ N) (l2 : hs.length ≤ N)
    (h6 : ∀ b, vv.ownBlock = some b → D b ∧ b ≠ h ∧ ss.ownBlock ≠ some b ∧ pv.ownBlock ≠ some b) (h7 : ∀ b, ss.ownBlock = some b → D b ∧ b ≠ h ∧ pv.ownBlock ≠ some b) (h8 : ∀ b, pv.ownBlock = some b → D b ∧ b ≠ h)
    (hb3 : Below w.heap.size w w3) (hown : OwnR w4 base 33 1 u32Cs v' hp') (hsame : Same (fun b => b < w3.heap.size ∧ pv.ownBlock ≠ some b) w3 w4) (hb4 : Below base w3 w4) (hat : v'.ownBlock = pv.ownBlock ∨ v'.ownBlock = some w3.heap.size) :
    NotePost w (w4.setCell ⟨h, 2, none⟩ v') h base D hv hs (N + 1) := by
  have hsz : (w4.setCell ⟨h, 2, none⟩ v').heap.size = w4.heap.size := by simp [World.setCell]
  have hhl := (hlt h hD).2
  have hs3 := hb3.size
  have hs4 := hb4.size
  have ho : ∀ b, b ≠ h → (w4.setCell ⟨h, 2, none⟩ v').heap[b]? = w4.heap[b]? := fun b hb => Below.heap_setCell _ _ _ _ hb
  have hold : ∀ b, b < w.heap.size → pv.ownBlock ≠ some b → w4.heap[b]? = w.heap[b]? := fun b hb hv => (hsame b ⟨by omega, hv⟩).trans (hb3.block b hb)
  have hh4 : w4.heap[h]? = some (.cells #[vv, ss, pv] 30 (0, 0)) := (hold h hhl (fun e => (h8 h e).2 rfl)).trans h1
  have hnew : ∀ b, v'.ownBlock = some b → (pv.ownBlock = some b ∨ w.heap.size ≤ b) := fun b hb => by
    rcases hat with h | h
    · exact Or.inl (h ▸ hb)
    · rw [h] at hb; cases hb; exact Or.inr hs3
  refine ⟨⟨⟨vv, ss, v', hp', ?_, ?_, ?_, ?_, h5, ?_, ?_, ?_⟩, by omega, by omega, Or.inl hD, ?_⟩, ?_, ?_⟩
  · have := heap_setCell_same w4 h 2 _ _ v' hh4
    simpa using this
  · exact h3.mono fun b hb' => (ho b (h6 b hb').2.1).trans (hold b (hlt b (h6 b hb').1).2 (fun e => (h6 b hb').2.2.2 e))
  · exact h4.mono fun b hb' => (ho b (h7 b hb').2.1).trans (hold b (hlt b (h7 b hb').1).2 (fun e => (h7 b hb').2.2 e))
  · refine hown.mono fun b hb' => ho b ?_
    rintro rfl
    rcases hnew b hb' with hn | hn
    · exact (h8 b hn).2 rfl
    · omega
  · intro b hb'
    refine ⟨Or.inl (h6 b hb').1, (h6 b hb').2.1, (h6 b hb').2.2.1, fun e => ?_⟩
    rcases hnew b e with hn | hn
    · exact (h6 b hb').2.2.2 hn
    · have := (hlt b (h6 b hb').1).2; omega
  · intro b hb'
    refine ⟨Or.inl (h7 b hb').1, (h7 b hb').2.1, fun e => ?_⟩
    rcases hnew b e with hn | hn
    · exact (h7 b hb').2.2 hn
    · have := (hlt b (h7 b hb').1).2; omega
  · intro b hb'
    have hbl := (hown.block b hb').2
    rcases hnew b hb' with hn | hn
    · exact ⟨Or.inl (h8 b hn).1, (h8 b hn).2⟩
    · exact ⟨Or.inr ⟨hn, by omega⟩, by omega⟩
  · exact fun b hb' => hb'.elim (fun h => ⟨(hlt b h).1, by have := (hlt b h).2; omega⟩) (fun h => ⟨by omega, h.2⟩)
  · exact fun b hb' => (ho b (fun e => hb'.2 (e ▸ hD))).trans (hold b hb'.1 (fun e => hb'.2 (h8 b e).1))
  · exact ((hb3.mono hb).trans hb4).setCell (p := ⟨h, 2, none⟩) (hlt h hD).1 _

end Go.Proofs.Qxb6500665a
