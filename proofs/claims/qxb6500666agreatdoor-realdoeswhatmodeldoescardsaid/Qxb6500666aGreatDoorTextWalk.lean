/- The text builder, walked. -/
import Derived.Test.Qxb6500666aGreatDoorParseInt
import Derived.Test.Qxb6500666aGreatDoorRowsOf
namespace Go.Proofs.Qxb6500666aGreatDoor
open Go.RowKit

/-- The builder at block g has gathered the bytes bs (its blocks from B on); the blocks A are none of its own. -/
def TextAt (w : World) (B g : Nat) (A : Nat → Prop) (bs : List Int) : Prop :=
  ∃ a cap, w.heap[g]? = some (.cells #[.slice a bs.length cap] 271 (0, 0)) ∧ B ≤ g ∧ OwnR w B 5 1 byteCs (.slice a bs.length cap) bs ∧ (Value.slice a bs.length cap).ownBlock ≠ some g ∧
    ¬ A g ∧ (∀ b, (Value.slice a bs.length cap).ownBlock = some b → ¬ A b) ∧ ∀ b, A b → b < w.heap.size

/-- What a call on the builder leaves. -/
structure Wrote (w w' : World) (B g : Nat) (A : Nat → Prop) (bs : List Int) : Prop where
  text : TextAt w' B g A bs
  below : Below B w w'
  same : Same A w w'

theorem Wrote.trans {w w1 w2 : World} {B g : Nat} {A : Nat → Prop} {bs bs' : List Int} (h : Wrote w w1 B g A bs) (k : Wrote w1 w2 B g A bs') : Wrote w w2 B g A bs' :=
  ⟨k.text, h.below.trans k.below, h.same.trans k.same⟩

theorem TextAt.alloc {w : World} {B g : Nat} {A : Nat → Prop} {bs : List Int} (h : TextAt w B g A bs) (o : Obj) : TextAt (w.alloc o) B g (fun b => A b ∨ b = w.heap.size) bs := by
  obtain ⟨a, cap, hg, hB, hown, hne, h1, h2, h3⟩ := h
  have hgl := (Array.getElem?_eq_some_iff.1 hg).1
  refine ⟨a, cap, (Below.heap_alloc w o g hgl).trans hg, hB, hown.below ((Below.refl _ _).alloc (Nat.le_refl _) _) (Nat.le_refl _), hne, ?_, fun b hb => ?_, fun b hb => ?_⟩
  · rintro (h | h)
    · exact h1 h
    · omega
  · rintro (h | h)
    · exact h2 b hb h
    · have := (hown.block b hb).2; omega
  · rcases hb with h | h
    · have := h3 b h; simp; omega
    · simp; omega

theorem TextAt.sub {w : World} {B g : Nat} {A A' : Nat → Prop} {bs : List Int} (h : TextAt w B g A bs) (hs : ∀ b, A' b → A b) : TextAt w B g A' bs := by
  obtain ⟨a, cap, hg, hB, hown, hne, h1, h2, h3⟩ := h
  exact ⟨a, cap, hg, hB, hown, hne, fun h => h1 (hs _ h), fun b hb h => h2 b hb (hs b h), fun b hb => h3 b (hs b hb)⟩

theorem Wrote.sub {w w' : World} {B g : Nat} {A A' : Nat → Prop} {bs : List Int} (h : Wrote w w' B g A bs) (hs : ∀ b, A' b → A b) : Wrote w w' B g A' bs :=
  ⟨h.text.sub hs, h.below, h.same.mono hs⟩

theorem cell_one {w : World} {g : Nat} {v : Value} {T : TypeId} (h : w.heap[g]? = some (.cells #[v] T (0, 0))) : w.cell? ⟨g, 0, none⟩ = some v ∧ w.frozen? ⟨g, 0, none⟩ = false ∧ g < w.heap.size :=
  ⟨by simp [World.cell?, h], by simp [World.frozen?, h], (Array.getElem?_eq_some_iff.1 h).1⟩

/-- Behind an append and the store of its slice. -/
theorem text_store {w w1 : World} {B g : Nat} {A : Nat → Prop} {v v1 : Value} {xs : List Int} (hg : w.heap[g]? = some (.cells #[v] 271 (0, 0))) (hB : B ≤ g) (hv : v.ownBlock ≠ some g)
    (h1 : ¬ A g) (h2 : ∀ b, v.ownBlock = some b → ¬ A b) (h3 : ∀ b, A b → b < w.heap.size)
    (hown : OwnR w1 B 5 1 byteCs v1 xs) (hb : Below B w w1) (hs : Same (fun b => b < w.heap.size ∧ v.ownBlock ≠ some b) w w1) (hat : v1.ownBlock = v.ownBlock ∨ ∀ b, v1.ownBlock = some b → w.heap.size ≤ b) :
    Wrote w (w1.setCell ⟨g, 0, none⟩ v1) B g A xs := by
  have hgl := (cell_one hg).2.2
  have hg1 : w1.heap[g]? = some (.cells #[v] 271 (0, 0)) := (hs g ⟨hgl, hv⟩).trans hg
  have hne : v1.ownBlock ≠ some g := by
    rcases hat with h | h
    · rw [h]; exact hv
    · intro e; have := h g e; omega
  obtain ⟨a, cap, rfl⟩ := hown.form
  refine ⟨⟨a, cap, ?_, hB, hown.mono fun b hb => Below.heap_setCell _ _ _ _ ?_, hne, h1, fun b hb' => ?_, fun b hb' => ?_⟩, hb.setCell (p := ⟨g, 0, none⟩) hB _, fun b hb' => ?_⟩
  · obtain ⟨hg', hg2⟩ := Array.getElem?_eq_some_iff.1 hg1
    simp [World.setCell, hg', Array.getElem_modify, hg2]
  · intro e; exact hne (by rw [hb, e])
  · rcases hat with h | h
    · exact h2 b (by rw [← h]; exact hb')
    · intro hA; have := h b hb'; have := h3 b hA; omega
  · have := h3 b hb'; have := hb.size; simp [World.setCell]; omega
  · rw [Below.heap_setCell _ _ _ _ (by intro e; simp at e; subst e; exact h1 hb')]
    exact hs b ⟨h3 b hb', fun e => h2 b e hb'⟩

theorem same_alloc1 {w w1 : World} {o : Obj} {v : Value} (h : Same (fun b => b < (w.alloc o).heap.size ∧ v.ownBlock ≠ some b) (w.alloc o) w1) : Same (fun b => b < w.heap.size ∧ v.ownBlock ≠ some b) w w1 :=
  fun b hb => (h b ⟨by simp; omega, hb.2⟩).trans (Below.heap_alloc w o b hb.1)

theorem at_alloc1 {w : World} {o : Obj} {v v1 : Value} (h : v1.ownBlock = v.ownBlock ∨ v1.ownBlock = some (w.alloc o).heap.size) : v1.ownBlock = v.ownBlock ∨ ∀ b, v1.ownBlock = some b → w.heap.size ≤ b := by
  rcases h with h | h
  · exact Or.inl h
  · refine Or.inr fun b hb => ?_
    rw [h] at hb
    simp at hb
    omega

set_option maxRecDepth 100000 in
set_option maxHeartbeats 1000000 in
theorem open_calls (w : World) (B g : Nat) (A : Nat → Prop) (bs : List Int) (t : Int) (h : TextAt w B g A bs) (hl : bs.length ≤ 70368744177664) :
    Calls Tryz.prog 130 #[.pointer (some ⟨g, 0, none⟩), .int .u8 t] w fun e w' => e = .returned (.tuple #[]) ∧ Wrote w w' B g A (bs ++ [t]) := by
  obtain ⟨a, cap, hg, hB, hown, hne, k1, k2, k3⟩ := h
  obtain ⟨hc, hfz, hgl⟩ := cell_one hg
  go_enter Tryz.func130, Tryz.ntmps130
  go_wp2_with (at_builtin; refine wpList_app1 (α := Int) rfl _ _ 55 rfl B 5 byteCs Tryz.underlying55 Tryz.info5 rfl (by decide) byteCs_size byteCs_one (.slice a bs.length cap) bs rfl (OwnR.below hown ((Below.refl _ _).alloc (Nat.le_refl _) _) (Nat.le_refl _)) _ rfl t ((rng_alloc_at _ _ _ _ _ _ _ rfl).trans rfl) (by omega) (by unfold maxLen; omega) (by simp; omega) ?_; intro v1 w1 hown1 hsame1 hbel1 hat1; have hs1 := same_alloc1 hsame1; obtain ⟨hc1, hfz1, -⟩ := cell_one ((hs1 g ⟨hgl, hne⟩).trans hg); obtain ⟨a1, cap1, rfl⟩ := hown1.form; simp only [List.length_append, List.length_cons, List.length_nil, Nat.zero_add] at hown1 hat1 ⊢)
  go_end0
  exact ⟨rfl, text_store hg hB hne k1 k2 k3 hown1 (((Below.refl _ _).alloc (by omega) _).trans hbel1) hs1 (at_alloc1 hat1)⟩

set_option maxRecDepth 100000 in
set_option maxHeartbeats 1000000 in
theorem close_calls (w : World) (B g : Nat) (A : Nat → Prop) (bs : List Int) (h : TextAt w B g A bs) (hl : bs.length ≤ 70368744177664) :
    Calls Tryz.prog 133 #[.pointer (some ⟨g, 0, none⟩)] w fun e w' => e = .returned (.tuple #[]) ∧ Wrote w w' B g A (bs ++ [10]) := by
  obtain ⟨a, cap, hg, hB, hown, hne, k1, k2, k3⟩ := h
  obtain ⟨hc, hfz, hgl⟩ := cell_one hg
  go_enter Tryz.func133, Tryz.ntmps133
  go_wp2_with (at_builtin; refine wpList_app1 (α := Int) rfl _ _ 55 rfl B 5 byteCs Tryz.underlying55 Tryz.info5 rfl (by decide) byteCs_size byteCs_one (.slice a bs.length cap) bs rfl (OwnR.below hown ((Below.refl _ _).alloc (Nat.le_refl _) _) (Nat.le_refl _)) _ rfl 10 ((rng_alloc_at _ _ _ _ _ _ _ rfl).trans rfl) (by omega) (by unfold maxLen; omega) (by simp; omega) ?_; intro v1 w1 hown1 hsame1 hbel1 hat1; have hs1 := same_alloc1 hsame1; obtain ⟨hc1, hfz1, -⟩ := cell_one ((hs1 g ⟨hgl, hne⟩).trans hg); obtain ⟨a1, cap1, rfl⟩ := hown1.form; simp only [List.length_append, List.length_cons, List.length_nil, Nat.zero_add] at hown1 hat1 ⊢)
  go_end0
  exact ⟨rfl, text_store hg hB hne k1 k2 k3 hown1 (((Below.refl _ _).alloc (by omega) _).trans hbel1) hs1 (at_alloc1 hat1)⟩

set_option maxRecDepth 100000 in
set_option maxHeartbeats 1000000 in
theorem letter_calls (w : World) (B g : Nat) (A : Nat → Prop) (bs : List Int) (t : Int) (h : TextAt w B g A bs) (hl : bs.length ≤ 70368744177664) :
    Calls Tryz.prog 131 #[.pointer (some ⟨g, 0, none⟩), .int .u8 t] w fun e w' => e = .returned (.tuple #[]) ∧ Wrote w w' B g A (bs ++ [124, t]) := by
  obtain ⟨a, cap, hg, hB, hown, hne, k1, k2, k3⟩ := h
  obtain ⟨hc, hfz, hgl⟩ := cell_one hg
  go_enter Tryz.func131, Tryz.ntmps131
  go_wp2_with (at_builtin; refine wpList_appN (α := Int) rfl _ _ 55 rfl B 5 byteCs Tryz.underlying55 Tryz.info5 rfl (by decide) byteCs_size byteCs_one (.slice a bs.length cap) bs rfl (OwnR.below hown ((Below.refl _ _).alloc (Nat.le_refl _) _) (Nat.le_refl _)) (some ⟨w.heap.size, 0, none⟩) 2 2 rfl [124, t] rfl (fun h => by cases h) (fun _ => ⟨_, _, rfl, fun i hi => by
    have h2 : i < 2 := hi
    rcases (show i = 0 ∨ i = 1 by omega) with rfl | rfl <;> exact (rng_alloc_at _ _ _ _ _ _ _ rfl).trans rfl⟩) (by omega) (by unfold maxLen; omega) (by simp; omega) ?_; intro v1 w1 hown1 hsame1 hbel1 hat1; have hs1 := same_alloc1 hsame1; obtain ⟨hc1, hfz1, -⟩ := cell_one ((hs1 g ⟨hgl, hne⟩).trans hg); obtain ⟨a1, cap1, rfl⟩ := hown1.form; simp only [List.length_append, List.length_cons, List.length_nil, Nat.zero_add] at hown1 hat1 ⊢)
  go_end0
  exact ⟨rfl, text_store hg hB hne k1 k2 k3 hown1 (((Below.refl _ _).alloc (by omega) _).trans hbel1) hs1 (at_alloc1 hat1)⟩

set_option maxRecDepth 100000 in
set_option maxHeartbeats 1000000 in
theorem number_calls (w : World) (B g : Nat) (A : Nat → Prop) (bs : List Int) (x : Int) (h : TextAt w B g A bs) (hl : bs.length ≤ 35184372088832) (h1 : -9223372036854775808 ≤ x) (h2 : x ≤ 9223372036854775807) :
    Calls Tryz.prog 132 #[.pointer (some ⟨g, 0, none⟩), .int .i64 x] w fun e w' => e = .returned (.tuple #[]) ∧ Wrote w w' B g A (bs ++ 124 :: dec x) := by
  obtain ⟨a, cap, hg, hB, hown, hne, k1, k2, k3⟩ := h
  obtain ⟨hc, hfz, hgl⟩ := cell_one hg
  go_enter Tryz.func132, Tryz.ntmps132
  go_upto_region 1 with (at_builtin; refine wpList_app1 (α := Int) rfl _ _ 55 rfl B 5 byteCs Tryz.underlying55 Tryz.info5 rfl (by decide) byteCs_size byteCs_one (.slice a bs.length cap) bs rfl (OwnR.below hown ((Below.refl _ _).alloc (Nat.le_refl _) _) (Nat.le_refl _)) _ rfl 124 ((rng_alloc_at _ _ _ _ _ _ _ rfl).trans rfl) (by omega) (by unfold maxLen; omega) (by simp; omega) ?_; intro v1 w1 hown1 hsame1 hbel1 hat1; have hs1 := same_alloc1 hsame1; obtain ⟨hc1, hfz1, -⟩ := cell_one ((hs1 g ⟨hgl, hne⟩).trans hg); obtain ⟨a1, cap1, rfl⟩ := hown1.form; simp only [List.length_append, List.length_cons, List.length_nil, Nat.zero_add] at hown1 hat1 ⊢)
  have hW := text_store hg hB hne k1 k2 k3 hown1 (((Below.refl _ _).alloc (by omega) _).trans hbel1) hs1 (at_alloc1 hat1)
  clear hc hfz hc1 hfz1 hs1 hown hown1 hsame1 hat1 hg hgl hne hbel1 k1 k2 k3
  generalize w1.setCell ⟨g, 0, none⟩ (.slice a1 (bs.length + 1) cap1) = W1 at *
  obtain ⟨a2, cap2, hg2, -, hown2, hne2, k1, k2, k3⟩ := hW.text
  simp only [List.length_append, List.length_cons, List.length_nil, Nat.zero_add] at hg2 hown2 hne2 k2
  obtain ⟨hc2, hfz2, hgl2⟩ := cell_one hg2
  go_wp2_with (go_at_call 47; refine (appendInt_calls _ B _ (bs ++ [124]) x hown2 (by omega) (by simp; omega) h1 h2).mono ?_; rintro e w3 ⟨v3, rfl, hown3, hs3, hbel3, hat3⟩; obtain ⟨hc3, hfz3, -⟩ := cell_one ((hs3 g ⟨hgl2, hne2⟩).trans hg2); obtain ⟨a3, cap3, hv3⟩ := hown3.form; generalize (bs ++ [124] ++ dec x).length = L3 at hv3; subst hv3)
  go_end0
  refine ⟨rfl, hW.trans ?_⟩
  have := text_store hg2 hB hne2 k1 k2 k3 hown3 hbel3 hs3 hat3
  simpa using this

theorem id_calls (w : World) (B g : Nat) (A : Nat → Prop) (bs : List Int) (x : Int) (h : TextAt w B g A bs) (hl : bs.length ≤ 35184372088832) (h1 : 0 ≤ x) (h2 : x ≤ 4294967295) :
    Calls Tryz.prog 135 #[.pointer (some ⟨g, 0, none⟩), .int .u32 x] w fun e w' => e = .returned (.tuple #[]) ∧ Wrote w w' B g A (bs ++ 124 :: dec x) := by
  go_enter Tryz.func135, Tryz.ntmps135
  go_wp2_with (go_at_call 132; refine (number_calls _ B g A bs x h hl (by omega) (by omega)).mono ?_; rintro e w1 ⟨rfl, hT⟩)
  go_end0
  exact ⟨rfl, hT⟩

end Go.Proofs.Qxb6500666aGreatDoor
