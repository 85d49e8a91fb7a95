/- What is written: lists of numbers, the records. -/
import Derived.Test.Qxb6500665aDoorKeyWalk
import Derived.Test.Qxb6500665aDoorData
namespace Go.Proofs.Qxb6500665aDoor
open Go.RowKit

def u32Cs (x : Int) : Array Value := #[.int .u32 x]
theorem u32Cs_size (b : Int) : (u32Cs b).size = 1 := rfl
theorem u32Cs_one (b : Int) : ∀ u ∈ (u32Cs b).toList, u.oneCell' = true := by simp [u32Cs, Value.oneCell']
theorem Tryd.info29 : (Tryd.prog.info? 29).map (fun i => (i.zero, i.size, i.bytes)) = some (some (.int .u32 0), 1, 4) := by kernel_rfl

/-- A slice of uint32. -/
def U32sAt (w : World) (ok : Nat → Prop) (v : Value) (xs : List Int) : Prop := RArr w ok 1 u32Cs v xs

theorem U32sAt.of_arr {w : World} {ok : Nat → Prop} {v : Value} {xs : List Int} (h : Arr w ok 1 EU32 v xs) : U32sAt w ok v xs ∧ ∀ x ∈ xs, U32 x := by
  refine ⟨RArr.of_arr h (by decide) (fun cs x _ hE => by rw [hE.1]; rfl), fun x hx => ?_⟩
  obtain ⟨a, cap, b, off, h1, h2, h3, h4, h5, h6⟩ := h
  obtain ⟨i, hi, rfl⟩ := List.getElem_of_mem hx
  obtain ⟨cs, -, hE, -⟩ := h6 i hi
  exact hE.2

theorem U32sAt.parts {w : World} {ok : Nat → Prop} {v : Value} {xs : List Int} (h : U32sAt w ok v xs) (n : Nat) (hn : xs.length = n) :
    ∃ a cap b off, v = .slice a n cap ∧ n ≤ 140737488355328 ∧ n ≤ cap ∧ cap ≤ maxLen ∧ (a = none → cap = 0) ∧ (0 < n → a = some ⟨b, off, none⟩ ∧ ok b ∧ b < w.heap.size) ∧ ∀ i (h : i < xs.length), w.cell? ⟨b, off + i, none⟩ = some (.int .u32 xs[i]) := by
  obtain ⟨a, cap, b, off, hv, hl, hm, hr, ha, hc⟩ := RArr.lt h
  subst hn
  refine ⟨a, cap, b, off, hv, hr, hl, hm.1, hm.2, fun hp => ⟨(ha hp).1, (ha hp).2⟩, fun i hi => ?_⟩
  have := (rng_cell (hc i hi)).2 0 (by decide)
  simpa [u32Cs] using this

theorem U32sAt.mono {w w' : World} {ok ok' : Nat → Prop} {v : Value} {xs : List Int} (h : U32sAt w ok v xs) (hs : Same ok w w') (hk : ∀ b, ok b → ok' b) : U32sAt w' ok' v xs := RArr.mono h hs hk
theorem U32sAt.below {w w' : World} {ok : Nat → Prop} {v : Value} {xs : List Int} (h : U32sAt w ok v xs) (hb : Below w.heap.size w w') : U32sAt w' ok v xs := RArr.below h hb
theorem U32sAt.form {w : World} {ok : Nat → Prop} {v : Value} {xs : List Int} (h : U32sAt w ok v xs) : ∃ a cap, v = .slice a xs.length cap := by
  obtain ⟨a, cap, b, off, rfl, -⟩ := h.parts _ rfl
  exact ⟨_, _, rfl⟩

/-- A counted list, written. -/
def idsT (ids : List Int) : List Int := ids.flatMap (d256 4)
def idsB (ids : List Int) : List Int := d256 1 ids.length ++ idsT ids
theorem idsT_len (ids : List Int) : (idsT ids).length = 4 * ids.length := by
  induction ids with
  | nil => rfl
  | cons x r ih =>
    have h1 : idsT (x :: r) = d256 4 x ++ idsT r := rfl
    rw [h1, List.length_append, d256_len, ih, List.length_cons]; omega
theorem idsT_append (a b : List Int) : idsT (a ++ b) = idsT a ++ idsT b := by
  induction a with
  | nil => rfl
  | cons x r ih =>
    have h1 : idsT (x :: r ++ b) = d256 4 x ++ idsT (r ++ b) := rfl
    have h2 : idsT (x :: r) = d256 4 x ++ idsT r := rfl
    rw [h1, h2, ih, List.append_assoc]
theorem idsT_take {ids : List Int} {q : Nat} (h : q < ids.length) : idsT (ids.take (q + 1)) = idsT (ids.take q) ++ d256 4 ids[q] := by
  rw [List.take_succ_eq_append_getElem h, idsT_append]
  exact congrArg _ (List.append_nil _)

theorem writer_new' (w : World) (k : Nat) (h : w.heap.size = k) : WriterAt (w.alloc (.cells #[.slice none 0 0] 159)) k k (fun _ => False) [] := by subst h; exact writer_new w

theorem WriterAt.size {w : World} {B g : Nat} {A : Nat → Prop} {bs : List Int} (h : WriterAt w B g A bs) : g < w.heap.size ∧ B ≤ g := by
  obtain ⟨a, cap, hg, hB, -⟩ := h; exact ⟨(cell_one hg).2.2, hB⟩

/-- A new block is none of the writer's. -/
theorem WriterAt.more {w : World} {B g : Nat} {A : Nat → Prop} {bs : List Int} (h : WriterAt w B g A bs) (o : Obj) : WriterAt (w.alloc o) B g (· = w.heap.size) bs := by
  obtain ⟨a, cap, hg, hB, hown, hne, k1, k2, k3⟩ := h
  have hgl := (cell_one hg).2.2
  refine ⟨a, cap, (Below.heap_alloc w o g hgl).trans hg, hB, hown.mono (fun b hb => Below.heap_alloc w o b (hown.block b hb).2), hne, by simp; omega, fun b hb => ?_, fun b hb => by subst hb; simp⟩
  have := (hown.block b hb).2
  simp; omega

set_option maxRecDepth 100000 in
set_option maxHeartbeats 1000000 in
theorem writeIDs_calls (w : World) (B g : Nat) (A ok : Nat → Prop) (bs ids : List Int) (iv : Value) (h : WriterAt w B g A bs) (hid : U32sAt w ok iv ids) (hok : ∀ b, ok b → b < B ∨ A b) (hr : ∀ x ∈ ids, U32 x) (hn : ids.length ≤ 255) (hl : bs.length ≤ 1000000) :
    Calls Tryd.prog 81 #[.pointer (some ⟨g, 0, none⟩), iv] w fun e w' => e = .returned (.tuple #[]) ∧ Wrote w w' B g A (bs ++ idsB ids) := by
  obtain ⟨n, hnn⟩ : ∃ n, ids.length = n := ⟨_, rfl⟩
  obtain ⟨a, cap, b, off, rfl, r1, r2, r3, r4, ha, hc⟩ := hid.parts n hnn
  have hi := run_indexAt_arr (P := Tryd.prog) (n := n) (cap := cap) Tryd.underlying31 Tryd.size29 (fun h => (ha h).1)
  have HOK : Hid (0 < n → b < B ∨ A b) := fun h => hok b (ha h).2.1
  have HC := hide hc
  have HR := hide hr
  have Hn := hide hnn
  rw [hnn] at hn
  clear ha hc hr hok hnn
  go_enter Tryd.func81, Tryd.ntmps81
  go_upto_region 1 with (go_at_call 77; refine (wU8_calls _ B g A bs n h (by omega) (by omega) (by omega)).mono ?_; rintro e w1 ⟨rfl, hW1⟩)
  go_wp2
  go_loopw [13] (fun j wr => ∃ q : Nat, q ≤ n ∧ j = .int .i64 q ∧ Wrote w wr B g A (bs ++ d256 1 n ++ idsT (ids.take q))) (fun j _ => n - (intOf j).toNat)
  case atStart => exact ⟨0, by omega, rfl, by simpa [idsT] using hW1⟩
  case round =>
    obtain ⟨q, hq, rfl, hW⟩ := hrel
    by_cases hlt : q < n
    · have h1 : q < ids.length := by rw [Hn.out]; exact hlt
      have c0 := HC.out q h1
      have hb1 : wr.cell? ⟨b, off + q, none⟩ = some (.int .u32 ids[q]) := by
        rw [← c0]
        rcases HOK.out (by omega) with h | h
        · exact hW.below.cell (p := ⟨b, off + q, none⟩) h
        · exact hW.same.cell h
      obtain ⟨x1, x2⟩ := HR.out _ (List.getElem_mem h1)
      have HT := hide (idsT_take h1)
      have hlen : (bs ++ d256 1 n ++ idsT (ids.take q)).length ≤ 70368744177664 := by
        simp only [List.length_append, d256_len, idsT_len, List.length_take]; omega
      generalize ids[q] = x at *
      clear c0
      go_wp2_with (go_at_call 78; refine (wU32_calls _ B g A _ x hW.text hlen x1 x2).mono ?_; rintro e w2 ⟨rfl, hW2⟩)
      go_roundw
      case measure => simp [intOf]; omega
      case rel =>
        refine ⟨q + 1, by omega, by go_num, ?_⟩
        rw [HT.out]
        have := hW.trans hW2
        simpa [List.append_assoc] using this
    · go_wp2
      go_end0
      refine ⟨rfl, ?_⟩
      have hE : ids.take q = ids := List.take_of_length_le (by have := Hn.out; omega)
      rw [hE] at hW
      have := Hn.out
      simpa [idsB, this, List.append_assoc] using hW

/-- What an encoder hands back. -/
def Enc (w w' : World) (e : Ending) (bs : List Int) : Prop := ∃ v, e = .returned v ∧ OwnR w' w.heap.size 5 1 byteCs v bs ∧ Below w.heap.size w w'

theorem OwnR.lower {α : Type} {w : World} {base base' : Nat} {e : TypeId} {size : Nat} {f : α → Array Value} {v : Value} {xs : List α} (h : OwnR w base e size f v xs) (hb : base' ≤ base) : OwnR w base' e size f v xs := by
  obtain ⟨h1, h2⟩ := h
  refine ⟨h1, ?_⟩
  rcases h2 with h2 | ⟨g, cap, cur, h3, h4, h5⟩
  · exact Or.inl h2
  · exact Or.inr ⟨g, cap, cur, h3, Nat.le_trans hb h4, h5⟩

def subB (site anchor : Int) : List Int := d256 4 site ++ d256 8 (anchor + 9223372036854775808)
def headB (n : Int) : List Int := d256 4 n
def anaB (l0 l1 l2 : Int) : List Int := d256 8 (l0 + 9223372036854775808) ++ d256 8 (l1 + 9223372036854775808) ++ d256 8 (l2 + 9223372036854775808)

set_option maxRecDepth 100000 in
set_option maxHeartbeats 1000000 in
theorem encodeSubject_calls (w : World) (id site anchor : Int) (h1 : U32 site) (h2 : I64 anchor) :
    Calls Tryd.prog 60 #[.agg #[.int .u32 id, .int .u32 site, .int .i64 anchor]] w fun e w' => Enc w w' e (subB site anchor) := by
  obtain ⟨a1, a2⟩ := h1
  obtain ⟨b1, b2⟩ := h2
  have hW0 := writer_new' (w.alloc (.cells #[.int .u32 id, .int .u32 site, .int .i64 anchor] 45)) (w.heap.size + 1) (by simp)
  have hb0 : Below w.heap.size w ((w.alloc (.cells #[.int .u32 id, .int .u32 site, .int .i64 anchor] 45)).alloc (.cells #[.slice none 0 0] 159)) := ((Below.refl _ _).alloc (Nat.le_refl _) _).alloc (by simp) _
  go_enter Tryd.func60, Tryd.ntmps60
  go_upto_region 3 with (go_at_call 78; refine (wU32_calls _ _ _ _ [] site hW0 (by simp) a1 a2).mono ?_; rintro e w1 ⟨rfl, hW1⟩)
  have c2 : w1.cell? ⟨w.heap.size, 2, none⟩ = some (.int .i64 anchor) := (hW1.below.cell (p := ⟨w.heap.size, 2, none⟩) (by simp)).trans (by simp)
  go_upto_region 4 with (go_at_call 80; refine (wI64_calls _ _ _ _ _ anchor hW1.text (by simp [d256]) b1 b2).mono ?_; rintro e w2 ⟨rfl, hW2⟩)
  obtain ⟨a, cap, hg, -, hown, -⟩ := hW2.text
  go_wp2_with (go_at_call 79; refine (finish_calls _ _ _ hg).mono ?_; rintro e w3 ⟨rfl, rfl⟩)
  go_ret
  exact ⟨_, rfl, hown.lower (by omega), hb0.trans ((hW1.below.trans hW2.below).mono (by omega))⟩

set_option maxRecDepth 100000 in
set_option maxHeartbeats 1000000 in
theorem encodeHead_calls (w : World) (n : Int) (h1 : U32 n) :
    Calls Tryd.prog 59 #[.int .u32 n] w fun e w' => Enc w w' e (headB n) := by
  obtain ⟨a1, a2⟩ := h1
  have hW0 := writer_new w
  have hb0 : Below w.heap.size w (w.alloc (.cells #[.slice none 0 0] 159)) := (Below.refl _ _).alloc (Nat.le_refl _) _
  go_enter Tryd.func59, Tryd.ntmps59
  go_upto_region 3 with (go_at_call 78; refine (wU32_calls _ _ _ _ [] n hW0 (by simp) a1 a2).mono ?_; rintro e w1 ⟨rfl, hW1⟩)
  obtain ⟨a, cap, hg, -, hown, -⟩ := hW1.text
  go_wp2_with (go_at_call 79; refine (finish_calls _ _ _ hg).mono ?_; rintro e w3 ⟨rfl, rfl⟩)
  go_ret
  exact ⟨_, rfl, hown, hb0.trans hW1.below⟩

set_option maxRecDepth 100000 in
set_option maxHeartbeats 1000000 in
theorem encodePanel_calls (w : World) (id : Int) (ok : Nat → Prop) (iv : Value) (ids : List Int) (hid : U32sAt w ok iv ids) (hr : ∀ x ∈ ids, U32 x) (hn : ids.length ≤ 255) :
    Calls Tryd.prog 52 #[.agg #[.int .u32 id, iv]] w fun e w' => Enc w w' e (idsB ids) := by
  obtain ⟨ia, icap, rfl⟩ := hid.form
  generalize hL : ids.length = L at hid
  have hid2 := RArr.lt hid
  have hW0 := writer_new' (w.alloc (.cells #[.int .u32 id, .slice ia L icap] 78)) (w.heap.size + 1) (by simp)
  have hb0 : Below w.heap.size w ((w.alloc (.cells #[.int .u32 id, .slice ia L icap] 78)).alloc (.cells #[.slice none 0 0] 159)) := ((Below.refl _ _).alloc (Nat.le_refl _) _).alloc (by simp) _
  have HI := hide (RArr.below hid2 hb0)
  clear hid hid2
  go_enter Tryd.func52, Tryd.ntmps52
  go_upto_region 3 with (go_at_call 81; refine (writeIDs_calls _ _ _ _ _ [] ids _ hW0 HI.out (fun b hb => Or.inl (by have := hb.2; omega)) hr hn (by simp)).mono ?_; rintro e w1 ⟨rfl, hW1⟩)
  obtain ⟨a, cap, hg, -, hown, -⟩ := hW1.text
  go_wp2_with (go_at_call 79; refine (finish_calls _ _ _ hg).mono ?_; rintro e w3 ⟨rfl, rfl⟩)
  go_ret
  exact ⟨_, rfl, hown.lower (by omega), hb0.trans (hW1.below.mono (by omega))⟩

end Go.Proofs.Qxb6500665aDoor
