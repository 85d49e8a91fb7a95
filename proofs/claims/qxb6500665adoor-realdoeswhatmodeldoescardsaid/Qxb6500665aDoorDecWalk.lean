/- What is read back: lists of numbers, subjects, panels. -/
import Derived.Test.Qxb6500665aDoorReadWalk
import Derived.Test.Qxb6500665aDoorStructs
import Derived.Test.Qxb6500665aDoorEncWalk
namespace Go.Proofs.Qxb6500665aDoor
open Go.RowKit

theorem kept_read {w w' : World} {g : Nat} {v' : Value} (h : w.setCell ⟨g, 0, none⟩ v' = w') : Kept w w' g ∧ w'.heap.size = w.heap.size := by
  subst h
  exact ⟨⟨(Below.refl _ _).setCell (p := ⟨g, 0, none⟩) (Nat.le_refl _) _, fun b hb => Below.heap_setCell _ _ _ _ hb.2⟩, by simp [World.setCell]⟩

theorem BytesAt.kept {w w' : World} {g : Nat} {ok : Nat → Prop} {v : Value} {bs : List Int} (h : BytesAt w ok v bs) (hk : Kept w w' g) (hok : ∀ b, ok b → b ≠ g) : BytesAt w' ok v bs :=
  (RArr.lt h).mono (fun b hb => hk.same b ⟨hb.2, hok b hb.1⟩) (fun _ hb => hb.1)

theorem BytesAt.form' {w : World} {ok : Nat → Prop} {v : Value} {xs : List Int} (h : BytesAt w ok v xs) : ∃ a n cap, v = .slice a n cap ∧ n = xs.length := by
  obtain ⟨a, cap, b, off, rfl, -⟩ := h.parts _ rfl
  exact ⟨_, _, _, rfl, rfl⟩

set_option maxRecDepth 100000 in
theorem newReader_calls (w : World) (a : Option Addr) (n c : Nat) :
    Calls Tryd.prog 82 #[.slice a n c] w fun e w' => e = .returned (.pointer (some ⟨w.heap.size, 0, none⟩)) ∧ w.alloc (.cells #[.slice a n c, .bool false] 182) = w' := by
  go_enter Tryd.func82, Tryd.ntmps82
  go_wp2
  go_ret
  exact ⟨rfl, rfl⟩

set_option maxRecDepth 100000 in
theorem done_calls (w : World) (g : Nat) (v : Value) (ok : Nat → Prop) (hR : ReaderAt w g v false) (hB : BytesAt w ok v []) :
    Calls Tryd.prog 84 #[.pointer (some ⟨g, 0, none⟩)] w fun e w' => e = .returned .nilIface ∧ w = w' := by
  obtain ⟨a, n, c, rfl, hn⟩ := hB.form'
  simp only [List.length_nil] at hn
  subst hn
  obtain ⟨r0, r1, -, -⟩ := cell_two hR
  go_enter Tryd.func84, Tryd.ntmps84
  go_wp2
  go_ret
  exact ⟨rfl, rfl⟩

/-- The rule of one owned block. -/
theorem OwnR.rowsAt {α : Type} {w : World} {base : Nat} {e : TypeId} {size : Nat} {f : α → Array Value} {v : Value} {xs : List α} (h : OwnR w base e size f v xs) (hf : ∀ x, (f x).size = size) (hp : 0 < size) (hl : xs.length ≤ 140737488355328) : RArr w (fun b => v.ownBlock = some b) size f v xs := by
  have h1 := h.rows hf hp hl
  obtain ⟨a, cap, b, off, rfl, k1, k2, k3, k4, k5⟩ := h1
  refine ⟨a, cap, b, off, rfl, k1, k2, k3, fun hp' => ⟨(k4 hp').1, ?_⟩, k5⟩
  rcases h.2 with ⟨h2, h3⟩ | ⟨g, cap', cur, h2, hg, hh, _⟩
  · rw [(k4 hp').1] at h2; cases h2
  · have h4 := (k4 hp').1
    subst h4
    injection h2 with h5 h6 h7
    injection h5 with h5
    injection h5 with h5 h6
    subst h5
    subst h6
    rfl

set_option maxRecDepth 100000 in
set_option maxHeartbeats 1000000 in
theorem readIDs_calls (w : World) (g : Nat) (v : Value) (ok : Nat → Prop) (ids rest : List Int) (most : Nat) (hR : ReaderAt w g v false) (hB : BytesAt w ok v (idsB ids ++ rest)) (hok : ∀ b, ok b → b ≠ g) (hokl : ∀ b, ok b → b < w.heap.size) (hr : ∀ x ∈ ids, U32 x) (hn : ids.length ≤ most) (hm : most ≤ 255) :
    Calls Tryd.prog 89 #[.pointer (some ⟨g, 0, none⟩), .int .i64 most] w fun e w' => ∃ v' iv, e = .returned (.tuple #[iv, .bool true]) ∧ ReaderAt w' g v' false ∧ BytesAt w' ok v' rest ∧ OwnR w' w.heap.size 29 1 u32Cs iv ids ∧ Kept w w' g := by
  obtain ⟨n, hnn⟩ : ∃ n, ids.length = n := ⟨_, rfl⟩
  have Hn := hide hnn
  have HR := hide hr
  have HOK := hide hok
  have HOKL := hide hokl
  have hgl : g < w.heap.size := (cell_two hR).2.2.2
  rw [hnn] at hn
  have hB0 : BytesAt w ok v (d256 1 n ++ (idsT ids ++ rest)) := by simpa [idsB, hnn] using hB
  have hmn : decide (most < n) = false := decide_eq_false (by omega)
  clear hr hB hnn hokl
  go_enter Tryd.func89, Tryd.ntmps89
  go_upto_region 2 with (go_at_call 88; refine (rU8_calls _ g v ok n (idsT ids ++ rest) hR hB0 hok (by omega) (by omega)).mono ?_; rintro e w1 ⟨v1, rfl, hR1, hB1, hw1⟩)
  obtain ⟨hk1, hs1⟩ := kept_read hw1
  clear hw1 hB0 hok
  have HR1 := hide hR1
  have HB1 := hide hB1
  clear hR1 hB1
  go_wp2
  go_loopw [4, 7] (fun iv j wr => ∃ q : Nat, q ≤ n ∧ j = .int .i64 q ∧ Kept w wr g ∧ OwnR wr w.heap.size 29 1 u32Cs iv (ids.take q) ∧ Hid (∃ v', ReaderAt wr g v' false ∧ BytesAt wr ok v' (idsT (ids.drop q) ++ rest))) (fun _ j _ => n - (intOf j).toNat)
  case atStart => exact ⟨0, by omega, rfl, hk1, OwnR.nil _ _ _ _ _, ⟨v1, HR1.out, HB1.out⟩⟩
  case round =>
    obtain ⟨q, hq, rfl, hkept, hown, HV⟩ := hrel
    by_cases hlt : q < n
    · have h1 : q < ids.length := by rw [Hn.out]; exact hlt
      obtain ⟨v2, hR2, hB2⟩ := HV.out
      have hdr : idsT (ids.drop q) = d256 4 ids[q] ++ idsT (ids.drop (q + 1)) := by
        rw [List.drop_eq_getElem_cons h1]; rfl
      rw [hdr, List.append_assoc] at hB2
      obtain ⟨x1, x2⟩ := HR.out _ (List.getElem_mem h1)
      have HT := hide (List.take_succ_eq_append_getElem h1)
      generalize ids[q] = x at *
      have hLl : (ids.take q).length ≤ 255 := by have := Hn.out; simp; omega
      generalize ids.take q = L at *
      have hwle := hkept.below.size
      have hrd := rU32_calls wr g v2 ok x (idsT (ids.drop (q + 1)) ++ rest) hR2 hB2 HOK.out x1 x2
      clear hdr hR2 hB2
      go_wp2_with (first
        | (go_at_call 83; refine hrd.mono ?_; rintro e w2 ⟨v3, rfl, hR3, hB3, hw3⟩; obtain ⟨hk3, hs3⟩ := kept_read hw3; clear hw3)
        | (at_builtin; refine wpList_app1 (α := Int) rfl _ _ 31 rfl w.heap.size 29 u32Cs Tryd.underlying31 Tryd.info29 rfl (by decide) u32Cs_size u32Cs_one _ L rfl (hown.mono (fun b hb => by have hb1 := hown.block b hb; exact (Below.heap_alloc _ _ b (by omega)).trans (hk3.same b ⟨hb1.2, by omega⟩))) _ rfl x (by rw [rng_alloc_at _ _ _ _ _ _ _ (by simp [hs3])]; rfl) (by omega) (by unfold maxLen; omega) (by simp; omega) ?_; intro v' w' hown' hsame hbel' hat))
      go_roundw
      case measure => simp [intOf]; omega
      case rel =>
        have hu : ∀ b, u4.ownBlock = some b → w.heap.size ≤ b := fun b hb => (hown.block b hb).1
        have hsm : ∀ b, b < w.heap.size → w'.heap[b]? = w2.heap[b]? := fun b hb => (hsame b ⟨by simp; omega, fun e => by have := hu b e; omega⟩).trans (Below.heap_alloc _ _ b (by omega))
        have hk4 : Kept w w' g := by
          refine ⟨((hkept.trans hk3).below.alloc (by omega) _).trans (hbel'.mono (by omega)), fun b hb => (hsm b hb.1).trans ((hkept.trans hk3).same b hb)⟩
        refine ⟨q + 1, by omega, by go_num, hk4, by rw [HT.out]; exact hown', v3, (hsm g hgl).trans hR3, ?_⟩
        exact BytesAt.mono hB3 (fun b hb => hsm b (HOKL.out b hb)) (fun _ h => h)
    · go_wp2
      go_ret2
      obtain ⟨v2, hR2, hB2⟩ := HV.out
      rw [List.drop_of_length_le (by have := Hn.out; omega)] at hB2
      rw [List.take_of_length_le (by have := Hn.out; omega)] at hown
      exact ⟨v2, _, rfl, hR2, hB2, hown, hkept⟩

attribute [local go_sem ↓] exec_stSubject exec_stPanel
attribute [local go_sem] run_stSubject run_stPanel ones_iii ones_is whole_alloc_lt whole_alloc_at whole_drew whole_setCell_other whole_setRow_other setRow_alloc_at setRow_alloc_lt

/-- Behind the result's block and the reader's. -/
theorem reader_start (w : World) (z : Array Value) (T : TypeId) (ok : Nat → Prop) (a : Option Addr) (n cap : Nat) (bs : List Int) (hB : BytesAt w ok (.slice a n cap) bs) :
    ∃ w1, Hid (w1 = (w.alloc (.cells z T)).alloc (.cells #[.slice a n cap, .bool false] 182)) ∧ Below w.heap.size w w1 ∧ w1.heap.size = w.heap.size + 2 ∧ ReaderAt w1 (w.heap.size + 1) (.slice a n cap) false ∧ BytesAt w1 (fun b => ok b ∧ b < w.heap.size) (.slice a n cap) bs ∧ w1.heap[w.heap.size]? = some (.cells z T (0, 0)) := by
  have hb1 : Below w.heap.size w ((w.alloc (.cells z T)).alloc (.cells #[.slice a n cap, .bool false] 182)) := ((Below.refl _ _).alloc (Nat.le_refl _) _).alloc (by simp) _
  refine ⟨_, rfl, hb1, by simp, ?_, BytesAt.below (RArr.lt hB) hb1, ?_⟩
  · have := heap_alloc_at (w.alloc (.cells z T)) (.cells #[.slice a n cap, .bool false] 182)
    simpa [ReaderAt] using this
  · rw [Below.heap_alloc _ _ _ (by simp), heap_alloc_at]

theorem ReaderAt.alloc {w : World} {g : Nat} {v : Value} {s : Bool} (h : ReaderAt w g v s) (o : Obj) : ReaderAt (w.alloc o) g v s :=
  (Below.heap_alloc w o g (cell_two h).2.2.2).trans h

theorem BytesAt.alloc {w : World} {ok : Nat → Prop} {v : Value} {bs : List Int} (h : BytesAt w ok v bs) (o : Obj) : BytesAt (w.alloc o) ok v bs := h.below ((Below.refl _ _).alloc (Nat.le_refl _) _)

set_option maxRecDepth 100000 in
set_option maxHeartbeats 1000000 in
theorem decodeSubject_calls (w : World) (id site anchor : Int) (v : Value) (ok : Nat → Prop) (hB : BytesAt w ok v (subB site anchor)) (h1 : U32 site) (h2 : I64 anchor) :
    Calls Tryd.prog 66 #[.int .u32 id, v] w fun e w' => e = .returned (.tuple #[.agg #[.int .u32 id, .int .u32 site, .int .i64 anchor], .nilIface]) ∧ Below w.heap.size w w' := by
  obtain ⟨a1, a2⟩ := h1
  obtain ⟨b1, b2⟩ := h2
  obtain ⟨a, n, cap, rfl, hn⟩ := hB.form'
  obtain ⟨w1, HW1, hb1, hsz1, hR1, hB1, hG⟩ := reader_start w #[.int .u32 0, .int .u32 0, .int .i64 0] 45 ok a n cap _ hB
  have hB1' : BytesAt w1 (fun b => ok b ∧ b < w.heap.size) (.slice a n cap) (d256 4 site ++ (d256 8 (anchor + 9223372036854775808) ++ [])) := by simpa [subB] using hB1
  clear hB hn hB1
  go_enter Tryd.func66, Tryd.ntmps66
  go_upto_region 2 with (go_at_call 82; refine (newReader_calls _ a n cap).mono ?_; rintro e w2 ⟨rfl, rfl⟩; rw [← HW1.out])
  go_upto_region 3 with (first
    | (go_at_call 83; refine (rU32_calls _ _ _ _ site _ hR1 hB1' (fun b hb => by have := hb.2; omega) a1 a2).mono ?_; rintro e w2 ⟨v2, rfl, hR2, hB2, hw2⟩; obtain ⟨hk2, hs2⟩ := kept_read hw2; clear hw2)
    | (go_at_call 87; refine (rI64_calls _ _ _ _ anchor _ hR2 hB2 (fun b hb => by have := hb.2; omega) b1 b2).mono ?_; rintro e w3 ⟨v3, rfl, hR3, hB3, hw3⟩; obtain ⟨hk3, hs3⟩ := kept_read hw3; clear hw3; have hs4 : w3.heap.size = w.heap.size + 2 := (by omega); have HS2 := hide hs2; clear hs3 hs2))
  have hG3 : w3.heap[w.heap.size]? = some (.cells #[.int .u32 0, .int .u32 0, .int .i64 0] 45 (0, 0)) := by
    rw [hk3.same _ ⟨by have := HS2.out; omega, by omega⟩, hk2.same _ ⟨by omega, by omega⟩, hG]
  have hG4 : (w3.alloc (.cells #[.int .u32 id, .int .u32 site, .int .i64 anchor] 45)).heap[w.heap.size]? = some (.cells #[.int .u32 0, .int .u32 0, .int .i64 0] 45 (0, 0)) := (Below.heap_alloc _ _ _ (by omega)).trans hG3
  have hwh := whole_of_heap hG4
  simp only [List.size_toArray, List.length_cons, List.length_nil] at hwh
  have HRB : Hid (ReaderAt (w3.alloc (.cells #[.int .u32 id, .int .u32 site, .int .i64 anchor] 45)) (w.heap.size + 1) v3 false ∧ BytesAt (w3.alloc (.cells #[.int .u32 id, .int .u32 site, .int .i64 anchor] 45)) (fun b => ok b ∧ b < w.heap.size) v3 []) := ⟨hR3.alloc _, hB3.alloc _⟩
  go_wp2_with (go_at_call 84; refine (done_calls _ _ _ _ HRB.out.1 HRB.out.2).mono ?_; rintro e w4 ⟨rfl, rfl⟩)
  have hfin : ((w3.setRow w.heap.size #[.int .u32 id, .int .u32 site, .int .i64 anchor]).alloc (.cells #[.int .u32 id, .int .u32 site, .int .i64 anchor] 45)).heap[w.heap.size]? = some (.cells #[.int .u32 id, .int .u32 site, .int .i64 anchor] 45 (0, 0)) := (Below.heap_alloc _ _ _ (by simp; omega)).trans (heap_setRow_at hG3)
  refine bodyPost_ret (results_cell_tmp Tryd.results66 _ _ w.heap.size _ _ _ _ rfl hfin Tryd.underlying45 rfl (by kernel_rfl)) rfl ?_
  exact ⟨rfl, ((hb1.trans ((hk2.below.trans hk3.below).mono (by omega))).trans (below_setRow' _ _ (Nat.le_refl _))).alloc (by simp; omega) _⟩

set_option maxRecDepth 100000 in
set_option maxHeartbeats 1000000 in
theorem decodePanel_calls (w : World) (id : Int) (v : Value) (ok : Nat → Prop) (ids : List Int) (hB : BytesAt w ok v (idsB ids)) (hr : ∀ x ∈ ids, U32 x) (hn : ids.length ≤ 8) :
    Calls Tryd.prog 65 #[.int .u32 id, v] w fun e w' => ∃ iv, e = .returned (.tuple #[.agg #[.int .u32 id, iv], .nilIface]) ∧ OwnR w' w.heap.size 29 1 u32Cs iv ids ∧ Below w.heap.size w w' := by
  obtain ⟨a, n, cap, rfl, -⟩ := hB.form'
  obtain ⟨w1, HW1, hb1, hsz1, hR1, hB1, hG⟩ := reader_start w #[.int .u32 0, .slice none 0 0] 78 ok a n cap _ hB
  have hB1' : BytesAt w1 (fun b => ok b ∧ b < w.heap.size) (.slice a n cap) (idsB ids ++ []) := by simpa using hB1
  clear hB hB1
  go_enter Tryd.func65, Tryd.ntmps65
  go_upto_region 2 with (go_at_call 82; refine (newReader_calls _ a n cap).mono ?_; rintro e w2 ⟨rfl, rfl⟩; rw [← HW1.out])
  go_upto_region 3 with (go_at_call 89; refine (readIDs_calls _ _ _ _ ids _ 8 hR1 hB1' (fun b hb => by have := hb.2; omega) (fun b hb => by have := hb.2; omega) hr hn (by decide)).mono ?_; rintro e w2 ⟨v2, iv, rfl, hR2, hB2, hown, hk2⟩)
  have hs2 := hk2.below.size
  have hG2 : w2.heap[w.heap.size]? = some (.cells #[.int .u32 0, .slice none 0 0] 78 (0, 0)) := by
    rw [hk2.same _ ⟨by omega, by omega⟩, hG]
  have hwh := whole_of_heap hG2
  simp only [List.size_toArray, List.length_cons, List.length_nil] at hwh
  have HO := hide hown
  obtain ⟨ia, icap, hiv⟩ := hown.form
  generalize hL : ids.length = L at hiv
  subst hiv
  clear hown
  go_wp2_with (go_at_call 84; refine (done_calls _ _ _ _ hR2 hB2).mono ?_; rintro e w4 ⟨rfl, rfl⟩)
  have hfin := heap_setRow_at (ds := #[.int .u32 id, .slice ia L icap]) hG2
  refine bodyPost_ret (results_cell_tmp Tryd.results65 _ _ w.heap.size _ _ _ _ rfl hfin Tryd.underlying78 rfl (by kernel_rfl)) rfl ?_
  refine ⟨_, rfl, (HO.out.mono (fun b hb => setRow_other _ _ _ _ ?_)).lower (by omega), (hb1.trans (hk2.below.mono (by omega))).trans (below_setRow' _ _ (Nat.le_refl _))⟩
  have := (HO.out.block b hb).1
  omega

end Go.Proofs.Qxb6500665aDoor
