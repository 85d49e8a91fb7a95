/- The fields of a line, handed out. -/
import Derived.Test.Qxb6500666aGreatDoorNextWalk
namespace Go.Proofs.Qxb6500666aGreatDoor
open Go.RowKit
attribute [local go_sem ↓] exec_ldRow exec_ldChange exec_ldFile exec_stRow exec_stChange exec_stFile exec_bsRow exec_bsChange exec_slRows exec_bdChange exec_eqlRow exec_neqRow
attribute [local go_sem] run_ldRow run_ldChange run_ldFile run_stRow run_stChange run_stFile run_bsRow run_bsChange run_bdChange run_neqRow run_eqlRow rng_alloc_lt rng_alloc_at rng_drew rng_drewN rng_setCell_other rng_setRow_other whole_alloc_lt whole_alloc_at whole_drew whole_setCell_other whole_setRow_other setRow_alloc_at setRow_alloc_lt setRow_drew rowCs_size rowCs_ones rowCs_0 rowCs_1 rowCs_2 rowCs_3 rowCs_4 rowCs_5 rowCs_6 rowCs_7 rowCs_8 rowCs_9 rowCs_10 rowCs_11 rowCs_12 rowCs_all changeCs_size changeCs_ones changeCs_0 changeCs_row changeCs_all fileCs_size fileCs_ones fileCs_0 fileCs_1 fileCs_2 fileCs_3 fileCs_4 fileCs_all ext_const Ext.cell Ext.frozen Ext.rng Ext.whole

theorem Tryz.size55 (w : World) : (sizeOf 55).run Tryz.prog w = .ok 1 w := by kernel_rfl

/-- Only block g has turned. -/
structure Upd (g : Nat) (w w' : World) : Prop where
  below : Below g w w'
  same : Same (fun k => k ≠ g) w w'
  size : w'.heap.size = w.heap.size

theorem Upd.refl (g : Nat) (w : World) : Upd g w w := ⟨Below.refl _ _, Same.refl _ _, rfl⟩
theorem Upd.trans {g : Nat} {w w1 w2 : World} (h : Upd g w w1) (k : Upd g w1 w2) : Upd g w w2 := ⟨h.below.trans k.below, h.same.trans k.same, k.size.trans h.size⟩
theorem Upd.cell {g : Nat} (w : World) (j : Nat) (v : Value) : Upd g w (w.setCell ⟨g, j, none⟩ v) := ⟨(Below.refl _ _).setCell (p := ⟨g, j, none⟩) (Nat.le_refl _) _, fun _ hk => Below.heap_setCell _ _ _ _ hk, by simp [World.setCell]⟩
theorem Upd.drew {g : Nat} {w w' : World} (h : Upd g w w') : Upd g w w'.drew := ⟨h.below.drew, h.same, h.size⟩

theorem FieldsAt.upd {w w' : World} {g b : Nat} {ps : List (List Int)} {at' f a2 f2 : Int} (h : FieldsAt w g b ps at' f) (hu : Upd g w w')
    (hc : ∀ pv, w.heap[g]? = some (.cells #[pv, .int .i64 at', .int .u8 f] 233 (0, 0)) → w'.heap[g]? = some (.cells #[pv, .int .i64 a2, .int .u8 f2] 233 (0, 0))) : FieldsAt w' g b ps a2 f2 := by
  obtain ⟨pv, vals, hg, hr, hl, hv, hb, hbl⟩ := h
  refine ⟨pv, vals, hc pv hg, RArr.mono hr (fun k hk => hu.same k (Nat.ne_of_lt hk)) (fun _ hk => hk), hl, fun t h h' => ?_, hb, by rw [hu.size]; exact hbl⟩
  obtain ⟨v1, v2, v3, v4⟩ := hv t h h'
  exact ⟨v1, v2, v3, fun u hu' => by rw [hu.same.cell (b := b) hb]; exact v4 u hu'⟩

theorem rng_one {w : World} {b o : Nat} {v : Value} (h : w.cell? ⟨b, o, none⟩ = some v) : rng w b o 1 = some #[v] := by
  unfold World.cell? at h
  unfold rng
  simp only at h
  split at h
  · rename_i c t fr hb
    rw [hb]
    obtain ⟨ho, hv⟩ := Array.getElem?_eq_some_iff.1 h
    simp only
    rw [if_pos (by omega)]
    congr 1
    apply Array.toList_inj.1
    simp only [Array.toList_extract, List.extract_eq_take_drop]
    rw [List.drop_eq_getElem_cons (by simpa using ho)]
    simp [← hv]
  · cases h

theorem bytesAt_val {w : World} {b o l c : Nat} {p : List Int} (h : ValAt w b (o, l, c) p) (hl : p.length ≤ 140737488355328) : BytesAt w (fun _ => True) (.slice (some ⟨b, o, none⟩) p.length c) p := by
  obtain ⟨h1, h2, h3, h4⟩ := h
  refine ⟨_, c, b, o, rfl, h2, ⟨h3, fun h => by cases h⟩, hl, fun _ => ⟨rfl, trivial⟩, fun i hi => ?_⟩
  have := rng_one (h4 i hi)
  simpa [byteCs] using this

set_option maxRecDepth 100000 in
set_option maxHeartbeats 1000000 in
theorem take_calls (w : World) (g b : Nat) (ps : List (List Int)) (k : Nat) (f : Int) (h : FieldsAt w g b ps k f) (hk : k < ps.length) (hl : ps.length ≤ 1000) (hp : ps[k].length ≤ 140737488355328) :
    Calls Tryz.prog 156 #[.pointer (some ⟨g, 0, none⟩)] w fun e w' => ∃ o c, e = .returned (.slice (some ⟨b, o, none⟩) ps[k].length c) ∧ BytesAt w' (fun _ => True) (.slice (some ⟨b, o, none⟩) ps[k].length c) ps[k] ∧ FieldsAt w' g b ps ((k + 1 : Nat) : Int) f ∧ Upd g w w' := by
  have h0 := hide h
  obtain ⟨pv, vals, hg, hr, hvl, hv, hb, hbl⟩ := h
  obtain ⟨c0, c1, c2, cf, hgl⟩ := cell3 hg
  obtain ⟨a', cap', b', off', hpv, hl1, hl2, hl3, ha', hc'⟩ := RArr.lt hr
  have hkv : k < vals.length := by omega
  obtain ⟨ha1, ha2, ha3⟩ := ha' (by omega)
  have hck := (rng_cell (hc' k hkv)).2 0 (by decide)
  obtain ⟨v1, v2, v3, v4⟩ := hv k hkv hk
  have hvk := hv k hkv hk
  obtain ⟨⟨o, l, c⟩, hx⟩ : ∃ x, vals[k] = x := ⟨_, rfl⟩
  rw [hx] at hck v1 hvk
  simp only at v1
  obtain ⟨n', hn'⟩ : ∃ n', vals.length = n' := ⟨_, rfl⟩
  rw [hn'] at hpv
  subst hpv ha1
  have hix := run_indexAt_arr (P := Tryz.prog) (n := n') (cap := cap') Tryz.underlying144 Tryz.size55 (fun _ => (rfl : some (⟨b', off', none⟩ : Addr) = _))
  have hck' : w.cell? ⟨b', off' + k, none⟩ = some (.slice (some ⟨b, o, none⟩) ps[k].length c) := by rw [← v1]; simpa [slCs] using hck
  go_enter Tryz.func156, Tryz.ntmps156
  go_upto_region 1 with fail
  go_region
  go_wp2
  go_ret
  have hU : Upd g w (w.setCell ⟨g, 1, none⟩ (.int .i64 ((k : Int) + 1))).drew := (Upd.cell w 1 _).drew
  have hF : FieldsAt (w.setCell ⟨g, 1, none⟩ (.int .i64 ((k : Int) + 1))).drew g b ps ((k + 1 : Nat) : Int) f := h0.out.upd hU fun pv hg => by
    have := heap_set3 (j := 1) (v := .int .i64 ((k : Int) + 1)) hg
    simp only [List.setIfInBounds_toArray, List.set_cons_succ, List.set_cons_zero] at this
    exact this
  refine ⟨o, c, rfl, ?_, hF, hU⟩
  refine bytesAt_val (l := l) ⟨v1, hvk.2.1, hvk.2.2.1, fun t ht => ?_⟩ hp
  rw [hU.same.cell (b := b) hb]
  exact hvk.2.2.2 t ht

set_option maxRecDepth 100000 in
set_option maxHeartbeats 1000000 in
/-- A letter. -/
theorem letter1_calls (w : World) (g b : Nat) (ps : List (List Int)) (k : Nat) (x : Int) (h : FieldsAt w g b ps k 0) (hk : k < ps.length) (hl : ps.length ≤ 1000) (hp : ps[k] = [x]) :
    Calls Tryz.prog 105 #[.pointer (some ⟨g, 0, none⟩)] w fun e w' => e = .returned (.int .u8 x) ∧ FieldsAt w' g b ps ((k + 1 : Nat) : Int) 0 ∧ Upd g w w' := by
  go_enter Tryz.func105, Tryz.ntmps105
  go_upto_region 2 with (go_at_call 156; refine (take_calls _ g b ps k 0 h hk hl (by rw [hp]; simp)).mono ?_; rintro e w1 ⟨o, c, rfl, hB, hF, hU⟩)
  rw [hp] at hB
  obtain ⟨a1, cap1, b1, off1, hv, -, -, -, -, ha, hc⟩ := hB.parts 1 rfl
  injection hv with hv1 hv2 hv3
  have e1 := (ha (by decide)).1
  rw [← hv1] at e1
  injection e1 with e1
  injection e1 with e1 e2
  subst e1 e2
  have c0 := hc 0 (by simp)
  simp only [List.getElem_cons_zero, Nat.add_zero] at c0
  have HF := hide hF
  clear ha hc hv1 hv2 hv3 hp h hF hB
  go_wp2
  go_ret
  exact ⟨rfl, HF.out, hU⟩

set_option maxRecDepth 100000 in
set_option maxHeartbeats 1000000 in
theorem expect_calls (w : World) (g b : Nat) (ps : List (List Int)) (k : Nat) (x : Int) (h : FieldsAt w g b ps k 0) (hk : k < ps.length) (hl : ps.length ≤ 1000) (hp : ps[k] = [x]) :
    Calls Tryz.prog 104 #[.pointer (some ⟨g, 0, none⟩), .int .u8 x] w fun e w' => e = .returned (.tuple #[]) ∧ FieldsAt w' g b ps ((k + 1 : Nat) : Int) 0 ∧ Upd g w w' := by
  go_enter Tryz.func104, Tryz.ntmps104
  go_wp2_with (go_at_call 105; refine (letter1_calls _ g b ps k x h hk hl hp).mono ?_; rintro e w1 ⟨rfl, hF, hU⟩)
  go_end0
  exact ⟨rfl, hF, hU⟩

set_option maxRecDepth 100000 in
set_option maxHeartbeats 1000000 in
theorem number1_calls (w : World) (g b : Nat) (ps : List (List Int)) (k : Nat) (x lo hi : Int) (h : FieldsAt w g b ps k 0) (hk : k < ps.length) (hl : ps.length ≤ 1000) (hp : ps[k] = dec x) (hx : I64 x) (h1 : lo ≤ x) (h2 : x ≤ hi) :
    Calls Tryz.prog 109 #[.pointer (some ⟨g, 0, none⟩), .int .i64 lo, .int .i64 hi] w fun e w' => e = .returned (.int .i64 x) ∧ FieldsAt w' g b ps ((k + 1 : Nat) : Int) 0 ∧ Upd g w w' := by
  go_enter Tryz.func109, Tryz.ntmps109
  have hd20 := dec_len hx.1 hx.2
  go_wp2_with (first
    | (go_at_call 156; refine (take_calls _ g b ps k 0 h hk hl (by rw [hp]; omega)).mono ?_; rintro e w1 ⟨o, c, rfl, hB, hF, hU⟩)
    | (go_at_call 157; refine (parseInt_calls _ _ _ x (hp ▸ hB) hx.1 hx.2).mono ?_; rintro e w2 ⟨rfl, rfl⟩))
  go_ret
  exact ⟨rfl, hF, hU⟩

set_option maxRecDepth 100000 in
theorem id1_calls (w : World) (g b : Nat) (ps : List (List Int)) (k : Nat) (x : Int) (h : FieldsAt w g b ps k 0) (hk : k < ps.length) (hl : ps.length ≤ 1000) (hp : ps[k] = dec x) (hx : U32 x) :
    Calls Tryz.prog 106 #[.pointer (some ⟨g, 0, none⟩)] w fun e w' => e = .returned (.int .u32 x) ∧ FieldsAt w' g b ps ((k + 1 : Nat) : Int) 0 ∧ Upd g w w' := by
  have hx1 : 0 ≤ x := hx.1
  have hx2 : x ≤ 4294967295 := hx.2
  go_enter Tryz.func106, Tryz.ntmps106
  go_wp2_with (go_at_call 109; refine (number1_calls _ g b ps k x 0 4294967295 h hk hl hp hx.i64 hx1 hx2).mono ?_; rintro e w1 ⟨rfl, hF, hU⟩)
  go_ret
  exact ⟨rfl, hF, hU⟩

set_option maxRecDepth 100000 in
theorem any1_calls (w : World) (g b : Nat) (ps : List (List Int)) (k : Nat) (x : Int) (h : FieldsAt w g b ps k 0) (hk : k < ps.length) (hl : ps.length ≤ 1000) (hp : ps[k] = dec x) (hx : I64 x) :
    Calls Tryz.prog 107 #[.pointer (some ⟨g, 0, none⟩)] w fun e w' => e = .returned (.int .i64 x) ∧ FieldsAt w' g b ps ((k + 1 : Nat) : Int) 0 ∧ Upd g w w' := by
  go_enter Tryz.func107, Tryz.ntmps107
  go_wp2_with (go_at_call 109; refine (number1_calls _ g b ps k x (-9223372036854775808) 9223372036854775807 h hk hl hp hx hx.1 hx.2).mono ?_; rintro e w1 ⟨rfl, hF, hU⟩)
  go_ret
  exact ⟨rfl, hF, hU⟩

end Go.Proofs.Qxb6500666aGreatDoor
