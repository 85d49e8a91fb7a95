/- The list field of a line of every kind: weak. -/
import Derived.Test.Qxb6500666aGreatDoorWkErr
namespace Go.Proofs.Qxb6500666aGreatDoor
open Go.RowKit

/-- Only the block g has changed, and new ones have come. -/
structure Upn (g : Nat) (w w' : World) : Prop where
  same : Same (fun k => k < w.heap.size ∧ k ≠ g) w w'
  size : w.heap.size ≤ w'.heap.size
theorem Upd.upn {g : Nat} {w w' : World} (h : Upd g w w') : Upn g w w' := ⟨fun k hk => h.same k hk.2, by rw [h.size]; omega⟩
theorem Upn.trans {g : Nat} {w w1 w2 : World} (h : Upn g w w1) (k : Upn g w1 w2) : Upn g w w2 :=
  ⟨fun b hb => (k.same b ⟨by have := h.size; omega, hb.2⟩).trans (h.same b hb), Nat.le_trans h.size k.size⟩
theorem below_upn {w w' : World} {g B : Nat} (h : Below B w w') (hB : w.heap.size ≤ B) : Upn g w w' := ⟨fun k hk => h.block k (by omega), h.size⟩

theorem cell_blk {w : World} {b o : Nat} {v : Value} (h : w.cell? ⟨b, o, none⟩ = some v) : b < w.heap.size := by
  rcases Nat.lt_or_ge b w.heap.size with h' | h'
  · exact h'
  · simp [World.cell?, Array.getElem?_eq_none h'] at h
theorem run_slBytes' (b off n cap lo hi : Nat) (h1 : lo ≤ hi) (h2 : hi ≤ cap) : ∃ o', (lo < cap → o' = off + lo) ∧ ∀ w : World,
    (Instr.sliceAt 55 (.slice (some ⟨b, off, none⟩) n cap) (some (.int .i64 (lo : Int))) (some (.int .i64 (hi : Int))) none).run Tryz.prog w = .ok (.slice (some ⟨b, o', none⟩) (hi - lo) (cap - lo)) w := by
  by_cases h3 : lo < cap
  · exact ⟨off + lo, fun _ => rfl, fun w => run_slBytes w b off n cap lo hi h1 h2 h3⟩
  · have h4 : lo = cap := by omega
    have h5 : hi = cap := by omega
    subst h4 h5
    refine ⟨off, fun h => absurd h h3, fun w => ?_⟩
    simp [Instr.sliceAt, Instr.slice, run_underlying Tryz.underlying55, Instr.sliceBounds, Instr.sliceBound, asIntOf]
def LstAns (w w' : World) (g b : Nat) (ps : List (List Int)) (k : Nat) (f : Int) (e : Ending) : Prop := ∃ v ids f', e = .returned v ∧ OwnR w' w.heap.size 48 1 u32Cs v ids ∧ ids.length ≤ 12 ∧ (∀ y ∈ ids, U32 y) ∧ (f' = f ∨ f' = spf f 4) ∧ FieldsAt w' g b ps ((k + 1 : Nat) : Int) f' ∧ Upn g w w' ∧ Below g w w'
theorem fields_lt {w : World} {g b : Nat} {ps : List (List Int)} {k f : Int} (h : FieldsAt w g b ps k f) : g < w.heap.size := by
  obtain ⟨pv, vals, h1, -⟩ := h
  exact (cell3 h1).2.2.2.2

set_option maxRecDepth 100000 in
set_option maxHeartbeats 2000000 in
theorem flist_any (w : World) (g b : Nat) (ps : List (List Int)) (k : Nat) (f : Int) (h : FieldsAt w g b ps k f) (hk : k < ps.length) (hp : PsL ps) :
    Calls Tryz.prog 143 #[.pointer (some ⟨g, 0, none⟩)] w fun e w' => LstAns w w' g b ps k f e := by
  have hpl := hp.each _ (List.getElem_mem hk)
  have HH := hide h
  clear h
  go_enter Tryz.func143, Tryz.ntmps143
  go_upto_region 2 with (go_at_call 156; refine (take_calls _ g b ps k f HH.out hk hp.len hpl).mono ?_; rintro e w1 ⟨o, c, rfl, hB, hF, hU⟩)
  have HBC : Hid (∀ t, t < ps[k].length → w1.cell? ⟨b, o + t, none⟩ = some (.int .u8 (ps[k].getD t 0))) := fun t ht => by rw [bytesAt_cells hB t ht]; simp [List.getD, ht]
  obtain ⟨a1, cap1, b1, off1, hv, -, hcc, hcm, -, -, -⟩ := BytesAt.parts hB _ rfl
  injection hv with hv1 hv2 hv3
  subst hv3
  have HFD := hide hF
  have HU := hide hU
  clear hB hF hU HH hv1 hv2
  generalize ps[k] = p at *
  generalize hn : p.length = n at *
  have HN := hide hn
  clear hn
  have hcell : ∀ t, t < n → ∃ x, w1.cell? ⟨b, o + t, none⟩ = some (.int .u8 x) := fun t ht => ⟨_, HBC.out t ht⟩
  have hbl : 0 < n → b < w1.heap.size := fun h => by
    obtain ⟨x, hx⟩ := hcell 0 h
    exact cell_blk hx
  go_cut [19] (fun v W => (∃ t, v = .bool t) ∧ w1 = W)
  case first =>
    as_aux_lemma =>
      by_cases h1 : n = 1
      · subst h1
        obtain ⟨x, hx⟩ := hcell 0 (by omega)
        have hbb := hbl (by omega)
        rw [Nat.add_zero] at hx
        go_wp2
        go_meet
        case rel => exact ⟨⟨_, rfl⟩, rfl⟩
      · have t1 : ((n : Int) == 1) = false := by simp; omega
        go_wp2
        go_meet
        case rel => exact ⟨⟨_, rfl⟩, rfl⟩
  case rest =>
  obtain ⟨⟨t0, rfl⟩, rfl⟩ := hcut
  cases t0 with
  | true =>
    go_wp2
    go_ret
    exact ⟨_, [], f, rfl, OwnR.nil _ _ _ _ _, by simp, by simp, Or.inl rfl, HFD.out, HU.out.upn, HU.out.below⟩
  | false =>
  go_upto_region 7 with fail
  have hu12 : ∀ m : Nat, ((m : Int) == 12) = false → m ≠ 12 := fun m h e => by subst e; simp at h
  go_loopg [4, 5, 6] (n + 1) (fun gk v s i W => ∃ (q s0 : Nat) (ids : List Int), q ≤ n + 1 ∧ s0 ≤ q ∧ gk = n + 1 - q ∧ s = .int .i64 s0 ∧ i = .int .i64 q ∧ (∃ a c, v = .slice a ids.length c) ∧ Hid (OwnR W w1.heap.size 48 1 u32Cs v ids) ∧ ids.length ≤ 12 ∧ Hid (∀ y ∈ ids, U32 y) ∧ Hid (Below w1.heap.size w1 W))
  case atStart => exact ⟨0, 0, [], by omega, by omega, by omega, rfl, rfl, ⟨_, _, rfl⟩, OwnR.nil _ _ _ _ _, by simp, fun y hy => by simp at hy, Below.refl _ _⟩
  case round =>
    obtain ⟨q, s0, ids, hq, hs0, rfl, rfl, rfl, ⟨ia, ic, rfl⟩, HO, hil, HUI, HBW⟩ := hrel
    have hzw := HBW.out.size
    by_cases hlt : q ≤ n
    · go_upto_region 9 with fail
      go_cut [36] (fun v W => (∃ t, v = .bool t) ∧ wr = W)
      case first =>
        as_aux_lemma =>
          by_cases h1 : q < n
          · obtain ⟨x, hx⟩ := hcell q h1
            have hbb := hbl (by omega)
            have hx2 : wr.cell? ⟨b, o + q, none⟩ = some (.int .u8 x) := (HBW.out.cell (p := ⟨_, _, none⟩) hbb).trans hx
            have hbw : b < wr.heap.size := by omega
            clear hx
            go_wp2
            go_meet
            case rel => exact ⟨⟨_, rfl⟩, rfl⟩
          · go_wp2
            go_meet
            case rel => exact ⟨⟨_, rfl⟩, rfl⟩
      case rest =>
      obtain ⟨⟨t0, rfl⟩, rfl⟩ := hcut
      cases t0 with
      | true =>
        go_wp2
        go_roundg (n + 1 - (q + 1))
        case measure => omega
        case rel => exact ⟨q + 1, s0, ids, by omega, by omega, rfl, rfl, by go_num, ⟨_, _, rfl⟩, HO, hil, HUI, HBW⟩
      | false =>
      go_upto_region 10 with fail
      go_cut [7, 8] (fun v er W => ∃ x, v = .int .i64 x ∧ I64 x ∧ (er = .nilIface ∨ ∃ t u, er = .iface t u) ∧ wr = W)
      case first =>
        as_aux_lemma =>
          obtain ⟨o', ho', hsl⟩ := run_slBytes' b o n c s0 q (by omega) (by omega)
          have HO' := hide ho'
          clear ho'
          have hln : ((p.drop s0).take (q - s0)).length = q - s0 := by have := HN.out; simp; omega
          have HCC : Hid (∀ t (h : t < ((p.drop s0).take (q - s0)).length), wr.cell? ⟨b, o' + t, none⟩ = some (.int .u8 (((p.drop s0).take (q - s0))[t]))) := fun t ht => by
            have h1 : t < q - s0 := by rw [hln] at ht; exact ht
            have h2 := HBC.out (s0 + t) (by omega)
            have h3 : b < w1.heap.size := hbl (by omega)
            rw [HO'.out (by omega), Nat.add_assoc, HBW.out.cell (p := ⟨_, _, none⟩) h3, h2]
            have := HN.out
            simp [List.getD, show s0 + t < p.length by omega]
          go_wp2_with (go_at_call 157; refine (parseInt_any' wr b o' (q - s0) (c - s0) _ hln (by omega) HCC.out).mono ?_; rintro e w2 ⟨x, er, rfl, hx, her, rfl⟩)
          go_meet
          case rel => exact ⟨x, rfl, hx, her, rfl⟩
      case rest =>
      obtain ⟨x, rfl, hx, her, rfl⟩ := hcut
      go_upto_region 11 with fail
      go_cut [59] (fun v W => (∃ t : Bool, v = .bool t ∧ Hid (t = false → 0 ≤ x ∧ x ≤ 4294967295 ∧ ids.length ≠ 12)) ∧ wr = W)
      case first =>
        as_aux_lemma =>
          rcases her with rfl | ⟨tt, uu, rfl⟩
          · by_cases h1 : x < 0
            · go_wp2
              go_meet
              case rel => exact ⟨⟨true, rfl, fun h => by cases h⟩, rfl⟩
            · by_cases h2 : 4294967295 < x
              · go_wp2
                go_meet
                case rel => exact ⟨⟨true, rfl, fun h => by cases h⟩, rfl⟩
              · cases t3 : ((ids.length : Int) == 12) with
                | true =>
                  go_wp2
                  go_meet
                  case rel => exact ⟨⟨true, rfl, fun h => by cases h⟩, rfl⟩
                | false =>
                  have h3 := hu12 _ t3
                  go_wp2
                  go_meet
                  case rel => exact ⟨⟨false, rfl, fun _ => ⟨by omega, by omega, h3⟩⟩, rfl⟩
          · go_wp2
            go_meet
            case rel => exact ⟨⟨true, rfl, fun h => by cases h⟩, rfl⟩
      case rest =>
      obtain ⟨⟨t1, rfl, HT⟩, rfl⟩ := hcut
      cases t1 with
      | true =>
        have HF2 : Hid (FieldsAt wr g b ps ((k + 1 : Nat) : Int) f) := HFD.out.grow (fun k hk => HBW.out.block k hk) hzw
        go_wp2_with (go_at_call 155; refine (spoil_any wr g b ps _ f 4 HF2.out).mono ?_; rintro e w2 ⟨rfl, hF2, hU2⟩)
        go_ret
        exact ⟨_, [], _, rfl, OwnR.nil _ _ _ _ _, by simp, by simp, Or.inr rfl, hF2, (HU.out.upn.trans (below_upn HBW.out (Nat.le_refl _))).trans hU2.upn, (HU.out.below.trans (HBW.out.mono (Nat.le_of_lt (fields_lt HFD.out)))).trans hU2.below⟩
      | false =>
      obtain ⟨hx0, hx1, hi12⟩ := HT.out rfl
      have hxm : x % 4294967296 = x := by omega
      go_wp2_with (at_builtin; refine wpList_app1 (α := Int) rfl _ _ 29 rfl w1.heap.size 48 u32Cs Tryz.underlying29 Tryz.info48 rfl (by decide) u32Cs_size u32Cs_one (.slice ia ids.length ic) ids rfl (OwnR.below HO.out ((Below.refl _ _).alloc (Nat.le_refl _) _) (Nat.le_refl _)) _ rfl x ((rng_alloc_at _ _ _ _ _ _ _ rfl).trans rfl) (by omega) (by unfold maxLen; omega) (by simp; omega) ?_; intro v1 w2 hown1 hsame1 hbel1 _; obtain ⟨va, vc, hvf⟩ := hown1.form; rw [List.length_append, List.length_singleton] at hvf; subst hvf)
      go_roundg (n + 1 - (q + 1))
      case measure => omega
      case rel =>
        refine ⟨q + 1, q + 1, ids ++ [x], by omega, by omega, rfl, by go_num, by go_num, ⟨va, vc, by rw [List.length_append]; rfl⟩, hown1, by rw [List.length_append]; simp; omega, fun y hy => ?_, HBW.out.trans (((Below.refl _ _).alloc (by omega) _).trans hbel1)⟩
        rcases List.mem_append.1 hy with h | h
        · exact HUI.out y h
        · simp only [List.mem_singleton] at h
          subst h
          exact ⟨hx0, hx1⟩
    · have hsi := hil
      go_wp2
      go_ret
      exact ⟨_, ids, f, rfl, HO.out.lower (by rw [← HU.out.size]; omega), hil, HUI.out, Or.inl rfl, HFD.out.grow (fun k hk => HBW.out.block k hk) hzw, HU.out.upn.trans (below_upn HBW.out (Nat.le_refl _)), HU.out.below.trans (HBW.out.mono (Nat.le_of_lt (fields_lt HFD.out)))⟩

end Go.Proofs.Qxb6500666aGreatDoor
