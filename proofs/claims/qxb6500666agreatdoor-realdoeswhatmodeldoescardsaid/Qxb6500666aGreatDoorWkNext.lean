/- next, on lines of every kind. -/
import Derived.Test.Qxb6500666aGreatDoorWkFld
import Derived.Deep.LoopGhost
import Derived.Deep.DeepCutAuto
import Derived.Deep.CutBlock
namespace Go.Proofs.Qxb6500666aGreatDoor
open Go.RowKit

/-- The parts, each with a bar behind it. -/
def catT : List (List Int) → List Int
  | [] => []
  | p :: r => p ++ 124 :: catT r
theorem catT_snoc (l : List (List Int)) (p : List Int) : catT (l ++ [p]) = catT l ++ (p ++ [124]) := by
  induction l with
  | nil => simp [catT]
  | cons x r ih => simp [catT, ih]
theorem seg_next {line : List Int} {s i : Nat} (h1 : s ≤ i) (h2 : i ≤ line.length) (h3 : (line ++ [124])[i]? = some 124) : (line ++ [124]).take s ++ ((line.drop s).take (i - s) ++ [124]) = (line ++ [124]).take (i + 1) := by
  have e1 : (line.drop s).take (i - s) = ((line ++ [124]).drop s).take (i - s) := by
    rw [List.drop_append_of_le_length (by omega), List.take_append_of_le_length (by simp; omega)]
  have e2 : (line ++ [124]).take i = (line ++ [124]).take s ++ ((line ++ [124]).drop s).take (i - s) := by
    conv => lhs; rw [show i = s + (i - s) by omega, List.take_add]
  have hl : i < (line ++ [124]).length := by simp; omega
  rw [List.take_succ_eq_append_getElem hl, e2, e1, List.append_assoc]
  congr 2
  rw [List.getElem?_eq_getElem hl] at h3
  injection h3 with h3
  rw [h3]

/-- What is left of the rest. -/
structure RdSt (w w' : World) (R : Nat) : Prop where
  below : Below R w w'
  same : Same (fun k => k < w.heap.size ∧ k ≠ R) w w'

/-- What next answers. -/
inductive NextAns (w w' : World) (R b off n cap : Nat) (data : List Int) (pos : Nat) (ln : Int) (want : Nat) (e : Ending) : Prop
  | bad (E : Nat) (he : e = .returned (.tuple #[.pointer none, .iface 241 (.pointer (some ⟨E, 0, none⟩))])) (hE : w.heap.size ≤ E) (hp : PErr w' E) (hs : RdSt w w' R) : NextAns w w' R b off n cap data pos ln want e
  | good (g : Nat) (ps : List (List Int)) (line : List Int) (he : e = .returned (.tuple #[.pointer (some ⟨g, 0, none⟩), .nilIface])) (hg : w.heap.size ≤ g) (hF : FieldsAt w' g b ps 0 0) (hw : ps.length = want) (hP : PsL ps) (hR : ReaderAt w' R (.slice (some ⟨b, off, none⟩) n cap) ((pos + line.length + 1 : Nat) : Int) (ln + 1)) (hpos : pos + line.length + 1 ≤ n) (hline : data.drop pos = line ++ 10 :: data.drop (pos + line.length + 1)) (hcat : catT ps = line ++ [124]) (hs : RdSt w w' R) : NextAns w w' R b off n cap data pos ln want e

set_option maxRecDepth 100000 in
set_option maxHeartbeats 4000000 in
theorem next_any (w : World) (R n cap b off : Nat) (data : List Int) (pos : Nat) (ln : Int) (want : Nat)
    (hR : ReaderAt w R (.slice (some ⟨b, off, none⟩) n cap) pos ln) (hbR : b ≠ R) (hcap : n ≤ cap ∧ cap ≤ maxLen) (hbl : b < w.heap.size) (hd : ∀ t (h : t < data.length), w.cell? ⟨b, off + t, none⟩ = some (.int .u8 data[t]))
    (hn : data.length = n) (hn2 : n ≤ 140737488355328) (hpos : pos ≤ n) (hw1 : 1 ≤ want) (hw2 : want ≤ 100) (hln : 0 ≤ ln ∧ ln ≤ 1000000000000000) :
    Calls Tryz.prog 103 #[.pointer (some ⟨R, 0, none⟩), .int .i64 want] w fun e w' => NextAns w w' R b off n cap data pos ln want e := by
  have HRd := hide hR
  have HD := hide hd
  have HN := hide hn
  obtain ⟨r0, r1, r2, rf, hRl⟩ := cell3 hR
  have hix := run_indexAt_arr (P := Tryz.prog) (n := n) (cap := cap) Tryz.underlying55 Tryz.size5 (fun _ => (rfl : some (⟨b, off, none⟩ : Addr) = _))
  clear hd hn
  go_enter Tryz.func103, Tryz.ntmps103
  go_upto_region 2 with fail
  have hR1 : ReaderAt (w.setCell ⟨R, 2, none⟩ (.int .i64 (ln + 1))) R (.slice (some ⟨b, off, none⟩) n cap) pos (ln + 1) := by
    have := heap_set3 (j := 2) (v := .int .i64 (ln + 1)) hR
    simpa [ReaderAt] using this
  have hB1 : Below R w (w.setCell ⟨R, 2, none⟩ (.int .i64 (ln + 1))) := (Below.refl _ _).setCell (p := ⟨R, 2, none⟩) (Nat.le_refl _) _
  have hS1 : Same (fun k => k ≠ R) w (w.setCell ⟨R, 2, none⟩ (.int .i64 (ln + 1))) := fun k hk => Below.heap_setCell _ _ _ _ hk
  have hz1 : (w.setCell ⟨R, 2, none⟩ (.int .i64 (ln + 1))).heap.size = w.heap.size := by simp [World.setCell]
  clear r0 r1 r2 rf hR
  generalize w.setCell ⟨R, 2, none⟩ (.int .i64 (ln + 1)) = W1 at *
  have HD1 : Hid (∀ t (h : t < data.length), W1.cell? ⟨b, off + t, none⟩ = some (.int .u8 data[t])) := fun t h => by rw [hS1.cell (b := b) hbR]; exact HD.out t h
  obtain ⟨r0, r1, r2, rf, hRl1⟩ := cell3 hR1
  have HR1 := hide hR1
  have HS1 : Hid (RdSt w W1 R) := ⟨hB1, fun k hk => hS1 k hk.2⟩
  have HZ1 : Hid (W1.heap.size = w.heap.size) := hz1
  have HM0 : Hid (∀ t, t < 0 → data[pos + t]? ≠ some 10) := fun t ht => absurd ht (by omega)
  clear hR1 hB1 hS1 hz1 HRd
  go_upto_region 3 with fail
  go_loopg [6] (n - pos) (fun gk j W => ∃ m : Nat, pos + m ≤ n ∧ gk = n - pos - m ∧ j = .int .i64 ((pos + m : Nat) : Int) ∧ W1 = W ∧ Hid (∀ t, t < m → data[pos + t]? ≠ some 10))
  case atStart => exact ⟨0, by omega, by omega, rfl, rfl, HM0⟩
  clear HM0
  case round =>
    obtain ⟨m, hm, rfl, rfl, rfl, HM⟩ := hrel
    by_cases hlt : pos + m < n
    · have hel : pos + m < data.length := by rw [HN.out]; exact hlt
      have c0 := HD1.out (pos + m) hel
      have HDE : Hid (data[pos + m]? = some data[pos + m]) := List.getElem?_eq_getElem hel
      generalize data[pos + m] = c at *
      cases t0 : (c != 10) with
      | true =>
        have HMN : Hid (∀ t, t < m + 1 → data[pos + t]? ≠ some 10) := fun t ht => by
          by_cases e : t = m
          · subst e
            rw [HDE.out]
            intro h
            injection h with h
            rw [h] at t0
            simp at t0
          · exact HM.out t (by omega)
        go_wp2
        go_roundg (n - pos - (m + 1))
        case measure => omega
        case rel => exact ⟨m + 1, by omega, rfl, by go_num, rfl, HMN⟩
      | false =>
        have hc10 : c = 10 := by simpa using t0
        have HC10 : Hid (data[pos + m]? = some 10) := by rw [hc10] at HDE; exact HDE
        subst hc10
        obtain ⟨line, hline⟩ : ∃ line, line = (data.drop pos).take m := ⟨_, rfl⟩
        have hll : line.length = m := by rw [hline]; simp; have := HN.out; omega
        have HLL := hide hll
        have HLINE : Hid (data.drop pos = line ++ 10 :: data.drop (pos + m + 1)) := by
          show _ = _
          have h1 : data.drop (pos + m) = 10 :: data.drop (pos + m + 1) := by
            rw [List.drop_eq_getElem_cons hel]
            congr 1
            have := HC10.out
            rw [List.getElem?_eq_getElem hel] at this
            exact Option.some.inj this
          rw [← h1, hline, ← List.drop_drop, List.take_append_drop]
        have HLC : Hid (∀ t (h : t < line.length), W1.cell? ⟨b, off + pos + t, none⟩ = some (.int .u8 line[t])) := fun t h => by
          have h1 : pos + t < data.length := by have := HN.out; omega
          have := HD1.out (pos + t) h1
          rw [Nat.add_assoc, this]
          congr 2
          subst hline
          simp
        clear hline hll HM HC10 HDE
        have hsl : ∀ W, (Instr.sliceAt 55 (.slice (some ⟨b, off, none⟩) n cap) (some (.int .i64 (pos : Int))) (some (.int .i64 ((pos : Int) + m))) none).run Tryz.prog W = .ok (.slice (some ⟨b, off + pos, none⟩) m (cap - pos)) W := fun W => by
          have := run_slBytes W b off n cap pos (pos + m) (by omega) (by omega) (by omega)
          simpa using this
        go_upto_region 7 with fail
        go_region
        clear hsl c0
        obtain ⟨i0, hi0, hq0, hq1, hq2⟩ := info_parts Tryz.info55
        have hz1 := HZ1.out
        go_upto_block 2 with (at_make; refine wpList_make_own _ rfl _ _ 144 rfl w.heap.size 55 i0 _ 1 Tryz.underlying144 hi0 hq0 hq1 _ _ _ want rfl rfl (by omega) (by rw [hq2]; omega) (by unfold maxLen; omega) (by simp; omega) ?_; intro W2 hown0 hgr0)
        have hG1 : (W1.setCell ⟨R, 1, none⟩ (.int .i64 ((pos : Int) + m + 1))).drew.heap.size = w.heap.size := by rw [← hz1]; simp [World.setCell]
        have hb2 : Below w.heap.size (W1.setCell ⟨R, 1, none⟩ (.int .i64 ((pos : Int) + m + 1))).drew W2 := (Below.refl _ _).grown hgr0 (by omega) (fun k hk => by simp at hk)
        have hR2 : ReaderAt W2 R (.slice (some ⟨b, off, none⟩) n cap) ((pos : Int) + m + 1) (ln + 1) := by
          have := heap_set3 (j := 1) (v := .int .i64 ((pos : Int) + m + 1)) HR1.out
          unfold ReaderAt
          rw [hb2.block _ (by omega)]
          simp only [List.setIfInBounds_toArray, List.set_cons_succ, List.set_cons_zero] at this
          exact this
        have HS2 : Hid (RdSt w W2 R) := ⟨(HS1.out.below.setCell (p := ⟨R, 1, none⟩) (Nat.le_refl _) _).drew.trans (hb2.mono (by omega)), fun k hk => (hb2.block _ hk.1).trans ((Below.heap_setCell _ _ _ _ hk.2).trans (HS1.out.same k hk))⟩
        have hown1 : OwnR W2 w.heap.size 55 1 (slCs b) (.slice (some ⟨w.heap.size, 0, none⟩) 0 want) [] := by
          rw [hG1] at hown0; exact hown0
        have hz2 : w.heap.size < W2.heap.size := (hown1.block _ rfl).2
        have HLC2 : Hid (∀ t (h : t < line.length), W2.cell? ⟨b, off + pos + t, none⟩ = some (.int .u8 line[t])) := fun t h => by
          rw [hb2.cell (p := ⟨b, off + pos + t, none⟩) hbl, show (W1.setCell ⟨R, 1, none⟩ (.int .i64 ((pos : Int) + m + 1))).drew.cell? ⟨b, off + pos + t, none⟩ = W1.cell? ⟨b, off + pos + t, none⟩ from by unfold World.cell?; rw [show (W1.setCell ⟨R, 1, none⟩ (.int .i64 ((pos : Int) + m + 1))).drew.heap[b]? = W1.heap[b]? from Below.heap_setCell _ _ _ _ hbR]]
          exact HLC.out t h
        have HR2 := hide hR2
        have HO1 := hide hown1
        have hRl2 : R < W2.heap.size := by omega
        clear hown0 hgr0 hb2 hi0 hq0 hq1 hq2 HS1 HR1 r0 r1 r2 rf hRl1 HLC HZ1 hG1 hix hR2 hown1 HD1 hel
        have hix := run_indexAt_arr (P := Tryz.prog) (n := m) (cap := cap - pos) Tryz.underlying55 Tryz.size5 (fun _ => (rfl : some (⟨b, off + pos, none⟩ : Addr) = _))
        have HB0 := hide (Below.refl w.heap.size W2)
        have HV0 : Hid (∀ t (h : t < ([] : List (Nat × Nat × Nat)).length) (h' : t < ([] : List (List Int)).length), ValAt W2 b ([] : List (Nat × Nat × Nat))[t] ([] : List (List Int))[t]) := fun t h => absurd h (by simp)
        go_upto_region 12 with fail
        go_loopg [8, 9, 10] (m + 1) (fun gk pv st j W => ∃ (vals : List (Nat × Nat × Nat)) (dn : List (List Int)) (s0 i1 : Nat), st = .int .i64 s0 ∧ j = .int .i64 i1 ∧ gk = m + 1 - i1 ∧ s0 ≤ i1 ∧ i1 ≤ m + 1 ∧ (i1 = m + 1 → s0 = m + 1) ∧ vals.length ≤ want ∧ Hid (vals.length = dn.length) ∧ Hid (OwnR W w.heap.size 55 1 (slCs b) pv vals) ∧ Hid (∀ t (h : t < vals.length) (h' : t < dn.length), ValAt W2 b vals[t] dn[t]) ∧ Hid (Below w.heap.size W2 W) ∧ Hid (catT dn = (line ++ [124]).take s0) ∧ Hid (∀ p ∈ dn, p.length ≤ n))
        case atStart => exact ⟨[], [], 0, 0, rfl, rfl, by omega, by omega, by omega, by omega, by simp, rfl, HO1, HV0, HB0, rfl, fun p hp => by cases hp⟩
        clear HO1 HV0 HB0
        case round =>
          obtain ⟨vals, dn, s0, i1, rfl, rfl, rfl, hsi, hi1, hie, hvw, HVL, HO, HV, HBW, HCT, HPL⟩ := hrel
          have hsz : W2.heap.size ≤ wr.heap.size := HBW.out.size
          have HLCr : Hid (∀ t (h : t < line.length), wr.cell? ⟨b, off + pos + t, none⟩ = some (.int .u8 line[t])) := fun t h => by rw [HBW.out.cell (p := ⟨b, off + pos + t, none⟩) hbl]; exact HLC2.out t h
          have HRr : Hid (ReaderAt wr R (.slice (some ⟨b, off, none⟩) n cap) ((pos : Int) + m + 1) (ln + 1)) := (HBW.out.block R hRl).trans HR2.out
          obtain ⟨ap, capp, hvp⟩ := HO.out.form
          subst hvp
          have HBAD : Hid (∀ w5 E, Below wr.heap.size wr w5 → wr.heap.size ≤ E → PErr w5 E → NextAns w w5 R b off n cap data pos ln want (.returned (.tuple #[.pointer none, .iface 241 (.pointer (some ⟨E, 0, none⟩))]))) := fun w5 E hb5 hE hp5 => .bad E rfl (by omega) hp5 ⟨HS2.out.below.trans ((HBW.out.mono (by omega)).trans (hb5.mono (by omega))), fun k hk => (hb5.block k (by have := hk.1; omega)).trans ((HBW.out.block k hk.1).trans (HS2.out.same k hk))⟩
          by_cases hin : i1 ≤ m
          · obtain ⟨cb, hcb⟩ : ∃ cb : Bool, cb = true ↔ (line ++ [124])[i1]? = some 124 := ⟨decide ((line ++ [124])[i1]? = some 124), by simp⟩
            have HCB := hide hcb
            clear hcb
            go_upto_region 14 with fail
            go_cut [83] (fun v W => v = .bool cb ∧ wr = W)
            case first =>
              as_aux_lemma =>
                by_cases hlt2 : i1 < m
                · have hil : i1 < line.length := by rw [HLL.out]; exact hlt2
                  have c0 := HLCr.out i1 hil
                  have hbw : b < wr.heap.size := by omega
                  have hie2 : ((i1 : Int) == (m : Int)) = false := by simp; omega
                  have HC2 : Hid ((line[i1] == 124) = cb) := by
                    show _ = _
                    rw [Bool.eq_iff_iff, HCB.out, List.getElem?_append_left hil, List.getElem?_eq_getElem hil]
                    simp
                  generalize line[i1] = c at *
                  cases t1 : (c == 124) with
                  | true =>
                    obtain rfl : cb = true := HC2.out.symm.trans t1
                    go_wp2
                    go_meet
                    case rel => exact ⟨rfl, rfl⟩
                  | false =>
                    obtain rfl : cb = false := HC2.out.symm.trans t1
                    go_wp2
                    go_meet
                    case rel => exact ⟨rfl, rfl⟩
                · have hie2 : ((i1 : Int) == (m : Int)) = true := by simp; omega
                  obtain rfl : cb = true := HCB.out.2 (by rw [List.getElem?_append_right (by rw [HLL.out]; omega), show i1 - line.length = 0 by rw [HLL.out]; omega]; rfl)
                  go_wp2
                  go_meet
                  case rel => exact ⟨rfl, rfl⟩
            case rest =>
              obtain ⟨rfl, rfl⟩ := hcut
              clear hix
              cases cb with
              | false =>
                have hlt2 : i1 < m := by
                  rcases Nat.lt_or_ge i1 m with h | h
                  · exact h
                  · exfalso
                    have := HCB.out.2 (by rw [List.getElem?_append_right (by rw [HLL.out]; omega), show i1 - line.length = 0 by rw [HLL.out]; omega]; rfl)
                    cases this
                go_wp2
                go_roundg (m + 1 - (i1 + 1))
                case measure => omega
                case rel => exact ⟨vals, dn, s0, i1 + 1, rfl, by go_num, rfl, by omega, by omega, by omega, hvw, HVL, HO, HV, HBW, HCT, HPL⟩
              | true =>
                cases t2 : ((vals.length : Int) == (want : Int)) with
                | true =>
                  go_wp2_with (go_at_call 108; refine (fail_any _ R _ _ _ 2 HRr.out ⟨by omega, by omega⟩ ⟨by decide, by decide⟩).mono ?_; rintro e w5 ⟨E, rfl, hE, hp5, hb5⟩)
                  go_ret2
                  exact HBAD.out w5 E hb5 hE hp5
                | false =>
                  have hvw2 : vals.length < want := by
                    have : ¬ vals.length = want := by intro e; rw [e] at t2; simp at t2
                    omega
                  obtain ⟨x, hx⟩ : ∃ x, x = (line.drop s0).take (i1 - s0) := ⟨_, rfl⟩
                  have hxl : x.length = i1 - s0 := by rw [hx]; simp; have := HLL.out; omega
                  have hval : ValAt W2 b (off + pos + s0, i1 - s0, cap - pos - s0) x := by
                    refine ⟨by simp; omega, by simp; omega, by simp; have := hcap.2; omega, fun t ht => ?_⟩
                    have h1 : s0 + t < line.length := by have := HLL.out; omega
                    have h2 := HLC2.out (s0 + t) h1
                    rw [show off + pos + s0 + t = off + pos + (s0 + t) by omega, h2]
                    congr 2
                    subst hx
                    simp
                  have hsl := fun W => run_slBytes W b (off + pos) m (cap - pos) s0 i1 (by omega) (by omega) (by omega)
                  have HNew : Hid (∀ t (h : t < (vals ++ [(off + pos + s0, i1 - s0, cap - pos - s0)]).length) (h' : t < (dn ++ [x]).length), ValAt W2 b (vals ++ [(off + pos + s0, i1 - s0, cap - pos - s0)])[t] (dn ++ [x])[t]) := fun t h h' => by
                    by_cases htl : t < vals.length
                    · rw [List.getElem_append_left htl, List.getElem_append_left (by have := HVL.out; omega)]
                      exact HV.out t htl (by have := HVL.out; omega)
                    · obtain rfl : t = vals.length := by simp at h; omega
                      have e1 : (vals ++ [(off + pos + s0, i1 - s0, cap - pos - s0)])[vals.length] = (off + pos + s0, i1 - s0, cap - pos - s0) := by simp
                      have e2 : (dn ++ [x])[vals.length]'h' = x := by simp [HVL.out]
                      rw [e1, e2]; exact hval
                  have HCN : Hid (catT (dn ++ [x]) = (line ++ [124]).take (i1 + 1)) := by
                    show _ = _
                    rw [catT_snoc, HCT.out, hx]
                    exact seg_next hsi (by rw [HLL.out]; exact hin) (HCB.out.1 rfl)
                  have HPN : Hid (∀ p ∈ dn ++ [x], p.length ≤ n) := fun p hp => by
                    rcases List.mem_append.1 hp with hp | hp
                    · exact HPL.out p hp
                    · rw [List.mem_singleton.1 hp, hxl]; omega
                  have HXL := hide hxl
                  clear hx hxl hval
                  go_wp2_with (at_builtin; refine wpList_app1 (α := Nat × Nat × Nat) rfl _ _ 144 rfl w.heap.size 55 (slCs b) Tryz.underlying144 Tryz.info55 rfl (by decide) (slCs_size b) (slCs_one b) (.slice ap vals.length capp) vals rfl (OwnR.below HO.out ((Below.refl _ _).alloc (Nat.le_refl _) _) (Nat.le_refl _)) _ rfl (off + pos + s0, i1 - s0, cap - pos - s0) ((rng_alloc_at _ _ _ _ _ _ _ rfl).trans rfl) (by omega) (by unfold maxLen; omega) (by simp; omega) ?_; intro v1 w1 hown1 hsame1 hbel1 _)
                  go_roundg (m + 1 - (i1 + 1))
                  case measure => omega
                  case rel => exact ⟨vals ++ [(off + pos + s0, i1 - s0, cap - pos - s0)], dn ++ [x], i1 + 1, i1 + 1, by go_num, by go_num, rfl, Nat.le_refl _, by omega, fun h => h, by simp; omega, by show _ = _; simp [HVL.out], hown1, HNew, HBW.out.trans (((Below.refl _ _).alloc (by omega) _).trans hbel1), HCN, HPN⟩
          · have hs1 : s0 = m + 1 := hie (by omega)
            have HCF : Hid (catT dn = line ++ [124]) := HCT.out.trans (List.take_of_length_le (by simp [HLL.out]; omega))
            cases t2 : ((vals.length : Int) != (want : Int)) with
            | true =>
              go_wp2_with (go_at_call 108; refine (fail_any _ R _ _ _ 2 HRr.out ⟨by omega, by omega⟩ ⟨by decide, by decide⟩).mono ?_; rintro e w5 ⟨E, rfl, hE, hp5, hb5⟩)
              go_ret2
              exact HBAD.out w5 E hb5 hE hp5
            | false =>
              have hvw2 : vals.length = want := by simp at t2; omega
              go_wp2
              go_ret2
              have hlw := HLL.out
              refine .good wr.heap.size dn line rfl (by omega) ?_ (by rw [← HVL.out]; exact hvw2) ⟨by rw [← HVL.out]; omega, fun p hp => Nat.le_trans (HPL.out p hp) hn2⟩ ?_ (by omega) (by rw [hlw]; exact HLINE.out) HCF.out ⟨((HS2.out.below.trans (HBW.out.mono (by omega))).alloc (by omega) _), fun k hk => (Below.heap_alloc _ _ _ (by have := hk.1; omega)).trans ((HBW.out.block k hk.1).trans (HS2.out.same k hk))⟩
              · refine ⟨_, vals, heap_alloc_at _ _, ?_, HVL.out, fun t h h' => ?_, by omega, by simp; omega⟩
                · have ho := HO.out
                  rw [hvw2] at ho
                  exact RArr.mono (RArr.lt (ho.rows (slCs_size b) (by decide) (by omega))) (fun k hk => Below.heap_alloc _ _ _ hk.2) (fun k hk => by have := hk.2; omega)
                · obtain ⟨v1, v2, v3, v4⟩ := HV.out t h h'
                  exact ⟨v1, v2, v3, fun u hu => by rw [((Below.refl _ _).alloc (Nat.le_refl _) _).cell (p := ⟨b, _, none⟩) (by show b < _; omega), HBW.out.cell (p := ⟨b, _, none⟩) hbl]; exact v4 u hu⟩
              · unfold ReaderAt
                rw [Below.heap_alloc _ _ _ (by omega)]
                have h9 := HRr.out
                unfold ReaderAt at h9
                rw [h9, hlw]
                simp
    · have hpe : pos + m = n := by omega
      have hpe2 : ((pos : Int) + (m : Int)) = (n : Int) := by omega
      go_wp2_with (go_at_call 108; refine (fail_any _ R _ _ _ 1 HR1.out ⟨by omega, by omega⟩ ⟨by decide, by decide⟩).mono ?_; rintro e w5 ⟨E, rfl, hE, hp5, hb5⟩)
      go_ret2
      have hz := HZ1.out
      exact .bad E rfl (by omega) hp5 ⟨HS1.out.below.trans (hb5.mono (by omega)), fun k hk => (hb5.block k (by have := hk.1; omega)).trans (HS1.out.same k hk)⟩

end Go.Proofs.Qxb6500666aGreatDoor
