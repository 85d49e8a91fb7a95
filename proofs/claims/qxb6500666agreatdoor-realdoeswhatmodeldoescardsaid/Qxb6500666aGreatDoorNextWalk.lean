/- The reader's lines, walked where they parse. -/
import Derived.Test.Qxb6500666aGreatDoorRenderWalk
namespace Go.Proofs.Qxb6500666aGreatDoor
open Go.RowKit
attribute [local go_sem ↓] exec_ldRow exec_ldChange exec_ldFile exec_stRow exec_stChange exec_stFile exec_bsRow exec_bsChange exec_slRows exec_bdChange exec_eqlRow exec_neqRow
attribute [local go_sem] run_ldRow run_ldChange run_ldFile run_stRow run_stChange run_stFile run_bsRow run_bsChange run_bdChange run_neqRow run_eqlRow rng_alloc_lt rng_alloc_at rng_drew rng_drewN rng_setCell_other rng_setRow_other whole_alloc_lt whole_alloc_at whole_drew whole_setCell_other whole_setRow_other setRow_alloc_at setRow_alloc_lt setRow_drew rowCs_size rowCs_ones rowCs_0 rowCs_1 rowCs_2 rowCs_3 rowCs_4 rowCs_5 rowCs_6 rowCs_7 rowCs_8 rowCs_9 rowCs_10 rowCs_11 rowCs_12 rowCs_all changeCs_size changeCs_ones changeCs_0 changeCs_row changeCs_all fileCs_size fileCs_ones fileCs_0 fileCs_1 fileCs_2 fileCs_3 fileCs_4 fileCs_all ext_const Ext.cell Ext.frozen Ext.rng Ext.whole

/-- What follows a line's first field. -/
def tailT : List (List Int) → List Int
  | [] => []
  | p :: r => 124 :: (p ++ tailT r)

theorem tailT_append (a b : List (List Int)) : tailT (a ++ b) = tailT a ++ tailT b := by
  induction a with
  | nil => rfl
  | cons p a ih => simp [tailT, ih]

/-- A text's fields bear no bar and no newline, and are not empty. -/
def PartOk (p : List Int) : Prop := p ≠ [] ∧ ∀ c ∈ p, c ≠ 124 ∧ c ≠ 10

theorem tailT_nonl : ∀ (r : List (List Int)), (∀ p ∈ r, PartOk p) → ∀ c ∈ tailT r, c ≠ 10
  | [], _, c, hc => by simp [tailT] at hc
  | p :: r, h, c, hc => by
    simp only [tailT, List.mem_cons, List.mem_append] at hc
    rcases hc with rfl | hc | hc
    · decide
    · exact ((h p (List.mem_cons_self ..)).2 c hc).2
    · exact tailT_nonl r (fun q hq => h q (List.mem_cons_of_mem _ hq)) c hc

/-- The reader at block R. -/
def ReaderAt (w : World) (R : Nat) (dv : Value) (pos line : Int) : Prop := w.heap[R]? = some (.cells #[dv, .int .i64 pos, .int .i64 line] 224 (0, 0))

/-- A slice into block b: its start, length, capacity; the bytes that it holds. -/
def slCs (b : Nat) (v : Nat × Nat × Nat) : Array Value := #[.slice (some ⟨b, v.1, none⟩) v.2.1 v.2.2]
def ValAt (w : World) (b : Nat) (v : Nat × Nat × Nat) (p : List Int) : Prop := v.2.1 = p.length ∧ p.length ≤ v.2.2 ∧ v.2.2 ≤ maxLen ∧ ∀ t (h : t < p.length), w.cell? ⟨b, v.1 + t, none⟩ = some (.int .u8 p[t])

theorem slCs_size (b : Nat) (v : Nat × Nat × Nat) : (slCs b v).size = 1 := rfl
theorem slCs_one (b : Nat) (v : Nat × Nat × Nat) : ∀ u ∈ (slCs b v).toList, u.oneCell' = true := by simp [slCs, Value.oneCell']
theorem Tryz.info55 : (Tryz.prog.info? 55).map (fun i => (i.zero, i.size, i.bytes)) = some (some (.slice none 0 0), 1, 24) := by kernel_rfl

/-- The fields at block g: the slices into block b, which is handed out next, the fault. -/
def FieldsAt (w : World) (g b : Nat) (ps : List (List Int)) (at' fault : Int) : Prop :=
  ∃ pv vals, w.heap[g]? = some (.cells #[pv, .int .i64 at', .int .u8 fault] 233 (0, 0)) ∧ RArr w (fun k => k < g) 1 (slCs b) pv vals ∧ vals.length = ps.length ∧ (∀ t (h : t < vals.length) (h' : t < ps.length), ValAt w b vals[t] ps[t]) ∧ b ≠ g ∧ b < w.heap.size

theorem cell3 {w : World} {g : Nat} {x y z : Value} {T : TypeId} (h : w.heap[g]? = some (.cells #[x, y, z] T (0, 0))) :
    w.cell? ⟨g, 0, none⟩ = some x ∧ w.cell? ⟨g, 1, none⟩ = some y ∧ w.cell? ⟨g, 2, none⟩ = some z ∧ (∀ j, w.frozen? ⟨g, j, none⟩ = false) ∧ g < w.heap.size :=
  ⟨by simp [World.cell?, h], by simp [World.cell?, h], by simp [World.cell?, h], fun j => by simp [World.frozen?, h], (Array.getElem?_eq_some_iff.1 h).1⟩

theorem heap_set3 {w : World} {g j : Nat} {cs : Array Value} {v : Value} {T : TypeId} (h : w.heap[g]? = some (.cells cs T (0, 0))) : (w.setCell ⟨g, j, none⟩ v).heap[g]? = some (.cells (cs.setIfInBounds j v) T (0, 0)) := heap_setCell_same _ _ _ _ _ _ h

theorem run_slBytes (w : World) (b off n cap lo hi : Nat) (h1 : lo ≤ hi) (h2 : hi ≤ cap) (h3 : lo < cap) :
    (Instr.sliceAt 55 (.slice (some ⟨b, off, none⟩) n cap) (some (.int .i64 (lo : Int))) (some (.int .i64 (hi : Int))) none).run Tryz.prog w = .ok (.slice (some ⟨b, off + lo, none⟩) (hi - lo) (cap - lo)) w := by
  simp [Instr.sliceAt, Instr.slice, run_underlying Tryz.underlying55, Instr.sliceBounds, Instr.sliceBound, asIntOf, h1, h2, Nat.ne_of_gt h3, Addr.add_lit]

set_option maxRecDepth 100000 in
set_option maxHeartbeats 4000000 in
theorem next_calls (w : World) (R : Nat) (n cap b off : Nat) (data pre line rest : List Int) (ln : Int) (p0 : List Int) (ps : List (List Int)) (want : Nat)
    (hR : ReaderAt w R (.slice (some ⟨b, off, none⟩) n cap) pre.length ln) (hbR : b ≠ R) (hcap : n ≤ cap ∧ cap ≤ maxLen) (hbl : b < w.heap.size) (hd : ∀ t (h : t < data.length), w.cell? ⟨b, off + t, none⟩ = some (.int .u8 data[t]))
    (hn : data.length = n) (hn2 : n ≤ 140737488355328) (hdata : data = pre ++ (line ++ 10 :: rest)) (hline : line = p0 ++ tailT ps) (hps : ∀ p ∈ p0 :: ps, PartOk p) (hw : ps.length + 1 = want) (hw2 : want ≤ 100) (hln : 0 ≤ ln ∧ ln ≤ 1000000) :
    Calls Tryz.prog 103 #[.pointer (some ⟨R, 0, none⟩), .int .i64 want] w fun e w' => ∃ g, e = .returned (.tuple #[.pointer (some ⟨g, 0, none⟩), .nilIface]) ∧ w.heap.size ≤ g ∧ FieldsAt w' g b (p0 :: ps) 0 0 ∧ ReaderAt w' R (.slice (some ⟨b, off, none⟩) n cap) (pre.length + line.length + 1) (ln + 1) ∧ Below R w w' ∧ Same (fun k => k < w.heap.size ∧ k ≠ R) w w' := by
  obtain ⟨P, hP⟩ : ∃ P, pre.length = P := ⟨_, rfl⟩
  obtain ⟨L, hL⟩ : ∃ L, line.length = L := ⟨_, rfl⟩
  have hnL : P + L < n := by rw [← hn, hdata]; simp; omega
  have hl : ∀ t (h : t < line.length), w.cell? ⟨b, off + (P + t), none⟩ = some (.int .u8 line[t]) := fun t h => by
    have h1 : P + t < data.length := by omega
    rw [hd _ h1]
    congr 2
    subst hdata
    simp [← hP, List.getElem_append_left, h]
  have hnl : w.cell? ⟨b, off + (P + L), none⟩ = some (.int .u8 10) := by
    have h1 : P + L < data.length := by omega
    rw [hd _ h1]
    congr 2
    subst hdata
    simp [← hP, ← hL]
  have hno : ∀ c ∈ line, c ≠ 10 := by
    rw [hline]
    intro c hc
    rcases List.mem_append.1 hc with h | h
    · exact ((hps p0 (List.mem_cons_self ..)).2 c h).2
    · exact tailT_nonl ps (fun p hp => hps p (List.mem_cons_of_mem _ hp)) c h
  rw [hP] at hR ⊢
  have HL := hide hl
  have HNo := hide hno
  have HPs := hide hps
  have HLi := hide hline
  have HRd := hide hR
  obtain ⟨r0, r1, r2, rf, hRl⟩ := cell3 hR
  have hix := run_indexAt_arr (P := Tryz.prog) (n := n) (cap := cap) Tryz.underlying55 Tryz.size5 (fun _ => (rfl : some (⟨b, off, none⟩ : Addr) = _))
  clear hl hno hps hline hdata hd hn
  go_enter Tryz.func103, Tryz.ntmps103
  go_upto_region 2 with fail
  have hR1 : ReaderAt (w.setCell ⟨R, 2, none⟩ (.int .i64 (ln + 1))) R (.slice (some ⟨b, off, none⟩) n cap) P (ln + 1) := by
    have := heap_set3 (j := 2) (v := .int .i64 (ln + 1)) hR
    simpa [ReaderAt] using this
  have hB1 : Below R w (w.setCell ⟨R, 2, none⟩ (.int .i64 (ln + 1))) := (Below.refl _ _).setCell (p := ⟨R, 2, none⟩) (Nat.le_refl _) _
  have hS1 : Same (fun k => k ≠ R) w (w.setCell ⟨R, 2, none⟩ (.int .i64 (ln + 1))) := fun k hk => Below.heap_setCell _ _ _ _ hk
  have hz1 : (w.setCell ⟨R, 2, none⟩ (.int .i64 (ln + 1))).heap.size = w.heap.size := by simp [World.setCell]
  clear r0 r1 r2 rf hR
  generalize w.setCell ⟨R, 2, none⟩ (.int .i64 (ln + 1)) = W1 at *
  have HLc : Hid (∀ t (h : t < line.length), W1.cell? ⟨b, off + (P + t), none⟩ = some (.int .u8 line[t])) := fun t h => by rw [hS1.cell (b := b) hbR]; exact HL.out t h
  have HNl : Hid (W1.cell? ⟨b, off + (P + L), none⟩ = some (.int .u8 10)) := by show _ = _; rw [hS1.cell (b := b) hbR]; exact hnl
  clear hnl
  obtain ⟨r0, r1, r2, rf, hRl1⟩ := cell3 hR1
  go_wp2
  go_loopg [6] L (fun g j W => ∃ e : Nat, e ≤ L ∧ g = L - e ∧ j = .int .i64 ((P + e : Nat) : Int) ∧ W1 = W)
  case atStart => exact ⟨0, by omega, by omega, rfl, rfl⟩
  case round =>
    obtain ⟨e, he, rfl, rfl, rfl⟩ := hrel
    by_cases hlt : e < L
    · have hel : e < line.length := by omega
      have c0 := HLc.out e hel
      have hc10 := HNo.out _ (List.getElem_mem hel)
      generalize line[e] = c at *
      have hne : (c != 10) = true := by simpa using hc10
      clear hc10
      go_wp2
      go_roundg (L - (e + 1))
      case measure => omega
      case rel => exact ⟨e + 1, by omega, rfl, by go_num, rfl⟩
    · obtain rfl : e = L := by omega
      have c0 := HNl.out
      have hsl : ∀ W, (Instr.sliceAt 55 (.slice (some ⟨b, off, none⟩) n cap) (some (.int .i64 (P : Int))) (some (.int .i64 ((P : Int) + e))) none).run Tryz.prog W = .ok (.slice (some ⟨b, off + P, none⟩) e (cap - P)) W := fun W => by
        have := run_slBytes W b off n cap P (P + e) (by omega) (by omega) (by omega)
        simpa using this
      go_upto_region 7 with fail
      go_region
      clear hsl c0
      obtain ⟨i0, hi0, hq0, hq1, hq2⟩ := info_parts Tryz.info55
      go_upto_block 2 with (at_make; refine wpList_make_own _ rfl _ _ 144 rfl w.heap.size 55 i0 _ 1 Tryz.underlying144 hi0 hq0 hq1 _ _ _ want rfl rfl (by omega) (by rw [hq2]; omega) (by unfold maxLen; omega) (by simp; omega) ?_; intro W2 hown0 hgr0)
      have hG1 : (W1.setCell ⟨R, 1, none⟩ (.int .i64 ((P : Int) + e + 1))).drew.heap.size = w.heap.size := by rw [← hz1]; simp [World.setCell]
      have hb2 : Below w.heap.size (W1.setCell ⟨R, 1, none⟩ (.int .i64 ((P : Int) + e + 1))).drew W2 := (Below.refl _ _).grown hgr0 (by omega) (fun k hk => by simp at hk)
      have hR2 : ReaderAt W2 R (.slice (some ⟨b, off, none⟩) n cap) ((P : Int) + e + 1) (ln + 1) := by
        have := heap_set3 (j := 1) (v := .int .i64 ((P : Int) + e + 1)) hR1
        unfold ReaderAt
        rw [hb2.block _ (by omega)]
        simp only [List.setIfInBounds_toArray, List.set_cons_succ, List.set_cons_zero] at this
        exact this
      have hS2 : Same (fun k => k < w.heap.size ∧ k ≠ R) w W2 := fun k hk => by
        rw [hb2.block _ hk.1]
        exact (Below.heap_setCell _ _ _ _ hk.2).trans (hS1 k hk.2)
      have hB2 : Below R w W2 := (hB1.setCell (p := ⟨R, 1, none⟩) (Nat.le_refl _) _).drew.trans (hb2.mono (by omega))
      have hown1 : OwnR W2 w.heap.size 55 1 (slCs b) (.slice (some ⟨w.heap.size, 0, none⟩) 0 want) [] := by
        rw [hG1] at hown0; exact hown0
      have hz2 : w.heap.size < W2.heap.size := (hown1.block _ rfl).2
      clear hown0 hgr0 hb2 hi0 hq0 hq1 hq2 hS1 hB1 hR1 r0 r1 r2 rf hRl1 HLc HNl hz1 hG1 hix
      have hix := run_indexAt_arr (P := Tryz.prog) (n := e) (cap := cap - P) Tryz.underlying55 Tryz.size5 (fun _ => (rfl : some (⟨b, off + P, none⟩ : Addr) = _))
      go_cut [8] (fun pv W => ∃ vals, OwnR W w.heap.size 55 1 (slCs b) pv vals ∧ vals.length = ps.length + 1 ∧ (∀ t (h : t < vals.length) (h' : t < (p0 :: ps).length), ValAt w b vals[t] (p0 :: ps)[t]) ∧ Below w.heap.size W2 W)
      case first =>
        go_wp2
        go_loopg [8, 9, 10] (e + 2) (fun g pv st j W => ∃ (vals : List (Nat × Nat × Nat)) (dn : List (List Int)) (s0 i1 : Nat), st = .int .i64 s0 ∧ j = .int .i64 i1 ∧ g = e + 2 - i1 ∧ OwnR W w.heap.size 55 1 (slCs b) pv vals ∧ vals.length = dn.length ∧ (∀ t (h : t < vals.length) (h' : t < dn.length), ValAt w b vals[t] dn[t]) ∧ Below w.heap.size W2 W ∧
          ((∃ bef x y more, p0 :: ps = dn ++ (x ++ y) :: more ∧ line = bef ++ (x ++ y) ++ tailT more ∧ s0 = bef.length ∧ i1 = bef.length + x.length) ∨ (p0 :: ps = dn ∧ i1 = e + 1)))
        case atStart => exact ⟨[], [], 0, 0, rfl, rfl, by omega, hown1, rfl, fun t h => absurd h (by simp), Below.refl _ _, Or.inl ⟨[], [], p0, ps, rfl, by simpa using HLi.out, rfl, rfl⟩⟩
        case round =>
          obtain ⟨vals, dn, s0, i1, rfl, rfl, rfl, hown, hvl, hva, hbW, hcase⟩ := hrel
          have HVa := hide hva
          have HVL := hide hvl
          obtain ⟨hvl1, hvl2⟩ : vals.length ≤ dn.length ∧ dn.length ≤ vals.length := by omega
          clear hva hvl
          rcases hcase with ⟨bef, x, y, more, hpp, hli, hs0, hi1⟩ | ⟨hdn, hi1⟩
          · have HPP := hide hpp
            have HLI := hide hli
            have hlen := congrArg List.length hli
            simp only [List.length_append] at hlen
            have hple := congrArg List.length hpp
            simp only [List.length_append, List.length_cons] at hple
            have HS0 := hide hs0
            have HI1 := hide hi1
            obtain ⟨hs1, hs2⟩ : s0 ≤ bef.length ∧ bef.length ≤ s0 := by omega
            obtain ⟨hi2, hi3⟩ : i1 ≤ bef.length + x.length ∧ bef.length + x.length ≤ i1 := by omega
            clear hpp hli hs0 hi1
            have hsz : w.heap.size ≤ wr.heap.size := by have := hbW.size; omega
            have hcells : ∀ t (h : t < line.length), wr.cell? ⟨b, off + P + t, none⟩ = some (.int .u8 line[t]) := fun t h => by
              rw [hbW.cell (p := ⟨b, off + P + t, none⟩) hbl, hS2.cell (b := b) ⟨hbl, hbR⟩, Nat.add_assoc]
              exact HL.out t h
            have hbw : b < wr.heap.size := by omega
            cases y with
            | cons c y =>
              have hil : i1 < line.length := by simp at hlen; omega
              have c0 := hcells i1 hil
              have hc : line[i1] = c := by
                have h1 : line[i1]? = some c := by
                  rw [HLI.out, HI1.out]
                  simp
                rw [List.getElem?_eq_getElem hil] at h1
                exact Option.some.inj h1
              have hc2 : (c == 124) = false := by
                have := ((HPs.out (x ++ c :: y) (by rw [HPP.out]; simp)).2 c (by simp)).1
                simpa using this
              rw [hc] at c0
              have hie : i1 < e := by omega
              have hie2 : ((i1 : Int) == (e : Int)) = false := by simp; omega
              clear hcells hc
              go_wp2
              go_roundg (e + 2 - (i1 + 1))
              case measure => omega
              case rel => exact ⟨vals, dn, s0, i1 + 1, rfl, by go_num, rfl, hown, HVL.out, HVa.out, hbW, Or.inl ⟨bef, x ++ [c], y, more, by rw [HPP.out]; simp, by rw [HLI.out]; simp, HS0.out, by simp; omega⟩⟩
            | nil =>
              have hx0 : x ≠ [] := by
                have := (HPs.out (x ++ []) (by rw [HPP.out]; simp)).1
                simpa using this
              have hxl : 0 < x.length := List.length_pos_iff.2 hx0
              simp only [List.length_nil, Nat.add_zero] at hlen hple
              have hval : ValAt w b (off + P + s0, i1 - s0, cap - P - s0) x := by
                refine ⟨by simp; omega, by simp; omega, by simp; have := hcap.2; omega, fun t ht => ?_⟩
                have h1 : s0 + t < line.length := by omega
                have h2 := HL.out (s0 + t) h1
                rw [show off + P + s0 + t = off + (P + (s0 + t)) by omega, h2]
                have h3 : line[s0 + t]? = some x[t] := by
                  rw [HLI.out, HS0.out]
                  simp [List.getElem?_append, ht]
                rw [List.getElem?_eq_getElem h1] at h3
                rw [Option.some.inj h3]
              have hsl := fun W => run_slBytes W b (off + P) e (cap - P) s0 i1 (by omega) (by omega) (by omega)
              have hvw : ((vals.length : Int) == (want : Int)) = false := by simp; omega
              have HNew : Hid (∀ t (h : t < (vals ++ [(off + P + s0, i1 - s0, cap - P - s0)]).length) (h' : t < (dn ++ [x]).length), ValAt w b (vals ++ [(off + P + s0, i1 - s0, cap - P - s0)])[t] (dn ++ [x])[t]) := fun t h h' => by
                by_cases htl : t < vals.length
                · rw [List.getElem_append_left htl, List.getElem_append_left (by omega)]
                  exact HVa.out t htl (by omega)
                · obtain rfl : t = vals.length := by simp at h; omega
                  have e1 : (vals ++ [(off + P + s0, i1 - s0, cap - P - s0)])[vals.length] = (off + P + s0, i1 - s0, cap - P - s0) := by simp
                  have e2 : (dn ++ [x])[vals.length]'h' = x := by simp [HVL.out]
                  rw [e1, e2]; exact hval
              obtain ⟨ap, capp, hvp⟩ := hown.form
              subst hvp
              cases more with
              | nil =>
                obtain ⟨hie1, hie3⟩ : i1 ≤ e ∧ e ≤ i1 := by simp [tailT] at hlen; omega
                have hie2 : ((i1 : Int) == (e : Int)) = true := by simp; omega
                clear hcells
                go_wp2_with (at_builtin; refine wpList_app1 (α := Nat × Nat × Nat) rfl _ _ 144 rfl w.heap.size 55 (slCs b) Tryz.underlying144 Tryz.info55 rfl (by decide) (slCs_size b) (slCs_one b) (.slice ap vals.length capp) vals rfl (OwnR.below hown ((Below.refl _ _).alloc (Nat.le_refl _) _) (Nat.le_refl _)) _ rfl (off + P + s0, i1 - s0, cap - P - s0) ((rng_alloc_at _ _ _ _ _ _ _ rfl).trans rfl) (by omega) (by unfold maxLen; omega) (by simp; omega) ?_; intro v1 w1 hown1 hsame1 hbel1 hat1)
                go_roundg (e + 2 - (i1 + 1))
                case measure => omega
                case rel => exact ⟨vals ++ [(off + P + s0, i1 - s0, cap - P - s0)], dn ++ [x], i1 + 1, i1 + 1, by go_num, by go_num, rfl, hown1, by simp [HVL.out], HNew.out, hbW.trans (((Below.refl _ _).alloc hsz _).trans hbel1), Or.inr ⟨by rw [HPP.out]; simp, by omega⟩⟩
              | cons q more =>
                have hil : i1 < line.length := by simp [tailT] at hlen; omega
                have c0 := hcells i1 hil
                have hc : line[i1] = 124 := by
                  have h1 : line[i1]? = some 124 := by
                    rw [HLI.out, HI1.out]
                    simp [tailT]
                  rw [List.getElem?_eq_getElem hil] at h1
                  exact Option.some.inj h1
                rw [hc] at c0
                have hie : i1 < e := by omega
                have hie2 : ((i1 : Int) == (e : Int)) = false := by simp; omega
                clear hcells hc
                go_wp2_with (at_builtin; refine wpList_app1 (α := Nat × Nat × Nat) rfl _ _ 144 rfl w.heap.size 55 (slCs b) Tryz.underlying144 Tryz.info55 rfl (by decide) (slCs_size b) (slCs_one b) (.slice ap vals.length capp) vals rfl (OwnR.below hown ((Below.refl _ _).alloc (Nat.le_refl _) _) (Nat.le_refl _)) _ rfl (off + P + s0, i1 - s0, cap - P - s0) ((rng_alloc_at _ _ _ _ _ _ _ rfl).trans rfl) (by omega) (by unfold maxLen; omega) (by simp; omega) ?_; intro v1 w1 hown1 hsame1 hbel1 hat1)
                go_roundg (e + 2 - (i1 + 1))
                case measure => omega
                case rel => exact ⟨vals ++ [(off + P + s0, i1 - s0, cap - P - s0)], dn ++ [x], i1 + 1, i1 + 1, by go_num, by go_num, rfl, hown1, by simp [HVL.out], HNew.out, hbW.trans (((Below.refl _ _).alloc hsz _).trans hbel1), Or.inl ⟨bef ++ x ++ [124], [], q, more, by rw [HPP.out]; simp, by rw [HLI.out]; simp [tailT], by simp; omega, by simp; omega⟩⟩
          · subst hi1
            go_wp2
            go_meet
            case rel => exact ⟨vals, hown, by rw [HVL.out, ← hdn]; simp, by rw [hdn]; exact HVa.out, hbW⟩
      case rest =>
      obtain ⟨vals, hown, hvl, hva, hbW⟩ := hcut
      have HVa := hide hva
      clear hva
      obtain ⟨ap, capp, hvp⟩ := hown.form
      rw [hvl, hw] at hvp
      subst hvp
      have hws : w.heap.size ≤ wc.heap.size := by have := hbW.size; omega
      go_wp2
      go_ret2
      refine ⟨wc.heap.size, rfl, hws, ?_, ?_, ?_, ?_⟩
      · refine ⟨_, vals, heap_alloc_at _ _, ?_, by rw [hvl]; rfl, fun t h h' => ?_, by omega, by simp; omega⟩
        · exact RArr.mono (RArr.lt (hown.rows (slCs_size b) (by decide) (by omega))) (fun k hk => Below.heap_alloc _ _ _ hk.2) (fun k hk => by have := hk.2; omega)
        · obtain ⟨v1, v2, v3, v4⟩ := HVa.out t h h'
          exact ⟨v1, v2, v3, fun u hu => by rw [((Below.refl _ _).alloc (Nat.le_refl _) _).cell (p := ⟨b, _, none⟩) (by show b < _; omega), hbW.cell (p := ⟨b, _, none⟩) hbl, hS2.cell (b := b) ⟨hbl, hbR⟩]; exact v4 u hu⟩
      · unfold ReaderAt
        rw [Below.heap_alloc _ _ _ (by omega), hbW.block _ (by omega), hL]
        exact hR2
      · exact (hB2.trans (hbW.mono (by omega))).alloc (by omega) _
      · exact fun k hk => by rw [Below.heap_alloc _ _ _ (by have := hk.1; omega), hbW.block _ hk.1]; exact hS2 k hk

end Go.Proofs.Qxb6500666aGreatDoor
