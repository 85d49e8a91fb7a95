/- checkList, checkVisit, walked. -/
import Derived.Test.Qxb6500665aDoorVerWalk
import Derived.Test.Qxb6500665aDoorSort
namespace Go.Proofs.Qxb6500665aDoor
open Go.RowKit

abbrev errW (k : Int) : Value := .iface 36 (.int .u8 k)
/-- An error, or none. -/
def errOr (k : Int) : Value := if k = 0 then .nilIface else errW k
theorem errOr_zero : errOr 0 = .nilIface := rfl
theorem errOr_pos {k : Int} (h : k ≠ 0) : errOr k = errW k := if_neg h

def listErr (ids : List Int) (most : Nat) : Int := if ids.length = 0 ∨ most < ids.length then 7 else if ids.Nodup then 0 else 8
def visErr (v : Visit) : Int :=
  if v.id = 0 then 2 else if v.target < -3650 ∨ 3650 < v.target then 10 else if v.early < 0 ∨ 365 < v.early ∨ v.late < 0 ∨ 365 < v.late then 11 else listErr v.panels 6

theorem run_slU32 (w : World) (b off n cap hi : Nat) (h2 : hi ≤ cap) (h3 : 0 < cap) :
    (Instr.sliceAt 31 (.slice (some ⟨b, off, none⟩) n cap) none (some (.int .i64 (hi : Int))) none).run Tryd.prog w = .ok (.slice (some ⟨b, off, none⟩) hi cap) w := by
  simp [Instr.sliceAt, Instr.slice, run_underlying Tryd.underlying31, Instr.sliceBounds, Instr.sliceBound, asIntOf, h2, Nat.ne_of_gt h3]
  simp [Addr.add_lit]

theorem nodup_take_succ {ids : List Int} {i : Nat} (h : i < ids.length) (hn : (ids.take i).Nodup) (hx : ids[i] ∉ ids.take i) : (ids.take (i + 1)).Nodup := by
  rw [List.take_succ_eq_append_getElem h, List.nodup_append]
  exact ⟨hn, by simp, fun a ha b hb => by rw [List.mem_singleton.1 hb]; intro e; exact hx (e ▸ ha)⟩

set_option maxRecDepth 100000 in
set_option maxHeartbeats 2000000 in
theorem checkList_calls (w : World) (ok : Nat → Prop) (iv : Value) (ids : List Int) (most : Nat) (h : U32sAt w ok iv ids) (hm : most ≤ 1000000) :
    Calls Tryd.prog 51 #[iv, .int .i64 most] w fun e w' => e = .returned (errOr (listErr ids most)) ∧ w = w' := by
  obtain ⟨n, hnn⟩ : ∃ n, ids.length = n := ⟨_, rfl⟩
  obtain ⟨a, cap, b, off, rfl, r1, r2, r3, r4, ha, hc⟩ := h.parts n hnn
  obtain ⟨V, hV⟩ : ∃ V, V = errOr (listErr ids most) := ⟨_, rfl⟩
  have HV := hide hV
  rw [← hV]
  clear hV
  rcases Nat.eq_zero_or_pos n with rfl | hpos
  · have HE : Hid (V = errW 7) := by show _ = _; rw [HV.out, listErr, if_pos (Or.inl hnn)]; rfl
    clear ha hc hnn h
    go_enter Tryd.func51, Tryd.ntmps51
    go_wp2
    go_ret
    exact ⟨by rw [HE.out]; rfl, rfl⟩
  · by_cases hlt : most < n
    · have HE : Hid (V = errW 7) := by show _ = _; rw [HV.out, listErr, if_pos (Or.inr (by omega))]; rfl
      have hn0 : ((n : Int) == 0) = false := by simp; omega
      have hd : decide ((most : Int) < (n : Int)) = true := decide_eq_true (by omega)
      clear ha hc hnn h
      go_enter Tryd.func51, Tryd.ntmps51
      go_wp2
      go_ret
      exact ⟨by rw [HE.out]; rfl, rfl⟩
    · obtain ⟨rfl, -, hbl⟩ := ha hpos
      have HE : Hid (V = if ids.Nodup then .nilIface else errW 8) := by
        show _ = _
        rw [HV.out, listErr, if_neg (by omega)]
        split <;> rfl
      have hn0 : ((n : Int) == 0) = false := by simp; omega
      have hd : decide ((most : Int) < (n : Int)) = false := decide_eq_false (by omega)
      have hd' : decide (most < n) = false := decide_eq_false hlt
      have hi := run_indexAt_arr (P := Tryd.prog) (n := n) (cap := cap) Tryd.underlying31 Tryd.size29 (fun _ => (rfl : some (⟨b, off, none⟩ : Addr) = _))
      have HC := hide hc
      have Hn := hide hnn
      clear ha hc hnn h
      go_enter Tryd.func51, Tryd.ntmps51
      go_wp2
      go_loopw [21] (fun j wr => ∃ q : Nat, q ≤ n ∧ j = .int .i64 q ∧ Hid ((ids.take q).Nodup) ∧ w = wr) (fun j _ => n - (intOf j).toNat)
      case atStart => exact ⟨0, by omega, rfl, by show (List.take 0 ids).Nodup; simp, rfl⟩
      case round =>
        obtain ⟨q, hq, rfl, HN, rfl⟩ := hrel
        by_cases hlt2 : q < n
        · have hql : q < ids.length := by rw [Hn.out]; exact hlt2
          have c0 := HC.out q hql
          have hsl := fun W => run_slU32 W b off n cap q (by omega) (by omega)
          have hi2 := run_indexAt_arr (P := Tryd.prog) (n := q) (cap := cap) Tryd.underlying31 Tryd.size29 (fun _ => (rfl : some (⟨b, off, none⟩ : Addr) = _))
          have HM := hide (fun hx => nodup_take_succ hql HN.out hx)
          generalize hx : ids[q] = x at *
          have HX := hide hx
          clear hx
          go_wp2
          go_loopw [30] (fun j wr => ∃ p : Nat, p ≤ q ∧ j = .int .i64 p ∧ Hid (x ∉ ids.take p) ∧ w = wr) (fun j _ => q - (intOf j).toNat)
          case atStart => exact ⟨0, by omega, rfl, by show x ∉ List.take 0 ids; simp, rfl⟩
          case round =>
            obtain ⟨p, hp, rfl, HP, rfl⟩ := hrel
            by_cases hlt3 : p < q
            · have hpl : p < ids.length := by omega
              have d0 := HC.out p hpl
              have HT := hide (List.take_succ_eq_append_getElem hpl)
              generalize hy : ids[p] = y at *
              have HYY := hide hy
              by_cases hxy : x = y
              · have hb1 : (x == y) = true := by simp [hxy]
                have HND : Hid (V = errW 8) := by
                  show _ = _
                  rw [HE.out, if_neg]
                  intro hnd
                  have := (List.getElem_inj (h₀ := hql) (h₁ := hpl) hnd).1 (by rw [HX.out, HYY.out]; exact hxy)
                  omega
                clear hxy hy
                go_wp2
                go_ret
                exact ⟨by rw [HND.out]; rfl, rfl⟩
              · have hb1 : (x == y) = false := by simp [hxy]
                have HP1 : Hid (x ∉ ids.take (p + 1)) := by
                  show _ ∉ _
                  rw [HT.out]
                  intro hmem
                  rcases List.mem_append.1 hmem with h | h
                  · exact HP.out h
                  · exact hxy (List.mem_singleton.1 h)
                clear hxy hy
                go_wp2
                go_roundw
                case measure => simp [intOf]; omega
                case rel => exact ⟨p + 1, by omega, by go_num, HP1, by first | rfl | trivial⟩
            · have hpq : p = q := by omega
              subst hpq
              have HN1 := hide (HM.out HP.out)
              go_wp2
              go_roundw
              case measure => simp [intOf]; omega
              case rel => exact ⟨p + 1, by omega, by go_num, HN1, by first | rfl | trivial⟩
        · have HND : Hid (V = .nilIface) := by
            show _ = _
            have := HN.out
            rw [List.take_of_length_le (by rw [Hn.out]; omega)] at this
            rw [HE.out, if_pos this]
          go_wp2
          go_ret
          exact ⟨by rw [HND.out]; rfl, rfl⟩

set_option maxRecDepth 100000 in
set_option maxHeartbeats 2000000 in
theorem checkVisit_calls (w : World) (ok : Nat → Prop) (z : ZV) (h : U32sAt w ok (sv z.2) z.1.panels) (hz : z.1.Ok) :
    Calls Tryd.prog 54 #[.agg (vzCs z)] w fun e w' => e = .returned (errOr (visErr z.1)) ∧ Below w.heap.size w w' := by
  obtain ⟨⟨id, ta, ea, la, pan⟩, ⟨pa, pn, pc⟩⟩ := z
  obtain ⟨⟨i1, i2⟩, ⟨t1, t2⟩, ⟨f1, f2⟩, ⟨l1, l2⟩, -⟩ := hz
  simp only at i1 i2 t1 t2 f1 f2 l1 l2 h
  simp only [vzCs, sv, visErr]
  have hbw : Below w.heap.size w (w.alloc (.cells #[.int .u32 id, .int .i64 ta, .int .i64 ea, .int .i64 la, .slice pa pn pc] 63)) := (Below.refl _ _).alloc (Nat.le_refl _) _
  have HC := hide (checkList_calls _ ok _ pan 6 (h.below hbw) (by decide))
  simp only [sv] at HC
  clear h
  by_cases h1 : id = 0
  · subst h1
    go_enter Tryd.func54, Tryd.ntmps54
    go_wp2
    go_ret
    exact ⟨rfl, hbw⟩
  · have hb1 : (id == 0) = false := by simp [h1]
    rw [if_neg h1]
    clear h1
    by_cases h2 : ta < -3650 ∨ 3650 < ta
    · rw [if_pos h2]
      by_cases h3 : ta < -3650
      · clear h2
        go_enter Tryd.func54, Tryd.ntmps54
        go_wp2
        go_ret
        exact ⟨rfl, hbw⟩
      · have h4 : 3650 < ta := by omega
        clear h2
        go_enter Tryd.func54, Tryd.ntmps54
        go_wp2
        go_ret
        exact ⟨rfl, hbw⟩
    · rw [if_neg h2]
      have h3 : ¬ ta < -3650 := by omega
      have h4 : ¬ 3650 < ta := by omega
      clear h2
      by_cases h5 : ea < 0 ∨ 365 < ea ∨ la < 0 ∨ 365 < la
      · rw [if_pos h5]
        by_cases k1 : ea < 0
        · clear h5
          go_enter Tryd.func54, Tryd.ntmps54
          go_wp2
          go_ret
          exact ⟨rfl, hbw⟩
        · by_cases k2 : 365 < ea
          · clear h5
            go_enter Tryd.func54, Tryd.ntmps54
            go_wp2
            go_ret
            exact ⟨rfl, hbw⟩
          · by_cases k3 : la < 0
            · clear h5
              go_enter Tryd.func54, Tryd.ntmps54
              go_wp2
              go_ret
              exact ⟨rfl, hbw⟩
            · have k4 : 365 < la := by omega
              clear h5
              go_enter Tryd.func54, Tryd.ntmps54
              go_wp2
              go_ret
              exact ⟨rfl, hbw⟩
      · rw [if_neg h5]
        have k1 : ¬ ea < 0 := by omega
        have k2 : ¬ 365 < ea := by omega
        have k3 : ¬ la < 0 := by omega
        have k4 : ¬ 365 < la := by omega
        clear h5
        generalize listErr pan 6 = L at *
        go_enter Tryd.func54, Tryd.ntmps54
        go_wp2_with (go_at_call 51; refine HC.out.mono ?_; rintro e w1 ⟨rfl, rfl⟩)
        go_ret
        exact ⟨rfl, hbw⟩

end Go.Proofs.Qxb6500665aDoor
