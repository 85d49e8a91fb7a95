/- The list field of a line, both ways. (Made by tools/mk_xlst.py.) -/
import Derived.Test.Qxb6500666aGreatDoorXNm
namespace Go.Proofs.Qxb6500666aGreatDoor
open Go.RowKit

/-- The list as it stands between two bars. -/
def lsp (ids : List Int) : List Int := if ids.length = 0 then [45] else lstT 0 ids
theorem lstText_lsp (ids : List Int) : lstText ids = 124 :: lsp ids := by
  unfold lstText lsp
  cases ids with
  | nil => rfl
  | cons x r => simp
def lstC (ids : List Int) : List Int := flatL (fun y => dec y ++ [44]) ids
theorem lstC_snoc (ids : List Int) (x : Int) : lstC (ids ++ [x]) = lstC ids ++ (dec x ++ [44]) := flatL_snoc _ _ _
theorem lstT_C1 (x : Int) : ∀ (ids : List Int) (i : Nat), lstT (i + 1) (ids ++ [x]) = 44 :: (lstC ids ++ dec x)
  | [], i => by simp [lstT, lstC, flatL]
  | y :: r, i => by
    show (if 0 < i + 1 then [44] else []) ++ dec y ++ lstT (i + 2) (r ++ [x]) = 44 :: (((dec y ++ [44]) ++ lstC r) ++ dec x)
    rw [lstT_C1 x r (i + 1), if_pos (by omega)]
    simp
theorem lstT_C (x : Int) (ids : List Int) : lstT 0 (ids ++ [x]) = lstC ids ++ dec x := by
  cases ids with
  | nil => simp [lstT, lstC, flatL]
  | cons y r =>
    show (if 0 < 0 then [44] else []) ++ dec y ++ lstT (0 + 1) (r ++ [x]) = ((dec y ++ [44]) ++ lstC r) ++ dec x
    rw [lstT_C1 x r 0]
    simp
theorem dec_no44 (x : Int) : ∀ c ∈ dec x, c ≠ 44 := fun c hc => by have := dec_range x c hc; omega
theorem split_lstC (rest : List Int) : ∀ ids : List Int, splitB 44 (lstC ids ++ rest) = ids.map dec ++ splitB 44 rest
  | [] => rfl
  | y :: r => by
    show splitB 44 (((dec y ++ [44]) ++ lstC r) ++ rest) = _
    rw [List.append_assoc, List.append_assoc]
    show splitB 44 (dec y ++ 44 :: (lstC r ++ rest)) = _
    rw [splitB_at (dec_no44 y), split_lstC rest r]
    rfl
theorem split_lsp {ids : List Int} (h : ids ≠ []) : splitB 44 (lsp ids) = ids.map dec := by
  obtain ⟨l, x, rfl⟩ : ∃ l x, ids = l ++ [x] := ⟨ids.dropLast, ids.getLast h, (List.dropLast_concat_getLast h).symm⟩
  unfold lsp
  rw [if_neg (by simp), lstT_C, split_lstC, splitB_none (dec_no44 x)]
  simp
structure LsI (p : List Int) (s0 q : Nat) (ids : List Int) : Prop where
  pre : p.take s0 = lstC ids
  lo : s0 ≤ q
  hi : q ≤ p.length
  nc : ∀ t (h : t < p.length), s0 ≤ t → t < q → p[t] ≠ 44
def LsO (p : List Int) (s0 q : Nat) (ids : List Int) : Prop := LsI p s0 q ids ∨ (q = p.length + 1 ∧ ids ≠ [] ∧ p = lstT 0 ids)
def pcO (p : List Int) (s0 q : Nat) : List Int := (p.drop s0).take (q - s0)
section
variable {p : List Int} {s0 q : Nat} {ids : List Int}
theorem LsI.zero (p : List Int) : LsI p 0 0 [] := ⟨rfl, Nat.le_refl _, by omega, fun t h h1 h2 => (by omega)⟩
theorem LsI.skip (h : LsI p s0 q ids) (hq : q < p.length) (hc : p[q] ≠ 44) : LsI p s0 (q + 1) ids := by
  refine ⟨h.pre, by have := h.lo; omega, hq, fun t ht h1 h2 => ?_⟩
  by_cases e : t = q
  · subst e; exact hc
  · exact h.nc t ht h1 (by omega)
theorem LsI.pc_no (h : LsI p s0 q ids) : ∀ c ∈ pcO p s0 q, c ≠ 44 := fun c hc => by
  have hc : c ∈ (p.drop s0).take (q - s0) := hc
  obtain ⟨t, ht, rfl⟩ := List.getElem_of_mem hc
  have h1 : t < q - s0 := by rw [List.length_take] at ht; omega
  have h2 := h.hi
  rw [List.getElem_take, List.getElem_drop]
  exact h.nc _ (by omega) (by omega) (by omega)
theorem LsI.pc_end (h : LsI p s0 q ids) (hq : q = p.length) : p = lstC ids ++ pcO p s0 q := by
  unfold pcO
  rw [List.take_of_length_le (by rw [List.length_drop]; omega), ← h.pre, List.take_append_drop]
theorem LsI.pc_mid (h : LsI p s0 q ids) (hq : q < p.length) (hc : p[q] = 44) : p = lstC ids ++ (pcO p s0 q ++ 44 :: p.drop (q + 1)) := by
  have h1 := h.lo
  have h2 : p.drop s0 = pcO p s0 q ++ p.drop q := by
    unfold pcO
    have h3 : p.drop q = (p.drop s0).drop (q - s0) := by rw [List.drop_drop, show s0 + (q - s0) = q by omega]
    rw [h3, List.take_append_drop]
  rw [List.drop_eq_getElem_cons hq, hc] at h2
  rw [← h2, ← h.pre, List.take_append_drop]
theorem LsI.split (h : LsI p s0 q ids) (hc : ∀ hq : q < p.length, p[q] = 44) : ∃ R, splitB 44 p = ids.map dec ++ pcO p s0 q :: R := by
  by_cases hq : q < p.length
  · have h1 := h.pc_mid hq (hc hq)
    refine ⟨splitB 44 (p.drop (q + 1)), ?_⟩
    have h2 : splitB 44 (lstC ids ++ (pcO p s0 q ++ 44 :: p.drop (q + 1))) = ids.map dec ++ pcO p s0 q :: splitB 44 (p.drop (q + 1)) := by rw [split_lstC, splitB_at h.pc_no]
    rw [← h1] at h2
    exact h2
  · have h1 := h.pc_end (by have := h.hi; omega)
    refine ⟨[], ?_⟩
    have h2 : splitB 44 (lstC ids ++ pcO p s0 q) = ids.map dec ++ pcO p s0 q :: [] := by rw [split_lstC, splitB_none h.pc_no]
    rw [← h1] at h2
    exact h2
theorem LsI.add (h : LsI p s0 q ids) (hc : ∀ hq : q < p.length, p[q] = 44) {x : Int} (hx : pcO p s0 q = dec x) : LsO p (q + 1) (q + 1) (ids ++ [x]) := by
  by_cases hq : q < p.length
  · refine Or.inl ⟨?_, Nat.le_refl _, hq, fun t h0 h1 h2 => (by omega)⟩
    have h1 := h.pc_mid hq (hc hq)
    rw [hx] at h1
    have h2 : (p.take (q + 1)) ++ p.drop (q + 1) = lstC (ids ++ [x]) ++ p.drop (q + 1) := by
      rw [List.take_append_drop, lstC_snoc]
      simpa using h1
    exact List.append_cancel_right h2
  · have h1 := h.pc_end (by have := h.hi; omega)
    have := h.hi
    refine Or.inr ⟨by omega, by simp, ?_⟩
    rw [lstT_C, ← hx]
    exact h1
theorem LsI.bad (h : LsI p s0 q ids) (hc : ∀ hq : q < p.length, p[q] = 44) (hx : ¬ IsU32 (pcO p s0 q) ∨ ids.length = 12) (h45 : p ≠ [45]) (l : List Int) (hl : l.length ≤ 12) (hu : ∀ y ∈ l, U32 y) : p ≠ lsp l := fun e => by
  have hne : l ≠ [] := fun e2 => by subst e2; exact h45 e
  obtain ⟨R, hR⟩ := h.split hc
  rw [e, split_lsp hne] at hR
  have h1 : (l.map dec)[ids.length]? = some (pcO p s0 q) := by
    rw [hR, List.getElem?_append_right (by simp)]
    rw [e]
    simp
  rw [List.getElem?_map] at h1
  cases hy : l[ids.length]? with
  | none => rw [hy] at h1; cases h1
  | some y =>
    rw [hy] at h1
    injection h1 with h1
    have hm := List.mem_of_getElem? hy
    have hlt := (List.getElem?_eq_some_iff.1 hy).1
    rcases hx with hx | hx
    · exact hx ⟨y, hu y hm, h1.symm⟩
    · omega
end
def LstX (w w' : World) (g b : Nat) (ps : List (List Int)) (k : Nat) (f : Int) (e : Ending) : Prop := ∃ v ids f', e = .returned v ∧ OwnR w' w.heap.size 48 1 u32Cs v ids ∧ ids.length ≤ 12 ∧ (∀ y ∈ ids, U32 y) ∧ ((f' = f ∧ ps[k]? = some (lsp ids)) ∨ (f' = spf f 4 ∧ ∀ l : List Int, l.length ≤ 12 → (∀ y ∈ l, U32 y) → ps[k]? ≠ some (lsp l))) ∧ FieldsAt w' g b ps ((k + 1 : Nat) : Int) f' ∧ Upn g w w' ∧ Below g w w'

set_option maxRecDepth 100000 in
set_option maxHeartbeats 2000000 in
theorem flist_x (w : World) (g b : Nat) (ps : List (List Int)) (k : Nat) (f : Int) (h : FieldsAt w g b ps k f) (hk : k < ps.length) (hp : PsL ps) (hB : ∀ p ∈ ps, ByteL p) :
    Calls Tryz.prog 143 #[.pointer (some ⟨g, 0, none⟩)] w fun e w' => LstX w w' g b ps k f e := by
  have HBL := hide (hB _ (List.getElem_mem hk))
  have HPK : Hid (ps[k]? = some ps[k]) := List.getElem?_eq_getElem hk
  clear hB
  have hpl := hp.each _ (List.getElem_mem hk)
  have HH := hide h
  clear h
  go_enter Tryz.func143, Tryz.ntmps143
  go_upto_region 2 with (go_at_call 156; refine (take_calls _ g b ps k f HH.out hk hp.len hpl).mono ?_; rintro e w1 ⟨o, c, rfl, hB, hF, hU⟩)
  have HBC : Hid (∀ t, t < ps[k].length → w1.cell? ⟨b, o + t, none⟩ = some (.int .u8 (ps[k].getD t 0))) := fun t ht => by rw [bytesAt_cells hB t ht]; simp [List.getD, ht]
  obtain ⟨a1, cap1, b1, off1, hv, -, hcc, hcm, -, -, -⟩ := BytesAt.parts hB _ rfl
  injection hv with hv1 hv2 hv3
  subst hv3
  have HFD := hide hF
  have HU := hide hU
  clear hB hF hU HH hv1 hv2
  generalize ps[k] = p at *
  generalize hn : p.length = n at *
  have HN := hide hn
  clear hn
  have hcell : ∀ t, t < n → w1.cell? ⟨b, o + t, none⟩ = some (.int .u8 (p.getD t 0)) := fun t ht => HBC.out t ht
  have hbl : 0 < n → b < w1.heap.size := fun h => by
    exact cell_blk (hcell 0 h)
  go_cut [19] (fun v W => (∃ t : Bool, v = .bool t ∧ Hid (t = true ↔ p = [45])) ∧ w1 = W)
  case first =>
    as_aux_lemma =>
      by_cases h1 : n = 1
      · subst h1
        have hx := hcell 0 (by omega)
        obtain ⟨c0, hc0⟩ : ∃ c0, p = [c0] := List.length_eq_one_iff.1 HN.out
        have e0 : p.getD 0 0 = c0 := by rw [hc0]; rfl
        rw [e0] at hx
        have HIF : Hid (((c0 == 45) : Bool) = true ↔ p = [45]) := by
          show _ ↔ _
          rw [hc0]
          simp
        have hbb := hbl (by omega)
        rw [Nat.add_zero] at hx
        clear hc0 e0
        go_wp2
        go_meet
        case rel => exact ⟨⟨_, rfl, HIF⟩, rfl⟩
      · have t1 : ((n : Int) == 1) = false := by simp; omega
        have HIF : Hid (false = true ↔ p = [45]) := ⟨fun e => (by cases e), fun e => absurd (by rw [← HN.out, e]; rfl) h1⟩
        go_wp2
        go_meet
        case rel => exact ⟨⟨_, rfl, HIF⟩, rfl⟩
  case rest =>
  obtain ⟨⟨t0, rfl, HIF⟩, rfl⟩ := hcut
  cases t0 with
  | true =>
    have HE := hide (HIF.out.1 rfl)
    clear HIF
    go_wp2
    go_ret
    exact ⟨_, [], f, rfl, OwnR.nil _ _ _ _ _, by simp, by simp, Or.inl ⟨rfl, by rw [HPK.out, HE.out]; rfl⟩, HFD.out, HU.out.upn, HU.out.below⟩
  | false =>
  have H45 : Hid (p ≠ [45]) := fun e => by have := HIF.out.2 e; cases this
  clear HIF
  go_upto_region 7 with fail
  have hu12 : ∀ m : Nat, ((m : Int) == 12) = false → m ≠ 12 := fun m h e => by subst e; simp at h
  go_loopg [4, 5, 6] (n + 1) (fun gk v s i W => ∃ (q s0 : Nat) (ids : List Int), q ≤ n + 1 ∧ s0 ≤ q ∧ gk = n + 1 - q ∧ s = .int .i64 s0 ∧ i = .int .i64 q ∧ (∃ a c, v = .slice a ids.length c) ∧ Hid (OwnR W w1.heap.size 48 1 u32Cs v ids) ∧ ids.length ≤ 12 ∧ Hid (∀ y ∈ ids, U32 y) ∧ Hid (Below w1.heap.size w1 W) ∧ Hid (LsO p s0 q ids))
  case atStart => exact ⟨0, 0, [], by omega, by omega, by omega, rfl, rfl, ⟨_, _, rfl⟩, OwnR.nil _ _ _ _ _, by simp, fun y hy => by simp at hy, Below.refl _ _, Or.inl (LsI.zero p)⟩
  case round =>
    obtain ⟨q, s0, ids, hq, hs0, rfl, rfl, rfl, ⟨ia, ic, rfl⟩, HO, hil, HUI, HBW, HLO⟩ := hrel
    have hzw := HBW.out.size
    by_cases hlt : q ≤ n
    · have HLI : Hid (LsI p s0 q ids) := HLO.out.resolve_right (fun h => by have := HN.out; have := h.1; omega)
      clear HLO
      go_upto_region 9 with fail
      go_cut [36] (fun v W => (∃ t : Bool, v = .bool t ∧ Hid (t = true ↔ ∃ h : q < p.length, p[q] ≠ 44)) ∧ wr = W)
      case first =>
        as_aux_lemma =>
          by_cases h1 : q < n
          · have hx := hcell q h1
            have hqp : q < p.length := by have := HN.out; omega
            have e0 : p.getD q 0 = p[q] := by simp [List.getD, hqp]
            rw [e0] at hx
            have HIF : Hid (((p[q] != 44) : Bool) = true ↔ ∃ h : q < p.length, p[q] ≠ 44) := by
              show _ ↔ _
              simp [hqp]
            generalize p[q] = x at *
            clear e0
            have hbb := hbl (by omega)
            have hx2 : wr.cell? ⟨b, o + q, none⟩ = some (.int .u8 x) := (HBW.out.cell (p := ⟨_, _, none⟩) hbb).trans hx
            have hbw : b < wr.heap.size := by omega
            clear hx
            go_wp2
            go_meet
            case rel => exact ⟨⟨_, rfl, HIF⟩, rfl⟩
          · have HIF : Hid (false = true ↔ ∃ h : q < p.length, p[q] ≠ 44) := ⟨fun e => (by cases e), fun ⟨h, _⟩ => absurd (by have := HN.out; omega) h1⟩
            go_wp2
            go_meet
            case rel => exact ⟨⟨_, rfl, HIF⟩, rfl⟩
      case rest =>
      obtain ⟨⟨t0, rfl, HIF⟩, rfl⟩ := hcut
      cases t0 with
      | true =>
        have HLN : Hid (LsO p s0 (q + 1) ids) := by
          obtain ⟨h1, h2⟩ := HIF.out.1 rfl
          exact Or.inl (HLI.out.skip h1 h2)
        clear HIF HLI
        go_wp2
        go_roundg (n + 1 - (q + 1))
        case measure => omega
        case rel => exact ⟨q + 1, s0, ids, by omega, by omega, rfl, rfl, by go_num, ⟨_, _, rfl⟩, HO, hil, HUI, HBW, HLN⟩
      | false =>
      have HSP : Hid (∀ hq : q < p.length, p[q] = 44) := fun hq => Classical.byContradiction fun h => by have := HIF.out.2 ⟨hq, h⟩; cases this
      clear HIF
      go_upto_region 10 with fail
      go_cut [7, 8] (fun v er W => ∃ x, v = .int .i64 x ∧ I64 x ∧ ((er = .nilIface ∧ Hid (pcO p s0 q = dec x)) ∨ (∃ t u, er = .iface t u) ∧ Hid (¬ IsNum (pcO p s0 q))) ∧ wr = W)
      case first =>
        as_aux_lemma =>
          obtain ⟨o', ho', hsl⟩ := run_slBytes' b o n c s0 q (by omega) (by omega)
          have HO' := hide ho'
          clear ho'
          have hln : ((p.drop s0).take (q - s0)).length = q - s0 := by have := HN.out; simp; omega
          have HCC : Hid (∀ t (h : t < ((p.drop s0).take (q - s0)).length), wr.cell? ⟨b, o' + t, none⟩ = some (.int .u8 (((p.drop s0).take (q - s0))[t]))) := fun t ht => by
            have h1 : t < q - s0 := by rw [hln] at ht; exact ht
            have h2 := HBC.out (s0 + t) (by omega)
            have h3 : b < w1.heap.size := hbl (by omega)
            rw [HO'.out (by omega), Nat.add_assoc, HBW.out.cell (p := ⟨_, _, none⟩) h3, h2]
            have := HN.out
            simp [List.getD, show s0 + t < p.length by omega]
          go_wp2_with (go_at_call 157; refine (parseInt_x wr b o' (q - s0) (c - s0) _ hln ⟨by omega, by omega⟩ (by omega) HCC.out (fun d hd => HBL.out d (List.mem_of_mem_drop (List.mem_of_mem_take hd)))).mono ?_; rintro e w2 ⟨x, er, rfl, hx, her, rfl⟩; have HER := hide her; clear her)
          go_meet
          case rel =>
            refine ⟨x, rfl, hx, ?_, rfl⟩
            rcases HER.out with ⟨h1, h2⟩ | ⟨h1, h2, -⟩
            · exact Or.inl ⟨h1, h2⟩
            · exact Or.inr ⟨h1, h2⟩
      case rest =>
      obtain ⟨x, rfl, hx, her, rfl⟩ := hcut
      go_upto_region 11 with fail
      go_cut [59] (fun v W => (∃ t : Bool, v = .bool t ∧ Hid (t = false → 0 ≤ x ∧ x ≤ 4294967295 ∧ ids.length ≠ 12 ∧ pcO p s0 q = dec x) ∧ Hid (t = true → ¬ IsU32 (pcO p s0 q) ∨ ids.length = 12)) ∧ wr = W)
      case first =>
        as_aux_lemma =>
          have HU12 : Hid (∀ m : Nat, ((m : Int) == 12) = true → m = 12) := fun m h => by have := eq_of_beq h; omega
          rcases her with ⟨rfl, HPX⟩ | ⟨⟨tt, uu, rfl⟩, HNX⟩
          · by_cases h1 : x < 0
            · go_wp2
              go_meet
              case rel => exact ⟨⟨true, rfl, fun h => (by cases h), fun _ => Or.inl fun ⟨y, hy, he⟩ => (by have := dec_inj (HPX.out.symm.trans he); have := hy.1; omega)⟩, rfl⟩
            · by_cases h2 : 4294967295 < x
              · go_wp2
                go_meet
                case rel => exact ⟨⟨true, rfl, fun h => (by cases h), fun _ => Or.inl fun ⟨y, hy, he⟩ => (by have := dec_inj (HPX.out.symm.trans he); have := hy.2; omega)⟩, rfl⟩
              · cases t3 : ((ids.length : Int) == 12) with
                | true =>
                  have h3 := hide (HU12.out _ t3)
                  go_wp2
                  go_meet
                  case rel => exact ⟨⟨true, rfl, fun h => (by cases h), fun _ => Or.inr h3.out⟩, rfl⟩
                | false =>
                  have h3 := hu12 _ t3
                  go_wp2
                  go_meet
                  case rel => exact ⟨⟨false, rfl, fun _ => ⟨by omega, by omega, h3, HPX.out⟩, fun h => by cases h⟩, rfl⟩
          · go_wp2
            go_meet
            case rel => exact ⟨⟨true, rfl, fun h => (by cases h), fun _ => Or.inl fun ⟨y, hy, he⟩ => HNX.out ⟨y, ⟨(by have := hy.1; omega), (by have := hy.2; omega)⟩, he⟩⟩, rfl⟩
      case rest =>
      obtain ⟨⟨t1, rfl, HT, HTT⟩, rfl⟩ := hcut
      cases t1 with
      | true =>
        have HTX := hide (HTT.out rfl)
        clear HTT HT
        have HF2 : Hid (FieldsAt wr g b ps ((k + 1 : Nat) : Int) f) := HFD.out.grow (fun k hk => HBW.out.block k hk) hzw
        go_wp2_with (go_at_call 155; refine (spoil_any wr g b ps _ f 4 HF2.out).mono ?_; rintro e w2 ⟨rfl, hF2, hU2⟩)
        go_ret
        exact ⟨_, [], _, rfl, OwnR.nil _ _ _ _ _, by simp, by simp, Or.inr ⟨rfl, fun l h1 h2 h3 => HLI.out.bad HSP.out HTX.out H45.out l h1 h2 (by rw [HPK.out] at h3; injection h3)⟩, hF2, (HU.out.upn.trans (below_upn HBW.out (Nat.le_refl _))).trans hU2.upn, (HU.out.below.trans (HBW.out.mono (Nat.le_of_lt (fields_lt HFD.out)))).trans hU2.below⟩
      | false =>
      obtain ⟨hx0, hx1, hi12, hpx⟩ := HT.out rfl
      have HLN := hide (HLI.out.add HSP.out hpx)
      clear hpx HLI HSP HTT
      have hxm : x % 4294967296 = x := by omega
      go_wp2_with (at_builtin; refine wpList_app1 (α := Int) rfl _ _ 29 rfl w1.heap.size 48 u32Cs Tryz.underlying29 Tryz.info48 rfl (by decide) u32Cs_size u32Cs_one (.slice ia ids.length ic) ids rfl (OwnR.below HO.out ((Below.refl _ _).alloc (Nat.le_refl _) _) (Nat.le_refl _)) _ rfl x ((rng_alloc_at _ _ _ _ _ _ _ rfl).trans rfl) (by omega) (by unfold maxLen; omega) (by simp; omega) ?_; intro v1 w2 hown1 hsame1 hbel1 _; obtain ⟨va, vc, hvf⟩ := hown1.form; rw [List.length_append, List.length_singleton] at hvf; subst hvf)
      go_roundg (n + 1 - (q + 1))
      case measure => omega
      case rel =>
        refine ⟨q + 1, q + 1, ids ++ [x], by omega, by omega, rfl, by go_num, by go_num, ⟨va, vc, by rw [List.length_append]; rfl⟩, hown1, by rw [List.length_append]; simp; omega, fun y hy => ?_, HBW.out.trans (((Below.refl _ _).alloc (by omega) _).trans hbel1), HLN⟩
        rcases List.mem_append.1 hy with h | h
        · exact HUI.out y h
        · simp only [List.mem_singleton] at h
          subst h
          exact ⟨hx0, hx1⟩
    · have HPE : Hid (p = lsp ids) := by
        rcases HLO.out with h | ⟨-, h1, h2⟩
        · exact absurd h.hi (by have := HN.out; omega)
        · show p = lsp ids
          unfold lsp
          rw [if_neg (by simpa using h1)]
          exact h2
      clear HLO
      have hsi := hil
      go_wp2
      go_ret
      exact ⟨_, ids, f, rfl, HO.out.lower (by rw [← HU.out.size]; omega), hil, HUI.out, Or.inl ⟨rfl, by rw [HPK.out]; exact congrArg some HPE.out⟩, HFD.out.grow (fun k hk => HBW.out.block k hk) hzw, HU.out.upn.trans (below_upn HBW.out (Nat.le_refl _)), HU.out.below.trans (HBW.out.mono (Nat.le_of_lt (fields_lt HFD.out)))⟩

end Go.Proofs.Qxb6500666aGreatDoor
