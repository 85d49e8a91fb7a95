/- The fields of a line, both ways: a fault means that some field has not its form; roles and kinds by name; the list. -/
import Derived.Test.Qxb6500666aGreatDoorMPar
import Derived.Test.Qxb6500666aGreatDoorNextY
import Derived.Test.Qxb6500666aGreatDoorWkTrail
namespace Go.Proofs.Qxb6500666aGreatDoor
open Go.RowKit

/-- The next line, both ways. -/
def NoLine (data : List Int) (pos want : Nat) : Prop := ∀ p0 ps rest, data = data.take pos ++ ((p0 ++ tailT ps) ++ 10 :: rest) → (∀ p ∈ p0 :: ps, PartOk p) → ps.length + 1 ≠ want
inductive NextX (w w' : World) (R b off n cap : Nat) (data : List Int) (pos : Nat) (ln : Int) (want : Nat) (pv ev : Value) : Prop
  | bad (E : Nat) (hpv : pv = .pointer none) (hev : ev = .iface 241 (.pointer (some ⟨E, 0, none⟩))) (hE : w.heap.size ≤ E) (hp : PErr w' E) (hs : RdSt w w' R) (hno : NoLine data pos want) : NextX w w' R b off n cap data pos ln want pv ev
  | good (g : Nat) (ps : List (List Int)) (line : List Int) (hpv : pv = .pointer (some ⟨g, 0, none⟩)) (hev : ev = .nilIface) (hg : w.heap.size ≤ g) (hF : FieldsAt w' g b ps 0 0) (hw : ps.length = want) (hP : PsL ps) (hR : ReaderAt w' R (.slice (some ⟨b, off, none⟩) n cap) ((pos + line.length + 1 : Nat) : Int) (ln + 1)) (hpos : pos + line.length + 1 ≤ n) (hline : data.drop pos = line ++ 10 :: data.drop (pos + line.length + 1)) (hcat : catT ps = line ++ [124]) (hs : RdSt w w' R) (hun : ∀ p0 r rest, data = data.take pos ++ ((p0 ++ tailT r) ++ 10 :: rest) → (∀ p ∈ p0 :: r, PartOk p) → r.length + 1 = want → ps = p0 :: r) : NextX w w' R b off n cap data pos ln want pv ev
theorem line_un {data pre : List Int} {p0 q0 : List Int} {r s : List (List Int)} {rest rest' : List Int} (h1 : data = pre ++ ((p0 ++ tailT r) ++ 10 :: rest)) (h2 : data = pre ++ ((q0 ++ tailT s) ++ 10 :: rest')) (hp : ∀ p ∈ p0 :: r, PartOk p) (hq : ∀ p ∈ q0 :: s, PartOk p) : p0 :: r = q0 :: s := by
  rw [h1] at h2
  have h3 := List.append_cancel_left h2
  have h4 := congrArg (splitB 10) h3
  rw [splitB_at (tail_no hp), splitB_at (tail_no hq)] at h4
  injection h4 with h4 _
  have h5 := congrArg (splitB 124) h4
  rw [split_tail (fun q h x hx => ((hp q h).2 x hx).1), split_tail (fun q h x hx => ((hq q h).2 x hx).1)] at h5
  exact h5
theorem next_x (w : World) (R n cap b off : Nat) (data : List Int) (pos : Nat) (ln : Int) (want : Nat)
    (hR : ReaderAt w R (.slice (some ⟨b, off, none⟩) n cap) pos ln) (hbR : b ≠ R) (hcap : n ≤ cap ∧ cap ≤ maxLen) (hbl : b < w.heap.size) (hd : ∀ t (h : t < data.length), w.cell? ⟨b, off + t, none⟩ = some (.int .u8 data[t]))
    (hn : data.length = n) (hn2 : n ≤ 140737488355328) (hpos : pos ≤ n) (hw1 : 1 ≤ want) (hw2 : want ≤ 100) (hln : 0 ≤ ln ∧ ln ≤ 1000000000000) :
    Calls Tryz.prog 103 #[.pointer (some ⟨R, 0, none⟩), .int .i64 want] w fun e w' => ∃ pv ev, e = .returned (.tuple #[pv, ev]) ∧ Hid (NextX w w' R b off n cap data pos ln want pv ev) := by
  by_cases hno : NoLine data pos want
  · refine (next_any w R n cap b off data pos ln want hR hbR hcap hbl hd hn hn2 hpos hw1 hw2 ⟨hln.1, by omega⟩).mono fun e w' h => ?_
    obtain ⟨pv, ev, h1, h2⟩ := h.two
    refine ⟨pv, ev, h1, ?_⟩
    cases h2 with
    | bad E a1 a2 a3 a4 a5 => exact .bad E a1 a2 a3 a4 a5 hno
    | good g ps line a1 a2 a3 a4 a5 a6 a7 a8 a9 aa ab => exact .good g ps line a1 a2 a3 a4 a5 a6 a7 a8 a9 aa ab (fun p0 r rest h1 h2 h3 => absurd h3 (hno p0 r rest h1 h2))
  · obtain ⟨p0, ps, rest, hdd, hps, hw⟩ : ∃ p0 ps rest, data = data.take pos ++ ((p0 ++ tailT ps) ++ 10 :: rest) ∧ (∀ p ∈ p0 :: ps, PartOk p) ∧ ps.length + 1 = want := by
      refine Classical.byContradiction fun h => hno fun p0 ps rest h1 h2 h3 => h ⟨p0, ps, rest, h1, h2, h3⟩
    have hpl : (data.take pos).length = pos := by rw [List.length_take]; omega
    refine (next_y w R n cap b off data (data.take pos) (p0 ++ tailT ps) rest ln p0 ps want (by rw [hpl]; exact hR) hbR hcap hbl hd hn hn2 hdd rfl hps hw hw2 hln).mono fun e w' ⟨g, h1, h2, h3, h4, h5, h6⟩ => ?_
    rw [hpl] at h4
    have hdl : data.length = pos + ((p0 ++ tailT ps).length + (rest.length + 1)) := by
      have := congrArg List.length hdd
      rw [List.length_append, hpl, List.length_append, List.length_cons] at this
      exact this
    have hdr : data.drop pos = (p0 ++ tailT ps) ++ 10 :: rest := by
      have h7 : (data.take pos ++ ((p0 ++ tailT ps) ++ 10 :: rest)).drop pos = (p0 ++ tailT ps) ++ 10 :: rest := List.drop_left' hpl
      rw [← hdd] at h7
      exact h7
    have hdr2 : data.drop (pos + (p0 ++ tailT ps).length + 1) = rest := by
      rw [show pos + (p0 ++ tailT ps).length + 1 = pos + ((p0 ++ tailT ps).length + 1) by omega, ← List.drop_drop, hdr, List.drop_append, List.drop_of_length_le (by omega), show (p0 ++ tailT ps).length + 1 - (p0 ++ tailT ps).length = 1 by omega]
      rfl
    refine ⟨_, _, h1, NextX.good g (p0 :: ps) (p0 ++ tailT ps) rfl rfl h2 h3 (by simpa using hw) ⟨by simp; omega, fun p hp => ?_⟩ (by simpa using h4) (by omega) (by rw [hdr2]; exact hdr) (catT_tail p0 ps) ⟨h5, h6⟩ (fun q0 s rest' k1 k2 _ => line_un hdd k1 hps k2)⟩
    have key : ∀ (l : List (List Int)) (a : List Int), (∀ q ∈ a :: l, q.length ≤ (a ++ tailT l).length) := by
      intro l
      induction l with
      | nil => intro a q hq; rw [List.mem_singleton.1 hq]; simp
      | cons c l ih =>
        intro a q hq
        rcases List.mem_cons.1 hq with rfl | hq
        · simp
        · have := ih c q hq
          simp only [tailT, List.length_append, List.length_cons] at this ⊢
          omega
    have := key ps p0 p hp
    omega
/-- The fields so far; a fault means that one has not its form. -/
structure Fsy (w0 w : World) (g b : Nat) (ps : List (List Int)) (k : Nat) (f : Int) (ts : List (List Int)) (Fm : Nat → List Int → Prop) : Prop extends Fsx w0 w g b ps k f ts where
  no : f ≠ 0 → ∃ j p, ps[j]? = some p ∧ ¬ Fm j p
section
variable {w0 w w' : World} {g b : Nat} {ps ts : List (List Int)} {k : Nat} {f : Int} {Fm : Nat → List Int → Prop}
theorem Fsy.grow (h : Fsy w0 w g b ps k f ts Fm) (hb : Below w.heap.size w w') : Fsy w0 w' g b ps k f ts Fm := ⟨h.toFsx.grow hb, h.no⟩
theorem Fsy.again (h : Fsy w0 w g b ps k f ts Fm) : Fsy w w g b ps k f ts Fm := ⟨h.toFsx.again, h.no⟩
theorem Fsy.comp {k' : Nat} {f' : Int} {ts' : List (List Int)} (h : Fsy w0 w g b ps k f ts Fm) (q : Fsy w w' g b ps k' f' ts' Fm) : Fsy w0 w' g b ps k' f' ts' Fm := ⟨h.toFsx.comp q.toFsx, q.no⟩
theorem Fsy.beside {C : Nat} (h : Fsy w0 w g b ps k f ts Fm) (hC : w0.heap.size ≤ C) (hg : g < w0.heap.size) (hbC : b ≠ C) (hs : ∀ k, k ≠ C → w'.heap[k]? = w.heap[k]?) (hb : Below C w w') : Fsy w0 w' g b ps k f ts Fm :=
  ⟨⟨h.st.beside hC hg hbC hs hb, h.ex, h.by'⟩, h.no⟩
def IsU32 (p : List Int) : Prop := ∃ x, U32 x ∧ p = dec x
def IsU8 (p : List Int) : Prop := ∃ x, (0 ≤ x ∧ x ≤ 255) ∧ p = dec x
theorem Fsy.exact (h : Fsy w0 w g b ps k 0 ts Fm) {t : List Int} (hF : FieldsAt w' g b ps ((k + 1 : Nat) : Int) 0) (hU : Upd g w w') (hp : ps[k]? = some t) : Fsy w0 w' g b ps (k + 1) 0 (ts ++ [t]) Fm :=
  ⟨h.toFsx.step hF ⟨by decide, by decide⟩ hU (fun _ => ⟨rfl, hp⟩), fun e => absurd rfl e⟩
theorem Fsy.miss (h : Fsy w0 w g b ps k f ts Fm) (hk : k < ps.length) {f' : Int} {ts' : List (List Int)} (q : Fsx w0 w' g b ps (k + 1) f' ts') (hn : f = 0 → ¬ Fm k ps[k]) : Fsy w0 w' g b ps (k + 1) f' ts' Fm :=
  ⟨q, fun _ => by
    by_cases hf : f = 0
    · exact ⟨k, ps[k], List.getElem?_eq_getElem hk, hn hf⟩
    · exact h.no hf⟩
theorem expect_wy (w : World) (x : Int) (h : Fsy w0 w g b ps k f ts Fm) (hk : k < ps.length) (hp : PsL ps) (hm : ∀ p, Fm k p → p = [x]) :
    Calls Tryz.prog 104 #[.pointer (some ⟨g, 0, none⟩), .int .u8 x] w fun e w' => ∃ f', e = .returned (.tuple #[]) ∧ Hid (Fsy w0 w' g b ps (k + 1) f' (ts ++ [[x]]) Fm) := by
  by_cases hg : f = 0 ∧ ps[k] = [x]
  · obtain ⟨rfl, hg⟩ := hg
    exact (expect_calls w g b ps k x h.fl hk hp.len hg).mono fun _ _ ⟨h1, h2, h3⟩ => ⟨0, h1, h.exact h2 h3 (by rw [List.getElem?_eq_getElem hk, hg])⟩
  · exact (expect_wx w x h.toFsx hk hp).mono fun _ _ ⟨f', h1, h2⟩ => ⟨f', h1, h.miss hk h2.out (fun hf hq => hg ⟨hf, hm _ hq⟩)⟩
theorem id_wy (w : World) (h : Fsy w0 w g b ps k f ts Fm) (hk : k < ps.length) (hp : PsL ps) (hm : ∀ p, Fm k p → IsU32 p) :
    Calls Tryz.prog 106 #[.pointer (some ⟨g, 0, none⟩)] w fun e w' => ∃ x f', e = .returned (.int .u32 x) ∧ Hid (U32 x) ∧ Hid (Fsy w0 w' g b ps (k + 1) f' (ts ++ [dec x]) Fm) ∧ Hid (w'.heap.size = w.heap.size) := by
  by_cases hg : f = 0 ∧ IsU32 ps[k]
  · obtain ⟨rfl, x, hx, hg⟩ := hg
    exact (id1_calls w g b ps k x h.fl hk hp.len hg hx).mono fun _ _ ⟨h1, h2, h3⟩ => ⟨x, 0, h1, hx, h.exact h2 h3 (by rw [List.getElem?_eq_getElem hk, hg]), h3.size⟩
  · exact (id_wx w h.toFsx hk hp).mono fun _ _ ⟨x, f', h1, h2, h3, h4⟩ => ⟨x, f', h1, h2, h.miss hk h3.out (fun hf hq => hg ⟨hf, hm _ hq⟩), h4⟩
theorem any_wy (w : World) (h : Fsy w0 w g b ps k f ts Fm) (hk : k < ps.length) (hp : PsL ps) (hm : ∀ p, Fm k p → IsNum p) :
    Calls Tryz.prog 107 #[.pointer (some ⟨g, 0, none⟩)] w fun e w' => ∃ x f', e = .returned (.int .i64 x) ∧ Hid (I64 x) ∧ Hid (Fsy w0 w' g b ps (k + 1) f' (ts ++ [dec x]) Fm) ∧ Hid (w'.heap.size = w.heap.size) := by
  by_cases hg : f = 0 ∧ IsNum ps[k]
  · obtain ⟨rfl, x, hx, hg⟩ := hg
    exact (any1_calls w g b ps k x h.fl hk hp.len hg hx).mono fun _ _ ⟨h1, h2, h3⟩ => ⟨x, 0, h1, hx, h.exact h2 h3 (by rw [List.getElem?_eq_getElem hk, hg]), h3.size⟩
  · exact (any_wx w h.toFsx hk hp).mono fun _ _ ⟨x, f', h1, h2, h3, h4⟩ => ⟨x, f', h1, h2, h.miss hk h3.out (fun hf hq => hg ⟨hf, hm _ hq⟩), h4⟩
theorem byte_wy (w : World) (h : Fsy w0 w g b ps k f ts Fm) (hk : k < ps.length) (hp : PsL ps) (hm : ∀ p, Fm k p → IsU8 p) :
    Calls Tryz.prog 109 #[.pointer (some ⟨g, 0, none⟩), .int .i64 0, .int .i64 255] w fun e w' => ∃ x f', e = .returned (.int .i64 x) ∧ (0 ≤ x ∧ x ≤ 255) ∧ Hid (Fsy w0 w' g b ps (k + 1) f' (ts ++ [dec x]) Fm) ∧ Hid (w'.heap.size = w.heap.size) := by
  by_cases hg : f = 0 ∧ IsU8 ps[k]
  · obtain ⟨rfl, x, hx, hg⟩ := hg
    exact (number1_calls w g b ps k x 0 255 h.fl hk hp.len hg ⟨by omega, by omega⟩ hx.1 hx.2).mono fun _ _ ⟨h1, h2, h3⟩ => ⟨x, 0, h1, hx, h.exact h2 h3 (by rw [List.getElem?_eq_getElem hk, hg]), h3.size⟩
  · exact (byte_wx w h.toFsx hk hp).mono fun _ _ ⟨x, f', h1, h2, h3, h4⟩ => ⟨x, f', h1, h2, h.miss hk h3.out (fun hf hq => hg ⟨hf, hm _ hq⟩), h4⟩
end
theorem strB_bytes (s : ByteArray) : ByteL (strB s) := fun d hd => by
  obtain ⟨c, -, rfl⟩ := List.mem_map.1 hd
  have := c.toNat_lt
  exact ⟨by omega, by omega⟩
theorem u8s_strB (s : ByteArray) : u8s (strB s) = s.data.toList := by
  unfold u8s strB
  rw [List.map_map]
  conv => rhs; rw [← List.map_id s.data.toList]
  refine List.map_congr_left fun c _ => ?_
  simp
theorem nm_eq {s : ByteArray} {p : List Int} (hB : ByteL p) : (s.toList == (strOfNums p).toList) = true ↔ strB s = p := by
  rw [strNums_inj, ByteArray.toList_eq, ← u8s_strB s]
  constructor
  · intro h
    exact u8s_inj (strB_bytes s) hB (by simpa using h)
  · intro h
    rw [h]
    simp
/-- A name read: the one that stands there, or none stands there. -/
def NmAns (w w' : World) (g b : Nat) (ps : List (List Int)) (k : Nat) (f : Int) (nm : Nat → ByteArray) (top : Nat) (e : Ending) : Prop := ∃ x f', e = .returned (.int .u8 x) ∧ U8 x ∧ ((f' = f ∧ ∃ r : Nat, 1 ≤ r ∧ r ≤ top ∧ x = r ∧ ps[k]? = some (strB (nm r))) ∨ (f' = spf f 3 ∧ ∀ r : Nat, 1 ≤ r → r ≤ top → ps[k]? ≠ some (strB (nm r)))) ∧ FieldsAt w' g b ps ((k + 1 : Nat) : Int) f' ∧ Upd g w w'

set_option maxRecDepth 100000 in
set_option maxHeartbeats 2000000 in
theorem role_x (w : World) (rn kn ft : Nat → ByteArray) (g b : Nat) (ps : List (List Int)) (k : Nat) (f : Int) (hnm : NmAt w rn kn ft) (hgg : 5 < g) (h : FieldsAt w g b ps k f) (hk : k < ps.length) (hp : PsL ps) (hB : ∀ p ∈ ps, ByteL p) :
    Calls Tryz.prog 141 #[.pointer (some ⟨g, 0, none⟩)] w fun e w' => NmAns w w' g b ps k f rn 6 e := by
  have hpl := hp.each _ (List.getElem_mem hk)
  have HBL := hide (hB _ (List.getElem_mem hk))
  have HPK : Hid (ps[k]? = some ps[k]) := List.getElem?_eq_getElem hk
  clear hB
  go_enter Tryz.func141, Tryz.ntmps141
  go_upto_region 1 with fail
  go_cut [3] (fun v W => (∃ S, v = .string S ∧ Hid (S = strOfNums ps[k])) ∧ Hid (FieldsAt W g b ps ((k + 1 : Nat) : Int) f) ∧ Hid (Upd g w W))
  case first =>
    go_wp2_with (go_at_call 156; refine (take_calls _ g b ps k f h hk hp.len hpl).mono ?_; rintro e w1 ⟨o, c, rfl, hB, hF, hU⟩; have HBC := hide (bytesAt_cells hB); have HFD := hide hF; have HU := hide hU; have hcv := run_convert_bytes_arg (P := Tryz.prog) w1 55 5 Tryz.underlying55 Tryz.underlying5 b o ps[k].length c ps[k] rfl (fun i hi => (by rw [HBC.out i hi]; simp [List.getD, hi])) 9 Tryz.underlying9; clear hB hF hU)
    go_meet
    case rel => exact ⟨⟨_, rfl, rfl⟩, HFD, HU⟩
  case rest =>
    obtain ⟨⟨S, rfl, HS⟩, HF, HU⟩ := hcut
    have HNM : Hid (NmAt wc rn kn ft) := hnm.same HU.out.below hgg
    clear h hnm
    go_upto_region 3 with fail
    go_loopg [4] 6 (fun gk j W => ∃ q : Nat, 1 ≤ q ∧ q ≤ 6 + 1 ∧ gk = 6 + 1 - q ∧ j = .int .u8 q ∧ Hid (∀ r : Nat, 1 ≤ r → r < q → ps[k]? ≠ some (strB (rn r))) ∧ wc = W)
    case atStart => exact ⟨1, by omega, by omega, by omega, rfl, fun r h1 h2 => (by omega), rfl⟩
    case round =>
      obtain ⟨q, hq1, hq2, rfl, rfl, HNO, rfl⟩ := hrel
      by_cases hlt : q ≤ 6
      · have hu : U8 (q : Int) := ⟨by omega, by omega⟩
        go_upto_region 5 with fail
        go_cut [15] (fun v W => (∃ c : Bool, v = .bool c ∧ Hid (c = true ↔ ps[k]? = some (strB (rn q)))) ∧ wc = W)
        case first =>
          have HQ : Hid (((nmOf rn 6 q).toList == S.toList) = true ↔ ps[k]? = some (strB (rn q))) := by
            have h1 : nmOf rn 6 q = rn q := by unfold nmOf; rw [if_neg (by simp; omega)]; rfl
            show _ ↔ _
            rw [HS.out, h1, nm_eq HBL.out, HPK.out]
            exact ⟨fun e => by rw [e], fun e => by injection e with e; exact e.symm⟩
          go_wp2_with (go_at_call 137; refine (roleStr_calls _ rn kn ft _ HNM.out hu).mono ?_; rintro e w9 ⟨rfl, hw9⟩; have hw8 := hw9.symm; subst hw8)
          go_meet
          case rel => exact ⟨⟨_, rfl, HQ⟩, rfl⟩
        case rest =>
          obtain ⟨⟨c, rfl, HC⟩, rfl⟩ := hcut
          cases c with
          | true =>
            have HY := hide (HC.out.1 rfl)
            clear HC
            go_wp2
            go_ret
            exact ⟨q, f, rfl, hu, Or.inl ⟨rfl, q, hq1, hlt, rfl, HY.out⟩, HF.out, HU.out⟩
          | false =>
            have HN2 : Hid (∀ r : Nat, 1 ≤ r → r < q + 1 → ps[k]? ≠ some (strB (rn r))) := fun r h1 h2 e => by
              by_cases h3 : r = q
              · subst h3
                have := HC.out.2 e
                cases this
              · exact HNO.out r h1 (by omega) e
            clear HC HNO
            go_wp2
            go_roundg (6 + 1 - (q + 1))
            case measure => omega
            case rel => exact ⟨q + 1, by omega, by omega, rfl, by go_num, HN2, rfl⟩
      · go_wp2_with (go_at_call 155; refine (spoil_any _ g b ps _ f 3 HF.out).mono ?_; rintro e w2 ⟨rfl, hF2, hU2⟩)
        go_ret
        exact ⟨0, _, rfl, ⟨by decide, by decide⟩, Or.inr ⟨rfl, fun r h1 h2 => HNO.out r h1 (by omega)⟩, hF2, HU.out.trans hU2⟩

set_option maxRecDepth 100000 in
set_option maxHeartbeats 2000000 in
theorem command_x (w : World) (rn kn ft : Nat → ByteArray) (g b : Nat) (ps : List (List Int)) (k : Nat) (f : Int) (hnm : NmAt w rn kn ft) (hgg : 5 < g) (h : FieldsAt w g b ps k f) (hk : k < ps.length) (hp : PsL ps) (hB : ∀ p ∈ ps, ByteL p) :
    Calls Tryz.prog 142 #[.pointer (some ⟨g, 0, none⟩)] w fun e w' => NmAns w w' g b ps k f kn 20 e := by
  have hpl := hp.each _ (List.getElem_mem hk)
  have HBL := hide (hB _ (List.getElem_mem hk))
  have HPK : Hid (ps[k]? = some ps[k]) := List.getElem?_eq_getElem hk
  clear hB
  go_enter Tryz.func142, Tryz.ntmps142
  go_upto_region 1 with fail
  go_cut [3] (fun v W => (∃ S, v = .string S ∧ Hid (S = strOfNums ps[k])) ∧ Hid (FieldsAt W g b ps ((k + 1 : Nat) : Int) f) ∧ Hid (Upd g w W))
  case first =>
    go_wp2_with (go_at_call 156; refine (take_calls _ g b ps k f h hk hp.len hpl).mono ?_; rintro e w1 ⟨o, c, rfl, hB, hF, hU⟩; have HBC := hide (bytesAt_cells hB); have HFD := hide hF; have HU := hide hU; have hcv := run_convert_bytes_arg (P := Tryz.prog) w1 55 5 Tryz.underlying55 Tryz.underlying5 b o ps[k].length c ps[k] rfl (fun i hi => (by rw [HBC.out i hi]; simp [List.getD, hi])) 9 Tryz.underlying9; clear hB hF hU)
    go_meet
    case rel => exact ⟨⟨_, rfl, rfl⟩, HFD, HU⟩
  case rest =>
    obtain ⟨⟨S, rfl, HS⟩, HF, HU⟩ := hcut
    have HNM : Hid (NmAt wc rn kn ft) := hnm.same HU.out.below hgg
    clear h hnm
    go_upto_region 3 with fail
    go_loopg [4] 20 (fun gk j W => ∃ q : Nat, 1 ≤ q ∧ q ≤ 20 + 1 ∧ gk = 20 + 1 - q ∧ j = .int .u8 q ∧ Hid (∀ r : Nat, 1 ≤ r → r < q → ps[k]? ≠ some (strB (kn r))) ∧ wc = W)
    case atStart => exact ⟨1, by omega, by omega, by omega, rfl, fun r h1 h2 => (by omega), rfl⟩
    case round =>
      obtain ⟨q, hq1, hq2, rfl, rfl, HNO, rfl⟩ := hrel
      by_cases hlt : q ≤ 20
      · have hu : U8 (q : Int) := ⟨by omega, by omega⟩
        go_upto_region 5 with fail
        go_cut [15] (fun v W => (∃ c : Bool, v = .bool c ∧ Hid (c = true ↔ ps[k]? = some (strB (kn q)))) ∧ wc = W)
        case first =>
          have HQ : Hid (((nmOf kn 30 q).toList == S.toList) = true ↔ ps[k]? = some (strB (kn q))) := by
            have h1 : nmOf kn 30 q = kn q := by unfold nmOf; rw [if_neg (by simp; omega)]; rfl
            show _ ↔ _
            rw [HS.out, h1, nm_eq HBL.out, HPK.out]
            exact ⟨fun e => by rw [e], fun e => by injection e with e; exact e.symm⟩
          go_wp2_with (go_at_call 138; refine (kindStr_calls _ rn kn ft _ HNM.out hu).mono ?_; rintro e w9 ⟨rfl, hw9⟩; have hw8 := hw9.symm; subst hw8)
          go_meet
          case rel => exact ⟨⟨_, rfl, HQ⟩, rfl⟩
        case rest =>
          obtain ⟨⟨c, rfl, HC⟩, rfl⟩ := hcut
          cases c with
          | true =>
            have HY := hide (HC.out.1 rfl)
            clear HC
            go_wp2
            go_ret
            exact ⟨q, f, rfl, hu, Or.inl ⟨rfl, q, hq1, hlt, rfl, HY.out⟩, HF.out, HU.out⟩
          | false =>
            have HN2 : Hid (∀ r : Nat, 1 ≤ r → r < q + 1 → ps[k]? ≠ some (strB (kn r))) := fun r h1 h2 e => by
              by_cases h3 : r = q
              · subst h3
                have := HC.out.2 e
                cases this
              · exact HNO.out r h1 (by omega) e
            clear HC HNO
            go_wp2
            go_roundg (20 + 1 - (q + 1))
            case measure => omega
            case rel => exact ⟨q + 1, by omega, by omega, rfl, by go_num, HN2, rfl⟩
      · go_wp2_with (go_at_call 155; refine (spoil_any _ g b ps _ f 3 HF.out).mono ?_; rintro e w2 ⟨rfl, hF2, hU2⟩)
        go_ret
        exact ⟨0, _, rfl, ⟨by decide, by decide⟩, Or.inr ⟨rfl, fun r h1 h2 => HNO.out r h1 (by omega)⟩, hF2, HU.out.trans hU2⟩
end Go.Proofs.Qxb6500666aGreatDoor
