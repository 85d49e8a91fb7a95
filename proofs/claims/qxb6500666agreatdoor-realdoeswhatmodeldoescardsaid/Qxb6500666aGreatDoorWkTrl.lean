/- The trailer, on lines of every kind. -/
import Derived.Test.Qxb6500666aGreatDoorWkNext
import Derived.Test.Qxb6500666aGreatDoorTrailWalk
namespace Go.Proofs.Qxb6500666aGreatDoor
open Go.RowKit

/-- What next has handed back. -/
inductive NextCase (w w' : World) (R b off n cap : Nat) (data : List Int) (pos : Nat) (ln : Int) (want : Nat) (pv ev : Value) : Prop
  | bad (E : Nat) (hpv : pv = .pointer none) (hev : ev = .iface 241 (.pointer (some ⟨E, 0, none⟩))) (hE : w.heap.size ≤ E) (hp : PErr w' E) (hs : RdSt w w' R) : NextCase w w' R b off n cap data pos ln want pv ev
  | good (g : Nat) (ps : List (List Int)) (line : List Int) (hpv : pv = .pointer (some ⟨g, 0, none⟩)) (hev : ev = .nilIface) (hg : w.heap.size ≤ g) (hF : FieldsAt w' g b ps 0 0) (hw : ps.length = want) (hP : PsL ps) (hR : ReaderAt w' R (.slice (some ⟨b, off, none⟩) n cap) ((pos + line.length + 1 : Nat) : Int) (ln + 1)) (hpos : pos + line.length + 1 ≤ n) (hline : data.drop pos = line ++ 10 :: data.drop (pos + line.length + 1)) (hcat : catT ps = line ++ [124]) (hs : RdSt w w' R) : NextCase w w' R b off n cap data pos ln want pv ev
theorem NextAns.two {w w' : World} {R b off n cap : Nat} {data : List Int} {pos : Nat} {ln : Int} {want : Nat} {e : Ending} (h : NextAns w w' R b off n cap data pos ln want e) : ∃ pv ev, e = .returned (.tuple #[pv, ev]) ∧ NextCase w w' R b off n cap data pos ln want pv ev := by
  cases h with
  | bad E h1 h2 h3 h4 => exact ⟨_, _, h1, .bad E rfl rfl h2 h3 h4⟩
  | good g ps line h1 h2 h3 h4 h5 h6 h7 h8 h9 h10 => exact ⟨_, _, h1, .good g ps line rfl rfl h2 h3 h4 h5 h6 h7 h8 h9 h10⟩

/-- What a reading step answers as its error. -/
inductive ErrAns (w w' : World) (R : Nat) (e : Ending) : Prop
  | ok (he : e = .returned .nilIface) (hs : RdSt w w' R) : ErrAns w w' R e
  | bad (E : Nat) (he : e = .returned (.iface 241 (.pointer (some ⟨E, 0, none⟩)))) (hE : w.heap.size ≤ E) (hp : PErr w' E) (hs : RdSt w w' R) : ErrAns w w' R e
theorem RdSt.grow {w w1 w2 : World} {R : Nat} (h : RdSt w w1 R) (hz : w.heap.size ≤ w1.heap.size) (hR : R ≤ w1.heap.size) (hb : Below w1.heap.size w1 w2) : RdSt w w2 R :=
  ⟨h.below.trans (hb.mono hR), fun k hk => (hb.block k (by have := hk.1; omega)).trans (h.same k hk)⟩
theorem RdSt.upd {w w1 w2 : World} {R g : Nat} (h : RdSt w w1 R) (hg : w.heap.size ≤ g) (hR : R ≤ g) (hu : Upd g w1 w2) : RdSt w w2 R :=
  ⟨h.below.trans (hu.below.mono hR), fun k hk => (hu.same k (by have := hk.1; omega)).trans (h.same k hk)⟩

set_option maxRecDepth 100000 in
set_option maxHeartbeats 4000000 in
theorem trailer_any (w : World) (R n cap b off : Nat) (data : List Int) (pos : Nat) (ln cnt : Int)
    (hR : ReaderAt w R (.slice (some ⟨b, off, none⟩) n cap) pos ln) (hbR : b ≠ R) (hcap : n ≤ cap ∧ cap ≤ maxLen) (hbl : b < w.heap.size) (hd : ∀ t (h : t < data.length), w.cell? ⟨b, off + t, none⟩ = some (.int .u8 data[t]))
    (hn : data.length = n) (hn2 : n ≤ 140737488355328) (hpos : pos ≤ n) (hn0 : 0 < n) (hln : 0 ≤ ln ∧ ln ≤ 1000000000000000) :
    Calls Tryz.prog 113 #[.pointer (some ⟨R, 0, none⟩), .int .u32 cnt] w fun e w' => ErrAns w w' R e := by
  have HNX := hide (fun W (hW : Below w.heap.size w W) => next_any W R n cap b off data pos ln 3 ((hW.block _ (cell3 hR).2.2.2.2).trans hR) hbR hcap (by have := hW.size; omega) (fun t h => (hW.cell (p := ⟨b, off + t, none⟩) hbl).trans (hd t h)) hn hn2 hpos (by decide) (by decide) hln)
  obtain ⟨r0, r1, r2, rf, hRl⟩ := cell3 hR
  have hsl : ∀ W, (Instr.sliceAt 55 (.slice (some ⟨b, off, none⟩) n cap) none (some (.int .i64 (pos : Int))) none).run Tryz.prog W = .ok (.slice (some ⟨b, off, none⟩) pos cap) W := fun W => run_slUpto W b off n cap pos (by omega) (by omega)
  have HD := hide hd
  clear hd hR
  go_enter Tryz.func113, Tryz.ntmps113
  go_upto_region 1 with fail
  go_region
  clear r0 r1 r2 rf hsl
  go_upto_region 2 with fail
  go_cut [6, 7] (fun pv ev W => Hid (NextCase w.drew W R b off n cap data pos ln 3 pv ev))
  case first =>
    as_aux_lemma =>
      go_wp2_with (go_at_call 103; refine (HNX.out _ (Below.refl _ _).drew).mono ?_; rintro e w1 hans; obtain ⟨pv, ev, rfl, hcase⟩ := hans.two)
      go_meet
      case rel => exact hcase
  case rest =>
    have hcase := hcut.out
    clear hcut HNX
    cases hcase with
    | bad E hpv hev hE hp hs =>
      subst hpv hev
      have HS : Hid (RdSt w wc R) := ⟨⟨hs.below.1, hs.below.2, hs.below.3, hs.below.4, hs.below.5⟩, hs.same⟩
      go_wp2
      go_ret
      exact .bad E rfl hE hp HS.out
    | good g ps line hpv hev hg hF hw hP hR hps hline hcat hs =>
      subst hpv hev
      have HS : Hid (RdSt w wc R) := ⟨⟨hs.below.1, hs.below.2, hs.below.3, hs.below.4, hs.below.5⟩, hs.same⟩
      have hgw : w.heap.size ≤ g := hg
      have HF := hide hF
      have HR := hide hR
      obtain ⟨P, hP1⟩ : ∃ P : Nat, P = pos + line.length + 1 := ⟨_, rfl⟩
      rw [← hP1] at HR hps
      clear hs hF hR hline hcat hg hP1
      go_upto_region 7 with (first | (go_at_call 104; refine (expect_any _ g b ps 0 0 84 HF.out (by omega) hP).mono ?_; rintro e w2 ⟨rfl, hF2, hU2⟩; obtain ⟨f2, hf2⟩ : ∃ f2, f2 = (if (ltrV (ps[0]'(by omega)) != 84) then spf (ltrF 0 (ps[0]'(by omega))) 3 else ltrF 0 (ps[0]'(by omega))) := ⟨_, rfl⟩; rw [← hf2] at hF2; have HF2 := hide hF2; have HU2 := hide hU2; have HFL2 := hide hf2; clear hF2 hU2 hf2) | (go_at_call 106; refine (id_any _ g b ps 1 f2 HF2.out (by omega) hP).mono ?_; rintro e w3 ⟨x3, f3, rfl, hx3, hf3, hF3, hU3⟩; have HF3 := hide hF3; have HU3 := hide (HU2.out.trans hU3); have HFL3 := hide hf3; clear hF3 hU3 hf3) | (go_at_call 106; refine (id_any _ g b ps 2 f3 HF3.out (by omega) hP).mono ?_; rintro e w4 ⟨x4, f4, rfl, hx4, hf4, hF4, hU4⟩; have HF4 := hide hF4; have HU4 := hide (HU3.out.trans hU4); have HFL4 := hide hf4; clear hF4 hU4 hf4))
      have hFl4 : Flt f4 := by
        have h2 : Flt f2 := by
          rw [HFL2.out]
          have h0 : ∀ p, Flt (ltrF 0 p) := fun p => by unfold ltrF; split; exact ⟨by decide, by decide⟩; exact ⟨by decide, by decide⟩
          split
          · exact spf_flt (h0 _) ⟨by decide, by decide⟩
          · exact h0 _
        have h3 : Flt f3 := by rcases HFL3.out with h | h; rw [h]; exact h2; rw [h]; exact spf_flt h2 ⟨by decide, by decide⟩
        rcases HFL4.out with h | h; rw [h]; exact h3; rw [h]; exact spf_flt h3 ⟨by decide, by decide⟩
      have HR4 : Hid (ReaderAt w4 R (.slice (some ⟨b, off, none⟩) n cap) P (ln + 1)) := (HU4.out.same R (by omega)).trans HR.out
      have HS4 : Hid (RdSt w w4 R) := HS.out.upd hgw (by omega) HU4.out
      have hgl : g < w4.heap.size := by obtain ⟨pv, vals, h1, -⟩ := HF4.out; exact (cell3 h1).2.2.2.2
      obtain ⟨f0, ff0⟩ : w4.cell? ⟨g, 2, none⟩ = some (.int .u8 f4) ∧ True := by obtain ⟨pv, vals, h1, -⟩ := HF4.out; exact ⟨(cell3 h1).2.2.1, trivial⟩
      obtain ⟨r0, r1, r2, rf, hRl4⟩ := cell3 HR4.out
      have hzz : w.heap.size ≤ w4.heap.size := by have := HU4.out.size; have := hgl; omega
      have HD4 : Hid (∀ t (h : t < data.length), w4.cell? ⟨b, off + t, none⟩ = some (.int .u8 data[t])) := fun t h => by
        rw [HS4.out.same.cell (b := b) ⟨hbl, hbR⟩]; exact HD.out t h
      have HBAD : Hid (∀ w5 E, Below w4.heap.size w4 w5 → w4.heap.size ≤ E → PErr w5 E → ErrAns w w5 R (.returned (.iface 241 (.pointer (some ⟨E, 0, none⟩))))) := fun w5 E hb5 hE hp5 => .bad E rfl (by omega) hp5 (HS4.out.grow hzz (by omega) hb5)
      clear HFL2 HFL3 HFL4 HF HF2 HF3 HU2 HU3 HR HS ff0
      cases t1 : (f4 != 0) with
      | true =>
        go_wp2_with (go_at_call 108; refine (fail_any _ R _ _ _ f4 HR4.out ⟨by omega, by omega⟩ ⟨(by have h8 := hFl4.1; have h7 : f4 ≠ 0 := (by simpa using t1); omega), hFl4.2⟩).mono ?_; rintro e w5 ⟨E, rfl, hE, hp5, hb5⟩)
        go_ret
        exact HBAD.out w5 E hb5 hE hp5
      | false =>
        go_upto_region 9 with fail
        cases t2 : ((P : Int) != (n : Int)) with
        | true =>
          go_region
          go_upto_region 11 with fail
          have hR5 : ReaderAt (w4.setCell ⟨R, 2, none⟩ (.int .i64 (ln + 1 + 1))).drew R (.slice (some ⟨b, off, none⟩) n cap) P (ln + 1 + 1) := by
            have := heap_set3 (j := 2) (v := .int .i64 (ln + 1 + 1)) HR4.out
            simp only [List.setIfInBounds_toArray, List.set_cons_succ, List.set_cons_zero] at this
            exact this
          have HS5 : Hid (RdSt w (w4.setCell ⟨R, 2, none⟩ (.int .i64 (ln + 1 + 1))).drew R) := ⟨(HS4.out.below.setCell (p := ⟨R, 2, none⟩) (Nat.le_refl _) _).drew, fun k hk => (Below.heap_setCell _ _ _ _ hk.2).trans (HS4.out.same k hk)⟩
          have hz5 : w4.heap.size ≤ (w4.setCell ⟨R, 2, none⟩ (.int .i64 (ln + 1 + 1))).drew.heap.size := by simp [World.setCell]
          clear r0 r1 r2 rf f0
          generalize (w4.setCell ⟨R, 2, none⟩ (.int .i64 (ln + 1 + 1))).drew = W5 at *
          go_wp2_with (go_at_call 108; refine (fail_any _ R _ _ _ 8 hR5 ⟨by omega, by omega⟩ ⟨by decide, by decide⟩).mono ?_; rintro e w5 ⟨E, rfl, hE, hp5, hb5⟩)
          go_ret
          exact .bad E rfl (by omega) hp5 (HS5.out.grow (by omega) (by omega) hb5)
        | false =>
          go_region
          have HRd : Hid (ReaderAt w4.drew R (.slice (some ⟨b, off, none⟩) n cap) P (ln + 1)) := HR4.out
          have HBAD2 : Hid (∀ w5 E, Below w4.drew.heap.size w4.drew w5 → w4.drew.heap.size ≤ E → PErr w5 E → ErrAns w w5 R (.returned (.iface 241 (.pointer (some ⟨E, 0, none⟩))))) := fun w5 E hb5 hE hp5 => HBAD.out w5 E (((Below.refl _ _).drew).trans hb5) hE hp5
          have HOK2 : Hid (RdSt w w4.drew R) := ⟨HS4.out.below.drew, HS4.out.same⟩
          have HCS : Hid (BytesAt w4.drew (fun _ => True) (.slice (some ⟨b, off, none⟩) pos cap) (data.take pos)) := by
            have hl : (data.take pos).length = pos := by simp; omega
            have := bytesAt_val (w := w4.drew) (b := b) (o := off) (l := pos) (c := cap) (p := data.take pos) ⟨by simp; omega, by rw [hl]; show pos ≤ cap; omega, hcap.2, fun t ht => by
              rw [List.getElem_take]
              exact HD4.out t (by simp at ht; omega)⟩ (by rw [hl]; omega)
            rw [hl] at this
            exact this
          clear r0 r1 r2 rf f0
          generalize w4.drew = W5 at *
          cases t3 : (x3 != cnt) with
          | true =>
            go_wp2_with (go_at_call 108; refine (fail_any _ R _ _ _ 6 HRd.out ⟨by omega, by omega⟩ ⟨by decide, by decide⟩).mono ?_; rintro e w5 ⟨E, rfl, hE, hp5, hb5⟩)
            go_ret
            exact HBAD2.out w5 E hb5 hE hp5
          | false =>
            obtain ⟨cs, hcs⟩ : ∃ c, c = crc (data.take pos) := ⟨_, rfl⟩
            have HCK := hide (checksum_calls W5 _ _ (data.take pos) HCS.out)
            rw [← hcs] at HCK
            clear hcs
            cases t4 : (x4 != cs) with
            | true =>
              go_wp2_with (first | (go_at_call 46; refine HCK.out.mono ?_; rintro e w5 ⟨rfl, rfl⟩) | (go_at_call 108; refine (fail_any _ R _ _ _ 7 HRd.out ⟨by omega, by omega⟩ ⟨by decide, by decide⟩).mono ?_; rintro e w5 ⟨E, rfl, hE, hp5, hb5⟩))
              go_ret
              exact HBAD2.out w5 E hb5 hE hp5
            | false =>
              go_wp2_with (go_at_call 46; refine HCK.out.mono ?_; rintro e w5 ⟨rfl, rfl⟩)
              go_ret
              exact .ok rfl HOK2.out

end Go.Proofs.Qxb6500666aGreatDoor
