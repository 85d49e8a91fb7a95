/- The trailer, exact: it is taken only if it is the one that is written. (Made by tools/mk_xtrl.py.) -/
import Derived.Test.Qxb6500666aGreatDoorXFld
namespace Go.Proofs.Qxb6500666aGreatDoor
open Go.RowKit

/-- What a reading step answers as its error; X: what is then true of the text. -/
inductive ErrX (w w' : World) (R : Nat) (X : Prop) (e : Ending) : Prop
  | ok (he : e = .returned .nilIface) (hs : RdSt w w' R) (hx : X) : ErrX w w' R X e
  | bad (E : Nat) (he : e = .returned (.iface 241 (.pointer (some ⟨E, 0, none⟩)))) (hE : w.heap.size ≤ E) (hp : PErr w' E) (hs : RdSt w w' R) : ErrX w w' R X e
theorem lineB_three (a b c : List Int) : lineB [a, b, c] = a ++ 124 :: (b ++ 124 :: (c ++ [10])) := by
  unfold lineB
  have : catT [a, b, c] = (a ++ 124 :: (b ++ 124 :: c)) ++ [124] := by simp [catT]
  rw [this, List.dropLast_concat]
  simp
theorem trail_of {data : List Int} {pos P n : Nat} {ps : List (List Int)} {x3 x4 cnt : Int} (hl : data.take P = data.take pos ++ lineB ps) (hP : P = n) (hn : data.length = n) (hw : ps.length = 3) (h0 : ps[0]? = some [84]) (h1 : ps[1]? = some (dec x3)) (h2 : ps[2]? = some (dec x4)) (e3 : x3 = cnt) (e4 : x4 = crc (data.take pos)) : data = trailText (data.take pos) cnt := by
  have hps : ps = [[84], dec x3, dec x4] := by
    match ps, hw with
    | [a, b, c], _ =>
      simp at h0 h1 h2
      rw [h0, h1, h2]
  rw [hP, List.take_of_length_le (by omega)] at hl
  rw [hps, lineB_three, e3, e4] at hl
  have h3 : trailText (data.take pos) cnt = data.take pos ++ ([84] ++ 124 :: (dec cnt ++ 124 :: (dec (crc (data.take pos)) ++ [10]))) := by simp [trailText, fld]
  rw [h3]
  exact hl

set_option maxRecDepth 100000 in
set_option maxHeartbeats 4000000 in
theorem trailer_x (w : World) (R n cap b off : Nat) (data : List Int) (pos : Nat) (ln cnt : Int)
    (hR : ReaderAt w R (.slice (some ⟨b, off, none⟩) n cap) pos ln) (hbR : b ≠ R) (hcap : n ≤ cap ∧ cap ≤ maxLen) (hbl : b < w.heap.size) (hd : ∀ t (h : t < data.length), w.cell? ⟨b, off + t, none⟩ = some (.int .u8 data[t]))
    (hn : data.length = n) (hn2 : n ≤ 140737488355328) (hpos : pos ≤ n) (hn0 : 0 < n) (hln : 0 ≤ ln ∧ ln ≤ 1000000000000000) (hBy : ByteL data) :
    Calls Tryz.prog 113 #[.pointer (some ⟨R, 0, none⟩), .int .u32 cnt] w fun e w' => ErrX w w' R (data = trailText (data.take pos) cnt) e := by
  have HBY := hide hBy
  have HNN := hide hn
  clear hBy
  have HNX := hide (fun W (hW : Below w.heap.size w W) => next_any W R n cap b off data pos ln 3 ((hW.block _ (cell3 hR).2.2.2.2).trans hR) hbR hcap (by have := hW.size; omega) (fun t h => (hW.cell (p := ⟨b, off + t, none⟩) hbl).trans (hd t h)) hn hn2 hpos (by decide) (by decide) hln)
  obtain ⟨r0, r1, r2, rf, hRl⟩ := cell3 hR
  have hsl : ∀ W, (Instr.sliceAt 55 (.slice (some ⟨b, off, none⟩) n cap) none (some (.int .i64 (pos : Int))) none).run Tryz.prog W = .ok (.slice (some ⟨b, off, none⟩) pos cap) W := fun W => run_slUpto W b off n cap pos (by omega) (by omega)
  have HD := hide hd
  clear hd hR
  go_enter Tryz.func113, Tryz.ntmps113
  go_upto_region 1 with fail
  go_region
  clear r0 r1 r2 rf hsl
  go_upto_region 2 with fail
  go_cut [6, 7] (fun pv ev W => Hid (NextCase w.drew W R b off n cap data pos ln 3 pv ev))
  case first =>
    as_aux_lemma =>
      go_wp2_with (go_at_call 103; refine (HNX.out _ (Below.refl _ _).drew).mono ?_; rintro e w1 hans; obtain ⟨pv, ev, rfl, hcase⟩ := hans.two)
      go_meet
      case rel => exact hcase
  case rest =>
    have hcase := hcut.out
    clear hcut HNX
    cases hcase with
    | bad E hpv hev hE hp hs =>
      subst hpv hev
      have HS : Hid (RdSt w wc R) := ⟨⟨hs.below.1, hs.below.2, hs.below.3, hs.below.4, hs.below.5⟩, hs.same⟩
      go_wp2
      go_ret
      exact .bad E rfl hE hp HS.out
    | good g ps line hpv hev hg hF hw hP hR hps hline hcat hs =>
      subst hpv hev
      have HS : Hid (RdSt w wc R) := ⟨⟨hs.below.1, hs.below.2, hs.below.3, hs.below.4, hs.below.5⟩, hs.same⟩
      have hgw : w.heap.size ≤ g := hg
      have HF := hide hF
      have HR := hide hR
      have HLC := hide (take_line hline hcat)
      have HPB : Hid (∀ p ∈ ps, ByteL p) := cat_bytes hcat (fun d hd => HBY.out d (List.mem_of_mem_drop (i := pos) (by rw [hline]; exact List.mem_append_left _ hd)))
      have HWL := hide hw
      obtain ⟨P, hP1⟩ : ∃ P : Nat, P = pos + line.length + 1 := ⟨_, rfl⟩
      rw [← hP1] at HR hps HLC
      clear hs hF hR hline hcat hg hP1
      go_upto_region 7 with (first | (go_at_call 104; refine (expect_any _ g b ps 0 0 84 HF.out (by omega) hP).mono ?_; rintro e w2 ⟨rfl, hF2, hU2⟩; obtain ⟨f2, hf2⟩ : ∃ f2, f2 = (if (ltrV (ps[0]'(by omega)) != 84) then spf (ltrF 0 (ps[0]'(by omega))) 3 else ltrF 0 (ps[0]'(by omega))) := ⟨_, rfl⟩; rw [← hf2] at hF2; have HF2 := hide hF2; have HU2 := hide hU2; have HFL2 := hide hf2; clear hF2 hU2 hf2) | (go_at_call 106; refine (id_x _ g b ps 1 f2 HF2.out (by omega) hP HPB.out).mono ?_; rintro e w3 ⟨x3, f3, rfl, hx3, hf3, hF3, hU3⟩; have HF3 := hide hF3; have HU3 := hide (HU2.out.trans hU3); have HFL3 := hide hf3; clear hF3 hU3 hf3) | (go_at_call 106; refine (id_x _ g b ps 2 f3 HF3.out (by omega) hP HPB.out).mono ?_; rintro e w4 ⟨x4, f4, rfl, hx4, hf4, hF4, hU4⟩; have HF4 := hide hF4; have HU4 := hide (HU3.out.trans hU4); have HFL4 := hide hf4; clear hF4 hU4 hf4))
      have hFl4 : Flt f4 := by
        have h2 : Flt f2 := by
          rw [HFL2.out]
          have h0 : ∀ p, Flt (ltrF 0 p) := fun p => by unfold ltrF; split; exact ⟨by decide, by decide⟩; exact ⟨by decide, by decide⟩
          split
          · exact spf_flt (h0 _) ⟨by decide, by decide⟩
          · exact h0 _
        exact num_flt (num_flt h2 HFL3.out) HFL4.out
      have HZ4 : Hid (f4 = 0 → ps[0]? = some [84] ∧ ps[1]? = some (dec x3) ∧ ps[2]? = some (dec x4)) := fun e => by
        obtain ⟨e3, k3⟩ := num_zero HFL4.out e
        obtain ⟨e2, k2⟩ := num_zero HFL3.out e3
        refine ⟨?_, k2, k3⟩
        have h9 := HFL2.out
        rw [e2] at h9
        split at h9
        · exact absurd h9.symm (spf_zero (by decide))
        · rename_i h8
          obtain ⟨-, h6⟩ := ltrF_zero h9.symm
          have h7 : ltrV (ps[0]'(by omega)) = 84 := by simpa using h8
          rw [List.getElem?_eq_getElem (by omega), h6, h7]
      have HR4 : Hid (ReaderAt w4 R (.slice (some ⟨b, off, none⟩) n cap) P (ln + 1)) := (HU4.out.same R (by omega)).trans HR.out
      have HS4 : Hid (RdSt w w4 R) := HS.out.upd hgw (by omega) HU4.out
      have hgl : g < w4.heap.size := by obtain ⟨pv, vals, h1, -⟩ := HF4.out; exact (cell3 h1).2.2.2.2
      obtain ⟨f0, ff0⟩ : w4.cell? ⟨g, 2, none⟩ = some (.int .u8 f4) ∧ True := by obtain ⟨pv, vals, h1, -⟩ := HF4.out; exact ⟨(cell3 h1).2.2.1, trivial⟩
      obtain ⟨r0, r1, r2, rf, hRl4⟩ := cell3 HR4.out
      have hzz : w.heap.size ≤ w4.heap.size := by have := HU4.out.size; have := hgl; omega
      have HD4 : Hid (∀ t (h : t < data.length), w4.cell? ⟨b, off + t, none⟩ = some (.int .u8 data[t])) := fun t h => by
        rw [HS4.out.same.cell (b := b) ⟨hbl, hbR⟩]; exact HD.out t h
      have HBAD : Hid (∀ w5 E, Below w4.heap.size w4 w5 → w4.heap.size ≤ E → PErr w5 E → ErrX w w5 R (data = trailText (data.take pos) cnt) (.returned (.iface 241 (.pointer (some ⟨E, 0, none⟩))))) := fun w5 E hb5 hE hp5 => .bad E rfl (by omega) hp5 (HS4.out.grow hzz (by omega) hb5)
      clear HFL2 HFL3 HFL4 HF HF2 HF3 HU2 HU3 HR HS ff0
      cases t1 : (f4 != 0) with
      | true =>
        go_wp2_with (go_at_call 108; refine (fail_any _ R _ _ _ f4 HR4.out ⟨by omega, by omega⟩ ⟨(by have h8 := hFl4.1; have h7 : f4 ≠ 0 := (by simpa using t1); omega), hFl4.2⟩).mono ?_; rintro e w5 ⟨E, rfl, hE, hp5, hb5⟩)
        go_ret
        exact HBAD.out w5 E hb5 hE hp5
      | false =>
        have HZ5 := hide (HZ4.out (by simpa using t1))
        go_upto_region 9 with fail
        cases t2 : ((P : Int) != (n : Int)) with
        | true =>
          go_region
          go_upto_region 11 with fail
          have hR5 : ReaderAt (w4.setCell ⟨R, 2, none⟩ (.int .i64 (ln + 1 + 1))).drew R (.slice (some ⟨b, off, none⟩) n cap) P (ln + 1 + 1) := by
            have := heap_set3 (j := 2) (v := .int .i64 (ln + 1 + 1)) HR4.out
            simp only [List.setIfInBounds_toArray, List.set_cons_succ, List.set_cons_zero] at this
            exact this
          have HS5 : Hid (RdSt w (w4.setCell ⟨R, 2, none⟩ (.int .i64 (ln + 1 + 1))).drew R) := ⟨(HS4.out.below.setCell (p := ⟨R, 2, none⟩) (Nat.le_refl _) _).drew, fun k hk => (Below.heap_setCell _ _ _ _ hk.2).trans (HS4.out.same k hk)⟩
          have hz5 : w4.heap.size ≤ (w4.setCell ⟨R, 2, none⟩ (.int .i64 (ln + 1 + 1))).drew.heap.size := by simp [World.setCell]
          clear r0 r1 r2 rf f0
          generalize (w4.setCell ⟨R, 2, none⟩ (.int .i64 (ln + 1 + 1))).drew = W5 at *
          go_wp2_with (go_at_call 108; refine (fail_any _ R _ _ _ 8 hR5 ⟨by omega, by omega⟩ ⟨by decide, by decide⟩).mono ?_; rintro e w5 ⟨E, rfl, hE, hp5, hb5⟩)
          go_ret
          exact .bad E rfl (by omega) hp5 (HS5.out.grow (by omega) (by omega) hb5)
        | false =>
          have HPN : Hid (P = n) := by show _ = _; simp at t2; omega
          go_region
          have HRd : Hid (ReaderAt w4.drew R (.slice (some ⟨b, off, none⟩) n cap) P (ln + 1)) := HR4.out
          have HBAD2 : Hid (∀ w5 E, Below w4.drew.heap.size w4.drew w5 → w4.drew.heap.size ≤ E → PErr w5 E → ErrX w w5 R (data = trailText (data.take pos) cnt) (.returned (.iface 241 (.pointer (some ⟨E, 0, none⟩))))) := fun w5 E hb5 hE hp5 => HBAD.out w5 E (((Below.refl _ _).drew).trans hb5) hE hp5
          have HOK2 : Hid (RdSt w w4.drew R) := ⟨HS4.out.below.drew, HS4.out.same⟩
          have HCS : Hid (BytesAt w4.drew (fun _ => True) (.slice (some ⟨b, off, none⟩) pos cap) (data.take pos)) := by
            have hl : (data.take pos).length = pos := by simp; omega
            have := bytesAt_val (w := w4.drew) (b := b) (o := off) (l := pos) (c := cap) (p := data.take pos) ⟨by simp; omega, by rw [hl]; show pos ≤ cap; omega, hcap.2, fun t ht => by
              rw [List.getElem_take]
              exact HD4.out t (by simp at ht; omega)⟩ (by rw [hl]; omega)
            rw [hl] at this
            exact this
          clear r0 r1 r2 rf f0
          generalize w4.drew = W5 at *
          cases t3 : (x3 != cnt) with
          | true =>
            go_wp2_with (go_at_call 108; refine (fail_any _ R _ _ _ 6 HRd.out ⟨by omega, by omega⟩ ⟨by decide, by decide⟩).mono ?_; rintro e w5 ⟨E, rfl, hE, hp5, hb5⟩)
            go_ret
            exact HBAD2.out w5 E hb5 hE hp5
          | false =>
            have HE3 : Hid (x3 = cnt) := by show _ = _; simpa using t3
            obtain ⟨cs, hcs⟩ : ∃ c, c = crc (data.take pos) := ⟨_, rfl⟩
            have HCK := hide (checksum_calls W5 _ _ (data.take pos) HCS.out)
            rw [← hcs] at HCK
            have HCS2 := hide hcs
            clear hcs
            cases t4 : (x4 != cs) with
            | true =>
              go_wp2_with (first | (go_at_call 46; refine HCK.out.mono ?_; rintro e w5 ⟨rfl, rfl⟩) | (go_at_call 108; refine (fail_any _ R _ _ _ 7 HRd.out ⟨by omega, by omega⟩ ⟨by decide, by decide⟩).mono ?_; rintro e w5 ⟨E, rfl, hE, hp5, hb5⟩))
              go_ret
              exact HBAD2.out w5 E hb5 hE hp5
            | false =>
              have HE4 : Hid (x4 = cs) := by show _ = _; simpa using t4
              go_wp2_with (go_at_call 46; refine HCK.out.mono ?_; rintro e w5 ⟨rfl, rfl⟩)
              go_ret
              exact .ok rfl HOK2.out (trail_of HLC.out HPN.out HNN.out HWL.out HZ5.out.1 HZ5.out.2.1 HZ5.out.2.2 HE3.out (HE4.out.trans HCS2.out))

end Go.Proofs.Qxb6500666aGreatDoor
