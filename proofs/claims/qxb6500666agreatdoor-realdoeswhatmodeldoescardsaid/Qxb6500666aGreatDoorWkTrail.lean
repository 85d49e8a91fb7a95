/- ParseTrail on bytes of every kind: weak. (Made by tools/mk_wktrail.py.) -/
import Derived.Test.Qxb6500666aGreatDoorWkParse
import Derived.Test.Qxb6500666aGreatDoorRTrail2
namespace Go.Proofs.Qxb6500666aGreatDoor
open Go.RowKit
attribute [local go_sem ↓] exec_ldEnt exec_stEnt exec_bdEnt exec_bsEnt exec_ldReq exec_stReq exec_bdReq
attribute [local go_sem] run_ldEnt run_stEnt run_bdEnt run_bsEnt run_ldReq run_stReq run_bdReq entA_size entA_ones rng_alloc_lt rng_alloc_at rng_drew rng_drewN rng_setCell_other rng_setRow_other whole_alloc_lt whole_alloc_at whole_drew whole_setCell_other whole_setRow_other setRow_alloc_at setRow_alloc_lt setRow_drew

/-- What ParseTrail answers. -/
inductive TrAns (w w' : World) (e : Ending) : Prop
  | bad (E : Nat) (he : e = .returned (.tuple #[.slice none 0 0, .iface 241 (.pointer (some ⟨E, 0, none⟩))])) (hE : w.heap.size ≤ E) (hp : PErr w' E) (hb : Below w.heap.size w w') : TrAns w w' e
  | good (a : Option Addr) (n cap : Nat) (he : e = .returned (.tuple #[.slice a n cap, .nilIface])) (hb : Below w.heap.size w w') : TrAns w w' e
structure TW (w W : World) (G b off n cap : Nat) (zs : List ZE) (q pos : Nat) (a : Option Addr) (capq : Nat) : Prop where
  rd : ReaderAt W G (.slice (some ⟨b, off, none⟩) n cap) pos (1 + q)
  own : OwnR W (G + 1) 67 20 zeCs (.slice a q capq) zs
  len : zs.length = q
  blw : Below G w W
  qp : q ≤ pos
  pos : pos ≤ n
structure TX (w W : World) (S G b off n cap : Nat) (zs : List ZE) (q pos : Nat) (ln : Int) (a : Option Addr) (capq : Nat) : Prop where
  rd : ReaderAt W G (.slice (some ⟨b, off, none⟩) n cap) pos ln
  own : OwnR W (G + 1) 67 20 zeCs (.slice a q capq) zs
  blw : Below G w W
  lo : G < S
  ob : ∀ x, (Value.slice a q capq).ownBlock = some x → x < S
theorem TX.step {w W W' : World} {S G b off n cap : Nat} {zs : List ZE} {q pos : Nat} {ln : Int} {a : Option Addr} {capq : Nat} (h : TX w W S G b off n cap zs q pos ln a capq) (hb : Below S W W') : TX w W' S G b off n cap zs q pos ln a capq :=
  have h1 := h.lo
  ⟨(hb.block _ (by omega)).trans h.rd, h.own.mono fun x hx => hb.block _ (h.ob x hx), h.blw.trans (hb.mono (by omega)), h.lo, h.ob⟩
theorem TW.line {w W W' : World} {G b off n cap : Nat} {zs : List ZE} {q pos pos' : Nat} {ln' : Int} {a : Option Addr} {capq : Nat} (h : TW w W G b off n cap zs q pos a capq) (hs : RdSt W W' G) (hR : ReaderAt W' G (.slice (some ⟨b, off, none⟩) n cap) pos' ln') : TX w W' W.heap.size G b off n cap zs q pos' ln' a capq :=
  have hG := (cell3 h.rd).2.2.2.2
  ⟨hR, h.own.mono fun x hx => hs.same x ⟨(h.own.block x hx).2, by have := (h.own.block x hx).1; omega⟩, h.blw.trans hs.below, hG, fun x hx => (h.own.block x hx).2⟩
theorem below_setRow {W : World} {S C : Nat} {cs : Array Value} (h : S ≤ C) : Below S W (W.setRow C cs) := ⟨rfl, rfl, rfl, by simp, fun k hk => setRow_other _ _ _ _ (by omega)⟩
section
variable {w0 : World} {g b : Nat} {ps : List (List Int)} {k : Nat} {f : Int}
theorem role_w (w : World) (rn kn ft : Nat → ByteArray) (hnm : NmAt w rn kn ft) (hgg : 5 < g) (h : Fst w0 w g b ps k f) (hk : k < ps.length) (hp : PsL ps) :
    Calls Tryz.prog 141 #[.pointer (some ⟨g, 0, none⟩)] w fun e w' => ∃ x f', e = .returned (.int .u8 x) ∧ Hid (Fst w0 w' g b ps (k + 1) f') ∧ Hid (w'.heap.size = w.heap.size) :=
  (role_any w rn kn ft g b ps k f hnm hgg h.fl hk hp).mono fun _ _ ⟨x, f', h1, _, h3, h4, h5⟩ => ⟨x, f', h1, h.next h4 (flt_or h.flt flt3 h3) h5, h5.size⟩
theorem command_w (w : World) (rn kn ft : Nat → ByteArray) (hnm : NmAt w rn kn ft) (hgg : 5 < g) (h : Fst w0 w g b ps k f) (hk : k < ps.length) (hp : PsL ps) :
    Calls Tryz.prog 142 #[.pointer (some ⟨g, 0, none⟩)] w fun e w' => ∃ x f', e = .returned (.int .u8 x) ∧ Hid (Fst w0 w' g b ps (k + 1) f') ∧ Hid (w'.heap.size = w.heap.size) :=
  (command_any w rn kn ft g b ps k f hnm hgg h.fl hk hp).mono fun _ _ ⟨x, f', h1, _, h3, h4, h5⟩ => ⟨x, f', h1, h.next h4 (flt_or h.flt flt3 h3) h5, h5.size⟩
end
theorem Upn.trans' {g : Nat} {w w1 w2 : World} {C : Nat} (h : Upn g w w1) (hs : ∀ k, k ≠ C → w2.heap[k]? = w1.heap[k]?) (hC : w.heap.size ≤ C) (hz : w1.heap.size ≤ w2.heap.size) : Upn g w w2 :=
  ⟨fun b hb => (hs b (by have := hb.1; omega)).trans (h.same b hb), by have := h.size; omega⟩
theorem FieldsAt.beside {w w' : World} {g b C : Nat} {ps : List (List Int)} {at' f : Int} (h : FieldsAt w g b ps at' f) (hC : g < C) (hbC : b ≠ C) (hs : ∀ k, k ≠ C → w'.heap[k]? = w.heap[k]?) (hz : w.heap.size ≤ w'.heap.size) : FieldsAt w' g b ps at' f := by
  obtain ⟨pv, vals, hg, hr, hl, hv, hb, hbl⟩ := h
  refine ⟨pv, vals, (hs g (by omega)).trans hg, RArr.mono hr (fun k hk => hs k (by omega)) (fun _ hk => hk), hl, fun t h h' => ?_, hb, by omega⟩
  obtain ⟨v1, v2, v3, v4⟩ := hv t h h'
  exact ⟨v1, v2, v3, fun u hu' => by rw [World.cell?_of_block (hs b hbC)]; exact v4 u hu'⟩
/-- The fields are in hand, though a block beside them was written. -/
theorem Fst.beside {w0 w w' : World} {g b C : Nat} {ps : List (List Int)} {k : Nat} {f : Int} (h : Fst w0 w g b ps k f) (hC : w0.heap.size ≤ C) (hg : g < w0.heap.size) (hbC : b ≠ C) (hs : ∀ k, k ≠ C → w'.heap[k]? = w.heap[k]?) (hb : Below C w w') : Fst w0 w' g b ps k f :=
  ⟨h.fl.beside (by omega) hbC hs hb.size, h.flt, h.upn.trans' hs hC hb.size, h.blw.trans (hb.mono (by omega))⟩

set_option maxRecDepth 100000 in
set_option maxHeartbeats 8000000 in
theorem parseTrail_some (w : World) (rn kn ft : Nat → ByteArray) (b off n cap : Nat) (data : List Int) (hcap : n ≤ cap ∧ cap ≤ maxLen) (hbl : b < w.heap.size) (hd : ∀ t (h : t < data.length), w.cell? ⟨b, off + t, none⟩ = some (.int .u8 data[t])) (hn : data.length = n) (hn2 : n ≤ 4000000000) (hn0 : 0 < n) (hnm : NmAt w rn kn ft) (h5 : 5 < w.heap.size) :
    Calls Tryz.prog 80 #[.slice (some ⟨b, off, none⟩) n cap] w fun e w' => TrAns w w' e := by
  have HD := hide hd
  have HN := hide hn
  have HCP := hide hcap
  have HNM : Hid (∀ W, Below w.heap.size w W → NmAt W rn kn ft) := fun W hW => hnm.below hW
  clear hd hn hcap hnm
  go_enter Tryz.func80, Tryz.ntmps80
  go_upto_region 2 with fail
  obtain ⟨G, hG⟩ : ∃ G, w.heap.size = G := ⟨_, rfl⟩
  have hb1 : Below w.heap.size w (w.alloc (.cells #[.slice (some ⟨b, off, none⟩) n cap, .int .i64 0, .int .i64 0] 224)) := (Below.refl _ _).alloc (Nat.le_refl _) _
  have hk1 : ReaderAt (w.alloc (.cells #[.slice (some ⟨b, off, none⟩) n cap, .int .i64 0, .int .i64 0] 224)) w.heap.size (.slice (some ⟨b, off, none⟩) n cap) ((0 : Nat) : Int) 0 := heap_alloc_at _ _
  have hz1 : (w.alloc (.cells #[.slice (some ⟨b, off, none⟩) n cap, .int .i64 0, .int .i64 0] 224)).heap.size = w.heap.size + 1 := by simp
  generalize w.alloc (.cells #[.slice (some ⟨b, off, none⟩) n cap, .int .i64 0, .int .i64 0] 224) = W1 at *
  rw [hG] at hb1 hk1 hz1 h5 HNM ⊢
  have hbG : b < G := by omega
  have HG := hide hG
  have HB1 := hide hb1
  have HRD1 := hide hk1
  have HBAD : Hid (∀ (W : World) (E : Nat), Below G w W → PErr W E → G ≤ E → TrAns w W (.returned (.tuple #[.slice none 0 0, .iface 241 (.pointer (some ⟨E, 0, none⟩))]))) := fun W E h1 h2 h3 => .bad E rfl (by have := HG.out; omega) h2 (by rw [HG.out]; exact h1)
  have HNX : Hid (∀ (W : World) (pos : Nat) (ln : Int) (want : Nat), Below G w W → ReaderAt W G (.slice (some ⟨b, off, none⟩) n cap) pos ln → pos ≤ n → 1 ≤ want → want ≤ 100 → 0 ≤ ln ∧ ln ≤ 1000000000000000 → Calls Tryz.prog 103 #[.pointer (some ⟨G, 0, none⟩), .int .i64 want] W fun e w' => ∃ pv ev, e = .returned (.tuple #[pv, ev]) ∧ Hid (NextCase W w' G b off n cap data pos ln want pv ev)) := fun W pos ln want hW hR hp h1 h2 h3 =>
    (next_any W G n cap b off data pos ln want hR (by omega) HCP.out (by have := hW.size; omega) (fun t h => (hW.cell (p := ⟨b, off + t, none⟩) (by dsimp only; omega)).trans (HD.out t h)) HN.out (by omega) hp h1 h2 h3).mono (fun e w' h => h.two)
  have HFC : Hid (∀ W' (ln fl : Int), 1 ≤ fl ∧ fl ≤ 8 → Below G w W' → (∃ P : Nat, ReaderAt W' G (.slice (some ⟨b, off, none⟩) n cap) P ln) → 1 ≤ ln ∧ ln ≤ 1000000000000000 → Calls Tryz.prog 108 #[.pointer (some ⟨G, 0, none⟩), .int .u8 fl] W' fun e w5 => ∃ E, e = .returned (.iface 241 (.pointer (some ⟨E, 0, none⟩))) ∧ Hid (Below G w w5) ∧ Hid (PErr w5 E) ∧ W'.heap.size ≤ E) := fun W' ln fl hfl h1 ⟨P, h2⟩ h3 =>
    (fail_any W' G _ _ _ fl h2 ⟨by omega, by omega⟩ hfl).mono fun _ w5 ⟨E, a1, a2, a3, a4⟩ => by
      have hl := (cell3 h2).2.2.2.2
      exact ⟨E, a1, h1.trans (a4.mono (by omega)), a3, a2⟩
  clear hG hb1 hk1
  go_cut [5, 6] (fun pv ev W => Hid (NextCase W1 W G b off n cap data 0 0 3 pv ev))
  case first =>
    as_aux_lemma =>
      --B
      go_wp2_with (go_at_call 103; refine (HNX.out W1 0 0 3 HB1.out HRD1.out (by omega) (by omega) (by omega) ⟨by omega, by omega⟩).mono ?_; rintro e w2 ⟨pv, ev, rfl, HC⟩)
      go_meet
      case rel => exact HC
      --E
  case rest =>
  have hcc := hcut.out
  clear hcut
  cases hcc with
  | bad E hpv hev hE hp hs =>
    subst hpv hev
    have HB2 := hide (HB1.out.trans hs.below)
    have HPE := hide hp
    clear hp hs
    --B
    go_wp2
    go_ret2
    exact HBAD.out wc E HB2.out HPE.out (by omega)
    --E
  | good g ps line hpv hev hg hF hwl hP hR hpos hline hcat hs =>
  subst hpv hev
  have HB2 := hide (HB1.out.trans hs.below)
  have HR2 := hide hR
  have HF0 : Hid (Fst wc wc g b ps 0 0) := ⟨hF, ⟨by decide, by decide⟩, ⟨Same.refl _ _, Nat.le_refl _⟩, Below.refl _ _⟩
  generalize 0 + line.length + 1 = P1 at *
  have hgl := HF0.out.fault.2
  generalize wc = V at *
  have hgG : G + 1 ≤ g := by omega
  clear hF hR hline hcat hs HB1 HRD1 hz1
  go_upto_region 6 with (go_at_call 104; refine (expect_w _ 72 HF0.out (by omega) hP).mono ?_; rintro e V1 ⟨f1, rfl, HF1⟩)
  clear HF0
  go_upto_region 7 with (go_at_call 104; refine (expect_w _ 65 HF1.out (by omega) hP).mono ?_; rintro e V2 ⟨f2, rfl, HF2⟩)
  clear HF1
  go_upto_region 8 with (go_at_call 106; refine (id_w _ HF2.out (by omega) hP).mono ?_; rintro e W7 ⟨cnt, f7, rfl, HCn, HF7, -⟩)
  have HR7 : Hid (ReaderAt W7 G (.slice (some ⟨b, off, none⟩) n cap) P1 1) := (HF7.out.upn.same G ⟨by omega, by omega⟩).trans HR2.out
  have HB7 := hide (HB2.out.trans (HF7.out.blw.mono (by omega)))
  obtain ⟨hf0, hg7⟩ := HF7.out.fault
  have hc0 := HCn.out.1
  have hc1 := HCn.out.2
  obtain ⟨m, rfl⟩ : ∃ m : Nat, cnt = m := ⟨cnt.toNat, by omega⟩
  have hff := HF7.out.flt
  clear HF2 HR2 HB2
  cases t1 : (f7 != 0) with
  | true =>
    have h7 : f7 ≠ 0 := by simpa using t1
    have h8 := hff.1
    have h9 := hff.2
    have HCC := hide (HFC.out W7 1 f7 ⟨by omega, by omega⟩ HB7.out ⟨P1, HR7.out⟩ ⟨by omega, by omega⟩)
    clear h7
    --B
    go_wp2_with (go_at_call 108; refine HCC.out.mono ?_; rintro e w5 ⟨E, rfl, HB5, HPE, hE⟩)
    go_ret2
    exact HBAD.out w5 E HB5.out HPE.out (by omega)
    --E
  | false =>
  have HT0 : Hid (TW w W7 G b off n cap [] 0 P1 none 0) := ⟨HR7.out, OwnR.nil _ _ _ _ _, rfl, HB7.out, by omega, hpos⟩
  go_upto_region 12 with fail
  clear hf0 HF7 HR7 HB7 hg7 hff t1 hg hgl hgG hwl hP hpos HCn
  go_loopg [8, 9] m (fun gk v j W => ∃ (q P : Nat) (zs : List ZE) (a : Option Addr) (capq : Nat), q ≤ m ∧ gk = m - q ∧ v = .slice a q capq ∧ j = .int .u32 ((q + 1 : Nat) : Int) ∧ Hid (TW w W G b off n cap zs q P a capq))
  case atStart => exact ⟨0, P1, [], none, 0, by omega, by omega, rfl, rfl, HT0⟩
  clear HT0
  case round =>
    obtain ⟨q, P, zs, a, capq, hq, rfl, rfl, rfl, HP⟩ := hrel
    have hGl : G < wr.heap.size := (cell3 HP.out.rd).2.2.2.2
    have hPn := HP.out.pos
    have hqP := HP.out.qp
    by_cases hlt : q < m
    · go_upto_region 14 with fail
      go_cut [10, 11] (fun pv ev W => Hid (NextCase wr W G b off n cap data P (1 + (q : Int)) 21 pv ev))
      case first =>
        as_aux_lemma =>
          --B
          go_wp2_with (go_at_call 103; refine (HNX.out wr P (1 + (q : Int)) 21 HP.out.blw HP.out.rd hPn (by omega) (by omega) ⟨by omega, by omega⟩).mono ?_; rintro e w2 ⟨pv, ev, rfl, HC⟩)
          go_meet
          case rel => exact HC
          --E
      case rest =>
      have hcc := hcut.out
      clear hcut
      cases hcc with
      | bad E hpv hev hE hp hs =>
        subst hpv hev
        have HB2 := hide (HP.out.blw.trans hs.below)
        have HPE := hide hp
        clear hp hs
        --B
        go_wp2
        go_ret2
        exact HBAD.out wc E HB2.out HPE.out (by omega)
        --E
      | good g ps line hpv hev hg hF hwl hP hR hpos hline hcat hs =>
      subst hpv hev
      have HX0 : Hid (TX w wc wr.heap.size G b off n cap zs q (P + line.length + 1) (1 + (q : Int) + 1) a capq) := HP.out.line hs hR
      have HF0 : Hid (Fst wc wc g b ps 0 0) := ⟨hF, ⟨by decide, by decide⟩, ⟨Same.refl _ _, Nat.le_refl _⟩, Below.refl _ _⟩
      have hqP2 : q + 1 ≤ P + line.length + 1 := by omega
      generalize P + line.length + 1 = P2 at *
      have hgl := HF0.out.fault.2
      have hSV : wr.heap.size ≤ wc.heap.size := by omega
      have HLen := hide HP.out.len
      generalize wc = V at *
      clear hF hR hline hcat hs HP hqP
      generalize wr.heap.size = S at *
      go_upto_region 18 with (go_at_call 104; refine (expect_w _ 69 HF0.out (by omega) hP).mono ?_; rintro e V1 ⟨f1, rfl, HF1⟩)
      clear HF0
      go_cut [12] (fun p W => ∃ C x f, p = .pointer (some ⟨C, 0, none⟩) ∧ V.heap.size ≤ C ∧ Hid (TX w W S G b off n cap zs q P2 (1 + (q : Int) + 1) a capq) ∧ Hid (Fst V W g b ps 4 f) ∧ Hid (W.heap[C]? = some (.cells (entA x (.slice none 0 0)) 67 (0, 0))))
      case first =>
        as_aux_lemma =>
          --B
          go_wp2_with fail
          go_at_call 106
          refine (id_w _ HF1.out (by omega) hP).mono ?_
          rintro e V2 ⟨s, f2, rfl, -, HF2, -⟩
          go_wp2_with fail
          go_at_call 141
          refine (role_w _ rn kn ft (HNM.out _ (HX0.out.step (HF2.out.blw.mono (by omega))).blw) (by omega) HF2.out (by omega) hP).mono ?_
          rintro e V3 ⟨r, f3, rfl, HF3, -⟩
          go_wp2_with fail
          go_at_call 106
          refine (id_w _ HF3.out (by omega) hP).mono ?_
          rintro e V4 ⟨i, f4, rfl, -, HF4, -⟩
          go_wp2
          go_meet
          case rel =>
            have hz := HF4.out.upn.size
            have HA : Below V4.heap.size V4 (V4.alloc (.cells (entA ⟨s, r, i, zeroReq⟩ (.slice none 0 0)) 67)) := (Below.refl _ _).alloc (Nat.le_refl _) _
            have HQ : Fst V (V4.alloc (.cells (entA ⟨s, r, i, zeroReq⟩ (.slice none 0 0)) 67)) g b ps 4 f4 := HF4.out.grow HA
            exact ⟨V4.heap.size, _, f4, rfl, hz, HX0.out.step (HQ.blw.mono (by omega)), HQ, heap_alloc_at _ _⟩
          --E
      case rest =>
      obtain ⟨C, x0, f, rfl, hVC, HX1, HF2, HC0⟩ := hcut
      generalize wc = U1 at *
      clear HX0 HF1
      go_upto_region 19 with fail
      go_cut [] (fun W => ∃ x f, Hid (TX w W S G b off n cap zs q P2 (1 + (q : Int) + 1) a capq) ∧ Hid (Fst V W g b ps 17 f) ∧ Hid (W.heap[C]? = some (.cells (entA x (.slice none 0 0)) 67 (0, 0))))
      case first =>
        as_aux_lemma =>
          --B
          have HG1 := hide HF2.out.again
          have HXB := hide HX1.out.blw
          have hCl := blk_lt HC0.out
          go_wp2_with fail
          go_at_call 142
          refine (command_w _ rn kn ft (HNM.out _ HXB.out) (by omega) HG1.out (by omega) hP).mono ?_
          rintro e U2 ⟨x1, f2, rfl, HG2, -⟩
          go_wp2_with fail
          go_at_call 106
          refine (id_w _ HG2.out (by omega) hP).mono ?_
          rintro e U3 ⟨x2, f3, rfl, -, HG3, -⟩
          go_wp2_with fail
          go_at_call 107
          refine (any_w _ HG3.out (by omega) hP).mono ?_
          rintro e U4 ⟨x3, f4, rfl, -, HG4, -⟩
          go_wp2_with fail
          go_at_call 106
          refine (id_w _ HG4.out (by omega) hP).mono ?_
          rintro e U5 ⟨x4, f5, rfl, -, HG5, -⟩
          go_wp2_with fail
          go_at_call 106
          refine (id_w _ HG5.out (by omega) hP).mono ?_
          rintro e U6 ⟨x5, f6, rfl, -, HG6, -⟩
          go_wp2_with fail
          go_at_call 106
          refine (id_w _ HG6.out (by omega) hP).mono ?_
          rintro e U7 ⟨x6, f7, rfl, -, HG7, -⟩
          go_wp2_with fail
          go_at_call 106
          refine (id_w _ HG7.out (by omega) hP).mono ?_
          rintro e U8 ⟨x7, f8, rfl, -, HG8, -⟩
          go_wp2_with fail
          go_at_call 106
          refine (id_w _ HG8.out (by omega) hP).mono ?_
          rintro e U9 ⟨x8, f9, rfl, -, HG9, -⟩
          go_wp2_with fail
          go_at_call 109
          refine (byte_w _ HG9.out (by omega) hP).mono ?_
          rintro e U10 ⟨x9, f10, rfl, ⟨hlo9, hhi9⟩, HG10, -⟩
          go_wp2_with fail
          go_at_call 109
          refine (byte_w _ HG10.out (by omega) hP).mono ?_
          rintro e U11 ⟨x10, f11, rfl, ⟨hlo10, hhi10⟩, HG11, -⟩
          go_wp2_with fail
          go_at_call 107
          refine (any_w _ HG11.out (by omega) hP).mono ?_
          rintro e U12 ⟨x11, f12, rfl, -, HG12, -⟩
          go_wp2_with fail
          go_at_call 107
          refine (any_w _ HG12.out (by omega) hP).mono ?_
          rintro e U13 ⟨x12, f13, rfl, -, HG13, -⟩
          go_wp2_with fail
          go_at_call 107
          refine (any_w _ HG13.out (by omega) hP).mono ?_
          rintro e U14 ⟨x13, f14, rfl, -, HG14, -⟩
          have hkV := (HG14.out.upn.same C ⟨hCl, by omega⟩).trans HC0.out
          have hst : (stS 53 (.pointer (some ⟨C, 3, none⟩)) (.agg #[.int .u8 x1, .int .u32 x2, .int .i64 x3, .int .u32 x4, .int .u32 x5, .int .u32 x6, .int .u32 x7, .int .u32 x8, .int .u8 x9, .int .u8 x10, .int .i64 x11, .int .i64 x12, .int .i64 x13, .int .i64 0, .int .i64 0, .int .i64 0, .slice none 0 0])).run Tryz.prog U14 = .ok () (U14.setRow C (entA ⟨x0.seq, x0.role, x0.issued, ⟨x1, x2, x3, x4, x5, x6, x7, x8, x9, x10, x11, x12, x13, 0, 0, 0, []⟩⟩ (.slice none 0 0))) := run_stReq3 U14 C x0.seq x0.role x0.issued x0.req ⟨x1, x2, x3, x4, x5, x6, x7, x8, x9, x10, x11, x12, x13, 0, 0, 0, []⟩ (.slice none 0 0) none 0 0 hkV
          have HKV := hide hkV
          clear hkV
          clear HG1 HG2 HG3 HG4 HG5 HG6 HG7 HG8 HG9 HG10 HG11 HG12 HG13 HXB
          go_wp2
          go_meet
          case rel =>
            have HQ := HF2.out.comp HG14.out
            exact ⟨_, f14, (HX1.out.step (HG14.out.blw.mono (by omega))).step (below_setRow (by omega)), HQ.beside hVC hgl (by omega) (fun k hk => setRow_other _ _ _ _ hk) (below_setRow (Nat.le_refl _)), heap_setRow_at HKV.out⟩
          --E
      case rest =>
      obtain ⟨x1, f, HX2, HF3, HC1⟩ := hcut
      clear HX1 HF2 HC0
      go_upto_region 21 with fail
      go_loopg [95] 3 (fun gk j W => ∃ (q3 : Nat) (x : Ent) (f : Int), q3 ≤ 3 ∧ gk = 3 - q3 ∧ j = .int .i64 q3 ∧ Hid (TX w W S G b off n cap zs q P2 (1 + (q : Int) + 1) a capq) ∧ Hid (Fst V W g b ps (17 + q3) f) ∧ Hid (W.heap[C]? = some (.cells (entA x (.slice none 0 0)) 67 (0, 0))))
      case atStart => exact ⟨0, x1, f, by omega, by omega, rfl, HX2, HF3, HC1⟩
      clear HX2 HF3 HC1
      case round =>
        obtain ⟨q3, x, f, hq3, rfl, rfl, HIx, HIf, HIc⟩ := hrel
        by_cases h0 : q3 = 0
        · subst h0
          --B
          have HI2 : Hid (Fst V wr g b ps 17 f) := HIf.out
          go_wp2_with (go_at_call 107; refine (any_w _ HI2.out.again (by omega) hP).mono ?_; rintro e w1 ⟨y, f1, rfl, -, HJ, -⟩; have HK := hide ((HJ.out.upn.same C ⟨blk_lt HIc.out, by omega⟩).trans HIc.out); have hKc : w1.cell? ⟨C, 16, none⟩ = some (.int .i64 x.req.l0) := (by rw [cells_all HK.out 16]; rfl); have hKf : w1.frozen? ⟨C, 16, none⟩ = false := (by simp [World.frozen?, HK.out]))
          go_roundg (3 - 1)
          case measure => omega
          case rel =>
            have HT1 := HIx.out.step (HJ.out.blw.mono (by omega))
            have hbs : Below C w1 (w1.setCell ⟨C, 16, none⟩ (.int .i64 y)) := (Below.refl _ _).setCell (p := ⟨C, 16, none⟩) (Nat.le_refl _) _
            refine ⟨1, { x with req := { x.req with l0 := y } }, f1, by omega, by omega, by go_num, HT1.step (hbs.mono (by omega)), (HI2.out.comp HJ.out).beside hVC hgl (by omega) (fun k hk => Below.heap_setCell _ _ _ _ hk) hbs, heap_set3 HK.out⟩
          --E
        by_cases h1 : q3 = 1
        · subst h1
          --B
          have HI2 : Hid (Fst V wr g b ps 18 f) := HIf.out
          go_wp2_with (go_at_call 107; refine (any_w _ HI2.out.again (by omega) hP).mono ?_; rintro e w1 ⟨y, f1, rfl, -, HJ, -⟩; have HK := hide ((HJ.out.upn.same C ⟨blk_lt HIc.out, by omega⟩).trans HIc.out); have hKc : w1.cell? ⟨C, 17, none⟩ = some (.int .i64 x.req.l1) := (by rw [cells_all HK.out 17]; rfl); have hKf : w1.frozen? ⟨C, 17, none⟩ = false := (by simp [World.frozen?, HK.out]))
          go_roundg (3 - 2)
          case measure => omega
          case rel =>
            have HT1 := HIx.out.step (HJ.out.blw.mono (by omega))
            have hbs : Below C w1 (w1.setCell ⟨C, 17, none⟩ (.int .i64 y)) := (Below.refl _ _).setCell (p := ⟨C, 17, none⟩) (Nat.le_refl _) _
            refine ⟨2, { x with req := { x.req with l1 := y } }, f1, by omega, by omega, by go_num, HT1.step (hbs.mono (by omega)), (HI2.out.comp HJ.out).beside hVC hgl (by omega) (fun k hk => Below.heap_setCell _ _ _ _ hk) hbs, heap_set3 HK.out⟩
          --E
        by_cases h2 : q3 = 2
        · subst h2
          --B
          have HI2 : Hid (Fst V wr g b ps 19 f) := HIf.out
          go_wp2_with (go_at_call 107; refine (any_w _ HI2.out.again (by omega) hP).mono ?_; rintro e w1 ⟨y, f1, rfl, -, HJ, -⟩; have HK := hide ((HJ.out.upn.same C ⟨blk_lt HIc.out, by omega⟩).trans HIc.out); have hKc : w1.cell? ⟨C, 18, none⟩ = some (.int .i64 x.req.l2) := (by rw [cells_all HK.out 18]; rfl); have hKf : w1.frozen? ⟨C, 18, none⟩ = false := (by simp [World.frozen?, HK.out]))
          go_roundg (3 - 3)
          case measure => omega
          case rel =>
            have HT1 := HIx.out.step (HJ.out.blw.mono (by omega))
            have hbs : Below C w1 (w1.setCell ⟨C, 18, none⟩ (.int .i64 y)) := (Below.refl _ _).setCell (p := ⟨C, 18, none⟩) (Nat.le_refl _) _
            refine ⟨3, { x with req := { x.req with l2 := y } }, f1, by omega, by omega, by go_num, HT1.step (hbs.mono (by omega)), (HI2.out.comp HJ.out).beside hVC hgl (by omega) (fun k hk => Below.heap_setCell _ _ _ _ hk) hbs, heap_set3 HK.out⟩
          --E
        obtain rfl : q3 = 3 := by omega
        go_upto_region 25 with fail
        have HI4 : Hid (Fst V wr g b ps 20 f) := HIf.out
        clear HIf
        go_cut [] (fun W => ∃ x sl f, Hid (TX w W S G b off n cap zs q P2 (1 + (q : Int) + 1) a capq) ∧ Hid (W.cell? ⟨g, 2, none⟩ = some (.int .u8 f) ∧ g < W.heap.size ∧ V.heap.size ≤ W.heap.size) ∧ Hid (Flt f) ∧ Hid (W.heap[C]? = some (.cells (entA x (sv sl)) 67 (0, 0))) ∧ Hid (sl.2.1 = x.req.list.length))
        case first =>
          as_aux_lemma =>
            --B
            have HLS := hide (flist_any wr g b ps 20 f HI4.out.fl (by omega) hP)
            have hCl := blk_lt HIc.out
            go_wp2_with (go_at_call 143; refine HLS.out.mono ?_; rintro e w1 ⟨v, ids, f', rfl, ho, hil, -, hff, hF1, hU1, hB1⟩; obtain ⟨a1, c1, rfl⟩ := ho.form; have HK := hide ((hU1.same C ⟨hCl, by omega⟩).trans HIc.out); have hKc : w1.cell? ⟨C, 19, none⟩ = some (.slice none 0 0) := (by rw [cells_all HK.out 19]; rfl); have hKf : w1.frozen? ⟨C, 19, none⟩ = false := (by simp [World.frozen?, HK.out]); have HF1 := hide hF1; have HB := hide hB1; have HU := hide hU1; have HFF := hide hff; clear hff hF1 hU1 hB1 ho hil)
            go_meet
            case rel =>
              have hg1 := fields_lt HF1.out
              have hbs : Below C w1 (w1.setCell ⟨C, 19, none⟩ (.slice a1 ids.length c1)) := (Below.refl _ _).setCell (p := ⟨C, 19, none⟩) (Nat.le_refl _) _
              refine ⟨{ x with req := { x.req with list := ids } }, (a1, ids.length, c1), f', (HIx.out.step (HB.out.mono (by omega))).step (hbs.mono (by omega)), ⟨?_, ?_, ?_⟩, flt_or HI4.out.flt flt4 HFF.out, heap_set3 HK.out, rfl⟩
              · obtain ⟨pv, vals, h1, -⟩ := HF1.out
                rw [World.cell?_of_block (w := w1) (Below.heap_setCell _ _ _ _ (show g ≠ C by omega))]
                exact (cell3 h1).2.2.1
              · simp only [World.size_setCell]; exact hg1
              · have h1 := HI4.out.upn.size
                have h2 := HU.out.size
                simp only [World.size_setCell]; omega
            --E
        case rest =>
        obtain ⟨xe, ⟨sa, sn, sc⟩, fe, HX3, HFc, HFl, HC2, HSL⟩ := hcut
        obtain ⟨hfc, hgl2, hVz⟩ := HFc.out
        clear HFc HIx HI4 HIc
        generalize wc = U2 at *
        have h8 := HFl.out.1
        have h9 := HFl.out.2
        have hG2 : G < U2.heap.size := (cell3 HX3.out.rd).2.2.2.2
        cases t5 : (fe != 0) with
        | true =>
          have h7 : fe ≠ 0 := by simpa using t5
          have HCC := hide (HFC.out U2 (1 + (q : Int) + 1) fe ⟨by omega, by omega⟩ HX3.out.blw ⟨P2, HX3.out.rd⟩ ⟨by omega, by omega⟩)
          clear h7
          --B
          go_wp2_with (go_at_call 108; refine HCC.out.mono ?_; rintro e w5 ⟨E, rfl, HB5, HPE, hE⟩)
          go_ret2
          exact HBAD.out w5 E HB5.out HPE.out (by omega)
          --E
        | false =>
        go_upto_region 28 with fail
        clear hfc t5
        have hCl2 : C < U2.heap.size := blk_lt HC2.out
        go_cut [122] (fun v W => (∃ t, v = .bool t) ∧ Hid (Below U2.heap.size U2 W))
        case first =>
          as_aux_lemma =>
            --B
            have hrx : rng U2 C 0 20 = some (entA xe (.slice sa sn sc)) := rng_whole HC2.out
            go_wp2_with (go_at_call 134; refine (checkEntry_calls _ xe sa sn sc _ HSL.out).mono ?_; rintro e w1 ⟨rfl, hb1⟩)
            go_meet
            case rel => exact ⟨⟨_, rfl⟩, hb1⟩
            --E
        case rest =>
        obtain ⟨⟨t6, rfl⟩, HB6⟩ := hcut
        have HX4 := hide (HX3.out.step (HB6.out.mono (by omega)))
        have HC3 := hide ((HB6.out.block _ hCl2).trans HC2.out)
        have hz3 := HB6.out.size
        generalize wc = U3 at *
        clear HB6 HX3 HC2
        cases t6 with
        | true =>
          have HCC := hide (HFC.out U3 (1 + (q : Int) + 1) 5 ⟨by decide, by decide⟩ HX4.out.blw ⟨P2, HX4.out.rd⟩ ⟨by omega, by omega⟩)
          --B
          go_wp2_with (go_at_call 108; refine HCC.out.mono ?_; rintro e w5 ⟨E, rfl, HB5, HPE, hE⟩)
          go_ret2
          exact HBAD.out w5 E HB5.out HPE.out (by omega)
          --E
        | false =>
        have hCl3 : C < U3.heap.size := blk_lt HC3.out
        have hcX : rng U3 C 0 20 = some (entA xe (.slice sa sn sc)) := rng_whole HC3.out
        have hG3 : G < U3.heap.size := by omega
        --B
        go_wp2_with (at_builtin; refine wpList_app1 (α := ZE) rfl _ _ 42 rfl (G + 1) 67 zeCs Tryz.underlying42 Tryz.info67_z rfl (by decide) zeCs_size zeCs_one (.slice a q capq) zs rfl (OwnR.below HX4.out.own ((Below.refl _ _).alloc (Nat.le_refl _) _) (Nat.le_refl _)) _ rfl (xe, (sa, sn, sc)) (rng_whole (heap_alloc_at _ _)) (by rw [HLen.out] <;> omega) (by rw [HLen.out] <;> (unfold maxLen; omega)) (by simp only [World.size_alloc]; omega) ?_; intro v1 w1 hown1 hsame1 hbel1 hat1; obtain ⟨a1, cap1, hv1⟩ := hown1.form; rw [List.length_append, HLen.out] at hv1; subst hv1)
        go_roundg (m - (q + 1))
        case measure => omega
        case rel =>
          have hB26 : Below (G + 1) U3 w1 := ((Below.refl _ _).alloc (by omega) _).trans hbel1
          refine ⟨q + 1, P2, zs ++ [(xe, (sa, sn, sc))], a1, cap1, by omega, rfl, rfl, by go_num, ?_, hown1, by simp [HLen.out], HX4.out.blw.trans (hB26.mono (by omega)), hqP2, hpos⟩
          unfold ReaderAt
          rw [hB26.block _ (by omega)]
          have e2 : (1 + ((q + 1 : Nat) : Int)) = 1 + (q : Int) + 1 := by omega
          rw [e2]
          exact HX4.out.rd
        --E
    · obtain rfl : q = m := by omega
      have HTR := hide (trailer_any wr G n cap b off data P (1 + (q : Int)) q HP.out.rd (by omega) HCP.out (by have := HP.out.blw.size; omega) (fun t h => (HP.out.blw.cell (p := ⟨b, off + t, none⟩) (by dsimp only; omega)).trans (HD.out t h)) HN.out (by omega) hPn hn0 ⟨by omega, by omega⟩)
      go_upto_region 31 with fail
      go_cut [14] (fun v W => Hid (ErrCase wr W G v))
      case first =>
        as_aux_lemma =>
          --B
          go_wp2_with (go_at_call 113; refine HTR.out.mono ?_; rintro e w2 hw2; obtain ⟨v, rfl, hv⟩ := hw2.one; have HV := hide hv; clear hv hw2)
          go_meet
          case rel => exact HV
          --E
      case rest =>
      have hcc := hcut.out
      clear hcut HTR
      cases hcc with
      | bad E hev hE hp hs =>
        subst hev
        have HB2 := hide (HP.out.blw.trans hs.below)
        have HPE := hide hp
        clear hp hs
        --B
        go_wp2
        go_ret2
        exact HBAD.out wc E HB2.out HPE.out (by omega)
        --E
      | ok hev hs =>
        subst hev
        have HB2 := hide (HP.out.blw.trans hs.below)
        clear hs
        --B
        go_wp2
        go_ret2
        exact .good a q capq rfl (by rw [HG.out]; exact HB2.out)
        --E

set_option maxRecDepth 100000 in
set_option maxHeartbeats 2000000 in
theorem parseTrail_none (w : World) (a : Option Addr) (cap : Nat) :
    Calls Tryz.prog 80 #[.slice a 0 cap] w fun e w' => TrAns w w' e := by
  go_enter Tryz.func80, Tryz.ntmps80
  go_upto_region 2 with fail
  have hb1 : Below w.heap.size w (w.alloc (.cells #[.slice a 0 cap, .int .i64 0, .int .i64 0] 224)) := (Below.refl _ _).alloc (Nat.le_refl _) _
  have hk1 : ReaderAt (w.alloc (.cells #[.slice a 0 cap, .int .i64 0, .int .i64 0] 224)) w.heap.size (.slice a 0 cap) 0 0 := heap_alloc_at _ _
  generalize w.alloc (.cells #[.slice a 0 cap, .int .i64 0, .int .i64 0] 224) = W1 at *
  have HB1 := hide hb1
  have hz1 := hb1.size
  have HNX := hide (next_empty W1 w.heap.size cap a 0 3 hk1 ⟨by omega, by omega⟩)
  clear hb1 hk1
  go_wp2_with (go_at_call 103; refine HNX.out.mono ?_; rintro e w2 ⟨E, rfl, hE, hp, hs⟩; have HB2 := hide (HB1.out.trans hs.below); have HP := hide hp; clear hp hs)
  go_ret2
  exact .bad E rfl (by omega) HP.out HB2.out

theorem parseTrail_any (w : World) (rn kn ft : Nat → ByteArray) (ok : Nat → Prop) (v : Value) (bs : List Int) (h : BytesAt w ok v bs) (hn : bs.length ≤ 4000000000) (hnm : NmAt w rn kn ft) (h5 : 5 < w.heap.size) :
    Calls Tryz.prog 80 #[v] w fun e w' => TrAns w w' e := by
  obtain ⟨a, cap, b, off, rfl, hl, hm, hr, ha, hc⟩ := h.lt
  by_cases h0 : 0 < bs.length
  · obtain ⟨rfl, -, hb⟩ := ha h0
    exact parseTrail_some w rn kn ft b off bs.length cap bs ⟨hl, hm.1⟩ hb (fun t ht => by have := (rng_cell (hc t ht)).2 0 (by decide); simpa [byteCs] using this) rfl hn h0 hnm h5
  · rw [show bs.length = 0 by omega]
    exact parseTrail_none w a cap

end Go.Proofs.Qxb6500666aGreatDoor
