/- ParseTrail on bytes of every kind, both ways. (Made by tools/mk_xtrail.py.) -/
import Derived.Test.Qxb6500666aGreatDoorXTrP
namespace Go.Proofs.Qxb6500666aGreatDoor
open Go.RowKit
attribute [local go_sem ↓] exec_ldEnt exec_stEnt exec_bdEnt exec_bsEnt exec_ldReq exec_stReq exec_bdReq
attribute [local go_sem] run_ldEnt run_stEnt run_bdEnt run_bsEnt run_ldReq run_stReq run_bdReq entA_size entA_ones rng_alloc_lt rng_alloc_at rng_drew rng_drewN rng_setCell_other rng_setRow_other whole_alloc_lt whole_alloc_at whole_drew whole_setCell_other whole_setRow_other setRow_alloc_at setRow_alloc_lt setRow_drew


/-- What ParseTrail answers. -/
inductive TrX (w w' : World) (rn kn : Nat → ByteArray) (data : List Int) (e : Ending) : Prop
  | bad (E : Nat) (he : e = .returned (.tuple #[.slice none 0 0, .iface 241 (.pointer (some ⟨E, 0, none⟩))])) (hE : w.heap.size ≤ E) (hp : PErr w' E) (hb : Below w.heap.size w w') (hno : ∀ xs, ¬ Tv rn kn data xs) : TrX w w' rn kn data e
  | good (a : Option Addr) (cap : Nat) (zs : List ZE) (he : e = .returned (.tuple #[.slice a zs.length cap, .nilIface])) (hr : RArr w' (w.heap.size ≤ ·) 20 zeCs (.slice a zs.length cap) zs) (hz : ZipE w' (w.heap.size ≤ ·) zs) (ht : Tv rn kn data (zs.map (·.1))) (hb : Below w.heap.size w w') : TrX w w' rn kn data e
structure TWx (w W : World) (G b off n cap : Nat) (zs : List ZE) (q pos : Nat) (a : Option Addr) (capq : Nat) : Prop extends TW w W G b off n cap zs q pos a capq where
  zip : ZipE W (fun k => G < k ∧ (Value.slice a q capq).ownBlock ≠ some k) zs
structure TXx (w W : World) (S G b off n cap : Nat) (zs : List ZE) (q pos : Nat) (ln : Int) (a : Option Addr) (capq : Nat) : Prop extends TX w W S G b off n cap zs q pos ln a capq where
  zip : ZipE W (fun k => (G < k ∧ (Value.slice a q capq).ownBlock ≠ some k) ∧ k < S) zs
theorem TXx.step {w W W' : World} {S G b off n cap : Nat} {zs : List ZE} {q pos : Nat} {ln : Int} {a : Option Addr} {capq : Nat} (h : TXx w W S G b off n cap zs q pos ln a capq) (hb : Below S W W') : TXx w W' S G b off n cap zs q pos ln a capq :=
  ⟨h.toTX.step hb, fun z hz => RArr.mono (h.zip z hz) (fun k hk => hb.block k hk.2) (fun _ hk => hk)⟩
theorem TWx.line {w W W' : World} {G b off n cap : Nat} {zs : List ZE} {q pos pos' : Nat} {ln' : Int} {a : Option Addr} {capq : Nat} (h : TWx w W G b off n cap zs q pos a capq) (hs : RdSt W W' G) (hR : ReaderAt W' G (.slice (some ⟨b, off, none⟩) n cap) pos' ln') : TXx w W' W.heap.size G b off n cap zs q pos' ln' a capq :=
  ⟨h.toTW.line hs hR, fun z hz => RArr.mono (RArr.lt (h.zip z hz)) (fun k hk => hs.same k ⟨hk.2, by have := hk.1.1; omega⟩) (fun _ hk => hk)⟩
theorem i64_zero : I64 0 := ⟨by decide, by decide⟩
/-- The fields that are read, for an entry. -/
def preK (rn kn : Nat → ByteArray) (x : Ent) (k : Nat) : List (List Int) := ([69] :: entParts rn kn x).take k
structure EntR (x : Ent) : Prop where
  seq : U32 x.seq
  ok : x.Ok
section
variable {w0 : World} {g b : Nat} {ps ts : List (List Int)} {k : Nat} {f : Int} {Fm : Nat → List Int → Prop}
theorem role_wy (w : World) (rn kn ft : Nat → ByteArray) (hnm : NmAt w rn kn ft) (hgg : 5 < g) (h : Fsy w0 w g b ps k f ts Fm) (hk : k < ps.length) (hp : PsL ps) (hm : ∀ p, Fm k p → ∃ r : Nat, 1 ≤ r ∧ r ≤ 6 ∧ p = strB (rn r)) :
    Calls Tryz.prog 141 #[.pointer (some ⟨g, 0, none⟩)] w fun e w' => ∃ x f', e = .returned (.int .u8 x) ∧ Hid (U8 x) ∧ Hid (Fsy w0 w' g b ps (k + 1) f' (ts ++ [strB (nmOf rn 6 x)]) Fm) ∧ Hid (w'.heap.size = w.heap.size) :=
  (role_x w rn kn ft g b ps k f hnm hgg h.fl hk hp h.by').mono fun _ _ ⟨x, f', h1, h2, h3, h4, h5⟩ => by
    refine ⟨x, f', h1, h2, ?_, h5.size⟩
    rcases h3 with ⟨rfl, r, a1, a2, rfl, a4⟩ | ⟨rfl, h3⟩
    · exact ⟨h.toFsx.step h4 h.flt h5 (fun e => ⟨e, by rw [a4, nmOf_in (by omega)]⟩), h.no⟩
    · exact h.miss hk (h.toFsx.step h4 (spf_flt h.flt flt3) h5 (fun e => absurd e (spf_zero (by decide)))) (fun _ hq => by
        obtain ⟨r, a1, a2, a3⟩ := hm _ hq
        exact h3 r a1 a2 (by rw [List.getElem?_eq_getElem hk, a3]))
theorem command_wy (w : World) (rn kn ft : Nat → ByteArray) (hnm : NmAt w rn kn ft) (hgg : 5 < g) (h : Fsy w0 w g b ps k f ts Fm) (hk : k < ps.length) (hp : PsL ps) (hm : ∀ p, Fm k p → ∃ r : Nat, 1 ≤ r ∧ r ≤ 20 ∧ p = strB (kn r)) :
    Calls Tryz.prog 142 #[.pointer (some ⟨g, 0, none⟩)] w fun e w' => ∃ x f', e = .returned (.int .u8 x) ∧ Hid (U8 x) ∧ Hid (Fsy w0 w' g b ps (k + 1) f' (ts ++ [strB (nmOf kn 30 x)]) Fm) ∧ Hid (w'.heap.size = w.heap.size) :=
  (command_x w rn kn ft g b ps k f hnm hgg h.fl hk hp h.by').mono fun _ _ ⟨x, f', h1, h2, h3, h4, h5⟩ => by
    refine ⟨x, f', h1, h2, ?_, h5.size⟩
    rcases h3 with ⟨rfl, r, a1, a2, rfl, a4⟩ | ⟨rfl, h3⟩
    · exact ⟨h.toFsx.step h4 h.flt h5 (fun e => ⟨e, by rw [a4, nmOf_in (by omega)]⟩), h.no⟩
    · exact h.miss hk (h.toFsx.step h4 (spf_flt h.flt flt3) h5 (fun e => absurd e (spf_zero (by decide)))) (fun _ hq => by
        obtain ⟨r, a1, a2, a3⟩ := hm _ hq
        exact h3 r a1 a2 (by rw [List.getElem?_eq_getElem hk, a3]))
end

set_option maxRecDepth 100000 in
set_option maxHeartbeats 8000000 in
theorem parseTrail_someX (w : World) (rn kn ft : Nat → ByteArray) (b off n cap : Nat) (data : List Int) (hcap : n ≤ cap ∧ cap ≤ maxLen) (hbl : b < w.heap.size) (hd : ∀ t (h : t < data.length), w.cell? ⟨b, off + t, none⟩ = some (.int .u8 data[t])) (hn : data.length = n) (hn2 : n ≤ 4000000000) (hn0 : 0 < n) (hnm : NmAt w rn kn ft) (h5 : 5 < w.heap.size) (hnmg : NmG rn kn) (hBy : ByteL data) :
    Calls Tryz.prog 80 #[.slice (some ⟨b, off, none⟩) n cap] w fun e w' => TrX w w' rn kn data e := by
  have HBY := hide hBy
  have HNG := hide hnmg
  clear hBy hnmg
  have HD := hide hd
  have HN := hide hn
  have HCP := hide hcap
  have HNM : Hid (∀ W, Below w.heap.size w W → NmAt W rn kn ft) := fun W hW => hnm.below hW
  clear hd hn hcap hnm
  go_enter Tryz.func80, Tryz.ntmps80
  go_upto_region 2 with fail
  obtain ⟨G, hG⟩ : ∃ G, w.heap.size = G := ⟨_, rfl⟩
  have hb1 : Below w.heap.size w (w.alloc (.cells #[.slice (some ⟨b, off, none⟩) n cap, .int .i64 0, .int .i64 0] 224)) := (Below.refl _ _).alloc (Nat.le_refl _) _
  have hk1 : ReaderAt (w.alloc (.cells #[.slice (some ⟨b, off, none⟩) n cap, .int .i64 0, .int .i64 0] 224)) w.heap.size (.slice (some ⟨b, off, none⟩) n cap) ((0 : Nat) : Int) 0 := heap_alloc_at _ _
  have hz1 : (w.alloc (.cells #[.slice (some ⟨b, off, none⟩) n cap, .int .i64 0, .int .i64 0] 224)).heap.size = w.heap.size + 1 := by simp
  generalize w.alloc (.cells #[.slice (some ⟨b, off, none⟩) n cap, .int .i64 0, .int .i64 0] 224) = W1 at *
  rw [hG] at hb1 hk1 hz1 h5 HNM ⊢
  have hbG : b < G := by omega
  have HG := hide hG
  have HB1 := hide hb1
  have HRD1 := hide hk1
  have HBAD : Hid (∀ (W : World) (E : Nat), Below G w W → PErr W E → G ≤ E → (∀ xs, ¬ Tv rn kn data xs) → TrX w W rn kn data (.returned (.tuple #[.slice none 0 0, .iface 241 (.pointer (some ⟨E, 0, none⟩))]))) := fun W E h1 h2 h3 h4 => .bad E rfl (by have := HG.out; omega) h2 (by rw [HG.out]; exact h1) h4
  have HNX : Hid (∀ (W : World) (pos : Nat) (ln : Int) (want : Nat), Below G w W → ReaderAt W G (.slice (some ⟨b, off, none⟩) n cap) pos ln → pos ≤ n → 1 ≤ want → want ≤ 100 → 0 ≤ ln ∧ ln ≤ 1000000000000 → Calls Tryz.prog 103 #[.pointer (some ⟨G, 0, none⟩), .int .i64 want] W fun e w' => ∃ pv ev, e = .returned (.tuple #[pv, ev]) ∧ Hid (NextX W w' G b off n cap data pos ln want pv ev)) := fun W pos ln want hW hR hp h1 h2 h3 =>
    (next_x W G n cap b off data pos ln want hR (by omega) HCP.out (by have := hW.size; omega) (fun t h => (hW.cell (p := ⟨b, off + t, none⟩) (by dsimp only; omega)).trans (HD.out t h)) HN.out (by omega) hp h1 h2 h3)
  have HFC : Hid (∀ W' (ln fl : Int), 1 ≤ fl ∧ fl ≤ 8 → Below G w W' → (∃ P : Nat, ReaderAt W' G (.slice (some ⟨b, off, none⟩) n cap) P ln) → 1 ≤ ln ∧ ln ≤ 1000000000000000 → Calls Tryz.prog 108 #[.pointer (some ⟨G, 0, none⟩), .int .u8 fl] W' fun e w5 => ∃ E, e = .returned (.iface 241 (.pointer (some ⟨E, 0, none⟩))) ∧ Hid (Below G w w5) ∧ Hid (PErr w5 E) ∧ W'.heap.size ≤ E) := fun W' ln fl hfl h1 ⟨P, h2⟩ h3 =>
    (fail_any W' G _ _ _ fl h2 ⟨by omega, by omega⟩ hfl).mono fun _ w5 ⟨E, a1, a2, a3, a4⟩ => by
      have hl := (cell3 h2).2.2.2.2
      exact ⟨E, a1, h1.trans (a4.mono (by omega)), a3, a2⟩
  clear hG hb1 hk1
  go_cut [5, 6] (fun pv ev W => Hid (NextX W1 W G b off n cap data 0 0 3 pv ev))
  case first =>
    as_aux_lemma =>
      --B
      go_wp2_with (go_at_call 103; refine (HNX.out W1 0 0 3 HB1.out HRD1.out (by omega) (by omega) (by omega) ⟨by omega, by omega⟩).mono ?_; rintro e w2 ⟨pv, ev, rfl, HC⟩)
      go_meet
      case rel => exact HC
      --E
  case rest =>
  have hcc := hcut.out
  clear hcut
  cases hcc with
  | bad E hpv hev hE hp hs hno =>
    have HNO := hide hno
    subst hpv hev
    clear hno
    have HB2 := hide (HB1.out.trans hs.below)
    have HPE := hide hp
    clear hp hs
    --B
    go_wp2
    go_ret2
    exact HBAD.out wc E HB2.out HPE.out (by omega) (no_head HNO.out)
    --E
  | good g ps line hpv hev hg hF hwl hP hR hpos hline hcat hs hun =>
  subst hpv hev
  have HB2 := hide (HB1.out.trans hs.below)
  have HR2 := hide hR
  have HPB : Hid (∀ p ∈ ps, ByteL p) := cat_bytes hcat (fun d hd => HBY.out d (List.mem_of_mem_drop (i := 0) (by rw [hline]; exact List.mem_append_left _ hd)))
  have HF0 : Hid (Fsy wc wc g b ps 0 0 [] hdFm) := ⟨⟨⟨hF, ⟨by decide, by decide⟩, ⟨Same.refl _ _, Nat.le_refl _⟩, Below.refl _ _⟩, fun _ => rfl, HPB.out⟩, fun e => absurd rfl e⟩
  have HLC := hide (take_line hline hcat)
  have HWL := hide hwl
  have HUN : Hid (HUn data 0 3 ps) := hun
  clear hun
  generalize 0 + line.length + 1 = P1 at *
  have hgl := HF0.out.fault.2
  generalize wc = V at *
  have hgG : G + 1 ≤ g := by omega
  clear hF hR hline hcat hs HB1 HRD1 hz1
  go_upto_region 6 with (go_at_call 104; refine (expect_wy _ 72 HF0.out (by omega) hP (fun _ h => h)).mono ?_; rintro e V1 ⟨f1, rfl, HF1⟩)
  clear HF0
  go_upto_region 7 with (go_at_call 104; refine (expect_wy _ 65 HF1.out (by omega) hP (fun _ h => h)).mono ?_; rintro e V2 ⟨f2, rfl, HF2⟩)
  clear HF1
  go_upto_region 8 with (go_at_call 106; refine (id_wy _ HF2.out (by omega) hP (fun _ h => h)).mono ?_; rintro e W7 ⟨cnt, f7, rfl, HCn, HF7, -⟩)
  have HR7 : Hid (ReaderAt W7 G (.slice (some ⟨b, off, none⟩) n cap) P1 1) := (HF7.out.upn.same G ⟨by omega, by omega⟩).trans HR2.out
  have HB7 := hide (HB2.out.trans (HF7.out.blw.mono (by omega)))
  obtain ⟨hf0, hg7⟩ := HF7.out.fault
  have hc0 := HCn.out.1
  have hc1 := HCn.out.2
  obtain ⟨m, rfl⟩ : ∃ m : Nat, cnt = m := ⟨cnt.toNat, by omega⟩
  have hff := HF7.out.flt
  clear HF2 HR2 HB2
  cases t1 : (f7 != 0) with
  | true =>
    have h7 : f7 ≠ 0 := by simpa using t1
    have h8 := hff.1
    have h9 := hff.2
    have HCC := hide (HFC.out W7 1 f7 ⟨by omega, by omega⟩ HB7.out ⟨P1, HR7.out⟩ ⟨by omega, by omega⟩)
    have HNO := hide (HF7.out.no h7)
    clear h7
    --B
    go_wp2_with (go_at_call 108; refine HCC.out.mono ?_; rintro e w5 ⟨E, rfl, HB5, HPE, hE⟩)
    go_ret2
    exact HBAD.out w5 E HB5.out HPE.out (by omega) (no_hfield HUN.out (by have := HN.out; omega) HNO.out)
    --E
  | false =>
  have HTI0 : Hid (TI rn kn data [] P1 m) := TI.start HUN.out (take_all (HF7.out.ex (by simpa using t1)) HWL.out) HLC.out
  clear HUN HWL HLC HPB
  have HT0 : Hid (TWx w W7 G b off n cap [] 0 P1 none 0) := ⟨⟨HR7.out, OwnR.nil _ _ _ _ _, rfl, HB7.out, by omega, hpos⟩, fun z hz => (by cases hz)⟩
  go_upto_region 12 with fail
  clear hf0 HF7 HR7 HB7 hg7 hff t1 hg hgl hgG hwl hP hpos HCn
  go_loopg [8, 9] m (fun gk v j W => ∃ (q P : Nat) (zs : List ZE) (a : Option Addr) (capq : Nat), q ≤ m ∧ gk = m - q ∧ v = .slice a q capq ∧ j = .int .u32 ((q + 1 : Nat) : Int) ∧ Hid (TWx w W G b off n cap zs q P a capq) ∧ Hid (TI rn kn data (zs.map (·.1)) P m))
  case atStart => exact ⟨0, P1, [], none, 0, by omega, by omega, rfl, rfl, HT0, HTI0⟩
  clear HT0 HTI0
  case round =>
    obtain ⟨q, P, zs, a, capq, hq, rfl, rfl, rfl, HP, HTI⟩ := hrel
    have HYL : Hid ((zs.map (·.1)).length = q) := by show _ = _; rw [List.length_map]; exact HP.out.len
    have hGl : G < wr.heap.size := (cell3 HP.out.rd).2.2.2.2
    have hPn := HP.out.pos
    have hqP := HP.out.qp
    by_cases hlt : q < m
    · go_upto_region 14 with fail
      go_cut [10, 11] (fun pv ev W => Hid (NextX wr W G b off n cap data P (1 + (q : Int)) 21 pv ev))
      case first =>
        as_aux_lemma =>
          --B
          go_wp2_with (go_at_call 103; refine (HNX.out wr P (1 + (q : Int)) 21 HP.out.blw HP.out.rd hPn (by omega) (by omega) ⟨by omega, by omega⟩).mono ?_; rintro e w2 ⟨pv, ev, rfl, HC⟩)
          go_meet
          case rel => exact HC
          --E
      case rest =>
      have hcc := hcut.out
      clear hcut
      cases hcc with
      | bad E hpv hev hE hp hs hno =>
        have HNO := hide hno
        subst hpv hev
        clear hno
        have HB2 := hide (HP.out.blw.trans hs.below)
        have HPE := hide hp
        clear hp hs
        --B
        go_wp2
        go_ret2
        exact HBAD.out wc E HB2.out HPE.out (by omega) (HTI.out.no_line HNG.out (by rw [HYL.out]; exact hlt) HNO.out)
        --E
      | good g ps line hpv hev hg hF hwl hP hR hpos hline hcat hs hun =>
      subst hpv hev
      have HX0 : Hid (TXx w wc wr.heap.size G b off n cap zs q (P + line.length + 1) (1 + (q : Int) + 1) a capq) := HP.out.line hs hR
      have HPB : Hid (∀ p ∈ ps, ByteL p) := cat_bytes hcat (fun d hd => HBY.out d (List.mem_of_mem_drop (i := P) (by rw [hline]; exact List.mem_append_left _ hd)))
      have HF0 : Hid (Fsy wc wc g b ps 0 0 [] (entFm rn kn)) := ⟨⟨⟨hF, ⟨by decide, by decide⟩, ⟨Same.refl _ _, Nat.le_refl _⟩, Below.refl _ _⟩, fun _ => rfl, HPB.out⟩, fun e => absurd rfl e⟩
      have HLC := hide (take_line hline hcat)
      have HWL := hide hwl
      have HUN : Hid (HUn data P 21 ps) := hun
      clear hun
      have hqP2 : q + 1 ≤ P + line.length + 1 := by omega
      generalize P + line.length + 1 = P2 at *
      have hgl := HF0.out.fault.2
      have hSV : wr.heap.size ≤ wc.heap.size := by omega
      have HLen := hide HP.out.len
      generalize wc = V at *
      clear hF hR hline hcat hs HP hqP
      generalize wr.heap.size = S at *
      go_upto_region 18 with (go_at_call 104; refine (expect_wy _ 69 HF0.out (by omega) hP (fun _ h => h)).mono ?_; rintro e V1 ⟨f1, rfl, HF1⟩)
      clear HF0
      go_cut [12] (fun p W => ∃ C x f, p = .pointer (some ⟨C, 0, none⟩) ∧ V.heap.size ≤ C ∧ Hid (TXx w W S G b off n cap zs q P2 (1 + (q : Int) + 1) a capq) ∧ Hid (EntR x) ∧ Hid (Fsy V W g b ps 4 f (preK rn kn x 4) (entFm rn kn)) ∧ Hid (W.heap[C]? = some (.cells (entA x (.slice none 0 0)) 67 (0, 0))))
      case first =>
        as_aux_lemma =>
          --B
          go_wp2_with fail
          go_at_call 106
          refine (id_wy _ HF1.out (by omega) hP (fun _ h => h)).mono ?_
          rintro e V2 ⟨s, f2, rfl, HR1, HF2, -⟩
          go_wp2_with fail
          go_at_call 141
          refine (role_wy _ rn kn ft (HNM.out _ (HX0.out.step (HF2.out.blw.mono (by omega))).blw) (by omega) HF2.out (by omega) hP (fun _ h => h)).mono ?_
          rintro e V3 ⟨r, f3, rfl, HR2, HF3, -⟩
          go_wp2_with fail
          go_at_call 106
          refine (id_wy _ HF3.out (by omega) hP (fun _ h => h)).mono ?_
          rintro e V4 ⟨i, f4, rfl, HR3, HF4, -⟩
          go_wp2
          go_meet
          case rel =>
            have hz := HF4.out.upn.size
            have HA : Below V4.heap.size V4 (V4.alloc (.cells (entA ⟨s, r, i, zeroReq⟩ (.slice none 0 0)) 67)) := (Below.refl _ _).alloc (Nat.le_refl _) _
            have HQ : Fsy V (V4.alloc (.cells (entA ⟨s, r, i, zeroReq⟩ (.slice none 0 0)) 67)) g b ps 4 f4 (preK rn kn ⟨s, r, i, zeroReq⟩ 4) (entFm rn kn) := HF4.out.grow HA
            exact ⟨V4.heap.size, ⟨s, r, i, zeroReq⟩, f4, rfl, hz, HX0.out.step (HQ.blw.mono (by omega)), ⟨HR1.out, ⟨HR2.out, HR3.out, zeroReq_ok, fun y hy => (by cases hy)⟩⟩, HQ, heap_alloc_at _ _⟩
          --E
      case rest =>
      obtain ⟨C, x0, f, rfl, hVC, HX1, HXR, HF2, HC0⟩ := hcut
      generalize wc = U1 at *
      clear HX0 HF1
      go_upto_region 19 with fail
      go_cut [] (fun W => ∃ x f, Hid (TXx w W S G b off n cap zs q P2 (1 + (q : Int) + 1) a capq) ∧ Hid (EntR x) ∧ Hid (Fsy V W g b ps 17 f (preK rn kn x 17) (entFm rn kn)) ∧ Hid (W.heap[C]? = some (.cells (entA x (.slice none 0 0)) 67 (0, 0))))
      case first =>
        as_aux_lemma =>
          --B
          have HG1 := hide HF2.out.again
          have HXB := hide HX1.out.blw
          have hCl := blk_lt HC0.out
          go_wp2_with fail
          go_at_call 142
          refine (command_wy _ rn kn ft (HNM.out _ HXB.out) (by omega) HG1.out (by omega) hP (fun _ h => h)).mono ?_
          rintro e U2 ⟨x1, f2, rfl, HR1, HG2, -⟩
          go_wp2_with fail
          go_at_call 106
          refine (id_wy _ HG2.out (by omega) hP (fun _ h => h)).mono ?_
          rintro e U3 ⟨x2, f3, rfl, HR2, HG3, -⟩
          go_wp2_with fail
          go_at_call 107
          refine (any_wy _ HG3.out (by omega) hP (fun _ h => h)).mono ?_
          rintro e U4 ⟨x3, f4, rfl, HR3, HG4, -⟩
          go_wp2_with fail
          go_at_call 106
          refine (id_wy _ HG4.out (by omega) hP (fun _ h => h)).mono ?_
          rintro e U5 ⟨x4, f5, rfl, HR4, HG5, -⟩
          go_wp2_with fail
          go_at_call 106
          refine (id_wy _ HG5.out (by omega) hP (fun _ h => h)).mono ?_
          rintro e U6 ⟨x5, f6, rfl, HR5, HG6, -⟩
          go_wp2_with fail
          go_at_call 106
          refine (id_wy _ HG6.out (by omega) hP (fun _ h => h)).mono ?_
          rintro e U7 ⟨x6, f7, rfl, HR6, HG7, -⟩
          go_wp2_with fail
          go_at_call 106
          refine (id_wy _ HG7.out (by omega) hP (fun _ h => h)).mono ?_
          rintro e U8 ⟨x7, f8, rfl, HR7, HG8, -⟩
          go_wp2_with fail
          go_at_call 106
          refine (id_wy _ HG8.out (by omega) hP (fun _ h => h)).mono ?_
          rintro e U9 ⟨x8, f9, rfl, HR8, HG9, -⟩
          go_wp2_with fail
          go_at_call 109
          refine (byte_wy _ HG9.out (by omega) hP (fun _ h => h)).mono ?_
          rintro e U10 ⟨x9, f10, rfl, ⟨hlo9, hhi9⟩, HG10, -⟩
          go_wp2_with fail
          go_at_call 109
          refine (byte_wy _ HG10.out (by omega) hP (fun _ h => h)).mono ?_
          rintro e U11 ⟨x10, f11, rfl, ⟨hlo10, hhi10⟩, HG11, -⟩
          go_wp2_with fail
          go_at_call 107
          refine (any_wy _ HG11.out (by omega) hP (fun _ h => h)).mono ?_
          rintro e U12 ⟨x11, f12, rfl, HR11, HG12, -⟩
          go_wp2_with fail
          go_at_call 107
          refine (any_wy _ HG12.out (by omega) hP (fun _ h => h)).mono ?_
          rintro e U13 ⟨x12, f13, rfl, HR12, HG13, -⟩
          go_wp2_with fail
          go_at_call 107
          refine (any_wy _ HG13.out (by omega) hP (fun _ h => h)).mono ?_
          rintro e U14 ⟨x13, f14, rfl, HR13, HG14, -⟩
          have hkV := (HG14.out.upn.same C ⟨hCl, by omega⟩).trans HC0.out
          have hst : (stS 53 (.pointer (some ⟨C, 3, none⟩)) (.agg #[.int .u8 x1, .int .u32 x2, .int .i64 x3, .int .u32 x4, .int .u32 x5, .int .u32 x6, .int .u32 x7, .int .u32 x8, .int .u8 x9, .int .u8 x10, .int .i64 x11, .int .i64 x12, .int .i64 x13, .int .i64 0, .int .i64 0, .int .i64 0, .slice none 0 0])).run Tryz.prog U14 = .ok () (U14.setRow C (entA ⟨x0.seq, x0.role, x0.issued, ⟨x1, x2, x3, x4, x5, x6, x7, x8, x9, x10, x11, x12, x13, 0, 0, 0, []⟩⟩ (.slice none 0 0))) := run_stReq3 U14 C x0.seq x0.role x0.issued x0.req ⟨x1, x2, x3, x4, x5, x6, x7, x8, x9, x10, x11, x12, x13, 0, 0, 0, []⟩ (.slice none 0 0) none 0 0 hkV
          have HKV := hide hkV
          clear hkV
          have HQK : Hid (Fsy U1 U14 g b ps 17 f14 (preK rn kn ⟨x0.seq, x0.role, x0.issued, ⟨x1, x2, x3, x4, x5, x6, x7, x8, x9, x10, x11, x12, x13, 0, 0, 0, []⟩⟩ 17) (entFm rn kn)) := HG14.out
          have HRK : Hid (EntR ⟨x0.seq, x0.role, x0.issued, ⟨x1, x2, x3, x4, x5, x6, x7, x8, x9, x10, x11, x12, x13, 0, 0, 0, []⟩⟩) := ⟨HXR.out.seq, ⟨HXR.out.ok.role, HXR.out.ok.issued, ⟨HR1.out, HR2.out, HR3.out, HR4.out, HR5.out, HR6.out, HR7.out, HR8.out, ⟨hlo9, hhi9⟩, ⟨hlo10, hhi10⟩, HR11.out, HR12.out, HR13.out, i64_zero, i64_zero, i64_zero⟩, fun y hy => (by cases hy)⟩⟩
          clear HG1 HG2 HG3 HG4 HG5 HG6 HG7 HG8 HG9 HG10 HG11 HG12 HG13 HXB
          go_wp2
          go_meet
          case rel =>
            have HQ := HF2.out.comp HQK.out
            exact ⟨_, f14, (HX1.out.step (HG14.out.blw.mono (by omega))).step (below_setRow (by omega)), HRK, HQ.beside hVC hgl (by omega) (fun k hk => setRow_other _ _ _ _ hk) (below_setRow (Nat.le_refl _)), heap_setRow_at HKV.out⟩
          --E
      case rest =>
      obtain ⟨x1, f, HX2, HXR2, HF3, HC1⟩ := hcut
      clear HX1 HF2 HC0 HXR
      go_upto_region 21 with fail
      go_loopg [95] 3 (fun gk j W => ∃ (q3 : Nat) (x : Ent) (f : Int), q3 ≤ 3 ∧ gk = 3 - q3 ∧ j = .int .i64 q3 ∧ Hid (TXx w W S G b off n cap zs q P2 (1 + (q : Int) + 1) a capq) ∧ Hid (EntR x) ∧ Hid (Fsy V W g b ps (17 + q3) f (preK rn kn x (17 + q3)) (entFm rn kn)) ∧ Hid (W.heap[C]? = some (.cells (entA x (.slice none 0 0)) 67 (0, 0))))
      case atStart => exact ⟨0, x1, f, by omega, by omega, rfl, HX2, HXR2, HF3, HC1⟩
      clear HX2 HF3 HC1 HXR2
      case round =>
        obtain ⟨q3, x, f, hq3, rfl, rfl, HIx, HIr, HIf, HIc⟩ := hrel
        by_cases h0 : q3 = 0
        · subst h0
          --B
          have HI2 : Hid (Fsy V wr g b ps 17 f (preK rn kn x 17) (entFm rn kn)) := HIf.out
          go_wp2_with (go_at_call 107; refine (any_wy _ HI2.out.again (by omega) hP (fun _ h => h)).mono ?_; rintro e w1 ⟨y, f1, rfl, HRy, HJ, -⟩; have HK := hide ((HJ.out.upn.same C ⟨blk_lt HIc.out, by omega⟩).trans HIc.out); have hKc : w1.cell? ⟨C, 16, none⟩ = some (.int .i64 x.req.l0) := (by rw [cells_all HK.out 16]; rfl); have hKf : w1.frozen? ⟨C, 16, none⟩ = false := (by simp [World.frozen?, HK.out]))
          go_roundg (3 - 1)
          case measure => omega
          case rel =>
            have HT1 := HIx.out.step (HJ.out.blw.mono (by omega))
            have hbs : Below C w1 (w1.setCell ⟨C, 16, none⟩ (.int .i64 y)) := (Below.refl _ _).setCell (p := ⟨C, 16, none⟩) (Nat.le_refl _) _
            have HJ2 : Fsy wr w1 g b ps 18 f1 (preK rn kn { x with req := { x.req with l0 := y } } 18) (entFm rn kn) := HJ.out
            refine ⟨1, { x with req := { x.req with l0 := y } }, f1, by omega, by omega, by go_num, HT1.step (hbs.mono (by omega)), ⟨HIr.out.seq, ⟨HIr.out.ok.role, HIr.out.ok.issued, { HIr.out.ok.req with l0 := HRy.out }, HIr.out.ok.list⟩⟩, (HI2.out.comp HJ2).beside hVC hgl (by omega) (fun k hk => Below.heap_setCell _ _ _ _ hk) hbs, heap_set3 HK.out⟩
          --E
        by_cases h1 : q3 = 1
        · subst h1
          --B
          have HI2 : Hid (Fsy V wr g b ps 18 f (preK rn kn x 18) (entFm rn kn)) := HIf.out
          go_wp2_with (go_at_call 107; refine (any_wy _ HI2.out.again (by omega) hP (fun _ h => h)).mono ?_; rintro e w1 ⟨y, f1, rfl, HRy, HJ, -⟩; have HK := hide ((HJ.out.upn.same C ⟨blk_lt HIc.out, by omega⟩).trans HIc.out); have hKc : w1.cell? ⟨C, 17, none⟩ = some (.int .i64 x.req.l1) := (by rw [cells_all HK.out 17]; rfl); have hKf : w1.frozen? ⟨C, 17, none⟩ = false := (by simp [World.frozen?, HK.out]))
          go_roundg (3 - 2)
          case measure => omega
          case rel =>
            have HT1 := HIx.out.step (HJ.out.blw.mono (by omega))
            have hbs : Below C w1 (w1.setCell ⟨C, 17, none⟩ (.int .i64 y)) := (Below.refl _ _).setCell (p := ⟨C, 17, none⟩) (Nat.le_refl _) _
            have HJ2 : Fsy wr w1 g b ps 19 f1 (preK rn kn { x with req := { x.req with l1 := y } } 19) (entFm rn kn) := HJ.out
            refine ⟨2, { x with req := { x.req with l1 := y } }, f1, by omega, by omega, by go_num, HT1.step (hbs.mono (by omega)), ⟨HIr.out.seq, ⟨HIr.out.ok.role, HIr.out.ok.issued, { HIr.out.ok.req with l1 := HRy.out }, HIr.out.ok.list⟩⟩, (HI2.out.comp HJ2).beside hVC hgl (by omega) (fun k hk => Below.heap_setCell _ _ _ _ hk) hbs, heap_set3 HK.out⟩
          --E
        by_cases h2 : q3 = 2
        · subst h2
          --B
          have HI2 : Hid (Fsy V wr g b ps 19 f (preK rn kn x 19) (entFm rn kn)) := HIf.out
          go_wp2_with (go_at_call 107; refine (any_wy _ HI2.out.again (by omega) hP (fun _ h => h)).mono ?_; rintro e w1 ⟨y, f1, rfl, HRy, HJ, -⟩; have HK := hide ((HJ.out.upn.same C ⟨blk_lt HIc.out, by omega⟩).trans HIc.out); have hKc : w1.cell? ⟨C, 18, none⟩ = some (.int .i64 x.req.l2) := (by rw [cells_all HK.out 18]; rfl); have hKf : w1.frozen? ⟨C, 18, none⟩ = false := (by simp [World.frozen?, HK.out]))
          go_roundg (3 - 3)
          case measure => omega
          case rel =>
            have HT1 := HIx.out.step (HJ.out.blw.mono (by omega))
            have hbs : Below C w1 (w1.setCell ⟨C, 18, none⟩ (.int .i64 y)) := (Below.refl _ _).setCell (p := ⟨C, 18, none⟩) (Nat.le_refl _) _
            have HJ2 : Fsy wr w1 g b ps 20 f1 (preK rn kn { x with req := { x.req with l2 := y } } 20) (entFm rn kn) := HJ.out
            refine ⟨3, { x with req := { x.req with l2 := y } }, f1, by omega, by omega, by go_num, HT1.step (hbs.mono (by omega)), ⟨HIr.out.seq, ⟨HIr.out.ok.role, HIr.out.ok.issued, { HIr.out.ok.req with l2 := HRy.out }, HIr.out.ok.list⟩⟩, (HI2.out.comp HJ2).beside hVC hgl (by omega) (fun k hk => Below.heap_setCell _ _ _ _ hk) hbs, heap_set3 HK.out⟩
          --E
        obtain rfl : q3 = 3 := by omega
        go_upto_region 25 with fail
        have HI4 : Hid (Fsy V wr g b ps 20 f (preK rn kn x 20) (entFm rn kn)) := HIf.out
        clear HIf
        go_cut [] (fun W => ∃ x sl f, Hid (TXx w W S G b off n cap zs q P2 (1 + (q : Int) + 1) a capq) ∧ Hid (W.cell? ⟨g, 2, none⟩ = some (.int .u8 f) ∧ g < W.heap.size ∧ V.heap.size ≤ W.heap.size) ∧ Hid (Flt f) ∧ Hid (W.heap[C]? = some (.cells (entA x (sv sl)) 67 (0, 0))) ∧ Hid (sl.2.1 = x.req.list.length) ∧ Hid (x.Ok) ∧ Hid (f = 0 → ps.take 21 = [69] :: entParts rn kn x) ∧ Hid (f ≠ 0 → ∃ j p, ps[j]? = some p ∧ ¬ entFm rn kn j p) ∧ Hid (U32sAt W (fun k => V.heap.size ≤ k ∧ k ≠ C) (sv sl) x.req.list))
        case first =>
          as_aux_lemma =>
            --B
            have HLS := hide (flist_x wr g b ps 20 f HI4.out.fl (by omega) hP HI4.out.by')
            have hCl := blk_lt HIc.out
            go_wp2_with (go_at_call 143; refine HLS.out.mono ?_; rintro e w1 ⟨v, ids, f', rfl, ho, hil, hiu, hff, hF1, hU1, hB1⟩; obtain ⟨a1, c1, rfl⟩ := ho.form; have HOW := hide (ho.rows u32Cs_size (by decide) (by omega)); have HIU := hide hiu; have HK := hide ((hU1.same C ⟨hCl, by omega⟩).trans HIc.out); have hKc : w1.cell? ⟨C, 19, none⟩ = some (.slice none 0 0) := (by rw [cells_all HK.out 19]; rfl); have hKf : w1.frozen? ⟨C, 19, none⟩ = false := (by simp [World.frozen?, HK.out]); have HF1 := hide hF1; have HB := hide hB1; have HU := hide hU1; have HFF := hide hff; clear hff hF1 hU1 hB1 ho hil hiu)
            go_meet
            case rel =>
              have hg1 := fields_lt HF1.out
              have hbs : Below C w1 (w1.setCell ⟨C, 19, none⟩ (.slice a1 ids.length c1)) := (Below.refl _ _).setCell (p := ⟨C, 19, none⟩) (Nat.le_refl _) _
              refine ⟨{ x with req := { x.req with list := ids } }, (a1, ids.length, c1), f', (HIx.out.step (HB.out.mono (by omega))).step (hbs.mono (by omega)), ⟨?_, ?_, ?_⟩, flt_or HI4.out.flt flt4 (HFF.out.imp And.left And.left), heap_set3 HK.out, rfl, ⟨HIr.out.ok.role, HIr.out.ok.issued, { HIr.out.ok.req with }, HIU.out⟩, fun e => ?_, fun e => ?_, ?_⟩
              · obtain ⟨pv, vals, h1, -⟩ := HF1.out
                rw [World.cell?_of_block (w := w1) (Below.heap_setCell _ _ _ _ (show g ≠ C by omega))]
                exact (cell3 h1).2.2.1
              · simp only [World.size_setCell]; exact hg1
              · have h1 := HI4.out.upn.size
                have h2 := HU.out.size
                simp only [World.size_setCell]; omega
              · have h20 : 20 < ps.length := by omega
                rcases HFF.out with ⟨h1, h2⟩ | ⟨h1, -⟩
                · have h3 := HI4.out.ex (h1 ▸ e)
                  rw [show (21 : Nat) = 20 + 1 from rfl, List.take_add_one, h3, h2]
                  rfl
                · rw [h1] at e
                  exact absurd e (spf_zero (by decide))
              · rcases HFF.out with ⟨h1, -⟩ | ⟨-, h2⟩
                · exact HI4.out.no (h1 ▸ e)
                · by_cases hf0 : f = 0
                  · have h20 : 20 < ps.length := by omega
                    refine ⟨20, ps[20], List.getElem?_eq_getElem h20, fun ⟨l, k1, k2, k3⟩ => h2 l k1 k2 ?_⟩
                    rw [List.getElem?_eq_getElem h20, k3]
                  · exact HI4.out.no hf0
              · have h1 := HI4.out.upn.size
                exact RArr.mono HOW.out (fun k hk => Below.heap_setCell _ _ _ _ (by have h2 : wr.heap.size ≤ k := hk; show k ≠ C; omega)) (fun k hk => by have h2 : wr.heap.size ≤ k := hk; exact ⟨by omega, by omega⟩)
            --E
        case rest =>
        obtain ⟨xe, ⟨sa, sn, sc⟩, fe, HX3, HFc, HFl, HC2, HSL, HXO, HEX, HEN, HLA⟩ := hcut
        obtain ⟨hfc, hgl2, hVz⟩ := HFc.out
        clear HFc HIx HI4 HIc HIr
        generalize wc = U2 at *
        have h8 := HFl.out.1
        have h9 := HFl.out.2
        have hG2 : G < U2.heap.size := (cell3 HX3.out.rd).2.2.2.2
        cases t5 : (fe != 0) with
        | true =>
          have h7 : fe ≠ 0 := by simpa using t5
          have HCC := hide (HFC.out U2 (1 + (q : Int) + 1) fe ⟨by omega, by omega⟩ HX3.out.blw ⟨P2, HX3.out.rd⟩ ⟨by omega, by omega⟩)
          have HNO := hide (HEN.out h7)
          clear h7
          --B
          go_wp2_with (go_at_call 108; refine HCC.out.mono ?_; rintro e w5 ⟨E, rfl, HB5, HPE, hE⟩)
          go_ret2
          exact HBAD.out w5 E HB5.out HPE.out (by omega) (HTI.out.no_field HNG.out (by rw [HYL.out]; exact hlt) (by omega) HUN.out HNO.out)
          --E
        | false =>
        have HPS : Hid (ps = [69] :: entParts rn kn xe) := take_all (HEX.out (by simpa using t5)) HWL.out
        clear HEX HEN
        go_upto_region 28 with fail
        clear hfc t5
        have hCl2 : C < U2.heap.size := blk_lt HC2.out
        go_cut [122] (fun v W => (∃ t : Bool, v = .bool t ∧ Hid (t = ! entOk xe ((q + 1 : Nat) : Int))) ∧ Hid (Below U2.heap.size U2 W))
        case first =>
          as_aux_lemma =>
            --B
            have hrx : rng U2 C 0 20 = some (entA xe (.slice sa sn sc)) := rng_whole HC2.out
            go_wp2_with (go_at_call 134; refine (checkEntry_calls _ xe sa sn sc _ HSL.out).mono ?_; rintro e w1 ⟨rfl, hb1⟩)
            go_meet
            case rel => exact ⟨⟨_, rfl, rfl⟩, hb1⟩
            --E
        case rest =>
        obtain ⟨⟨t6, rfl, HT6⟩, HB6⟩ := hcut
        have HLA2 := hide (RArr.mono (RArr.lt HLA.out) (fun k hk => HB6.out.block k hk.2) (fun _ hk => hk.1))
        clear HLA
        have HX4 := hide (HX3.out.step (HB6.out.mono (by omega)))
        have HC3 := hide ((HB6.out.block _ hCl2).trans HC2.out)
        have hz3 := HB6.out.size
        generalize wc = U3 at *
        clear HB6 HX3 HC2
        cases t6 with
        | true =>
          have HCK : Hid (entOk xe (((zs.map (·.1)).length + 1 : Nat) : Int) = false) := by
            show _ = false
            rw [HYL.out]
            have := HT6.out
            cases h : entOk xe ((q + 1 : Nat) : Int) with
            | false => rfl
            | true => rw [h] at this; cases this
          clear HT6
          have HCC := hide (HFC.out U3 (1 + (q : Int) + 1) 5 ⟨by decide, by decide⟩ HX4.out.blw ⟨P2, HX4.out.rd⟩ ⟨by omega, by omega⟩)
          --B
          go_wp2_with (go_at_call 108; refine HCC.out.mono ?_; rintro e w5 ⟨E, rfl, HB5, HPE, hE⟩)
          go_ret2
          exact HBAD.out w5 E HB5.out HPE.out (by omega) (HTI.out.no_check HNG.out (by rw [HYL.out]; exact hlt) HUN.out HPS.out HXO.out HCK.out)
          --E
        | false =>
        have HCK : Hid (entOk xe (((zs.map (·.1)).length + 1 : Nat) : Int) = true) := by
          show _ = true
          rw [HYL.out]
          have := HT6.out
          cases h : entOk xe ((q + 1 : Nat) : Int) with
          | true => rfl
          | false => rw [h] at this; cases this
        have HTN : Hid (TI rn kn data ((zs ++ [(xe, (sa, sn, sc))]).map (·.1)) P2 m) := by
          show TI _ _ _ _ _ _
          rw [List.map_append]
          exact HTI.out.next HNG.out (by rw [HYL.out]; exact hlt) HUN.out HPS.out HXO.out HCK.out HLC.out
        clear HT6 HCK
        have hCl3 : C < U3.heap.size := blk_lt HC3.out
        have hcX : rng U3 C 0 20 = some (entA xe (.slice sa sn sc)) := rng_whole HC3.out
        have hG3 : G < U3.heap.size := by omega
        --B
        go_wp2_with (at_builtin; refine wpList_app1 (α := ZE) rfl _ _ 42 rfl (G + 1) 67 zeCs Tryz.underlying42 Tryz.info67_z rfl (by decide) zeCs_size zeCs_one (.slice a q capq) zs rfl (OwnR.below HX4.out.own ((Below.refl _ _).alloc (Nat.le_refl _) _) (Nat.le_refl _)) _ rfl (xe, (sa, sn, sc)) (rng_whole (heap_alloc_at _ _)) (by rw [HLen.out] <;> omega) (by rw [HLen.out] <;> (unfold maxLen; omega)) (by simp only [World.size_alloc]; omega) ?_; intro v1 w1 hown1 hsame1 hbel1 hat1X; obtain ⟨a1, cap1, hv1⟩ := hown1.form; rw [List.length_append, HLen.out] at hv1; subst hv1)
        go_roundg (m - (q + 1))
        case measure => omega
        case rel =>
          have hB26 : Below (G + 1) U3 w1 := ((Below.refl _ _).alloc (by omega) _).trans hbel1
          refine ⟨q + 1, P2, zs ++ [(xe, (sa, sn, sc))], a1, cap1, by omega, rfl, rfl, by go_num, ⟨⟨?_, hown1, by simp [HLen.out], HX4.out.blw.trans (hB26.mono (by omega)), hqP2, hpos⟩, ?_⟩, HTN⟩
          rotate_left
          · have hns : ∀ x, (Value.slice a1 (q + 1) cap1).ownBlock = some x → (Value.slice a q capq).ownBlock = some x ∨ U3.heap.size ≤ x := fun x e => hat1X.elim (fun h => Or.inl (h.symm.trans e)) (fun h => Or.inr (by have e := h.symm.trans e; injection e with e; rw [World.size_alloc] at e; omega))
            have hlo := HX4.out.lo
            have hsm : ∀ k, k < U3.heap.size → (Value.slice a q capq).ownBlock ≠ some k → w1.heap[k]? = U3.heap[k]? := fun k h1 h2 => (hsame1 k ⟨by simp only [World.size_alloc]; omega, h2⟩).trans (((Below.refl U3.heap.size U3).alloc (Nat.le_refl _) _).block k h1)
            intro z hz
            rcases List.mem_append.1 hz with hz | hz
            · exact RArr.mono (RArr.lt (HX4.out.zip z hz)) (fun k hk => hsm k hk.2 hk.1.1.2) (fun k hk => ⟨hk.1.1.1, fun e => (hns k e).elim (fun h => hk.1.1.2 h) (fun h => by have := hk.2; omega)⟩)
            · rw [List.mem_singleton.1 hz]
              have hno : ∀ k, V.heap.size ≤ k → (Value.slice a q capq).ownBlock ≠ some k := fun k hk e => by have := HX4.out.ob k e; omega
              exact RArr.mono (RArr.lt HLA2.out) (fun k hk => hsm k hk.2 (hno k hk.1.1)) (fun k hk => ⟨by have := hk.1.1; omega, fun e => (hns k e).elim (fun h => hno k hk.1.1 h) (fun h => by have := hk.2; omega)⟩)
          unfold ReaderAt
          rw [hB26.block _ (by omega)]
          have e2 : (1 + ((q + 1 : Nat) : Int)) = 1 + (q : Int) + 1 := by omega
          rw [e2]
          exact HX4.out.rd
        --E
    · obtain rfl : q = m := by omega
      have HTR := hide (trailer_xx wr G n cap b off data P (1 + (q : Int)) q HP.out.rd (by omega) HCP.out (by have := HP.out.blw.size; omega) (fun t h => (HP.out.blw.cell (p := ⟨b, off + t, none⟩) (by dsimp only; omega)).trans (HD.out t h)) HN.out (by omega) hPn hn0 ⟨by omega, by omega⟩ HBY.out ⟨by omega, by omega⟩)
      go_upto_region 31 with fail
      go_cut [14] (fun v W => Hid (ErrCase wr W G v) ∧ Hid (v = .nilIface ↔ data = trailText (data.take P) q))
      case first =>
        as_aux_lemma =>
          --B
          go_wp2_with (go_at_call 113; refine HTR.out.mono ?_; rintro e w2 ⟨v, rfl, HV, HVX⟩)
          go_meet
          case rel => exact ⟨HV, HVX⟩
          --E
      case rest =>
      obtain ⟨HEC, HVX⟩ := hcut
      have hcc := HEC.out
      clear HEC HTR
      cases hcc with
      | bad E hev hE hp hs =>
        have HNO : Hid (data ≠ trailText (data.take P) q) := fun e => by have := HVX.out.2 e; rw [hev] at this; cases this
        subst hev
        clear HVX
        have HB2 := hide (HP.out.blw.trans hs.below)
        have HPE := hide hp
        clear hp hs
        --B
        go_wp2
        go_ret2
        exact HBAD.out wc E HB2.out HPE.out (by omega) (HTI.out.no_trail HYL.out HNO.out)
        --E
      | ok hev hs =>
        have HTV := hide (HTI.out.good HYL.out (HVX.out.1 hev))
        have HZ2 : Hid (ZipE wc (w.heap.size ≤ ·) zs) := fun z hz => RArr.mono (RArr.lt (HP.out.zip z hz)) (fun k hk => hs.same k ⟨hk.2, by have := hk.1.1; omega⟩) (fun k hk => by have := hk.1.1; have := HG.out; show w.heap.size ≤ k; omega)
        have HR2 : Hid (RArr wc (w.heap.size ≤ ·) 20 zeCs (.slice a q capq) zs) := RArr.mono (RArr.lt (HP.out.own.rows zeCs_size (by decide) (by rw [HP.out.len]; omega))) (fun k hk => hs.same k ⟨hk.2, by have h1 : G + 1 ≤ k := hk.1; omega⟩) (fun k hk => by have h1 : G + 1 ≤ k := hk.1; have := HG.out; show w.heap.size ≤ k; omega)
        have HLn := hide HP.out.len
        subst hev
        clear HVX
        have HB2 := hide (HP.out.blw.trans hs.below)
        clear hs
        --B
        go_wp2
        go_ret2
        exact .good a capq zs (by rw [HLn.out]; rfl) (by rw [HLn.out]; exact HR2.out) HZ2.out HTV.out (by rw [HG.out]; exact HB2.out)
        --E

set_option maxRecDepth 100000 in
set_option maxHeartbeats 2000000 in
theorem parseTrail_noneX (rn kn : Nat → ByteArray) (w : World) (a : Option Addr) (cap : Nat) :
    Calls Tryz.prog 80 #[.slice a 0 cap] w fun e w' => TrX w w' rn kn [] e := by
  go_enter Tryz.func80, Tryz.ntmps80
  go_upto_region 2 with fail
  have hb1 : Below w.heap.size w (w.alloc (.cells #[.slice a 0 cap, .int .i64 0, .int .i64 0] 224)) := (Below.refl _ _).alloc (Nat.le_refl _) _
  have hk1 : ReaderAt (w.alloc (.cells #[.slice a 0 cap, .int .i64 0, .int .i64 0] 224)) w.heap.size (.slice a 0 cap) 0 0 := heap_alloc_at _ _
  generalize w.alloc (.cells #[.slice a 0 cap, .int .i64 0, .int .i64 0] 224) = W1 at *
  have HB1 := hide hb1
  have hz1 := hb1.size
  have HNX := hide (next_empty W1 w.heap.size cap a 0 3 hk1 ⟨by omega, by omega⟩)
  clear hb1 hk1
  go_wp2_with (go_at_call 103; refine HNX.out.mono ?_; rintro e w2 ⟨E, rfl, hE, hp, hs⟩; have HB2 := hide (HB1.out.trans hs.below); have HP := hide hp; clear hp hs)
  go_ret2
  exact .bad E rfl (by omega) HP.out HB2.out (fun xs h => by have := h.tx; unfold trText trailText at this; simp at this)

/-- ParseTrail on bytes of every kind. -/
theorem parseTrail_x (w : World) (rn kn ft : Nat → ByteArray) (ok : Nat → Prop) (v : Value) (bs : List Int) (h : BytesAt w ok v bs) (hn : bs.length ≤ 4000000000) (hnm : NmAt w rn kn ft) (h5 : 5 < w.heap.size) (hg : NmG rn kn) (hB : ByteL bs) :
    Calls Tryz.prog 80 #[v] w fun e w' => TrX w w' rn kn bs e := by
  obtain ⟨a, cap, b, off, rfl, hl, hm, hr, ha, hc⟩ := h.lt
  by_cases h0 : 0 < bs.length
  · obtain ⟨rfl, -, hb⟩ := ha h0
    exact parseTrail_someX w rn kn ft b off bs.length cap bs ⟨hl, hm.1⟩ hb (fun t ht => by have := (rng_cell (hc t ht)).2 0 (by decide); simpa [byteCs] using this) rfl hn h0 hnm h5 hg hB
  · obtain rfl : bs = [] := List.length_eq_zero_iff.1 (by omega)
    exact parseTrail_noneX rn kn w a cap

end Go.Proofs.Qxb6500666aGreatDoor
