/- ParseReport on bytes of every kind, exact: what it takes is a rendering. -/
import Derived.Test.Qxb6500666aGreatDoorXParse
import Derived.Test.Qxb6500666aGreatDoorRepP
namespace Go.Proofs.Qxb6500666aGreatDoor
open Go.RowKit

/-- What ParseReport answers. -/
inductive RepX (w w' : World) (data : List Int) (e : Ending) : Prop
  | bad (E : Nat) (he : e = .returned (.tuple #[.int .u32 0, .int .u32 0, .slice none 0 0, .iface 241 (.pointer (some ⟨E, 0, none⟩))])) (hE : w.heap.size ≤ E) (hp : PErr w' E) (hb : Below w.heap.size w w') : RepX w w' data e
  | good (ea la : Int) (a : Option Addr) (cap : Nat) (ds : List Diff) (he : e = .returned (.tuple #[.int .u32 ea, .int .u32 la, .slice a ds.length cap, .nilIface])) (hF : rpC ea la ds = 0) (hea : U32 ea) (hla : U32 la) (hok : ∀ d ∈ ds, d.Ok) (hR : RArr w' (w.heap.size ≤ ·) 5 diffCs (.slice a ds.length cap) ds) (hb : Below w.heap.size w w') (htx : data = repText ea la ds) : RepX w w' data e
/-- Where ParseReport stands behind q lines. -/
structure RW (w W : World) (b off n cap : Nat) (ds : List Diff) (q pos : Nat) (a : Option Addr) (capq : Nat) : Prop where
  rd : ReaderAt W w.heap.size (.slice (some ⟨b, off, none⟩) n cap) pos (1 + q)
  own : OwnR W (w.heap.size + 1) 166 5 diffCs (.slice a q capq) ds
  len : ds.length = q
  ok : ∀ d ∈ ds, d.Ok
  blw : Below w.heap.size w W
  up : w.heap.size + 1 ≤ W.heap.size
  pos : pos ≤ n
attribute [local go_sem] ext_const Ext.cell Ext.frozen Ext.rng Ext.whole
attribute [local go_sem ↓] exec_ldDiff exec_stDiff exec_bsDiff
attribute [local go_sem] run_ldDiff run_stDiff run_bsDiff diff_ones diffCs_ex diffCs_size whole_alloc_lt whole_alloc_at whole_drew setRow_alloc_at setRow_alloc_lt rng_alloc_lt rng_alloc_at rng_drew rng_drewN

set_option maxRecDepth 100000 in
set_option maxHeartbeats 8000000 in
theorem parseReport_someX (w : World) (b off n cap : Nat) (data : List Int) (hcap : n ≤ cap ∧ cap ≤ maxLen) (hbl : b < w.heap.size) (hd : ∀ t (h : t < data.length), w.cell? ⟨b, off + t, none⟩ = some (.int .u8 data[t])) (hn : data.length = n) (hn2 : n ≤ 1000000000000) (hn0 : 0 < n) (hBy : ByteL data) :
    Calls Tryz.prog 73 #[.slice (some ⟨b, off, none⟩) n cap] w fun e w' => RepX w w' data e := by
  have HBY := hide hBy
  have HD := hide hd
  have HN := hide hn
  have HCP := hide hcap
  clear hd hn hcap hBy
  go_enter Tryz.func73, Tryz.ntmps73
  go_upto_region 2 with fail
  obtain ⟨G, hG⟩ : ∃ G, w.heap.size = G := ⟨_, rfl⟩
  have hb1 : Below w.heap.size w (w.alloc (.cells #[.slice (some ⟨b, off, none⟩) n cap, .int .i64 0, .int .i64 0] 224)) := (Below.refl _ _).alloc (Nat.le_refl _) _
  have hk1 : ReaderAt (w.alloc (.cells #[.slice (some ⟨b, off, none⟩) n cap, .int .i64 0, .int .i64 0] 224)) w.heap.size (.slice (some ⟨b, off, none⟩) n cap) ((0 : Nat) : Int) 0 := by
    have := heap_alloc_at w (.cells #[.slice (some ⟨b, off, none⟩) n cap, .int .i64 0, .int .i64 0] 224)
    simpa [ReaderAt] using this
  have hz1 : (w.alloc (.cells #[.slice (some ⟨b, off, none⟩) n cap, .int .i64 0, .int .i64 0] 224)).heap.size = w.heap.size + 1 := by simp
  generalize w.alloc (.cells #[.slice (some ⟨b, off, none⟩) n cap, .int .i64 0, .int .i64 0] 224) = W1 at *
  have HG := hide hG
  rw [hG] at hb1 hk1 hz1 hbl ⊢
  have HB1 := hide hb1
  have HRD1 := hide hk1
  have HNX : Hid (∀ (W : World) (pos : Nat) (ln : Int) (want : Nat), Below G w W → ReaderAt W G (.slice (some ⟨b, off, none⟩) n cap) pos ln → pos ≤ n → 1 ≤ want → want ≤ 100 → 0 ≤ ln ∧ ln ≤ 1000000000000000 → Calls Tryz.prog 103 #[.pointer (some ⟨G, 0, none⟩), .int .i64 want] W fun e w' => ∃ pv ev, e = .returned (.tuple #[pv, ev]) ∧ Hid (NextCase W w' G b off n cap data pos ln want pv ev)) := fun W pos ln want hW hR hp h1 h2 h3 =>
    (next_any W G n cap b off data pos ln want hR (by omega) HCP.out (by have := hW.size; have := HG.out; omega) (fun t h => (hW.cell (p := ⟨b, off + t, none⟩) (by dsimp only; omega)).trans (HD.out t h)) HN.out (by omega) hp h1 h2 h3).mono (fun e w' h => h.two)
  have HBAD : Hid (∀ (W : World) (E : Nat), Below G w W → PErr W E → G ≤ E → RepX w W data (.returned (.tuple #[.int .u32 0, .int .u32 0, .slice none 0 0, .iface 241 (.pointer (some ⟨E, 0, none⟩))]))) := fun W E h1 h2 h3 => .bad E rfl (by rw [HG.out]; exact h3) h2 (by rw [HG.out]; exact h1)
  clear hG hb1 hk1
  go_cut [7, 5] (fun pv ev W => Hid (NextCase W1 W G b off n cap data 0 0 5 pv ev))
  case first =>
    as_aux_lemma =>
      go_wp2_with (go_at_call 103; refine (HNX.out W1 0 0 5 HB1.out HRD1.out (by omega) (by omega) (by omega) ⟨by omega, by omega⟩).mono ?_; rintro e w2 ⟨pv, ev, rfl, HC⟩)
      go_meet
      case rel => exact HC
  case rest =>
  have hcc := hcut.out
  clear hcut
  cases hcc with
  | bad E hpv hev hE hp hs =>
    subst hpv hev
    have HPE := hide hp
    have HB2 : Hid (Below G w wc) := HB1.out.trans hs.below
    clear hp hs
    go_wp2
    refine bodyPost_ret (v := .tuple #[.int .u32 0, .int .u32 0, .slice none 0 0, .iface 241 (.pointer (some ⟨E, 0, none⟩))]) (by simp [results, Tryz.results73]) rfl ?_
    exact HBAD.out wc E HB2.out HPE.out (by omega)
  | good g ps line hpv hev hg hF hwl hP hR hpos hline hcat hs =>
  subst hpv hev
  have HB2 : Hid (Below G w wc) := HB1.out.trans hs.below
  have HR2 := hide hR
  have HPB : Hid (∀ p ∈ ps, ByteL p) := cat_bytes hcat (fun d hd => HBY.out d (List.mem_of_mem_drop (i := 0) (by rw [hline]; exact List.mem_append_left _ hd)))
  have HF0 : Hid (Fsx wc wc g b ps 0 0 []) := ⟨⟨hF, ⟨by decide, by decide⟩, ⟨Same.refl _ _, Nat.le_refl _⟩, Below.refl _ _⟩, fun _ => rfl, HPB.out⟩
  have HLC0 := hide (take_line hline hcat)
  have HWL0 := hide hwl
  generalize 0 + line.length + 1 = P1 at *
  have hgl := HF0.out.fault.2
  generalize wc = V at *
  have hgG : G + 1 ≤ g := by omega
  clear hF hR hline hcat hs HB1 HRD1 hz1
  go_upto_region 6 with (go_at_call 104; refine (expect_wx _ 72 HF0.out (by omega) hP).mono ?_; rintro e V1 ⟨f1, rfl, HF1⟩)
  clear HF0
  go_upto_region 7 with (go_at_call 104; refine (expect_wx _ 88 HF1.out (by omega) hP).mono ?_; rintro e V2 ⟨f2, rfl, HF2⟩)
  clear HF1
  go_upto_region 8 with (first
    | (go_at_call 106; refine (id_wx _ HF2.out (by omega) hP).mono ?_; rintro e V3 ⟨ea, f3, rfl, Hea, HF3, -⟩; clear HF2)
    | (go_at_call 106; refine (id_wx _ HF3.out (by omega) hP).mono ?_; rintro e V4 ⟨la, f4, rfl, Hla, HF4, -⟩; clear HF3))
  go_upto_region 9 with (go_at_call 106; refine (id_wx _ HF4.out (by omega) hP).mono ?_; rintro e W7 ⟨cnt, f7, rfl, HCn, HF7, -⟩)
  clear HF4
  obtain ⟨hf0, hg7⟩ := HF7.out.fault
  have hc0 := HCn.out.1
  have hc1 := HCn.out.2
  obtain ⟨m, rfl⟩ : ∃ m : Nat, cnt = m := ⟨cnt.toNat, by omega⟩
  have hff := HF7.out.flt
  have HR7 : Hid (ReaderAt W7 G (.slice (some ⟨b, off, none⟩) n cap) P1 1) := (HF7.out.upn.same G ⟨(cell3 HR2.out).2.2.2.2, by omega⟩).trans HR2.out
  have HB7 : Hid (Below G w W7) := HB2.out.trans (HF7.out.blw.mono (by omega))
  have hGl : G < W7.heap.size := (cell3 HR7.out).2.2.2.2
  cases t1 : (f7 != 0) with
  | true =>
    have h7 : f7 ≠ 0 := by simpa using t1
    have h8 := hff.1
    have h9 := hff.2
    have HFC := hide (fail_any W7 G _ _ _ f7 HR7.out ⟨by omega, by omega⟩ ⟨by omega, by omega⟩)
    clear h7
    go_wp2_with (go_at_call 108; refine HFC.out.mono ?_; rintro e w5 ⟨E, rfl, hE, hp5, hb5⟩)
    refine bodyPost_ret (v := .tuple #[.int .u32 0, .int .u32 0, .slice none 0 0, .iface 241 (.pointer (some ⟨E, 0, none⟩))]) (by simp [results, Tryz.results73]) rfl ?_
    exact HBAD.out w5 E (HB7.out.trans (hb5.mono (by omega))) hp5 (by omega)
  | false =>
  have HTX0 : Hid (data.take P1 = repHead ea la m ++ flatL repLine []) := by
    have h1 := take_all (HF7.out.ex (by simpa using t1)) HWL0.out
    have h2 := HLC0.out
    rw [h1] at h2
    show _ = _
    rw [h2, repHead_parts, List.take_zero]
    have h3 := lineB_tail [72] (rhParts ea la m)
    simp only [rhParts] at h3
    simp [flatL, rhParts]
    exact h3
  have HP0 : Hid (RW w W7 b off n cap [] 0 P1 none 0) := ⟨by rw [HG.out]; exact HR7.out, OwnR.nil _ _ _ _ _, rfl, by simp, by rw [HG.out]; exact HB7.out, by rw [HG.out]; omega, hpos⟩
  clear HR7 HB7 hg hgl hwl hP hff hpos HR2 HB2 HCn HF7 HLC0 HWL0 HPB hgG
  go_upto_region 12 with fail
  clear hf0 hGl t1 hg7
  go_loopg [2, 3, 4, 5, 9] m (fun gk x2 x3 dv x5 j W => ∃ (q P : Nat) (ds : List Diff) (a : Option Addr) (capq : Nat), q ≤ m ∧ gk = m - q ∧ x2 = .int .u32 ea ∧ x3 = .int .u32 la ∧ dv = .slice a q capq ∧ x5 = .nilIface ∧ j = .int .u32 q ∧ Hid (data.take P = repHead ea la m ++ flatL repLine ds) ∧ Hid (RW w W b off n cap ds q P a capq))
  case atStart => exact ⟨0, P1, [], none, 0, by omega, by omega, rfl, rfl, rfl, rfl, rfl, HTX0, HP0⟩
  clear HP0 HTX0
  case round =>
    obtain ⟨q, P, ds, a, capq, hq, rfl, rfl, rfl, rfl, rfl, rfl, HTX, HP⟩ := hrel
    have hrd := HP.out.rd
    have hbw := HP.out.blw
    rw [HG.out] at hrd hbw
    have HRD := hide hrd
    have HBW := hide hbw
    have hGl : G < wr.heap.size := (cell3 hrd).2.2.2.2
    have hPn := HP.out.pos
    clear hrd hbw
    by_cases hlt : q < m
    · go_upto_region 14 with fail
      go_cut [10, 11] (fun pv ev W => Hid (NextCase wr W G b off n cap data P (1 + (q : Int)) 5 pv ev))
      case first =>
        as_aux_lemma =>
          go_wp2_with (go_at_call 103; refine (HNX.out wr P (1 + (q : Int)) 5 HBW.out HRD.out hPn (by omega) (by omega) ⟨by omega, by omega⟩).mono ?_; rintro e w2 ⟨pv, ev, rfl, HC⟩)
          go_meet
          case rel => exact HC
      case rest =>
      have hcc := hcut.out
      clear hcut
      cases hcc with
      | bad E hpv hev hE hp hs =>
        subst hpv hev
        have HPE := hide hp
        have HB2 : Hid (Below G w wc) := HBW.out.trans hs.below
        clear hp hs
        go_wp2
        refine bodyPost_ret (v := .tuple #[.int .u32 0, .int .u32 0, .slice none 0 0, .iface 241 (.pointer (some ⟨E, 0, none⟩))]) (by simp [results, Tryz.results73]) rfl ?_
        exact HBAD.out wc E HB2.out HPE.out (by omega)
      | good g ps line hpv hev hg hF hwl hP hR hpos hline hcat hs =>
      subst hpv hev
      have HB2 : Hid (Below G w wc) := HBW.out.trans hs.below
      have HR2 := hide hR
      have HPB : Hid (∀ p ∈ ps, ByteL p) := cat_bytes hcat (fun d hd => HBY.out d (List.mem_of_mem_drop (i := P) (by rw [hline]; exact List.mem_append_left _ hd)))
      have HF0 : Hid (Fsx wc wc g b ps 0 0 []) := ⟨⟨hF, ⟨by decide, by decide⟩, ⟨Same.refl _ _, Nat.le_refl _⟩, Below.refl _ _⟩, fun _ => rfl, HPB.out⟩
      have HLC := hide (take_line hline hcat)
      have HWL := hide hwl
      have HO2 : Hid (OwnR wc (G + 1) 166 5 diffCs (.slice a q capq) ds) := by
        have h1 := HP.out.own
        rw [HG.out] at h1
        exact h1.mono fun x hx => hs.same x ⟨(h1.block x hx).2, by have := (h1.block x hx).1; omega⟩
      have hzz := hs.below.size
      have HOg : Hid (∀ x, (Value.slice a q capq).ownBlock = some x → x < g) := fun x hx => by have h1 := (HP.out.own.block x hx).2; omega
      generalize P + line.length + 1 = P2 at *
      have hgl := HF0.out.fault.2
      have HLen := hide HP.out.len
      have HOk := hide HP.out.ok
      generalize wc = V at *
      clear hF hR hline hcat hs HP HBW HRD
      go_upto_region 17 with fail
      go_upto_region 18 with (first
        | (go_at_call 105; refine (letter_wx _ HF0.out (by omega) hP).mono ?_; rintro e v2 ⟨d0, f1, rfl, Hd0, HF1, -⟩; clear HF0)
        | (go_at_call 106; refine (id_wx _ HF1.out (by omega) hP).mono ?_; rintro e v3 ⟨d1, f2, rfl, Hd1, HF2, -⟩; clear HF1)
        | (go_at_call 106; refine (id_wx _ HF2.out (by omega) hP).mono ?_; rintro e v4 ⟨d2, f3, rfl, Hd2, HF3, -⟩; clear HF2)
        | (go_at_call 106; refine (id_wx _ HF3.out (by omega) hP).mono ?_; rintro e v5 ⟨d3, f4, rfl, Hd3, HF4, -⟩; clear HF3)
        | (go_at_call 106; refine (id_wx _ HF4.out (by omega) hP).mono ?_; rintro e v6 ⟨d4, f5, rfl, Hd4, HF5, -⟩; clear HF4))
      change Code.wp _ _ _ _ (v6.alloc (.cells (diffCs ⟨d0, d1, d2, d3, d4⟩) 166))
      have hal : Below v6.heap.size v6 (v6.alloc (.cells (diffCs ⟨d0, d1, d2, d3, d4⟩) 166)) := (Below.refl _ _).alloc (Nat.le_refl _) _
      have hkD : (v6.alloc (.cells (diffCs ⟨d0, d1, d2, d3, d4⟩) 166)).heap[v6.heap.size]? = some (.cells (diffCs ⟨d0, d1, d2, d3, d4⟩) 166 (0, 0)) := heap_alloc_at _ _
      have HDO : Hid (Diff.Ok ⟨d0, d1, d2, d3, d4⟩) := ⟨Hd0.out, Hd1.out, Hd2.out, Hd3.out, Hd4.out⟩
      have HEX : Hid (f5 = 0 → ps.take 5 = [d0] :: difParts ⟨d0, d1, d2, d3, d4⟩) := (show f5 = 0 → ps.take 5 = [d0] :: difParts ⟨d0, d1, d2, d3, d4⟩ from HF5.out.ex)
      have hff := HF5.out.flt
      have hzv := HF5.out.upn.size
      have HU : Hid (Fsx V (v6.alloc (.cells (diffCs ⟨d0, d1, d2, d3, d4⟩) 166)) g b ps 5 f5 _) := HF5.out.grow hal
      have hC : V.heap.size ≤ v6.heap.size := hzv
      generalize hdd : (⟨d0, d1, d2, d3, d4⟩ : Diff) = d at *
      have hda : d.action = d0 := by rw [← hdd]
      rw [← hda] at HEX
      clear hdd Hd0 Hd1 Hd2 Hd3 Hd4 HF5 hda
      generalize v6.alloc (.cells (diffCs d) 166) = X at *
      generalize v6.heap.size = C at *
      obtain ⟨hf0, hgX⟩ := HU.out.fault
      have HRX : Hid (ReaderAt X G (.slice (some ⟨b, off, none⟩) n cap) P2 (1 + (q : Int) + 1)) := (HU.out.upn.same G ⟨(cell3 HR2.out).2.2.2.2, by omega⟩).trans HR2.out
      have HBX : Hid (Below G w X) := HB2.out.trans (HU.out.blw.mono (by omega))
      have HOX : Hid (OwnR X (G + 1) 166 5 diffCs (.slice a q capq) ds) := HO2.out.mono fun x hx => HU.out.upn.same x ⟨(HO2.out.block x hx).2, by
        have h1 := HO2.out.block x hx
        intro e
        subst e
        have := HOg.out x hx
        omega⟩
      have hGX : G < X.heap.size := (cell3 HRX.out).2.2.2.2
      clear HR2 HB2 HO2 HU hgl hg hal
      cases t5 : (f5 != 0) with
      | true =>
        have h7 : f5 ≠ 0 := by simpa using t5
        have h8 := hff.1
        have h9 := hff.2
        have HFC := hide (fail_any X G _ _ _ f5 HRX.out ⟨by omega, by omega⟩ ⟨by omega, by omega⟩)
        clear h7
        go_wp2_with (go_at_call 108; refine HFC.out.mono ?_; rintro e w5 ⟨E, rfl, hE, hp5, hb5⟩)
        refine bodyPost_ret (v := .tuple #[.int .u32 0, .int .u32 0, .slice none 0 0, .iface 241 (.pointer (some ⟨E, 0, none⟩))]) (by simp [results, Tryz.results73]) rfl ?_
        exact HBAD.out w5 E (HBX.out.trans (hb5.mono (by omega))) hp5 (by omega)
      | false =>
      have HTX2 : Hid (data.take P2 = repHead ea la m ++ flatL repLine (ds ++ [d])) := by
        have h1 := take_all (HEX.out (by simpa using t5)) HWL.out
        have h2 := HLC.out
        rw [h1, lineB_tail, HTX.out] at h2
        show _ = _
        rw [h2, flatL_snoc, repLine_parts]
        simp
      have rC : rng X C 0 5 = some (diffCs d) := rng_whole hkD
      have zC := blk_lt hkD
      have hB8 : Below X.heap.size X (X.alloc (.cells (diffCs d) 166)) := (Below.refl _ _).alloc (Nat.le_refl _) _
      have HO8 := hide (HOX.out.below hB8 (Nat.le_refl _))
      have HR8 : Hid (rng (X.alloc (.cells (diffCs d) 166)) X.heap.size 0 5 = some (diffCs d)) := rng_whole (heap_alloc_at _ _)
      have hz8 : G + 1 ≤ (X.alloc (.cells (diffCs d) 166)).heap.size := by simp; omega
      have HB8 := hide hB8
      clear hB8
      go_wp2_with (at_builtin; (refine wpList_app1 (α := Diff) rfl _ _ 72 rfl (G + 1) 166 diffCs Tryz.underlying72 Tryz.info166 rfl (by decide) diffCs_size diffCs_one (.slice a q capq) ds rfl HO8.out _ rfl d HR8.out (by rw [HLen.out] <;> omega) (by rw [HLen.out] <;> (unfold maxLen; omega)) hz8 ?_); intro y1 w1 hown1 hsame1 hbel1 hat1; obtain ⟨a1, cap1, hv1⟩ := hown1.form; rw [List.length_append, HLen.out] at hv1; subst hv1)
      go_roundg (m - (q + 1))
      case measure => omega
      case rel =>
        have hBF : Below (G + 1) X w1 := (HB8.out.mono (by omega)).trans hbel1
        refine ⟨q + 1, P2, ds ++ [d], a1, cap1, by omega, rfl, rfl, rfl, rfl, rfl, by go_num, HTX2, ?_, ?_, ?_, ?_, ?_, ?_, ?_⟩
        · rw [HG.out]
          unfold ReaderAt
          rw [hBF.block _ (by omega)]
          have e2 : (1 + ((q + 1 : Nat) : Int)) = 1 + (q : Int) + 1 := by omega
          rw [e2]
          exact HRX.out
        · rw [HG.out]; exact hown1
        · simp [HLen.out]
        · intro y hy
          rcases List.mem_append.1 hy with hy | hy
          · exact HOk.out y hy
          · rw [List.mem_singleton.1 hy]; exact HDO.out
        · rw [HG.out]; exact HBX.out.trans (hBF.mono (by omega))
        · rw [HG.out]; have := hBF.size; omega
        · exact hpos
    · obtain rfl : q = m := by omega
      have HTR := hide (trailer_x wr G n cap b off data P (1 + (q : Int)) q HRD.out (by omega) HCP.out (by have := HBW.out.size; have := HG.out; omega) (fun t h => (HBW.out.cell (p := ⟨b, off + t, none⟩) (by dsimp only; omega)).trans (HD.out t h)) HN.out (by omega) hPn hn0 ⟨by omega, by omega⟩ HBY.out)
      go_upto_region 21 with fail
      go_cut [13] (fun v W => Hid (ErrCase wr W G v) ∧ Hid (v = .nilIface → data = trailText (data.take P) q))
      case first =>
        as_aux_lemma =>
          go_wp2_with (go_at_call 113; refine HTR.out.mono ?_; rintro e w2 hw2; obtain ⟨v, rfl, hv, hvx⟩ := hw2.one; have HV := hide hv; have HVX := hide hvx; clear hv hw2 hvx)
          go_meet
          case rel => exact ⟨HV, HVX⟩
      case rest =>
      obtain ⟨HEC, HEX⟩ := hcut
      have hcc := HEC.out
      clear HEC HTR
      cases hcc with
      | bad E hev hE hp hs =>
        subst hev
        have HPE := hide hp
        have HB2 : Hid (Below G w wc) := HBW.out.trans hs.below
        clear hp hs
        go_wp2
        refine bodyPost_ret (v := .tuple #[.int .u32 0, .int .u32 0, .slice none 0 0, .iface 241 (.pointer (some ⟨E, 0, none⟩))]) (by simp [results, Tryz.results73]) rfl ?_
        exact HBAD.out wc E HB2.out HPE.out (by omega)
      | ok hev hs =>
      have HFT : Hid (data = repText ea la ds) := by
        have h1 := HEX.out hev
        rw [HTX.out, ← HP.out.len] at h1
        exact h1
      subst hev
      have HB2 : Hid (Below G w wc) := HBW.out.trans hs.below
      have HO2 : Hid (OwnR wc (G + 1) 166 5 diffCs (.slice a q capq) ds) := by
        have h1 := HP.out.own
        rw [HG.out] at h1
        exact h1.mono fun x hx => hs.same x ⟨(h1.block x hx).2, by have := (h1.block x hx).1; omega⟩
      have HLen := hide HP.out.len
      have HOk := hide HP.out.ok
      have hcf := checkReport_calls wc _ ea la a q capq ds (HO2.out.rows diffCs_size (by decide) (by rw [HLen.out]; omega))
      have hGc : G < wc.heap.size := Nat.lt_of_lt_of_le hGl hs.below.size
      clear hs HP HBW HRD HTX HEX
      by_cases hr0 : rpC ea la ds = 0
      · rw [hr0] at hcf
        have Hcf := hide hcf
        have HR0 := hide hr0
        clear hcf hr0
        go_upto_region 26 with (go_at_call 124; refine Hcf.out.mono ?_; rintro e w3 ⟨rfl, hb3⟩; simp only [errV, if_true])
        have HB3 : Hid (Below G w w3) := HB2.out.trans (hb3.mono (by omega))
        have HO3 := hide ((HO2.out.below hb3 (Nat.le_refl _)).rows diffCs_size (by decide) (by rw [HLen.out]; omega))
        clear Hcf hb3 HO2 HB2
        go_wp2
        refine bodyPost_ret (v := .tuple #[.int .u32 ea, .int .u32 la, .slice a q capq, .nilIface]) (by simp [results, Tryz.results73]) rfl ?_
        refine .good ea la a capq ds (by rw [HLen.out]) HR0.out Hea.out Hla.out HOk.out ?_ (by rw [HG.out]; exact HB3.out) HFT.out
        rw [HLen.out]
        exact RArr.mono HO3.out (Same.refl _ _) (fun b hb => by have := HG.out; have : G + 1 ≤ b := hb; show w.heap.size ≤ b; omega)
      · have h29 : rpC ea la ds = 29 := (rpC_cases ea la ds).resolve_left hr0
        rw [h29] at hcf
        have Hcf := hide hcf
        clear hcf hr0 h29
        go_upto_region 25 with (go_at_call 124; refine Hcf.out.mono ?_; rintro e w3 ⟨rfl, hb3⟩; simp [errV])
        have HB3 : Hid (Below G w w3) := HB2.out.trans (hb3.mono (by omega))
        have hz3 := hb3.size
        clear Hcf hb3
        go_wp2
        refine bodyPost_ret (v := .tuple #[.int .u32 0, .int .u32 0, .slice none 0 0, .iface 241 (.pointer (some ⟨w3.heap.size, 0, none⟩))]) (by simp [results, Tryz.results73]) rfl ?_
        exact HBAD.out _ w3.heap.size (HB3.out.alloc (by omega) _) ⟨1, 5, heap_alloc_at _ _, ⟨by decide, by decide⟩, ⟨by decide, by decide⟩⟩ (by omega)

set_option maxRecDepth 100000 in
set_option maxHeartbeats 2000000 in
theorem parseReport_noneX (data : List Int) (w : World) (a : Option Addr) (cap : Nat) :
    Calls Tryz.prog 73 #[.slice a 0 cap] w fun e w' => RepX w w' data e := by
  go_enter Tryz.func73, Tryz.ntmps73
  go_upto_region 2 with fail
  have hb1 : Below w.heap.size w (w.alloc (.cells #[.slice a 0 cap, .int .i64 0, .int .i64 0] 224)) := (Below.refl _ _).alloc (Nat.le_refl _) _
  have hk1 : ReaderAt (w.alloc (.cells #[.slice a 0 cap, .int .i64 0, .int .i64 0] 224)) w.heap.size (.slice a 0 cap) 0 0 := by
    have := heap_alloc_at w (.cells #[.slice a 0 cap, .int .i64 0, .int .i64 0] 224)
    simpa [ReaderAt] using this
  have hz1 : (w.alloc (.cells #[.slice a 0 cap, .int .i64 0, .int .i64 0] 224)).heap.size = w.heap.size + 1 := by simp
  generalize w.alloc (.cells #[.slice a 0 cap, .int .i64 0, .int .i64 0] 224) = W1 at *
  have HNX := hide (next_empty W1 w.heap.size cap a 0 5 hk1 ⟨by omega, by omega⟩)
  have HB1 := hide hb1
  have HZ1 : Hid (w.heap.size ≤ W1.heap.size) := hb1.size
  clear hb1 hk1 hz1
  go_wp2_with (go_at_call 103; refine HNX.out.mono ?_; rintro e w2 ⟨E, rfl, hE, hp, hs⟩; have HP := hide hp; have HB2 : Hid (Below w.heap.size w w2) := (HB1.out.trans hs.below); clear hp hs)
  refine bodyPost_ret (v := .tuple #[.int .u32 0, .int .u32 0, .slice none 0 0, .iface 241 (.pointer (some ⟨E, 0, none⟩))]) (by simp [results, Tryz.results73]) rfl ?_
  exact .bad E rfl (by have := HZ1.out; omega) HP.out HB2.out
/-- ParseReport on bytes of every kind. -/
theorem parseReport_x (w : World) (ok : Nat → Prop) (v : Value) (bs : List Int) (h : BytesAt w ok v bs) (hn : bs.length ≤ 1000000000000) (hB : ByteL bs) :
    Calls Tryz.prog 73 #[v] w fun e w' => RepX w w' bs e := by
  obtain ⟨a, cap, b, off, rfl, h1, h2, h3, h4, h5⟩ := h.lt
  rcases Nat.eq_zero_or_pos bs.length with h0 | h0
  · rw [h0]
    exact parseReport_noneX bs w a cap
  · obtain ⟨rfl, -, hbl⟩ := h4 h0
    exact parseReport_someX w b off bs.length cap bs ⟨h1, h2.1⟩ hbl (fun t ht => by
      have := (rng_cell (h5 t ht)).2 0 (by decide)
      simpa [byteCs] using this) rfl hn h0 hB
end Go.Proofs.Qxb6500666aGreatDoor
