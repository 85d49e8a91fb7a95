/- stage: a new file's header in the draft, walked. -/
import Derived.Test.Qxb6500666aGreatDoorPend
import Derived.Test.Qxb6500666aGreatDoorFresh
import Derived.Test.Qxb6500666aGreatDoorRenderWalk
namespace Go.Proofs.Qxb6500666aGreatDoor
open Go.RowKit

theorem draft_setS {r : Req} {lv : Value} {s : Stat} {x : LV} {wv : Value} {iss : Int} (v : Int) :
    (draftCs r lv s x wv iss).setIfInBounds 17 (.int .u32 v) = draftCs r lv { s with entries := v } x wv iss ∧ (draftCs r lv s x wv iss).setIfInBounds 18 (.int .u32 v) = draftCs r lv { s with transfers := v } x wv iss ∧
    (draftCs r lv s x wv iss).setIfInBounds 19 (.int .u32 v) = draftCs r lv { s with lastCum := v } x wv iss ∧ (draftCs r lv s x wv iss).setIfInBounds 20 (.int .i64 v) = draftCs r lv { s with lastMin := v } x wv iss ∧
    (draftCs r lv s x wv iss).setIfInBounds 30 (.int .u32 v) = draftCs r lv s x wv v := ⟨rfl, rfl, rfl, rfl, rfl⟩
theorem DraftAt.setS {w : World} {D j : Nat} {r : Req} {lv : Value} {s s' : Stat} {x : LV} {wv : Value} {iss iss' : Int} {v : Value} (h : DraftAt w D r lv s x wv iss) (e : (draftCs r lv s x wv iss).setIfInBounds j v = draftCs r lv s' x wv iss') : DraftAt (w.setCell ⟨D, j, none⟩ v) D r lv s' x wv iss' := by
  have := heap_set3 (j := j) (v := v) h
  rw [e] at this
  exact this
theorem DrW.setS {w : World} {D bd j : Nat} {r : Req} {lv : Value} {s s' : Stat} {x : LV} {wv : Value} {iss iss' : Int} {B : Nat → Prop} {zs : List ZW} {v : Value} (h : DrW w D bd r lv s x wv iss B zs) (e : (draftCs r lv s x wv iss).setIfInBounds j v = draftCs r lv s' x wv iss') : DrW (w.setCell ⟨D, j, none⟩ v) D bd r lv s' x wv iss' B zs ∧ DrStep w (w.setCell ⟨D, j, none⟩ v) D bd wv wv := by
  have hoth : ∀ b, b ≠ D → (w.setCell ⟨D, j, none⟩ v).heap[b]? = w.heap[b]? := fun b hb' => Below.heap_setCell _ _ _ _ hb'
  exact ⟨⟨h.at'.setS e, h.own.mono (fun b hb => hoth b (h.sep b hb).1), h.zip.mono (fun b hb => hoth b (fun e => h.out (e ▸ hb))) (fun _ h => h), h.sep, h.out, fun b hb => by have := h.lt b hb; simpa using this, h.baseD⟩, fun b _ h2 _ => hoth b h2, (Below.refl _ _).setCell (p := ⟨D, j, none⟩) h.baseD _, Or.inl rfl⟩

/-- The header of a file. -/
noncomputable def hdrOf (k s i bb : Int) (cs : List Change) : Hdr := ⟨k, s, i, bb, cs.length, crc (bodyText k s i bb cs), ((fileText k s i bb cs).length : Int) % 4294967296⟩
theorem hdrOf_ok {k s i bb : Int} {cs : List Change} (hk : U8 k) (hs : U32 s) (hi : I64 i) (hb : U32 bb) (hl : cs.length ≤ 100000000) : (hdrOf k s i bb cs).Ok :=
  ⟨hk, hs, hi, hb, ⟨Int.natCast_nonneg _, by simp only [hdrOf]; omega⟩, ⟨crc_lo _, crc_hi _⟩, ⟨by simp only [hdrOf]; omega, by simp only [hdrOf]; omega⟩⟩

/-- What staging leaves. -/
structure StgPost (w w' : World) (D bd : Nat) (r : Req) (lv : Value) (s : Stat) (x : LV) (e : Ending) (h : Hdr) : Prop where
  ret : e = .returned .nilIface
  ex : ∃ wv' B' zs', DrW w' D bd r lv { s with transfers := h.seq } x wv' h.seq B' zs' ∧ zs'.map (·.2) = [((key1B 104 h.seq, hdrB h), false)] ∧ DrStep w w' D bd (.slice none 0 0) wv' ∧ (∀ b, B' b → w.heap.size ≤ b)

attribute [local go_sem] ext_const Ext.cell Ext.frozen Ext.rng Ext.whole
attribute [local go_sem ↓] exec_ldFile exec_ldHd exec_stHd
attribute [local go_sem] run_ldFile run_ldHd run_stHd fileCs_size fileCs_ones fileCs_0 fileCs_1 fileCs_2 fileCs_3 fileCs_4 fileCs_all whole_alloc_lt whole_alloc_at whole_drew setRow_alloc_at setRow_alloc_lt rng_alloc_lt rng_alloc_at rng_drew rng_drewN rng_setCell_other whole_setCell_other

set_option maxRecDepth 100000 in
set_option maxHeartbeats 2000000 in
theorem stage_bad (w : World) (D : Nat) (ok : Nat → Prop) (k s i bb : Int) (a : Option Addr) (cap : Nat) (cs : List Change) (h : ChangesAt w ok (.slice a cs.length cap) cs) (hF : ¬ FileOk k s i bb cs) :
    Calls Tryz.prog 307 #[.pointer (some ⟨D, 0, none⟩), .agg (fileCs k s i bb a cs.length cap)] w fun e w' => e = .returned (.iface 63 (.int .u8 28)) ∧ Below w.heap.size w w' := by
  have HF := hide hF
  have Hh := hide h
  clear h hF
  have hb0 : Below w.heap.size w (w.alloc (.cells (fileCs k s i bb a cs.length cap) 59)) := (Below.refl _ _).alloc (Nat.le_refl _) _
  go_enter Tryz.func307, Tryz.ntmps307
  go_wp2_with (go_at_call 114; refine (checkFile_calls _ ok k s i bb a cap cs (RArr.below Hh.out hb0) (.iface 63 (.int .u8 29)) (fun h => absurd h HF.out) (fun _ => rfl)).mono ?_; rintro e w1 ⟨rfl, hb1⟩)
  go_ret
  exact ⟨rfl, hb0.trans (hb1.mono hb0.size)⟩

set_option maxRecDepth 100000 in
set_option maxHeartbeats 4000000 in
theorem stage_ok (w : World) (D bd : Nat) (r : Req) (lv : Value) (st : Stat) (x : LV) (iss : Int) (ok : Nat → Prop) (k s i bb : Int) (a : Option Addr) (cap : Nat) (cs : List Change) (hD : DrW w D bd r lv st x (.slice none 0 0) iss (fun _ => False) []) (h : ChangesAt w ok (.slice a cs.length cap) cs) (hlen : cs.length ≤ 100000000) (hk : U8 k) (hs : U32 s) (hi : I64 i) (hb : U32 bb) (hok : ∀ c ∈ cs, c.Ok) (hF : FileOk k s i bb cs) :
    Calls Tryz.prog 307 #[.pointer (some ⟨D, 0, none⟩), .agg (fileCs k s i bb a cs.length cap)] w fun e w' => StgPost w w' D bd r lv st x e (hdrOf k s i bb cs) := by
  have HD := hide hD
  have HF := hide hF
  have Hok := hide hok
  have Hh := hide h
  have Hs := hide hs
  have Hi := hide hi
  have Hb := hide hb
  have Hl := hide hlen
  have HHO := hide (hdrOf_ok hk hs hi hb hlen)
  have hDl := hD.at'.lt
  have hbd := hD.baseD
  obtain ⟨H, hH⟩ : ∃ H, H = hdrOf k s i bb cs := ⟨_, rfl⟩
  have HHO2 : Hid (H.Ok) := by rw [hH]; exact HHO.out
  have hsq : Hid (s = H.seq) := by show _ = _; rw [hH]; rfl
  have HFIN : Hid (∀ c l, c = crc (bodyText k s i bb cs) → l = ((fileText k s i bb cs).length : Int) % 4294967296 → hdCs k s i bb cs.length c l = hdrCs H) := fun c l h1 h2 => by rw [hH, h1, h2]; rfl
  rw [← hH]
  clear hH HHO
  clear h hF hok hi hb hlen hD
  have hb0 : Below w.heap.size w (w.alloc (.cells (fileCs k s i bb a cs.length cap) 59)) := (Below.refl _ _).alloc (Nat.le_refl _) _
  go_enter Tryz.func307, Tryz.ntmps307
  go_upto_region 4 with (go_at_call 114; refine (checkFile_calls _ ok k s i bb a cap cs (RArr.below Hh.out hb0) .nilIface (fun _ => rfl) (fun h => absurd HF.out h)).mono ?_; rintro e w1 ⟨rfl, hb1⟩)
  have hb01 := hb0.trans (hb1.mono hb0.size)
  have hkx : w1.heap[w.heap.size]? = some (.cells (fileCs k s i bb a cs.length cap) 59 (0, 0)) := by rw [hb1.block _ (by simp)]; exact heap_alloc_at _ _
  have hrf : rng w1 w.heap.size 0 5 = some (fileCs k s i bb a cs.length cap) := rng_whole hkx
  have hlf := blk_lt hkx
  have HKX := hide hkx
  clear hb1 hkx hb0
  have HRN := hide (render_exact w1 ok k s i bb a cap cs (RArr.below Hh.out hb01) Hl.out Hs.out Hi.out Hb.out Hok.out)
  have hov : ∀ x, ones (hdrCs x) 7 = true := fun _ => rfl
  go_upto_region 5 with (go_at_call 123; refine HRN.out.mono ?_; rintro e w2 ⟨v, c, l, rfl, hown, hb2, HCL⟩; rw [HFIN.out c l HCL.out.1 HCL.out.2])
  have hz1 := hb01.size
  have hz2 := hb2.size
  clear HRN HFIN HCL
  have hbV : Below w.heap.size w (w2.alloc (.cells (hdrCs H) 71)) := (hb01.trans (hb2.mono hz1)).alloc (by omega) _
  have hfV : (w2.alloc (.cells (hdrCs H) 71)).heap[w.heap.size]? = some (.cells (fileCs k s i bb a cs.length cap) 59 (0, 0)) := ((Below.heap_alloc _ _ _ (by omega)).trans (hb2.block _ hlf)).trans HKX.out
  have hrh : rng (w2.alloc (.cells (hdrCs H) 71)) w2.heap.size 0 7 = some (hdrCs H) := rng_whole (heap_alloc_at _ _)
  have hlh : w2.heap.size < (w2.alloc (.cells (hdrCs H) 71)).heap.size := by simp
  clear hrf hlf HKX hown hb2 hb01 hz1 hz2
  generalize (World.alloc w2 _) = V at *
  have HBV := hide hbV
  have HFV := hide hfV
  have c1 : V.cell? ⟨w.heap.size, 1, none⟩ = some (.int .u32 s) := by rw [World.cell?, hfV]; rfl
  have hl1 := blk_lt hfV
  have HDV := hide (HD.out.below hbV)
  clear hbV hfV
  refine wp_region_mixT (V.heap.size) [2, 4] (by kernel_rfl) ?_
  refine mixT_slots [0, 1] (fuel := 5) rfl (by kernel_rfl) (by kernel_rfl) (fun d _ _ _ _ h => by cases d <;> exact h) ?_
  simp only [opersAt, List.getElem?_toArray, List.getElem?_cons_zero, List.getElem?_cons_succ]
  repeat (go_big_quiet_step (fail))
  refine wpQuiet_nil ?_
  refine mixT_reads [2, 4] (fuel := 3) rfl (by kernel_rfl) (by decide) (by kernel_rfl) (fun d _ _ _ _ h => by cases d <;> exact h) (ext_drew _ _) ?_
  simp only [opersAt, List.getElem?_toArray, List.getElem?_cons_zero, List.getElem?_cons_succ]
  repeat (go_big_quiet_step (fail))
  refine wpQuiet_nil ?_
  refine mixT_one (k := 3) (by kernel_rfl) rfl ?_
  go_wp2_with (go_at_call 163; refine (key1_calls _ 104 s (u8c 104 (by decide)) hs).mono ?_; rintro e w3 ⟨kv, rfl, hk3, hb3⟩)
  have hbk : Below V.heap.size V w3 := (Below.refl _ _).drew.trans hb3
  refine ⟨Or.inr (by intros; exact ⟨⟨_, hbk⟩, rfl⟩), ?_⟩
  obtain ⟨ka, kn, kc, ek⟩ := hk3.form3
  subst ek
  refine mixT_one (k := 5) (by kernel_rfl) rfl ?_
  go_wp2_with (go_at_call 310; refine (hdr_calls _ H HHO2.out).mono ?_; rintro e w4 ⟨vv, rfl, hv4, hb4⟩)
  have hz3 := hbk.size
  have hbv : Below V.heap.size V w4 := hbk.trans (hb4.mono hz3)
  refine ⟨Or.inr (by intros; exact ⟨⟨_, hbv⟩, rfl⟩), ?_⟩
  obtain ⟨va, vn, vc, ev⟩ := hv4.form3
  subst ev
  have HKB := hide (OwnR.since (V := V) hk3 (Nat.le_refl _) (by simp [key1B, d256_len]) hb4)
  have HVB := hide (OwnR.since (V := V) hv4 hz3 (by simp [hdrB, i64B, d256_len]) (Below.refl _ _))
  have HBV4 := hide hbv
  clear hk3 hb3 hv4 hb4 hbk hbv
  refine mixT_one (k := 6) (by kernel_rfl) rfl ?_
  go_wp2_with (go_at_call 177; refine (put_fresh V _ D bd r lv st x _ iss (fun _ => False) [] ka kn kc (key1B 104 s) va vn vc (hdrB H) HDV.out HBV4.out HKB.out HVB.out (by simp)).mono ?_; rintro e w5 ⟨rfl, wv5, hd5, hs5⟩)
  refine ⟨Or.inl (by kernel_rfl), ?_⟩
  refine mixT_nil (by kernel_rfl) ?_
  have HF5 := hide ((hs5.fr _ hl1 (by omega) (by simp [Value.ownBlock])).trans HFV.out)
  have c5 : w5.cell? ⟨w.heap.size, 1, none⟩ = some (.int .u32 s) := by rw [World.cell?, HF5.out]; rfl
  have hl5 := blk_lt HF5.out
  have hD5 := hd5.at'.lt
  have f5 := hd5.at'.cells.1
  have q18 := hd5.at'.cells.2 18
  have q30 := hd5.at'.cells.2 30
  simp only [draftCs, List.getElem?_toArray, List.getElem?_cons_succ, List.getElem?_cons_zero] at q18 q30
  have hneD : w.heap.size ≠ D := by omega
  have HD5 := hide hd5
  have HS5 := hide hs5
  clear c1 hl1 hrh hlh hd5 hs5 HKB HVB HBV4
  go_wp2
  go_ret
  rw [hsq.out]
  obtain ⟨hd6, hs6⟩ := HD5.out.setS (draft_setS H.seq).2.1
  obtain ⟨hd7, hs7⟩ := hd6.setS (draft_setS H.seq).2.2.2.2
  exact ⟨rfl, _, _, _, hd7, by rw [hsq.out]; rfl, (DrStep.of_below HBV.out (by omega)).trans ((HS5.out.trans hs6).trans hs7), fun b hb => hb.elim (fun h => h.elim) (fun h => Nat.le_trans HBV.out.size h.1)⟩

end Go.Proofs.Qxb6500666aGreatDoor
