/- issueCumulative, walked. -/
import Derived.Test.Qxb6500666aGreatDoorIssue
import Derived.Test.Qxb6500666aGreatDoorAsCur
namespace Go.Proofs.Qxb6500666aGreatDoor
open Go.RowKit

open Classical in
noncomputable def cumR (ps : List KV) (L : Low) (now : Int) (s : Stat) (iss : Int) : Int × Stat × Int × List WR :=
  match pendR ps L with
  | none => (28, s, iss, [])
  | some all => if 0 < all.length then (25, s, iss, []) else match relR ps with
    | none => (28, s, iss, [])
    | some rows => if FileOk 67 ((s.transfers + 1) % 4294967296) now s.lastCum (asCur rows) then (0, { s with transfers := (s.transfers + 1) % 4294967296, lastCum := (s.transfers + 1) % 4294967296 }, (s.transfers + 1) % 4294967296, [((key1B 104 ((s.transfers + 1) % 4294967296), hdrB (hdrOf 67 ((s.transfers + 1) % 4294967296) now s.lastCum (asCur rows))), false)]) else (28, s, iss, [])

attribute [local go_sem] ext_const Ext.cell Ext.frozen Ext.rng Ext.whole
attribute [local go_sem ↓] exec_ldFile exec_stFile exec_bdFile
attribute [local go_sem] run_ldFile run_stFile run_bdFile fileCs_size fileCs_ones fileCs_0 fileCs_1 fileCs_2 fileCs_3 fileCs_4 fileCs_all whole_alloc_lt whole_alloc_at whole_drew setRow_alloc_at setRow_alloc_lt rng_alloc_lt rng_alloc_at rng_drew rng_drewN rng_setCell_other whole_setCell_other

set_option maxRecDepth 100000 in
set_option maxHeartbeats 4000000 in
theorem issueCum_calls (w : World) (Y S LB D bd : Nat) (A ok : Nat → Prop) (ps : List KV) (full : Bool) (r : Req) (lv : Value) (s : Stat) (x : LV) (iss : Int) (L : Low) (hY : SysAt w Y S LB) (hS : StoreAt w S A ps full) (hps : PsOk ps) (hpl : ps.length ≤ 99999998) (hr : r.Ok) (hst : s.Ok) (h : DrW w D bd r lv s x (.slice none 0 0) iss (fun _ => False) []) (hlow : LowAt w ok x L) (hl : L.Small) (ht : L.Times) (hel : L.sm.rs.length ≤ 100000000) (hco : ∀ rows, relR ps = some rows → ∀ c ∈ rows, c.Ok) :
    Calls Tryz.prog 302 #[.pointer (some ⟨Y, 0, none⟩), .pointer (some ⟨D, 0, none⟩)] w fun e w' => IPost w w' D bd r lv x e (cumR ps L r.now s iss) := by
  obtain ⟨R, hR⟩ : ∃ R, R = cumR ps L r.now s iss := ⟨_, rfl⟩
  rw [← hR]
  have HR := hide hR
  have HH := hide h
  have hDl := h.at'.lt
  have hbd := h.baseD
  have HPN := hide (pending_calls w Y S LB D 21 A ok ps full x L hY hS hps hpl (draft_lblk h.at') hlow hl ht hel)
  have HREL : Hid (∀ W, Below w.heap.size w W → Calls Tryz.prog 222 #[.pointer (some ⟨Y, 0, none⟩)] W fun e w' => OwnRes W w' 109 13 rowCs e 28 (relR ps)) := fun W hb => released_calls W Y S LB A ps full ((hb.block _ (blk_lt hY)).trans hY) (hS.below hb) hps (by omega)
  have HCO := hide hco
  clear hR h hlow hY hS hco
  cases h1 : pendR ps L with
  | none =>
    have HE : Hid (R = (28, s, iss, [])) := HR.out.trans (by simp [cumR, h1])
    go_enter Tryz.func302, Tryz.ntmps302
    go_wp2_with (go_at_call 173; refine HPN.out.mono ?_; rintro e w1 hp; rw [h1] at hp; obtain ⟨rfl, hb1⟩ := hp; simp only [errV, show ¬ ((28 : Int) = 0) by decide, if_false])
    go_ret
    exact IPost.refuse HE rfl HH.out hb1
  | some all =>
    by_cases hal : 0 < all.length
    · have HE : Hid (R = (25, s, iss, [])) := HR.out.trans (by simp [cumR, h1, hal])
      obtain ⟨n, hn⟩ : ∃ n, n = all.length := ⟨_, rfl⟩
      rw [← hn] at hal
      go_enter Tryz.func302, Tryz.ntmps302
      go_wp2_with (go_at_call 173; refine HPN.out.mono ?_; rintro e w1 hp; rw [h1] at hp; obtain ⟨v, rfl, ho1, hb1⟩ := hp; obtain ⟨va, vc, ev⟩ := ho1.form; subst ev; rw [← hn])
      go_ret
      exact IPost.refuse HE rfl HH.out hb1
    · cases h2 : relR ps with
      | none => simp [pendR, h2] at h1
      | some rows =>
        have hrl := relR_len h2
        have hcok := HCO.out rows h2
        obtain ⟨cs, hcs⟩ : ∃ cs, cs = asCur rows := ⟨_, rfl⟩
        obtain ⟨sq, hsq⟩ : ∃ sq, sq = (s.transfers + 1) % 4294967296 := ⟨_, rfl⟩
        have HEE : Hid (open Classical in R = if FileOk 67 sq r.now s.lastCum cs then (0, { s with transfers := sq, lastCum := sq }, sq, [((key1B 104 sq, hdrB (hdrOf 67 sq r.now s.lastCum cs)), false)]) else (28, s, iss, [])) := HR.out.trans (by rw [hcs, hsq]; unfold cumR; rw [h1]; simp only; rw [if_neg hal, h2])
        have hsu : U32 sq := by rw [hsq]; unfold U32; omega
        have hcl : cs.length ≤ 100000000 := by rw [hcs, asCur, List.length_map]; omega
        have HCK : Hid (∀ c ∈ cs, c.Ok) := fun c hc => by
          rw [hcs, asCur, List.mem_map] at hc
          obtain ⟨y, hy, rfl⟩ := hc
          exact ⟨(⟨by decide, by decide⟩ : U8 82), hcok y hy⟩
        have HSQ := hide hsq
        have HCS := hide hcs
        clear HR hcs hsq hcok HCO
        have hal0 : all.length = 0 := by omega
        go_enter Tryz.func302, Tryz.ntmps302
        go_upto_region 6 with (go_at_call 173; refine HPN.out.mono ?_; rintro e w1 hp; rw [h1] at hp; obtain ⟨v, rfl, ho1, hb1⟩ := hp; obtain ⟨va, vc, ev⟩ := ho1.form; subst ev; rw [hal0])
        have HB1 := hide hb1
        clear ho1 hb1 HPN
        go_upto_region 9 with (go_at_call 222; refine (HREL.out _ HB1.out).mono ?_; rintro e w2 hp; rw [h2] at hp; obtain ⟨v2, rfl, ho2, hb2⟩ := hp)
        have hz1 := HB1.out.size
        have hz2 := hb2.size
        have HB2 := hide (HB1.out.trans (hb2.mono hz1))
        have HRW : Hid (RowsAt w2 (w1.heap.size ≤ ·) v2 rows) := ho2.rows rowCs_size (by decide) (by omega)
        obtain ⟨xa, xn, xc, ex⟩ := ho2.form3
        subst ex
        clear ho2 hb2 HB1
        have HD1 := hide (HH.out.below HB2.out)
        have q18 := HD1.out.at'.cells.2 18
        have q2 := HD1.out.at'.cells.2 2
        have q19 := HD1.out.at'.cells.2 19
        have hD1 := HD1.out.at'.lt
        simp only [draftCs, List.getElem?_toArray, List.getElem?_cons_succ, List.getElem?_cons_zero] at q18 q2 q19
        go_cut [8] (fun p W => ∃ F a cap, p = .pointer (some ⟨F, 0, none⟩) ∧ Hid (W.heap[F]? = some (.cells (fileCs 67 sq r.now s.lastCum a cs.length cap) 59 (0, 0))) ∧ Hid (Below w2.heap.size w2 W) ∧ Hid (w2.heap.size ≤ F) ∧ Hid (ChangesAt W (w2.heap.size ≤ ·) (.slice a cs.length cap) cs))
        case first =>
          as_aux_lemma =>
            refine wp_region_mixT (w2.heap.size) [4, 10, 15] (by kernel_rfl) ?_
            refine mixT_slots [0, 1, 2, 3, 6, 7, 8, 9, 11, 12, 13, 14, 16] (fuel := 8) rfl (by kernel_rfl) (by kernel_rfl) (fun d _ _ _ _ h => by cases d <;> exact h) ?_
            simp only [opersAt, List.getElem?_toArray, List.getElem?_cons_zero, List.getElem?_cons_succ]
            repeat (go_big_quiet_step (fail))
            refine wpQuiet_nil ?_
            refine mixT_reads [4, 10, 15] (fuel := 5) rfl (by kernel_rfl) (by decide) (by kernel_rfl) (fun d _ _ _ _ h => by cases d <;> exact h) (ext_drew _ _) ?_
            simp only [opersAt, List.getElem?_toArray, List.getElem?_cons_zero, List.getElem?_cons_succ]
            repeat (go_big_quiet_step (fail))
            refine wpQuiet_nil ?_
            refine mixT_slots [5] (fuel := 4) rfl (by kernel_rfl) (by kernel_rfl) (fun d _ _ _ _ h => by cases d <;> exact h) ?_
            simp only [opersAt, List.getElem?_toArray, List.getElem?_cons_zero, List.getElem?_cons_succ]
            repeat (go_big_quiet_step (fail))
            refine wpQuiet_nil ?_
            refine mixT_two (k := 17) (k' := 19) (by kernel_rfl) rfl rfl ?_ ?_
            · go_wp2_with (go_at_call 208; refine (asCurrent_calls _ _ _ rows (RArr.below HRW.out (Below.refl _ _).drew) (by omega)).mono ?_; rintro e w3 ⟨v3, rfl, ho3, hb3⟩)
              have hbw : Below w2.heap.size w2 w3 := (Below.refl _ _).drew.trans hb3
              refine ⟨Or.inr (by intros; exact ⟨⟨_, hbw⟩, rfl⟩), ?_⟩
              have hzz := hbw.size
              obtain ⟨a, cap, e3⟩ := ho3.form
              subst e3
              rw [← HCS.out] at ho3 ⊢
              refine mixT_slots [18] (fuel := 2) rfl (by kernel_rfl) (by kernel_rfl) (fun d _ _ _ _ h => by cases d <;> exact h) ?_
              simp only [opersAt, List.getElem?_toArray, List.getElem?_cons_zero, List.getElem?_cons_succ]
              repeat (go_big_quiet_step (fail))
              refine wpQuiet_nil ?_
              refine mixT_one (k := 19) (by kernel_rfl) rfl ?_
              go_wp2
              refine ⟨Or.inr (by intros; exact ⟨⟨_, hbw.alloc hzz _⟩, rfl⟩), ?_⟩
              refine mixT_one (k := 20) (by kernel_rfl) rfl ?_
              go_wp2
              refine ⟨Or.inl (by kernel_rfl), ?_⟩
              refine mixT_nil (by kernel_rfl) ?_
              go_wp2
              go_meet
              case rel => exact ⟨w3.heap.size, a, cap, rfl, by rw [HSQ.out]; exact heap_alloc_at _ _, hbw.alloc hzz _, hzz, RArr.below (ho3.rows changeCs_size (by decide) (by omega)) ((Below.refl _ _).alloc (Nat.le_refl _) _)⟩
            · go_wp2
              have hb0 : Below w2.heap.size w2 (w2.drew.alloc (.cells (fileCs 0 0 0 0 none 0 0) 59)) := (Below.refl _ _).drew.alloc (Nat.le_refl _) _
              have hx0 : (w2.drew.alloc (.cells (fileCs 0 0 0 0 none 0 0) 59)).heap[w2.heap.size]? = some (.cells (fileCs 0 0 0 0 none 0 0) 59 (0, 0)) := heap_alloc_at w2.drew _
              refine ⟨Or.inr (by intros; exact ⟨⟨_, hb0⟩, rfl⟩), ?_⟩
              refine mixT_one (k := 17) (by kernel_rfl) rfl ?_
              go_wp2_with (go_at_call 208; refine (asCurrent_calls _ _ _ rows (RArr.below HRW.out hb0) (by omega)).mono ?_; rintro e w3 ⟨v3, rfl, ho3, hb3⟩)
              have hbw : Below w2.heap.size w2 w3 := hb0.trans (hb3.mono hb0.size)
              refine ⟨Or.inr (by intros; exact ⟨⟨_, hbw⟩, rfl⟩), ?_⟩
              have hzz := hbw.size
              have hx3 : w3.heap[w2.heap.size]? = some (.cells (fileCs 0 0 0 0 none 0 0) 59 (0, 0)) := (hb3.block _ (blk_lt hx0)).trans hx0
              have hwx : whole w3 w2.heap.size 5 = true := whole_blk hx3
              have hlx := blk_lt hx3
              obtain ⟨a, cap, e3⟩ := ho3.form
              subst e3
              rw [← HCS.out] at ho3 ⊢
              refine mixT_slots [18] (fuel := 1) rfl (by kernel_rfl) (by kernel_rfl) (fun d _ _ _ _ h => by cases d <;> exact h) ?_
              simp only [opersAt, List.getElem?_toArray, List.getElem?_cons_zero, List.getElem?_cons_succ]
              repeat (go_big_quiet_step (fail))
              refine wpQuiet_nil ?_
              refine mixT_one (k := 20) (by kernel_rfl) rfl ?_
              go_wp2
              refine ⟨Or.inl (by kernel_rfl), ?_⟩
              refine mixT_nil (by kernel_rfl) ?_
              go_wp2
              go_meet
              case rel => exact ⟨w2.heap.size, a, cap, rfl, by rw [HSQ.out]; exact heap_setRow_at hx3, hbw.trans (below_setRow' _ _ (Nat.le_refl _)), Nat.le_refl _, RArr.mono (RArr.lt (ho3.rows changeCs_size (by decide) (by omega))) (fun b hb => setRow_other _ _ _ _ (by have := hb.1; have := blk_lt hx0; omega)) (fun b hb => by have := hb.1; have := hb0.size; omega)⟩
        case rest =>
          obtain ⟨F, a, cap, rfl, HFX, HBX, HFL, HCA⟩ := hcut
          generalize wc = W2 at *
          have hz3 := HBX.out.size
          have HD2 := hide (HD1.out.below HBX.out)
          have hF0 : rng W2 F 0 5 = some (fileCs 67 sq r.now s.lastCum a cs.length cap) := rng_whole HFX.out
          have hFl := blk_lt HFX.out
          clear q18 q2 q19 hD1 HD1
          by_cases hfo : FileOk 67 sq r.now s.lastCum cs
          · have HE : Hid (R = (0, { s with transfers := sq, lastCum := sq }, sq, [((key1B 104 sq, hdrB (hdrOf 67 sq r.now s.lastCum cs)), false)])) := HEE.out.trans (by simp only [hfo, if_true])
            have HSG := hide (stage_ok W2 D bd r lv s x iss (w2.heap.size ≤ ·) 67 sq r.now s.lastCum a cap cs HD2.out HCA.out hcl ⟨by decide, by decide⟩ hsu hr.now hst.lastCum HCK.out hfo)
            go_upto_region 13 with (go_at_call 307; refine HSG.out.mono ?_; rintro e w3 ⟨rfl, wv3, B3, z3, hd3, hm3, hs3, hB3⟩)
            have HD3 := hide hd3
            have HM3 := hide hm3
            have HS3 := hide hs3
            have HB3 := hide hB3
            have hfl := HFL.out
            have hF3 := (hs3.fr F hFl (by omega) (by simp [Value.ownBlock])).trans HFX.out
            have f1 : w3.cell? ⟨F, 1, none⟩ = some (.int .u32 sq) := by rw [World.cell?, hF3]; rfl
            have fl := blk_lt hF3
            have q19 := hd3.at'.cells.2 19
            have qf := hd3.at'.cells.1 19
            have hD3 := hd3.at'.lt
            simp only [draftCs, List.getElem?_toArray, List.getElem?_cons_succ, List.getElem?_cons_zero] at q19
            clear hd3 hm3 hs3 hB3 HSG hF0 hFl hF3
            go_wp2
            go_ret
            rw [HE.out]
            obtain ⟨hd6, hs6⟩ := HD3.out.setS (draft_setS sq).2.2.1
            exact ⟨rfl, _, _, _, hd6, HM3.out, (DrStep.of_below (HB2.out.trans (HBX.out.mono (by omega))) (by omega)).trans (HS3.out.trans hs6), fun b hb => by have := HB3.out b hb; omega⟩
          · have HE : Hid (R = (28, s, iss, [])) := HEE.out.trans (by simp only [hfo, if_false])
            have HSG := hide (stage_bad W2 D (w2.heap.size ≤ ·) 67 sq r.now s.lastCum a cap cs HCA.out hfo)
            go_wp2_with (go_at_call 307; refine HSG.out.mono ?_; rintro e w3 ⟨rfl, hb3⟩)
            go_ret
            exact IPost.refuse HE rfl HH.out (HB2.out.trans ((HBX.out.mono (by omega)).trans (hb3.mono (by omega))))

end Go.Proofs.Qxb6500666aGreatDoor
