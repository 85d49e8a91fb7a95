/- issueIncremental, walked. -/
import Derived.Test.Qxb6500666aGreatDoorStage
namespace Go.Proofs.Qxb6500666aGreatDoor
open Go.RowKit

theorem draft_lblk {w : World} {D : Nat} {r : Req} {lv : Value} {s : Stat} {x : LV} {wv : Value} {iss : Int} (h : DraftAt w D r lv s x wv iss) : LBlk w D 21 x := ⟨h.rng.1, h.rng.2.1, h.rng.2.2, h.lt⟩

/-- What a handler leaves that writes and moves the counts. -/
structure IPost (w w' : World) (D bd : Nat) (r : Req) (lv : Value) (x : LV) (e : Ending) (R : Int × Stat × Int × List WR) : Prop where
  ret : e = .returned (errV R.1)
  ex : ∃ wv' B' zs', DrW w' D bd r lv R.2.1 x wv' R.2.2.1 B' zs' ∧ zs'.map (·.2) = R.2.2.2 ∧ DrStep w w' D bd (.slice none 0 0) wv' ∧ (∀ b, B' b → w.heap.size ≤ b)
theorem IPost.refuse {w w' : World} {D bd : Nat} {r : Req} {lv : Value} {s : Stat} {x : LV} {iss : Int} {R : Int × Stat × Int × List WR} {c : Int} {v : Value} (HE : Hid (R = (c, s, iss, []))) (hv : v = errV c) (h : DrW w D bd r lv s x (.slice none 0 0) iss (fun _ => False) []) (hb : Below w.heap.size w w') : IPost w w' D bd r lv x (.returned v) R := by
  rw [HE.out]
  have := h.at'.lt
  have := h.baseD
  exact ⟨by rw [hv], _, _, _, h.below hb, rfl, DrStep.of_below hb (by omega), fun _ h => h.elim⟩

def ptrW (seq : Int) (i : Nat) (c : Change) : WR := if (c.action == 87) then ((key2B 114 c.row.sample c.row.analyte, []), true) else ((key2B 114 c.row.sample c.row.analyte, placeB seq i), false)
def incW (seq : Int) : Nat → List Change → List WR
  | _, [] => []
  | i, c :: cs => ((key2B 99 seq i, chgB c), false) :: ptrW seq i c :: incW seq (i + 1) cs
theorem incW_snoc (seq : Int) (c : Change) : ∀ (i : Nat) (cs : List Change), incW seq i (cs ++ [c]) = incW seq i cs ++ [((key2B 99 seq (i + cs.length : Nat), chgB c), false), ptrW seq (i + cs.length) c]
  | i, [] => rfl
  | i, d :: cs => by
    show _ :: _ :: incW seq (i + 1) (cs ++ [c]) = _ :: _ :: (incW seq (i + 1) cs ++ _)
    rw [incW_snoc seq c (i + 1) cs]
    simp only [List.length_cons, show i + 1 + cs.length = i + (cs.length + 1) by omega]
open Classical in
noncomputable def incR (ps : List KV) (L : Low) (now : Int) (s : Stat) (iss : Int) : Int × Stat × Int × List WR :=
  match pendR ps L with
  | none => (28, s, iss, [])
  | some all => if FileOk 73 ((s.transfers + 1) % 4294967296) now s.lastCum (all.take 20) then (0, { s with transfers := (s.transfers + 1) % 4294967296 }, (s.transfers + 1) % 4294967296, ((key1B 104 ((s.transfers + 1) % 4294967296), hdrB (hdrOf 73 ((s.transfers + 1) % 4294967296) now s.lastCum (all.take 20))), false) :: incW ((s.transfers + 1) % 4294967296) 0 (all.take 20)) else (28, s, iss, [])

theorem run_slTo {P : Program} {t e : TypeId} {size : Nat} (ht : P.underlying t = some (.slice e)) (hs : ∀ w, (sizeOf e).run P w = .ok size w) (g : Nat) {n cap : Nat} (hcap : n ≤ cap) (i : Nat) (hi : i ≤ n) (w : World) :
    (Instr.sliceAt t (.slice (some ⟨g, 0, none⟩) n cap) none (some (.int .i64 (i : Int))) none).run P w = .ok (.slice (some ⟨g, 0, none⟩) i cap) w := by
  simp [Instr.sliceAt, Instr.slice, run_underlying ht, hs, Instr.sliceBounds, Instr.sliceBound, asIntOf, Addr.add_lit]
  omega

section
variable (ρ : Operand → Value) (dst : Option Tmp) (a b c d e : Operand) (ty : TypeId) (pos : String) (after : Array Edge) (guard : Option (Nat × Bool))
def bdFileS (a b c d e : Value) : Sem Value := Instr.build 59 #[(0, a), (1, b), (2, c), (3, d), (4, e)]
theorem exec_bdFile : execOp ρ { dst, op := .build 59 #[(0, a), (1, b), (2, c), (3, d), (4, e)], type := ty, pos, after, guard } = (do pure (.value (← bdFileS (ρ a) (ρ b) (ρ c) (ρ d) (ρ e)))) := by simp [execOp, bdFileS]
end
theorem run_bdFile (w : World) (k s i b : Int) (a : Option Addr) (n c : Nat) : (bdFileS (.int .u8 k) (.int .u32 s) (.int .i64 i) (.int .u32 b) (.slice a n c)).run Tryz.prog w = .ok (.agg (fileCs k s i b a n c)) w := by kernel_rfl

attribute [local go_sem] ext_const Ext.cell Ext.frozen Ext.rng Ext.whole
attribute [local go_sem ↓] exec_ldFile exec_stFile exec_bdFile exec_ldChange exec_stChange exec_ldPlc exec_stPlc
attribute [local go_sem] run_ldFile run_stFile run_bdFile run_ldChange run_stChange run_ldPlc run_stPlc fileCs_size fileCs_ones fileCs_0 fileCs_1 fileCs_2 fileCs_3 fileCs_4 fileCs_all changeCs_size changeCs_ones changeCs_all whole_alloc_lt whole_alloc_at whole_drew setRow_alloc_at setRow_alloc_lt rng_alloc_lt rng_alloc_at rng_drew rng_drewN rng_setCell_other whole_setCell_other

set_option maxRecDepth 100000 in
set_option maxHeartbeats 4000000 in
theorem issueInc_calls (w : World) (Y S LB D bd : Nat) (A ok : Nat → Prop) (ps : List KV) (full : Bool) (r : Req) (lv : Value) (s : Stat) (x : LV) (iss : Int) (L : Low) (hY : SysAt w Y S LB) (hS : StoreAt w S A ps full) (hps : PsOk ps) (hpl : ps.length ≤ 99999998) (hr : r.Ok) (hst : s.Ok) (h : DrW w D bd r lv s x (.slice none 0 0) iss (fun _ => False) []) (hlow : LowAt w ok x L) (hl : L.Small) (ht : L.Times) (hel : L.sm.rs.length ≤ 100000000) (hco : ∀ cs, pendR ps L = some cs → ∀ c ∈ cs, c.Ok) :
    Calls Tryz.prog 301 #[.pointer (some ⟨Y, 0, none⟩), .pointer (some ⟨D, 0, none⟩)] w fun e w' => IPost w w' D bd r lv x e (incR ps L r.now s iss) := by
  obtain ⟨R, hR⟩ : ∃ R, R = incR ps L r.now s iss := ⟨_, rfl⟩
  rw [← hR]
  have HR := hide hR
  have HH := hide h
  have hDl := h.at'.lt
  have hbd := h.baseD
  have HPN := hide (pending_calls w Y S LB D 21 A ok ps full x L hY hS hps hpl (draft_lblk h.at') hlow hl ht hel)
  have HCO := hide hco
  clear hR h hlow hY hS hco
  cases h1 : pendR ps L with
  | none =>
    have HE : Hid (R = (28, s, iss, [])) := HR.out.trans (by simp [incR, h1])
    go_enter Tryz.func301, Tryz.ntmps301
    go_wp2_with (go_at_call 173; refine HPN.out.mono ?_; rintro e w1 hp; rw [h1] at hp; obtain ⟨rfl, hb1⟩ := hp; simp only [errV, show ¬ ((28 : Int) = 0) by decide, if_false])
    go_ret
    exact IPost.refuse HE rfl HH.out hb1
  | some all =>
    have hcok := HCO.out all h1
    obtain ⟨cs, hcs⟩ : ∃ cs, cs = all.take 20 := ⟨_, rfl⟩
    obtain ⟨sq, hsq⟩ : ∃ sq, sq = (s.transfers + 1) % 4294967296 := ⟨_, rfl⟩
    have HEE : Hid (open Classical in R = if FileOk 73 sq r.now s.lastCum cs then (0, { s with transfers := sq }, sq, ((key1B 104 sq, hdrB (hdrOf 73 sq r.now s.lastCum cs)), false) :: incW sq 0 cs) else (28, s, iss, [])) := HR.out.trans (by rw [hcs, hsq]; unfold incR; rw [h1])
    have hsu : U32 sq := by rw [hsq]; unfold U32; omega
    have hcl : cs.length ≤ 20 := by rw [hcs]; simp; omega
    have HCK : Hid (∀ c ∈ cs, c.Ok) := fun c hc => hcok c (List.mem_of_mem_take (hcs ▸ hc))
    have HSQ := hide hsq
    have HCS := hide hcs
    clear HR hcs hsq hcok HCO
    go_enter Tryz.func301, Tryz.ntmps301
    go_upto_region 4 with (go_at_call 173; refine HPN.out.mono ?_; rintro e w1 hp; rw [h1] at hp; obtain ⟨v, rfl, ho1, hb1⟩ := hp)
    have HO1 := hide ho1
    have HB1 := hide hb1
    have hz1 := hb1.size
    obtain ⟨va, vn, vc, ev⟩ := ho1.form3
    subst ev
    clear ho1 hb1 HPN
    have hvn : vn = all.length := by
      obtain ⟨a, cap, hf⟩ := HO1.out.form
      simp only [Value.slice.injEq] at hf
      exact hf.2.1
    subst hvn
    obtain ⟨n, hn⟩ : ∃ n, n = all.length := ⟨_, rfl⟩
    rw [← hn] at HO1 ⊢
    have HN := hide hn
    clear hn
    go_upto_if 26 with fail
    go_cut [5] (fun v5 W => w1 = W ∧ ∃ a cap, v5 = .slice a cs.length cap ∧ Hid (ChangesAt w1 (w.heap.size ≤ ·) v5 cs))
    case first =>
      by_cases hlt : 20 < n
      · have hml : 20 < all.length := by rw [← HN.out]; exact hlt
        have htk := hide (HO1.out.take changeCs_size 20 hml)
        have hll : cs.length = 20 := by rw [HCS.out]; simp; omega
        obtain ⟨g, hg, hnc⟩ : ∃ g, va = some ⟨g, 0, none⟩ ∧ n ≤ vc := by
          obtain ⟨k1, k2⟩ := HO1.out
          rcases k2 with ⟨k2, k3⟩ | ⟨g, cap', cur, k2, hg, hh, r1, r2, r3, r4⟩
          · have := HN.out
            omega
          · injection k2 with q1 q2 q3
            exact ⟨g, q1, by have := HN.out; omega⟩
        subst hg
        have hsl := run_slTo (P := Tryz.prog) Tryz.underlying57 Tryz.size111 g hnc 20 (by omega)
        have hgo : decide ((20 : Int) < n) = true := by simpa using (by omega)
        go_wp2
        go_meet
        case rel => exact ⟨rfl, _, _, by rw [hll], by rw [HCS.out]; exact htk.out.rows changeCs_size (by decide) (by simp; omega)⟩
      · have hce : cs = all := by rw [HCS.out]; exact List.take_of_length_le (by rw [← HN.out]; omega)
        go_wp2
        go_meet
        case rel => exact ⟨rfl, _, _, by rw [hce, ← HN.out], by rw [hce]; exact HO1.out.rows changeCs_size (by decide) (by rw [← HN.out]; omega)⟩
    case rest =>
      obtain ⟨rfl, a, cap, rfl, HCA⟩ := hcut
      obtain ⟨m, hm⟩ : ∃ m, m = cs.length := ⟨_, rfl⟩
      have HM := hide hm
      rw [← hm] at hcl HCA ⊢
      clear HO1 HCS HN hm
      have HD1 := hide (HH.out.below HB1.out)
      have q18 := HD1.out.at'.cells.2 18
      have q2 := HD1.out.at'.cells.2 2
      have q19 := HD1.out.at'.cells.2 19
      have hD1 := HD1.out.at'.lt
      simp only [draftCs, List.getElem?_toArray, List.getElem?_cons_succ, List.getElem?_cons_zero] at q18 q2 q19
      have htu := hst.transfers
      have hsq2 : s.transfers + 1 = sq ∨ s.transfers + 1 = 4294967296 := by have := HSQ.out; unfold U32 at htu; omega
      go_upto_region 6 with fail
      go_cut [7] (fun p W => p = .pointer (some ⟨w1.heap.size, 0, none⟩) ∧ Hid (W.heap[w1.heap.size]? = some (.cells (fileCs 73 sq r.now s.lastCum a m cap) 59 (0, 0))) ∧ Hid (Below w1.heap.size w1 W))
      case first =>
        as_aux_lemma =>
          refine wp_region_mixT (w1.heap.size) [4, 10, 15] (by kernel_rfl) ?_
          refine mixT_slots [0, 1, 2, 3, 6, 7, 8, 9, 11, 12, 13, 14, 16] (fuel := 7) rfl (by kernel_rfl) (by kernel_rfl) (fun d _ _ _ _ h => by cases d <;> exact h) ?_
          simp only [opersAt, List.getElem?_toArray, List.getElem?_cons_zero, List.getElem?_cons_succ]
          repeat (go_big_quiet_step (fail))
          refine wpQuiet_nil ?_
          refine mixT_reads [4, 10, 15] (fuel := 4) rfl (by kernel_rfl) (by decide) (by kernel_rfl) (fun d _ _ _ _ h => by cases d <;> exact h) (ext_drew _ _) ?_
          simp only [opersAt, List.getElem?_toArray, List.getElem?_cons_zero, List.getElem?_cons_succ]
          repeat (go_big_quiet_step (fail))
          refine wpQuiet_nil ?_
          refine mixT_slots [5, 17] (fuel := 2) rfl (by kernel_rfl) (by kernel_rfl) (fun d _ _ _ _ h => by cases d <;> exact h) ?_
          simp only [opersAt, List.getElem?_toArray, List.getElem?_cons_zero, List.getElem?_cons_succ]
          repeat (go_big_quiet_step (fail))
          refine wpQuiet_nil ?_
          refine mixT_one (k := 18) (by kernel_rfl) rfl ?_
          go_wp2
          refine ⟨Or.inr (by intros; exact ⟨⟨_, (Below.refl _ _).drew.alloc (Nat.le_refl _) _⟩, rfl⟩), ?_⟩
          refine mixT_one (k := 19) (by kernel_rfl) rfl ?_
          go_wp2
          refine ⟨Or.inl (by kernel_rfl), ?_⟩
          refine mixT_nil (by kernel_rfl) ?_
          go_wp2
          go_meet
          case rel => exact ⟨rfl, by rw [HSQ.out]; exact heap_setRow_at (w := (w1.alloc _).drew) (heap_alloc_at w1 _), ((Below.refl _ _).alloc (Nat.le_refl _) _).drew.trans (below_setRow' _ _ (Nat.le_refl _))⟩
      case rest =>
        obtain ⟨rfl, HFX, HBX⟩ := hcut
        generalize wc = W2 at *
        have hz2 := HBX.out.size
        have HD2 := hide (HD1.out.below HBX.out)
        have HCA2 : Hid (ChangesAt W2 (w.heap.size ≤ ·) (.slice a m cap) cs) := RArr.below HCA.out HBX.out
        have hF0 : rng W2 w1.heap.size 0 5 = some (fileCs 73 sq r.now s.lastCum a m cap) := rng_whole HFX.out
        have hFl := blk_lt HFX.out
        clear q18 q2 q19 hD1 HCA HD1
        by_cases hfo : FileOk 73 sq r.now s.lastCum cs
        · have HE : Hid (R = (0, { s with transfers := sq }, sq, ((key1B 104 sq, hdrB (hdrOf 73 sq r.now s.lastCum cs)), false) :: incW sq 0 cs)) := HEE.out.trans (by simp only [hfo, if_true])
          have HSG := hide (stage_ok W2 D bd r lv s x iss (w.heap.size ≤ ·) 73 sq r.now s.lastCum a cap cs HD2.out (HM.out ▸ HCA2.out) (by have := HM.out; omega) ⟨by decide, by decide⟩ hsu hr.now hst.lastCum HCK.out hfo)
          rw [← HM.out] at HSG
          have HHO : Hid (hdrOf 73 sq r.now s.lastCum cs).Ok := hdrOf_ok ⟨by decide, by decide⟩ hsu hr.now hst.lastCum (by have := HM.out; omega)
          go_upto_region 11 with (go_at_call 307; refine HSG.out.mono ?_; rintro e w3 ⟨rfl, wv3, B3, z3, hd3, hm3, hs3, hB3⟩)
          have HD3 := hide hd3
          have HM3 := hide hm3
          have HS3 := hide hs3
          have HB3 := hide hB3
          clear hd3 hm3 hs3 hB3 HSG hF0 hFl
          obtain ⟨a', cap', b, off, hv, hl4, hm4, hr4, ha4, hc4⟩ := RArr.lt HCA2.out
          rw [← HM.out] at hv hl4 hr4 ha4
          simp only [Value.slice.injEq, true_and] at hv
          obtain ⟨rfl, rfl⟩ := hv
          have hi := run_indexAt_arr (P := Tryz.prog) (n := m) (cap := cap) Tryz.underlying57 Tryz.size111 (fun h => (ha4 h).1)
          have HBB : Hid (0 < m → w.heap.size ≤ b ∧ b < W2.heap.size) := fun h => (ha4 h).2
          have HC := hide hc4
          clear hl4 hm4 hr4 ha4 hc4 HCA2
          have hzl3 : z3.length ≤ 1 := by have := congrArg List.length HM3.out; simp at this; omega
          go_loopg [55] m (fun gk j wr => ∃ (q : Nat) (wvr : Value) (Br : Nat → Prop) (zr : List ZW), q ≤ m ∧ gk = m - q ∧ j = .int .i64 q ∧ zr.length ≤ 1 + 2 * q ∧ Hid (DrW wr D bd r lv { s with transfers := sq } x wvr sq Br zr) ∧ Hid (zr.map (·.2) = ((key1B 104 sq, hdrB (hdrOf 73 sq r.now s.lastCum cs)), false) :: incW sq 0 (cs.take q)) ∧ Hid (DrStep W2 wr D bd (.slice none 0 0) wvr) ∧ Hid (∀ b, Br b → W2.heap.size ≤ b))
          case atStart => exact ⟨0, wv3, B3, z3, by omega, by omega, rfl, by omega, HD3, HM3, HS3, HB3⟩
          clear HD3 HM3 HS3 HB3 hzl3
          case round =>
            obtain ⟨q, wvr, Br, zr, hq, rfl, rfl, hzl, HDR, HMR, HSR, HBR⟩ := hrel
            have hcs := HSR.out.bel.size
            have hF1 : wr.heap[w1.heap.size]? = some (.cells (fileCs 73 sq r.now s.lastCum a m cap) 59 (0, 0)) := (HSR.out.fr _ (blk_lt HFX.out) (by omega) (by simp [Value.ownBlock])).trans HFX.out
            have f1 : wr.cell? ⟨w1.heap.size, 1, none⟩ = some (.int .u32 sq) := by rw [World.cell?, hF1]; rfl
            have hFl := blk_lt hF1
            clear hF1
            by_cases hlt : q < m
            · have hqs : q < cs.length := by rw [← HM.out]; exact hlt
              have hbb := HBB.out (by omega)
              have c0 := HC.out q hqs
              rw [← rng_of_block (HSR.out.fr b hbb.2 (by omega) (by simp [Value.ownBlock]))] at c0
              have hbw : b < wr.heap.size := by omega
              have hco := HCK.out _ (List.getElem_mem hqs)
              have HTK : Hid (cs.take (q + 1) = cs.take q ++ [cs[q]]) := List.take_succ_eq_append_getElem hqs
              generalize cs[q] = c at *
              have HCO := hide hco
              clear hco
              have hqm : ((q : Int) % 4294967296) = q := by omega
              go_upto_region 14 with fail
              have hb0 : Below wr.heap.size wr ((wr.alloc (.cells (changeCs c) 111)).alloc (.cells #[.int .u32 sq, .int .u32 q] 405)) := ((Below.refl _ _).alloc (Nat.le_refl _) _).alloc (by simp) _
              have hxc : ((wr.alloc (.cells (changeCs c) 111)).alloc (.cells #[.int .u32 sq, .int .u32 q] 405)).heap[wr.heap.size]? = some (.cells (changeCs c) 111 (0, 0)) := (Below.heap_alloc _ _ _ (by simp)).trans (heap_alloc_at _ _)
              have hxp : ((wr.alloc (.cells (changeCs c) 111)).alloc (.cells #[.int .u32 sq, .int .u32 q] 405)).heap[wr.heap.size + 1]? = some (.cells #[.int .u32 sq, .int .u32 q] 405 (0, 0)) := box2 wr _ _ _ _
              generalize (World.alloc (World.alloc wr _) _) = V at *
              have HBV := hide hb0
              have HXC := hide hxc
              have HXP := hide hxp
              have k9 : rng V wr.heap.size 0 14 = some (changeCs c) := rng_whole hxc
              have kl := blk_lt hxc
              have p0 : V.cell? ⟨wr.heap.size + 1, 0, none⟩ = some (.int .u32 sq) := by rw [World.cell?, hxp]; rfl
              have p1 : V.cell? ⟨wr.heap.size + 1, 1, none⟩ = some (.int .u32 q) := by rw [World.cell?, hxp]; rfl
              have pl := blk_lt hxp
              have HDV := hide (HDR.out.below hb0)
              clear hb0 hxc hxp c0 hbw f1 hFl
              go_cut [] (fun W => ∃ wv5 B5 z5, Hid (DrW W D bd r lv { s with transfers := sq } x wv5 sq B5 z5) ∧ Hid (z5.map (·.2) = zr.map (·.2) ++ [((key2B 99 sq q, chgB c), false)]) ∧ z5.length ≤ zr.length + 1 ∧ Hid (DrStep V W D bd wvr wv5) ∧ Hid (∀ b, B5 b → W2.heap.size ≤ b))
              case first =>
                as_aux_lemma =>
                  refine wp_region_mixT (V.heap.size) [2, 4, 6] (by kernel_rfl) ?_
                  refine mixT_slots [0, 1, 3] (fuel := 6) rfl (by kernel_rfl) (by kernel_rfl) (fun d _ _ _ _ h => by cases d <;> exact h) ?_
                  simp only [opersAt, List.getElem?_toArray, List.getElem?_cons_zero, List.getElem?_cons_succ]
                  repeat (go_big_quiet_step (fail))
                  refine wpQuiet_nil ?_
                  refine mixT_reads [2, 4, 6] (fuel := 3) rfl (by kernel_rfl) (by decide) (by kernel_rfl) (fun d _ _ _ _ h => by cases d <;> exact h) (ext_drew _ _) ?_
                  simp only [opersAt, List.getElem?_toArray, List.getElem?_cons_zero, List.getElem?_cons_succ]
                  repeat (go_big_quiet_step (fail))
                  refine wpQuiet_nil ?_
                  refine mixT_one (k := 5) (by kernel_rfl) rfl ?_
                  go_wp2_with (go_at_call 258; refine (key2_calls _ 99 sq q (u8c 99 (by decide)) hsu ⟨by omega, by omega⟩).mono ?_; rintro e w5 ⟨kv, rfl, hk3, hb3⟩)
                  have hbk : Below V.heap.size V w5 := (Below.refl _ _).drew.trans hb3
                  refine ⟨Or.inr (by intros; exact ⟨⟨_, hbk⟩, rfl⟩), ?_⟩
                  obtain ⟨ka, kn, kc, ek⟩ := hk3.form3
                  subst ek
                  refine mixT_one (k := 7) (by kernel_rfl) rfl ?_
                  go_wp2_with (go_at_call 308; refine (chg_calls _ c HCO.out).mono ?_; rintro e w6 ⟨vv, rfl, hv4, hb4⟩)
                  have hz3 := hbk.size
                  have hbv : Below V.heap.size V w6 := hbk.trans (hb4.mono hz3)
                  refine ⟨Or.inr (by intros; exact ⟨⟨_, hbv⟩, rfl⟩), ?_⟩
                  obtain ⟨va, vn, vc, ev⟩ := hv4.form3
                  subst ev
                  have HKB := hide (OwnR.since (V := V) hk3 (Nat.le_refl _) (by simp [key2B, d256_len]) hb4)
                  have HVB := hide (OwnR.since (V := V) hv4 hz3 (by simp [chgB, i64B, d256_len]) (Below.refl _ _))
                  have HBV4 := hide hbv
                  clear hk3 hb3 hv4 hb4 hbk hbv
                  refine mixT_one (k := 8) (by kernel_rfl) rfl ?_
                  go_wp2_with (go_at_call 177; refine (put_fresh V _ D bd r lv { s with transfers := sq } x _ sq Br zr ka kn kc (key2B 99 sq q) va vn vc (chgB c) HDV.out HBV4.out HKB.out HVB.out (by omega)).mono ?_; rintro e w7 ⟨rfl, wv5, hd5, hs5⟩)
                  refine ⟨Or.inl (by kernel_rfl), ?_⟩
                  refine mixT_nil (by kernel_rfl) ?_
                  go_wp2
                  go_meet
                  case rel => exact ⟨wv5, _, _, hd5, by show _ = _; simp, by simp, hs5, fun b hb => hb.elim (HBR.out b) (fun h => by have := h.1; have := HBV.out.size; omega)⟩
              case rest =>
                obtain ⟨wv5, B5, z5, HD5, HM5, hl5, HS5, HB5⟩ := hcut
                have hz5 := HS5.out.bel.size
                have hnC : wvr.ownBlock ≠ some wr.heap.size := fun e => by have := (HDR.out.own.block _ e).2; omega
                have hnP : wvr.ownBlock ≠ some (wr.heap.size + 1) := fun e => by have := (HDR.out.own.block _ e).2; omega
                have hDr := HDR.out.at'.lt
                have hxc : wc.heap[wr.heap.size]? = some (.cells (changeCs c) 111 (0, 0)) := (HS5.out.fr _ kl (by omega) hnC).trans HXC.out
                have hxp : wc.heap[wr.heap.size + 1]? = some (.cells #[.int .u32 sq, .int .u32 q] 405 (0, 0)) := (HS5.out.fr _ pl (by omega) hnP).trans HXP.out
                have HXC5 := hide hxc
                have HXP5 := hide hxp
                have k0 : wc.cell? ⟨wr.heap.size, 0, none⟩ = some (.int .u8 c.action) := by rw [World.cell?, hxc]; rfl
                have k1 : wc.cell? ⟨wr.heap.size, 1, none⟩ = some (.int .u32 c.row.sample) := by rw [World.cell?, hxc]; rfl
                have k2 : wc.cell? ⟨wr.heap.size, 2, none⟩ = some (.int .u32 c.row.analyte) := by rw [World.cell?, hxc]; rfl
                have kl5 := blk_lt hxc
                have pl5 := blk_lt hxp
                clear k9 kl p0 p1 pl hxc hxp
                go_upto_region 16 with (go_at_call 258; refine (key2_calls _ 114 c.row.sample c.row.analyte (u8c 114 (by decide)) HCO.out.row.sample HCO.out.row.analyte).mono ?_; rintro e w8 ⟨kv, rfl, hk8, hb8⟩)
                obtain ⟨ka, kn, kc, ek⟩ := hk8.form3
                subst ek
                have hz8 := hb8.size
                have j0 : w8.cell? ⟨wr.heap.size, 0, none⟩ = some (.int .u8 c.action) := (hb8.cell (p := ⟨wr.heap.size, 0, none⟩) kl5).trans k0
                have jp : rng w8 (wr.heap.size + 1) 0 2 = some #[.int .u32 sq, .int .u32 q] := (rng_of_block (hb8.block _ pl5) _ _).trans (rng_whole HXP5.out)
                have jl : wr.heap.size < w8.heap.size := by omega
                have jm : wr.heap.size + 1 < w8.heap.size := by omega
                have HB8 := hide hb8
                have HK8 := hide hk8
                clear k0 k1 k2 kl5 pl5 hb8 hk8
                have HFR : Hid (∀ W9 wv9 z9 (B9 : Nat → Prop), DrW W9 D bd r lv { s with transfers := sq } x wv9 sq B9 z9 → z9.map (·.2) = z5.map (·.2) ++ [ptrW sq q c] → z9.length ≤ z5.length + 1 → DrStep wc W9 D bd wv5 wv9 → (∀ b, B9 b → W2.heap.size ≤ b) → ∃ (q1 : Nat) (wvr : Value) (Br : Nat → Prop) (zr : List ZW), q1 ≤ m ∧ m - (q + 1) = m - q1 ∧ Value.int .i64 ((q : Int) + 1) = .int .i64 q1 ∧ zr.length ≤ 1 + 2 * q1 ∧ Hid (DrW W9 D bd r lv { s with transfers := sq } x wvr sq Br zr) ∧ Hid (zr.map (·.2) = ((key1B 104 sq, hdrB (hdrOf 73 sq r.now s.lastCum cs)), false) :: incW sq 0 (cs.take q1)) ∧ Hid (DrStep W2 W9 D bd (.slice none 0 0) wvr) ∧ Hid (∀ b, Br b → W2.heap.size ≤ b)) := by
                  intro W9 wv9 z9 B9 g1 g2 g3 g4 g5
                  refine ⟨q + 1, wv9, B9, z9, by omega, rfl, by go_num, by omega, g1, ?_, (HSR.out.trans ((DrStep.of_below HBV.out (by omega)).trans HS5.out)).trans g4, g5⟩
                  show _ = _
                  rw [g2, HM5.out, HMR.out, HTK.out, incW_snoc]
                  have e1 : 0 + (cs.take q).length = q := by simp; omega
                  rw [e1]
                  simp
                cases t0 : (c.action == 87) with
                | true =>
                  have HKB := hide (OwnR.since (V := wc) HK8.out (Nat.le_refl _) (by simp [key2B, d256_len]) (Below.refl _ _))
                  go_wp2_with (go_at_call 279; refine (drop_fresh wc _ D bd r lv { s with transfers := sq } x _ sq B5 z5 ka kn kc (key2B 114 c.row.sample c.row.analyte) HD5.out HB8.out HKB.out (by omega)).mono ?_; rintro e w9 ⟨rfl, wv9, hd9, hs9⟩)
                  go_roundg (m - (q + 1))
                  case measure => omega
                  case rel => exact HFR.out _ _ _ _ hd9 (by simp [ptrW, t0]) (by simp) hs9 (fun b hb => hb.elim (HB5.out b) (fun h => by have := h.1; have := HBV.out.size; omega))
                | false =>
                  go_upto_region 18 with fail
                  go_wp2_with (first | (go_at_call 309; refine (place_calls _ sq q hsu ⟨by omega, by omega⟩).mono ?_; rintro e w9 ⟨vv, rfl, hv9, hb9⟩; obtain ⟨va, vn, vc, ev⟩ := hv9.form3; subst ev; have HKB := hide (OwnR.since (V := wc) HK8.out (Nat.le_refl _) (by simp [key2B, d256_len]) hb9); have HVB := hide (OwnR.since (V := wc) hv9 hz8 (by simp [placeB, d256_len]) (Below.refl _ _)); have HB9 := hide (HB8.out.trans (hb9.mono hz8))) | (go_at_call 177; refine (put_fresh wc _ D bd r lv { s with transfers := sq } x _ sq B5 z5 ka kn kc (key2B 114 c.row.sample c.row.analyte) va vn vc (placeB sq q) HD5.out HB9.out HKB.out HVB.out (by omega)).mono ?_; rintro e w10 ⟨rfl, wv9, hd9, hs9⟩))
                  go_roundg (m - (q + 1))
                  case measure => omega
                  case rel => exact HFR.out _ _ _ _ hd9 (by simp [ptrW, t0]) (by simp) hs9 (fun b hb => hb.elim (HB5.out b) (fun h => by have := h.1; have := HBV.out.size; omega))
            · have hqe : q = m := by omega
              have HF : Hid (cs.take q = cs) := List.take_of_length_le (by have := HM.out; omega)
              go_wp2
              go_ret
              rw [HE.out]
              exact ⟨rfl, wvr, Br, zr, HDR.out, by rw [HMR.out, HF.out], (DrStep.of_below (HB1.out.trans (HBX.out.mono hz1)) (by omega)).trans HSR.out, fun b hb => by have := HBR.out b hb; omega⟩
        · have HE : Hid (R = (28, s, iss, [])) := HEE.out.trans (by simp only [hfo, if_false])
          have HSG := hide (stage_bad W2 D (w.heap.size ≤ ·) 73 sq r.now s.lastCum a cap cs (HM.out ▸ HCA2.out) hfo)
          rw [← HM.out] at HSG
          go_wp2_with (go_at_call 307; refine HSG.out.mono ?_; rintro e w3 ⟨rfl, hb3⟩)
          go_ret
          exact IPost.refuse HE rfl HH.out (HB1.out.trans ((HBX.out.mono hz1).trans (hb3.mono (by omega))))

end Go.Proofs.Qxb6500666aGreatDoor
