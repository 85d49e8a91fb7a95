/- sameVersion of two versions that read alike, walked. -/
import Derived.Test.Qxb6500665aDoorSameIds
import Derived.Deep.DeepCutAuto
import Derived.Deep.CutBlock
namespace Go.Proofs.Qxb6500665aDoor
open Go.RowKit Go.Proofs.Qxb6500665aDoor.Cal

theorem run_stVisit (w : World) (b : Nat) (cs : Array Value) : (stS 63 (.pointer (some ⟨b, 0, none⟩)) (.agg cs)).run Tryd.prog w = if whole w b 5 = true ∧ ones cs 5 = true then .ok () (w.setRow b cs) else (Instr.storeAt 63 (.pointer (some ⟨b, 0, none⟩)) (.agg cs)).run Tryd.prog w := run_stS Tryd.size63 w b cs
theorem ones_visit (k1 k2 k3 k4 : IntKind) (x y z u : Int) (a : Option Addr) (n c : Nat) : ones #[.int k1 x, .int k2 y, .int k3 z, .int k4 u, .slice a n c] 5 = true := rfl

section
variable {P : Program} {ops : Array Oper} {Q : Exit → Act → World → Prop} {md : Region.Mode} {S : World → Prop} {R : List Nat}
theorem mixT_two {listed : Array Bool} {a : Act} {w : World} {fuel k k' : Nat} {o o' : Oper} (hr : Region.ready md ops listed = [k, k']) (ho : ops.toList[k]? = some o) (ho' : ops.toList[k']? = some o')
    (h : wpList P ops (Exit.then (fun a' w' => (fullT md ops R k = true ∨ (S w → S w')) ∧ wpMixT P md ops Q S R fuel (listed.setIfInBounds k true) a' w') Q) [o] a w)
    (h' : wpList P ops (Exit.then (fun a' w' => (fullT md ops R k' = true ∨ (S w → S w')) ∧ wpMixT P md ops Q S R fuel (listed.setIfInBounds k' true) a' w') Q) [o'] a w) : wpMixT P md ops Q S R (fuel + 1) listed a w :=
  ⟨fun e => absurd (hr ▸ e) (by simp), fun i hi => by
    rw [hr] at hi
    have : i = k ∨ i = k' := by simpa using hi
    rcases this with rfl | rfl
    · exact wpOp_list (by simpa using ho) h
    · exact wpOp_list (by simpa using ho') h'⟩
end

theorem heap2_fst (w : World) (c d : Array Value) (t u : TypeId) : ((w.alloc (.cells c t)).alloc (.cells d u)).drew.heap[w.heap.size]? = some (.cells c t (0, 0)) := (Below.heap_alloc (w.alloc (.cells c t)) (.cells d u) w.heap.size (by simp)).trans (heap_alloc_at _ _)
theorem heap2_snd (w : World) (c d : Array Value) (t u : TypeId) : ((w.alloc (.cells c t)).alloc (.cells d u)).drew.heap[w.heap.size + 1]? = some (.cells d u (0, 0)) := by
  have h := heap_alloc_at (w.alloc (.cells c t)) (.cells d u)
  have e : (w.alloc (.cells c t)).heap.size = w.heap.size + 1 := by simp
  rw [e] at h
  exact h

/-- The visits, each with its panels. -/
theorem vis_full {w : World} {ok : Nat → Prop} {a : Option Addr} {n c : Nat} {vs : List Visit} (h : VisitsAt w ok (.slice a n c) vs) :
    n = vs.length ∧ n ≤ 140737488355328 ∧ ∃ b off, (0 < n → a = some ⟨b, off, none⟩ ∧ b < w.heap.size) ∧ ∀ i (hi : i < vs.length), ∃ pa pn pc, rng w b (off + i * 5) 5 = some #[.int .u32 vs[i].id, .int .i64 vs[i].target, .int .i64 vs[i].early, .int .i64 vs[i].late, .slice pa pn pc] ∧ U32sAt w ok (.slice pa pn pc) vs[i].panels := by
  obtain ⟨zs, hr, hz, hp⟩ := h
  obtain ⟨a', cap, b, off, hv, hl, hm, hr', ha, hc⟩ := hr.lt
  cases hv
  subst hz
  refine ⟨by simp, hr', b, off, fun h => ⟨(ha h).1, (ha h).2.2⟩, fun i hi => ?_⟩
  have hi' : i < zs.length := by simpa using hi
  refine ⟨zs[i].2.1, zs[i].2.2.1, zs[i].2.2.2, ?_, ?_⟩
  · rw [hc i hi']
    simp [vzCs, sv]
  · have := hp zs[i] (List.getElem_mem hi')
    simpa [sv] using this

attribute [local go_sem] ext_const Ext.cell Ext.frozen Ext.rng Ext.whole
attribute [local go_sem ↓] exec_ldVisit exec_stVisit
attribute [local go_sem] run_ldVisit run_stVisit ones_visit whole_alloc_lt whole_alloc_at whole_drew whole_setCell_other whole_setRow_other setRow_alloc_at setRow_alloc_lt setRow_drew rng_alloc_lt rng_drew rng_drewN

set_option maxRecDepth 100000 in
set_option maxHeartbeats 4000000 in
theorem sameVersion_calls (w : World) (ok ok' : Nat → Prop) (num eff : Int) (xa ya : Option Addr) (n xc yc : Nat) (vs : List Visit) (hx : VisitsAt w ok (.slice xa n xc) vs) (hy : VisitsAt w ok' (.slice ya n yc) vs) :
    Calls Tryd.prog 15 #[.agg #[.int .u32 num, .int .i64 eff, .slice xa n xc], .agg #[.int .u32 num, .int .i64 eff, .slice ya n yc]] w fun e w' => e = .returned (.bool true) ∧ Below w.heap.size w w' := by
  obtain ⟨hn, hnl, b, off, ha, hc⟩ := vis_full hx
  obtain ⟨-, -, b', off', ha', hc'⟩ := vis_full hy
  have HN := hide hn
  have hi := run_indexAt_arr (P := Tryd.prog) (n := n) (cap := xc) Tryd.underlying32 Tryd.size63 (fun h => (ha h).1)
  have hi' := run_indexAt_arr (P := Tryd.prog) (n := n) (cap := yc) Tryd.underlying32 Tryd.size63 (fun h => (ha' h).1)
  have HB : Hid (0 < n → b < w.heap.size ∧ b' < w.heap.size) := fun h => ⟨(ha h).2, (ha' h).2⟩
  have HC := hide hc
  have HC' := hide hc'
  clear ha ha' hc hc' hn hx hy
  go_enter Tryd.func15, Tryd.ntmps15
  go_wp2
  obtain ⟨w2, hw2⟩ : ∃ w2, w2 = (w.alloc (.cells #[.int .u32 num, .int .i64 eff, .slice xa n xc] 41)).alloc (.cells #[.int .u32 num, .int .i64 eff, .slice ya n yc] 41) := ⟨_, rfl⟩
  rw [← hw2]
  have hbw : Below w.heap.size w w2 := by rw [hw2]; exact ((Below.refl _ _).alloc (Nat.le_refl _) _).alloc (by simp) _
  have v2 : w2.cell? ⟨w.heap.size, 2, none⟩ = some (.slice xa n xc) := by rw [hw2]; simp
  have v3 : w2.cell? ⟨w.heap.size + 1, 2, none⟩ = some (.slice ya n yc) := by rw [hw2]; simp
  have hs2 : w.heap.size + 1 < w2.heap.size := by rw [hw2]; simp
  have HV := hide (And.intro v2 v3)
  clear v2 v3 hw2
  go_loopg [32] n (fun g j wr => ∃ k : Nat, k ≤ n ∧ g = n - k ∧ j = .int .i64 k ∧ Below w2.heap.size w2 wr)
  case atStart => exact ⟨0, by omega, by omega, rfl, Below.refl _ _⟩
  case round =>
    obtain ⟨k, hk, rfl, rfl, hbk⟩ := hrel
    by_cases hlt : k < n
    · have hkv : k < vs.length := by rw [← HN.out]; exact hlt
      obtain ⟨hbb, hbb'⟩ := HB.out (by omega)
      obtain ⟨pa, pn, pc, hrg, hp⟩ := HC.out k hkv
      obtain ⟨pa', pn', pc', hrg', hp'⟩ := HC'.out k hkv
      have hb2 : Below w.heap.size w wr := hbw.trans (hbk.mono hbw.size)
      rw [← rng_of_block (hb2.block b hbb)] at hrg
      rw [← rng_of_block (hb2.block b' hbb')] at hrg'
      have v2 : wr.cell? ⟨w.heap.size, 2, none⟩ = some (.slice xa n xc) := (hbk.cell (p := ⟨w.heap.size, 2, none⟩) (by show w.heap.size < _; omega)).trans HV.out.1
      have v3 : wr.cell? ⟨w.heap.size + 1, 2, none⟩ = some (.slice ya n yc) := (hbk.cell (p := ⟨w.heap.size + 1, 2, none⟩) (by show w.heap.size + 1 < _; omega)).trans HV.out.2
      have hsz := hbk.size
      have h2r : w.heap.size + 1 < wr.heap.size := by omega
      have h2a : w.heap.size < wr.heap.size := by omega
      have hbr : b < wr.heap.size := by omega
      have hbr' : b' < wr.heap.size := by omega
      have HP : Hid (∀ W, Below wr.heap.size wr W → Calls Tryd.prog 14 #[.slice pa pn pc, .slice pa' pn' pc'] W fun e w' => e = .returned (.bool true) ∧ ∃ d, w' = W.drewN d) := fun W hW => by
        have hbW : Below w.heap.size w W := hb2.trans (hW.mono hb2.size)
        have h9 := sameIDs_calls W _ _ _ _ _ _ (RArr.below hp hbW) (RArr.below hp' hbW)
        simpa using h9
      have HB2 := hide (And.intro hb2 hbk)
      generalize vs[k] = y at *
      obtain ⟨yi, yt, ye, yl, yp⟩ := y
      simp only at hrg hrg'
      clear hp hp' hb2 hbk hsz
      go_upto_region 6 with fail
      go_cut [6, 7] (fun x y W => ∃ gx gy, x = .pointer (some ⟨gx, 0, none⟩) ∧ y = .pointer (some ⟨gy, 0, none⟩) ∧ W.heap[gx]? = some (.cells #[.int .u32 yi, .int .i64 yt, .int .i64 ye, .int .i64 yl, .slice pa pn pc] 63 (0, 0)) ∧ W.heap[gy]? = some (.cells #[.int .u32 yi, .int .i64 yt, .int .i64 ye, .int .i64 yl, .slice pa' pn' pc'] 63 (0, 0)) ∧ Below wr.heap.size wr W)
      case first =>
        refine wp_region_mixT wr.heap.size [1, 4, 6, 9] (by kernel_rfl) ?_
        refine mixT_slots [0, 2, 5, 7] (fuel := 10) rfl (by kernel_rfl) (by kernel_rfl) (fun d _ _ _ _ h => by cases d <;> exact h) ?_
        simp only [opersAt, List.getElem?_toArray, List.getElem?_cons_zero, List.getElem?_cons_succ]
        repeat (go_big_quiet_step (fail))
        refine wpQuiet_nil ?_
        refine mixT_reads [1, 6] (fuel := 8) rfl (by kernel_rfl) (by decide) (by kernel_rfl) (fun d _ _ _ _ h => by cases d <;> exact h) (ext_drew _ _) ?_
        simp only [opersAt, List.getElem?_toArray, List.getElem?_cons_zero, List.getElem?_cons_succ]
        repeat (go_big_quiet_step (fail))
        refine wpQuiet_nil ?_
        refine mixT_slots [3, 8] (fuel := 6) rfl (by kernel_rfl) (by kernel_rfl) (fun d _ _ _ _ h => by cases d <;> exact h) ?_
        simp only [opersAt, List.getElem?_toArray, List.getElem?_cons_zero, List.getElem?_cons_succ]
        repeat (go_big_quiet_step (fail))
        refine wpQuiet_nil ?_
        refine mixT_reads [4, 9] (fuel := 4) rfl (by kernel_rfl) (by decide) (by kernel_rfl) (fun d _ _ _ _ h => by cases d <;> exact h) (ext_drew _ _) ?_
        simp only [opersAt, List.getElem?_toArray, List.getElem?_cons_zero, List.getElem?_cons_succ]
        repeat (go_big_quiet_step (fail))
        refine wpQuiet_nil ?_
        refine mixT_two (k := 10) (k' := 11) (by kernel_rfl) rfl rfl ?_ ?_
        · go_wp2
          refine ⟨Or.inr (fun _ => ⟨⟨_, ((Below.refl _ _).drew).alloc (Nat.le_refl _) _⟩, rfl⟩), ?_⟩
          refine mixT_one (k := 11) (by kernel_rfl) rfl ?_
          go_wp2
          refine ⟨Or.inr (fun _ => ⟨⟨_, (((Below.refl _ _).drew).alloc (Nat.le_refl _) _).alloc (by simp) _⟩, rfl⟩), ?_⟩
          refine mixT_one (k := 12) (by kernel_rfl) rfl ?_
          go_wp2
          refine ⟨Or.inr (fun _ => ⟨⟨_, (((Below.refl _ _).drew).alloc (Nat.le_refl _) _).alloc (by simp) _⟩, rfl⟩), ?_⟩
          refine mixT_one (k := 13) (by kernel_rfl) rfl ?_
          go_wp2
          refine ⟨Or.inr (fun _ => ⟨⟨_, (((Below.refl _ _).drew).alloc (Nat.le_refl _) _).alloc (by simp) _⟩, rfl⟩), ?_⟩
          refine mixT_nil (by kernel_rfl) ?_
          go_wp2
          go_meet
          case rel => exact ⟨_, _, rfl, rfl, heap2_fst _ _ _ _ _, heap2_snd _ _ _ _ _, (((Below.refl _ _).drew).alloc (Nat.le_refl _) _).alloc (by simp) _⟩
        · go_wp2
          refine ⟨Or.inr (fun _ => ⟨⟨_, ((Below.refl _ _).drew).alloc (Nat.le_refl _) _⟩, rfl⟩), ?_⟩
          refine mixT_one (k := 10) (by kernel_rfl) rfl ?_
          go_wp2
          refine ⟨Or.inr (fun _ => ⟨⟨_, (((Below.refl _ _).drew).alloc (Nat.le_refl _) _).alloc (by simp) _⟩, rfl⟩), ?_⟩
          refine mixT_one (k := 12) (by kernel_rfl) rfl ?_
          go_wp2
          refine ⟨Or.inr (fun _ => ⟨⟨_, (((Below.refl _ _).drew).alloc (Nat.le_refl _) _).alloc (by simp) _⟩, rfl⟩), ?_⟩
          refine mixT_one (k := 13) (by kernel_rfl) rfl ?_
          go_wp2
          refine ⟨Or.inr (fun _ => ⟨⟨_, (((Below.refl _ _).drew).alloc (Nat.le_refl _) _).alloc (by simp) _⟩, rfl⟩), ?_⟩
          refine mixT_nil (by kernel_rfl) ?_
          go_wp2
          go_meet
          case rel => exact ⟨_, _, rfl, rfl, heap2_snd _ _ _ _ _, heap2_fst _ _ _ _ _, (((Below.refl _ _).drew).alloc (Nat.le_refl _) _).alloc (by simp) _⟩
      case rest =>
        obtain ⟨gx, gy, rfl, rfl, hgx, hgy, hbc⟩ := hcut
        have x0 : wc.cell? ⟨gx, 0, none⟩ = some (.int .u32 yi) := by rw [World.cell?, hgx]; rfl
        have x1 : wc.cell? ⟨gx, 1, none⟩ = some (.int .i64 yt) := by rw [World.cell?, hgx]; rfl
        have x2 : wc.cell? ⟨gx, 2, none⟩ = some (.int .i64 ye) := by rw [World.cell?, hgx]; rfl
        have x3 : wc.cell? ⟨gx, 3, none⟩ = some (.int .i64 yl) := by rw [World.cell?, hgx]; rfl
        have x4 : wc.cell? ⟨gx, 4, none⟩ = some (.slice pa pn pc) := by rw [World.cell?, hgx]; rfl
        have y0 : wc.cell? ⟨gy, 0, none⟩ = some (.int .u32 yi) := by rw [World.cell?, hgy]; rfl
        have y1 : wc.cell? ⟨gy, 1, none⟩ = some (.int .i64 yt) := by rw [World.cell?, hgy]; rfl
        have y2 : wc.cell? ⟨gy, 2, none⟩ = some (.int .i64 ye) := by rw [World.cell?, hgy]; rfl
        have y3 : wc.cell? ⟨gy, 3, none⟩ = some (.int .i64 yl) := by rw [World.cell?, hgy]; rfl
        have y4 : wc.cell? ⟨gy, 4, none⟩ = some (.slice pa' pn' pc') := by rw [World.cell?, hgy]; rfl
        have HPC := hide (HP.out wc hbc)
        have HBC := hide hbc
        clear hgx hgy hrg hrg' v2 v3 hbc
        go_wp2_with (go_at_call 14; refine HPC.out.mono ?_; rintro e w' ⟨rfl, dd, rfl⟩)
        go_roundg (n - (k + 1))
        case measure => omega
        case rel => exact ⟨k + 1, by omega, rfl, by go_num, below_drewN (HB2.out.2.trans (HBC.out.mono HB2.out.2.size)) _⟩
    · go_wp2
      go_ret
      exact ⟨rfl, hbw.trans (hbk.mono hbw.size)⟩

end Go.Proofs.Qxb6500665aDoor
