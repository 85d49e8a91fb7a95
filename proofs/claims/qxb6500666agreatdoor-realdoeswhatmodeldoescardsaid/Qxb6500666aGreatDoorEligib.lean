/- eligibility, walked. -/
import Derived.Test.Qxb6500666aGreatDoorElig
namespace Go.Proofs.Qxb6500666aGreatDoor
open Go.RowKit

def res0 : Res := ⟨0, 0, 0, 0, 0, false⟩
theorem resGetV_get (o : Option Res) : resGetV o = .tuple #[.agg (resCs (o.getD res0)), .bool o.isSome] := by cases o <;> rfl
theorem resGet_mem {T : Sm} {s a : Int} {r : Res} (h : resGet T s a = some r) : r ∈ T.rs := by
  unfold resGet at h
  split at h
  · cases h
  · exact List.mem_of_getElem? h
def eligibR (L : Low) (s a : Int) : Int × Int := match resGet L.sm s a with
  | none => (0, 21)
  | some r => match smpGet L.sm s with
    | none => (0, 28)
    | some x => (holdsOf L x r, 0)

attribute [local go_sem] ext_const Ext.cell Ext.frozen Ext.rng Ext.whole
attribute [local go_sem ↓] exec_ldPrS exec_ldKtS exec_ldSmS exec_ldRow exec_stRow exec_ldRes exec_stRes exec_ldSmp exec_stSmp
attribute [local go_sem] run_ldPrS run_ldKtS run_ldSmS run_ldRow run_stRow run_ldRes run_stRes run_ldSmp run_stSmp rowCs_size rowCs_ones rowCs_all smpCs_size smpCs_ones resCs_size resCs_ones whole_alloc_lt whole_alloc_at whole_drew setRow_alloc_at setRow_alloc_lt rng_alloc_lt rng_alloc_at rng_drew rng_drewN

set_option maxRecDepth 100000 in
set_option maxHeartbeats 4000000 in
theorem eligibility_calls (w : World) (LB o : Nat) (ok : Nat → Prop) (x : LV) (L : Low) (s a : Int) (hL : LBlk w LB o x) (hlow : LowAt w ok x L) (ht : L.Times) :
    Calls Tryz.prog 172 #[.pointer (some ⟨LB, o, none⟩), .int .u32 s, .int .u32 a] w fun e w' => e = .returned (.tuple #[.int .u16 (eligibR L s a).1, errV (eligibR L s a).2]) ∧ Below w.heap.size w w' := by
  obtain ⟨R, hR⟩ : ∃ R, R = eligibR L s a := ⟨_, rfl⟩
  rw [← hR]
  have HR := hide hR
  have HLB := hide hL
  have HLOW := hide hlow
  have hLl := hL.lt
  obtain ⟨p0, p1, p2, p3, k, s1, s2, s3⟩ := x
  obtain ⟨g0, g4, g5, hLw⟩ := hL
  simp only at g0 g4 g5
  obtain ⟨rd, B1⟩ : ∃ v, v = (resGet L.sm s a).getD res0 := ⟨_, rfl⟩
  obtain ⟨fd, B2⟩ : ∃ v, v = (resGet L.sm s a).isSome := ⟨_, rfl⟩
  obtain ⟨sd, B3⟩ : ∃ v, v = (smpGet L.sm s).getD smp0 := ⟨_, rfl⟩
  obtain ⟨fe, B4⟩ : ∃ v, v = (smpGet L.sm s).isSome := ⟨_, rfl⟩
  have HB1 := hide B1
  have HB2 := hide B2
  have HB3 := hide B3
  have HB4 := hide B4
  clear B1 B2 B3 B4 hR hlow
  go_enter Tryz.func172, Tryz.ntmps172
  go_upto_region 2 with (go_at_call 182; refine (resGet_calls _ ok _ _ _ L.sm s a HLOW.out.sm).mono ?_; rintro e w1 ⟨rfl, hb1⟩; rw [resGetV_get, ← HB1.out, ← HB2.out])
  have hs1 := hb1.size
  have HW1 : Hid (Below w.heap.size w (w1.alloc (.cells (resCs rd) 92))) := hb1.alloc hs1 _
  have r1 : rng (w1.alloc (.cells (resCs rd) 92)) w1.heap.size 0 6 = some (resCs rd) := rng_whole (heap_alloc_at _ _)
  have rl : w1.heap.size < (w1.alloc (.cells (resCs rd) 92)).heap.size := by simp
  clear g0 g4 g5 hb1
  generalize (World.alloc w1 _) = W1 at *
  obtain ⟨g0, g4, g5, hLw1⟩ := HLB.out.below HW1.out hLl
  simp only at g0 g4 g5
  have hsz := HW1.out.size
  cases hfd : fd with
  | false =>
    have HE : Hid (R = (0, 21)) := HR.out.trans (by
      have := HB2.out
      rw [hfd] at this
      unfold eligibR
      cases hg : resGet L.sm s a with
      | none => rfl
      | some s => rw [hg] at this; cases this)
    go_wp2
    go_ret2
    rw [HE.out]
    exact ⟨rfl, HW1.out⟩
  | true =>
    have HG : Hid (resGet L.sm s a = some rd) := by
      have h2 := HB2.out
      have h3 := HB1.out
      rw [hfd] at h2
      cases hg : resGet L.sm s a with
      | none => rw [hg] at h2; cases h2
      | some s => rw [hg] at h3; exact congrArg some h3.symm
    subst hfd
    go_upto_region 5 with (go_at_call 28; refine (smpGet_calls _ ok _ _ _ L.sm s (HLOW.out.below HW1.out).sm).mono ?_; rintro e w2 ⟨rfl, hb2⟩; rw [smpGetV_get, ← HB3.out, ← HB4.out])
    have hs2 := hb2.size
    have HW2 : Hid (Below w.heap.size w (w2.alloc (.cells (smpCs sd) 94))) := HW1.out.trans ((hb2.mono hsz).alloc (by omega) _)
    have r2 : rng (w2.alloc (.cells (smpCs sd) 94)) w1.heap.size 0 6 = some (resCs rd) := (rng_of_block ((Below.heap_alloc _ _ _ (by omega)).trans (hb2.block _ rl)) _ _).trans r1
    have q2 : rng (w2.alloc (.cells (smpCs sd) 94)) w2.heap.size 0 8 = some (smpCs sd) := rng_whole (heap_alloc_at _ _)
    have rl2 : w1.heap.size < (w2.alloc (.cells (smpCs sd) 94)).heap.size := by simp; omega
    have ql2 : w2.heap.size < (w2.alloc (.cells (smpCs sd) 94)).heap.size := by simp
    clear g0 g4 g5 hLw1 r1 rl hb2
    generalize (World.alloc w2 _) = W2 at *
    cases hfe : fe with
    | false =>
      have HE : Hid (R = (0, 28)) := HR.out.trans (by
        have := HB4.out
        rw [hfe] at this
        unfold eligibR
        rw [HG.out]
        cases hg : smpGet L.sm s with
        | none => rfl
        | some s => rw [hg] at this; cases this)
      go_wp2
      go_ret2
      rw [HE.out]
      exact ⟨rfl, HW2.out⟩
    | true =>
      have HF : Hid (smpGet L.sm s = some sd) := by
        have h2 := HB4.out
        have h3 := HB3.out
        rw [hfe] at h2
        cases hg : smpGet L.sm s with
        | none => rw [hg] at h2; cases h2
        | some s => rw [hg] at h3; exact congrArg some h3.symm
      have HE : Hid (R = (holdsOf L sd rd, 0)) := HR.out.trans (by
        unfold eligibR
        rw [HG.out]
        simp only
        rw [HF.out])
      subst hfe
      have hts := ht.s _ (smpGet_mem HF.out)
      have htr := ht.r _ (resGet_mem HG.out)
      have HAS : Hid (∀ W : World, LBlk W LB o ⟨p0, p1, p2, p3, k, s1, s2, s3⟩ → LowAt W ok ⟨p0, p1, p2, p3, k, s1, s2, s3⟩ L → Calls Tryz.prog 221 #[.pointer (some ⟨LB, o, none⟩), .agg (smpCs sd), .agg (resCs rd)] W fun e w' => e = .returned (.tuple #[.agg (rowCs (rowOf L sd rd)), .int .u16 (holdsOf L sd rd)]) ∧ Below W.heap.size W w') := fun W h1 h2 => assess_calls W LB o ok _ L sd rd h1 h2 hts.1 hts.2 htr ht.v
      obtain ⟨hv, hhv⟩ : ∃ h, h = holdsOf L sd rd := ⟨_, rfl⟩
      obtain ⟨rw, hrw⟩ : ∃ h, h = rowOf L sd rd := ⟨_, rfl⟩
      rw [← hhv, ← hrw] at HAS
      rw [← hhv] at HE
      clear hhv hrw hts htr
      go_wp2_with (go_at_call 221; refine (HAS.out _ (HLB.out.below HW2.out hLl) (HLOW.out.below HW2.out)).mono ?_; rintro e w3 ⟨rfl, hb3⟩)
      go_ret2
      rw [HE.out]
      have hs3 := HW2.out.size
      have hs4 := hb3.size
      exact ⟨rfl, HW2.out.trans ((hb3.mono hs3).alloc (by omega) _)⟩

end Go.Proofs.Qxb6500666aGreatDoor
