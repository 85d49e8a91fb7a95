/- Trail, walked. -/
import Derived.Test.Qxb6500666aGreatDoorEntry
import Derived.Test.Qxb6500666aGreatDoorRowsB
namespace Go.Proofs.Qxb6500666aGreatDoor
open Go.RowKit

noncomputable def trGo (ps : List KV) : Nat → Nat → List Ent → Option (List Ent)
  | 0, _, acc => some acc
  | k + 1, n, acc => match entR ps n with
    | .error _ => none
    | .ok x => trGo ps k (n + 1) (acc ++ [x])
noncomputable def trailR (ps : List KV) : Option (List Ent) := match statR ps with
  | .error _ => none
  | .ok s => trGo ps s.entries.toNat 1 []
theorem entR_some {ps : List KV} {s : Int} {x : Ent} (h : entR ps s = .ok x) : ∃ v, getB ps (key1B 97 s) = some v := by
  unfold entR at h
  split at h
  · cases h
  · rename_i v hv
    exact ⟨v, hv⟩
theorem statR_err {ps : List KV} {c : Int} (h : statR ps = .error c) : c = 28 := by
  unfold statR at h
  split at h
  · cases h
  · unfold ofOpt at h
    split at h
    · injection h with h; exact h.symm
    · cases h

abbrev ZE := Ent × SV
def zeCs (z : ZE) : Array Value := entA z.1 (sv z.2)
theorem zeCs_size (z : ZE) : (zeCs z).size = 20 := rfl
theorem zeCs_one (z : ZE) : ∀ u ∈ (zeCs z).toList, u.oneCell' = true := by simp [zeCs, entA, sv, Value.oneCell']
def ZipE (w : World) (ok : Nat → Prop) (zs : List ZE) : Prop := ∀ z ∈ zs, U32sAt w ok (sv z.2) z.1.req.list
theorem ZipE.below {w w' : World} {ok : Nat → Prop} {zs : List ZE} (h : ZipE w ok zs) (hb : Below w.heap.size w w') : ZipE w' ok zs := fun z hz => RArr.below (h z hz) hb
/-- A trail in memory. -/
def TrailPost (w w' : World) (e : Ending) : Option (List Ent) → Prop
  | none => e = .returned (.tuple #[.slice none 0 0, .iface 63 (.int .u8 28)]) ∧ Below w.heap.size w w'
  | some l => ∃ v zs, e = .returned (.tuple #[v, .nilIface]) ∧ OwnR w' w.heap.size 67 20 zeCs v zs ∧ ZipE w' (w.heap.size ≤ ·) zs ∧ zs.map (·.1) = l ∧ Below w.heap.size w w'
theorem trail_none {w w' : World} {R : Option (List Ent)} (HE : Hid (R = none)) (hb : Below w.heap.size w w') : TrailPost w w' (.returned (.tuple #[.slice none 0 0, .iface 63 (.int .u8 28)])) R := by
  rw [HE.out]; exact ⟨rfl, hb⟩

theorem Tryz.info67_z : (Tryz.prog.info? 67).map (fun i => (i.zero, i.size, i.bytes)) = some (some (.agg (entA zeroEnt (.slice none 0 0))), 20, 128) := by kernel_rfl
section
variable (ρ : Operand → Value) (dst : Option Tmp) (x : Operand) (ty : TypeId) (pos : String) (after : Array Edge) (guard : Option (Nat × Bool))
theorem exec_bsEnt : execOp ρ { dst, op := .buildSlice 42 1 #[(0, x)], type := ty, pos, after, guard } = (do pure (.value (← bsS 42 (ρ x)))) := by simp [execOp, bsS]
end
theorem run_bsEnt (w : World) (x : Ent) (a : Option Addr) (n c : Nat) : (bsS 42 (.agg (entA x (.slice a n c)))).run Tryz.prog w = .ok (.slice (some ⟨w.heap.size, 0, none⟩) 1 1) (w.alloc (.cells (entA x (.slice a n c)) 67)) := by kernel_rfl

theorem decStat_ok {bs : List Int} {s : Stat} (hb : ByteL bs) (hd : decStat bs = some s) : s.Ok := by
  unfold decStat at hd
  simp only at hd
  split at hd
  · cases hd
  · split at hd
    · cases hd
    · split at hd
      · cases hd
      · injection hd with hd
        subst hd
        have b1 : ByteL (⟨bs, false⟩ : Rd).rest := hb
        have b2 := rdDig_bytes (c := 4) b1
        have b3 := rdDig_bytes (c := 4) b2
        have b4 := rdDig_bytes (c := 4) b3
        exact ⟨dig4_u32 b1, dig4_u32 b2, dig4_u32 b3, rdI64_i64 b4⟩
theorem statR_ok {ps : List KV} {s : Stat} (hps : PsOk ps) (h : statR ps = .ok s) : s.Ok := by
  unfold statR at h
  split at h
  · injection h with h
    subst h
    exact ⟨⟨by decide, by decide⟩, ⟨by decide, by decide⟩, ⟨by decide, by decide⟩, ⟨by decide, by decide⟩⟩
  · rename_i v hv
    unfold ofOpt at h
    split at h
    · cases h
    · rename_i y hy
      injection h with h
      subst h
      exact decStat_ok (getB_ok hps hv) hy

attribute [local go_sem] ext_const Ext.cell Ext.frozen Ext.rng Ext.whole
attribute [local go_sem ↓] exec_ldEnt exec_stEnt exec_bsEnt exec_ldStat exec_stStat
attribute [local go_sem] run_ldEnt run_stEnt run_bsEnt run_ldStat run_stStat entA_size entA_ones whole_alloc_lt whole_alloc_at whole_drew setRow_alloc_at setRow_alloc_lt rng_alloc_lt rng_alloc_at rng_drew rng_drewN rng_setRow_other whole_setRow_other

set_option maxRecDepth 100000 in
set_option maxHeartbeats 4000000 in
theorem trail_calls (w : World) (Y S LB : Nat) (A : Nat → Prop) (ps : List KV) (full : Bool) (hY : SysAt w Y S LB) (hS : StoreAt w S A ps full) (hps : PsOk ps) (hpl : ps.length ≤ 4000000) :
    Calls Tryz.prog 37 #[.pointer (some ⟨Y, 0, none⟩)] w fun e w' => TrailPost w w' e (trailR ps) := by
  obtain ⟨R, hR⟩ : ∃ R, R = trailR ps := ⟨_, rfl⟩
  rw [← hR]
  have HR := hide hR
  have HY := hide hY
  have HS := hide hS
  have hYl := blk_lt hY
  have HST := hide (statR_calls w Y S LB A ps full hY hS hps)
  clear hR hY hS
  have hov : ∀ x, ones (statCs x) 4 = true := fun _ => rfl
  go_enter Tryz.func37, Tryz.ntmps37
  cases hs : statR ps with
  | error c =>
    have hcc := statR_err hs
    subst hcc
    have HE : Hid (R = none) := HR.out.trans (by simp [trailR, hs])
    go_wp2_with (go_at_call 116; refine HST.out.mono ?_; rintro e w1 ⟨hd1, hb1⟩; rw [hs] at hd1; have hd2 : e = .returned (.tuple #[.agg (statCs ⟨0, 0, 0, 0⟩), .iface 63 (.int .u8 28)]) := hd1; subst hd2)
    go_ret2
    exact trail_none HE (hb1.alloc hb1.size _)
  | ok s =>
    have hso := statR_ok hps hs
    have HG : Hid (R = trGo ps s.entries.toNat 1 []) := HR.out.trans (by simp [trailR, hs])
    go_upto_region 6 with (go_at_call 116; refine HST.out.mono ?_; rintro e w1 ⟨hd1, hb1⟩; rw [hs] at hd1; have hd2 : e = .returned (.tuple #[.agg (statCs s), .nilIface]) := hd1; subst hd2)
    have hz1 := hb1.size
    have hb2 : Below w.heap.size w (w1.alloc (.cells (statCs s) 65)) := hb1.alloc hz1 _
    have hx2 : (w1.alloc (.cells (statCs s) 65)).heap[w1.heap.size]? = some (.cells (statCs s) 65 (0, 0)) := heap_alloc_at _ _
    clear hd1 hb1
    generalize (World.alloc w1 _) = V at *
    obtain ⟨K, hK⟩ : ∃ K, K = w1.heap.size := ⟨_, rfl⟩
    rw [← hK] at hx2 hz1 ⊢
    clear hK
    obtain ⟨E, hE⟩ : ∃ E : Nat, s.entries = E := ⟨s.entries.toNat, by have := hso.entries.1; omega⟩
    have hEl : E < 4294967296 := by have := hso.entries; unfold U32 at this; omega
    rw [hE] at HG
    have HG0 : Hid (R = trGo ps (E + 1 - 1) 1 []) := HG.out
    have hKl := blk_lt hx2
    have HX2 := hide hx2
    have HB2 := hide hb2
    have HE := hide hE
    have HZ0 : Hid (ZipE V (fun b => w.heap.size ≤ b ∧ (Value.slice none 0 0).ownBlock ≠ some b) []) := fun z hz => by cases hz
    have HO0 := hide (OwnR.nil V (K + 1) 67 20 zeCs)
    have HK0 : Hid (∀ k : Nat, 1 ≤ k → k < 1 → ∃ v, getB ps (key1B 97 k) = some v) := fun k h1 h2 => by omega
    clear hx2 hb2 hE HG HST HR hso
    go_loopg [6, 7] E (fun gk v j wr => ∃ (n : Nat) (zs : List ZE), 1 ≤ n ∧ n ≤ 4000001 ∧ gk = E + 1 - n ∧ j = .int .u32 n ∧ Hid (zs.length ≤ n - 1) ∧ Hid (Below w.heap.size w wr) ∧ Hid (wr.heap[K]? = some (.cells (statCs s) 65 (0, 0))) ∧ Hid (OwnR wr (K + 1) 67 20 zeCs v zs) ∧ Hid (ZipE wr (fun b => w.heap.size ≤ b ∧ v.ownBlock ≠ some b) zs) ∧ Hid (R = trGo ps (E + 1 - n) n (zs.map (·.1))) ∧ Hid (∀ k : Nat, 1 ≤ k → k < n → ∃ v, getB ps (key1B 97 k) = some v))
    case atStart => exact ⟨1, [], by omega, by omega, by omega, rfl, by show _ ≤ _; simp, HB2, HX2, HO0, HZ0, HG0, HK0⟩
    clear HB2 HX2 HO0 HZ0 HG0 HK0 hKl
    case round =>
      obtain ⟨n, zs, hn1, hn2, rfl, rfl, HL, HB, HX, HO, HZ, HG, HK⟩ := hrel
      have hsr := HB.out.size
      have k0 : wr.cell? ⟨K, 0, none⟩ = some (.int .u32 E) := by rw [World.cell?, HX.out, ← HE.out]; rfl
      have hKl := blk_lt HX.out
      have hnz : ((n : Int) != 0) = true := by simp; omega
      by_cases hlt : n ≤ E
      · have HYr : Hid (SysAt wr Y S LB) := (HB.out.block _ hYl).trans HY.out
        have HSr := hide (HS.out.below HB.out)
        have hun : U32 n := ⟨by omega, by omega⟩
        have HST : Hid (E + 1 - n = E + 1 - (n + 1) + 1) := by show _ = _; omega
        cases hh : entR ps n with
        | error c =>
          have HF : Hid (R = none) := HG.out.trans (by rw [HST.out]; simp only [trGo]; rw [hh])
          go_wp2_with (go_at_call 117; refine (entR_calls _ Y S LB A ps full n HYr.out HSr.out hps hun).mono ?_; rintro e w5 hp; rw [hh] at hp; obtain ⟨rfl, hb5⟩ := hp)
          go_ret2
          have := hb5.size
          exact trail_none HF ((HB.out.trans (hb5.mono hsr)).alloc (by omega) _)
        | ok x =>
          have hgb := entR_some hh
          have HKN : Hid (∀ k : Nat, 1 ≤ k → k < n + 1 → ∃ v, getB ps (key1B 97 k) = some v) := fun k h1 h2 => by
            by_cases e : k = n
            · subst e; exact hgb
            · exact HK.out k h1 (by omega)
          have HNB : Hid (n ≤ ps.length) := keys_bound (m := n) (by omega) (fun k h1 h2 => HKN.out k h1 (by omega))
          have hnl : n ≤ 4000000 := Nat.le_trans HNB.out hpl
          go_upto_region 11 with (go_at_call 117; refine (entR_calls _ Y S LB A ps full n HYr.out HSr.out hps hun).mono ?_; rintro e w5 hp; rw [hh] at hp; obtain ⟨la, ln, lc, rfl, hlv, hb5⟩ := hp)
          have hs5 := hb5.size
          have hb6 : Below wr.heap.size wr (w5.alloc (.cells (entA x (.slice la ln lc)) 67)) := hb5.alloc hs5 _
          have hr6 : rng (w5.alloc (.cells (entA x (.slice la ln lc)) 67)) w5.heap.size 0 20 = some (entA x (.slice la ln lc)) := rng_whole (heap_alloc_at _ _)
          have hl6 : w5.heap.size < (w5.alloc (.cells (entA x (.slice la ln lc)) 67)).heap.size := by simp
          have HLV : Hid (U32sAt (w5.alloc (.cells (entA x (.slice la ln lc)) 67)) (wr.heap.size + 1 ≤ ·) (.slice la ln lc) x.req.list) := RArr.below hlv ((Below.refl _ _).alloc (Nat.le_refl _) _)
          clear hlv hb5 hs5 k0
          generalize (World.alloc w5 _) = W6 at *
          have HB6 := hide (HB.out.trans (hb6.mono hsr))
          have HO6 := hide (HO.out.below hb6 (Nat.le_refl _))
          have HX6 := hide ((hb6.block _ hKl).trans HX.out)
          have HZ6 := hide (HZ.out.below hb6)
          have hz6 := HB6.out.size
          have hzs := HL.out
          have HOB := hide HO.out.block
          have hKl6 := blk_lt HX6.out
          clear hb6 hKl
          go_wp2_with (at_builtin; refine wpList_app1 (α := ZE) rfl _ _ 42 rfl (K + 1) 67 zeCs Tryz.underlying42 Tryz.info67_z rfl (by decide) zeCs_size zeCs_one _ zs rfl (OwnR.below HO6.out ((Below.refl _ _).alloc (Nat.le_refl _) _) (Nat.le_refl _)) _ rfl (x, (la, ln, lc)) (rng_whole (heap_alloc_at _ _)) (by omega) (by unfold maxLen; omega) (by simp only [World.size_alloc]; omega) ?_; intro v9 w9 hown9 hsame9 hbel9 hat9)
          go_roundg (E + 1 - (n + 1))
          case measure => omega
          case rel =>
            have hal : ∀ b, b < W6.heap.size → (W6.alloc (.cells (entA x (.slice la ln lc)) 67)).heap[b]? = W6.heap[b]? := fun b hb => Below.heap_alloc _ _ _ hb
            have hne : ∀ b, b < W6.heap.size → u6.ownBlock ≠ some b → v9.ownBlock ≠ some b := fun b h1 h2 => by
              rcases hat9 with h | h
              · rw [h]; exact h2
              · rw [h]; intro e; injection e with e; simp only [World.size_alloc] at e; omega
            have hsm : ∀ b, b < W6.heap.size → u6.ownBlock ≠ some b → w9.heap[b]? = W6.heap[b]? := fun b h1 h2 => (hsame9 b ⟨by simp only [World.size_alloc]; omega, h2⟩).trans (hal b h1)
            refine ⟨n + 1, zs ++ [(x, (la, ln, lc))], by omega, by omega, rfl, by go_num, by show _ ≤ _; simp; omega, (HB6.out.alloc hz6 _).trans (hbel9.mono (by omega)), (hbel9.block K (by omega)).trans ((hal K hKl6).trans HX6.out), hown9, ?_, HG.out.trans (by rw [HST.out]; simp only [trGo]; rw [hh]; simp), HKN⟩
            intro z hz
            rcases List.mem_append.1 hz with hz | hz
            · exact RArr.mono (RArr.lt (HZ6.out z hz)) (fun b hb => hsm b hb.2 hb.1.2) (fun b hb => ⟨hb.1.1, hne b hb.2 hb.1.2⟩)
            · rw [List.mem_singleton.1 hz]
              exact RArr.mono (RArr.lt HLV.out) (fun b hb => hsm b hb.2 (fun e => by have := (HOB.out b e).2; omega)) (fun b hb => ⟨by omega, hne b hb.2 (fun e => by have := (HOB.out b e).2; omega)⟩)
      · have HF : Hid (R = some (zs.map (·.1))) := HG.out.trans (by rw [show E + 1 - n = 0 by omega]; rfl)
        go_wp2
        go_ret2
        rw [HF.out]
        exact ⟨_, zs, rfl, HO.out.lower (by omega), fun z hz => RArr.mono (HZ.out z hz) (Same.refl _ _) (fun b hb => hb.1), rfl, HB.out⟩

end Go.Proofs.Qxb6500666aGreatDoor
