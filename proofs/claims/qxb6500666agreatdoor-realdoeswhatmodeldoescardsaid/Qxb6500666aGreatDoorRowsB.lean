/- rowsBefore and cumulativeRows, walked. -/
import Derived.Test.Qxb6500666aGreatDoorLines
import Derived.Test.Qxb6500666aGreatDoorApPlain
namespace Go.Proofs.Qxb6500666aGreatDoor
open Go.RowKit

theorem dig1_u8 {r : Rd} (h : ByteL r.rest) : U8 (rdDig 1 r).1 := by
  have := rdDig_bound (c := 1) h
  rw [show (256 : Int) ^ 1 = 256 from rfl] at this
  exact ⟨this.1, by omega⟩
theorem rdI64_bytes {r : Rd} (h : ByteL r.rest) : ByteL (rdI64 r).2.rest := by
  unfold rdI64
  split <;> exact rdDig_bytes h
theorem rdI64_i64 {r : Rd} (h : ByteL r.rest) : I64 (rdI64 r).1 := by
  have := rdDig_bound (c := 8) h
  rw [show (256 : Int) ^ 8 = 18446744073709551616 from rfl] at this
  unfold rdI64 I64
  split
  · show -9223372036854775808 ≤ (0 : Int) ∧ (0 : Int) ≤ 9223372036854775807
    exact ⟨by decide, by decide⟩
  · simp only
    omega
theorem decHdr_ok {s : Int} {bs : List Int} {h : Hdr} (hs : U32 s) (hb : ByteL bs) (hd : decHdr s bs = some h) : h.Ok ∧ h.seq = s := by
  unfold decHdr at hd
  simp only at hd
  split at hd
  · cases hd
  · split at hd
    · cases hd
    · split at hd
      · cases hd
      · injection hd with hd
        subst hd
        have b1 : ByteL (⟨bs, false⟩ : Rd).rest := hb
        have b2 := rdDig_bytes (c := 1) b1
        have b3 := rdI64_bytes b2
        have b4 := rdDig_bytes (c := 4) b3
        have b5 := rdDig_bytes (c := 4) b4
        have b6 := rdDig_bytes (c := 4) b5
        exact ⟨⟨dig1_u8 b1, hs, rdI64_i64 b2, dig4_u32 b3, dig4_u32 b4, dig4_u32 b5, dig4_u32 b6⟩, rfl⟩
theorem hdrR_some {ps : List KV} {s : Int} {h : Hdr} (hps : PsOk ps) (hs : U32 s) (hd : hdrR ps s = .ok h) : h.Ok ∧ h.seq = s ∧ ∃ v, getB ps (key1B 104 s) = some v := by
  unfold hdrR at hd
  split at hd
  · cases hd
  · rename_i v hv
    unfold ofOpt at hd
    split at hd
    · cases hd
    · rename_i y hy
      injection hd with hd
      subst hd
      obtain ⟨h1, h2⟩ := decHdr_ok hs (getB_ok hps hv) hy
      exact ⟨h1, h2, v, hv⟩

theorem nodup_le {α : Type} [DecidableEq α] : ∀ (l k : List α), l.Nodup → (∀ x ∈ l, x ∈ k) → l.length ≤ k.length
  | [], k, _, _ => by simp
  | x :: l, k, hn, hs => by
    have hx := hs x (List.mem_cons_self ..)
    obtain ⟨h1, h2⟩ := List.nodup_cons.1 hn
    have := nodup_le l (k.erase x) h2 (fun y hy => (List.mem_erase_of_ne (fun e => h1 (by rw [← e]; exact hy))).2 (hs y (List.mem_cons_of_mem _ hy)))
    have h3 := List.length_erase_of_mem hx
    have h4 := List.length_pos_of_mem hx
    simp only [List.length_cons]
    omega
theorem getB_mem {ps : List KV} {k v : List Int} (h : getB ps k = some v) : k ∈ ps.map (·.1) := by
  induction ps with
  | nil => cases h
  | cons p r ih =>
    unfold getB at h
    split at h
    · rename_i he
      simp [he]
    · exact List.mem_map.2 (by obtain ⟨q, h1, h2⟩ := List.mem_map.1 (ih h); exact ⟨q, List.mem_cons_of_mem _ h1, h2⟩)
theorem key1_inj {t a b : Int} (ha : U32 a) (hb : U32 b) (h : key1B t a = key1B t b) : a = b := by
  unfold key1B at h
  have h2 := List.append_cancel_left h
  have := congrArg v256 h2
  have e : (256 : Int) ^ 4 = 4294967296 := rfl
  unfold U32 at ha hb
  rw [v256_d256 4 a ha.1 (by rw [e]; omega), v256_d256 4 b hb.1 (by rw [e]; omega)] at this
  exact this
theorem keys_bound {ps : List KV} {t : Int} {m : Nat} (hm : m < 4294967296) (h : ∀ k : Nat, 1 ≤ k → k ≤ m → ∃ v, getB ps (key1B t k) = some v) : m ≤ ps.length := by
  have := nodup_le ((List.range m).map (fun i => key1B t ((i + 1 : Nat) : Int))) (ps.map (·.1)) ?_ ?_
  · simpa using this
  · unfold List.Nodup
    rw [List.pairwise_map]
    refine List.Pairwise.imp_of_mem ?_ List.nodup_range
    intro a b ha hb hne e
    refine hne ?_
    have h1 := List.mem_range.1 ha
    have h2 := List.mem_range.1 hb
    have := key1_inj ⟨by omega, by omega⟩ ⟨by omega, by omega⟩ e
    omega
  · intro x hx
    obtain ⟨i, hi, rfl⟩ := List.mem_map.1 hx
    have h1 := List.mem_range.1 hi
    obtain ⟨v, hv⟩ := h (i + 1) (by omega) (by omega)
    exact getB_mem hv

noncomputable def rbGo (ps : List KV) : Nat → Nat → List Row → Option (List Row)
  | 0, _, rows => some rows
  | k + 1, n, rows => match hdrR ps n with
    | .error _ => none
    | .ok h => if (h.kind != 73) then rbGo ps k (n + 1) rows else match linesR ps h with
      | none => none
      | some cs => match applyF rows cs with
        | none => none
        | some out => rbGo ps k (n + 1) out
noncomputable def rbR (ps : List KV) (seq : Int) : Option (List Row) := rbGo ps (seq.toNat - 1) 1 []

attribute [local go_sem] ext_const Ext.cell Ext.frozen Ext.rng Ext.whole
attribute [local go_sem ↓] exec_ldHd exec_stHd
attribute [local go_sem] run_ldHd run_stHd whole_alloc_lt whole_alloc_at whole_drew setRow_alloc_at setRow_alloc_lt rng_alloc_lt rng_alloc_at rng_drew rng_drewN

set_option maxRecDepth 100000 in
set_option maxHeartbeats 4000000 in
theorem rowsBefore_calls (w : World) (Y S LB : Nat) (A : Nat → Prop) (ps : List KV) (full : Bool) (seq : Int) (hY : SysAt w Y S LB) (hS : StoreAt w S A ps full) (hps : PsOk ps) (hpl : ps.length ≤ 4000000) (hs : U32 seq) :
    Calls Tryz.prog 207 #[.pointer (some ⟨Y, 0, none⟩), .int .u32 seq] w fun e w' => OwnRes w w' 109 13 rowCs e 28 (rbR ps seq) := by
  obtain ⟨R, hR⟩ : ∃ R, R = rbR ps seq := ⟨_, rfl⟩
  rw [← hR]
  obtain ⟨sq, hsq⟩ : ∃ sq : Nat, seq = sq := ⟨seq.toNat, by unfold U32 at hs; omega⟩
  subst hsq
  have HG0 : Hid (R = rbGo ps (sq - 1) 1 []) := hR
  have HY := hide hY
  have HS := hide hS
  have hYl := blk_lt hY
  have hsl : sq < 4294967296 := by unfold U32 at hs; omega
  clear hR hY hS hs
  have hov : ∀ x, ones (hdrCs x) 7 = true := fun _ => rfl
  have HB0 := hide (Below.refl w.heap.size w)
  have HO0 := hide (OwnR.nil w w.heap.size 109 13 rowCs)
  have HK0 : Hid (∀ k : Nat, 1 ≤ k → k < 1 → ∃ v, getB ps (key1B 104 k) = some v) := fun k h1 h2 => by omega
  go_enter Tryz.func207, Tryz.ntmps207
  go_upto_region 3 with fail
  go_loopg [6, 7] (sq - 1) (fun gk v j wr => ∃ (n : Nat) (rows : List Row), 1 ≤ n ∧ n < 4294967296 ∧ gk = sq - n ∧ j = .int .u32 n ∧ Hid (rows.length ≤ 20 * (n - 1)) ∧ Hid (Below w.heap.size w wr) ∧ Hid (OwnR wr w.heap.size 109 13 rowCs v rows) ∧ Hid (R = rbGo ps (sq - n) n rows) ∧ Hid (∀ k : Nat, 1 ≤ k → k < n → ∃ v, getB ps (key1B 104 k) = some v))
  case atStart => exact ⟨1, [], by omega, by omega, rfl, rfl, by show _ ≤ _; simp, HB0, HO0, HG0, HK0⟩
  clear HB0 HO0 HK0 HG0
  case round =>
    obtain ⟨n, rows, hn1, hn2, rfl, rfl, HL, HB, HO, HG, HK⟩ := hrel
    have hsr := HB.out.size
    by_cases hlt : n < sq
    · have HNB : Hid (n - 1 ≤ ps.length) := keys_bound (m := n - 1) (by omega) (fun k h1 h2 => HK.out k h1 (by omega))
      have hrl : rows.length ≤ 80000000 := by have := HL.out; have := HNB.out; omega
      have HYr : Hid (SysAt wr Y S LB) := (HB.out.block _ hYl).trans HY.out
      have HSr := hide (HS.out.below HB.out)
      have hun : U32 n := ⟨by omega, by omega⟩
      have HST : Hid (sq - n = sq - (n + 1) + 1) := by show _ = _; omega
      cases hh : hdrR ps n with
      | error c =>
        have HF : Hid (R = none) := HG.out.trans (by rw [HST.out]; simp only [rbGo]; rw [hh])
        go_wp2_with (go_at_call 174; refine (hdrR_calls _ Y S LB A ps full n HYr.out HSr.out hps hun).mono ?_; rintro e w5 ⟨hd5, hb5⟩; rw [hh] at hd5; have hd6 : e = .returned (.tuple #[.agg (hdrCs ⟨0, 0, 0, 0, 0, 0, 0⟩), .iface 63 (.int .u8 c)]) := hd5; subst hd6)
        go_ret2
        have := hb5.size
        exact own_none HF ((HB.out.trans (hb5.mono hsr)).alloc (by omega) _) (by decide)
      | ok h =>
        obtain ⟨hok, hse, hgb⟩ := hdrR_some hps hun hh
        have HKN : Hid (∀ k : Nat, 1 ≤ k → k < n + 1 → ∃ v, getB ps (key1B 104 k) = some v) := fun k h1 h2 => by
          by_cases e : k = n
          · subst e; exact hgb
          · exact HK.out k h1 (by omega)
        have HOK := hide hok
        clear hok hse hgb
        go_upto_region 8 with (go_at_call 174; refine (hdrR_calls _ Y S LB A ps full n HYr.out HSr.out hps hun).mono ?_; rintro e w5 ⟨hd5, hb5⟩; rw [hh] at hd5; have hd6 : e = .returned (.tuple #[.agg (hdrCs h), .nilIface]) := hd5; subst hd6)
        have hs5 := hb5.size
        have hb6 : Below wr.heap.size wr (w5.alloc (.cells (hdrCs h) 71)) := hb5.alloc hs5 _
        have hx6 : (w5.alloc (.cells (hdrCs h) 71)).heap[w5.heap.size]? = some (.cells (hdrCs h) 71 (0, 0)) := heap_alloc_at _ _
        clear hd5 hb5 hs5
        generalize (World.alloc w5 _) = W6 at *
        have hr6 : rng W6 w5.heap.size 0 7 = some (hdrCs h) := rng_whole hx6
        have k6 : W6.cell? ⟨w5.heap.size, 0, none⟩ = some (.int .u8 h.kind) := by rw [World.cell?, hx6]; rfl
        have hl6 := blk_lt hx6
        have HB6 := hide (HB.out.trans (hb6.mono hsr))
        have HO6 := hide (HO.out.below hb6 (Nat.le_refl _))
        have hz6 := HB6.out.size
        clear hb6 hx6
        cases t0 : (h.kind != 73) with
        | true =>
          have HF : Hid (R = rbGo ps (sq - (n + 1)) (n + 1) rows) := HG.out.trans (by rw [HST.out]; simp only [rbGo]; rw [hh]; simp only [t0, if_true])
          go_wp2
          go_roundg (sq - (n + 1))
          case measure => omega
          case rel => exact ⟨n + 1, rows, by omega, by omega, rfl, by go_num, by have := HL.out; show _ ≤ _; omega, HB6, HO6, HF, HKN⟩
        | false =>
          have HYs : Hid (SysAt W6 Y S LB) := (HB6.out.block _ hYl).trans HY.out
          have HSs := hide (HS.out.below HB6.out)
          cases hli : linesR ps h with
          | none =>
            have HF : Hid (R = none) := HG.out.trans (by rw [HST.out]; simp only [rbGo]; rw [hh]; simp only [t0]; rw [hli]; rfl)
            go_wp2_with (go_at_call 206; refine (lines_calls _ Y S LB A ps full h HYs.out HSs.out hps HOK.out).mono ?_; rintro e w7 hp; rw [hli] at hp; obtain ⟨rfl, hb7⟩ := hp; simp only [errV, show ¬ ((28 : Int) = 0) by decide, if_false])
            go_ret2
            exact own_none HF (HB6.out.trans (hb7.mono hz6)) (by decide)
          | some cs =>
            have hcl := linesR_len hli
            go_upto_region 12 with (go_at_call 206; refine (lines_calls _ Y S LB A ps full h HYs.out HSs.out hps HOK.out).mono ?_; rintro e w7 hp; rw [hli] at hp; obtain ⟨v7, rfl, ho7, hb7⟩ := hp)
            have hz7 := hb7.size
            have HB7 := hide (HB6.out.trans (hb7.mono hz6))
            have HRW : Hid (RowsAt w7 (w.heap.size ≤ ·) u6 rows) := RArr.below (HO6.out.rows rowCs_size (by decide) (by omega)) hb7
            have HCA : Hid (ChangesAt w7 (W6.heap.size ≤ ·) v7 cs) := ho7.rows changeCs_size (by decide) (by omega)
            clear hr6 k6 hl6 ho7 hb7
            cases hap : applyF rows cs with
            | none =>
              have HF : Hid (R = none) := HG.out.trans (by rw [HST.out]; simp only [rbGo]; rw [hh]; simp only [t0]; rw [hli]; simp only; rw [hap]; rfl)
              go_wp2_with (go_at_call 122; refine (apply_calls _ _ _ _ _ rows cs HRW.out HCA.out (by omega) (by omega)).mono ?_; rintro e w8 ⟨hb8, hp⟩; rw [hap] at hp; have hp2 : e = .returned (.tuple #[.slice none 0 0, .iface 63 (.int .u8 30)]) := hp; subst hp2)
              go_ret2
              exact own_none HF (HB7.out.trans (hb8.mono (by omega))) (by decide)
            | some o =>
              have hol := agree_len hap
              have HF : Hid (R = rbGo ps (sq - (n + 1)) (n + 1) o) := HG.out.trans (by rw [HST.out]; simp only [rbGo]; rw [hh]; simp only [t0]; rw [hli]; simp only; rw [hap]; rfl)
              go_wp2_with (go_at_call 122; refine (apply_calls _ _ _ _ _ rows cs HRW.out HCA.out (by omega) (by omega)).mono ?_; rintro e w8 ⟨hb8, hp⟩; rw [hap] at hp; obtain ⟨v8, hp2, ho8⟩ := hp; subst hp2)
              go_roundg (sq - (n + 1))
              case measure => omega
              case rel => exact ⟨n + 1, o, by omega, by omega, rfl, by go_num, by have := HL.out; show _ ≤ _; omega, HB7.out.trans (hb8.mono (by omega)), ho8.lower (by omega), HF, HKN⟩
    · have HF : Hid (R = some rows) := HG.out.trans (by rw [show sq - n = 0 by omega]; rfl)
      go_wp2
      go_ret2
      rw [HF.out]
      exact ⟨_, rfl, HO.out, HB.out⟩

set_option maxRecDepth 100000 in
theorem cumRows_calls (w : World) (Y S LB : Nat) (A : Nat → Prop) (ps : List KV) (full : Bool) (seq : Int) (hY : SysAt w Y S LB) (hS : StoreAt w S A ps full) (hps : PsOk ps) (hpl : ps.length ≤ 4000000) (hs : U32 seq) :
    Calls Tryz.prog 226 #[.pointer (some ⟨Y, 0, none⟩), .int .u32 seq] w fun e w' => OwnRes w w' 109 13 rowCs e 28 (rbR ps seq) := by
  have HRB := hide (rowsBefore_calls w Y S LB A ps full seq hY hS hps hpl hs)
  obtain ⟨R, hR⟩ : ∃ R, R = rbR ps seq := ⟨_, rfl⟩
  rw [← hR] at HRB ⊢
  have HR := hide hR
  clear hR
  cases t0 : (seq == 0) with
  | true =>
    have e0 : seq = 0 := by simpa using t0
    subst e0
    have HE : Hid (R = some []) := HR.out.trans rfl
    go_enter Tryz.func226, Tryz.ntmps226
    go_wp2
    go_ret2
    rw [HE.out]
    exact ⟨_, rfl, OwnR.nil _ _ _ _ _, Below.refl _ _⟩
  | false =>
    go_enter Tryz.func226, Tryz.ntmps226
    cases hRc : R with
    | none =>
      go_wp2_with (go_at_call 207; refine HRB.out.mono ?_; rintro e w1 hp; rw [hRc] at hp; obtain ⟨rfl, hb1⟩ := hp; simp only [errV, show ¬ ((28 : Int) = 0) by decide, if_false])
      go_ret2
      exact own_none rfl hb1 (by decide)
    | some rows =>
      go_wp2_with (go_at_call 207; refine HRB.out.mono ?_; rintro e w1 hp; rw [hRc] at hp; obtain ⟨v, rfl, ho1, hb1⟩ := hp)
      go_ret2
      exact ⟨_, rfl, ho1, hb1⟩

end Go.Proofs.Qxb6500666aGreatDoor
