/- Scan, walked. -/
import Derived.Test.Qxb6500666aGreatDoorLessWalk
import Derived.Test.Qxb6500666aGreatDoorMix4
import Derived.Test.Qxb6500666aGreatDoorZp
namespace Go.Proofs.Qxb6500666aGreatDoor
open Go.RowKit

def inRange (f t : List Int) (last : Option (List Int)) (k : List Int) : Bool := !ltB k f && ltB k t && (match last with | none => true | some l => ltB l k)
def keyAt (ps : List KV) (j : Nat) : List Int := (ps[j]?.getD ([], [])).1
def pickN (ps : List KV) (f t : List Int) (last : Option (List Int)) : Nat → Option Nat
  | 0 => none
  | q + 1 => if inRange f t last (keyAt ps q) then (match pickN ps f t last q with | none => some q | some j => if ltB (keyAt ps q) (keyAt ps j) then some q else some j) else pickN ps f t last q
def pick (ps : List KV) (f t : List Int) (last : Option (List Int)) : Option Nat := pickN ps f t last ps.length
def scanB (ps : List KV) (f t : List Int) : Nat → Option (List Int) → List KV
  | 0, _ => []
  | n + 1, last => match pick ps f t last with
    | none => []
    | some i => (ps[i]?.getD ([], [])) :: scanB ps f t n (some (keyAt ps i))

theorem scanB_len (ps : List KV) (f t : List Int) : ∀ n last, (scanB ps f t n last).length ≤ n
  | 0, _ => by simp [scanB]
  | n + 1, last => by
    unfold scanB
    split
    · simp
    · have := scanB_len ps f t n (some (keyAt ps (by assumption)))
      simp only [List.length_cons]; omega

theorem ltB_irrefl : ∀ l : List Int, ltB l l = false
  | [] => rfl
  | x :: r => by simp [ltB, ltB_irrefl r]
theorem ltB_trans : ∀ {a b c : List Int}, ltB a b = true → ltB b c = true → ltB a c = true
  | _, [], c, h, _ => by cases c <;> simp [ltB] at h
  | _, _ :: _, [], _, h => by simp [ltB] at h
  | [], _ :: _, _ :: _, _, _ => rfl
  | x :: r, y :: s, z :: t, h1, h2 => by
    simp only [ltB] at *
    split at h1
    · rename_i hxy
      subst hxy
      split at h2
      · rename_i hyz; subst hyz; simp [ltB_trans h1 h2]
      · rename_i hyz; simp [hyz, h2]
    · rename_i hxy
      have hlt := of_decide_eq_true h1
      split at h2
      · rename_i hyz; subst hyz; simp [hxy, h1]
      · have hlt2 := of_decide_eq_true h2
        rw [if_neg (by omega)]
        exact decide_eq_true (by omega)

theorem pickN_some {ps : List KV} {f t : List Int} {last : Option (List Int)} : ∀ {q i : Nat}, pickN ps f t last q = some i → i < q ∧ inRange f t last (keyAt ps i) = true
  | 0, _, h => by cases h
  | q + 1, i, h => by
    simp only [pickN] at h
    split at h
    · rename_i hr
      split at h
      · cases h; exact ⟨by omega, hr⟩
      · rename_i j hj
        split at h
        · cases h; exact ⟨by omega, hr⟩
        · cases h; have := pickN_some hj; exact ⟨by omega, this.2⟩
    · have := pickN_some h; exact ⟨by omega, this.2⟩

/-- How many pairs are still to come. -/
def leftC (ps : List KV) (f t : List Int) (last : Option (List Int)) : Nat := (ps.filter fun p => inRange f t last p.1).length

theorem inRange_next {f t l k : List Int} {last : Option (List Int)} (h1 : inRange f t last l = true) (h2 : inRange f t (some l) k = true) : inRange f t last k = true := by
  unfold inRange at *
  simp only [Bool.and_eq_true] at *
  refine ⟨h2.1, ?_⟩
  cases last with
  | none => rfl
  | some x => exact ltB_trans h1.2 h2.2

theorem filter_sub {α : Type} {p q : α → Bool} (h : ∀ x, p x = true → q x = true) : ∀ l : List α, (l.filter p).Sublist (l.filter q)
  | [] => by simp
  | x :: r => by
    simp only [List.filter_cons]
    cases hp : p x with
    | true => rw [if_pos rfl, if_pos (h x hp)]; exact (filter_sub h r).cons_cons x
    | false =>
      simp only [Bool.false_eq_true, if_false]
      split
      · exact (filter_sub h r).cons x
      · exact filter_sub h r

theorem leftC_lt {ps : List KV} {f t : List Int} {last : Option (List Int)} {i : Nat} (h : pick ps f t last = some i) : leftC ps f t (some (keyAt ps i)) < leftC ps f t last := by
  obtain ⟨hi, hr⟩ := pickN_some h
  have hk : keyAt ps i = ps[i].1 := by simp [keyAt, hi]
  unfold leftC
  have hsub : (ps.filter fun p => inRange f t (some (keyAt ps i)) p.1).Sublist (ps.filter fun p => inRange f t last p.1) := by
    exact filter_sub (fun p hp => inRange_next hr hp) ps
  rcases Nat.lt_or_ge ((ps.filter fun p => inRange f t (some (keyAt ps i)) p.1).length) ((ps.filter fun p => inRange f t last p.1).length) with hlt | hge
  · exact hlt
  · exfalso
    have heq := hsub.eq_of_length_le hge
    have hmem : ps[i] ∈ ps.filter fun p => inRange f t last p.1 := List.mem_filter.2 ⟨List.getElem_mem hi, by rw [← hk]; exact hr⟩
    rw [← heq] at hmem
    have := (List.mem_filter.1 hmem).2
    rw [hk] at this
    simp [inRange, ltB_irrefl] at this

/-- The visitor, as the scan needs it. -/
structure Vis (S : Nat) (A : Nat → Prop) (ps : List KV) (full : Bool) (E SB RW g0 : Nat) (fv tv : Value) (f t : List Int) (Inv : World → List KV → Bool → Prop) : Prop where
  grow : ∀ w w' l b, Inv w l b → Below w.heap.size w w' → Inv w' l b
  store : ∀ w l, Inv w l true → StoreAt w S A ps full
  size : ∀ w l, Inv w l true → g0 ≤ w.heap.size
  from' : ∀ w l, Inv w l true → ∃ ok, BytesAt w ok fv f
  to' : ∀ w l, Inv w l true → ∃ ok, BytesAt w ok tv t
  call : ∀ w l p kv vv, Inv w l true → l.length ≤ ps.length + 1 → p ∈ ps → inRange f t none p.1 = true → BytesAt w (g0 ≤ ·) kv p.1 → BytesAt w (g0 ≤ ·) vv p.2 → Calls Tryz.prog 250 #[kv, vv, .pointer (some ⟨E, 0, none⟩), .pointer (some ⟨SB, 0, none⟩), .pointer (some ⟨RW, 0, none⟩)] w fun e w' => ∃ b, e = .returned (.bool b) ∧ Inv w' (l ++ [p]) b ∧ Same A w w'

attribute [local go_sem] ext_const Ext.cell Ext.frozen Ext.rng Ext.whole

theorem inRange_none {f t k : List Int} {last : Option (List Int)} (h : inRange f t last k = true) : inRange f t none k = true := by
  unfold inRange at *
  simp only [Bool.and_eq_true] at *
  exact ⟨h.1, trivial⟩

/-- The place that was picked, as the program holds it. -/
def pv : Option Nat → Int
  | none => -1
  | some i => i

theorem less_ext {H : Nat} {w : World} (hH : H = w.heap.size) {okx oky : Nat → Prop} {x y : Value} {xs ys : List Int} (hx : BytesAt w okx x xs) (hy : BytesAt w oky y ys) (X : Ext H w) :
    Calls Tryz.prog 260 #[x, y] X.world fun e w' => e = .returned (.bool (ltB xs ys)) ∧ Below X.world.heap.size X.world w' := by
  subst hH
  have hb := X.below
  refine (less_calls X.world okx oky x y xs ys (hx.below hb) (hy.below hb)).mono ?_
  rintro e w' ⟨rfl, n, rfl⟩
  exact ⟨rfl, below_drewN (Below.refl _ _) n⟩

theorem pickN_succ (ps : List KV) (f t : List Int) (last : Option (List Int)) (q : Nat) : pickN ps f t last (q + 1) = if inRange f t last (keyAt ps q) then (match pickN ps f t last q with | none => some q | some j => if ltB (keyAt ps q) (keyAt ps j) then some q else some j) else pickN ps f t last q := rfl

set_option maxRecDepth 100000 in
set_option maxHeartbeats 8000000 in
theorem scan_calls (w : World) (S : Nat) (A : Nat → Prop) (ps : List KV) (full : Bool) (E SB RW g0 : Nat) (fa ta : Option Addr) (fn fc tn tc : Nat) (f t : List Int) (Inv : World → List KV → Bool → Prop) (hV : Vis S A ps full E SB RW g0 (.slice fa fn fc) (.slice ta tn tc) f t Inv) (hta : ta ≠ none) (h0 : Inv w [] true) :
    Calls Tryz.prog 249 #[.pointer (some ⟨S, 0, none⟩), .slice fa fn fc, .slice ta tn tc, .func (.func 250) #[] #[.pointer (some ⟨E, 0, none⟩), .pointer (some ⟨SB, 0, none⟩), .pointer (some ⟨RW, 0, none⟩)]] w fun e w' => e = .returned (.tuple #[]) ∧ ∃ L b, Inv w' L b ∧ ((b = true ∧ L = scanB ps f t (ps.length + 1) none) ∨ (b = false ∧ ∃ r, L ++ r = scanB ps f t (ps.length + 1) none)) := by
  obtain ⟨FIN, hFIN⟩ : ∃ FIN, FIN = scanB ps f t (ps.length + 1) none := ⟨_, rfl⟩
  have HFIN := hide hFIN
  rw [← hFIN]
  have HV := hide hV
  have HI0 := hide h0
  obtain ⟨tad, rfl⟩ : ∃ tad, ta = some tad := by
    cases ta with
    | none => exact absurd rfl hta
    | some x => exact ⟨x, rfl⟩
  have hlc : leftC ps f t none < ps.length + 1 := by have := List.length_filter_le (fun p : KV => inRange f t none p.1) ps; unfold leftC; omega
  have HST0 : Hid (∃ n, leftC ps f t none < n ∧ [] ++ scanB ps f t n none = FIN) := ⟨_, hlc, hFIN.symm⟩
  clear hFIN hV h0 hta
  go_enter Tryz.func249, Tryz.ntmps249
  go_wp2
  go_loopg [8, 9] (leftC ps f t none) (fun gk lv fb wr => ∃ (lo : Option (List Int)) (l : List KV) (bb : Bool), gk = leftC ps f t lo ∧ fb = .bool bb ∧ Hid (bb = lo.isNone) ∧ Hid (Inv wr l true) ∧ Hid (match lo with | none => lv = .slice none 0 0 | some k => ∃ ok, BytesAt wr ok lv k) ∧ Hid (∃ n, leftC ps f t lo < n ∧ l ++ scanB ps f t n lo = FIN))
  case atStart => exact ⟨none, [], true, rfl, rfl, rfl, HI0, rfl, HST0⟩
  case round =>
    obtain ⟨lo, l, bb, rfl, rfl, HBB, HI, HLV, HSC⟩ := hrel
    obtain ⟨pvl, off0, lar0, hS, hP⟩ := (HV.out.store _ _ HI.out).ex
    obtain ⟨zs, hZP, hzm, hzb⟩ := hP.zs
    obtain ⟨s0, s1, -, -, -, hSl⟩ := cell_four hS
    obtain ⟨pa, pcap, pb, poff, rfl, pl, pm, pr, pha, phc⟩ := RArr.lt hZP
    obtain ⟨n, hn⟩ : ∃ n, n = zs.length := ⟨_, rfl⟩
    rw [← hn] at pl pr pha s0
    have hpi := run_indexAt_arr (P := Tryz.prog) (n := n) (cap := pcap) Tryz.underlying129 Tryz.size171 (fun h => (pha h).1)
    have HPB : Hid (0 < n → pb < wr.heap.size) := fun h => (pha h).2.2
    have HPC := hide phc
    have HZB := hide hzb
    have HN := hide hn
    have hnp : ps.length = n := by rw [hn, ← hzm]; simp
    have HNP := hide hnp
    have HKEY : Hid (∀ q (h : q < zs.length), keyAt ps q = zs[q].2.1) := fun q h => by simp [keyAt, ← hzm, h]
    have HPS : Hid (∀ q (h : q < zs.length), ps[q]? = some zs[q].2) := fun q h => by simp [← hzm, h]
    obtain ⟨wo, hwo⟩ : ∃ wo, wo = wr := ⟨_, rfl⟩
    subst hwo
    obtain ⟨okf, hFb⟩ := HV.out.from' _ _ HI.out
    obtain ⟨okt, hTb⟩ := HV.out.to' _ _ HI.out
    have HFB := hide hFb
    have HTB := hide hTb
    clear hS hP hZP hzb pha phc hn hzm hnp pm hFb hTb
    go_upto_region 5 with fail
    go_loopw [10, 18] (fun nx j wx => ∃ q : Nat, q ≤ n ∧ j = .int .i64 q ∧ nx = .int .i64 (pv (pickN ps f t lo q)) ∧ Below wo.heap.size wo wx) (fun _ j _ => n - (intOf j).toNat)
    case atStart => exact ⟨0, by omega, rfl, rfl, by first | exact Below.refl _ _ | exact (Below.refl _ _).drew⟩
    case round =>
      obtain ⟨q, hq, rfl, rfl, hbel⟩ := hrel
      have hSr : wr.cell? ⟨S, 0, none⟩ = some (.slice pa n pcap) := (hbel.cell (p := ⟨S, 0, none⟩) hSl).trans s0
      have hlr : wo.heap.size ≤ wr.heap.size := hbel.size
      by_cases hlt : q < n
      · have h1 : q < zs.length := by rw [← HN.out]; exact hlt
        have hpbl := HPB.out (by omega)
        have hrg := HPC.out q h1
        rw [← rng_of_block (hbel.block pb hpbl)] at hrg
        have c0 := (rng_cell hrg).2 0 (by decide)
        have c1 := (rng_cell hrg).2 1 (by decide)
        have hzq := HZB.out zs[q] (List.getElem_mem h1)
        have hkq := HKEY.out q h1
        generalize hz : zs[q] = z at *
        obtain ⟨⟨⟨xa, xn, xc⟩, ⟨ya, yn, yc⟩⟩, ⟨kb, vb⟩⟩ := z
        simp only [zCs, sv, List.getElem?_toArray, List.getElem?_cons_zero, List.getElem?_cons_succ, Nat.add_zero] at c0 c1
        simp only at hkq hzq
        obtain ⟨w1, hw1⟩ : ∃ w1, w1 = wr.alloc (.cells #[.slice xa xn xc, .slice ya yn yc] 171) := ⟨_, rfl⟩
        have hb1 : Below wo.heap.size wo w1 := by rw [hw1]; exact hbel.alloc hlr _
        have e0 : w1.cell? ⟨wr.heap.size, 0, none⟩ = some (.slice xa xn xc) := by rw [hw1]; simp
        have hs1 : w1.heap.size = wr.heap.size + 1 := by rw [hw1]; simp
        have HKB : Hid (∀ W, Below wo.heap.size wo W → BytesAt W A (.slice xa xn xc) kb) := fun W hW => hzq.1.below hW
        have HPK := hide (pickN_succ ps f t lo q)
        rw [hkq] at HPK
        obtain ⟨PQ, hPQ⟩ : ∃ PQ, PQ = pickN ps f t lo q := ⟨_, rfl⟩
        rw [← hPQ] at HPK ⊢
        have HPQ := hide hPQ
        clear hrg hzq hz hkq hPQ
        go_upto_region 7 with fail
        rw [← hw1]
        have HW1 := hide hw1
        clear hw1
        cases k1 : ltB kb f with
        | true =>
          have HNX : Hid (pickN ps f t lo (q + 1) = PQ) := by show _ = _; rw [HPK.out]; simp [inRange, k1]
          go_wp2_with (go_at_call 260; refine (less_calls w1 A okf _ _ kb f (HKB.out _ hb1) (HFB.out.below hb1)).mono ?_; rintro e w2 ⟨rfl, d2, rfl⟩; rw [k1])
          go_roundw
          case measure => simp [intOf]; omega
          case rel => exact ⟨q + 1, by omega, by go_num, (congrArg (fun o => Value.int .i64 (pv o)) HNX.out).symm, below_drewN hb1 d2⟩
        | false =>
          cases k2 : ltB kb t with
          | false =>
            have HNX : Hid (pickN ps f t lo (q + 1) = PQ) := by show _ = _; rw [HPK.out]; simp [inRange, k1, k2]
            go_wp2_with (first
              | (go_at_call 260; refine (less_calls _ A okt _ _ kb t (HKB.out _ (below_drewN hb1 d2)) (HTB.out.below (below_drewN hb1 d2))).mono ?_; rintro e w3 ⟨rfl, d3, rfl⟩; rw [k2])
              | (go_at_call 260; refine (less_calls w1 A okf _ _ kb f (HKB.out _ hb1) (HFB.out.below hb1)).mono ?_; rintro e w2 ⟨rfl, d2, rfl⟩; rw [k1]))
            go_roundw
            case measure => simp [intOf]; omega
            case rel => exact ⟨q + 1, by omega, by go_num, (congrArg (fun o => Value.int .i64 (pv o)) HNX.out).symm, by first | exact below_drewN (below_drewN hb1 d2) d3 | exact below_drewN hb1 _⟩
          | true =>
            go_upto_region 8 with (first
              | (go_at_call 260; refine (less_calls _ A okt _ _ kb t (HKB.out _ (below_drewN hb1 d2)) (HTB.out.below (below_drewN hb1 d2))).mono ?_; rintro e w3 ⟨rfl, d3, rfl⟩; rw [k2])
              | (go_at_call 260; refine (less_calls w1 A okf _ _ kb f (HKB.out _ hb1) (HFB.out.below hb1)).mono ?_; rintro e w2 ⟨rfl, d2, rfl⟩; rw [k1]))
            have hb4 : Below wo.heap.size wo (w1.drewN (d2 + d3)) := below_drewN hb1 _
            cases lo with
            | none =>
              have HIR : Hid (inRange f t none kb = true) := by show _ = _; simp [inRange, k1, k2]
              obtain rfl : bb = true := HBB.out
              obtain ⟨w5, hw5⟩ : ∃ w5, w5 = w1.drewN (d2 + d3) := ⟨_, rfl⟩
              have hb5 : Below wo.heap.size wo w5 := by rw [hw5]; exact hb4
              have hwl5 : wr.heap.size < w5.heap.size := by rw [hw5]; simp; omega
              have e5 : w5.cell? ⟨wr.heap.size, 0, none⟩ = some (.slice xa xn xc) := by rw [hw5]; exact e0
              have s5 : w5.cell? ⟨S, 0, none⟩ = some (.slice pa n pcap) := (hb5.cell (p := ⟨S, 0, none⟩) hSl).trans s0
              rw [← hw5]
              clear hw5
              cases PQ with
              | none =>
                have HNX : Hid (pickN ps f t none (q + 1) = some q) := by show _ = _; rw [HPK.out, HIR.out]; rfl
                have hpv : pv none = -1 := rfl
                go_upto_region 9 with fail
                refine wp_region_ext w5.heap.size (by kernel_rfl) (by kernel_rfl) ?_
                repeat (go_big_quiet_step ((fail)))
                refine wpQuiet_nil ?_
                intro _ hw'
                obtain ⟨x, hw2⟩ := hw'
                subst hw2
                obtain ⟨w6, hb6⟩ := x
                simp only []
                have hb7 : Below wo.heap.size wo w6 := hb5.trans (hb6.mono hb5.size)
                clear hb6
                go_wp2
                go_roundw
                case measure => simp [intOf]; omega
                case rel => exact ⟨q + 1, by omega, by go_num, (congrArg (fun o => Value.int .i64 (pv o)) HNX.out).symm, hb7⟩
              | some j =>
                obtain ⟨hjq, -⟩ := pickN_some HPQ.out.symm
                have hj : j < zs.length := by omega
                have hrj := HPC.out j hj
                rw [← rng_of_block (hb5.block pb hpbl)] at hrj
                have cj := (rng_cell hrj).2 0 (by decide)
                have hzj := HZB.out zs[j] (List.getElem_mem hj)
                have hkj := HKEY.out j hj
                generalize zs[j] = zj at *
                obtain ⟨⟨⟨ja, jn, jc⟩, ⟨ia, inn, ic⟩⟩, ⟨jb, ib⟩⟩ := zj
                simp only [zCs, sv, List.getElem?_toArray, List.getElem?_cons_zero, Nat.add_zero] at cj
                simp only at hkj hzj
                have hKW := HKB.out w5 hb5
                have hJW : BytesAt w5 A (.slice ja jn jc) jb := hzj.1.below hb5
                have HLX := hide (fun X => less_ext (H := w5.heap.size) rfl hKW hJW X)
                have hij := fun W => hpi W (j : Int) (by omega) (by omega)
                rw [show ((j : Int)).toNat = j by omega] at hij
                have hpv : pv (some j) = (j : Int) := rfl
                have hjn : decide ((j : Int) < 0) = false := decide_eq_false (by omega)
                have hSl5 : S < w5.heap.size := Nat.lt_of_lt_of_le hSl hb5.size
                have hpbl5 : pb < w5.heap.size := Nat.lt_of_lt_of_le hpbl hb5.size
                clear hrj hzj hKW hJW
                cases k4 : ltB kb jb with
                | true =>
                  have HNX : Hid (pickN ps f t none (q + 1) = some q) := by show _ = _; rw [HPK.out, HIR.out]; simp [hkj, k4]
                  rw [k4] at HLX
                  go_upto_region 9 with fail
                  refine wp_region_ext w5.heap.size (by kernel_rfl) (by kernel_rfl) ?_
                  repeat (go_big_quiet_step (((go_at_call 260; refine ext_call (Nat.le_refl _) (HLX.out _)))))
                  refine wpQuiet_nil ?_
                  intro _ hw'
                  obtain ⟨x, hw2⟩ := hw'
                  subst hw2
                  obtain ⟨w6, hb6⟩ := x
                  simp only []
                  have hb7 : Below wo.heap.size wo w6 := hb5.trans (hb6.mono hb5.size)
                  clear hb6
                  go_wp2
                  go_roundw
                  case measure => simp [intOf]; omega
                  case rel => exact ⟨q + 1, by omega, by go_num, (congrArg (fun o => Value.int .i64 (pv o)) HNX.out).symm, hb7⟩
                | false =>
                  have HNX : Hid (pickN ps f t none (q + 1) = some j) := by show _ = _; rw [HPK.out, HIR.out]; simp [hkj, k4]
                  rw [k4] at HLX
                  go_upto_region 9 with fail
                  refine wp_region_ext w5.heap.size (by kernel_rfl) (by kernel_rfl) ?_
                  repeat (go_big_quiet_step (((go_at_call 260; refine ext_call (Nat.le_refl _) (HLX.out _)))))
                  refine wpQuiet_nil ?_
                  intro _ hw'
                  obtain ⟨x, hw2⟩ := hw'
                  subst hw2
                  obtain ⟨w6, hb6⟩ := x
                  simp only []
                  have hb7 : Below wo.heap.size wo w6 := hb5.trans (hb6.mono hb5.size)
                  clear hb6
                  go_wp2
                  go_roundw
                  case measure => simp [intOf]; omega
                  case rel => exact ⟨q + 1, by omega, by go_num, (congrArg (fun o => Value.int .i64 (pv o)) HNX.out).symm, hb7⟩
            | some lk =>
              obtain rfl : bb = false := HBB.out
              obtain ⟨okl, hLK⟩ : ∃ ok, BytesAt wo ok u8 lk := HLV.out
              obtain ⟨ua, un, uc, rfl⟩ := hLK.form
              cases k3 : ltB lk kb with
              | false =>
                have HNX : Hid (pickN ps f t (some lk) (q + 1) = PQ) := by show _ = _; rw [HPK.out]; simp [inRange, k1, k2, k3]
                go_wp2_with (go_at_call 260; refine (less_calls _ okl A _ _ lk kb (hLK.below hb4) (HKB.out _ hb4)).mono ?_; rintro e w5 ⟨rfl, d5, rfl⟩; rw [k3])
                go_roundw
                case measure => simp [intOf]; omega
                case rel => exact ⟨q + 1, by omega, by go_num, (congrArg (fun o => Value.int .i64 (pv o)) HNX.out).symm, by first | exact below_drewN hb4 d5 | exact below_drewN hb1 _⟩
              | true =>
                have HIR : Hid (inRange f t (some lk) kb = true) := by show _ = _; simp [inRange, k1, k2, k3]
                go_upto_region 9 with (go_at_call 260; refine (less_calls _ okl A _ _ lk kb (hLK.below hb4) (HKB.out _ hb4)).mono ?_; rintro e w5 ⟨rfl, d5, rfl⟩; rw [k3])
                obtain ⟨w5, hw5⟩ : ∃ w5, w5 = w1.drewN (d2 + d3 + d5) := ⟨_, rfl⟩
                have hb5 : Below wo.heap.size wo w5 := by rw [hw5]; exact below_drewN hb1 _
                have hwl5 : wr.heap.size < w5.heap.size := by rw [hw5]; simp; omega
                have e5 : w5.cell? ⟨wr.heap.size, 0, none⟩ = some (.slice xa xn xc) := by rw [hw5]; exact e0
                have s5 : w5.cell? ⟨S, 0, none⟩ = some (.slice pa n pcap) := (hb5.cell (p := ⟨S, 0, none⟩) hSl).trans s0
                rw [← hw5]
                clear hw5
                cases PQ with
                | none =>
                  have HNX : Hid (pickN ps f t (some lk) (q + 1) = some q) := by show _ = _; rw [HPK.out, HIR.out]; rfl
                  have hpv : pv none = -1 := rfl
                  go_upto_region 9 with fail
                  refine wp_region_ext w5.heap.size (by kernel_rfl) (by kernel_rfl) ?_
                  repeat (go_big_quiet_step ((fail)))
                  refine wpQuiet_nil ?_
                  intro _ hw'
                  obtain ⟨x, hw2⟩ := hw'
                  subst hw2
                  obtain ⟨w6, hb6⟩ := x
                  simp only []
                  have hb7 : Below wo.heap.size wo w6 := hb5.trans (hb6.mono hb5.size)
                  clear hb6
                  go_wp2
                  go_roundw
                  case measure => simp [intOf]; omega
                  case rel => exact ⟨q + 1, by omega, by go_num, (congrArg (fun o => Value.int .i64 (pv o)) HNX.out).symm, hb7⟩
                | some j =>
                  obtain ⟨hjq, -⟩ := pickN_some HPQ.out.symm
                  have hj : j < zs.length := by omega
                  have hrj := HPC.out j hj
                  rw [← rng_of_block (hb5.block pb hpbl)] at hrj
                  have cj := (rng_cell hrj).2 0 (by decide)
                  have hzj := HZB.out zs[j] (List.getElem_mem hj)
                  have hkj := HKEY.out j hj
                  generalize zs[j] = zj at *
                  obtain ⟨⟨⟨ja, jn, jc⟩, ⟨ia, inn, ic⟩⟩, ⟨jb, ib⟩⟩ := zj
                  simp only [zCs, sv, List.getElem?_toArray, List.getElem?_cons_zero, Nat.add_zero] at cj
                  simp only at hkj hzj
                  have hKW := HKB.out w5 hb5
                  have hJW : BytesAt w5 A (.slice ja jn jc) jb := hzj.1.below hb5
                  have HLX := hide (fun X => less_ext (H := w5.heap.size) rfl hKW hJW X)
                  have hij := fun W => hpi W (j : Int) (by omega) (by omega)
                  rw [show ((j : Int)).toNat = j by omega] at hij
                  have hpv : pv (some j) = (j : Int) := rfl
                  have hjn : decide ((j : Int) < 0) = false := decide_eq_false (by omega)
                  have hSl5 : S < w5.heap.size := Nat.lt_of_lt_of_le hSl hb5.size
                  have hpbl5 : pb < w5.heap.size := Nat.lt_of_lt_of_le hpbl hb5.size
                  clear hrj hzj hKW hJW
                  cases k4 : ltB kb jb with
                  | true =>
                    have HNX : Hid (pickN ps f t (some lk) (q + 1) = some q) := by show _ = _; rw [HPK.out, HIR.out]; simp [hkj, k4]
                    rw [k4] at HLX
                    go_upto_region 9 with fail
                    refine wp_region_ext w5.heap.size (by kernel_rfl) (by kernel_rfl) ?_
                    repeat (go_big_quiet_step (((go_at_call 260; refine ext_call (Nat.le_refl _) (HLX.out _)))))
                    refine wpQuiet_nil ?_
                    intro _ hw'
                    obtain ⟨x, hw2⟩ := hw'
                    subst hw2
                    obtain ⟨w6, hb6⟩ := x
                    simp only []
                    have hb7 : Below wo.heap.size wo w6 := hb5.trans (hb6.mono hb5.size)
                    clear hb6
                    go_wp2
                    go_roundw
                    case measure => simp [intOf]; omega
                    case rel => exact ⟨q + 1, by omega, by go_num, (congrArg (fun o => Value.int .i64 (pv o)) HNX.out).symm, hb7⟩
                  | false =>
                    have HNX : Hid (pickN ps f t (some lk) (q + 1) = some j) := by show _ = _; rw [HPK.out, HIR.out]; simp [hkj, k4]
                    rw [k4] at HLX
                    go_upto_region 9 with fail
                    refine wp_region_ext w5.heap.size (by kernel_rfl) (by kernel_rfl) ?_
                    repeat (go_big_quiet_step (((go_at_call 260; refine ext_call (Nat.le_refl _) (HLX.out _)))))
                    refine wpQuiet_nil ?_
                    intro _ hw'
                    obtain ⟨x, hw2⟩ := hw'
                    subst hw2
                    obtain ⟨w6, hb6⟩ := x
                    simp only []
                    have hb7 : Below wo.heap.size wo w6 := hb5.trans (hb6.mono hb5.size)
                    clear hb6
                    go_wp2
                    go_roundw
                    case measure => simp [intOf]; omega
                    case rel => exact ⟨q + 1, by omega, by go_num, (congrArg (fun o => Value.int .i64 (pv o)) HNX.out).symm, hb7⟩
      · have hqn : q = n := by omega
        have HPK : Hid (pick ps f t lo = pickN ps f t lo q) := by show _ = _; rw [pick, HNP.out, hqn]
        obtain ⟨PQ, hPQ⟩ : ∃ PQ, PQ = pickN ps f t lo q := ⟨_, rfl⟩
        rw [← hPQ] at HPK ⊢
        have HPQ := hide hPQ
        clear hPQ hqn
        obtain ⟨nn, hn1, hn2⟩ := HSC.out
        cases PQ with
        | none =>
          have HF : Hid (FIN = l) := by
            show _ = _
            obtain ⟨n', rfl⟩ : ∃ n', nn = n' + 1 := ⟨nn - 1, by omega⟩
            rw [← hn2, scanB, HPK.out]; simp
          have hpv : pv none = -1 := rfl
          go_wp2
          refine bodyPost_ret (results_none rfl _ _ _) rfl ?_
          exact ⟨rfl, l, true, HV.out.grow _ _ _ _ HI.out hbel, Or.inl ⟨rfl, HF.out.symm⟩⟩
        | some i =>
          obtain ⟨hiq, hir⟩ := pickN_some HPQ.out.symm
          have hi : i < zs.length := by have := HN.out; omega
          have hri := HPC.out i hi
          have hpbl := HPB.out (by omega)
          rw [← rng_of_block (hbel.block pb hpbl)] at hri
          have c0 := (rng_cell hri).2 0 (by decide)
          have c1 := (rng_cell hri).2 1 (by decide)
          have hzi := HZB.out zs[i] (List.getElem_mem hi)
          have hki := HKEY.out i hi
          have hpsi := HPS.out i hi
          generalize zs[i] = z at *
          obtain ⟨⟨⟨xa, xn, xc⟩, ⟨ya, yn, yc⟩⟩, ⟨kb, vb⟩⟩ := z
          simp only [zCs, sv, List.getElem?_toArray, List.getElem?_cons_zero, List.getElem?_cons_succ, Nat.add_zero] at c0 c1
          simp only [sv] at hki hzi hpsi
          have hmem : (kb, vb) ∈ ps := List.mem_of_getElem? hpsi
          have hirn := inRange_none hir
          rw [hki] at hirn
          have HLT := hide (leftC_lt HPK.out)
          rw [hki] at HLT
          have HST : Hid (∃ n, leftC ps f t (some kb) < n ∧ (l ++ [(kb, vb)]) ++ scanB ps f t n (some kb) = FIN) := by
            obtain ⟨n', rfl⟩ : ∃ n', nn = n' + 1 := ⟨nn - 1, by omega⟩
            refine ⟨n', by have := HLT.out; omega, ?_⟩
            rw [← hn2, scanB, HPK.out]
            simp [hki, hpsi]
          have HLL : Hid (l.length ≤ ps.length + 1) := by
            show _ ≤ _
            have h1 := congrArg List.length hn2
            have h2 := scanB_len ps f t (ps.length + 1) none
            rw [← HFIN.out] at h2
            simp only [List.length_append] at h1
            omega
          have hg0 := HV.out.size _ _ HI.out
          have hpv : pv (some i) = (i : Int) := rfl
          have hix := fun W => hpi W (i : Int) (by omega) (by omega)
          rw [show ((i : Int)).toNat = i by omega] at hix
          have hin : decide ((i : Int) < 0) = false := decide_eq_false (by omega)
          have HZI := hide hzi
          have HMEM := hide hmem
          have HIRN := hide hirn
          have hSl8 : S < wr.heap.size := Nat.lt_of_lt_of_le hSl hlr
          have hpbl8 : pb < wr.heap.size := Nat.lt_of_lt_of_le hpbl hlr
          clear hri hzi hmem hirn hki hpsi hn1 hn2 hir
          go_upto_region 14 with fail
          refine wp_region_mixT wr.heap.size [6, 10] (by kernel_rfl) ?_
          refine mixT_slots [0, 1, 3, 4, 5, 7] (fuel := 8) rfl (by kernel_rfl) (by kernel_rfl) (fun d _ _ _ _ h => by cases d <;> exact h) ?_
          simp only [opersAt, List.getElem?_toArray, List.getElem?_cons_zero, List.getElem?_cons_succ]
          repeat (go_big_quiet_step (fail))
          refine wpQuiet_nil ?_
          refine mixT_reads [6] (fuel := 7) rfl (by kernel_rfl) (by decide) (by kernel_rfl) (fun d _ _ _ _ h => by cases d <;> exact h) (ext_drew _ _) ?_
          simp only [opersAt, List.getElem?_toArray, List.getElem?_cons_zero, List.getElem?_cons_succ]
          repeat (go_big_quiet_step (fail))
          refine wpQuiet_nil ?_
          refine mixT_slots [8, 9] (fuel := 5) rfl (by kernel_rfl) (by kernel_rfl) (fun d _ _ _ _ h => by cases d <;> exact h) ?_
          simp only [opersAt, List.getElem?_toArray, List.getElem?_cons_zero, List.getElem?_cons_succ]
          repeat (go_big_quiet_step (fail))
          refine wpQuiet_nil ?_
          refine mixT_reads [10] (fuel := 4) rfl (by kernel_rfl) (by decide) (by kernel_rfl) (fun d _ _ _ _ h => by cases d <;> exact h) (ext_drew _ _) ?_
          simp only [opersAt, List.getElem?_toArray, List.getElem?_cons_zero, List.getElem?_cons_succ]
          repeat (go_big_quiet_step (fail))
          refine wpQuiet_nil ?_
          refine mixT_one (k := 2) (by kernel_rfl) rfl ?_
          go_wp2_with (go_at_call 210; refine (clone_calls' wr.drew A _ kb (HZI.out.1.below hbel.drew)).mono ?_; rintro e y1 ⟨rfl, rfl⟩)
          have hy1 : Below wr.heap.size wr (cloneW wr.drew kb) := ((Below.refl _ _).drew).trans (clone_below wr.drew kb)
          have hs1 : (cloneW wr.drew kb).heap.size = wr.heap.size + 1 := by simp [cloneW]
          have hbo1 : Below wo.heap.size wo (cloneW wr.drew kb) := hbel.trans (hy1.mono hlr)
          refine ⟨Or.inr (fun _ => ⟨⟨_, hy1⟩, rfl⟩), ?_⟩
          refine mixT_one (k := 11) (by kernel_rfl) rfl ?_
          go_wp2_with (go_at_call 210; refine (clone_calls' _ A _ vb (HZI.out.2.below hbo1)).mono ?_; rintro e y2 ⟨rfl, rfl⟩)
          have hy2 : Below wr.heap.size wr (cloneW (cloneW wr.drew kb) vb) := hy1.trans ((clone_below _ _).mono (by omega))
          have hbo2 : Below wo.heap.size wo (cloneW (cloneW wr.drew kb) vb) := hbel.trans (hy2.mono hlr)
          refine ⟨Or.inr (fun _ => ⟨⟨_, hy2⟩, rfl⟩), ?_⟩
          have HKB : Hid (BytesAt (cloneW (cloneW wr.drew kb) vb) (g0 ≤ ·) (.slice (some ⟨wr.heap.size, 0, none⟩) kb.length kb.length) kb) := BytesAt.mono (BytesAt.below (clone_bytes wr.drew kb HZI.out.1.len) (clone_below _ _)) (Same.refl _ _) (fun b hb => by have h9 : wr.heap.size ≤ b := hb; show g0 ≤ b; omega)
          have HVB : Hid (BytesAt (cloneW (cloneW wr.drew kb) vb) (g0 ≤ ·) (.slice (some ⟨wr.heap.size + 1, 0, none⟩) vb.length vb.length) vb) := by
            have h9 := clone_bytes (cloneW wr.drew kb) vb HZI.out.2.len
            simp only [cloneV, hs1] at h9
            exact h9.mono (Same.refl _ _) (fun b hb => by have h8 : wr.heap.size + 1 ≤ b := hb; show g0 ≤ b; omega)
          have HCV := hide (HV.out.call _ l (kb, vb) _ _ (HV.out.grow _ _ _ _ HI.out hbo2) HLL.out HMEM.out HIRN.out HKB.out HVB.out)
          refine mixT_one (k := 12) (by kernel_rfl) rfl ?_
          go_wp2_with (go_at_call 250; refine HCV.out.mono ?_; rintro e y3 ⟨bb3, rfl, hInv3, hsame3⟩)
          refine ⟨Or.inl (by kernel_rfl), ?_⟩
          refine mixT_slots [13] (fuel := 0) rfl (by kernel_rfl) (by kernel_rfl) (fun d _ _ _ _ h => by cases d <;> exact h) ?_
          simp only [opersAt, List.getElem?_toArray, List.getElem?_cons_zero, List.getElem?_cons_succ]
          repeat (go_big_quiet_step (fail))
          refine wpQuiet_nil ?_
          refine mixT_nil (by kernel_rfl) ?_
          cases bb3 with
          | false =>
            go_wp2
            refine bodyPost_ret (results_none rfl _ _ _) rfl ?_
            exact ⟨rfl, _, false, hInv3, Or.inr ⟨rfl, HST.out.elim fun n h => ⟨_, h.2⟩⟩⟩
          | true =>
            go_wp2
            go_roundg (leftC ps f t (some kb))
            case measure => exact HLT.out
            case rel =>
              refine ⟨some kb, l ++ [(kb, vb)], false, rfl, rfl, rfl, hInv3, ⟨A, ?_⟩, HST⟩
              exact (HZI.out.1.below hbo2).mono hsame3 (fun _ h => h)

end Go.Proofs.Qxb6500666aGreatDoor
