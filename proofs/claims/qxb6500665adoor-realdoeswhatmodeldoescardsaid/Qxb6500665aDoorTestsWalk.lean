/- Tests, walked. -/
import Derived.Test.Qxb6500665aDoorSmallWalks
import Derived.Test.Qxb6500665aDoorSort32Walk
namespace Go.Proofs.Qxb6500665aDoor
open Go.RowKit Go.Proofs.Qxb6500665aDoor.Cal

/-- What of the first i is kept: each that is not like the one before it. -/
def ddN (S : List Int) : Nat → List Int
  | 0 => []
  | i + 1 => if i = 0 ∨ S[i]? ≠ S[i - 1]? then ddN S i ++ (S[i]?).toList else ddN S i
def ddup (S : List Int) : List Int := ddN S S.length

theorem ddN_len (S : List Int) : ∀ i, i ≤ S.length → (ddN S i).length ≤ i ∧ ((ddN S i).length = i → ddN S i = S.take i)
  | 0, _ => by simp [ddN]
  | i + 1, h => by
    obtain ⟨h1, h2⟩ := ddN_len S i (by omega)
    have hi : i < S.length := by omega
    have hs : S[i]?.toList = [S[i]] := by rw [List.getElem?_eq_getElem hi]; rfl
    unfold ddN
    split
    · rw [hs]
      refine ⟨by simp; omega, fun hl => ?_⟩
      rw [h2 (by simp at hl; exact hl), List.take_succ_eq_append_getElem hi]
    · exact ⟨by omega, fun hl => by omega⟩

/-- The analytes of the panels. -/
def gath (pan : Int → Option (List Int)) : List Int → Option (List Int)
  | [] => some []
  | id :: r => match pan id, gath pan r with
    | some a, some b => some (a ++ b)
    | _, _ => none

theorem gath_append (pan : Int → Option (List Int)) (xs ys : List Int) : gath pan (xs ++ ys) = match gath pan xs, gath pan ys with | some a, some b => some (a ++ b) | _, _ => none := by
  induction xs with
  | nil => simp [gath]; cases gath pan ys <;> rfl
  | cons x r ih =>
    simp only [List.cons_append, gath, ih]
    cases pan x <;> cases gath pan r <;> cases gath pan ys <;> simp

theorem gath_none {pan : Int → Option (List Int)} {xs : List Int} {x : Int} (hx : x ∈ xs) (h : pan x = none) : gath pan xs = none := by
  induction xs with
  | nil => cases hx
  | cons y r ih =>
    rcases List.mem_cons.1 hx with rfl | hx
    · simp [gath, h]
    · simp only [gath, ih hx]
      cases pan y <;> rfl

theorem gath_take {pan : Int → Option (List Int)} {xs : List Int} {q : Nat} {acc ids : List Int} (h : q < xs.length) (ha : gath pan (xs.take q) = some acc) (hi : pan xs[q] = some ids) : gath pan (xs.take (q + 1)) = some (acc ++ ids) := by
  rw [List.take_succ_eq_append_getElem h, gath_append, ha]
  simp [gath, hi]

/-- The panels that the pairs hold. -/
structure PanRep (ps : List KV) (pan : Int → Option (List Int)) : Prop where
  get : ∀ id, U32 id → getB ps (keyB 112 id) = (pan id).map idsB
  ok : ∀ id ids, pan id = some ids → 0 < ids.length ∧ ids.length ≤ 8 ∧ ∀ x ∈ ids, U32 x

theorem OwnR.set1 {w : World} {base g n cap : Nat} {xs : List Int} (h : OwnR w base 29 1 u32Cs (.slice (some ⟨g, 0, none⟩) n cap) xs) (d : Nat) (hd : d < xs.length) (x : Int) (hl : xs.length ≤ 1000000) :
    OwnR (w.setCell ⟨g, d, none⟩ (.int .u32 x)) base 29 1 u32Cs (.slice (some ⟨g, 0, none⟩) n cap) (xs.set d x) ∧ w.cell? ⟨g, d, none⟩ = some (.int .u32 xs[d]) ∧ w.frozen? ⟨g, d, none⟩ = false := by
  rcases h.2 with ⟨h2, h3⟩ | ⟨g1, cap1, cur, h2, hg, hh, r1, r2, r3, r4⟩
  · cases h2
  · injection h2 with q1 q2 q3
    injection q1 with q1
    injection q1 with q1 _
    subst q1
    have hcell : w.cell? ⟨g, d, none⟩ = some (.int .u32 xs[d]) := by
      have h9 := (h.rowsAt u32Cs_size (by decide) (by omega))
      obtain ⟨a, c, b, off, k0, k1, k2, k3, k4, k5⟩ := h9
      injection k0 with e1 e2 e3
      rw [(k4 (by omega)).1] at e1
      injection e1 with e1
      injection e1 with e1 e4
      subst e1 e4
      have := (rng_cell (k5 d hd)).2 0 (by decide)
      simpa [u32Cs] using this
    have hfz : w.frozen? ⟨g, d, none⟩ = false := by simp [World.frozen?, hh]
    obtain ⟨g', w', hg', hst, hown, -⟩ := OwnR.put (P := Tryd.prog) h u32Cs_size u32Cs_one d hd x
    injection hg' with hg'
    injection hg' with hg' _
    subst hg'
    have hrun : (storeCells ⟨g, d * 1, none⟩ (u32Cs x).toList 0).run Tryd.prog w = .ok () (w.setCell ⟨g, d, none⟩ (.int .u32 x)) := by
      show (storeCells ⟨g, d * 1, none⟩ [.int .u32 x] 0).run Tryd.prog w = _
      simp only [storeCells, Sem.run_bind, Nat.mul_one, Addr.add_lit, Nat.add_zero]
      rw [run_store Tryd.prog w ⟨g, d, none⟩ (.int .u32 x) .plain rfl, hcell]
      simp [hfz]
    rw [hrun] at hst
    injection hst with _ hst
    exact ⟨hst ▸ hown, hcell, hfz⟩

/-- append of one number onto a shorter view of an owned row. -/
theorem OwnR.appRoom {w : World} {base g n cap : Nat} {xs : List Int} (h : OwnR w base 29 1 u32Cs (.slice (some ⟨g, 0, none⟩) n cap) xs) (d : Nat) (hd : d < xs.length) (x : Int) (s : Nat) (hs : w.cell? ⟨s, 0, none⟩ = some (.int .u32 x)) :
    ∃ w', (∀ ty, (Builtin.append_ #[31, 31] ty #[.slice (some ⟨g, 0, none⟩) d cap, .slice (some ⟨s, 0, none⟩) 1 1]).run Tryd.prog w = .ok (.slice (some ⟨g, 0, none⟩) (d + 1) cap) w') ∧ OwnR w' base 29 1 u32Cs (.slice (some ⟨g, 0, none⟩) n cap) (xs.set d x) ∧ Below base w w' := by
  obtain ⟨ti, hinf, hz0, hz1, hz2⟩ := info_parts Tryd.info29
  obtain ⟨g', w', hg', hst, hown, -, -, hbel, -, -⟩ := OwnR.put (P := Tryd.prog) h u32Cs_size u32Cs_one d hd x
  injection hg' with hg'
  injection hg' with hg' _
  subst hg'
  rcases h.2 with ⟨h2, h3⟩ | ⟨g1, cap1, cur, h2, hg, hh, r1, r2, r3, r4⟩
  · cases h2
  · injection h2 with q1 q2 q3
    injection q1 with q1
    injection q1 with q1 _
    subst q1 q3
    have hst2 := run_storeCells_at Tryd.prog g (d * 1) 29 (u32Cs x).toList 0 cur w hh (by simp [u32Cs]; omega) (u32Cs_one x)
    rw [hst] at hst2
    injection hst2 with _ hw'
    refine ⟨w', fun ty => ?_, hown, hbel⟩
    have hap := run_append_room (P := Tryd.prog) w 31 ty 29 ti Tryd.underlying31 hinf g d cap cur hh ⟨s, 0, none⟩ 1 1 (u32Cs x).toList (by rw [hz1]; rfl) (fun j u hu => by
      have hj : j = 0 := by
        have := (List.getElem?_eq_some_iff.1 hu).1
        simp [u32Cs] at this; omega
      subst hj
      rw [Addr.add_lit]
      simp [u32Cs] at hu
      rw [← hu]; exact hs) (u32Cs_one x) (by omega) (by rw [hz1]; simp [u32Cs]; omega)
    rw [hap, hw', hz1]
    simp

theorem wpList_appRun {P : Program} {ops : Array Oper} {rest : List Oper} {o : Oper} {a : Act} {w : World} {Q : Exit → Act → World → Prop} (hgd : o.guard = none) (s x : Operand) (t : TypeId)
    (ho : o.op = .call { callee := .builtin .append, args := #[s, x], argTypes := #[t, t] }) (vs vx v' : Value) (w' : World) (hs : a.eval s = vs) (hx : a.eval x = vx) (hrun : (Builtin.append_ #[t, t] o.type #[vs, vx]).run P w = .ok v' w')
    (h : wpList P ops Q rest (a.put o.dst v') w') : wpList P ops Q (o :: rest) a w := by
  refine wpList_plain hgd fun K hK => ?_
  unfold Oper.wp
  simp [execOp, ho, resolve, invoke, builtin, hs, hx, hrun, Result.andThen]
  exact hK _ _ h

theorem OwnR.prefix {w : World} {base g n cap : Nat} {xs ys : List Int} (h : OwnR w base 29 1 u32Cs (.slice (some ⟨g, 0, none⟩) n cap) (xs ++ ys)) : OwnR w base 29 1 u32Cs (.slice (some ⟨g, 0, none⟩) xs.length cap) xs := by
  rcases h.2 with ⟨h2, h3⟩ | ⟨g1, cap1, cur, h2, hg, hh, r1, r2, r3, r4⟩
  · cases h2
  · injection h2 with q1 q2 q3
    injection q1 with q1
    injection q1 with q1 _
    subst q1 q3
    refine ⟨by rw [flat_length u32Cs_size], Or.inr ⟨g, cap, cur, rfl, hg, hh, by simp at r1; omega, r2, r3, ?_⟩⟩
    rw [flat_append] at r4
    have h9 := congrArg (List.take (xs.length * 1)) r4
    rw [List.take_take, Nat.min_eq_left (by simp)] at h9
    rw [h9]
    exact List.take_left' (by rw [flat_length u32Cs_size])

def tsList (pan : Int → Option (List Int)) (v : Visit) : Int × List Int := match gath pan v.panels with
  | none => (22, [])
  | some all => (0, ddup (sortL ltN all))
def tsT (pan : Int → Option (List Int)) (visit : Int) : List Visit → Int × List Int
  | [] => (19, [])
  | v :: r => if v.id = visit then tsList pan v else tsT pan visit r

/-- What Tests hands back. -/
def TsPost (w w' : World) (e : Ending) (r : Int × List Int) : Prop := ∃ lv, e = .returned (.tuple #[lv, errOr r.1]) ∧ OwnR w' w.heap.size 29 1 u32Cs lv r.2 ∧ Below w.heap.size w w'
theorem ret_ts {w w' : World} {e : Ending} {p q : Int × List Int} (h : Hid (p = q)) (hp : TsPost w w' e q) : TsPost w w' e p := by rw [h.out]; exact hp
theorem ts_no {w w' : World} {k : Int} (hk : k ≠ 0) (hb : Below w.heap.size w w') : TsPost w w' (.returned (.tuple #[.slice none 0 0, errW k])) (k, []) :=
  ⟨_, by rw [show errOr (k, ([] : List Int)).1 = errW k from errOr_pos hk], OwnR.nil _ _ _ _ _, hb⟩

attribute [local go_sem ↓] exec_stVersion exec_stPanel
attribute [local go_sem] run_stVersion run_stPanel ones_iis ones_is whole_alloc_lt whole_alloc_at whole_drew whole_setCell_other whole_setRow_other setRow_alloc_at setRow_alloc_lt

set_option maxRecDepth 100000 in
set_option maxHeartbeats 1000000 in
theorem tests_bad (w : World) (P : Nat) (vid m : Int) (hm : m < 0 ∨ 157785119 < m) :
    Calls Tryd.prog 28 #[.pointer (some ⟨P, 0, none⟩), .int .u32 vid, .int .i64 m] w fun e w' => TsPost w w' e (3, []) := by
  have HV := hide (versionAt_bad w P m hm)
  clear hm
  go_enter Tryd.func28, Tryd.ntmps28
  go_wp2_with (go_at_call 22; refine HV.out.mono ?_; rintro e w1 ⟨rfl, hb1⟩)
  go_ret2
  exact ts_no (by decide) (hb1.alloc hb1.size _)

set_option maxRecDepth 100000 in
set_option maxHeartbeats 1000000 in
theorem tests_nover (w : World) (P S : Nat) (A : Nat → Prop) (ps : List KV) (full : Bool) (vers : List Ver) (vid m : Int) (h : PAt w P S A ps full) (hv : VersRep ps vers) (m1 : 0 ≤ m) (m2 : m ≤ 157785119) (hin : inF vers m = none) :
    Calls Tryd.prog 28 #[.pointer (some ⟨P, 0, none⟩), .int .u32 vid, .int .i64 m] w fun e w' => TsPost w w' e (20, []) := by
  have HV := hide (versionAt_calls w P S A ps full vers m h hv m1 m2)
  rw [hin] at HV
  clear hin h hv
  go_enter Tryd.func28, Tryd.ntmps28
  go_wp2_with (go_at_call 22; refine HV.out.mono ?_; rintro e w1 ⟨hres, hb1⟩; have hres' : e = .returned (.tuple #[.agg #[.int .u32 0, .int .i64 0, .slice none 0 0], errV 20]) := hres; clear hres; subst hres')
  go_ret2
  exact ts_no (by decide) (hb1.alloc hb1.size _)

theorem tsT_drop {pan : Int → Option (List Int)} {visit : Int} {vs : List Visit} {q : Nat} (h : q < vs.length) : tsT pan visit (vs.drop q) = if vs[q].id = visit then tsList pan vs[q] else tsT pan visit (vs.drop (q + 1)) := by
  rw [List.drop_eq_getElem_cons h, tsT]

set_option maxRecDepth 100000 in
set_option maxHeartbeats 4000000 in
theorem tests_main (w : World) (P S : Nat) (A : Nat → Prop) (ps : List KV) (full : Bool) (vers : List Ver) (pan : Int → Option (List Int)) (vid m : Int) (k : Nat) (hk : k < vers.length) (h : PAt w P S A ps full) (hv : VersRep ps vers) (hpr : PanRep ps pan) (m1 : 0 ≤ m) (m2 : m ≤ 157785119) (hin : inF vers m = some k) (hvn : ∀ v ∈ vers[k].2, 0 < v.panels.length) :
    Calls Tryd.prog 28 #[.pointer (some ⟨P, 0, none⟩), .int .u32 vid, .int .i64 m] w fun e w' => TsPost w w' e (tsT pan vid vers[k].2) := by
  obtain ⟨R, hR⟩ : ∃ R, R = tsT pan vid vers[k].2 := ⟨_, rfl⟩
  have HR0 := hide hR
  rw [← hR]
  have HP := hide h
  have HPR := hide hpr
  have hvok := hv.ok vers[k] (List.getElem_mem hk)
  have HVOK := hide hvok
  have HVA := hide (versionAt_calls w P S A ps full vers m h hv m1 m2)
  rw [hin] at HVA
  clear h hv hR hin hpr hvok
  go_enter Tryd.func28, Tryd.ntmps28
  go_upto_region 4 with (go_at_call 22; refine HVA.out.mono ?_; rintro e w3 ⟨⟨hk', iv, rfl, hvis⟩, hb3⟩; obtain ⟨ia, icap, hiv⟩ := hvis.form; subst hiv)
  obtain ⟨vs, hvs⟩ : ∃ vs, vs = vers[k].2 := ⟨_, rfl⟩
  obtain ⟨EF, hEF⟩ : ∃ EF, EF = vers[k].1 := ⟨_, rfl⟩
  have HVO : Hid (∀ v ∈ vs, v.Ok) := by show ∀ v ∈ vs, v.Ok; rw [hvs]; exact HVOK.out.vis
  have HVPL : Hid (∀ v ∈ vs, v.panels.length ≤ 6) := by show ∀ v ∈ vs, _; rw [hvs]; exact HVOK.out.pan
  rw [← hvs] at hvis HR0 hvn ⊢
  rw [← hEF]
  clear hvs hEF
  obtain ⟨zs, hRR, hzm, hzp⟩ := hvis.lt
  obtain ⟨a, cap, b, off, hv0, hl, hm, hr, ha, hc⟩ := hRR
  obtain ⟨n, hn⟩ : ∃ n, n = zs.length := ⟨_, rfl⟩
  have hnv : vs.length = n := by rw [hn, ← hzm]; simp
  rw [hnv] at hv0 ⊢
  rw [← hn] at hv0
  injection hv0 with q1 q2 q3
  subst q1 q3
  rw [← hn] at hl hr ha
  have hi := run_indexAt_arr (P := Tryd.prog) (n := n) (cap := icap) Tryd.underlying32 Tryd.size63 (fun h => (ha h).1)
  have HB : Hid (0 < n → b < w3.heap.size) := fun h => (ha h).2.2
  have HC := hide hc
  have HZM := hide hzm
  have HZP := hide hzp
  have HN := hide hn
  have HNV := hide hnv
  have HVN := hide hvn
  have hb4 : Below w.heap.size w (w3.alloc (.cells #[.int .u32 ((k : Int) + 1), .int .i64 EF, .slice ia n icap] 41)) := hb3.alloc hb3.size _
  have hs4 : w3.heap.size ≤ (w3.alloc (.cells #[.int .u32 ((k : Int) + 1), .int .i64 EF, .slice ia n icap] 41)).heap.size := by simp
  have hR1 : Hid (R = tsT pan vid (vs.drop 0)) := HR0
  clear hc hzm hn hnv ha hvis hzp hvn hm HR0 HVA q2 HVOK
  go_wp2
  go_loopw [32] (fun j wr => ∃ q : Nat, q ≤ n ∧ j = .int .i64 q ∧ Below w3.heap.size w3 wr ∧ Hid (R = tsT pan vid (vs.drop q))) (fun j _ => n - (intOf j).toNat)
  case atStart => exact ⟨0, by omega, rfl, (Below.refl _ _).alloc (Nat.le_refl _) _, hR1⟩
  case round =>
    obtain ⟨q, hq, rfl, hbel, HRQ⟩ := hrel
    have hl3 : w.heap.size ≤ w3.heap.size := hb3.size
    have hlr : w3.heap.size ≤ wr.heap.size := hbel.size
    have hbw : Below w.heap.size w wr := hb3.trans (hbel.mono hl3)
    obtain ⟨wo, hwo⟩ : ∃ wo, wo = wr := ⟨_, rfl⟩
    subst hwo
    by_cases hlt : q < n
    · have h1 : q < zs.length := by rw [← HN.out]; exact hlt
      have h2 : q < vs.length := by rw [HNV.out]; exact hlt
      have hvq : vs[q] = zs[q].1 := by simp [← HZM.out]
      have hbb := HB.out (by omega)
      have hrg := HC.out q h1
      rw [← rng_of_block (hbel.block b hbb)] at hrg
      have hU := HZP.out zs[q] (List.getElem_mem h1)
      have hO := HVO.out vs[q] (List.getElem_mem h2)
      have hPl := HVPL.out vs[q] (List.getElem_mem h2)
      have hPn := HVN.out vs[q] (List.getElem_mem h2)
      have hRs := HRQ.out.trans (tsT_drop h2)
      rw [hvq] at hRs hO hPl hPn
      generalize zs[q] = z at *
      obtain ⟨⟨xid, xta, xea, xla, xpa⟩, ⟨pa, pn, pc⟩⟩ := z
      obtain ⟨-, -, -, -, hpr⟩ := hO
      have c0 := (rng_cell hrg).2 0 (by decide)
      have c1 := (rng_cell hrg).2 1 (by decide)
      have c2 := (rng_cell hrg).2 2 (by decide)
      have c3 := (rng_cell hrg).2 3 (by decide)
      have c4 := (rng_cell hrg).2 4 (by decide)
      simp only [vzCs, sv, List.getElem?_toArray, List.getElem?_cons_zero, List.getElem?_cons_succ, Nat.add_zero] at c0 c1 c2 c3 c4
      simp only at hRs hpr hPl hPn
      obtain ⟨w5, hw5⟩ : ∃ w5, w5 = wo.alloc (.cells #[.int .u32 xid, .int .i64 xta, .int .i64 xea, .int .i64 xla, .slice pa pn pc] 63) := ⟨_, rfl⟩
      have hb5 : Below w3.heap.size w3 w5 := by rw [hw5]; exact hbel.alloc hlr _
      by_cases hid : xid = vid
      · rw [if_pos hid] at hRs
        have HRS := hide hRs
        have hbid : (xid != vid) = false := by simp [hid]
        obtain ⟨PL, hPL⟩ : ∃ PL, xpa.length = PL := ⟨_, rfl⟩
        obtain ⟨pa', pcap', pb, poff, hpv, rr1, rr2, rr3, rr4, pha, phc⟩ := U32sAt.parts hU PL hPL
        simp only [sv] at hpv
        injection hpv with hv1 hv2 hv3
        subst hv1 hv2 hv3
        have hpi := run_indexAt_arr (P := Tryd.prog) (n := pn) (cap := pc) Tryd.underlying31 Tryd.size29 (fun h => (pha h).1)
        have HPB : Hid (0 < pn → pb < w3.heap.size) := fun h => (pha h).2.1.2
        have HPC := hide phc
        have HPN := hide hPL
        have HPRR := hide hpr
        have hpn6 : pn ≤ 6 := by rw [← hPL]; exact hPl
        have hpn0 : 0 < pn := by rw [← hPL]; exact hPn
        have hbw5 : Below w.heap.size w w5 := hb3.trans (hb5.mono hl3)
        have hl5 : w3.heap.size ≤ w5.heap.size := hb5.size
        clear hrg hU hvq pha phc hPL hpr hRs hid HRQ hPl hPn
        go_upto_region 10 with fail
        rw [← hw5]
        go_loopw [12, 43] (fun av j wr => ∃ (p : Nat) (acc : List Int), p ≤ pn ∧ j = .int .i64 p ∧ Below w5.heap.size w5 wr ∧ OwnR wr w5.heap.size 29 1 u32Cs av acc ∧ acc.length ≤ 8 * p ∧ (0 < p → 0 < acc.length) ∧ Hid (gath pan (xpa.take p) = some acc)) (fun _ j _ => pn - (intOf j).toNat)
        case atStart => exact ⟨0, [], by omega, rfl, Below.refl _ _, OwnR.nil _ _ _ _ _, by simp, fun h => by omega, by show _ = _; rfl⟩
        case round =>
          obtain ⟨p, acc, hp, rfl, hbel6, hown6, hal, hapos, HGA⟩ := hrel
          have hl6 : w5.heap.size ≤ wr.heap.size := hbel6.size
          have hbw6 : Below w.heap.size w wr := hbw5.trans (hbel6.mono hbw5.size)
          by_cases hlt2 : p < pn
          · have hpl : p < xpa.length := by rw [HPN.out]; exact hlt2
            have e0 := HPC.out p hpl
            have hpbl := HPB.out (by omega)
            have e1 : wr.cell? ⟨pb, poff + p, none⟩ = some (.int .u32 xpa[p]) := by
              rw [← e0, hbel6.cell (p := ⟨pb, poff + p, none⟩) (by show pb < _; omega), hb5.cell (p := ⟨pb, poff + p, none⟩) hpbl]
            have hxr := HPRR.out xpa[p] (List.getElem_mem hpl)
            have HMEM := hide (List.getElem_mem hpl)
            have HSTEP := hide (fun ids (hi : pan xpa[p] = some ids) => gath_take hpl HGA.out hi)
            have hget := HPR.out.get xpa[p] hxr
            generalize xpa[p] = x at *
            clear e0
            cases hpx : pan x with
            | none =>
              rw [hpx] at hget
              have HPA := hide (panel_none wr P S A ps full x (HP.out.below hbw6) hxr hget)
              have HE : Hid (R = (22, [])) := by show _ = _; rw [HRS.out, tsList, gath_none HMEM.out hpx]
              go_wp2_with (go_at_call 25; refine HPA.out.mono ?_; rintro e w7 ⟨rfl, hb7⟩)
              go_ret2
              exact ret_ts HE (ts_no (by decide) ((hbw6.trans (hb7.mono hbw6.size)).alloc (Nat.le_trans hbw6.size hb7.size) _))
            | some ids =>
              rw [hpx] at hget
              obtain ⟨o1, o2, o3⟩ := HPR.out.ok x ids hpx
              have HPA := hide (panel_some wr P S A ps full x ids (HP.out.below hbw6) hxr hget o3 o2)
              have HST := hide (HSTEP.out ids hpx)
              clear hget hpx
              go_upto_region 15 with (go_at_call 25; refine HPA.out.mono ?_; rintro e w7 ⟨iv, rfl, hids, hb7⟩; obtain ⟨ja, jcap, hjv⟩ := hids.form; generalize hJL : ids.length = JL at hjv; subst hjv)
              have hl7 : wr.heap.size ≤ w7.heap.size := hb7.size
              obtain ⟨ia2, icap2, ib2, ioff2, hiv2, s1, s2, s3, s4, iha, ihc⟩ := hids.parts JL hJL
              injection hiv2 with t1 t2 t3
              subst t1 t3
              have hsrc : 0 < JL → ∃ b' off', ja = some ⟨b', off', none⟩ ∧ ∀ i (hi : i < ids.length), rng (w7.alloc (.cells #[.int .u32 x, .slice ja JL jcap] 78)) b' (off' + i * 1) 1 = some (u32Cs ids[i]) := fun hp => ⟨ib2, ioff2, (iha hp).1, fun i hi => by
                rw [rng_of_block (Below.heap_alloc _ _ _ (iha hp).2.2), Nat.mul_one]
                exact rng_one (ihc i hi)⟩
              have HO7 : Hid (OwnR (w7.alloc (.cells #[.int .u32 x, .slice ja JL jcap] 78)) w5.heap.size 29 1 u32Cs u12 acc) := OwnR.below hown6 (hb7.alloc hl7 _) (Nat.le_refl _)
              have HJL := hide hJL
              clear iha ihc hids t2
              go_wp2_with (at_builtin; refine wpList_appN (α := Int) rfl _ _ 31 rfl w5.heap.size 29 u32Cs Tryd.underlying31 Tryd.info29 rfl (by decide) u32Cs_size u32Cs_one _ acc rfl HO7.out ja JL jcap rfl ids HJL.out.symm s4 hsrc (by omega) (by unfold maxLen; omega) (by simp; omega) ?_; intro v8 w8 hown8 hsame8 hbel8 hat8)
              go_roundw
              case measure => simp [intOf]; omega
              case rel => exact ⟨p + 1, acc ++ ids, by omega, by go_num, (hbel6.trans (hb7.mono hl6)).alloc (by omega) _ |>.trans hbel8, hown8, by simp; omega, fun _ => by simp; omega, HST⟩
          · have hgf : gath pan xpa = some acc := by
              have := HGA.out
              rwa [List.take_of_length_le (by rw [HPN.out]; omega)] at this
            have HRF : Hid (R = (0, ddup (sortL ltN acc))) := by show _ = _; rw [HRS.out, tsList, hgf]
            have hacc0 : 0 < acc.length := hapos (by omega)
            have haccl : acc.length ≤ 48 := by omega
            obtain ⟨g, gc, hu12, hgb, hgl, -⟩ := hown6.elem u32Cs_size (by decide) (by omega) hacc0
            obtain ⟨N, hN⟩ : ∃ N, N = acc.length := ⟨_, rfl⟩
            rw [← hN] at hu12
            subst hu12
            have HSORT := hide (sortU32_calls wr w5.heap.size (some ⟨g, 0, none⟩) N gc acc hown6 hl6 (by omega))
            obtain ⟨S1, hS1⟩ : ∃ S1, S1 = sortL ltN acc := ⟨_, rfl⟩
            rw [← hS1] at HSORT HRF
            have hS1l : S1.length = N := by rw [hS1, hN]; exact (sortL_perm ltN acc).length_eq
            have HSL := hide hS1l
            have hN0 : 0 < N := by omega
            have hN48 : N ≤ 48 := by omega
            have hcapN : N ≤ gc := by
              rcases hown6.2 with ⟨h9, _⟩ | ⟨g', c', cur, h9, _, _, h10, _⟩
              · cases h9
              · injection h9 with _ e2 e3; rw [e2, e3]; exact h10
            have hsl := fun W => run_slU32 W g 0 N gc 0 (by omega) (by omega)
            rw [show ((0 : Nat) : Int) = 0 from rfl] at hsl
            have hixA := run_indexAt_arr (P := Tryd.prog) (n := N) (cap := gc) Tryd.underlying31 Tryd.size29 (fun _ => (rfl : some (⟨g, 0, none⟩ : Addr) = _))
            clear hgf hown6 hN hS1 hS1l hacc0 haccl hal hapos hpi
            go_upto_region 18 with (go_at_call 67; refine HSORT.out.mono ?_; rintro e w7 ⟨rfl, hown7, hsame7, hbel7⟩)
            have HO7 := hide hown7
            have hl7 : wr.heap.size ≤ w7.heap.size := hbel7.size
            have hbw7 : Below w.heap.size w w7 := hbw6.trans (hbel7.mono hbw5.size)
            clear hown7
            go_wp2
            go_loopw [17, 67] (fun dv j wx => ∃ i : Nat, i ≤ N ∧ j = .int .i64 i ∧ dv = .slice (some ⟨g, 0, none⟩) (ddN S1 i).length gc ∧ Hid (OwnR wx w5.heap.size 29 1 u32Cs (.slice (some ⟨g, 0, none⟩) N gc) (ddN S1 i ++ S1.drop (ddN S1 i).length)) ∧ Below w5.heap.size w7 wx) (fun _ j _ => N - (intOf j).toNat)
            case atStart => exact ⟨0, by omega, rfl, rfl, by show OwnR _ _ _ _ _ _ _; simpa [ddN] using HO7.out, Below.refl _ _⟩
            case round =>
              obtain ⟨i, hiN, rfl, rfl, HOW, hbel9⟩ := hrel
              have hl9 : w7.heap.size ≤ wr.heap.size := hbel9.size
              obtain ⟨hdl, hdt⟩ := ddN_len S1 i (by rw [HSL.out]; exact hiN)
              by_cases hlt3 : i < N
              · have hiS : i < S1.length := by rw [HSL.out]; exact hlt3
                have hLL : (ddN S1 i ++ S1.drop (ddN S1 i).length).length = N := by simp [HSL.out]; omega
                have hat : ∀ j (hj : j < S1.length), (ddN S1 i).length ≤ j ∨ (ddN S1 i).length = i → wr.cell? ⟨g, j, none⟩ = some (.int .u32 S1[j]) := fun j hj hc => by
                  have h9 := (OwnR.set1 HOW.out j (by rw [hLL]; rw [HSL.out] at hj; exact hj) 0 (by rw [hLL]; omega)).2.1
                  rw [h9]
                  congr 2
                  rcases hc with hc | hc
                  · rw [List.getElem_append_right hc, List.getElem_drop]
                    congr 1
                    omega
                  · have e1 : ddN S1 i ++ S1.drop (ddN S1 i).length = S1 := by
                      rw [hdt hc]
                      have : (S1.take i).length = i := by simp; omega
                      rw [this]; exact List.take_append_drop i S1
                    simp only [e1]
                have hx := hat i hiS (Or.inl hdl)
                have hdL : (ddN S1 i).length < (ddN S1 i ++ S1.drop (ddN S1 i).length).length := by rw [hLL]; omega
                have hLle : (ddN S1 i ++ S1.drop (ddN S1 i).length).length ≤ 1000000 := by rw [hLL]; omega
                obtain ⟨-, kc1, kf1⟩ := OwnR.set1 HOW.out (ddN S1 i).length hdL 0 hLle
                have HSET : Hid ((ddN S1 i ++ S1.drop (ddN S1 i).length).set (ddN S1 i).length S1[i] = ddN S1 i ++ [S1[i]] ++ S1.drop ((ddN S1 i).length + 1)) := by
                  show _ = _
                  have hdS : (ddN S1 i).length < S1.length := by omega
                  rw [List.set_append_right _ _ (Nat.le_refl _), Nat.sub_self, List.drop_eq_getElem_cons hdS, List.set_cons_zero]
                  simp
                generalize hd0 : (ddN S1 i ++ S1.drop (ddN S1 i).length)[(ddN S1 i).length] = oldv at kc1
                obtain ⟨d, hd⟩ : ∃ d, d = (ddN S1 i).length := ⟨_, rfl⟩
                rw [← hd] at HOW hdl hdL hLle kc1 kf1 HSET ⊢
                have hdg : d < gc := by omega
                have hgw : g < wr.heap.size := by omega
                obtain ⟨w9, hap, hown9, hb9⟩ := OwnR.appRoom (OwnR.below HOW.out ((Below.refl _ _).alloc (Nat.le_refl _) (.cells #[.int .u32 S1[i]] 29)) (Nat.le_refl _)) d hdL S1[i] wr.heap.size (by simp)
                rw [HSET.out] at hown9
                have HO9 := hide hown9
                have hbel10 : Below w5.heap.size w7 w9 := (hbel9.alloc (by omega) _).trans hb9
                clear hown9 HSET kc1 kf1
                by_cases hi0 : i = 0
                · have HDN : Hid (ddN S1 (i + 1) = ddN S1 i ++ [S1[i]]) := by
                    show _ = _
                    rw [ddN, if_pos (Or.inl hi0), List.getElem?_eq_getElem hiS]; rfl
                  have hbz : ((i : Int) == 0) = true := by simp [hi0]
                  clear hi0
                  go_wp2_with (at_builtin; refine wpList_appRun rfl _ _ 31 rfl _ _ _ _ rfl rfl (hap _) ?_)
                  go_roundw
                  case measure => simp [intOf]; omega
                  case rel =>
                    refine ⟨i + 1, by omega, by go_num, by rw [HDN.out]; simp, ?_, hbel10⟩
                    show OwnR _ _ _ _ _ _ _
                    rw [HDN.out, List.length_append, ← hd]
                    exact HO9.out
                · have hp1 : i - 1 < S1.length := by omega
                  have hpc := hat (i - 1) hp1 (by omega)
                  have hi1 := fun W => hixA W ((i : Int) - 1) (by omega) (by omega)
                  rw [show ((i : Int) - 1).toNat = i - 1 by omega] at hi1
                  simp only [Nat.zero_add, Nat.mul_one] at hi1
                  have hbz : ((i : Int) == 0) = false := by simp; omega
                  by_cases hne : S1[i] = S1[i - 1]
                  · have hbn : (S1[i] != S1[i - 1]) = false := by simp [hne]
                    have HDN : Hid (ddN S1 (i + 1) = ddN S1 i) := by
                      show _ = _
                      rw [ddN, if_neg]
                      rw [List.getElem?_eq_getElem hiS, List.getElem?_eq_getElem hp1]
                      simp [hi0, hne]
                    have HX := hide hx
                    have HPC := hide hpc
                    clear hne
                    go_wp2
                    go_roundw
                    case measure => simp [intOf]; omega
                    case rel => exact ⟨i + 1, by omega, by go_num, by rw [HDN.out, hd], by show OwnR _ _ _ _ _ _ _; rw [HDN.out, ← hd]; exact HOW.out, hbel9⟩
                  · have hbn : (S1[i] != S1[i - 1]) = true := by simp [hne]
                    have HDN : Hid (ddN S1 (i + 1) = ddN S1 i ++ [S1[i]]) := by
                      show _ = _
                      rw [ddN, if_pos, List.getElem?_eq_getElem hiS]
                      · rfl
                      · rw [List.getElem?_eq_getElem hiS, List.getElem?_eq_getElem hp1]
                        simp [hne]
                    clear hne
                    go_wp2_with (at_builtin; refine wpList_appRun rfl _ _ 31 rfl _ _ _ _ rfl rfl (hap _) ?_)
                    go_roundw
                    case measure => simp [intOf]; omega
                    case rel =>
                      refine ⟨i + 1, by omega, by go_num, by rw [HDN.out]; simp, ?_, hbel10⟩
                      show OwnR _ _ _ _ _ _ _
                      rw [HDN.out, List.length_append, ← hd]
                      exact HO9.out
              · have HE : Hid (R = (0, ddN S1 i)) := by
                  show _ = _
                  rw [HRF.out, ddup, HSL.out, show i = N by omega]
                have hD := HOW.out
                go_wp2
                go_ret2
                exact ret_ts HE ⟨_, rfl, (OwnR.prefix hD).lower hbw5.size, hbw7.trans (hbel9.mono hbw5.size)⟩
      · rw [if_neg hid] at hRs
        have HRS := hide hRs
        have hbid : (xid != vid) = true := by simp [hid]
        clear hRs hid hrg hU hvq
        go_wp2
        rw [← hw5]
        go_roundw
        case measure => simp [intOf]; omega
        case rel => exact ⟨q + 1, by omega, by go_num, hb5, HRS⟩
    · have HRS : Hid (R = (19, [])) := by
        show _ = _
        rw [HRQ.out, List.drop_of_length_le (by rw [HNV.out]; omega)]; rfl
      go_wp2
      go_ret2
      exact ret_ts HRS (ts_no (by decide) hbw)

end Go.Proofs.Qxb6500665aDoor
