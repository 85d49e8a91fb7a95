/- Visits in memory; the version, the analyte written. -/
import Derived.Test.Qxb6500665aDoorEncWalk
namespace Go.Proofs.Qxb6500665aDoor
open Go.RowKit

abbrev ZV := Visit × SV
def vzCs (z : ZV) : Array Value := #[.int .u32 z.1.id, .int .i64 z.1.target, .int .i64 z.1.early, .int .i64 z.1.late, sv z.2]
theorem vzCs_size (z : ZV) : (vzCs z).size = 5 := rfl
theorem vzCs_one (z : ZV) : ∀ u ∈ (vzCs z).toList, u.oneCell' = true := by simp [vzCs, sv, Value.oneCell']

structure Visit.Ok (v : Visit) : Prop where
  id : U32 v.id
  target : I64 v.target
  early : I64 v.early
  late : I64 v.late
  panels : ∀ x ∈ v.panels, U32 x

/-- A slice of visits. -/
def VisitsAt (w : World) (ok : Nat → Prop) (v : Value) (vs : List Visit) : Prop :=
  ∃ zs : List ZV, RArr w ok 5 vzCs v zs ∧ zs.map (·.1) = vs ∧ ∀ z ∈ zs, U32sAt w ok (sv z.2) z.1.panels

theorem VisitsAt.mono {w w' : World} {ok ok' : Nat → Prop} {v : Value} {vs : List Visit} (h : VisitsAt w ok v vs) (hs : Same ok w w') (hk : ∀ b, ok b → ok' b) : VisitsAt w' ok' v vs := by
  obtain ⟨zs, h1, h2, h3⟩ := h
  exact ⟨zs, h1.mono hs hk, h2, fun z hz => (h3 z hz).mono hs hk⟩
theorem VisitsAt.lt {w : World} {ok : Nat → Prop} {v : Value} {vs : List Visit} (h : VisitsAt w ok v vs) : VisitsAt w (fun b => ok b ∧ b < w.heap.size) v vs := by
  obtain ⟨zs, h1, h2, h3⟩ := h
  exact ⟨zs, RArr.lt h1, h2, fun z hz => RArr.lt (h3 z hz)⟩
theorem VisitsAt.below {w w' : World} {ok : Nat → Prop} {v : Value} {vs : List Visit} (h : VisitsAt w ok v vs) (hb : Below w.heap.size w w') : VisitsAt w' ok v vs :=
  h.lt.mono (fun b hb' => hb.block b hb'.2) (fun _ hb' => hb'.1)
theorem VisitsAt.form {w : World} {ok : Nat → Prop} {v : Value} {vs : List Visit} (h : VisitsAt w ok v vs) : ∃ a cap, v = .slice a vs.length cap := by
  obtain ⟨zs, ⟨a, cap, b, off, rfl, -⟩, h2, h3⟩ := h
  exact ⟨a, cap, by rw [← h2]; simp⟩

theorem VisitsAt.of_arr {w : World} {ok : Nat → Prop} {v : Value} {vs : List Visit} (h : Arr w ok 5 (EVisit w ok) v vs) : VisitsAt w ok v vs ∧ ∀ x ∈ vs, x.Ok := by
  obtain ⟨a, cap, b, off, h1, h2, h3, h4, h5, h6⟩ := h
  have key : ∀ i (hi : i < vs.length), ∃ s : SV, U32sAt w ok (sv s) vs[i].panels ∧ vs[i].Ok ∧ rng w b (off + i * 5) 5 = some (vzCs (vs[i], s)) := by
    intro i hi
    obtain ⟨cs, hl, ⟨pv, rfl, a1, a2, a3, a4, a5⟩, hc⟩ := h6 i hi
    obtain ⟨p1, p2⟩ := U32sAt.of_arr a5
    obtain ⟨pa, pcap, rfl⟩ := p1.form
    refine ⟨(pa, vs[i].panels.length, pcap), p1, ⟨a1, a2, a3, a4, p2⟩, ?_⟩
    have := rng_of_cells (w := w) (b := b) (off := off + i * 5) (by simp) hc
    simpa [vzCs, sv] using this
  have hch : ∀ i : Nat, ∃ s : SV, ∀ hi : i < vs.length, U32sAt w ok (sv s) vs[i].panels ∧ vs[i].Ok ∧ rng w b (off + i * 5) 5 = some (vzCs (vs[i], s)) := by
    intro i
    by_cases hi : i < vs.length
    · obtain ⟨s, hs⟩ := key i hi; exact ⟨s, fun _ => hs⟩
    · exact ⟨(none, 0, 0), fun h => absurd h hi⟩
  obtain ⟨f, hf⟩ := Classical.axiomOfChoice hch
  have hlen : (vs.mapIdx fun i x => ((x, f i) : ZV)).length = vs.length := by simp
  refine ⟨⟨vs.mapIdx (fun i x => (x, f i)), ⟨a, cap, b, off, by rw [hlen, h1], by rw [hlen]; exact h2, h3, by rw [hlen]; exact h4, by rw [hlen]; exact h5, fun i hi => ?_⟩, ?_, fun z hz => ?_⟩, fun x hx => ?_⟩
  · have hi2 : i < vs.length := by rw [← hlen]; exact hi
    simpa using (hf i hi2).2.2
  · apply List.ext_getElem
    · simp
    · intro i h1 h2; simp
  · obtain ⟨i, hi, rfl⟩ := List.getElem_of_mem hz
    have hi2 : i < vs.length := by rw [← hlen]; exact hi
    simpa using (hf i hi2).1
  · obtain ⟨i, hi, rfl⟩ := List.getElem_of_mem hx
    exact (hf i hi).2.1

def visB (v : Visit) : List Int := d256 4 v.id ++ d256 8 (v.target + 9223372036854775808) ++ d256 8 (v.early + 9223372036854775808) ++ d256 8 (v.late + 9223372036854775808) ++ idsB v.panels
def visT : List Visit → List Int
  | [] => []
  | v :: r => visB v ++ visT r
def verB (eff : Int) (vs : List Visit) : List Int := d256 8 (eff + 9223372036854775808) ++ d256 1 vs.length ++ visT vs

theorem idsB_len (ids : List Int) : (idsB ids).length = 1 + 4 * ids.length := by simp [idsB, d256_len, idsT_len]
theorem visB_len (v : Visit) : (visB v).length = 29 + 4 * v.panels.length := by simp [visB, d256_len, idsB_len]; omega
theorem visT_append (a b : List Visit) : visT (a ++ b) = visT a ++ visT b := by
  induction a with
  | nil => rfl
  | cons x r ih => simp [visT, ih]
theorem visT_take {vs : List Visit} {q : Nat} (h : q < vs.length) : visT (vs.take (q + 1)) = visT (vs.take q) ++ visB vs[q] := by
  rw [List.take_succ_eq_append_getElem h, visT_append]
  exact congrArg _ (List.append_nil _)
theorem visT_len (vs : List Visit) (h : ∀ v ∈ vs, v.panels.length ≤ 255) : (visT vs).length ≤ 2000 * vs.length := by
  induction vs with
  | nil => simp [visT]
  | cons v r ih =>
    have h1 := ih (fun x hx => h x (List.mem_cons_of_mem _ hx))
    have h2 := h v (List.mem_cons_self ..)
    simp only [visT, List.length_append, visB_len, List.length_cons]
    omega

theorem WriterAt.none {w : World} {B g : Nat} {A : Nat → Prop} {bs : List Int} (h : WriterAt w B g A bs) : WriterAt w B g (fun _ => False) bs := by
  obtain ⟨a, cap, hg, hB, hown, hne, k1, k2, k3⟩ := h
  exact ⟨a, cap, hg, hB, hown, hne, fun h => h, fun _ _ h => h, fun _ h => h.elim⟩

set_option maxRecDepth 100000 in
set_option maxHeartbeats 2000000 in
theorem encodeVersion_calls (w : World) (num eff : Int) (ok : Nat → Prop) (vv : Value) (vs : List Visit) (hv : VisitsAt w ok vv vs) (he : I64 eff) (hok : ∀ v ∈ vs, v.Ok) (hp : ∀ v ∈ vs, v.panels.length ≤ 255) (hn : vs.length ≤ 255) :
    Calls Tryd.prog 58 #[.agg #[.int .u32 num, .int .i64 eff, vv]] w fun e w' => Enc w w' e (verB eff vs) := by
  obtain ⟨e1, e2⟩ := he
  obtain ⟨zs, hR, hzm, hzp⟩ := hv.lt
  obtain ⟨a, cap, b, off, rfl, hl, hm, hr, ha, hc⟩ := hR
  obtain ⟨n, hnn⟩ : ∃ n, n = zs.length := ⟨_, rfl⟩
  have Hn : Hid (n = zs.length) := hnn
  rw [← hnn] at hl hr ha ⊢
  have hnv : vs.length = n := by rw [hnn, ← hzm]; simp
  have hn' : n ≤ 255 := by omega
  have hi := run_indexAt_arr (P := Tryd.prog) (n := n) (cap := cap) Tryd.underlying32 Tryd.size63 (fun h => (ha h).1)
  have HB : Hid (0 < n → b < w.heap.size) := fun h => (ha h).2.2
  have HC := hide hc
  have HZM := hide hzm
  have HZP := hide hzp
  have HOK := hide hok
  have HPL := hide hp
  have HNV := hide hnv
  clear ha hc hzm hzp hok hp hm hnn hnv hn hv
  obtain ⟨W0, hW0⟩ : ∃ W0, W0 = (w.alloc (.cells #[.int .u32 num, .int .i64 eff, .slice a n cap] 41)).alloc (.cells #[.slice none 0 0] 159) := ⟨_, rfl⟩
  have hWr := writer_new' (w.alloc (.cells #[.int .u32 num, .int .i64 eff, .slice a n cap] 41)) (w.heap.size + 1) (by simp)
  have hb0 : Below w.heap.size w ((w.alloc (.cells #[.int .u32 num, .int .i64 eff, .slice a n cap] 41)).alloc (.cells #[.slice none 0 0] 159)) := ((Below.refl _ _).alloc (Nat.le_refl _) _).alloc (by simp) _
  go_enter Tryd.func58, Tryd.ntmps58
  go_upto_region 3 with (go_at_call 80; refine (wI64_calls _ _ _ _ [] eff hWr (by simp) e1 e2).mono ?_; rintro e w1 ⟨rfl, hW1⟩)
  have c2 : w1.cell? ⟨w.heap.size, 2, none⟩ = some (.slice a n cap) := (hW1.below.cell (p := ⟨w.heap.size, 2, none⟩) (by simp)).trans (by simp)
  go_upto_region 4 with (go_at_call 77; refine (wU8_calls _ _ _ _ _ n hW1.text (by simp [d256_len]) (by omega) (by omega)).mono ?_; rintro e w2 ⟨rfl, hW2⟩)
  have c3 : w2.cell? ⟨w.heap.size, 2, none⟩ = some (.slice a n cap) := (hW2.below.cell (p := ⟨w.heap.size, 2, none⟩) (by simp)).trans c2
  have hB2 : Below w.heap.size w w2 := hb0.trans ((hW1.below.trans hW2.below).mono (by omega))
  have HW2 := hide hW2.text
  go_wp2
  go_loopw [17] (fun j wr => ∃ q : Nat, q ≤ n ∧ j = .int .i64 q ∧ Below w.heap.size w wr ∧ Hid (WriterAt wr (w.heap.size + 1) (w.heap.size + 1) (fun _ => False) (d256 8 (eff + 9223372036854775808) ++ d256 1 n ++ visT (vs.take q)))) (fun j _ => n - (intOf j).toNat)
  case atStart => exact ⟨0, by omega, rfl, hB2, by show WriterAt _ _ _ _ _; simpa [visT] using HW2.out⟩
  case round =>
    obtain ⟨q, hq, rfl, hbel, HW⟩ := hrel
    by_cases hlt : q < n
    · have h1 : q < zs.length := by rw [← Hn.out]; exact hlt
      have h2 : q < vs.length := by rw [HNV.out]; exact hlt
      have hvq : vs[q] = zs[q].1 := by simp [← HZM.out]
      have hbb := HB.out (by omega)
      have hrg := HC.out q h1
      rw [← rng_of_block (hbel.block b hbb)] at hrg
      have hU := HZP.out zs[q] (List.getElem_mem h1)
      have hO := HOK.out vs[q] (List.getElem_mem h2)
      have hPl := HPL.out vs[q] (List.getElem_mem h2)
      have HT := hide (visT_take h2)
      have hTl := visT_len (vs.take q) (fun v hv => HPL.out v (List.mem_of_mem_take hv))
      rw [hvq] at hO hPl HT
      generalize zs[q] = z at *
      obtain ⟨⟨vid, vta, vea, vla, vpa⟩, ⟨pa, pn, pc⟩⟩ := z
      obtain ⟨⟨i1, i2⟩, ⟨t1, t2⟩, ⟨f1, f2⟩, ⟨l1, l2⟩, hps⟩ := hO
      have c0 := (rng_cell hrg).2 0 (by decide)
      have c1 := (rng_cell hrg).2 1 (by decide)
      have c2 := (rng_cell hrg).2 2 (by decide)
      have c3 := (rng_cell hrg).2 3 (by decide)
      have c4 := (rng_cell hrg).2 4 (by decide)
      simp only [vzCs, sv, List.getElem?_toArray, List.getElem?_cons_zero, List.getElem?_cons_succ, Nat.add_zero] at c0 c1 c2 c3 c4
      simp only at i1 i2 t1 t2 f1 f2 l1 l2 hps hPl
      have hlen : (d256 8 (eff + 9223372036854775808) ++ d256 1 n ++ visT (vs.take q)).length ≤ 600000 := by
        simp only [List.length_append, d256_len]
        have : (vs.take q).length ≤ 255 := by simp; omega
        omega
      generalize hX : d256 8 (eff + 9223372036854775808) ++ d256 1 n ++ visT (vs.take q) = X at *
      have HX := hide hX
      have hWm := HW.out.more (.cells #[.int .u32 vid, .int .i64 vta, .int .i64 vea, .int .i64 vla, .slice pa pn pc] 63)
      have HU := hide hU
      have hsz := (HW.out.size).1
      clear hrg hU hX hvq
      go_upto_region 8 with (go_at_call 78; refine (wU32_calls _ _ _ _ _ vid hWm (by omega) i1 i2).mono ?_; rintro e w3 ⟨rfl, hW3⟩)
      have hcell : ∀ j, w3.cell? ⟨wr.heap.size, j, none⟩ = (wr.alloc (.cells #[.int .u32 vid, .int .i64 vta, .int .i64 vea, .int .i64 vla, .slice pa pn pc] 63)).cell? ⟨wr.heap.size, j, none⟩ := fun j => hW3.same.cell rfl
      have d1 : w3.cell? ⟨wr.heap.size, 1, none⟩ = some (.int .i64 vta) := (hcell 1).trans (by simp)
      go_upto_region 9 with (go_at_call 80; refine (wI64_calls _ _ _ _ _ vta hW3.text (by simp only [List.length_append, d256_len]; omega) t1 t2).mono ?_; rintro e w4 ⟨rfl, hW4⟩)
      have d2 : w4.cell? ⟨wr.heap.size, 2, none⟩ = some (.int .i64 vea) := (hW4.same.cell rfl).trans ((hcell 2).trans (by simp))
      go_upto_region 10 with (go_at_call 80; refine (wI64_calls _ _ _ _ _ vea hW4.text (by simp only [List.length_append, d256_len]; omega) f1 f2).mono ?_; rintro e w5 ⟨rfl, hW5⟩)
      have d3 : w5.cell? ⟨wr.heap.size, 3, none⟩ = some (.int .i64 vla) := (hW5.same.cell rfl).trans ((hW4.same.cell rfl).trans ((hcell 3).trans (by simp)))
      go_upto_region 11 with (go_at_call 80; refine (wI64_calls _ _ _ _ _ vla hW5.text (by simp only [List.length_append, d256_len]; omega) l1 l2).mono ?_; rintro e w6 ⟨rfl, hW6⟩)
      have d4 : w6.cell? ⟨wr.heap.size, 4, none⟩ = some (.slice pa pn pc) := (hW6.same.cell rfl).trans ((hW5.same.cell rfl).trans ((hW4.same.cell rfl).trans ((hcell 4).trans (by simp))))
      have hB6 : Below w.heap.size w w6 := (hbel.alloc (hbel.size) _).trans ((hW3.below.trans (hW4.below.trans (hW5.below.trans hW6.below))).mono (by omega))
      have HU6 : Hid (U32sAt w6 (fun b => ok b ∧ b < w.heap.size) (.slice pa pn pc) vpa) := U32sAt.mono HU.out (fun b hb => hB6.block b hb.2) (fun _ h => h)
      go_wp2_with (go_at_call 81; refine (writeIDs_calls _ _ _ _ _ _ vpa _ hW6.text HU6.out (fun b hb => Or.inl (by have := hb.2; omega)) hps hPl (by simp only [List.length_append, d256_len]; omega)).mono ?_; rintro e w7 ⟨rfl, hW7⟩)
      go_roundw
      case measure => simp [intOf]; omega
      case rel =>
        refine ⟨q + 1, by omega, by go_num, hB6.trans (hW7.below.mono (by omega)), ?_⟩
        show WriterAt _ _ _ _ _
        have := hW7.text.none
        rw [HT.out, ← List.append_assoc, HX.out]
        simpa [visB, List.append_assoc] using this
    · have hE : vs.take q = vs := List.take_of_length_le (by have := HNV.out; omega)
      have hWt := HW.out
      rw [hE] at hWt
      obtain ⟨a, cap, hg, -, hown, -⟩ := hWt
      have HO := hide hown
      clear hown
      go_wp2_with (go_at_call 79; refine (finish_calls _ _ _ hg).mono ?_; rintro e w3 ⟨rfl, rfl⟩)
      go_ret
      refine ⟨_, rfl, ?_, hbel⟩
      have := HO.out.lower (base' := w.heap.size) (by omega)
      simpa [verB, HNV.out] using this

end Go.Proofs.Qxb6500665aDoor
