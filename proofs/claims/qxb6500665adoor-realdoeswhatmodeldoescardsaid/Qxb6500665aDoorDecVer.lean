/- A version read back. -/
import Derived.Test.Qxb6500665aDoorDecWalk
import Derived.Test.Qxb6500665aDoorVerWalk
namespace Go.Proofs.Qxb6500665aDoor
open Go.RowKit

theorem Tryd.info63 : (Tryd.prog.info? 63).map (fun i => (i.zero, i.size, i.bytes)) = some (some (.agg #[.int .u32 0, .int .i64 0, .int .i64 0, .int .i64 0, .slice none 0 0]), 5, 56) := by kernel_rfl

/-- Where the reading of a version stands. -/
def DV (w wr : World) (ok : Nat → Prop) (num eff : Int) (vs : List Visit) (q : Nat) : Prop :=
  ∃ (v' vv : Value) (zs : List ZV) (Ap : Nat → Prop),
    ReaderAt wr (w.heap.size + 1) v' false ∧ BytesAt wr (fun b => ok b ∧ b < w.heap.size) v' (visT (vs.drop q)) ∧
    wr.heap[w.heap.size]? = some (.cells #[.int .u32 0, .int .i64 0, .slice none 0 0] 41 (0, 0)) ∧
    wr.heap[w.heap.size + 2]? = some (.cells #[.int .u32 num, .int .i64 eff, vv] 41 (0, 0)) ∧
    OwnR wr (w.heap.size + 3) 63 5 vzCs vv zs ∧ zs.map (·.1) = vs.take q ∧ (∀ z ∈ zs, U32sAt wr Ap (sv z.2) z.1.panels) ∧
    ∀ b, Ap b → w.heap.size + 3 ≤ b ∧ b < wr.heap.size ∧ vv.ownBlock ≠ some b

attribute [local go_sem ↓] exec_stVersion
attribute [local go_sem] run_stVersion ones_iis whole_alloc_lt whole_alloc_at whole_drew whole_setCell_other whole_setRow_other setRow_alloc_at setRow_alloc_lt

theorem OwnR.notLow {α : Type} {w : World} {base : Nat} {e : TypeId} {size : Nat} {f : α → Array Value} {v : Value} {xs : List α} (h : OwnR w base e size f v xs) {b : Nat} (hb : b < base) : v.ownBlock ≠ some b := fun e => by
  have := (h.block b e).1; omega

set_option maxRecDepth 100000 in
set_option maxHeartbeats 4000000 in
theorem decodeVersion_calls (w : World) (num eff : Int) (v : Value) (ok : Nat → Prop) (vs : List Visit) (hB : BytesAt w ok v (verB eff vs)) (he : I64 eff) (hvo : ∀ v ∈ vs, v.Ok) (hvp : ∀ v ∈ vs, v.panels.length ≤ 6) (hn : vs.length ≤ 12) :
    Calls Tryd.prog 63 #[.int .u32 num, v] w fun e w' => ∃ vv, e = .returned (.tuple #[.agg #[.int .u32 num, .int .i64 eff, vv], .nilIface]) ∧ VisitsAt w' (w.heap.size ≤ ·) vv vs ∧ Below w.heap.size w w' := by
  obtain ⟨e1, e2⟩ := he
  obtain ⟨a, nb, cap, rfl, -⟩ := hB.form'
  obtain ⟨n, hnn⟩ : ∃ n, n = vs.length := ⟨_, rfl⟩
  have Hn : Hid (n = vs.length) := hnn
  have hn12 : n ≤ 12 := by omega
  obtain ⟨w1, HW1, hb1, hsz1, hR1, hB1, hG⟩ := reader_start w #[.int .u32 0, .int .i64 0, .slice none 0 0] 41 ok a nb cap _ hB
  have hB1' : BytesAt w1 (fun b => ok b ∧ b < w.heap.size) (.slice a nb cap) (d256 8 (eff + 9223372036854775808) ++ (d256 1 n ++ visT vs)) := by simpa [verB, hnn] using hB1
  have HVO := hide hvo
  have HVP := hide hvp
  have hokn : ∀ b, (fun b => ok b ∧ b < w.heap.size) b → b ≠ w.heap.size + 1 := fun b hb => by have := hb.2; omega
  clear hB hB1 hvo hvp hn hnn
  go_enter Tryd.func63, Tryd.ntmps63
  go_upto_region 2 with (go_at_call 82; refine (newReader_calls _ a nb cap).mono ?_; rintro e w2 ⟨rfl, rfl⟩; rw [← HW1.out])
  go_upto_region 3 with (go_at_call 87; refine (rI64_calls _ _ _ _ eff _ hR1 hB1' hokn e1 e2).mono ?_; rintro e w2 ⟨v2, rfl, hR2, hB2, hw2⟩; obtain ⟨hk2, hs2'⟩ := kept_read hw2; clear hw2; have hs2 : w2.heap.size = w.heap.size + 2 := (by omega); clear hs2')
  have HRB : Hid (ReaderAt (w2.alloc (.cells #[.int .u32 num, .int .i64 eff, .slice none 0 0] 41)) (w.heap.size + 1) v2 false ∧ BytesAt (w2.alloc (.cells #[.int .u32 num, .int .i64 eff, .slice none 0 0] 41)) (fun b => ok b ∧ b < w.heap.size) v2 (d256 1 n ++ visT vs)) := ⟨hR2.alloc _, hB2.alloc _⟩
  go_upto_region 4 with (go_at_call 88; refine (rU8_calls _ _ _ _ (n : Int) _ HRB.out.1 HRB.out.2 hokn (by omega) (by omega)).mono ?_; rintro e w3 ⟨v3, rfl, hR3, hB3, hw3⟩; obtain ⟨hk3, hs3'⟩ := kept_read hw3; clear hw3)
  have hs3 : w3.heap.size = w.heap.size + 3 := by rw [hs3']; simp; omega
  have hbel3 : Below w.heap.size w w3 := (hb1.trans (hk2.below.mono (by omega))).trans (((Below.refl _ _).alloc (by omega) _).trans (hk3.below.mono (by omega)))
  have hDV0 : Hid (DV w w3 ok num eff vs 0) := by
    refine ⟨v3, .slice none 0 0, [], fun _ => False, hR3, hB3, ?_, ?_, OwnR.nil _ _ _ _ _, rfl, (fun z hz => by cases hz), fun b hb => hb.elim⟩
    · rw [hk3.same _ ⟨by simp; omega, by omega⟩, Below.heap_alloc _ _ _ (by omega), hk2.same _ ⟨by omega, by omega⟩, hG]
    · rw [hk3.same _ ⟨by simp; omega, by omega⟩]
      have := heap_alloc_at w2 (.cells #[.int .u32 num, .int .i64 eff, .slice none 0 0] 41)
      rw [hs2] at this
      exact this
  have h12 : decide ((12 : Int) < (n : Int)) = false := decide_eq_false (by omega)
  clear hs3' HRB hR1 hR2 hR3 hB1' hB2 hB3 hG hk2 hk3 hs2 hs3
  go_wp2
  go_loopw [9] (fun j wr => ∃ q : Nat, q ≤ n ∧ j = .int .i64 q ∧ Below w.heap.size w wr ∧ Hid (DV w wr ok num eff vs q)) (fun j _ => n - (intOf j).toNat)
  case atStart => exact ⟨0, by omega, rfl, hbel3, hDV0⟩
  case round =>
    obtain ⟨q, hq, rfl, hbel, HD⟩ := hrel
    by_cases hlt : q < n
    · have h1 : q < vs.length := by rw [← Hn.out]; exact hlt
      obtain ⟨v4, vv, zs, Ap, hR4, hB4, hG4, hV4, hown, hzm, hzp, hAp⟩ := HD.out
      have hO := HVO.out vs[q] (List.getElem_mem h1)
      have hPl := HVP.out vs[q] (List.getElem_mem h1)
      have HT := hide (List.take_succ_eq_append_getElem h1)
      rw [List.drop_eq_getElem_cons h1] at hB4
      generalize hvq : vs[q] = vq at *
      obtain ⟨vid, vta, vea, vla, vpa⟩ := vq
      obtain ⟨⟨i1, i2⟩, ⟨t1, t2⟩, ⟨f1, f2⟩, ⟨l1, l2⟩, hps⟩ := hO
      simp only at i1 i2 t1 t2 f1 f2 l1 l2 hps hPl
      have hB4' : BytesAt wr (fun b => ok b ∧ b < w.heap.size) v4 (d256 4 vid ++ (d256 8 (vta + 9223372036854775808) ++ (d256 8 (vea + 9223372036854775808) ++ (d256 8 (vla + 9223372036854775808) ++ (idsB vpa ++ visT (vs.drop (q + 1))))))) := by
        simpa [visT, visB, List.append_assoc] using hB4
      have hzl : zs.length ≤ 12 := by
        have h1 := congrArg List.length hzm
        simp only [List.length_map, List.length_take] at h1
        omega
      obtain ⟨-, -, -, hGl⟩ := cell_two hR4
      have hVl : w.heap.size + 2 < wr.heap.size := (Array.getElem?_eq_some_iff.1 hV4).1
      clear hB4 HD hvq
      go_upto_region 10 with (first
        | (go_at_call 83; refine (rU32_calls _ _ _ _ vid _ hR4 hB4' hokn i1 i2).mono ?_; rintro e x1 ⟨y1, rfl, hR5, hB5, hw5⟩; obtain ⟨hk5, hs5⟩ := kept_read hw5; clear hw5)
        | (go_at_call 87; refine (rI64_calls _ _ _ _ vta _ hR5 hB5 hokn t1 t2).mono ?_; rintro e x2 ⟨y2, rfl, hR6, hB6, hw6⟩; obtain ⟨hk6, hs6⟩ := kept_read hw6; clear hw6)
        | (go_at_call 87; refine (rI64_calls _ _ _ _ vea _ hR6 hB6 hokn f1 f2).mono ?_; rintro e x3 ⟨y3, rfl, hR7, hB7, hw7⟩; obtain ⟨hk7, hs7⟩ := kept_read hw7; clear hw7)
        | (go_at_call 87; refine (rI64_calls _ _ _ _ vla _ hR7 hB7 hokn l1 l2).mono ?_; rintro e x4 ⟨y4, rfl, hR8, hB8, hw8⟩; obtain ⟨hk8', hs8'⟩ := kept_read hw8; clear hw8; have hk8 := hk5.trans (hk6.trans (hk7.trans hk8')); have hs8 : x4.heap.size = wr.heap.size := (by omega); clear hk5 hk6 hk7 hk8' hs5 hs6 hs7 hs8'))
      obtain ⟨z1, hz1⟩ : ∃ z1, z1 = x4.alloc (.cells #[.int .u32 vid, .int .i64 vta, .int .i64 vea, .int .i64 vla, .slice none 0 0] 63) := ⟨_, rfl⟩
      have hR9 : ReaderAt z1 (w.heap.size + 1) y4 false := by rw [hz1]; exact hR8.alloc _
      have hB9 : BytesAt z1 (fun b => ok b ∧ b < w.heap.size) y4 (idsB vpa ++ visT (vs.drop (q + 1))) := by rw [hz1]; exact hB8.alloc _
      have hsz9 : z1.heap.size = wr.heap.size + 1 := by rw [hz1]; simp [hs8]
      have hC9 : z1.heap[wr.heap.size]? = some (.cells #[.int .u32 vid, .int .i64 vta, .int .i64 vea, .int .i64 vla, .slice none 0 0] 63 (0, 0)) := by
        have := heap_alloc_at x4 (.cells #[.int .u32 vid, .int .i64 vta, .int .i64 vea, .int .i64 vla, .slice none 0 0] 63)
        rw [hs8] at this; rw [hz1]; exact this
      have hold9 : ∀ b, b < wr.heap.size → b ≠ w.heap.size + 1 → z1.heap[b]? = wr.heap[b]? := fun b hb hb2 => by
        rw [hz1, Below.heap_alloc _ _ b (by omega)]; exact hk8.same b ⟨hb, hb2⟩
      have hb9 : Below w.heap.size w z1 := by rw [hz1]; exact (hbel.trans (hk8.below.mono (by omega))).alloc (by omega) _
      have HZ1 := hide hz1
      clear hR5 hB5 hR6 hB6 hR7 hB7 hR8 hB8 hz1 hk8 hB4' hR4
      rw [← HZ1.out]
      go_upto_region 11 with (go_at_call 89; refine (readIDs_calls _ _ _ _ vpa _ 6 hR9 hB9 hokn (fun b hb => by have := hb.2; omega) hps hPl (by decide)).mono ?_; rintro e z2 ⟨y5, iv, rfl, hR10, hB10, hownI, hk10⟩)
      have hs10 := hk10.below.size
      have hC10 : z2.heap[wr.heap.size]? = some (.cells #[.int .u32 vid, .int .i64 vta, .int .i64 vea, .int .i64 vla, .slice none 0 0] 63 (0, 0)) := (hk10.same _ ⟨by omega, by omega⟩).trans hC9
      have hcl : z2.cell? ⟨wr.heap.size, 4, none⟩ = some (.slice none 0 0) := by rw [World.cell?, hC10]; rfl
      have hfz : z2.frozen? ⟨wr.heap.size, 4, none⟩ = false := by rw [World.frozen?, hC10]; rfl
      have HOI := hide hownI
      obtain ⟨ia, icap, hiv⟩ := hownI.form
      generalize hIL : vpa.length = IL at hiv
      subst hiv
      have hib : ∀ b, (Value.slice ia IL icap).ownBlock = some b → wr.heap.size + 1 ≤ b ∧ b < z2.heap.size := fun b hb => by have := hownI.block b hb; omega
      clear hownI
      go_upto_region 14 with fail
      obtain ⟨z3, hz3⟩ : ∃ z3, z3 = z2.setCell ⟨wr.heap.size, 4, none⟩ (.slice ia IL icap) := ⟨_, rfl⟩
      have hC3 : z3.heap[wr.heap.size]? = some (.cells #[.int .u32 vid, .int .i64 vta, .int .i64 vea, .int .i64 vla, .slice ia IL icap] 63 (0, 0)) := by
        rw [hz3, heap_setCell_same _ _ _ _ _ _ hC10]; simp
      have hold3 : ∀ b, b ≠ wr.heap.size → z3.heap[b]? = z2.heap[b]? := fun b hb => by rw [hz3]; exact Below.heap_setCell _ _ _ _ hb
      have hsz3 : z3.heap.size = z2.heap.size := by rw [hz3]; simp [World.setCell]
      have hb3 : Below w.heap.size w z3 := by rw [hz3]; exact (hb9.trans (hk10.below.mono (by omega))).setCell (p := ⟨wr.heap.size, 4, none⟩) (by show w.heap.size ≤ wr.heap.size; omega) _
      have HZ3 := hide hz3
      rw [← HZ3.out]
      have hV3 : z3.heap[w.heap.size + 2]? = some (.cells #[.int .u32 num, .int .i64 eff, vv] 41 (0, 0)) := by
        rw [hold3 _ (by omega), hk10.same _ ⟨by omega, by omega⟩, hold9 _ (by omega) (by omega), hV4]
      have k0 : z3.cell? ⟨wr.heap.size, 0, none⟩ = some (.int .u32 vid) := by rw [World.cell?, hC3]; rfl
      have k1 : z3.cell? ⟨wr.heap.size, 1, none⟩ = some (.int .i64 vta) := by rw [World.cell?, hC3]; rfl
      have k2 : z3.cell? ⟨wr.heap.size, 2, none⟩ = some (.int .i64 vea) := by rw [World.cell?, hC3]; rfl
      have k3 : z3.cell? ⟨wr.heap.size, 3, none⟩ = some (.int .i64 vla) := by rw [World.cell?, hC3]; rfl
      have k4 : z3.cell? ⟨wr.heap.size, 4, none⟩ = some (.slice ia IL icap) := by rw [World.cell?, hC3]; rfl
      have kv : z3.cell? ⟨w.heap.size + 2, 2, none⟩ = some vv := by rw [World.cell?, hV3]; rfl
      have hownlt : ∀ b, vv.ownBlock = some b → w.heap.size + 3 ≤ b ∧ b < wr.heap.size := fun b hb => hown.block b hb
      have hown3 : OwnR z3 (w.heap.size + 3) 63 5 vzCs vv zs := hown.mono (fun b hb => by
        have := hownlt b hb
        rw [hold3 _ (by omega), hk10.same _ ⟨by omega, by omega⟩, hold9 _ (by omega) (by omega)])
      have HO3 := hide hown3
      have HOW := hide hown
      have HHH : Hid (ReaderAt z3 (w.heap.size + 1) y5 false ∧ BytesAt z3 (fun b => ok b ∧ b < w.heap.size) y5 (visT (vs.drop (q + 1)))) := ⟨(hold3 _ (by omega)).trans hR10, BytesAt.mono hB10 (fun b hb => hold3 b (by have := hb.2; omega)) (fun _ h => h)⟩
      obtain ⟨va, vcap, hvf⟩ := hown.form
      have hzl' : zs.length ≤ 12 := hzl
      generalize hZL : zs.length = ZL at hvf
      subst hvf
      clear hown hown3 hz3 hR10 hB10 hcl hfz hC9 hR9 hB9
      have hzwr : wr.heap.size < z3.heap.size := by omega
      go_wp2_with (at_builtin; refine wpList_app1 (α := ZV) rfl _ _ 32 rfl (w.heap.size + 3) 63 vzCs Tryd.underlying32 Tryd.info63 rfl (by decide) vzCs_size vzCs_one _ zs (by first | rfl | (rw [hZL]; rfl)) (OwnR.below HO3.out ((Below.refl _ _).alloc (Nat.le_refl _) _) (Nat.le_refl _)) _ rfl (⟨vid, vta, vea, vla, vpa⟩, (ia, IL, icap)) (by rw [rng_alloc_at _ _ _ _ _ _ _ (by first | rfl | omega)]; rfl) (by omega) (by unfold maxLen; omega) (by simp; omega) ?_; intro v5 z5 hown5 hsame5 hbel5 hat5; have hV5 : z5.heap[w.heap.size + 2]? = some (.cells #[.int .u32 num, .int .i64 eff, .slice va ZL vcap] 41 (0, 0)) := ((hsame5 _ ⟨(by simp; omega), fun e => (by have := hownlt _ e; omega)⟩).trans ((Below.heap_alloc _ _ _ (by omega)).trans hV3)); have kv5 : z5.cell? ⟨w.heap.size + 2, 2, none⟩ = some (.slice va ZL vcap) := (by rw [World.cell?, hV5]; rfl); have kf5 : z5.frozen? ⟨w.heap.size + 2, 2, none⟩ = false := (by rw [World.frozen?, hV5]; rfl); have HO5 := hide hown5; obtain ⟨a5, c5, hv5⟩ := hown5.form; generalize hL5 : (zs ++ [((⟨vid, vta, vea, vla, vpa⟩, (ia, IL, icap)) : ZV)]).length = L5 at hv5; subst hv5; clear hown5)
      have hz5 : ∀ b, b < z3.heap.size → (Value.slice va ZL vcap).ownBlock ≠ some b → b ≠ w.heap.size + 2 → (z5.setCell ⟨w.heap.size + 2, 2, none⟩ (.slice a5 L5 c5)).heap[b]? = z3.heap[b]? := fun b hb hb2 hb3 =>
        (Below.heap_setCell _ _ _ _ hb3).trans ((hsame5 b ⟨by simp; omega, hb2⟩).trans (Below.heap_alloc _ _ _ hb))
      have hz5w : ∀ b, b < wr.heap.size → b ≠ w.heap.size + 1 → (Value.slice va ZL vcap).ownBlock ≠ some b → b ≠ w.heap.size + 2 → (z5.setCell ⟨w.heap.size + 2, 2, none⟩ (.slice a5 L5 c5)).heap[b]? = wr.heap[b]? := fun b hb hb1 hb2 hb3 =>
        (hz5 b (by omega) hb2 hb3).trans ((hold3 b (by omega)).trans ((hk10.same b ⟨by omega, hb1⟩).trans (hold9 b hb hb1)))
      have hlow : ∀ b, b < w.heap.size + 3 → (Value.slice va ZL vcap).ownBlock ≠ some b := fun b hb e => by have := hownlt b e; omega
      have hsz5 := hbel5.size
      have hsz6 : (z5.setCell ⟨w.heap.size + 2, 2, none⟩ (.slice a5 L5 c5)).heap.size = z5.heap.size := by simp [World.setCell]
      have hsz5' : z3.heap.size + 1 ≤ z5.heap.size := by simpa using hsz5
      refine ⟨⟨q + 1, by omega, by go_num, ?_, ?_⟩, by simp [intOf]; omega⟩
      · exact ((hb3.alloc (by omega) _).trans (hbel5.mono (by omega))).setCell (p := ⟨w.heap.size + 2, 2, none⟩) (by show w.heap.size ≤ w.heap.size + 2; omega) _
      · refine ⟨y5, .slice a5 L5 c5, zs ++ [(⟨vid, vta, vea, vla, vpa⟩, (ia, IL, icap))], fun b => Ap b ∨ (Value.slice ia IL icap).ownBlock = some b, ?_, ?_, ?_, ?_, ?_, ?_, ?_, ?_⟩
        · exact (hz5 _ (by omega) (hlow _ (by omega)) (by omega)).trans HHH.out.1
        · exact BytesAt.mono HHH.out.2 (fun b hb => by have h9 := hb.2; exact hz5 b (by omega) (hlow _ (by omega)) (by omega)) (fun _ h => h)
        · rw [hz5w _ (by omega) (by omega) (hlow _ (by omega)) (by omega), hG4]
        · have := heap_setCell_same z5 (w.heap.size + 2) 2 _ _ (.slice a5 L5 c5) hV5
          simpa using this
        · exact HO5.out.mono (fun b hb => Below.heap_setCell _ _ _ _ (by have := (HO5.out.block b hb).1; show b ≠ w.heap.size + 2; omega))
        · rw [HT.out, List.map_append, hzm]; rfl
        · intro z hz
          rcases List.mem_append.1 hz with h | h
          · exact (hzp z h).mono (fun b hb => by have h9 := hAp b hb; exact hz5w b h9.2.1 (by omega) h9.2.2 (by omega)) (fun _ h => Or.inl h)
          · rw [List.mem_singleton.1 h]
            have hr := HOI.out.rowsAt u32Cs_size (by decide) (by omega)
            exact RArr.mono hr (fun b hb => by
              have h9 := hib b hb
              refine (hz5 b (by omega) (fun e => by have := hownlt b e; omega) (by omega)).trans (hold3 b (by omega))) (fun _ h => Or.inr h)
        · intro b hb
          rcases hb with h | h
          · have h9 := hAp b h
            refine ⟨h9.1, by omega, fun e => ?_⟩
            rcases hat5 with h8 | h8
            · rw [h8] at e; exact h9.2.2 e
            · rw [h8] at e
              simp only [Option.some.injEq] at e
              simp only [World.size_alloc] at e
              omega
          · have h9 := hib b h
            refine ⟨by omega, by omega, fun e => ?_⟩
            rcases hat5 with h8 | h8
            · rw [h8] at e; have := hownlt b e; omega
            · rw [h8] at e
              simp only [Option.some.injEq] at e
              simp only [World.size_alloc] at e
              omega
    · obtain ⟨v4, vv, zs, Ap, hR4, hB4, hG4, hV4, hown, hzm, hzp, hAp⟩ := HD.out
      rw [List.drop_of_length_le (by have := Hn.out; omega)] at hB4
      rw [List.take_of_length_le (by have := Hn.out; omega)] at hzm
      have hwh := whole_of_heap hG4
      simp only [List.size_toArray, List.length_cons, List.length_nil] at hwh
      have k0 : wr.cell? ⟨w.heap.size + 2, 0, none⟩ = some (.int .u32 num) := by rw [World.cell?, hV4]; rfl
      have k1 : wr.cell? ⟨w.heap.size + 2, 1, none⟩ = some (.int .i64 eff) := by rw [World.cell?, hV4]; rfl
      have k2 : wr.cell? ⟨w.heap.size + 2, 2, none⟩ = some vv := by rw [World.cell?, hV4]; rfl
      have HO := hide hown
      obtain ⟨va, vcap, hvf⟩ := hown.form
      have hzl : zs.length ≤ 12 := by have h1 := congrArg List.length hzm; have := Hn.out; simp only [List.length_map] at h1; omega
      generalize hZL : zs.length = ZL at hvf
      subst hvf
      clear hown HD
      have hB4' : BytesAt wr (fun b => ok b ∧ b < w.heap.size) v4 [] := hB4
      go_wp2_with (go_at_call 84; refine (done_calls _ _ _ _ hR4 hB4').mono ?_; rintro e w4 ⟨rfl, rfl⟩)
      have hfin := heap_setRow_at (ds := #[.int .u32 num, .int .i64 eff, .slice va ZL vcap]) hG4
      refine bodyPost_ret (results_cell_tmp Tryd.results63 _ _ w.heap.size _ _ _ _ rfl hfin Tryd.underlying41 rfl (by kernel_rfl)) rfl ?_
      have hoth : ∀ b, w.heap.size + 3 ≤ b → (wr.setRow w.heap.size #[.int .u32 num, .int .i64 eff, .slice va ZL vcap]).heap[b]? = wr.heap[b]? := fun b hb => setRow_other _ _ _ _ (by omega)
      refine ⟨_, rfl, ⟨zs, ?_, hzm, fun z hz => ?_⟩, hbel.trans (below_setRow' _ _ (Nat.le_refl _))⟩
      · have hr := HO.out.rows vzCs_size (by decide) (by omega)
        exact RArr.mono hr (fun b hb => hoth b hb) (fun b hb => by show w.heap.size ≤ b; have h9 : w.heap.size + 3 ≤ b := hb; omega)
      · exact (hzp z hz).mono (fun b hb => hoth b (hAp b hb).1) (fun b hb => by have := (hAp b hb).1; show w.heap.size ≤ b; omega)

end Go.Proofs.Qxb6500665aDoor
