/- Apply, walked. -/
import Derived.Test.Qxb6500665aDoorStoreWalk
import Derived.Test.Qxb6500665aDoorMix
namespace Go.Proofs.Qxb6500665aDoor
open Go.RowKit

theorem sv_toSV {w : World} {ok : Nat → Prop} {v : Value} {bs : List Int} (h : BytesAt w ok v bs) : sv (toSV v) = v := by
  obtain ⟨a, n, c, rfl⟩ := h.form; rfl

abbrev ZP := (SV × SV) × KV
def zCs (z : ZP) : Array Value := #[sv z.1.1, sv z.1.2]
def zwCs (z : ZP) : Array Value := #[sv z.1.1, sv z.1.2, .bool false]
theorem zCs_size (z : ZP) : (zCs z).size = 2 := rfl
theorem zCs_one (z : ZP) : ∀ u ∈ (zCs z).toList, u.oneCell' = true := by simp [zCs, sv, Value.oneCell']
theorem zwCs_size (z : ZP) : (zwCs z).size = 3 := rfl
theorem zwCs_one (z : ZP) : ∀ u ∈ (zwCs z).toList, u.oneCell' = true := by simp [zwCs, sv, Value.oneCell']

theorem Tryd.size130 (w : World) : (sizeOf 130).run Tryd.prog w = .ok 3 w := by kernel_rfl
theorem Tryd.info60 : (Tryd.prog.info? 60).map (fun i => (i.zero, i.size, i.bytes)) = some (some (.agg #[.slice none 0 0, .slice none 0 0]), 2, 48) := by kernel_rfl

/-- The pairs, zipped with their bytes. -/
def Zip (w : World) (A : Nat → Prop) (zs : List ZP) : Prop := ∀ z ∈ zs, BytesAt w A (sv z.1.1) z.2.1 ∧ BytesAt w A (sv z.1.2) z.2.2

theorem PairsAt.zs {w : World} {A : Nat → Prop} {pv : Value} {ps : List KV} (h : PairsAt w A pv ps) : ∃ zs : List ZP, RArr w A 2 zCs pv zs ∧ zs.map (·.2) = ps ∧ Zip w A zs := by
  obtain ⟨qs, ⟨a, cap, b, off, h1, h2, h3, h4, h5, h6⟩, hl, hb⟩ := h
  refine ⟨(qs.zip ps).map (fun z => ((toSV z.1.1, toSV z.1.2), z.2)), ⟨a, cap, b, off, ?_, ?_, h3, ?_, ?_, fun i hi => ?_⟩, ?_, fun z hz => ?_⟩
  · simp [h1, hl]
  · simpa [hl] using hl ▸ h2
  · simpa [hl] using hl ▸ h4
  · intro hp; exact h5 (by simp at hp; omega)
  · have h7 := h6 i (by simp at hi; omega)
    have h8 := hb i (by simp at hi; omega) (by simp at hi; omega)
    simpa [zCs, pairCs, sv_toSV h8.1, sv_toSV h8.2] using h7
  · simp only [List.map_map]
    show (qs.zip ps).map (·.2) = ps
    exact List.map_snd_zip (by omega)
  · obtain ⟨i, hi, rfl⟩ := List.getElem_of_mem hz
    have h8 := hb i (by simp at hi; omega) (by simp at hi; omega)
    simpa [sv_toSV h8.1, sv_toSV h8.2] using h8

theorem PairsAt.of_zs {w : World} {A : Nat → Prop} {pv : Value} {zs : List ZP} (h : RArr w A 2 zCs pv zs) (hz : Zip w A zs) : PairsAt w A pv (zs.map (·.2)) := by
  obtain ⟨a, cap, b, off, h1, h2, h3, h4, h5, h6⟩ := h
  refine ⟨zs.map (fun z => (sv z.1.1, sv z.1.2)), ⟨a, cap, b, off, by simp [h1], by simpa using h2, h3, by simpa using h4, fun hp => h5 (by simpa using hp), fun i hi => ?_⟩, by simp, fun i hi hi' => ?_⟩
  · have := h6 i (by simpa using hi)
    simpa [zCs, pairCs] using this
  · have hi2 : i < zs.length := by simpa using hi
    have := hz zs[i] (List.getElem_mem hi2)
    simpa using this

theorem Zip.mono {w w' : World} {A A' : Nat → Prop} {zs : List ZP} (h : Zip w A zs) (hs : Same A w w') (hA : ∀ b, A b → A' b) : Zip w' A' zs := fun z hz => ⟨(h z hz).1.mono hs hA, (h z hz).2.mono hs hA⟩
theorem Zip.filter {w : World} {A : Nat → Prop} {zs : List ZP} (h : Zip w A zs) (p : ZP → Bool) : Zip w A (zs.filter p) := fun z hz => h z ((List.mem_filter.1 hz).1)
theorem Zip.append {w : World} {A : Nat → Prop} {zs ys : List ZP} (h : Zip w A zs) (k : Zip w A ys) : Zip w A (zs ++ ys) := fun z hz => (List.mem_append.1 hz).elim (h z) (k z)

/-- The batch: writes without a deletion. -/
def WritesAt (w : World) (ok : Nat → Prop) (v : Value) (ws : List KV) : Prop := ∃ zs : List ZP, RArr w ok 3 zwCs v zs ∧ zs.map (·.2) = ws ∧ Zip w ok zs

theorem WritesAt.mono {w w' : World} {ok ok' : Nat → Prop} {v : Value} {ws : List KV} (h : WritesAt w ok v ws) (hs : Same ok w w') (hk : ∀ b, ok b → ok' b) : WritesAt w' ok' v ws := by
  obtain ⟨zs, h1, h2, h3⟩ := h
  exact ⟨zs, h1.mono hs hk, h2, h3.mono hs hk⟩

/-- One write. -/
def putB (ps : List KV) (p : KV) : List KV := ps.filter (fun q => !decide (q.1 = p.1)) ++ [p]
def applyB (ps : List KV) (ws : List KV) : List KV := ws.foldl putB ps

def Anew (w : World) (A : Nat → Prop) (W : World) (b : Nat) : Prop := A b ∨ (w.heap.size ≤ b ∧ b < W.heap.size)

theorem applyB_take {ps ws : List KV} {q : Nat} (h : q < ws.length) : applyB ps (ws.take (q + 1)) = putB (applyB ps (ws.take q)) ws[q] := by
  rw [List.take_succ_eq_append_getElem h, applyB, List.foldl_append]; rfl

theorem putB_len (ps : List KV) (p : KV) : (putB ps p).length ≤ ps.length + 1 := by
  have := List.length_filter_le (fun q : KV => !decide (q.1 = p.1)) ps
  simp only [putB, List.length_append, List.length_cons, List.length_nil]
  omega

theorem applyB_len (ws : List KV) : ∀ ps, (applyB ps ws).length ≤ ps.length + ws.length := by
  induction ws with
  | nil => intro ps; simp [applyB]
  | cons p r ih =>
    intro ps
    have h1 := ih (putB ps p)
    have h2 := putB_len ps p
    show (applyB (putB ps p) r).length ≤ _
    simp only [List.length_cons]
    omega

theorem filter_zip (zp : List ZP) (k : List Int) : (zp.filter (fun z => !decide (z.2.1 = k))).map (·.2) = (zp.map (·.2)).filter (fun q => !decide (q.1 = k)) := by
  rw [List.filter_map]; rfl

/-- Behind one write of the batch. -/
theorem apply_round {w wo w5 : World} {S : Nat} {A : Nat → Prop} {ps : List KV} {zp : List ZP} {zn : ZP} {v5 : Value} (hS1 : StoreAt wo S (Anew w A wo) ps false) (hk : Kept w wo S) (hSw : S < w.heap.size) (hb : Below wo.heap.size wo w5)
    (hown : OwnR w5 (wo.heap.size + 1) 60 2 zCs v5 (zp.filter (fun z => !decide (z.2.1 = zn.2.1)) ++ [zn])) (hz : Zip wo (Anew w A wo) zp) (hzn : BytesAt w5 (wo.heap.size ≤ ·) (sv zn.1.1) zn.2.1 ∧ BytesAt w5 (wo.heap.size ≤ ·) (sv zn.1.2) zn.2.2)
    (hm : zp.map (·.2) = ps) (hl : zp.length ≤ 1000000) : Kept w (w5.setCell ⟨S, 0, none⟩ v5) S ∧ StoreAt (w5.setCell ⟨S, 0, none⟩ v5) S (Anew w A (w5.setCell ⟨S, 0, none⟩ v5)) (putB ps zn.2) false := by
  obtain ⟨pv, hSb, -⟩ := hS1.ex
  have hSl := hS1.size
  have hsz : (w5.setCell ⟨S, 0, none⟩ v5).heap.size = w5.heap.size := by simp [World.setCell]
  have hk5 : Kept w w5 S := hk.trans (Kept.of_below hb (by omega))
  have hS5 : w5.heap[S]? = some (.cells #[pv, .bool false] 57 (0, 0)) := (hb.block S hSl).trans hSb
  have hoth : ∀ b, b ≠ S → (w5.setCell ⟨S, 0, none⟩ v5).heap[b]? = w5.heap[b]? := fun b hb => Below.heap_setCell _ _ _ _ hb
  have hwle := hk.below.size
  have hlen : (zp.filter (fun z => !decide (z.2.1 = zn.2.1)) ++ [zn]).length ≤ 140737488355328 := by
    have := List.length_filter_le (fun z : ZP => !decide (z.2.1 = zn.2.1)) zp
    simp; omega
  refine ⟨⟨hk5.below.setCell (p := ⟨S, 0, none⟩) (Nat.le_refl _) _, fun b hb' => (hoth b hb'.2).trans (hk5.same b hb')⟩, ⟨⟨v5, ?_, ?_⟩, ?_, ?_⟩⟩
  · have := heap_setCell_same w5 S 0 #[pv, .bool false] 57 v5 hS5
    simpa using this
  · have hrows := (hown.rows zCs_size (by decide) hlen).lt
    have h1 : RArr (w5.setCell ⟨S, 0, none⟩ v5) (Anew w A (w5.setCell ⟨S, 0, none⟩ v5)) 2 zCs v5 (zp.filter (fun z => !decide (z.2.1 = zn.2.1)) ++ [zn]) :=
      hrows.mono (fun b hb' => hoth b (by omega)) (fun b hb' => Or.inr ⟨by omega, by rw [hsz]; exact hb'.2⟩)
    have h2 : Zip (w5.setCell ⟨S, 0, none⟩ v5) (Anew w A (w5.setCell ⟨S, 0, none⟩ v5)) zp :=
      hz.mono (fun b hb' => (hoth b (fun e => hS1.out (e ▸ hb'))).trans (hb.block b (hS1.lt b hb'))) (fun b hb' => hb'.elim Or.inl (fun h => Or.inr ⟨h.1, by rw [hsz]; have := hb.size; omega⟩))
    have h3 : ∀ v bs, BytesAt w5 (wo.heap.size ≤ ·) v bs → BytesAt (w5.setCell ⟨S, 0, none⟩ v5) (Anew w A (w5.setCell ⟨S, 0, none⟩ v5)) v bs := fun v bs h =>
      (RArr.lt h).mono (fun b hb' => hoth b (by omega)) (fun b hb' => Or.inr ⟨by omega, by rw [hsz]; exact hb'.2⟩)
    have h4 : Zip (w5.setCell ⟨S, 0, none⟩ v5) (Anew w A (w5.setCell ⟨S, 0, none⟩ v5)) (zp.filter (fun z => !decide (z.2.1 = zn.2.1)) ++ [zn]) :=
      (h2.filter _).append (fun z hz => by rw [List.mem_singleton.1 hz]; exact ⟨h3 _ _ hzn.1, h3 _ _ hzn.2⟩)
    have h5 := PairsAt.of_zs h1 h4
    rw [List.map_append, filter_zip, hm] at h5
    exact h5
  · intro h; rcases h with h | h
    · exact hS1.out (Or.inl h)
    · omega
  · intro b hb'; rcases hb' with h | h
    · have := hS1.lt b (Or.inl h); rw [hsz]; have := hb.size; omega
    · exact h.2

theorem clone_calls' (w : World) (ok : Nat → Prop) (x : Value) (xs : List Int) (hx : BytesAt w ok x xs) :
    Calls Tryd.prog 86 #[x] w fun e w' => e = .returned (.slice (some ⟨w.heap.size, 0, none⟩) xs.length xs.length) ∧ cloneW w xs = w' := clone_calls w ok x xs hx

attribute [local go_sem] ext_const Ext.cell Ext.frozen Ext.rng Ext.whole

set_option maxRecDepth 100000 in
set_option maxHeartbeats 4000000 in
theorem apply_calls (w : World) (S : Nat) (A okw : Nat → Prop) (ps ws : List KV) (wv : Value) (h : StoreAt w S A ps false) (hW : WritesAt w okw wv ws) (hokw : ∀ b, okw b → b ≠ S) (hps : ps.length + ws.length ≤ 1000000) :
    Calls Tryd.prog 76 #[.pointer (some ⟨S, 0, none⟩), wv] w fun e w' => e = .returned .nilIface ∧ Kept w w' S ∧ StoreAt w' S (Anew w A w') (applyB ps ws) false := by
  obtain ⟨zs, hZ, hzw, hzb⟩ := hW
  obtain ⟨pv, hS, -⟩ := h.ex
  obtain ⟨s0, s1, -, hSl⟩ := cell_two hS
  obtain ⟨a, cap, b, off, rfl, hl, hm, hr, ha, hc⟩ := RArr.lt hZ
  obtain ⟨n, hn⟩ : ∃ n, n = zs.length := ⟨_, rfl⟩
  have Hn : Hid (n = zs.length) := hn
  rw [← hn] at hl hr ha ⊢
  have hi := run_indexAt_arr (P := Tryd.prog) (cap := cap) Tryd.underlying156 Tryd.size130 (fun h => (ha h).1)
  have HB : Hid (0 < n → okw b ∧ b < w.heap.size ∧ b ≠ S) := fun h => ⟨(ha h).2.1, (ha h).2.2, hokw b (ha h).2.1⟩
  have HC := hide hc
  have HZB := hide hzb
  have HZW := hide hzw
  have HST := hide h
  have HPS := hide hps
  clear hS hZ h hm ha hc hzb hzw hn hps s0
  have HST0 : Hid (StoreAt w S (Anew w A w) (applyB ps (ws.take 0)) false) :=
    ⟨(let ⟨pv, h1, h2⟩ := HST.out.ex; ⟨pv, h1, h2.mono (Same.refl _ _) (fun b hb => Or.inl hb)⟩), fun h => h.elim HST.out.out (fun h => by omega), fun b hb => hb.elim (HST.out.lt b) (fun h => h.2)⟩
  go_enter Tryd.func76, Tryd.ntmps76
  go_wp2
  go_loopw [17] (fun i wr => ∃ q : Nat, q ≤ n ∧ i = .int .i64 q ∧ Kept w wr S ∧ Hid (StoreAt wr S (Anew w A wr) (applyB ps (ws.take q)) false)) (fun i _ => n - (intOf i).toNat)
  case atStart => exact ⟨0, by omega, rfl, Kept.refl _ _, HST0⟩
  case round =>
    obtain ⟨q, hq, rfl, hkept, HS1⟩ := hrel
    obtain ⟨wo, hwo⟩ : ∃ wo, wo = wr := ⟨_, rfl⟩
    subst hwo
    by_cases hlt : q < n
    · have h1 : q < zs.length := by rw [← Hn.out]; exact hlt
      obtain ⟨hbk, hbl, hbS⟩ := HB.out (by omega)
      have hrg := HC.out q h1
      rw [← rng_of_block (hkept.same b ⟨hbl, hbS⟩)] at hrg
      have c0 := (rng_cell hrg).2 0 (by decide)
      have c1 := (rng_cell hrg).2 1 (by decide)
      have c2 := (rng_cell hrg).2 2 (by decide)
      simp only [zwCs, sv, List.getElem?_toArray, List.getElem?_cons_zero, List.getElem?_cons_succ, Nat.add_zero] at c0 c1 c2
      obtain ⟨z, hz⟩ : ∃ z, z = zs[q] := ⟨_, rfl⟩
      have HY : Hid (BytesAt wo okw (sv z.1.1) z.2.1 ∧ BytesAt wo okw (sv z.1.2) z.2.2) := by
        have := HZB.out zs[q] (List.getElem_mem h1)
        rw [← hz] at this
        have hs : Same (fun b => okw b ∧ b < w.heap.size) w wo := fun b hb => hkept.same b ⟨hb.2, hokw b hb.1⟩
        exact ⟨(RArr.lt this.1).mono hs (fun _ h => h.1), (RArr.lt this.2).mono hs (fun _ h => h.1)⟩
      have HTK : Hid (applyB ps (ws.take (q + 1)) = putB (applyB ps (ws.take q)) z.2) := by
        show _ = _
        have h2 : q < ws.length := by rw [← HZW.out]; simpa using h1
        rw [applyB_take h2, hz]
        congr 1
        simp [← HZW.out]
      obtain ⟨pv, hS, hP⟩ := HS1.out.ex
      obtain ⟨zp, hZP, hzpm, hzpb⟩ := hP.zs
      obtain ⟨s0, s1, sf, hSl'⟩ := cell_two hS
      obtain ⟨pa, pcap, pb, poff, rfl, pl, pm, pr, pha, phc⟩ := RArr.lt hZP
      obtain ⟨m, hm⟩ : ∃ m, m = zp.length := ⟨_, rfl⟩
      have Hm : Hid (m = zp.length) := hm
      rw [← hm] at pl pr pha s0
      rw [← hz] at c0 c1
      obtain ⟨⟨⟨ka, kn, kc⟩, ⟨va, vn, vc⟩⟩, ⟨kb, vb⟩⟩ := z
      simp only at c0 c1
      clear hrg hS hP hZP pm hm hz
      have hpi := run_indexAt_arr (P := Tryd.prog) (cap := pcap) Tryd.underlying51 Tryd.size60 (fun h => (pha h).1)
      obtain ⟨W1, hW1⟩ : ∃ W1, W1 = wo.alloc (.cells #[.slice ka kn kc, .slice va vn vc, .bool false] 130) := ⟨_, rfl⟩
      have HW1 := hide hW1
      have HPB : Hid (0 < m → Anew w A wo pb ∧ pb < wo.heap.size) := fun h => (pha h).2
      have HPC := hide phc
      have HPZ := hide hzpb
      have HPM := hide hzpm
      have hml : m ≤ 1000000 := by
        have h1 := congrArg List.length hzpm
        have h2 := applyB_len (ws.take q) ps
        have h3 : (ws.take q).length ≤ ws.length := by rw [List.length_take]; exact Nat.min_le_right _ _
        have h4 := HPS.out
        have h5 := Hm.out
        simp only [List.length_map] at h1
        omega
      clear phc hzpb hzpm pha hW1
      go_upto_region 8 with fail
      go_loopw [7, 26] (fun kv j wx => ∃ p : Nat, p ≤ m ∧ j = .int .i64 p ∧ Below (wo.heap.size + 1) (wo.alloc (.cells #[.slice ka kn kc, .slice va vn vc, .bool false] 130)) wx ∧ OwnR wx (wo.heap.size + 1) 60 2 zCs kv ((zp.take p).filter (fun z => !decide (z.2.1 = kb)))) (fun _ j _ => m - (intOf j).toNat)
      case atStart => exact ⟨0, by omega, rfl, Below.refl _ _, OwnR.nil _ _ _ _ _⟩
      case round =>
        obtain ⟨p, hp, rfl, hbel, hown⟩ := hrel
        obtain ⟨L, hL⟩ : ∃ L, L = (zp.take p).filter (fun z => !decide (z.2.1 = kb)) := ⟨_, rfl⟩
        have HL := hide hL
        rw [← hL] at hown
        have hLl : L.length ≤ 1000000 := by
          have h1 := List.length_filter_le (fun z : ZP => !decide (z.2.1 = kb)) (zp.take p)
          rw [← hL] at h1
          have h2 := List.length_take_le p zp
          omega
        have hB0 : Below wo.heap.size wo wr := ((Below.refl _ _).alloc (Nat.le_refl _) _).trans (hbel.mono (by omega))
        have hwsz : wo.heap.size + 1 ≤ wr.heap.size := by have := hbel.size; simpa using this
        have hwlt : wo.heap.size < wr.heap.size := by omega
        have hSlt : S < wr.heap.size := by omega
        have w0 : wr.cell? ⟨wo.heap.size, 0, none⟩ = some (.slice ka kn kc) := (hbel.cell (p := ⟨wo.heap.size, 0, none⟩) (by simp)).trans (by simp)
        have w1 : wr.cell? ⟨wo.heap.size, 1, none⟩ = some (.slice va vn vc) := (hbel.cell (p := ⟨wo.heap.size, 1, none⟩) (by simp)).trans (by simp)
        have w2 : wr.cell? ⟨wo.heap.size, 2, none⟩ = some (.bool false) := (hbel.cell (p := ⟨wo.heap.size, 2, none⟩) (by simp)).trans (by simp)
        clear hL
        by_cases hlt2 : p < m
        · have h2 : p < zp.length := by rw [← Hm.out]; exact hlt2
          obtain ⟨hpbA, hpbl⟩ := HPB.out (by omega)
          have hrg := HPC.out p h2
          rw [← rng_of_block (hB0.block pb hpbl)] at hrg
          have c0 := (rng_cell hrg).2 0 (by decide)
          have c1 := (rng_cell hrg).2 1 (by decide)
          obtain ⟨z, hz⟩ : ∃ z, z = zp[p] := ⟨_, rfl⟩
          have hzb := HPZ.out zp[p] (List.getElem_mem h2)
          rw [← hz] at c0 c1 hzb
          have HF : Hid ((zp.take (p + 1)).filter (fun z => !decide (z.2.1 = kb)) = L ++ [z].filter (fun z => !decide (z.2.1 = kb))) := by
            show _ = _
            rw [List.take_succ_eq_append_getElem h2, List.filter_append, HL.out, hz]
          obtain ⟨⟨⟨xa, xn, xc⟩, ⟨ya, yn, yc⟩⟩, ⟨xb, yb⟩⟩ := z
          simp only [zCs, sv, List.getElem?_toArray, List.getElem?_cons_zero, List.getElem?_cons_succ, Nat.add_zero] at c0 c1
          have HX1 := hide hzb.1
          simp only at HX1
          have hB1 : Below wo.heap.size wo (wr.alloc (.cells #[.slice xa xn xc, .slice ya yn yc] 60)) := hB0.alloc hB0.size _
          have hB2 : Below (wo.heap.size + 1) (wo.alloc (.cells #[.slice ka kn kc, .slice va vn vc, .bool false] 130)) (wr.alloc (.cells #[.slice xa xn xc, .slice ya yn yc] 60)) := hbel.alloc hwsz _
          clear hz hzb hrg
          by_cases hkq : xb = kb
          · have hd := decide_eq_true hkq
            clear hkq
            go_wp2_with (go_at_call 85; refine (same_calls _ _ _ _ _ _ _ (BytesAt.below HX1.out hB1) (BytesAt.below HY.out.1 hB1)).mono ?_; rintro e w3 ⟨rfl, k, rfl⟩; rw [hd]; have hB3 := below_drewN hB2 k)
            go_roundw
            case measure => simp [intOf]; omega
            case rel =>
              refine ⟨p + 1, by omega, by go_num, hB3, ?_⟩
              rw [HF.out]
              simp only [List.filter_cons, hd, Bool.not_true, List.filter_nil, List.append_nil, Bool.false_eq_true, if_false]
              exact hown.below ((Below.refl _ _).alloc (Nat.le_refl _) _ |>.trans ((below_drewN (Below.refl _ _) k))) (Nat.le_refl _)
          · have hd := decide_eq_false hkq
            clear hkq
            go_upto_region 11 with (go_at_call 85; refine (same_calls _ _ _ _ _ _ _ (BytesAt.below HX1.out hB1) (BytesAt.below HY.out.1 hB1)).mono ?_; rintro e w3 ⟨rfl, k, rfl⟩; rw [hd]; have hB3 := below_drewN hB2 k)
            have HO : Hid (OwnR ((wr.alloc (.cells #[.slice xa xn xc, .slice ya yn yc] 60)).drewN k) (wo.heap.size + 1) 60 2 zCs u7 L) := hown.below ((Below.refl _ _).alloc (Nat.le_refl _) _ |>.trans ((below_drewN (Below.refl _ _) k))) (Nat.le_refl _)
            have hsz3 : wo.heap.size + 1 ≤ ((wr.alloc (.cells #[.slice xa xn xc, .slice ya yn yc] 60)).drewN k).heap.size := by have := hB3.size; simpa using this
            go_wp2_with (at_builtin; refine wpList_app1 (α := ZP) rfl _ _ 51 rfl (wo.heap.size + 1) 60 zCs Tryd.underlying51 Tryd.info60 rfl (by decide) zCs_size zCs_one _ L rfl (OwnR.below HO.out ((Below.refl _ _).alloc (Nat.le_refl _) _) (Nat.le_refl _)) _ rfl (((xa, xn, xc), (ya, yn, yc)), (xb, yb)) (by rw [rng_alloc_at _ _ _ _ _ _ _ (by simp)]; rfl) (by omega) (by unfold maxLen; omega) (by simp at hsz3 ⊢; omega) ?_; intro v' w' hown' hsame hbel' hat)
            go_roundw
            case measure => simp [intOf]; omega
            case rel =>
              refine ⟨p + 1, by omega, by go_num, (hB3.alloc hsz3 _).trans hbel', ?_⟩
              rw [HF.out]
              simp only [List.filter_cons, hd, Bool.not_false, List.filter_nil, if_true]
              exact hown'
        · have hpm : p = m := by omega
          have HLm : Hid (L = zp.filter (fun z => !decide (z.2.1 = kb))) := by
            show _ = _
            rw [HL.out, List.take_of_length_le (by have := Hm.out; omega)]
          go_upto_region 14 with fail
          refine wp_region_mix (wo.heap.size + 1) [0, 1, 2, 4, 5] 6 (by kernel_rfl) rfl (by kernel_rfl) (fun d _ _ _ _ h => by cases d <;> exact h) ?_
          simp only [opersAt, List.getElem?_toArray, List.getElem?_cons_zero, List.getElem?_cons_succ]
          repeat (go_big_quiet_step (fail))
          refine wpQuiet_nil ?_
          refine mixR_one (k := 3) (by kernel_rfl) rfl ?_
          go_wp2_with (go_at_call 86; refine (clone_calls' _ okw _ _ (BytesAt.below HY.out.1 (hB0.drew))).mono ?_; rintro e w3 ⟨rfl, rfl⟩)
          have hb3 : Below (wo.heap.size + 1) wr (cloneW wr.drew kb) := ((Below.refl _ _).drew).trans ((clone_below _ _).mono hwsz)
          have hs3 : (cloneW wr.drew kb).heap.size = wr.heap.size + 1 := by simp [cloneW]
          have hB3 : Below wo.heap.size wo (cloneW wr.drew kb) := hB0.trans (hb3.mono (by omega))
          refine ⟨Or.inr ⟨⟨_, hb3⟩, rfl⟩, ?_⟩
          refine mixR_one (k := 6) (by kernel_rfl) rfl ?_
          go_wp2_with (go_at_call 86; refine (clone_calls' _ okw _ _ (BytesAt.below HY.out.2 hB3)).mono ?_; rintro e w4 ⟨rfl, rfl⟩)
          have hb4 : Below (wo.heap.size + 1) wr (cloneW (cloneW wr.drew kb) vb) := hb3.trans ((clone_below _ _).mono (by rw [hs3]; omega))
          refine ⟨Or.inr ⟨⟨_, hb4⟩, rfl⟩, ?_⟩
          refine mixR_one (k := 7) (by kernel_rfl) rfl ?_
          go_wp2
          refine ⟨Or.inr ⟨⟨_, hb4⟩, rfl⟩, ?_⟩
          refine mixR_one (k := 8) (by kernel_rfl) rfl ?_
          go_wp2
          have hs4 : (cloneW (cloneW wr.drew kb) vb).heap.size = wr.heap.size + 2 := by simp [cloneW]
          have hb5 : Below (wo.heap.size + 1) wr ((cloneW (cloneW wr.drew kb) vb).alloc (.cells #[.slice (some ⟨wr.heap.size, 0, none⟩) kb.length kb.length, .slice (some ⟨wr.heap.size + 1, 0, none⟩) vb.length vb.length] 60)) := hb4.alloc (by rw [hs4]; omega) _
          have HO5 : Hid (OwnR ((cloneW (cloneW wr.drew kb) vb).alloc (.cells #[.slice (some ⟨wr.heap.size, 0, none⟩) kb.length kb.length, .slice (some ⟨wr.heap.size + 1, 0, none⟩) vb.length vb.length] 60)) (wo.heap.size + 1) 60 2 zCs u7 L) := hown.mono (fun b hb => by
            have hb1 := (hown.block b hb).2
            simp only [cloneW]
            rw [Below.heap_alloc _ _ b (by simp; omega), Below.heap_alloc _ _ b (by simp; omega), Below.heap_alloc _ _ b (by simpa using hb1)]
            rfl)
          refine ⟨Or.inr ⟨⟨_, hb5⟩, rfl⟩, ?_⟩
          refine mixR_one (k := 9) (by kernel_rfl) rfl ?_
          have hu7 : ∀ b, u7.ownBlock = some b → b < wr.heap.size := fun b hb => (hown.block b hb).2
          go_wp2_with (at_builtin; refine wpList_app1 (α := ZP) rfl _ _ 51 rfl (wo.heap.size + 1) 60 zCs Tryd.underlying51 Tryd.info60 rfl (by decide) zCs_size zCs_one _ L rfl HO5.out _ rfl (((some ⟨wr.heap.size, 0, none⟩, kb.length, kb.length), (some ⟨wr.heap.size + 1, 0, none⟩, vb.length, vb.length)), (kb, vb)) (by rw [rng_alloc_at _ _ _ _ _ _ _ (by simp [hs4])]; rfl) (by omega) (by unfold maxLen; omega) (by simp [hs4]; omega) ?_; intro v5 w5 hown5 hsame5 hbel5 hat5)
          have hB5 : Below wo.heap.size wo w5 := hB0.trans ((hb5.trans hbel5).mono (by omega))
          refine ⟨Or.inr ⟨⟨_, hb5.trans hbel5⟩, rfl⟩, ?_⟩
          refine mixR_one (k := 10) (by kernel_rfl) rfl ?_
          go_wp2
          refine ⟨Or.inr ⟨⟨_, hb5.trans hbel5⟩, rfl⟩, ?_⟩
          refine mixR_nil (by kernel_rfl) ?_
          have t0 : w5.cell? ⟨S, 0, none⟩ = some (.slice pa m pcap) := (hB5.cell (p := ⟨S, 0, none⟩) hSl').trans s0
          have tf : w5.frozen? ⟨S, 0, none⟩ = false := (hB5.frozen (p := ⟨S, 0, none⟩) hSl').trans (sf 0)
          obtain ⟨a5, c5, hv5⟩ := hown5.form
          have H5 := hide hown5
          generalize hL5 : (L ++ [((((some ⟨wr.heap.size, 0, none⟩, kb.length, kb.length) : SV), ((some ⟨wr.heap.size + 1, 0, none⟩, vb.length, vb.length) : SV)), (kb, vb))]).length = L5 at hv5
          subst hv5
          clear hown5
          go_wp2
          go_roundw
          case measure => simp [intOf]; omega
          case rel =>
            rw [HLm.out] at H5
            have hK : BytesAt w5 (wo.heap.size ≤ ·) (sv (some ⟨wr.heap.size, 0, none⟩, kb.length, kb.length)) kb := by
              have h1 := clone_bytes wr.drew kb (HY.out.1).len
              refine (RArr.lt h1).mono (fun b hb => ?_) (fun b hb => Nat.le_trans (Nat.le_of_lt hwlt) hb.1)
              have h2 : b < wr.heap.size + 1 := by have := hb.2; rw [hs3] at this; exact this
              have h3 : wr.heap.size ≤ b := hb.1
              rw [hsame5 b ⟨by simp [hs4]; omega, fun e => by have := hu7 b e; omega⟩, Below.heap_alloc _ _ b (by rw [hs4]; omega)]
              exact Below.heap_alloc _ _ b (by rw [hs3]; omega)
            have hV : BytesAt w5 (wo.heap.size ≤ ·) (sv (some ⟨wr.heap.size + 1, 0, none⟩, vb.length, vb.length)) vb := by
              have h1 := clone_bytes (cloneW wr.drew kb) vb (HY.out.2).len
              simp only [cloneV, hs3] at h1
              refine (RArr.lt h1).mono (fun b hb => ?_) (fun b hb => by omega)
              have h2 : b < wr.heap.size + 2 := by have := hb.2; rw [hs4] at this; exact this
              have h3 : wr.heap.size + 1 ≤ b := hb.1
              rw [hsame5 b ⟨by simp [hs4]; omega, fun e => by have := hu7 b e; omega⟩, Below.heap_alloc _ _ b (by rw [hs4]; omega)]
            have hfin := apply_round (zn := (((some ⟨wr.heap.size, 0, none⟩, kb.length, kb.length), (some ⟨wr.heap.size + 1, 0, none⟩, vb.length, vb.length)), (kb, vb))) HS1.out hkept hSl hB5 H5.out HPZ.out ⟨hK, hV⟩ HPM.out (by rw [← Hm.out]; exact hml)
            refine ⟨q + 1, by omega, by go_num, hfin.1, ?_⟩
            show StoreAt _ _ _ _ _
            rw [HTK.out]
            exact hfin.2
    · go_wp2
      go_ret
      have hqn : q = n := by omega
      have h1 := HS1.out
      rw [List.take_of_length_le (by rw [← HZW.out]; have := Hn.out; simp; omega)] at h1
      exact ⟨rfl, hkept, h1⟩

end Go.Proofs.Qxb6500665aDoor
