/- file, walked. -/
import Derived.Test.Qxb6500666aGreatDoorRowsB
import Derived.Test.Qxb6500666aGreatDoorAsCur
import Derived.Test.Qxb6500666aGreatDoorIssue
namespace Go.Proofs.Qxb6500666aGreatDoor
open Go.RowKit

def zeroHdr : Hdr := ⟨0, 0, 0, 0, 0, 0, 0⟩
noncomputable def fileR (ps : List KV) (seq : Int) : Except Int (Hdr × List Change) := match hdrR ps seq with
  | .error c => .error c
  | .ok h => if (h.kind == 73) then (match linesR ps h with | none => .error 28 | some cs => .ok (h, cs)) else match rbR ps seq with | none => .error 28 | some rows => .ok (h, asCur rows)
def FilePost (w w' : World) (e : Ending) : Except Int (Hdr × List Change) → Prop
  | .error c => e = .returned (.tuple #[.agg (fileCs 0 0 0 0 none 0 0), .agg (hdrCs zeroHdr), .iface 63 (.int .u8 c)]) ∧ Below w.heap.size w w'
  | .ok p => ∃ a cap, e = .returned (.tuple #[.agg (fileCs p.1.kind p.1.seq p.1.issued p.1.base a p.2.length cap), .agg (hdrCs p.1), .nilIface]) ∧ ChangesAt w' (w.heap.size ≤ ·) (.slice a p.2.length cap) p.2 ∧ Below w.heap.size w w'

theorem results_cct {P : Program} {fn : Func} {q p p2 : Tmp} {ty ty2 : TypeId} (h : fn.results = #[.cell p ty, .cell p2 ty2, .tmp q]) (tmps : Array Value) (w : World) (g g2 : Nat) (t t2 : TypeId) (cs cs2 : Array Value) (fr fr2 : Nat × Nat) (d d2 : TypeDesc)
    (hp : tmps.getD p undef = .pointer (some ⟨g, 0, none⟩)) (hg : w.heap[g]? = some (.cells cs t fr)) (hp2 : tmps.getD p2 undef = .pointer (some ⟨g2, 0, none⟩)) (hg2 : w.heap[g2]? = some (.cells cs2 t2 fr2))
    (hu : P.underlying ty = some d) (hd : (match d with | .struct _ | .array _ _ => true | _ => false) = true) (hi : (P.info? ty).map (·.size) = some cs.size)
    (hu2 : P.underlying ty2 = some d2) (hd2 : (match d2 with | .struct _ | .array _ _ => true | _ => false) = true) (hi2 : (P.info? ty2).map (·.size) = some cs2.size) :
    (results fn tmps).run P w = .ok (.tuple #[.agg cs, .agg cs2, tmps.getD q undef]) w := by
  have hp' : tmps[p]?.getD undef = .pointer (some ⟨g, 0, none⟩) := by simpa using hp
  have hp2' : tmps[p2]?.getD undef = .pointer (some ⟨g2, 0, none⟩) := by simpa using hp2
  simp [results, h, hp', hp2', asAddr, run_loadVar_row w g t ty cs fr d hg hu hd hi, run_loadVar_row w g2 t2 ty2 cs2 fr2 d2 hg2 hu2 hd2 hi2]

section
variable (ρ : Operand → Value) (dst : Option Tmp) (a b c d : Operand) (ty : TypeId) (pos : String) (after : Array Edge) (guard : Option (Nat × Bool))
def bdFile0S : Sem Value := Instr.build 59 #[]
theorem exec_bdFile0 : execOp ρ { dst, op := .build 59 #[], type := ty, pos, after, guard } = (do pure (.value (← bdFile0S))) := by simp [execOp, bdFile0S]
def bdHd0S : Sem Value := Instr.build 71 #[]
theorem exec_bdHd0 : execOp ρ { dst, op := .build 71 #[], type := ty, pos, after, guard } = (do pure (.value (← bdHd0S))) := by simp [execOp, bdHd0S]
def bdFile4S (a b c d : Value) : Sem Value := Instr.build 59 #[(0, a), (1, b), (2, c), (3, d)]
theorem exec_bdFile4 : execOp ρ { dst, op := .build 59 #[(0, a), (1, b), (2, c), (3, d)], type := ty, pos, after, guard } = (do pure (.value (← bdFile4S (ρ a) (ρ b) (ρ c) (ρ d)))) := by simp [execOp, bdFile4S]
end
theorem run_bdFile0 (w : World) : bdFile0S.run Tryz.prog w = .ok (.agg (fileCs 0 0 0 0 none 0 0)) w := by kernel_rfl
theorem run_bdHd0 (w : World) : bdHd0S.run Tryz.prog w = .ok (.agg (hdrCs zeroHdr)) w := by kernel_rfl
theorem run_bdFile4 (w : World) (k s i b : Int) : (bdFile4S (.int .u8 k) (.int .u32 s) (.int .i64 i) (.int .u32 b)).run Tryz.prog w = .ok (.agg (fileCs k s i b none 0 0)) w := by kernel_rfl

theorem rbGo_len {ps : List KV} (hps : PsOk ps) (hpl : ps.length ≤ 4000000) : ∀ (k n : Nat) (rows out : List Row), 1 ≤ n → n + k ≤ 4294967295 → rows.length ≤ 20 * (n - 1) → (∀ j : Nat, 1 ≤ j → j < n → ∃ v, getB ps (key1B 104 j) = some v) → rbGo ps k n rows = some out → out.length ≤ 80000000
  | 0, n, rows, out, h1, h2, h3, h4, h => by
    injection h with h
    subst h
    have := keys_bound (ps := ps) (t := 104) (m := n - 1) (by omega) (fun j a b => h4 j a (by omega))
    omega
  | k + 1, n, rows, out, h1, h2, h3, h4, h => by
    simp only [rbGo] at h
    split at h
    · cases h
    · rename_i hd hh
      obtain ⟨-, -, hgb⟩ := hdrR_some hps ⟨by omega, by omega⟩ hh
      have h4' : ∀ j : Nat, 1 ≤ j → j < n + 1 → ∃ v, getB ps (key1B 104 j) = some v := fun j a b => by
        by_cases e : j = n
        · subst e; exact hgb
        · exact h4 j a (by omega)
      split at h
      · exact rbGo_len hps hpl k (n + 1) rows out (by omega) (by omega) (by omega) h4' h
      · split at h
        · cases h
        · rename_i cs hli
          split at h
          · cases h
          · rename_i o hap
            have := linesR_len hli
            have := agree_len hap
            exact rbGo_len hps hpl k (n + 1) o out (by omega) (by omega) (by omega) h4' h
theorem rbR_len {ps : List KV} {seq : Int} {out : List Row} (hps : PsOk ps) (hpl : ps.length ≤ 4000000) (hs : U32 seq) (h : rbR ps seq = some out) : out.length ≤ 80000000 :=
  rbGo_len hps hpl (seq.toNat - 1) 1 [] out (by omega) (by unfold U32 at hs; omega) (by simp) (fun j a b => by omega) h

/-- The boxes of file. -/
structure FX (w V : World) (K : Nat) (h : Hdr) : Prop where
  rf : V.heap[w.heap.size]? = some (.cells (fileCs 0 0 0 0 none 0 0) 59 (0, 0))
  rh : V.heap[w.heap.size + 1]? = some (.cells (hdrCs zeroHdr) 71 (0, 0))
  box : V.heap[K]? = some (.cells (hdrCs h) 71 (0, 0))
  lt : w.heap.size + 1 < K
  below : Below w.heap.size w V
theorem FX.next {w V V' : World} {K : Nat} {h : Hdr} (x : FX w V K h) (hb : Below V.heap.size V V') : FX w V' K h :=
  ⟨(hb.block _ (blk_lt x.rf)).trans x.rf, (hb.block _ (blk_lt x.rh)).trans x.rh, (hb.block _ (blk_lt x.box)).trans x.box, x.lt, x.below.trans (hb.mono x.below.size)⟩
theorem FX.facts {w V : World} {K : Nat} {h : Hdr} (x : FX w V K h) : (whole V w.heap.size 5 = true ∧ w.heap.size < V.heap.size) ∧ (whole V (w.heap.size + 1) 7 = true ∧ w.heap.size + 1 < V.heap.size) ∧ rng V K 0 7 = some (hdrCs h) ∧ K < V.heap.size ∧ (V.cell? ⟨K, 0, none⟩ = some (.int .u8 h.kind) ∧ V.cell? ⟨K, 1, none⟩ = some (.int .u32 h.seq) ∧ V.cell? ⟨K, 2, none⟩ = some (.int .i64 h.issued) ∧ V.cell? ⟨K, 3, none⟩ = some (.int .u32 h.base)) :=
  ⟨⟨whole_blk x.rf, blk_lt x.rf⟩, ⟨whole_blk x.rh, blk_lt x.rh⟩, rng_whole x.box, blk_lt x.box, by rw [World.cell?, x.box]; rfl, by rw [World.cell?, x.box]; rfl, by rw [World.cell?, x.box]; rfl, by rw [World.cell?, x.box]; rfl⟩

attribute [local go_sem] ext_const Ext.cell Ext.frozen Ext.rng Ext.whole
attribute [local go_sem ↓] exec_ldHd exec_stHd exec_ldFile exec_stFile exec_bdFile0 exec_bdHd0 exec_bdFile4
attribute [local go_sem] run_ldHd run_stHd run_ldFile run_stFile run_bdFile0 run_bdHd0 run_bdFile4 fileCs_size fileCs_ones fileCs_all whole_alloc_lt whole_alloc_at whole_drew setRow_alloc_at setRow_alloc_lt rng_alloc_lt rng_alloc_at rng_drew rng_drewN rng_setRow_other whole_setRow_other rng_setCell_other whole_setCell_other

set_option maxRecDepth 100000 in
set_option maxHeartbeats 4000000 in
theorem file_calls (w : World) (Y S LB : Nat) (A : Nat → Prop) (ps : List KV) (full : Bool) (seq : Int) (hY : SysAt w Y S LB) (hS : StoreAt w S A ps full) (hps : PsOk ps) (hpl : ps.length ≤ 4000000) (hs : U32 seq) :
    Calls Tryz.prog 154 #[.pointer (some ⟨Y, 0, none⟩), .int .u32 seq] w fun e w' => FilePost w w' e (fileR ps seq) := by
  obtain ⟨R, hR⟩ : ∃ R, R = fileR ps seq := ⟨_, rfl⟩
  rw [← hR]
  have HR := hide hR
  have HY := hide hY
  have HS := hide hS
  have hYl := blk_lt hY
  clear hR hY hS
  have hov : ∀ x, ones (hdrCs x) 7 = true := fun _ => rfl
  go_enter Tryz.func154, Tryz.ntmps154
  go_upto_region 1 with fail
  have hb0 : Below w.heap.size w ((w.alloc (.cells (fileCs 0 0 0 0 none 0 0) 59)).alloc (.cells (hdrCs zeroHdr) 71)) := ((Below.refl _ _).alloc (Nat.le_refl _) _).alloc (by simp) _
  have hx0 : ((w.alloc (.cells (fileCs 0 0 0 0 none 0 0) 59)).alloc (.cells (hdrCs zeroHdr) 71)).heap[w.heap.size]? = some (.cells (fileCs 0 0 0 0 none 0 0) 59 (0, 0)) := (Below.heap_alloc _ _ _ (by simp)).trans (heap_alloc_at _ _)
  have hx1 : ((w.alloc (.cells (fileCs 0 0 0 0 none 0 0) 59)).alloc (.cells (hdrCs zeroHdr) 71)).heap[w.heap.size + 1]? = some (.cells (hdrCs zeroHdr) 71 (0, 0)) := box2 w _ _ _ _
  have hz0 : w.heap.size + 2 ≤ ((w.alloc (.cells (fileCs 0 0 0 0 none 0 0) 59)).alloc (.cells (hdrCs zeroHdr) 71)).heap.size := by simp
  simp only [hdrCs, zeroHdr, fileCs] at hb0 hx0 hx1 hz0
  generalize (World.alloc (World.alloc w _) _) = V at *
  have HB0 := hide hb0
  have HX0 := hide hx0
  have HX1 := hide hx1
  have HY0 : Hid (SysAt V Y S LB) := (hb0.block _ hYl).trans HY.out
  have HS0 := hide (HS.out.below hb0)
  have HFX : Hid (∀ w1 h, Below V.heap.size V w1 → FX w (w1.alloc (.cells (hdrCs h) 71)) w1.heap.size h) := fun w1 h hb1 => ⟨(Below.heap_alloc _ _ _ (by have := hb1.size; have := blk_lt hx0; omega)).trans ((hb1.block _ (blk_lt hx0)).trans hx0), (Below.heap_alloc _ _ _ (by have := hb1.size; have := blk_lt hx1; omega)).trans ((hb1.block _ (blk_lt hx1)).trans hx1), heap_alloc_at _ _, by have := hb1.size; omega, (hb0.trans (hb1.mono hb0.size)).alloc (by have := hb0.size; have := hb1.size; omega) _⟩
  clear hb0 hx0 hx1 hz0
  cases hh : hdrR ps seq with
  | error c =>
    have HE : Hid (R = .error c) := HR.out.trans (by simp [fileR, hh])
    go_upto_region 3 with (go_at_call 174; refine (hdrR_calls _ Y S LB A ps full seq HY0.out HS0.out hps hs).mono ?_; rintro e w1 ⟨hd1, hb1⟩; rw [hh] at hd1; have hd2 : e = .returned (.tuple #[.agg (hdrCs zeroHdr), .iface 63 (.int .u8 c)]) := hd1; subst hd2)
    have HX := hide (HFX.out w1 zeroHdr hb1)
    clear hd1 hb1 HFX
    generalize (World.alloc w1 _) = W1 at *
    obtain ⟨⟨f0, f1⟩, ⟨g0, g1⟩, -⟩ := HX.out.facts
    go_wp2
    refine bodyPost_ret (results_cct Tryz.results154 _ _ w.heap.size (w.heap.size + 1) _ _ _ _ _ _ _ _ rfl ((setRow_other _ _ _ _ (by omega)).trans (heap_setRow_at HX.out.rf)) rfl (heap_setRow_at ((setRow_other _ _ _ _ (by omega)).trans HX.out.rh)) Tryz.underlying59 rfl (by kernel_rfl) Tryz.underlying71 rfl (by kernel_rfl)) rfl ?_
    rw [HE.out]
    exact ⟨rfl, HX.out.below.trans ((below_setRow' _ _ (Nat.le_refl _)).trans (below_setRow' _ _ (by omega)))⟩
  | ok h =>
    obtain ⟨hok, -, -⟩ := hdrR_some hps hs hh
    have HOK := hide hok
    have HE : Hid (R = if (h.kind == 73) then (match linesR ps h with | none => .error 28 | some cs => .ok (h, cs)) else match rbR ps seq with | none => .error 28 | some rows => .ok (h, asCur rows)) := HR.out.trans (by simp only [fileR, hh])
    clear hok
    go_upto_region 5 with (go_at_call 174; refine (hdrR_calls _ Y S LB A ps full seq HY0.out HS0.out hps hs).mono ?_; rintro e w1 ⟨hd1, hb1⟩; rw [hh] at hd1; have hd2 : e = .returned (.tuple #[.agg (hdrCs h), .nilIface]) := hd1; subst hd2; have HX := hide (HFX.out w1 h hb1); obtain ⟨⟨f0, f1⟩, ⟨g0, g1⟩, r0, k0, k1, k2, k3, k4⟩ := HX.out.facts)
    have hxf : ((w1.alloc (.cells (hdrCs h) 71)).alloc (.cells (fileCs h.kind h.seq h.issued h.base none 0 0) 59)).heap[w1.heap.size + 1]? = some (.cells (fileCs h.kind h.seq h.issued h.base none 0 0) 59 (0, 0)) := box2 w1 _ _ _ _
    have HX2 := hide (HX.out.next (V' := (w1.alloc (.cells (hdrCs h) 71)).alloc (.cells (fileCs h.kind h.seq h.issued h.base none 0 0) 59)) ((Below.refl _ _).alloc (Nat.le_refl _) _))
    clear hd1 hb1 HFX HX f0 f1 g0 g1 r0 k0 k1 k2 k3 k4
    generalize (World.alloc (World.alloc w1 _) _) = V2 at *
    obtain ⟨K, hK⟩ : ∃ K, K = w1.heap.size := ⟨_, rfl⟩
    rw [← hK] at hxf HX2 ⊢
    clear hK
    have HXF := hide hxf
    obtain ⟨⟨f0, f1⟩, ⟨g0, g1⟩, r0, k0, k1, -⟩ := HX2.out.facts
    have hY2 : Hid (SysAt V2 Y S LB) := (HX2.out.below.block _ hYl).trans HY.out
    have hS2 := hide (HS.out.below HX2.out.below)
    have hz2 := HX2.out.below.size
    have hlf := blk_lt hxf
    have p4 : V2.cell? ⟨K + 1, 4, none⟩ = some (.slice none 0 0) := by rw [World.cell?, hxf]; rfl
    have p4f : V2.frozen? ⟨K + 1, 4, none⟩ = false := by rw [World.frozen?, hxf]; simp
    clear hxf
    go_upto_if 33 with fail
    go_cut [8] (fun e8 W => Hid (FX w W K h) ∧ ((e8 = .nilIface ∧ ∃ cs a cap, Hid (R = .ok (h, cs)) ∧ Hid (W.heap[K + 1]? = some (.cells (fileCs h.kind h.seq h.issued h.base a cs.length cap) 59 (0, 0))) ∧ Hid (ChangesAt W (w.heap.size + 2 ≤ ·) (.slice a cs.length cap) cs)) ∨ (e8 = .iface 63 (.int .u8 28) ∧ Hid (R = .error 28))))
    case first =>
      as_aux_lemma =>
        have HSET : Hid (∀ (W : World) (cs : List Change) (a : Option Addr) (cap : Nat), Below V2.heap.size V2 W → OwnR W V2.heap.size 111 14 changeCs (.slice a cs.length cap) cs → cs.length ≤ 100000000 → FX w (W.setCell ⟨K + 1, 4, none⟩ (.slice a cs.length cap)) K h ∧ (W.setCell ⟨K + 1, 4, none⟩ (.slice a cs.length cap)).heap[K + 1]? = some (.cells (fileCs h.kind h.seq h.issued h.base a cs.length cap) 59 (0, 0)) ∧ ChangesAt (W.setCell ⟨K + 1, 4, none⟩ (.slice a cs.length cap)) (w.heap.size + 2 ≤ ·) (.slice a cs.length cap) cs) := by
          intro W cs a cap hb ho hl
          have hx := HX2.out.next hb
          have hlt := hx.lt
          have hoth : ∀ b, b ≠ K + 1 → (W.setCell ⟨K + 1, 4, none⟩ (.slice a cs.length cap)).heap[b]? = W.heap[b]? := fun b hb' => Below.heap_setCell _ _ _ _ hb'
          refine ⟨⟨(hoth _ (by omega)).trans hx.rf, (hoth _ (by omega)).trans hx.rh, (hoth _ (by omega)).trans hx.box, hx.lt, hx.below.setCell (p := ⟨K + 1, 4, none⟩) (by show w.heap.size ≤ K + 1; omega) _⟩, heap_set3 ((hb.block _ (blk_lt HXF.out)).trans HXF.out), ?_⟩
          have hr := ho.rows changeCs_size (by decide) (by omega)
          exact RArr.mono hr (fun b hb' => hoth b (by omega)) (fun b hb' => by omega)
        cases t0 : (h.kind == 73) with
        | true =>
          cases hli : linesR ps h with
          | none =>
            have HF : Hid (R = .error 28) := HE.out.trans (by rw [t0, hli]; rfl)
            go_wp2_with (go_at_call 206; refine (lines_calls _ Y S LB A ps full h hY2.out hS2.out hps HOK.out).mono ?_; rintro e w7 hp; rw [hli] at hp; obtain ⟨rfl, hb7⟩ := hp; simp only [errV, show ¬ ((28 : Int) = 0) by decide, if_false]; have q4 : w7.cell? ⟨K + 1, 4, none⟩ = some (.slice none 0 0) := (hb7.cell (p := ⟨K + 1, 4, none⟩) hlf).trans p4; have q4f : w7.frozen? ⟨K + 1, 4, none⟩ = false := (by rw [World.frozen?, hb7.block _ hlf, HXF.out]; simp); have hz7 := hb7.size)
            go_meet
            case rel => exact ⟨(HSET.out w7 [] none 0 hb7 (OwnR.nil _ _ _ _ _) (by simp)).1, Or.inr ⟨rfl, HF⟩⟩
          | some cs =>
            have hcl := linesR_len hli
            have HF : Hid (R = .ok (h, cs)) := HE.out.trans (by rw [t0, hli]; rfl)
            go_wp2_with (go_at_call 206; refine (lines_calls _ Y S LB A ps full h hY2.out hS2.out hps HOK.out).mono ?_; rintro e w7 hp; rw [hli] at hp; obtain ⟨v7, rfl, ho7, hb7⟩ := hp; obtain ⟨a, cap, ev⟩ := ho7.form; subst ev; have q4 : w7.cell? ⟨K + 1, 4, none⟩ = some (.slice none 0 0) := (hb7.cell (p := ⟨K + 1, 4, none⟩) hlf).trans p4; have q4f : w7.frozen? ⟨K + 1, 4, none⟩ = false := (by rw [World.frozen?, hb7.block _ hlf, HXF.out]; simp); have hz7 := hb7.size)
            go_meet
            case rel =>
              obtain ⟨h1, h2, h3⟩ := HSET.out w7 cs a cap hb7 ho7 (by omega)
              exact ⟨h1, Or.inl ⟨rfl, cs, a, cap, HF, h2, h3⟩⟩
        | false =>
          cases hrb : rbR ps seq with
          | none =>
            have HF : Hid (R = .error 28) := HE.out.trans (by rw [t0, hrb]; rfl)
            go_upto_region 9 with (go_at_call 207; refine (rowsBefore_calls _ Y S LB A ps full seq hY2.out hS2.out hps hpl hs).mono ?_; rintro e w7 hp; rw [hrb] at hp; obtain ⟨rfl, hb7⟩ := hp; simp only [errV, show ¬ ((28 : Int) = 0) by decide, if_false])
            have hz7 := hb7.size
            go_wp2_with (go_at_call 208; refine (asCurrent_calls _ (fun _ => True) _ [] (RArr.nil _ _ _ _) (by simp)).mono ?_; rintro e w8 ⟨v8, rfl, ho8, hb8⟩; have hb9 : Below V2.heap.size V2 w8 := hb7.trans (hb8.mono hz7); obtain ⟨a, cap, ev⟩ := ho8.form; subst ev; have q4 : w8.cell? ⟨K + 1, 4, none⟩ = some (.slice none 0 0) := (hb9.cell (p := ⟨K + 1, 4, none⟩) hlf).trans p4; have q4f : w8.frozen? ⟨K + 1, 4, none⟩ = false := (by rw [World.frozen?, hb9.block _ hlf, HXF.out]; simp); have hz9 := hb9.size)
            go_meet
            case rel => exact ⟨(HSET.out w8 (asCur []) a cap hb9 (ho8.lower hz7) (by simp [asCur])).1, Or.inr ⟨rfl, HF⟩⟩
          | some rows =>
            have HF : Hid (R = .ok (h, asCur rows)) := HE.out.trans (by rw [t0, hrb]; rfl)
            have hrl : rows.length ≤ 80000000 := rbR_len hps hpl hs hrb
            go_upto_region 9 with (go_at_call 207; refine (rowsBefore_calls _ Y S LB A ps full seq hY2.out hS2.out hps hpl hs).mono ?_; rintro e w7 hp; rw [hrb] at hp; obtain ⟨v7, rfl, ho7, hb7⟩ := hp)
            have hz7 := hb7.size
            have HRW : Hid (RowsAt w7 (V2.heap.size ≤ ·) v7 rows) := ho7.rows rowCs_size (by decide) (by omega)
            clear ho7
            go_wp2_with (go_at_call 208; refine (asCurrent_calls _ _ _ rows HRW.out (by omega)).mono ?_; rintro e w8 ⟨v8, rfl, ho8, hb8⟩; have hb9 : Below V2.heap.size V2 w8 := hb7.trans (hb8.mono hz7); obtain ⟨a, cap, ev⟩ := ho8.form; subst ev; have q4 : w8.cell? ⟨K + 1, 4, none⟩ = some (.slice none 0 0) := (hb9.cell (p := ⟨K + 1, 4, none⟩) hlf).trans p4; have q4f : w8.frozen? ⟨K + 1, 4, none⟩ = false := (by rw [World.frozen?, hb9.block _ hlf, HXF.out]; simp); have hz9 := hb9.size)
            go_meet
            case rel =>
              obtain ⟨h1, h2, h3⟩ := HSET.out w8 (asCur rows) a cap hb9 (ho8.lower hz7) (by simp [asCur]; omega)
              exact ⟨h1, Or.inl ⟨rfl, asCur rows, a, cap, HF, h2, h3⟩⟩
    case rest =>
      as_aux_lemma =>
        obtain ⟨HX3, hcase⟩ := hcut
        clear f0 f1 g0 g1 r0 k0 k1 p4 p4f
        obtain ⟨⟨f0, f1⟩, ⟨g0, g1⟩, r0, k0, -⟩ := HX3.out.facts
        rcases hcase with ⟨rfl, cs, a, cap, HF, HXF3, HCA⟩ | ⟨rfl, HF⟩
        · have r1 : rng wc (K + 1) 0 5 = some (fileCs h.kind h.seq h.issued h.base a cs.length cap) := rng_whole HXF3.out
          have hl1 := blk_lt HXF3.out
          have hlt := HX3.out.lt
          have n1 : K ≠ w.heap.size := by omega
          have n2 : K + 1 ≠ w.heap.size := by omega
          have n3 : K ≠ w.heap.size + 1 := by omega
          have n4 : K + 1 ≠ w.heap.size + 1 := by omega
          have n5 : w.heap.size + 1 ≠ w.heap.size := by omega
          have n6 : w.heap.size ≠ w.heap.size + 1 := by omega
          go_upto_region 12 with fail
          go_region
          go_wp2
          refine bodyPost_ret (results_cct Tryz.results154 _ _ w.heap.size (w.heap.size + 1) _ _ _ _ _ _ _ _ rfl ((setRow_other _ _ _ _ (by omega)).trans (heap_setRow_at (w := wc.drew) HX3.out.rf)) rfl (heap_setRow_at ((setRow_other _ _ _ _ (by omega)).trans HX3.out.rh)) Tryz.underlying59 rfl (by kernel_rfl) Tryz.underlying71 rfl (by kernel_rfl)) rfl ?_
          rw [HF.out]
          refine ⟨a, cap, rfl, ?_, HX3.out.below.drew.trans ((below_setRow' _ _ (Nat.le_refl _)).trans (below_setRow' _ _ (by omega)))⟩
          exact RArr.mono HCA.out (fun b hb => (setRow_other _ _ _ _ (by omega)).trans (setRow_other _ _ _ _ (by omega))) (fun b hb => by omega)
        · go_wp2
          refine bodyPost_ret (results_cct Tryz.results154 _ _ w.heap.size (w.heap.size + 1) _ _ _ _ _ _ _ _ rfl ((setRow_other _ _ _ _ (by omega)).trans (heap_setRow_at HX3.out.rf)) rfl (heap_setRow_at ((setRow_other _ _ _ _ (by omega)).trans HX3.out.rh)) Tryz.underlying59 rfl (by kernel_rfl) Tryz.underlying71 rfl (by kernel_rfl)) rfl ?_
          rw [HF.out]
          exact ⟨rfl, HX3.out.below.trans ((below_setRow' _ _ (Nat.le_refl _)).trans (below_setRow' _ _ (by omega)))⟩

end Go.Proofs.Qxb6500666aGreatDoor
