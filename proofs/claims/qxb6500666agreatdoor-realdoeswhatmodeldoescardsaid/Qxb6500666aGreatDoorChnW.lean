/- bench.chain, walked: all files on record, fetched and parsed. -/
import Derived.Test.Qxb6500666aGreatDoorChnB
import Derived.Test.Qxb6500666aGreatDoorPrsW
import Derived.Test.Qxb6500666aGreatDoorCorQ
import Derived.Test.Qxb6500666aGreatDoorAudQ
import Derived.BigQuiet
namespace Go.Proofs.Qxb6500666aGreatDoor
open Go.RowKit

/-- A file and its slice of lines; a text and its slice. -/
abbrev ZF := File × SV
def zfCs (z : ZF) : Array Value := #[.int .u8 z.1.kind, .int .u32 z.1.seq, .int .i64 z.1.issued, .int .u32 z.1.base, sv z.2]
theorem zfCs_size (z : ZF) : (zfCs z).size = 5 := rfl
theorem zfCs_one (z : ZF) : ∀ u ∈ (zfCs z).toList, u.oneCell' = true := by simp [zfCs, sv, Value.oneCell']
abbrev ZT := SV × List Int
def ztCs (z : ZT) : Array Value := #[sv z.1]
theorem ztCs_size (z : ZT) : (ztCs z).size = 1 := rfl
theorem ztCs_one (z : ZT) : ∀ u ∈ (ztCs z).toList, u.oneCell' = true := by simp [ztCs, sv, Value.oneCell']
def txt (f : File) : List Int := fileText f.kind f.seq f.issued f.base f.changes
theorem Tryz.info59_c : (Tryz.prog.info? 59).map (fun i => (i.zero, i.size, i.bytes)) = some (some (.agg #[.int .u8 0, .int .u32 0, .int .i64 0, .int .u32 0, .slice none 0 0]), 5, 48) := by kernel_rfl
/-- New blocks that neither list owns. -/
def CK (W V : World) (fv tv : Value) (g : Nat) : Prop := (W.heap.size ≤ g ∧ g < V.heap.size) ∧ fv.ownBlock ≠ some g ∧ tv.ownBlock ≠ some g
theorem CK.addF {W V V' : World} {fv tv fv' : Value} (hz : V.heap.size ≤ V'.heap.size) (hat : fv'.ownBlock = fv.ownBlock ∨ fv'.ownBlock = some V.heap.size) : ∀ g, CK W V fv tv g → CK W V' fv' tv g := fun g q => by
  refine ⟨⟨q.1.1, by have := q.1.2; omega⟩, fun e => ?_, q.2.2⟩
  rcases hat with e1 | e1
  · exact q.2.1 (e1 ▸ e)
  · rw [e1] at e; injection e with e; have := q.1.2; omega
theorem CK.below {W V V' : World} {fv tv : Value} (hz : V.heap.size ≤ V'.heap.size) : ∀ g, CK W V fv tv g → CK W V' fv tv g := fun g q => ⟨⟨q.1.1, by have := q.1.2; omega⟩, q.2⟩
structure ChI (W V : World) (fv tv : Value) (zf : List ZF) (zt : List ZT) : Prop where
  a : OwnR V W.heap.size 59 5 zfCs fv zf
  b : OwnR V W.heap.size 55 1 ztCs tv zt
  sep : ∀ g, fv.ownBlock = some g → tv.ownBlock ≠ some g
  cf : ∀ z ∈ zf, ChangesAt V (CK W V fv tv) (sv z.2) z.1.changes
  ct : ∀ z ∈ zt, BytesAt V (CK W V fv tv) (sv z.1) z.2
  bel : Below W.heap.size W V
section
variable {W V V' : World} {fv tv fv' tv' : Value} {zf : List ZF} {zt : List ZT}
theorem ChI.start (W : World) : ChI W W (.slice none 0 0) (.slice none 0 0) [] [] := ⟨OwnR.nil _ _ _ _ _, OwnR.nil _ _ _ _ _, fun _ q => (nomatch (show (none : Option Nat) = some _ from q)), fun _ h => (by cases h), fun _ h => (by cases h), Below.refl _ _⟩
theorem ChI.below (h : ChI W V fv tv zf zt) (hb : Below V.heap.size V V') : ChI W V' fv tv zf zt := by
  have hs := hb.size
  have hk : ∀ g, CK W V fv tv g → CK W V' fv tv g := fun g q => ⟨⟨q.1.1, by have := q.1.2; omega⟩, q.2⟩
  exact ⟨h.a.below hb (Nat.le_refl _), h.b.below hb (Nat.le_refl _), h.sep, fun z hz => RArr.mono (h.cf z hz) (fun g q => hb.block g q.1.2) hk, fun z hz => RArr.mono (h.ct z hz) (fun g q => hb.block g q.1.2) hk, h.bel.trans (hb.mono h.bel.size)⟩
/-- What lies behind both lists is theirs. -/
theorem ChI.new (h : ChI W V fv tv zf zt) {g : Nat} (hg : V.heap.size ≤ g) (hl : g < V'.heap.size) : CK W V' fv tv g :=
  ⟨⟨by have := h.bel.size; omega, hl⟩, fun e => by (have := (h.a.block g e).2; omega), fun e => by (have := (h.b.block g e).2; omega)⟩
theorem ChI.addF (h : ChI W V fv tv zf zt) {z : ZF} (hz : ChangesAt V (CK W V fv tv) (sv z.2) z.1.changes) (hown : OwnR V' W.heap.size 59 5 zfCs fv' (zf ++ [z])) (hs : Same (fun b => b < V.heap.size ∧ fv.ownBlock ≠ some b) V V') (hb : Below W.heap.size V V') (hat : fv'.ownBlock = fv.ownBlock ∨ fv'.ownBlock = some V.heap.size) : ChI W V' fv' tv (zf ++ [z]) zt := by
  have hz' := hb.size
  have hk : ∀ g, CK W V fv tv g → CK W V' fv' tv g := fun g q => by
    refine ⟨⟨q.1.1, by have := q.1.2; omega⟩, fun e => ?_, q.2.2⟩
    rcases hat with e1 | e1
    · exact q.2.1 (e1 ▸ e)
    · rw [e1] at e; injection e with e; have := q.1.2; omega
  have hm : ∀ g, CK W V fv tv g → V'.heap[g]? = V.heap[g]? := fun g q => hs g ⟨q.1.2, q.2.1⟩
  refine ⟨hown, h.b.mono (fun b e => hs b ⟨(h.b.block b e).2, fun q => h.sep b q e⟩), fun g e e' => ?_, fun y hy => ?_, fun y hy => RArr.mono (h.ct y hy) hm hk, h.bel.trans hb⟩
  · rcases hat with e1 | e1
    · exact h.sep g (e1 ▸ e) e'
    · rw [e1] at e
      injection e with e
      have := (h.b.block g e').2
      omega
  · rcases List.mem_append.1 hy with q | q
    · exact RArr.mono (h.cf y q) hm hk
    · rw [List.mem_singleton.1 q]
      exact RArr.mono hz hm hk
theorem ChI.addT (h : ChI W V fv tv zf zt) {z : ZT} (hz : BytesAt V (CK W V fv tv) (sv z.1) z.2) (hown : OwnR V' W.heap.size 55 1 ztCs tv' (zt ++ [z])) (hs : Same (fun b => b < V.heap.size ∧ tv.ownBlock ≠ some b) V V') (hb : Below W.heap.size V V') (hat : tv'.ownBlock = tv.ownBlock ∨ tv'.ownBlock = some V.heap.size) : ChI W V' fv tv' zf (zt ++ [z]) := by
  have hz' := hb.size
  have hk : ∀ g, CK W V fv tv g → CK W V' fv tv' g := fun g q => by
    refine ⟨⟨q.1.1, by have := q.1.2; omega⟩, q.2.1, fun e => ?_⟩
    rcases hat with e1 | e1
    · exact q.2.2 (e1 ▸ e)
    · rw [e1] at e; injection e with e; have := q.1.2; omega
  have hm : ∀ g, CK W V fv tv g → V'.heap[g]? = V.heap[g]? := fun g q => hs g ⟨q.1.2, q.2.2⟩
  refine ⟨h.a.mono (fun b e => hs b ⟨(h.a.block b e).2, fun q => h.sep b e q⟩), hown, fun g e e' => ?_, fun y hy => RArr.mono (h.cf y hy) hm hk, fun y hy => ?_, h.bel.trans hb⟩
  · rcases hat with e1 | e1
    · exact h.sep g e (e1 ▸ e')
    · rw [e1] at e'
      injection e' with e'
      have := (h.a.block g e).2
      omega
  · rcases List.mem_append.1 hy with q | q
    · exact RArr.mono (h.ct y q) hm hk
    · rw [List.mem_singleton.1 q]
      exact RArr.mono hz hm hk
end
theorem ChI.lower {W W1 V : World} {fv tv : Value} {zf : List ZF} {zt : List ZT} (h : ChI W1 V fv tv zf zt) (hb : Below W.heap.size W W1) : ChI W V fv tv zf zt := by
  have hs := hb.size
  have hk : ∀ g, CK W1 V fv tv g → CK W V fv tv g := fun g q => ⟨⟨by have := q.1.1; omega, q.1.2⟩, q.2⟩
  exact ⟨h.a.base_mono hs, h.b.base_mono hs, h.sep, fun z hz => RArr.mono (h.cf z hz) (Same.refl _ _) hk, fun z hz => RArr.mono (h.ct z hz) (Same.refl _ _) hk, hb.trans (h.bel.mono hs)⟩
theorem run_fldSt1 (w : World) (s : Stat) : (fldS 65 1 (.agg (statCs s))).run Tryz.prog w = .ok (.int .u32 s.transfers) w := by kernel_rfl
theorem ask_trans {rn kn : Nat → ByteArray} {w w' : World} {ps : List KV} {full : Bool} {off lar : Int} {L : Low} {x : Rsp} {fs : List File} {rows : List Row} (hx : RspP rn kn w w' ps full off lar L (askReq 22 0 0) x) (h : FI ps fs rows) : x.st.transfers = fs.length ∧ x.st.lastCum = cumOf fs := by
  have h1 := hx.1 rfl 1 (root_may22 ps)
  have e : rdX rn kn w w' ps L (askReq 22 0 0) = rd22X ps := by unfold rdX; simp [askReq]
  rw [e] at h1
  unfold rd22X at h1
  obtain ⟨s, hs, h2, h3, -⟩ := h.st
  rw [hs] at h1
  have h1 : x = { rsp0 with st := s } := h1
  rw [h1]
  exact ⟨h2, h3⟩
/-- A file on record parses back, its lines in new memory. -/
theorem FI.fileNew {ps : List KV} {fs : List File} {rows : List Row} (h : FI ps fs rows) (hl : fs.length ≤ 1000000) {i : Nat} (hi : i < fs.length) (hcl : fs[i].changes.length ≤ 65536) {W : World} {B : Nat} {v : Value} (ho : OwnR W B 5 1 byteCs v (txt fs[i])) :
    ∃ a n c, v = .slice a n c ∧ Calls Tryz.prog 33 #[.slice a n c] W fun e w' => ∃ a cap', e = .returned (.tuple #[.agg (fileCs fs[i].kind fs[i].seq fs[i].issued fs[i].base a fs[i].changes.length cap'), .nilIface]) ∧ ChangesAt w' (W.heap.size ≤ ·) (.slice a fs[i].changes.length cap') fs[i].changes ∧ Below W.heap.size W w' := by
  obtain ⟨n1, n2, n3, n4, -⟩ := h.nums hl hi
  have hc := h.cok _ (List.getElem_mem hi)
  have hlt := fileText_len (k := fs[i].kind) n2 n3 n4 hc (show fs[i].changes.length ≤ 80000000 by omega)
  obtain ⟨b, c, e, hD⟩ := data_of_own ho (fileText_pos _ _ _ _ _) (by unfold txt; omega)
  exact ⟨_, _, _, e, parse_new W b 0 _ c _ _ _ _ _ hD (h.fok _ (List.getElem_mem hi)) n1 n2 n3 n4 hc hcl⟩
section
variable (ρ : Operand → Value) (dst : Option Tmp) (x : Operand) (ty : TypeId) (pos : String) (after : Array Edge) (guard : Option (Nat × Bool))
theorem exec_bsFile : execOp ρ { dst, op := .buildSlice 43 1 #[(0, x)], type := ty, pos, after, guard } = (do pure (.value (← bsS 43 (ρ x)))) := by simp [execOp, bsS]
end
theorem run_bsFile (w : World) (k s i b : Int) (a : Option Addr) (n c : Nat) : (bsS 43 (.agg (fileCs k s i b a n c))).run Tryz.prog w = .ok (.slice (some ⟨w.heap.size, 0, none⟩) 1 1) (w.alloc (.cells (fileCs k s i b a n c) 59)) := by kernel_rfl

attribute [local go_sem] ext_const Ext.cell Ext.frozen Ext.rng Ext.whole
attribute [local go_sem ↓] exec_fldRsp exec_fldSt exec_ldFile exec_stFile exec_bsFile
attribute [local go_sem] run_fld4 run_fldSt1 run_ldFile run_stFile run_bsFile fileCs_size fileCs_ones whole_alloc_lt whole_alloc_at whole_drew setRow_alloc_at setRow_alloc_lt setRow_drew rng_alloc_lt rng_alloc_at rng_drew rng_drewN

set_option maxRecDepth 100000 in
set_option maxHeartbeats 4000000 in
theorem chain_calls {w W : World} {K : Nat → Prop} {t : ST} {okg : Nat → Prop} {rn kn ft : Nat → ByteArray} {fs : List File} {rows : List Row} (h : BX w W K t) (hp : PO t.ps t.low) (hgl : ∀ V, Below w.heap.size w V → Gl V w.heap.size rn kn ft okg) (hfi : FI t.ps fs rows) (hl : fs.length ≤ 65536) (hcl : ∀ f ∈ fs, f.changes.length ≤ 65536) :
    Calls Tryz.prog 52 #[.pointer (some ⟨w.heap.size + 2, 0, none⟩)] W fun e w' => ∃ fv tv zf zt, e = .returned (.tuple #[fv, tv, .bool true]) ∧ ChI W w' fv tv zf zt ∧ zf.map (·.1) = fs ∧ zt.map (·.2) = fs.map txt := by
  have HX := hide h
  have HPO := hide hp
  have HGL := hide hgl
  have HFI := hide hfi
  have HCL := hide hcl
  have HAK := hide (HX.out.askB HPO.out (HGL.out _ HX.out.blw) 22 0 0 rfl u32z u32z)
  obtain ⟨m, hm⟩ : ∃ m, m = fs.length := ⟨_, rfl⟩
  have Hm : Hid (m = fs.length) := hm
  have hm65 : m ≤ 65536 := by omega
  clear h hp hgl hfi hcl hl hm
  go_enter Tryz.func52, Tryz.ntmps52
  go_upto_region 3 with (go_at_call 27; refine HAK.out.mono ?_; rintro e W1 ⟨rsp, rfl, hb1, hp1⟩; have htr : rsp.st.transfers = (m : Int) := (by rw [(ask_trans hp1 HFI.out).1, Hm.out]); have HB1 := hide hb1; clear hb1 hp1 HAK)
  have HX1 := hide (HX.out.below HB1.out)
  clear htr HX
  have HC0 : Hid (ChI W1 W1 (.slice none 0 0) (.slice none 0 0) [] []) := ChI.start W1
  go_loopg [2, 3, 6] m (fun g v2 v3 v6 wr => ∃ (k : Nat) (zf : List ZF) (zt : List ZT) (fa ta : Option Addr) (fc tc : Nat), k ≤ m ∧ g = m - k ∧ v6 = .int .u32 ((k : Int) + 1) ∧ v2 = .slice fa zf.length fc ∧ v3 = .slice ta zt.length tc ∧ Hid (ChI W1 wr (.slice fa zf.length fc) (.slice ta zt.length tc) zf zt ∧ zf.map (·.1) = fs.take k ∧ zt.map (·.2) = (fs.take k).map txt ))
  case atStart => exact ⟨0, [], [], none, none, 0, 0, by omega, by omega, rfl, rfl, rfl, HC0.out, rfl, rfl⟩
  clear HC0
  case round =>
    obtain ⟨k, zf, zt, fa, ta, fc, tc, hk, rfl, rfl, rfl, rfl, HI⟩ := hrel
    by_cases hkm : k < m
    · as_aux_lemma =>
      have hkf : k < fs.length := by rw [← Hm.out]; exact hkm
      have hkI : (k : Int) + 1 ≤ (m : Int) := by omega
      obtain ⟨Y, hbn, hfile⟩ := (HX1.out.below HI.out.1.bel).fileB HPO.out (seq := (k : Int) + 1) ⟨by omega, by omega⟩
      have b2 := cells_all hbn 2
      simp only [List.getElem?_toArray, List.getElem?_cons_zero, List.getElem?_cons_succ] at b2
      have hf1 := hfile wr (Below.refl _ _)
      rw [HFI.out.fbR (by rw [← Hm.out]; omega) hkf] at hf1
      have HF1 := hide hf1
      have hzl : zf.length = k ∧ zt.length = k := by
        have h1 := congrArg List.length HI.out.2.1
        have h2 := congrArg List.length HI.out.2.2
        rw [List.length_map, List.length_take] at h1
        rw [List.length_map, List.length_map, List.length_take] at h2
        omega
      obtain ⟨hzl1, hzl2⟩ := hzl
      have HZL : Hid (zf.length = k ∧ zt.length = k) := ⟨hzl1, hzl2⟩
      clear hbn hfile hf1 hzl1 hzl2
      go_upto_region 6 with (go_at_call 32; refine HF1.out.mono ?_; rintro e V1 ⟨v1, rfl, hown1, hb1⟩)
      obtain ⟨pa, pn, pc, rfl, hparse⟩ := HFI.out.fileNew (by rw [← Hm.out]; omega) hkf (HCL.out _ (List.getElem_mem hkf)) hown1
      have HPA := hide hparse
      have HOW1 := hide hown1
      have HBV1 := hide hb1
      clear hparse hown1 hb1 b2 HF1
      go_upto_region 11 with (go_at_call 33; refine HPA.out.mono ?_; rintro e V2 ⟨qa, qc, rfl, hch, hb2⟩; have HCH := hide hch; have HBV2 := hide hb2; clear hch hb2)
      have HTK : Hid (fs.take (k + 1) = fs.take k ++ [fs[k]]) := List.take_succ_eq_append_getElem hkf
      have htl : (txt fs[k]).length ≤ 99000000000 := by
        obtain ⟨n1, n2, n3, n4, -⟩ := HFI.out.nums (by rw [← Hm.out]; omega) hkf
        exact fileText_len n2 n3 n4 (HFI.out.cok _ (List.getElem_mem hkf)) (by have := HCL.out _ (List.getElem_mem hkf); omega)
      have HTL := hide htl
      clear HPA htl
      generalize fs[k] = f at *
      obtain ⟨z, hz⟩ : ∃ z : ZF, z = (f, (qa, f.changes.length, qc)) := ⟨_, rfl⟩
      have hzc : zfCs z = fileCs f.kind f.seq f.issued f.base qa f.changes.length qc := by rw [hz]; rfl
      have hb3 : Below V2.heap.size V2 (V2.alloc (.cells (fileCs f.kind f.seq f.issued f.base qa f.changes.length qc) 59)) := (Below.refl _ _).alloc (Nat.le_refl _) _
      have hk3 : (V2.alloc (.cells (fileCs f.kind f.seq f.issued f.base qa f.changes.length qc) 59)).heap[V2.heap.size]? = some (.cells (fileCs f.kind f.seq f.issued f.base qa f.changes.length qc) 59 (0, 0)) := heap_alloc_at _ _
      have HBV3 := hide (HBV1.out.trans (HBV2.out.mono HBV1.out.size) |>.trans (hb3.mono (Nat.le_trans HBV1.out.size HBV2.out.size)))
      have HCH3 := hide (RArr.below HCH.out hb3)
      have HOW3 := hide (HOW1.out.below (HBV2.out.trans (hb3.mono HBV2.out.size)) (Nat.le_refl _))
      have HZ13 : Hid (wr.heap.size ≤ V1.heap.size) := HBV1.out.size
      clear hb3 HCH HOW1 HBV1 HBV2
      generalize V2.alloc (.cells (fileCs f.kind f.seq f.issued f.base qa f.changes.length qc) 59) = V3 at *
      generalize V2.heap.size = FB at *
      have hrF : rng V3 FB 0 5 = some (fileCs f.kind f.seq f.issued f.base qa f.changes.length qc) := rng_whole hk3
      have zF := blk_lt hk3
      have HI3 := hide (HI.out.1.below HBV3.out)
      have HI4 := hide (HI3.out.below ((Below.refl _ _).alloc (Nat.le_refl _) (.cells (fileCs f.kind f.seq f.issued f.base qa f.changes.length qc) 59)))
      have hbase4 := HI4.out.bel.size
      clear hk3
      have HZ4 : Hid (ChangesAt (V3.alloc (.cells (fileCs f.kind f.seq f.issued f.base qa f.changes.length qc) 59)) (CK W1 (V3.alloc (.cells (fileCs f.kind f.seq f.issued f.base qa f.changes.length qc) 59)) (.slice fa zf.length fc) (.slice ta zt.length tc)) (sv z.2) z.1.changes) := by
        show ChangesAt _ _ _ _
        rw [hz]
        exact RArr.mono (RArr.lt (RArr.below HCH3.out ((Below.refl _ _).alloc (Nat.le_refl _) _))) (Same.refl _ _) (fun g q => HI.out.1.new (by have h1 := q.1; have h2 := HZ13.out; omega) q.2)
      have HOW4 := hide (HOW3.out.below ((Below.refl _ _).alloc (Nat.le_refl _) (.cells (fileCs f.kind f.seq f.issued f.base qa f.changes.length qc) 59)) (Nat.le_refl _))
      have hr4 : rng (V3.alloc (.cells (fileCs f.kind f.seq f.issued f.base qa f.changes.length qc) 59)) V3.heap.size 0 5 = some (zfCs z) := by rw [hzc]; exact rng_whole (heap_alloc_at _ _)
      have HR4 := hide hr4
      have HZE : Hid (z.1 = f) := by show z.1 = f; rw [hz]
      have hzk1 : (zf.length + 1) * 48 ≤ 140737488355328 := by have := HZL.out; omega
      have hzk2 : (zt.length + 1) * 24 ≤ 140737488355328 := by have := HZL.out; omega
      have HT4 : Hid (BytesAt (V3.alloc (.cells (fileCs f.kind f.seq f.issued f.base qa f.changes.length qc) 59)) (CK W1 (V3.alloc (.cells (fileCs f.kind f.seq f.issued f.base qa f.changes.length qc) 59)) (.slice fa zf.length fc) (.slice ta zt.length tc)) (.slice pa pn pc) (txt f)) := RArr.mono (RArr.lt (HOW4.out.rows byteCs_size (by decide) (by have h1 := HTL.out; show (txt f).length ≤ _; omega))) (Same.refl _ _) (fun g q => HI.out.1.new q.1 q.2)
      clear hr4 hz hzc HCH3 HOW3 HOW4
      go_upto_region 4 with (first
        | (at_builtin; refine wpList_app1 (α := ZF) rfl _ _ 43 rfl W1.heap.size 59 zfCs Tryz.underlying43 Tryz.info59_c rfl (by decide) zfCs_size zfCs_one _ zf rfl HI4.out.a _ rfl z HR4.out hzk1 (by unfold maxLen; omega) hbase4 ?_; intro v5 w5 hown5 hsame5 hbel5 hat5; have HI5 := hide (HI4.out.addF HZ4.out hown5 hsame5 hbel5 hat5); have HT5 := hide (RArr.mono HT4.out (fun g q => hsame5 g ⟨q.1.2, q.2.1⟩) (CK.addF hbel5.size hat5)); have HB5 := hide hbel5; obtain ⟨a5, c5, e5⟩ := hown5.form; subst e5; have HI6 := hide (HI5.out.below ((Below.refl _ _).alloc (Nat.le_refl _) (.cells #[.slice pa pn pc] 55))); have HR6 : Hid (rng (w5.alloc (.cells #[.slice pa pn pc] 55)) w5.heap.size 0 1 = some (ztCs ((pa, pn, pc), txt f))) := rng_whole (heap_alloc_at _ _); have hbase6 := HI6.out.bel.size; clear hown5 hsame5 hbel5 hat5 HI4 HR4)
        | (at_builtin; (refine wpList_app1 (α := ZT) rfl _ _ 144 rfl W1.heap.size 55 ztCs Tryz.underlying144 Tryz.info55 rfl (by decide) ztCs_size ztCs_one _ zt rfl HI6.out.b _ rfl ((pa, pn, pc), txt f) HR6.out hzk2 (by unfold maxLen; omega) hbase6 ?_; intro v7 w7 hown7 hsame7 hbel7 hat7; have HI7 := hide (HI6.out.addT (z := ((pa, pn, pc), txt f)) (RArr.mono HT5.out (fun g q => ((Below.refl w5.heap.size w5).alloc (Nat.le_refl _) _).block g q.1.2) (CK.below (by simp))) hown7 hsame7 hbel7 hat7); have HB7 := hide hbel7; obtain ⟨a7, c7, e7⟩ := hown7.form; subst e7; clear hown7 hsame7 hbel7 hat7 HI6 HR6)))
      have HEND : Hid (ChI W1 w7 (.slice a5 (zf ++ [z]).length c5) (.slice a7 (zt ++ [((pa, pn, pc), txt f)]).length c7) (zf ++ [z]) (zt ++ [((pa, pn, pc), txt f)]) ∧ (zf ++ [z]).map (·.1) = fs.take (k + 1) ∧ (zt ++ [((pa, pn, pc), txt f)]).map (·.2) = (fs.take (k + 1)).map txt) := by
        refine ⟨HI7.out, ?_, ?_⟩
        · rw [HTK.out, List.map_append, HI.out.2.1]
          simp [HZE.out]
        · rw [HTK.out, List.map_append, List.map_append, HI.out.2.2]
          rfl
      have hzk3 : (k : Int) + 1 + 1 = ((k + 1 : Nat) : Int) + 1 := by omega
      go_wp2
      go_roundg (m - (k + 1))
      case measure => omega
      case rel => exact ⟨k + 1, zf ++ [z], zt ++ [((pa, pn, pc), txt f)], _, _, _, _, by omega, rfl, by go_num, by simp, by simp, HEND.out.1, HEND.out.2.1, HEND.out.2.2⟩
    · as_aux_lemma =>
      obtain rfl : k = m := by omega
      have HE : Hid (ChI W1 wr (.slice fa zf.length fc) (.slice ta zt.length tc) zf zt ∧ zf.map (·.1) = fs ∧ zt.map (·.2) = fs.map txt) := by
        have h1 := HI.out.2.1
        have h2 := HI.out.2.2
        rw [List.take_of_length_le (by rw [Hm.out]; exact Nat.le_refl _)] at h1 h2
        exact ⟨HI.out.1, h1, h2⟩
      clear HI
      go_wp2
      refine bodyPost_ret (v := .tuple #[.slice fa zf.length fc, .slice ta zt.length tc, .bool true]) (by simp [results, Tryz.results52]) rfl ?_
      exact ⟨_, _, zf, zt, rfl, HE.out.1.lower HB1.out, HE.out.2.1, HE.out.2.2⟩

end Go.Proofs.Qxb6500666aGreatDoor
