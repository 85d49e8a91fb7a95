/- fileBytes, walked. -/
import Derived.Test.Qxb6500666aGreatDoorFile
import Derived.WalkSpells
import Derived.WalkLawsBesides
namespace Go.Proofs.Qxb6500666aGreatDoor
open Go.RowKit

theorem decChg_ok {bs : List Int} {c : Change} (hb : ByteL bs) (h : decChg bs = some c) : c.Ok := by
  unfold decChg at h
  simp only at h
  split at h
  · cases h
  · split at h
    · cases h
    · split at h
      · cases h
      · injection h with h
        subst h
        have b1 : ByteL (⟨bs, false⟩ : Rd).rest := hb
        have b2 := rdDig_bytes (c := 1) b1
        have b3 := rdDig_bytes (c := 4) b2
        have b4 := rdDig_bytes (c := 4) b3
        have b5 := rdDig_bytes (c := 4) b4
        have b6 := rdI64_bytes b5
        have b7 := rdDig_bytes (c := 4) b6
        have b8 := rdDig_bytes (c := 4) b7
        have b9 := rdDig_bytes (c := 4) b8
        have b10 := rdDig_bytes (c := 4) b9
        have b11 := rdDig_bytes (c := 4) b10
        have b12 := rdDig_bytes (c := 1) b11
        have b13 := rdI64_bytes b12
        have b14 := rdI64_bytes b13
        exact ⟨dig1_u8 b1, ⟨dig4_u32 b2, dig4_u32 b3, dig4_u32 b4, rdI64_i64 b5, dig4_u32 b6, dig4_u32 b7, dig4_u32 b8, dig4_u32 b9, dig4_u32 b10, dig1_u8 b11, rdI64_i64 b12, rdI64_i64 b13, rdI64_i64 b14⟩⟩
theorem chgR_ok {ps : List KV} {f l : Int} {c : Change} (hps : PsOk ps) (h : chgR ps f l = .ok c) : c.Ok := by
  unfold chgR at h
  split at h
  · cases h
  · rename_i v hv
    unfold ofOpt at h
    split at h
    · cases h
    · rename_i y hy
      injection h with h
      subst h
      exact decChg_ok (getB_ok hps hv) hy
theorem linesGo_ok {ps : List KV} {seq : Int} (hps : PsOk ps) : ∀ {n i : Nat} {acc out : List Change}, (∀ c ∈ acc, c.Ok) → linesGo ps seq n i acc = some out → ∀ c ∈ out, c.Ok
  | 0, i, acc, out, ha, h => by injection h with h; subst h; exact ha
  | n + 1, i, acc, out, ha, h => by
    simp only [linesGo] at h
    split at h
    · cases h
    · rename_i c hc
      refine linesGo_ok hps (fun x hx => ?_) h
      rcases List.mem_append.1 hx with hx | hx
      · exact ha x hx
      · rw [List.mem_singleton.1 hx]; exact chgR_ok hps hc
theorem linesR_ok {ps : List KV} {h : Hdr} {out : List Change} (hps : PsOk ps) (hl : linesR ps h = some out) : ∀ c ∈ out, c.Ok := by
  unfold linesR at hl
  split at hl
  · cases hl
  · exact linesGo_ok hps (by simp) hl
theorem rbGo_ok {ps : List KV} (hps : PsOk ps) : ∀ (k n : Nat) (rows out : List Row), (∀ r ∈ rows, r.Ok) → rbGo ps k n rows = some out → ∀ r ∈ out, r.Ok
  | 0, n, rows, out, ha, h => by injection h with h; subst h; exact ha
  | k + 1, n, rows, out, ha, h => by
    simp only [rbGo] at h
    split at h
    · cases h
    · split at h
      · exact rbGo_ok hps k _ rows out ha h
      · split at h
        · cases h
        · rename_i cs hli
          split at h
          · cases h
          · rename_i o hap
            exact rbGo_ok hps k _ o out (applyGo_ok cs none rows [] o ha (by simp) (fun c hc => (linesR_ok hps hli c hc).row) hap) h
theorem rbR_ok {ps : List KV} {seq : Int} {out : List Row} (hps : PsOk ps) (h : rbR ps seq = some out) : ∀ r ∈ out, r.Ok := rbGo_ok hps _ _ [] out (by simp) h
theorem fileR_ok {ps : List KV} {seq : Int} {h : Hdr} {cs : List Change} (hps : PsOk ps) (hpl : ps.length ≤ 4000000) (hs : U32 seq) (hf : fileR ps seq = .ok (h, cs)) : h.Ok ∧ h.seq = seq ∧ (∀ c ∈ cs, c.Ok) ∧ cs.length ≤ 80000000 := by
  unfold fileR at hf
  split at hf
  · cases hf
  · rename_i h1 hh
    obtain ⟨k1, k2, -⟩ := hdrR_some hps hs hh
    split at hf
    · split at hf
      · cases hf
      · rename_i cs' hli
        injection hf with hf
        injection hf with e1 e2
        subst e1 e2
        exact ⟨k1, k2, linesR_ok hps hli, by have := linesR_len hli; omega⟩
    · split at hf
      · cases hf
      · rename_i rows hrb
        injection hf with hf
        injection hf with e1 e2
        subst e1 e2
        refine ⟨k1, k2, fun c hc => ?_, by have := rbR_len hps hpl hs hrb; simpa [asCur] using this⟩
        obtain ⟨y, hy, rfl⟩ := List.mem_map.1 hc
        exact ⟨(⟨by decide, by decide⟩ : U8 82), rbR_ok hps hrb y hy⟩

open Classical in
noncomputable def fbR (ps : List KV) (seq : Int) : Except Int (List Int) := match fileR ps seq with
  | .error c => .error c
  | .ok p => if ¬ FileOk p.1.kind p.1.seq p.1.issued p.1.base p.2 then .error 28 else if hdrOf p.1.kind p.1.seq p.1.issued p.1.base p.2 = p.1 then .ok (fileText p.1.kind p.1.seq p.1.issued p.1.base p.2) else .error 28
def OwnX {α : Type} (w w' : World) (t : TypeId) (size : Nat) (f : α → Array Value) (e : Ending) : Except Int (List α) → Prop
  | .error c => e = .returned (.tuple #[.slice none 0 0, .iface 63 (.int .u8 c)]) ∧ Below w.heap.size w w'
  | .ok l => ∃ v, e = .returned (.tuple #[v, .nilIface]) ∧ OwnR w' w.heap.size t size f v l ∧ Below w.heap.size w w'
theorem ownx_err {α : Type} {w w' : World} {t : TypeId} {size : Nat} {f : α → Array Value} {c : Int} {R : Except Int (List α)} (HE : Hid (R = .error c)) (hb : Below w.heap.size w w') : OwnX w w' t size f (.returned (.tuple #[.slice none 0 0, .iface 63 (.int .u8 c)])) R := by
  rw [HE.out]
  exact ⟨rfl, hb⟩

section
variable (ρ : Operand → Value) (dst : Option Tmp) (x y : Operand) (ty : TypeId) (pos : String) (after : Array Edge) (guard : Option (Nat × Bool))
theorem exec_neqHd (yt : TypeId) : execOp ρ { dst, op := .binOp .neq 71 x y yt, type := ty, pos, after, guard } = (do pure (.value (← cmpS .neq 71 x y (ρ x) (ρ y)))) := rfl
end
theorem guardHd (op : BinOp) (x y : Operand) (u v : Array Value) (w : World) : (eqGuard op 71 x y (.agg u) (.agg v)).run Tryz.prog w = .ok () w := by
  cases op <;> kernel_rfl
theorem hdrCs_at (h : Hdr) : (hdrCs h)[0]? = some (.int .u8 h.kind) ∧ (hdrCs h)[1]? = some (.int .u32 h.seq) ∧ (hdrCs h)[2]? = some (.int .i64 h.issued) ∧ (hdrCs h)[3]? = some (.int .u32 h.base) ∧ (hdrCs h)[4]? = some (.int .u32 h.count) ∧ (hdrCs h)[5]? = some (.int .u32 h.sum) ∧ (hdrCs h)[6]? = some (.int .u32 h.len) := ⟨rfl, rfl, rfl, rfl, rfl, rfl, rfl⟩
set_option maxRecDepth 100000 in
theorem equalHd (a b : Hdr) (w : World) : (Op.equalIn Op.maxDepth 71 (.agg (hdrCs a)) (.agg (hdrCs b))).run Tryz.prog w = .ok (decide (a = b)) w := by
  obtain ⟨d, hd⟩ : ∃ d, Op.maxDepth = d + 2 := ⟨_, rfl⟩
  rw [hd, run_equalIn_struct w _ 71 _ _ (by kernel_rfl) (by kernel_rfl)]
  by_cases h : a = b
  · subst h
    simp [go_sem, Op.eqFields, hdrCs]
  · rw [decide_eq_false h]
    simp [go_sem, Op.eqFields, hdrCs]
    intro g0 g1 g2 g3 g4 g5 g6
    apply h
    cases a
    cases b
    simp only [Hdr.mk.injEq]
    exact ⟨g0, g1, g2, g3, g4, g5, g6⟩
theorem run_neqHd (x y : Operand) (a b : Hdr) (w : World) : (cmpS .neq 71 x y (.agg (hdrCs a)) (.agg (hdrCs b))).run Tryz.prog w = .ok (.bool (!decide (a = b))) w := by
  simp [cmpS, guardHd, binOp, Op.equal, equalHd]

attribute [local go_sem] ext_const Ext.cell Ext.frozen Ext.rng Ext.whole
attribute [local go_sem ↓] exec_ldHd exec_stHd exec_ldFile exec_stFile exec_neqHd
attribute [local go_sem] run_ldHd run_stHd run_ldFile run_stFile run_neqHd fileCs_size fileCs_ones fileCs_all whole_alloc_lt whole_alloc_at whole_drew setRow_alloc_at setRow_alloc_lt rng_alloc_lt rng_alloc_at rng_drew rng_drewN rng_setRow_other whole_setRow_other rng_setCell_other whole_setCell_other

set_option maxRecDepth 100000 in
set_option maxHeartbeats 4000000 in
theorem fileBytes_calls (w : World) (Y S LB : Nat) (A : Nat → Prop) (ps : List KV) (full : Bool) (seq : Int) (hY : SysAt w Y S LB) (hS : StoreAt w S A ps full) (hps : PsOk ps) (hpl : ps.length ≤ 4000000) (hs : U32 seq) :
    Calls Tryz.prog 102 #[.pointer (some ⟨Y, 0, none⟩), .int .u32 seq] w fun e w' => OwnX w w' 5 1 byteCs e (fbR ps seq) := by
  obtain ⟨R, hR⟩ : ∃ R, R = fbR ps seq := ⟨_, rfl⟩
  rw [← hR]
  have HR := hide hR
  have HFL := hide (file_calls w Y S LB A ps full seq hY hS hps hpl hs)
  clear hR hY hS
  have hov : ∀ x, ones (hdrCs x) 7 = true := fun _ => rfl
  cases hf : fileR ps seq with
  | error c =>
    have HE : Hid (R = .error c) := HR.out.trans (by simp [fbR, hf])
    go_enter Tryz.func102, Tryz.ntmps102
    go_wp2_with (go_at_call 154; refine HFL.out.mono ?_; rintro e w1 hp; rw [hf] at hp; obtain ⟨rfl, hb1⟩ := hp)
    go_ret2
    have := hb1.size
    exact ownx_err HE ((hb1.alloc (by omega) _).alloc (by simp; omega) _)
  | ok p =>
    obtain ⟨h, cs⟩ := p
    obtain ⟨hok, -, hck, hcl⟩ := fileR_ok hps hpl hs hf
    have HOK := hide hok
    have HCK := hide hck
    have HE : Hid (open Classical in R = if ¬ FileOk h.kind h.seq h.issued h.base cs then .error 28 else if hdrOf h.kind h.seq h.issued h.base cs = h then .ok (fileText h.kind h.seq h.issued h.base cs) else .error 28) := HR.out.trans (by unfold fbR; rw [hf])
    clear hok hck HR
    go_enter Tryz.func102, Tryz.ntmps102
    go_upto_region 4 with (go_at_call 154; refine HFL.out.mono ?_; rintro e w1 hp; rw [hf] at hp; obtain ⟨a, cap, rfl, hca, hb1⟩ := hp; simp only)
    have hz1 := hb1.size
    obtain ⟨n, hn⟩ : ∃ n, n = cs.length := ⟨_, rfl⟩
    have HN := hide hn
    have hb2 : Below w.heap.size w ((w1.alloc (.cells (fileCs h.kind h.seq h.issued h.base a cs.length cap) 59)).alloc (.cells (hdrCs h) 71)) := (hb1.alloc hz1 _).alloc (by simp; omega) _
    have hbx : Below w1.heap.size w1 ((w1.alloc (.cells (fileCs h.kind h.seq h.issued h.base a cs.length cap) 59)).alloc (.cells (hdrCs h) 71)) := ((Below.refl _ _).alloc (Nat.le_refl _) _).alloc (by simp) _
    have hx0 : ((w1.alloc (.cells (fileCs h.kind h.seq h.issued h.base a cs.length cap) 59)).alloc (.cells (hdrCs h) 71)).heap[w1.heap.size]? = some (.cells (fileCs h.kind h.seq h.issued h.base a cs.length cap) 59 (0, 0)) := (Below.heap_alloc _ _ _ (by simp)).trans (heap_alloc_at _ _)
    have hx1 : ((w1.alloc (.cells (fileCs h.kind h.seq h.issued h.base a cs.length cap) 59)).alloc (.cells (hdrCs h) 71)).heap[w1.heap.size + 1]? = some (.cells (hdrCs h) 71 (0, 0)) := box2 w1 _ _ _ _
    have HCA : Hid (ChangesAt ((w1.alloc (.cells (fileCs h.kind h.seq h.issued h.base a cs.length cap) 59)).alloc (.cells (hdrCs h) 71)) (w.heap.size ≤ ·) (.slice a cs.length cap) cs) := RArr.below hca hbx
    clear hca hbx
    generalize (World.alloc (World.alloc w1 _) _) = V at *
    have HB2 := hide hb2
    have HX0 := hide hx0
    have HX1 := hide hx1
    have r0 : rng V w1.heap.size 0 5 = some (fileCs h.kind h.seq h.issued h.base a cs.length cap) := rng_whole hx0
    have l0 := blk_lt hx0
    clear hb1 hb2 hx0 hx1 hn HFL
    by_cases hfo : FileOk h.kind h.seq h.issued h.base cs
    · have HE2 : Hid (R = if hdrOf h.kind h.seq h.issued h.base cs = h then .ok (fileText h.kind h.seq h.issued h.base cs) else .error 28) := HE.out.trans (by simp only [hfo, not_true_eq_false, if_false])
      have HCF := hide (checkFile_calls V _ h.kind h.seq h.issued h.base a cap cs HCA.out .nilIface (fun _ => rfl) (fun g => absurd hfo g))
      have HRN := hide (fun W (hb : Below V.heap.size V W) => render_exact W _ h.kind h.seq h.issued h.base a cap cs (RArr.below HCA.out hb) (by omega) HOK.out.seq HOK.out.issued HOK.out.base HCK.out)
      obtain ⟨H, hH⟩ : ∃ H, H = hdrOf h.kind h.seq h.issued h.base cs := ⟨_, rfl⟩
      have HFIN : Hid (∀ c l, c = crc (bodyText h.kind h.seq h.issued h.base cs) → l = ((fileText h.kind h.seq h.issued h.base cs).length : Int) % 4294967296 → hdCs h.kind h.seq h.issued h.base cs.length c l = hdrCs H) := fun c l h1 h2 => by rw [hH, h1, h2]; rfl
      rw [← hH] at HE2
      clear HE hH
      go_upto_region 6 with (go_at_call 114; refine HCF.out.mono ?_; rintro e w2 ⟨rfl, hb2⟩)
      have r2 : rng w2 w1.heap.size 0 5 = some (fileCs h.kind h.seq h.issued h.base a cs.length cap) := (rng_of_block (hb2.block _ l0) _ _).trans r0
      have l2 : w1.heap.size < w2.heap.size := Nat.lt_of_lt_of_le l0 hb2.size
      have HB3 := hide hb2
      clear r0 l0 hb2 HCF
      go_upto_region 7 with (go_at_call 123; refine (HRN.out _ HB3.out).mono ?_; rintro e w3 ⟨v, c, l, rfl, hown, hb3, HCL⟩; rw [HFIN.out c l HCL.out.1 HCL.out.2])
      have hz2 := HB2.out.size
      have hz3 := HB3.out.size
      have hz4 := hb3.size
      have HB4 : Hid (Below V.heap.size V w3) := HB3.out.trans (hb3.mono hz3)
      have q1 : rng (w3.alloc (.cells (hdrCs H) 71)) (w1.heap.size + 1) 0 7 = some (hdrCs h) := (rng_of_block ((Below.heap_alloc _ _ _ (by have := blk_lt HX1.out; omega)).trans (HB4.out.block _ (blk_lt HX1.out))) _ _).trans (rng_whole HX1.out)
      have q2 : rng (w3.alloc (.cells (hdrCs H) 71)) w3.heap.size 0 7 = some (hdrCs H) := rng_whole (heap_alloc_at _ _)
      have ql1 : w1.heap.size + 1 < (w3.alloc (.cells (hdrCs H) 71)).heap.size := by have := blk_lt HX1.out; simp; omega
      have ql2 : w3.heap.size < (w3.alloc (.cells (hdrCs H) 71)).heap.size := by simp
      have HO : Hid (OwnR (w3.alloc (.cells (hdrCs H) 71)) w.heap.size 5 1 byteCs v (fileText h.kind h.seq h.issued h.base cs)) := (hown.lower (by omega)).below ((Below.refl _ _).alloc (Nat.le_refl _) _) (Nat.le_refl _)
      have HB5 : Hid (Below w.heap.size w (w3.alloc (.cells (hdrCs H) 71))) := (HB2.out.trans (HB4.out.mono hz2)).alloc (by omega) _
      clear hown hb3 r2 l2 HRN HFIN HCL
      generalize (World.alloc w3 _) = V5 at *
      cases t0 : decide (H = h) with
      | true =>
        have t1 : H = h := of_decide_eq_true t0
        have HF : Hid (R = .ok (fileText h.kind h.seq h.issued h.base cs)) := HE2.out.trans (by simp only [t1, if_true])
        go_wp2
        go_ret2
        rw [HF.out]
        exact ⟨_, rfl, HO.out, HB5.out⟩
      | false =>
        have t1 : ¬ H = h := of_decide_eq_false t0
        have HF : Hid (R = .error 28) := HE2.out.trans (by simp only [t1, if_false])
        go_wp2
        go_ret2
        exact ownx_err HF HB5.out
    · have HF : Hid (R = .error 28) := HE.out.trans (by simp only [hfo, not_false_eq_true, if_true])
      have HCF := hide (checkFile_calls V _ h.kind h.seq h.issued h.base a cap cs HCA.out (.iface 63 (.int .u8 29)) (fun g => absurd g hfo) (fun _ => rfl))
      go_wp2_with (go_at_call 114; refine HCF.out.mono ?_; rintro e w2 ⟨rfl, hb2⟩)
      go_ret2
      exact ownx_err HF (HB2.out.trans (hb2.mono HB2.out.size))

end Go.Proofs.Qxb6500666aGreatDoor
