/- The model's ParseTrail, walked. (Made by tools/mk_mptr.py.) -/
import Derived.Test.Qxb6500666aGreatDoorMRtr
import Derived.Test.Qxb6500666aGreatDoorMPar
namespace Go.Proofs.Qxb6500666aGreatDoor
open Go.RowKit
/-- What the model's ParseTrail answers. -/
inductive MTr (w w' : World) (rn kn : Nat → ByteArray) (bs : List Int) (e : Ending) : Prop
  | bad (he : e = .returned (.tuple #[.slice none 0 0, .int .u8 29])) (hno : (∀ xs, ¬ Tv rn kn bs xs)) (hb : Below w.heap.size w w') : MTr w w' rn kn bs e
  | good (a : Option Addr) (cap : Nat) (zs : List ZE) (he : e = .returned (.tuple #[.slice a zs.length cap, .int .u8 0])) (hr : RArr w' (w.heap.size ≤ ·) 20 zeCs (.slice a zs.length cap) zs) (hz : ZipE w' (w.heap.size ≤ ·) zs) (ht : Tv rn kn bs (zs.map (·.1))) (hb : Below w.heap.size w w') : MTr w w' rn kn bs e
/-- Behind q guessed lines. -/
structure MTl (rn kn : Nat → ByteArray) (W2 W : World) (lines : List (List Int)) (zs : List ZE) (q : Nat) (a : Option Addr) (capq : Nat) : Prop where
  own : OwnR W W2.heap.size 67 20 zeCs (.slice a q capq) zs
  zip : ZipE W (fun k => W2.heap.size ≤ k ∧ (Value.slice a q capq).ownBlock ≠ some k) zs
  len : zs.length = q
  lin : ∀ j (h : j < zs.length), ∃ l, lines[j + 1]? = some l ∧ EntG rn kn (splitB 124 l) zs[j].1
  bel : Below W2.heap.size W2 W
theorem MTl.below {rn kn : Nat → ByteArray} {W2 W W' : World} {lines : List (List Int)} {zs : List ZE} {q : Nat} {a : Option Addr} {capq : Nat} (h : MTl rn kn W2 W lines zs q a capq) (hb : Below W.heap.size W W') : MTl rn kn W2 W' lines zs q a capq :=
  ⟨h.own.below hb (Nat.le_refl _), fun z hz => RArr.mono (RArr.lt (h.zip z hz)) (fun k hk => hb.block k hk.2) (fun _ hk => hk.1), h.len, h.lin, h.bel.trans (hb.mono h.bel.size)⟩
/-- The request's variable, laid anew. -/
structure FQ (H : Nat) (X W : World) (F : Nat) : Prop where
  bel : Below H X W
  fl : W.heap[F]? = some (.cells #[.int .u8 0, .int .u32 0, .int .i64 0, .int .u32 0, .int .u32 0, .int .u32 0, .int .u32 0, .int .u32 0, .int .u8 0, .int .u8 0, .int .i64 0, .int .i64 0, .int .i64 0, .int .i64 0, .int .i64 0, .int .i64 0, .slice none 0 0] 53 (0, 0))
  ge : H ≤ F
/-- What the request's numbers are guessed to be. -/
def RqG (p5 p6 p7 p8 p9 p10 p11 p12 p13 p14 p15 p16 p17 p18 p19 : List Int) (rq : Req) : Prop := ∃ x5 x6 x7 x8 x9 x10 x11 x12 x13 x14 x15 x16 x17 x18 x19, rq = ⟨0, x5 % 4294967296, x6, x7 % 4294967296, x8 % 4294967296, x9 % 4294967296, x10 % 4294967296, x11 % 4294967296, x12 % 256, x13 % 256, x14, x15, x16, x17, x18, x19, []⟩ ∧ GNum p5 x5 ∧ GNum p6 x6 ∧ GNum p7 x7 ∧ GNum p8 x8 ∧ GNum p9 x9 ∧ GNum p10 x10 ∧ GNum p11 x11 ∧ GNum p12 x12 ∧ GNum p13 x13 ∧ GNum p14 x14 ∧ GNum p15 x15 ∧ GNum p16 x16 ∧ GNum p17 x17 ∧ GNum p18 x18 ∧ GNum p19 x19
theorem flk0 {G C : World → Nat → Prop} {T : Prop} (h : Hid (∀ (W : World) (F : Nat), C W F  → G W F ) → T) (k : ∀ (W : World) (F : Nat), C W F  → G W F ) : T := h k
theorem flk1 {G C : World → Nat → Int → Prop} {T : Prop} (h : Hid (∀ (W : World) (F : Nat) (x5 : Int), C W F x5 → G W F x5) → T) (k : ∀ (W : World) (F : Nat) (x5 : Int), C W F x5 → G W F x5) : T := h k
theorem flk2 {G C : World → Nat → Int → Int → Prop} {T : Prop} (h : Hid (∀ (W : World) (F : Nat) (x5 x6 : Int), C W F x5 x6 → G W F x5 x6) → T) (k : ∀ (W : World) (F : Nat) (x5 x6 : Int), C W F x5 x6 → G W F x5 x6) : T := h k
theorem flk3 {G C : World → Nat → Int → Int → Int → Prop} {T : Prop} (h : Hid (∀ (W : World) (F : Nat) (x5 x6 x7 : Int), C W F x5 x6 x7 → G W F x5 x6 x7) → T) (k : ∀ (W : World) (F : Nat) (x5 x6 x7 : Int), C W F x5 x6 x7 → G W F x5 x6 x7) : T := h k
theorem flk4 {G C : World → Nat → Int → Int → Int → Int → Prop} {T : Prop} (h : Hid (∀ (W : World) (F : Nat) (x5 x6 x7 x8 : Int), C W F x5 x6 x7 x8 → G W F x5 x6 x7 x8) → T) (k : ∀ (W : World) (F : Nat) (x5 x6 x7 x8 : Int), C W F x5 x6 x7 x8 → G W F x5 x6 x7 x8) : T := h k
theorem flk5 {G C : World → Nat → Int → Int → Int → Int → Int → Prop} {T : Prop} (h : Hid (∀ (W : World) (F : Nat) (x5 x6 x7 x8 x9 : Int), C W F x5 x6 x7 x8 x9 → G W F x5 x6 x7 x8 x9) → T) (k : ∀ (W : World) (F : Nat) (x5 x6 x7 x8 x9 : Int), C W F x5 x6 x7 x8 x9 → G W F x5 x6 x7 x8 x9) : T := h k
theorem flk6 {G C : World → Nat → Int → Int → Int → Int → Int → Int → Prop} {T : Prop} (h : Hid (∀ (W : World) (F : Nat) (x5 x6 x7 x8 x9 x10 : Int), C W F x5 x6 x7 x8 x9 x10 → G W F x5 x6 x7 x8 x9 x10) → T) (k : ∀ (W : World) (F : Nat) (x5 x6 x7 x8 x9 x10 : Int), C W F x5 x6 x7 x8 x9 x10 → G W F x5 x6 x7 x8 x9 x10) : T := h k
theorem flk7 {G C : World → Nat → Int → Int → Int → Int → Int → Int → Int → Prop} {T : Prop} (h : Hid (∀ (W : World) (F : Nat) (x5 x6 x7 x8 x9 x10 x11 : Int), C W F x5 x6 x7 x8 x9 x10 x11 → G W F x5 x6 x7 x8 x9 x10 x11) → T) (k : ∀ (W : World) (F : Nat) (x5 x6 x7 x8 x9 x10 x11 : Int), C W F x5 x6 x7 x8 x9 x10 x11 → G W F x5 x6 x7 x8 x9 x10 x11) : T := h k
theorem flk8 {G C : World → Nat → Int → Int → Int → Int → Int → Int → Int → Int → Prop} {T : Prop} (h : Hid (∀ (W : World) (F : Nat) (x5 x6 x7 x8 x9 x10 x11 x12 : Int), C W F x5 x6 x7 x8 x9 x10 x11 x12 → G W F x5 x6 x7 x8 x9 x10 x11 x12) → T) (k : ∀ (W : World) (F : Nat) (x5 x6 x7 x8 x9 x10 x11 x12 : Int), C W F x5 x6 x7 x8 x9 x10 x11 x12 → G W F x5 x6 x7 x8 x9 x10 x11 x12) : T := h k
theorem flk9 {G C : World → Nat → Int → Int → Int → Int → Int → Int → Int → Int → Int → Prop} {T : Prop} (h : Hid (∀ (W : World) (F : Nat) (x5 x6 x7 x8 x9 x10 x11 x12 x13 : Int), C W F x5 x6 x7 x8 x9 x10 x11 x12 x13 → G W F x5 x6 x7 x8 x9 x10 x11 x12 x13) → T) (k : ∀ (W : World) (F : Nat) (x5 x6 x7 x8 x9 x10 x11 x12 x13 : Int), C W F x5 x6 x7 x8 x9 x10 x11 x12 x13 → G W F x5 x6 x7 x8 x9 x10 x11 x12 x13) : T := h k
theorem flk10 {G C : World → Nat → Int → Int → Int → Int → Int → Int → Int → Int → Int → Int → Prop} {T : Prop} (h : Hid (∀ (W : World) (F : Nat) (x5 x6 x7 x8 x9 x10 x11 x12 x13 x14 : Int), C W F x5 x6 x7 x8 x9 x10 x11 x12 x13 x14 → G W F x5 x6 x7 x8 x9 x10 x11 x12 x13 x14) → T) (k : ∀ (W : World) (F : Nat) (x5 x6 x7 x8 x9 x10 x11 x12 x13 x14 : Int), C W F x5 x6 x7 x8 x9 x10 x11 x12 x13 x14 → G W F x5 x6 x7 x8 x9 x10 x11 x12 x13 x14) : T := h k
theorem flk11 {G C : World → Nat → Int → Int → Int → Int → Int → Int → Int → Int → Int → Int → Int → Prop} {T : Prop} (h : Hid (∀ (W : World) (F : Nat) (x5 x6 x7 x8 x9 x10 x11 x12 x13 x14 x15 : Int), C W F x5 x6 x7 x8 x9 x10 x11 x12 x13 x14 x15 → G W F x5 x6 x7 x8 x9 x10 x11 x12 x13 x14 x15) → T) (k : ∀ (W : World) (F : Nat) (x5 x6 x7 x8 x9 x10 x11 x12 x13 x14 x15 : Int), C W F x5 x6 x7 x8 x9 x10 x11 x12 x13 x14 x15 → G W F x5 x6 x7 x8 x9 x10 x11 x12 x13 x14 x15) : T := h k
theorem flk12 {G C : World → Nat → Int → Int → Int → Int → Int → Int → Int → Int → Int → Int → Int → Int → Prop} {T : Prop} (h : Hid (∀ (W : World) (F : Nat) (x5 x6 x7 x8 x9 x10 x11 x12 x13 x14 x15 x16 : Int), C W F x5 x6 x7 x8 x9 x10 x11 x12 x13 x14 x15 x16 → G W F x5 x6 x7 x8 x9 x10 x11 x12 x13 x14 x15 x16) → T) (k : ∀ (W : World) (F : Nat) (x5 x6 x7 x8 x9 x10 x11 x12 x13 x14 x15 x16 : Int), C W F x5 x6 x7 x8 x9 x10 x11 x12 x13 x14 x15 x16 → G W F x5 x6 x7 x8 x9 x10 x11 x12 x13 x14 x15 x16) : T := h k
theorem flk13 {G C : World → Nat → Int → Int → Int → Int → Int → Int → Int → Int → Int → Int → Int → Int → Int → Prop} {T : Prop} (h : Hid (∀ (W : World) (F : Nat) (x5 x6 x7 x8 x9 x10 x11 x12 x13 x14 x15 x16 x17 : Int), C W F x5 x6 x7 x8 x9 x10 x11 x12 x13 x14 x15 x16 x17 → G W F x5 x6 x7 x8 x9 x10 x11 x12 x13 x14 x15 x16 x17) → T) (k : ∀ (W : World) (F : Nat) (x5 x6 x7 x8 x9 x10 x11 x12 x13 x14 x15 x16 x17 : Int), C W F x5 x6 x7 x8 x9 x10 x11 x12 x13 x14 x15 x16 x17 → G W F x5 x6 x7 x8 x9 x10 x11 x12 x13 x14 x15 x16 x17) : T := h k
theorem flk14 {G C : World → Nat → Int → Int → Int → Int → Int → Int → Int → Int → Int → Int → Int → Int → Int → Int → Prop} {T : Prop} (h : Hid (∀ (W : World) (F : Nat) (x5 x6 x7 x8 x9 x10 x11 x12 x13 x14 x15 x16 x17 x18 : Int), C W F x5 x6 x7 x8 x9 x10 x11 x12 x13 x14 x15 x16 x17 x18 → G W F x5 x6 x7 x8 x9 x10 x11 x12 x13 x14 x15 x16 x17 x18) → T) (k : ∀ (W : World) (F : Nat) (x5 x6 x7 x8 x9 x10 x11 x12 x13 x14 x15 x16 x17 x18 : Int), C W F x5 x6 x7 x8 x9 x10 x11 x12 x13 x14 x15 x16 x17 x18 → G W F x5 x6 x7 x8 x9 x10 x11 x12 x13 x14 x15 x16 x17 x18) : T := h k
theorem flk15 {G C : World → Nat → Int → Int → Int → Int → Int → Int → Int → Int → Int → Int → Int → Int → Int → Int → Int → Prop} {T : Prop} (h : Hid (∀ (W : World) (F : Nat) (x5 x6 x7 x8 x9 x10 x11 x12 x13 x14 x15 x16 x17 x18 x19 : Int), C W F x5 x6 x7 x8 x9 x10 x11 x12 x13 x14 x15 x16 x17 x18 x19 → G W F x5 x6 x7 x8 x9 x10 x11 x12 x13 x14 x15 x16 x17 x18 x19) → T) (k : ∀ (W : World) (F : Nat) (x5 x6 x7 x8 x9 x10 x11 x12 x13 x14 x15 x16 x17 x18 x19 : Int), C W F x5 x6 x7 x8 x9 x10 x11 x12 x13 x14 x15 x16 x17 x18 x19 → G W F x5 x6 x7 x8 x9 x10 x11 x12 x13 x14 x15 x16 x17 x18 x19) : T := h k
section
variable (ρ : Operand → Value) (dst : Option Tmp) (a1 a2 a3 a4 a5 a6 a7 a8 a9 a10 a11 a12 a13 : Operand) (ty : TypeId) (pos : String) (after : Array Edge) (guard : Option (Nat × Bool))
def bdEnt2S (a b : Value) : Sem Value := Instr.build 67 #[(0, a), (2, b)]
theorem exec_bdEnt2 : execOp ρ { dst, op := .build 67 #[(0, a1), (2, a2)], type := ty, pos, after, guard } = (do pure (.value (← bdEnt2S (ρ a1) (ρ a2)))) := by simp [execOp, bdEnt2S]
def bdLimS (a b c : Value) : Sem Value := Instr.build 51 #[(0, a), (1, b), (2, c)]
theorem exec_bdLim : execOp ρ { dst, op := .build 51 #[(0, a1), (1, a2), (2, a3)], type := ty, pos, after, guard } = (do pure (.value (← bdLimS (ρ a1) (ρ a2) (ρ a3)))) := by simp [execOp, bdLimS]
def bdReqMS (a1 a2 a3 a4 a5 a6 a7 a8 a9 a10 a11 a12 a13 : Value) : Sem Value := Instr.build 53 #[(1, a1), (2, a2), (3, a3), (4, a4), (5, a5), (6, a6), (7, a7), (8, a8), (9, a9), (10, a10), (11, a11), (12, a12), (13, a13)]
theorem exec_bdReqM : execOp ρ { dst, op := .build 53 #[(1, a1), (2, a2), (3, a3), (4, a4), (5, a5), (6, a6), (7, a7), (8, a8), (9, a9), (10, a10), (11, a11), (12, a12), (13, a13)], type := ty, pos, after, guard } = (do pure (.value (← bdReqMS (ρ a1) (ρ a2) (ρ a3) (ρ a4) (ρ a5) (ρ a6) (ρ a7) (ρ a8) (ρ a9) (ρ a10) (ρ a11) (ρ a12) (ρ a13)))) := by simp [execOp, bdReqMS]
end
theorem run_bdEnt2 (w : World) (a b : Int) : (bdEnt2S (.int .u32 a) (.int .u32 b)).run Tryz.prog w = .ok (.agg (entA ⟨a, 0, b, zeroReq⟩ (.slice none 0 0))) w := by kernel_rfl
theorem run_bdLim (w : World) (a b c : Int) : (bdLimS (.int .i64 a) (.int .i64 b) (.int .i64 c)).run Tryz.prog w = .ok (.agg #[.int .i64 a, .int .i64 b, .int .i64 c]) w := by kernel_rfl
theorem run_bdReqM (w : World) (a1 a2 a3 a4 a5 a6 a7 a8 a9 a10 a11 a12 l0 l1 l2 : Int) : (bdReqMS (.int .u32 a1) (.int .i64 a2) (.int .u32 a3) (.int .u32 a4) (.int .u32 a5) (.int .u32 a6) (.int .u32 a7) (.int .u8 a8) (.int .u8 a9) (.int .i64 a10) (.int .i64 a11) (.int .i64 a12) (.agg #[.int .i64 l0, .int .i64 l1, .int .i64 l2])).run Tryz.prog w = .ok (.agg (reqA ⟨0, a1, a2, a3, a4, a5, a6, a7, a8, a9, a10, a11, a12, l0, l1, l2, []⟩ (.slice none 0 0))) w := by kernel_rfl
theorem reqA_ones (x : Req) (a : Option Addr) (n c : Nat) : ones (reqA x (.slice a n c)) 17 = true := rfl
theorem reqA_sz (x : Req) (lv : Value) : (reqA x lv).size = 17 := rfl
attribute [local go_sem] ext_const Ext.cell Ext.frozen Ext.rng Ext.whole exS_const ExS.cell ExS.rng
attribute [local go_sem ↓] exec_ldEnt exec_stEnt exec_bsEnt exec_ldReq exec_stReq exec_bdEnt2 exec_bdLim exec_bdReqM
attribute [local go_sem] run_ldEnt run_stEnt run_bsEnt run_ldReq run_stReq run_bdEnt2 run_bdLim run_bdReqM entA_size entA_ones reqA_ones reqA_sz whole_alloc_lt whole_alloc_at whole_drew setRow_alloc_at setRow_alloc_lt setRow_drew rng_alloc_lt rng_alloc_at rng_drew rng_drewN

set_option maxRecDepth 100000 in
set_option maxHeartbeats 16000000 in
theorem mparseTrail_calls (w : World) (ok : Nat → Prop) (rn kn ft : Nat → ByteArray) (v : Value) (bs : List Int) (h : BytesAt w ok v bs) (hB : ByteL bs) (hl : bs.length ≤ 900000000) (hnm : NmAt w rn kn ft) (hg : NmG rn kn) :
    Calls Tryz.prog 87 #[v] w fun e w' => MTr w w' rn kn bs e := by
  have HBT := hide (fun W (hb : Below w.heap.size w W) => RArr.mono h.lt (fun b q => hb.block b q.2) (fun b q => q.1))
  have HBY := hide hB
  have HLN := hide hl
  have HNG := hide hg
  have HNM0 : Hid (∀ W, Below w.heap.size w W → NmAt W rn kn ft) := fun W hW => hnm.below hW
  clear h hB hl hnm hg
  go_enter Tryz.func87, Tryz.ntmps87
  go_upto_region 1 with fail
  have hcv := conv_str (HBT.out w (Below.refl _ _))
  have HSP := hide (msplit_calls w bs 10 HBY.out (by have := HLN.out; omega))
  go_upto_region 2 with (go_at_call 147; refine HSP.out.mono ?_; rintro e W2 ⟨lv, rfl, hown2, hb2⟩; have HO2 := hide hown2; have HB2 := hide hb2; clear hown2 hb2)
  clear hcv HSP
  obtain ⟨lines, hlines⟩ : ∃ lines, lines = splitB 10 bs := ⟨_, rfl⟩
  have hl0 : 0 < lines.length := by rw [hlines]; exact List.length_pos_iff.2 (splitB_ne _ _)
  have hlL : lines.length ≤ 900000001 := by have h1 := splitB_len 10 bs; rw [hlines]; have := HLN.out; omega
  rw [← hlines] at HO2
  have HLB : Hid (∀ p ∈ lines, ByteL p ∧ p.length ≤ 900000000) := fun p hp => by
    rw [hlines] at hp
    exact ⟨fun d hd => HBY.out d (splitB_mem hp d hd), Nat.le_trans (splitB_plen hp) HLN.out⟩
  have HLS := hide hlines
  obtain ⟨lg, lc, hlv, hlg1, hlg2, hlcap, hlcell⟩ := str_cells HO2.out hl0 (by omega)
  subst hlv
  obtain ⟨N, hN⟩ : ∃ N, N = lines.length := ⟨_, rfl⟩
  have HN := hide hN
  rw [← hN] at hl0 hlL hlcap ⊢
  have HLC := hide hlcell
  clear hlines hN hlcell
  have HBAD : Hid (∀ W : World, Below w.heap.size w W → (∀ xs, ¬ Tv rn kn bs xs) → MTr w W rn kn bs (.returned (.tuple #[.slice none 0 0, .int .u8 29]))) := fun W h2 h3 => .bad rfl h3 h2
  by_cases hN3 : N < 3
  · have HNO : Hid (∀ xs, ¬ Tv rn kn bs xs) := fun xs ht => by
      have := (tv_shape HNG.out ht).1
      rw [← HLS.out, ← HN.out] at this
      omega
    go_wp2
    refine bodyPost_ret (v := .tuple #[.slice none 0 0, .int .u8 29]) (by simp [results, Tryz.results87]) rfl ?_
    exact HBAD.out W2 HB2.out HNO.out
  have hsl : ∀ W, (Instr.sliceAt 98 (.slice (some ⟨lg, 0, none⟩) N lc) (some (.int .i64 1)) (some (.int .i64 ((N : Int) - 2))) none).run Tryz.prog W = .ok (.slice (some ⟨lg, 1, none⟩) (N - 3) (lc - 1)) W := fun W => by
    obtain ⟨N', rfl⟩ : ∃ N', N = N' + 3 := ⟨N - 3, by omega⟩
    obtain ⟨lc', rfl⟩ : ∃ lc', lc = lc' + 3 := ⟨lc - 3, by omega⟩
    have e1 : (((N' + 3 : Nat) : Int) - 2) = ((N' + 1 : Nat) : Int) := by omega
    rw [e1]
    have h2 : N' + 1 ≤ lc' + 3 := by omega
    simp [Instr.sliceAt, Instr.slice, run_underlying Tryz.underlying98, Instr.sliceBounds, Instr.sliceBound, asIntOf, Addr.add_lit]
    rw [if_pos ⟨by omega, by omega⟩, if_pos (by omega)]
  obtain ⟨K0, hK0⟩ : ∃ K0, K0 = N - 3 := ⟨_, rfl⟩
  have HK0 := hide hK0
  rw [← hK0] at hsl
  have hK3 : K0 ≤ 900000001 := by omega
  clear hK0
  have hiS := run_indexAt_arr (P := Tryz.prog) (n := K0) (cap := lc - 1) (a := some ⟨lg, 1, none⟩) (b := lg) (off := 1) Tryz.underlying98 Tryz.size9_s (fun _ => rfl)
  have HI0 : Hid (MTl rn kn W2 W2 lines [] 0 none 0) := ⟨OwnR.nil _ _ _ _ _, fun z hz => (by cases hz), rfl, fun j h => (by simp at h), Below.refl _ _⟩
  go_upto_region 6 with fail
  clear hsl
  go_loopg [5, 29] K0 (fun gk dv j W => ∃ (q : Nat) (zs : List ZE) (a : Option Addr) (capq : Nat), q ≤ K0 ∧ gk = K0 - q ∧ dv = .slice a q capq ∧ j = .int .i64 q ∧ Hid (MTl rn kn W2 W lines zs q a capq))
  case atStart => exact ⟨0, [], none, 0, by omega, by omega, rfl, rfl, HI0⟩
  clear HI0
  case round =>
    obtain ⟨q, zs, a, capq, hq, rfl, rfl, rfl, HI⟩ := hrel
    by_cases hlt : q < K0
    · have hq1 : q + 1 < lines.length := by have h1 := HN.out; have h2 := HK0.out; omega
      have hcq : wr.cell? ⟨lg, 1 + q, none⟩ = some (.string (strOfNums lines[q + 1])) := by
        have h1 := HLC.out (q + 1) hq1
        rw [Nat.add_comm 1 q, (HI.out.bel.cell (p := ⟨lg, q + 1, none⟩) hlg2)]
        exact h1
      have hlgr : lg < wr.heap.size := by have := HI.out.bel.size; omega
      have HLQ : Hid (lines[q + 1]? = some lines[q + 1]) := List.getElem?_eq_getElem hq1
      have HLQB := hide (HLB.out _ (List.getElem_mem hq1))
      generalize lines[q + 1] = l at *
      have HSP := hide (msplit_calls wr l 124 HLQB.out.1 (by have := HLQB.out.2; omega))
      go_upto_region 9 with (go_at_call 147; refine HSP.out.mono ?_; rintro e X ⟨pv, rfl, hownp, hbp⟩; have HOP := hide hownp; have HBP := hide hbp; clear hownp hbp)
      clear HSP hcq
      obtain ⟨ps, hps⟩ : ∃ ps, ps = splitB 124 l := ⟨_, rfl⟩
      rw [← hps] at HOP
      have hp0 : 0 < ps.length := by rw [hps]; exact List.length_pos_iff.2 (splitB_ne _ _)
      have hpL : ps.length ≤ 900000001 := by have h1 := splitB_len 124 l; rw [hps]; have := HLQB.out.2; omega
      obtain ⟨pg, pc, hpv, hpg1, hpg2, hpcap, hpcell⟩ := str_cells HOP.out hp0 (by omega)
      subst hpv
      have HPS := hide hps
      obtain ⟨P, hP⟩ : ∃ P, P = ps.length := ⟨_, rfl⟩
      have HP := hide hP
      rw [← hP] at hp0 hpL hpcap ⊢
      have HPC := hide hpcell
      have HIX := hide (HI.out.below HBP.out)
      have HWX : Hid (Below w.heap.size w X) := HB2.out.trans (HIX.out.bel.mono HB2.out.size)
      clear hps hP hpcell HI
      by_cases h14 : P = 21
      case neg =>
        have t14 : ((P : Int) != 21) = true := by simp; omega
        have HNO : Hid (∀ xs, ¬ Tv rn kn bs xs) := fun xs ht => by
          have := (tv_shape HNG.out ht).2 q l (by rw [← HLS.out, ← HN.out]; have := HK0.out; omega) (by rw [← HLS.out]; exact HLQ.out)
          rw [← HPS.out, ← HP.out] at this
          exact h14 this
        go_wp2
        refine bodyPost_ret (v := .tuple #[.slice none 0 0, .int .u8 29]) (by simp [results, Tryz.results87]) rfl ?_
        exact HBAD.out X HWX.out HNO.out
      case pos =>
      subst h14
      obtain ⟨p0, p1, p2, p3, p4, p5, p6, p7, p8, p9, p10, p11, p12, p13, p14, p15, p16, p17, p18, p19, p20, hpe⟩ : ∃ p0 p1 p2 p3 p4 p5 p6 p7 p8 p9 p10 p11 p12 p13 p14 p15 p16 p17 p18 p19 p20, ps = [p0, p1, p2, p3, p4, p5, p6, p7, p8, p9, p10, p11, p12, p13, p14, p15, p16, p17, p18, p19, p20] := by
        match ps, HP with
        | [a0, a1, a2, a3, a4, a5, a6, a7, a8, a9, a10, a11, a12, a13, a14, a15, a16, a17, a18, a19, a20], _ => exact ⟨a0, a1, a2, a3, a4, a5, a6, a7, a8, a9, a10, a11, a12, a13, a14, a15, a16, a17, a18, a19, a20, rfl⟩
      subst hpe
      have HPB2 : Hid (∀ p ∈ [p0, p1, p2, p3, p4, p5, p6, p7, p8, p9, p10, p11, p12, p13, p14, p15, p16, p17, p18, p19, p20], ByteL p) := fun p hp d hd => by
        rw [HPS.out] at hp
        exact HLQB.out.1 d (splitB_mem hp d hd)
      have HPL2 : Hid (∀ p ∈ [p0, p1, p2, p3, p4, p5, p6, p7, p8, p9, p10, p11, p12, p13, p14, p15, p16, p17, p18, p19, p20], p.length ≤ 900000000) := fun p hp => by
        rw [HPS.out] at hp
        exact Nat.le_trans (splitB_plen hp) HLQB.out.2
      have d1 : X.cell? ⟨pg, 1, none⟩ = some (.string (strOfNums p1)) := HPC.out 1 (by simp)
      have d2 : X.cell? ⟨pg, 2, none⟩ = some (.string (strOfNums p2)) := HPC.out 2 (by simp)
      have d3 : X.cell? ⟨pg, 3, none⟩ = some (.string (strOfNums p3)) := HPC.out 3 (by simp)
      have d4 : X.cell? ⟨pg, 4, none⟩ = some (.string (strOfNums p4)) := HPC.out 4 (by simp)
      have d5 : X.cell? ⟨pg, 5, none⟩ = some (.string (strOfNums p5)) := HPC.out 5 (by simp)
      have d6 : X.cell? ⟨pg, 6, none⟩ = some (.string (strOfNums p6)) := HPC.out 6 (by simp)
      have d7 : X.cell? ⟨pg, 7, none⟩ = some (.string (strOfNums p7)) := HPC.out 7 (by simp)
      have d8 : X.cell? ⟨pg, 8, none⟩ = some (.string (strOfNums p8)) := HPC.out 8 (by simp)
      have d9 : X.cell? ⟨pg, 9, none⟩ = some (.string (strOfNums p9)) := HPC.out 9 (by simp)
      have d10 : X.cell? ⟨pg, 10, none⟩ = some (.string (strOfNums p10)) := HPC.out 10 (by simp)
      have d11 : X.cell? ⟨pg, 11, none⟩ = some (.string (strOfNums p11)) := HPC.out 11 (by simp)
      have d12 : X.cell? ⟨pg, 12, none⟩ = some (.string (strOfNums p12)) := HPC.out 12 (by simp)
      have d13 : X.cell? ⟨pg, 13, none⟩ = some (.string (strOfNums p13)) := HPC.out 13 (by simp)
      have d14 : X.cell? ⟨pg, 14, none⟩ = some (.string (strOfNums p14)) := HPC.out 14 (by simp)
      have d15 : X.cell? ⟨pg, 15, none⟩ = some (.string (strOfNums p15)) := HPC.out 15 (by simp)
      have d16 : X.cell? ⟨pg, 16, none⟩ = some (.string (strOfNums p16)) := HPC.out 16 (by simp)
      have d17 : X.cell? ⟨pg, 17, none⟩ = some (.string (strOfNums p17)) := HPC.out 17 (by simp)
      have d18 : X.cell? ⟨pg, 18, none⟩ = some (.string (strOfNums p18)) := HPC.out 18 (by simp)
      have d19 : X.cell? ⟨pg, 19, none⟩ = some (.string (strOfNums p19)) := HPC.out 19 (by simp)
      have d20 : X.cell? ⟨pg, 20, none⟩ = some (.string (strOfNums p20)) := HPC.out 20 (by simp)
      have HNM : Hid (∀ W, Below X.heap.size X W → NmAt W rn kn ft) := fun W hW => HNM0.out W (HWX.out.trans (hW.mono HWX.out.size))
      have hiP := run_indexAt_arr (P := Tryz.prog) (n := 21) (cap := pc) (a := some ⟨pg, 0, none⟩) (b := pg) (off := 0) Tryz.underlying98 Tryz.size9_s (fun _ => rfl)
      clear HPC HOP hp0 hpL HO2
      go_upto_region 11 with fail
      go_cut [9] (fun p W => ∃ E x1 x3, p = .pointer (some ⟨E, 0, none⟩) ∧ Hid (X.heap.size ≤ E) ∧ Hid (GNum p1 x1) ∧ Hid (GNum p3 x3) ∧ Hid (W.heap[E]? = some (.cells (entA ⟨x1 % 4294967296, 0, x3 % 4294967296, zeroReq⟩ (.slice none 0 0)) 67 (0, 0))) ∧ Hid (Below X.heap.size X W))
      case first =>
        as_aux_lemma =>
          refine wp_region_mixT (X.heap.size) [2, 7] (by kernel_rfl) ?_
          refine mixT_slots [0, 1, 5, 6] (fuel := 9) rfl (by kernel_rfl) (by kernel_rfl) (fun d _ _ _ _ h => by cases d <;> exact h) ?_
          simp only [opersAt, List.getElem?_toArray, List.getElem?_cons_zero, List.getElem?_cons_succ]
          repeat (go_big_quiet_step (fail))
          refine wpQuiet_nil ?_
          refine mixT_reads [2, 7] (fuel := 7) rfl (by kernel_rfl) (by decide) (by kernel_rfl) (fun d _ _ _ _ h => by cases d <;> exact h) (ext_drew _ _) ?_
          simp only [opersAt, List.getElem?_toArray, List.getElem?_cons_zero, List.getElem?_cons_succ]
          repeat (go_big_quiet_step (fail))
          refine wpQuiet_nil ?_
          refine mixT_two (k := 3) (k' := 11) (by kernel_rfl) rfl rfl ?_ ?_
          ·
            go_wp2_with (go_at_call 149; refine (mguess_calls _ p1 (HPB2.out _ (by simp)) (by have := HPL2.out p1 (by simp); omega)).mono ?_; rintro e V1 ⟨x1, rfl, hx1, hg1, hb1⟩)
            have HCV1 : Hid (Below X.heap.size X V1) := ((Below.refl X.heap.size X).drew).trans (hb1.mono ((Below.refl X.heap.size X).drew).size)
            have HG1 : Hid (GNum p1 x1) := ⟨hx1, hg1⟩
            refine ⟨Or.inr (by intros; exact ⟨⟨_, HCV1.out⟩, rfl⟩), ?_⟩
            clear hb1 hg1 hx1
            refine mixT_slots [4] (fuel := 5) rfl (by kernel_rfl) (by kernel_rfl) (fun d _ _ _ _ h => by cases d <;> exact h) ?_
            simp only [opersAt, List.getElem?_toArray, List.getElem?_cons_zero, List.getElem?_cons_succ]
            repeat (go_big_quiet_step (fail))
            refine wpQuiet_nil ?_
            refine mixT_two (k := 8) (k' := 11) (by kernel_rfl) rfl rfl ?_ ?_
            ·
              go_wp2_with (go_at_call 149; refine (mguess_calls _ p3 (HPB2.out _ (by simp)) (by have := HPL2.out p3 (by simp); omega)).mono ?_; rintro e V2 ⟨x3, rfl, hx3, hg3, hb3⟩)
              have HCV2 : Hid (Below X.heap.size X V2) := (HCV1.out).trans (hb3.mono (HCV1.out).size)
              have HG3 : Hid (GNum p3 x3) := ⟨hx3, hg3⟩
              refine ⟨Or.inr (by intros; exact ⟨⟨_, HCV2.out⟩, rfl⟩), ?_⟩
              clear hb3 hg3 hx3
              refine mixT_slots [9, 10] (fuel := 2) rfl (by kernel_rfl) (by kernel_rfl) (fun d _ _ _ _ h => by cases d <;> exact h) ?_
              simp only [opersAt, List.getElem?_toArray, List.getElem?_cons_zero, List.getElem?_cons_succ]
              repeat (go_big_quiet_step (fail))
              refine wpQuiet_nil ?_
              refine mixT_one (k := 11) (by kernel_rfl) rfl ?_
              go_wp2
              obtain ⟨V3, hV3⟩ : ∃ V3, V3 = (V2.alloc (.cells #[.int .u32 0, .int .u8 0, .int .u32 0, .int .u8 0, .int .u32 0, .int .i64 0, .int .u32 0, .int .u32 0, .int .u32 0, .int .u32 0, .int .u32 0, .int .u8 0, .int .u8 0, .int .i64 0, .int .i64 0, .int .i64 0, .int .i64 0, .int .i64 0, .int .i64 0, .slice none 0 0] 67)) := ⟨_, rfl⟩
              rw [← hV3]
              have HCV3 : Hid (Below X.heap.size X V3) := by show Below _ _ _; rw [hV3]; exact HCV2.out.alloc HCV2.out.size _
              have HFV3 : Hid (V3.heap[V2.heap.size]? = some (.cells #[.int .u32 0, .int .u8 0, .int .u32 0, .int .u8 0, .int .u32 0, .int .i64 0, .int .u32 0, .int .u32 0, .int .u32 0, .int .u32 0, .int .u32 0, .int .u8 0, .int .u8 0, .int .i64 0, .int .i64 0, .int .i64 0, .int .i64 0, .int .i64 0, .int .i64 0, .slice none 0 0] 67 (0, 0))) := by show _ = _; rw [hV3]; exact heap_alloc_at V2 _
              have HLV3 : Hid (X.heap.size ≤ V2.heap.size) := HCV2.out.size
              refine ⟨Or.inr (by intros; exact ⟨⟨_, HCV3.out⟩, rfl⟩), ?_⟩
              generalize V2.heap.size = F at *
              clear hV3
              refine mixT_one (k := 12) (by kernel_rfl) rfl ?_
              have hwh : whole V3 F 20 = true := by unfold whole; rw [HFV3.out]; rfl
              have hzF := blk_lt HFV3.out
              go_wp2
              refine ⟨Or.inl (by kernel_rfl), ?_⟩
              refine mixT_nil (by kernel_rfl) ?_
              go_wp2
              go_meet
              case rel =>
                exact ⟨F, x1, x3, rfl, HLV3, HG1, HG3, heap_setRow_at HFV3.out, HCV3.out.trans ⟨rfl, rfl, rfl, by simp, fun q hq => setRow_other _ _ _ _ (by have := HLV3.out; omega)⟩⟩
            ·
              go_wp2
              obtain ⟨V2, hV2⟩ : ∃ V2, V2 = (V1.alloc (.cells #[.int .u32 0, .int .u8 0, .int .u32 0, .int .u8 0, .int .u32 0, .int .i64 0, .int .u32 0, .int .u32 0, .int .u32 0, .int .u32 0, .int .u32 0, .int .u8 0, .int .u8 0, .int .i64 0, .int .i64 0, .int .i64 0, .int .i64 0, .int .i64 0, .int .i64 0, .slice none 0 0] 67)) := ⟨_, rfl⟩
              rw [← hV2]
              have HCV2 : Hid (Below X.heap.size X V2) := by show Below _ _ _; rw [hV2]; exact HCV1.out.alloc HCV1.out.size _
              have HFV2 : Hid (V2.heap[V1.heap.size]? = some (.cells #[.int .u32 0, .int .u8 0, .int .u32 0, .int .u8 0, .int .u32 0, .int .i64 0, .int .u32 0, .int .u32 0, .int .u32 0, .int .u32 0, .int .u32 0, .int .u8 0, .int .u8 0, .int .i64 0, .int .i64 0, .int .i64 0, .int .i64 0, .int .i64 0, .int .i64 0, .slice none 0 0] 67 (0, 0))) := by show _ = _; rw [hV2]; exact heap_alloc_at V1 _
              have HLV2 : Hid (X.heap.size ≤ V1.heap.size) := HCV1.out.size
              refine ⟨Or.inr (by intros; exact ⟨⟨_, HCV2.out⟩, rfl⟩), ?_⟩
              generalize V1.heap.size = F at *
              clear hV2
              refine mixT_one (k := 8) (by kernel_rfl) rfl ?_
              go_wp2_with (go_at_call 149; refine (mguess_calls _ p3 (HPB2.out _ (by simp)) (by have := HPL2.out p3 (by simp); omega)).mono ?_; rintro e V3 ⟨x3, rfl, hx3, hg3, hb3⟩)
              have HCV3 : Hid (Below X.heap.size X V3) := (HCV2.out).trans (hb3.mono (HCV2.out).size)
              have HG3 : Hid (GNum p3 x3) := ⟨hx3, hg3⟩
              have HFV3 : Hid (V3.heap[F]? = some (.cells #[.int .u32 0, .int .u8 0, .int .u32 0, .int .u8 0, .int .u32 0, .int .i64 0, .int .u32 0, .int .u32 0, .int .u32 0, .int .u32 0, .int .u32 0, .int .u8 0, .int .u8 0, .int .i64 0, .int .i64 0, .int .i64 0, .int .i64 0, .int .i64 0, .int .i64 0, .slice none 0 0] 67 (0, 0))) := (hb3.block _ (blk_lt HFV2.out)).trans HFV2.out
              have HLV3 := HLV2
              refine ⟨Or.inr (by intros; exact ⟨⟨_, HCV3.out⟩, rfl⟩), ?_⟩
              clear hb3 hg3 hx3
              refine mixT_slots [9, 10] (fuel := 1) rfl (by kernel_rfl) (by kernel_rfl) (fun d _ _ _ _ h => by cases d <;> exact h) ?_
              simp only [opersAt, List.getElem?_toArray, List.getElem?_cons_zero, List.getElem?_cons_succ]
              repeat (go_big_quiet_step (fail))
              refine wpQuiet_nil ?_
              refine mixT_one (k := 12) (by kernel_rfl) rfl ?_
              have hwh : whole V3 F 20 = true := by unfold whole; rw [HFV3.out]; rfl
              have hzF := blk_lt HFV3.out
              go_wp2
              refine ⟨Or.inl (by kernel_rfl), ?_⟩
              refine mixT_nil (by kernel_rfl) ?_
              go_wp2
              go_meet
              case rel =>
                exact ⟨F, x1, x3, rfl, HLV3, HG1, HG3, heap_setRow_at HFV3.out, HCV3.out.trans ⟨rfl, rfl, rfl, by simp, fun q hq => setRow_other _ _ _ _ (by have := HLV3.out; omega)⟩⟩
          ·
            go_wp2
            obtain ⟨V1, hV1⟩ : ∃ V1, V1 = (X.alloc (.cells #[.int .u32 0, .int .u8 0, .int .u32 0, .int .u8 0, .int .u32 0, .int .i64 0, .int .u32 0, .int .u32 0, .int .u32 0, .int .u32 0, .int .u32 0, .int .u8 0, .int .u8 0, .int .i64 0, .int .i64 0, .int .i64 0, .int .i64 0, .int .i64 0, .int .i64 0, .slice none 0 0] 67)).drew := ⟨_, rfl⟩
            rw [← hV1]
            have HCV1 : Hid (Below X.heap.size X V1) := by show Below _ _ _; rw [hV1]; exact ((Below.refl _ _).alloc (Nat.le_refl _) _).drew
            have HFV1 : Hid (V1.heap[X.heap.size]? = some (.cells #[.int .u32 0, .int .u8 0, .int .u32 0, .int .u8 0, .int .u32 0, .int .i64 0, .int .u32 0, .int .u32 0, .int .u32 0, .int .u32 0, .int .u32 0, .int .u8 0, .int .u8 0, .int .i64 0, .int .i64 0, .int .i64 0, .int .i64 0, .int .i64 0, .int .i64 0, .slice none 0 0] 67 (0, 0))) := by show _ = _; rw [hV1]; exact heap_alloc_at X _
            have HLV1 : Hid (X.heap.size ≤ X.heap.size) := Nat.le_refl _
            refine ⟨Or.inr (by intros; exact ⟨⟨_, HCV1.out⟩, rfl⟩), ?_⟩
            obtain ⟨F, hF⟩ : ∃ F, F = X.heap.size := ⟨_, rfl⟩
            have hpF : Value.pointer (some ⟨X.heap.size, 0, none⟩) = Value.pointer (some ⟨F, 0, none⟩) := by rw [hF]
            rw [hpF]
            clear hpF
            rw [← hF] at HFV1
            have HLV1 : Hid (X.heap.size ≤ F) := by rw [hF]; exact Nat.le_refl X.heap.size
            clear hV1 hF
            refine mixT_one (k := 3) (by kernel_rfl) rfl ?_
            go_wp2_with (go_at_call 149; refine (mguess_calls _ p1 (HPB2.out _ (by simp)) (by have := HPL2.out p1 (by simp); omega)).mono ?_; rintro e V2 ⟨x1, rfl, hx1, hg1, hb1⟩)
            have HCV2 : Hid (Below X.heap.size X V2) := (HCV1.out).trans (hb1.mono (HCV1.out).size)
            have HG1 : Hid (GNum p1 x1) := ⟨hx1, hg1⟩
            have HFV2 : Hid (V2.heap[F]? = some (.cells #[.int .u32 0, .int .u8 0, .int .u32 0, .int .u8 0, .int .u32 0, .int .i64 0, .int .u32 0, .int .u32 0, .int .u32 0, .int .u32 0, .int .u32 0, .int .u8 0, .int .u8 0, .int .i64 0, .int .i64 0, .int .i64 0, .int .i64 0, .int .i64 0, .int .i64 0, .slice none 0 0] 67 (0, 0))) := (hb1.block _ (blk_lt HFV1.out)).trans HFV1.out
            have HLV2 := HLV1
            refine ⟨Or.inr (by intros; exact ⟨⟨_, HCV2.out⟩, rfl⟩), ?_⟩
            clear hb1 hg1 hx1
            refine mixT_slots [4] (fuel := 4) rfl (by kernel_rfl) (by kernel_rfl) (fun d _ _ _ _ h => by cases d <;> exact h) ?_
            simp only [opersAt, List.getElem?_toArray, List.getElem?_cons_zero, List.getElem?_cons_succ]
            repeat (go_big_quiet_step (fail))
            refine wpQuiet_nil ?_
            refine mixT_one (k := 8) (by kernel_rfl) rfl ?_
            go_wp2_with (go_at_call 149; refine (mguess_calls _ p3 (HPB2.out _ (by simp)) (by have := HPL2.out p3 (by simp); omega)).mono ?_; rintro e V3 ⟨x3, rfl, hx3, hg3, hb3⟩)
            have HCV3 : Hid (Below X.heap.size X V3) := (HCV2.out).trans (hb3.mono (HCV2.out).size)
            have HG3 : Hid (GNum p3 x3) := ⟨hx3, hg3⟩
            have HFV3 : Hid (V3.heap[F]? = some (.cells #[.int .u32 0, .int .u8 0, .int .u32 0, .int .u8 0, .int .u32 0, .int .i64 0, .int .u32 0, .int .u32 0, .int .u32 0, .int .u32 0, .int .u32 0, .int .u8 0, .int .u8 0, .int .i64 0, .int .i64 0, .int .i64 0, .int .i64 0, .int .i64 0, .int .i64 0, .slice none 0 0] 67 (0, 0))) := (hb3.block _ (blk_lt HFV2.out)).trans HFV2.out
            have HLV3 := HLV2
            refine ⟨Or.inr (by intros; exact ⟨⟨_, HCV3.out⟩, rfl⟩), ?_⟩
            clear hb3 hg3 hx3
            refine mixT_slots [9, 10] (fuel := 1) rfl (by kernel_rfl) (by kernel_rfl) (fun d _ _ _ _ h => by cases d <;> exact h) ?_
            simp only [opersAt, List.getElem?_toArray, List.getElem?_cons_zero, List.getElem?_cons_succ]
            repeat (go_big_quiet_step (fail))
            refine wpQuiet_nil ?_
            refine mixT_one (k := 12) (by kernel_rfl) rfl ?_
            have hwh : whole V3 F 20 = true := by unfold whole; rw [HFV3.out]; rfl
            have hzF := blk_lt HFV3.out
            go_wp2
            refine ⟨Or.inl (by kernel_rfl), ?_⟩
            refine mixT_nil (by kernel_rfl) ?_
            go_wp2
            go_meet
            case rel =>
              exact ⟨F, x1, x3, rfl, HLV3, HG1, HG3, heap_setRow_at HFV3.out, HCV3.out.trans ⟨rfl, rfl, rfl, by simp, fun q hq => setRow_other _ _ _ _ (by have := HLV3.out; omega)⟩⟩
      case rest =>
      obtain ⟨E, x1, x3, rfl, HLE, HG1, HG3, HKE, HBE⟩ := hcut
      have hXE := HLE.out
      have hpgE : pg ≠ E := by omega
      go_upto_region 13 with fail
      go_loopg [10] 6 (fun gk j W => ∃ (r : Nat) (rv : Int), 1 ≤ r ∧ r ≤ 7 ∧ gk = 7 - r ∧ j = .int .u8 r ∧ Hid (NmV rn (r - 1) p2 rv) ∧ Hid (W.heap[E]? = some (.cells (entA ⟨x1 % 4294967296, rv, x3 % 4294967296, zeroReq⟩ (.slice none 0 0)) 67 (0, 0))) ∧ Hid (Below X.heap.size X W))
      case atStart => exact ⟨1, 0, by omega, by omega, by omega, rfl, Or.inl ⟨rfl, fun k h1 h2 => by omega⟩, HKE, HBE⟩
      clear HKE HBE
      case round =>
        obtain ⟨r, rv, hr1, hr2, rfl, rfl, HNv, HKv, HBv⟩ := hrel
        by_cases hltr : r < 7
        · as_aux_lemma =>
          have hle := blk_lt HKv.out
          have hpx : pg < wr.heap.size := by have := HBv.out.size; omega
          have dd : wr.cell? ⟨pg, 2, none⟩ = some (.string (strOfNums p2)) := (HBv.out.cell (p := ⟨pg, 2, none⟩) hpg2).trans d2
          obtain ⟨S, hS⟩ : ∃ S, S = rn r := ⟨_, rfl⟩
          have HCS : Hid (∀ x : Ext wr.heap.size wr, Calls Tryz.prog 137 #[.int .u8 r] x.world fun e w' => e = .returned (.string S) ∧ Below x.world.heap.size x.world w') := fun x => by
            have := roleStr_calls x.world rn kn ft (r : Int) (HNM.out x.world (HBv.out.trans (x.below.mono HBv.out.size))) ⟨by omega, by omega⟩
            rw [nmOf_in (by omega), ← hS] at this
            exact this.mono fun _ _ ⟨h1, h2⟩ => ⟨h1, by rw [h2]; exact Below.refl _ _⟩
          obtain ⟨t, ht⟩ : ∃ t : Bool, t = (S.toList == (strOfNums p2).toList) := ⟨_, rfl⟩
          have HEQ : Hid (t = true ↔ strB (rn r) = p2) := by show _ ↔ _; rw [ht, hS]; exact nm_eq (HPB2.out p2 (by simp))
          have HTE := hide ht
          have hrb : decide ((r : Int) ≤ 6) = true := by simp; omega
          clear hS ht
          go_upto_region 15 with fail
          go_cut [58] (fun v W => v = .bool t ∧ Hid (Below wr.heap.size wr W))
          case first =>
            as_aux_lemma =>
              refine wp_region_ext wr.heap.size (by kernel_rfl) (by kernel_rfl) ?_
              repeat (go_big_quiet_step ((go_at_call 137; refine ext_call (Nat.le_refl _) (HCS.out _))))
              refine wpQuiet_nil ?_
              intro _ hw'
              obtain ⟨x, hw2⟩ := hw'
              subst hw2
              go_wp2
              go_meet
              case rel => exact ⟨by rw [HTE.out], x.below⟩
          case rest =>
          obtain ⟨rfl, HBw⟩ := hcut
          clear HCS HTE dd
          cases t with
          | true =>
            have HE := hide (HEQ.out.1 rfl)
            clear HEQ
            have HKw : Hid (wc.heap[E]? = some (.cells (entA ⟨x1 % 4294967296, rv, x3 % 4294967296, zeroReq⟩ (.slice none 0 0)) 67 (0, 0))) := (HBw.out.block _ hle).trans HKv.out
            have hlw := blk_lt HKw.out
            have hcc : wc.cell? ⟨E, 1, none⟩ = some (.int .u8 rv) := cells_all HKw.out 1
            have hfz : wc.frozen? ⟨E, 1, none⟩ = false := by simp [World.frozen?, HKw.out]
            have HBX : Hid (Below X.heap.size X wc) := HBv.out.trans (HBw.out.mono HBv.out.size)
            go_wp2
            go_roundg (7 - (r + 1))
            case measure => omega
            case rel => exact ⟨r + 1, r, by omega, by omega, rfl, by go_num, Or.inr ⟨r, hr1, by omega, HE.out, rfl⟩, heap_set3 (j := 1) (v := .int .u8 r) HKw.out, HBX.out.setCell (p := ⟨E, 1, none⟩) (by show X.heap.size ≤ E; omega) _⟩
          | false =>
            have HNe : Hid (strB (rn r) ≠ p2) := fun e => by have := HEQ.out.2 e; cases this
            clear HEQ
            go_wp2
            go_roundg (7 - (r + 1))
            case measure => omega
            case rel =>
              refine ⟨r + 1, rv, by omega, by omega, rfl, by go_num, ?_, (HBw.out.block _ hle).trans HKv.out, HBv.out.trans (HBw.out.mono HBv.out.size)⟩
              rcases HNv.out with ⟨h1, h2⟩ | ⟨k, h1, h2, h3, h4⟩
              · exact Or.inl ⟨h1, fun k k1 k2 => by by_cases e : k = r; (subst e; exact HNe.out); exact h2 k k1 (by omega)⟩
              · exact Or.inr ⟨k, h1, by omega, h3, h4⟩
        · obtain rfl : r = 7 := by omega
          have hrb : decide ((7 : Int) ≤ 6) = false := by decide
          generalize wr = U4 at *
          have HNR := HNv
          have HKE := HKv
          have HB4 := HBv
          clear HNv HKv HBv hltr hr1 hr2
          have hp4 : pg < U4.heap.size := by have := HB4.out.size; omega
          go_upto_region 17 with fail
          go_cut [11] (fun p W => ∃ Q rq, p = .pointer (some ⟨Q, 0, none⟩) ∧ Hid (U4.heap.size ≤ Q) ∧ Hid (RqG p5 p6 p7 p8 p9 p10 p11 p12 p13 p14 p15 p16 p17 p18 p19 rq) ∧ Hid (W.heap[Q]? = some (.cells (reqA rq (.slice none 0 0)) 53 (0, 0))) ∧ Hid (Below U4.heap.size U4 W))
          case first =>
            as_aux_lemma =>
              have e5 : U4.cell? ⟨pg, 5, none⟩ = some (.string (strOfNums p5)) := (HB4.out.cell (p := ⟨pg, 5, none⟩) hpg2).trans d5
              have e6 : U4.cell? ⟨pg, 6, none⟩ = some (.string (strOfNums p6)) := (HB4.out.cell (p := ⟨pg, 6, none⟩) hpg2).trans d6
              have e7 : U4.cell? ⟨pg, 7, none⟩ = some (.string (strOfNums p7)) := (HB4.out.cell (p := ⟨pg, 7, none⟩) hpg2).trans d7
              have e8 : U4.cell? ⟨pg, 8, none⟩ = some (.string (strOfNums p8)) := (HB4.out.cell (p := ⟨pg, 8, none⟩) hpg2).trans d8
              have e9 : U4.cell? ⟨pg, 9, none⟩ = some (.string (strOfNums p9)) := (HB4.out.cell (p := ⟨pg, 9, none⟩) hpg2).trans d9
              have e10 : U4.cell? ⟨pg, 10, none⟩ = some (.string (strOfNums p10)) := (HB4.out.cell (p := ⟨pg, 10, none⟩) hpg2).trans d10
              have e11 : U4.cell? ⟨pg, 11, none⟩ = some (.string (strOfNums p11)) := (HB4.out.cell (p := ⟨pg, 11, none⟩) hpg2).trans d11
              have e12 : U4.cell? ⟨pg, 12, none⟩ = some (.string (strOfNums p12)) := (HB4.out.cell (p := ⟨pg, 12, none⟩) hpg2).trans d12
              have e13 : U4.cell? ⟨pg, 13, none⟩ = some (.string (strOfNums p13)) := (HB4.out.cell (p := ⟨pg, 13, none⟩) hpg2).trans d13
              have e14 : U4.cell? ⟨pg, 14, none⟩ = some (.string (strOfNums p14)) := (HB4.out.cell (p := ⟨pg, 14, none⟩) hpg2).trans d14
              have e15 : U4.cell? ⟨pg, 15, none⟩ = some (.string (strOfNums p15)) := (HB4.out.cell (p := ⟨pg, 15, none⟩) hpg2).trans d15
              have e16 : U4.cell? ⟨pg, 16, none⟩ = some (.string (strOfNums p16)) := (HB4.out.cell (p := ⟨pg, 16, none⟩) hpg2).trans d16
              have e17 : U4.cell? ⟨pg, 17, none⟩ = some (.string (strOfNums p17)) := (HB4.out.cell (p := ⟨pg, 17, none⟩) hpg2).trans d17
              have e18 : U4.cell? ⟨pg, 18, none⟩ = some (.string (strOfNums p18)) := (HB4.out.cell (p := ⟨pg, 18, none⟩) hpg2).trans d18
              have e19 : U4.cell? ⟨pg, 19, none⟩ = some (.string (strOfNums p19)) := (HB4.out.cell (p := ⟨pg, 19, none⟩) hpg2).trans d19
              clear d1 d2 d3 d4 d5 d6 d7 d8 d9 d10 d11 d12 d13 d14 d15 d16 d17 d18 d19 d20
              simp only [List.append_eq, List.cons_append, List.nil_append]
              refine wp_region_mixT (U4.heap.size) [2, 7, 11, 16, 21, 26, 31, 36, 41, 46, 50, 54, 58, 62, 66] (by kernel_rfl) ?_
              refine mixT_slots [0, 1, 5, 6, 9, 10, 14, 15, 19, 20, 24, 25, 29, 30, 34, 35, 39, 40, 44, 45, 48, 49, 52, 53, 56, 57, 60, 61, 64, 65] (fuel := 42) rfl (by kernel_rfl) (by kernel_rfl) (fun d _ _ _ _ h => by cases d <;> exact h) ?_
              simp only [opersAt, List.getElem?_toArray, List.getElem?_cons_zero, List.getElem?_cons_succ]
              repeat (go_big_quiet_step (fail))
              refine wpQuiet_nil ?_
              refine mixT_reads [2, 7, 11, 16, 21, 26, 31, 36, 41, 46, 50, 54, 58, 62, 66] (fuel := 27) rfl (by kernel_rfl) (by decide) (by kernel_rfl) (fun d _ _ _ _ h => by cases d <;> exact h) (ext_drew _ _) ?_
              simp only [opersAt, List.getElem?_toArray, List.getElem?_cons_zero, List.getElem?_cons_succ]
              repeat (go_big_quiet_step (fail))
              refine wpQuiet_nil ?_
              apply flk15 (C := fun (W : World) (F : Nat) (x5 x6 x7 x8 x9 x10 x11 x12 x13 x14 x15 x16 x17 x18 x19 : Int) => FQ U4.heap.size U4 W F ∧ GNum p5 x5 ∧ GNum p6 x6 ∧ GNum p7 x7 ∧ GNum p8 x8 ∧ GNum p9 x9 ∧ GNum p10 x10 ∧ GNum p11 x11 ∧ GNum p12 x12 ∧ GNum p13 x13 ∧ GNum p14 x14 ∧ GNum p15 x15 ∧ GNum p16 x16 ∧ GNum p17 x17 ∧ GNum p18 x18 ∧ GNum p19 x19)
              case h =>
                intro K15
                apply flk14 (C := fun (W : World) (F : Nat) (x5 x6 x7 x8 x9 x10 x11 x12 x13 x14 x15 x16 x17 x18 : Int) => FQ U4.heap.size U4 W F ∧ GNum p5 x5 ∧ GNum p6 x6 ∧ GNum p7 x7 ∧ GNum p8 x8 ∧ GNum p9 x9 ∧ GNum p10 x10 ∧ GNum p11 x11 ∧ GNum p12 x12 ∧ GNum p13 x13 ∧ GNum p14 x14 ∧ GNum p15 x15 ∧ GNum p16 x16 ∧ GNum p17 x17 ∧ GNum p18 x18)
                case h =>
                  intro K14
                  apply flk13 (C := fun (W : World) (F : Nat) (x5 x6 x7 x8 x9 x10 x11 x12 x13 x14 x15 x16 x17 : Int) => FQ U4.heap.size U4 W F ∧ GNum p5 x5 ∧ GNum p6 x6 ∧ GNum p7 x7 ∧ GNum p8 x8 ∧ GNum p9 x9 ∧ GNum p10 x10 ∧ GNum p11 x11 ∧ GNum p12 x12 ∧ GNum p13 x13 ∧ GNum p14 x14 ∧ GNum p15 x15 ∧ GNum p16 x16 ∧ GNum p17 x17)
                  case h =>
                    intro K13
                    apply flk12 (C := fun (W : World) (F : Nat) (x5 x6 x7 x8 x9 x10 x11 x12 x13 x14 x15 x16 : Int) => FQ U4.heap.size U4 W F ∧ GNum p5 x5 ∧ GNum p6 x6 ∧ GNum p7 x7 ∧ GNum p8 x8 ∧ GNum p9 x9 ∧ GNum p10 x10 ∧ GNum p11 x11 ∧ GNum p12 x12 ∧ GNum p13 x13 ∧ GNum p14 x14 ∧ GNum p15 x15 ∧ GNum p16 x16)
                    case h =>
                      intro K12
                      apply flk11 (C := fun (W : World) (F : Nat) (x5 x6 x7 x8 x9 x10 x11 x12 x13 x14 x15 : Int) => FQ U4.heap.size U4 W F ∧ GNum p5 x5 ∧ GNum p6 x6 ∧ GNum p7 x7 ∧ GNum p8 x8 ∧ GNum p9 x9 ∧ GNum p10 x10 ∧ GNum p11 x11 ∧ GNum p12 x12 ∧ GNum p13 x13 ∧ GNum p14 x14 ∧ GNum p15 x15)
                      case h =>
                        intro K11
                        apply flk10 (C := fun (W : World) (F : Nat) (x5 x6 x7 x8 x9 x10 x11 x12 x13 x14 : Int) => FQ U4.heap.size U4 W F ∧ GNum p5 x5 ∧ GNum p6 x6 ∧ GNum p7 x7 ∧ GNum p8 x8 ∧ GNum p9 x9 ∧ GNum p10 x10 ∧ GNum p11 x11 ∧ GNum p12 x12 ∧ GNum p13 x13 ∧ GNum p14 x14)
                        case h =>
                          intro K10
                          apply flk9 (C := fun (W : World) (F : Nat) (x5 x6 x7 x8 x9 x10 x11 x12 x13 : Int) => FQ U4.heap.size U4 W F ∧ GNum p5 x5 ∧ GNum p6 x6 ∧ GNum p7 x7 ∧ GNum p8 x8 ∧ GNum p9 x9 ∧ GNum p10 x10 ∧ GNum p11 x11 ∧ GNum p12 x12 ∧ GNum p13 x13)
                          case h =>
                            intro K9
                            apply flk8 (C := fun (W : World) (F : Nat) (x5 x6 x7 x8 x9 x10 x11 x12 : Int) => FQ U4.heap.size U4 W F ∧ GNum p5 x5 ∧ GNum p6 x6 ∧ GNum p7 x7 ∧ GNum p8 x8 ∧ GNum p9 x9 ∧ GNum p10 x10 ∧ GNum p11 x11 ∧ GNum p12 x12)
                            case h =>
                              intro K8
                              apply flk7 (C := fun (W : World) (F : Nat) (x5 x6 x7 x8 x9 x10 x11 : Int) => FQ U4.heap.size U4 W F ∧ GNum p5 x5 ∧ GNum p6 x6 ∧ GNum p7 x7 ∧ GNum p8 x8 ∧ GNum p9 x9 ∧ GNum p10 x10 ∧ GNum p11 x11)
                              case h =>
                                intro K7
                                apply flk6 (C := fun (W : World) (F : Nat) (x5 x6 x7 x8 x9 x10 : Int) => FQ U4.heap.size U4 W F ∧ GNum p5 x5 ∧ GNum p6 x6 ∧ GNum p7 x7 ∧ GNum p8 x8 ∧ GNum p9 x9 ∧ GNum p10 x10)
                                case h =>
                                  intro K6
                                  apply flk5 (C := fun (W : World) (F : Nat) (x5 x6 x7 x8 x9 : Int) => FQ U4.heap.size U4 W F ∧ GNum p5 x5 ∧ GNum p6 x6 ∧ GNum p7 x7 ∧ GNum p8 x8 ∧ GNum p9 x9)
                                  case h =>
                                    intro K5
                                    apply flk4 (C := fun (W : World) (F : Nat) (x5 x6 x7 x8 : Int) => FQ U4.heap.size U4 W F ∧ GNum p5 x5 ∧ GNum p6 x6 ∧ GNum p7 x7 ∧ GNum p8 x8)
                                    case h =>
                                      intro K4
                                      apply flk3 (C := fun (W : World) (F : Nat) (x5 x6 x7 : Int) => FQ U4.heap.size U4 W F ∧ GNum p5 x5 ∧ GNum p6 x6 ∧ GNum p7 x7)
                                      case h =>
                                        intro K3
                                        apply flk2 (C := fun (W : World) (F : Nat) (x5 x6 : Int) => FQ U4.heap.size U4 W F ∧ GNum p5 x5 ∧ GNum p6 x6)
                                        case h =>
                                          intro K2
                                          apply flk1 (C := fun (W : World) (F : Nat) (x5 : Int) => FQ U4.heap.size U4 W F ∧ GNum p5 x5)
                                          case h =>
                                            intro K1
                                            apply flk0 (C := fun (W : World) (F : Nat) => FQ U4.heap.size U4 W F)
                                            case h =>
                                              intro K0
                                              refine mixT_two (k := 3) (k' := 70) (by kernel_rfl) rfl rfl ?_ ?_
                                              rotate_left
                                              ·
                                                go_wp2
                                                obtain ⟨A, hA⟩ : ∃ A, A = (U4.alloc (.cells #[.int .u8 0, .int .u32 0, .int .i64 0, .int .u32 0, .int .u32 0, .int .u32 0, .int .u32 0, .int .u32 0, .int .u8 0, .int .u8 0, .int .i64 0, .int .i64 0, .int .i64 0, .int .i64 0, .int .i64 0, .int .i64 0, .slice none 0 0] 53)).drew := ⟨_, rfl⟩
                                                rw [← hA]
                                                have HCA : Hid (Below U4.heap.size U4 A) := by show Below _ _ _; rw [hA]; exact ((Below.refl _ _).alloc (Nat.le_refl _) _).drew
                                                have HFA : Hid (A.heap[U4.heap.size]? = some (.cells #[.int .u8 0, .int .u32 0, .int .i64 0, .int .u32 0, .int .u32 0, .int .u32 0, .int .u32 0, .int .u32 0, .int .u8 0, .int .u8 0, .int .i64 0, .int .i64 0, .int .i64 0, .int .i64 0, .int .i64 0, .int .i64 0, .slice none 0 0] 53 (0, 0))) := by show _ = _; rw [hA]; exact heap_alloc_at U4 _
                                                have HLA : Hid (U4.heap.size ≤ U4.heap.size) := Nat.le_refl _
                                                refine ⟨Or.inr (by intros; exact ⟨⟨_, HCA.out⟩, rfl⟩), ?_⟩
                                                obtain ⟨F, hF⟩ : ∃ F, F = U4.heap.size := ⟨_, rfl⟩
                                                have hpF : Value.pointer (some ⟨U4.heap.size, 0, none⟩) = Value.pointer (some ⟨F, 0, none⟩) := by rw [hF]
                                                rw [hpF]
                                                clear hpF
                                                rw [← hF] at HFA
                                                have HLA : Hid (U4.heap.size ≤ F) := by rw [hF]; exact Nat.le_refl U4.heap.size
                                                clear hA hF
                                                exact K0.out A F  ⟨HCA.out, HFA.out, HLA.out⟩
                                              go_wp2_with (go_at_call 149; refine (mguess_calls _ p5 (HPB2.out _ (by simp)) (by have := HPL2.out p5 (by simp); omega)).mono ?_; rintro e V5 ⟨x5, rfl, hx5, hg5, hb5⟩)
                                              have HCV5 : Hid (Below U4.heap.size U4 V5) := ((Below.refl U4.heap.size U4).drew).trans (hb5.mono ((Below.refl U4.heap.size U4).drew).size)
                                              have HG5 : Hid (GNum p5 x5) := ⟨hx5, hg5⟩
                                              refine ⟨Or.inr (by intros; exact ⟨⟨_, HCV5.out⟩, rfl⟩), ?_⟩
                                              clear hb5 hg5 hx5
                                              refine mixT_slots [4] (fuel := 25) rfl (by kernel_rfl) (by kernel_rfl) (fun d _ _ _ _ h => by cases d <;> exact h) ?_
                                              simp only [opersAt, List.getElem?_toArray, List.getElem?_cons_zero, List.getElem?_cons_succ]
                                              repeat (go_big_quiet_step (fail))
                                              refine wpQuiet_nil ?_
                                              refine mixT_two (k := 8) (k' := 70) (by kernel_rfl) rfl rfl ?_ ?_
                                              rotate_left
                                              ·
                                                go_wp2
                                                obtain ⟨A, hA⟩ : ∃ A, A = (V5.alloc (.cells #[.int .u8 0, .int .u32 0, .int .i64 0, .int .u32 0, .int .u32 0, .int .u32 0, .int .u32 0, .int .u32 0, .int .u8 0, .int .u8 0, .int .i64 0, .int .i64 0, .int .i64 0, .int .i64 0, .int .i64 0, .int .i64 0, .slice none 0 0] 53)) := ⟨_, rfl⟩
                                                rw [← hA]
                                                have HCA : Hid (Below U4.heap.size U4 A) := by show Below _ _ _; rw [hA]; exact HCV5.out.alloc HCV5.out.size _
                                                have HFA : Hid (A.heap[V5.heap.size]? = some (.cells #[.int .u8 0, .int .u32 0, .int .i64 0, .int .u32 0, .int .u32 0, .int .u32 0, .int .u32 0, .int .u32 0, .int .u8 0, .int .u8 0, .int .i64 0, .int .i64 0, .int .i64 0, .int .i64 0, .int .i64 0, .int .i64 0, .slice none 0 0] 53 (0, 0))) := by show _ = _; rw [hA]; exact heap_alloc_at V5 _
                                                have HLA : Hid (U4.heap.size ≤ V5.heap.size) := HCV5.out.size
                                                refine ⟨Or.inr (by intros; exact ⟨⟨_, HCA.out⟩, rfl⟩), ?_⟩
                                                generalize V5.heap.size = F at *
                                                clear hA
                                                exact K1.out A F x5 ⟨⟨HCA.out, HFA.out, HLA.out⟩, HG5.out⟩
                                              go_wp2_with (go_at_call 149; refine (mguess_calls _ p6 (HPB2.out _ (by simp)) (by have := HPL2.out p6 (by simp); omega)).mono ?_; rintro e V6 ⟨x6, rfl, hx6, hg6, hb6⟩)
                                              have HCV6 : Hid (Below U4.heap.size U4 V6) := (HCV5.out).trans (hb6.mono (HCV5.out).size)
                                              have HG6 : Hid (GNum p6 x6) := ⟨hx6, hg6⟩
                                              refine ⟨Or.inr (by intros; exact ⟨⟨_, HCV6.out⟩, rfl⟩), ?_⟩
                                              clear hb6 hg6 hx6
                                              refine mixT_two (k := 12) (k' := 70) (by kernel_rfl) rfl rfl ?_ ?_
                                              rotate_left
                                              ·
                                                go_wp2
                                                obtain ⟨A, hA⟩ : ∃ A, A = (V6.alloc (.cells #[.int .u8 0, .int .u32 0, .int .i64 0, .int .u32 0, .int .u32 0, .int .u32 0, .int .u32 0, .int .u32 0, .int .u8 0, .int .u8 0, .int .i64 0, .int .i64 0, .int .i64 0, .int .i64 0, .int .i64 0, .int .i64 0, .slice none 0 0] 53)) := ⟨_, rfl⟩
                                                rw [← hA]
                                                have HCA : Hid (Below U4.heap.size U4 A) := by show Below _ _ _; rw [hA]; exact HCV6.out.alloc HCV6.out.size _
                                                have HFA : Hid (A.heap[V6.heap.size]? = some (.cells #[.int .u8 0, .int .u32 0, .int .i64 0, .int .u32 0, .int .u32 0, .int .u32 0, .int .u32 0, .int .u32 0, .int .u8 0, .int .u8 0, .int .i64 0, .int .i64 0, .int .i64 0, .int .i64 0, .int .i64 0, .int .i64 0, .slice none 0 0] 53 (0, 0))) := by show _ = _; rw [hA]; exact heap_alloc_at V6 _
                                                have HLA : Hid (U4.heap.size ≤ V6.heap.size) := HCV6.out.size
                                                refine ⟨Or.inr (by intros; exact ⟨⟨_, HCA.out⟩, rfl⟩), ?_⟩
                                                generalize V6.heap.size = F at *
                                                clear hA
                                                exact K2.out A F x5 x6 ⟨⟨HCA.out, HFA.out, HLA.out⟩, HG5.out, HG6.out⟩
                                              go_wp2_with (go_at_call 149; refine (mguess_calls _ p7 (HPB2.out _ (by simp)) (by have := HPL2.out p7 (by simp); omega)).mono ?_; rintro e V7 ⟨x7, rfl, hx7, hg7, hb7⟩)
                                              have HCV7 : Hid (Below U4.heap.size U4 V7) := (HCV6.out).trans (hb7.mono (HCV6.out).size)
                                              have HG7 : Hid (GNum p7 x7) := ⟨hx7, hg7⟩
                                              refine ⟨Or.inr (by intros; exact ⟨⟨_, HCV7.out⟩, rfl⟩), ?_⟩
                                              clear hb7 hg7 hx7
                                              refine mixT_slots [13] (fuel := 22) rfl (by kernel_rfl) (by kernel_rfl) (fun d _ _ _ _ h => by cases d <;> exact h) ?_
                                              simp only [opersAt, List.getElem?_toArray, List.getElem?_cons_zero, List.getElem?_cons_succ]
                                              repeat (go_big_quiet_step (fail))
                                              refine wpQuiet_nil ?_
                                              refine mixT_two (k := 17) (k' := 70) (by kernel_rfl) rfl rfl ?_ ?_
                                              rotate_left
                                              ·
                                                go_wp2
                                                obtain ⟨A, hA⟩ : ∃ A, A = (V7.alloc (.cells #[.int .u8 0, .int .u32 0, .int .i64 0, .int .u32 0, .int .u32 0, .int .u32 0, .int .u32 0, .int .u32 0, .int .u8 0, .int .u8 0, .int .i64 0, .int .i64 0, .int .i64 0, .int .i64 0, .int .i64 0, .int .i64 0, .slice none 0 0] 53)) := ⟨_, rfl⟩
                                                rw [← hA]
                                                have HCA : Hid (Below U4.heap.size U4 A) := by show Below _ _ _; rw [hA]; exact HCV7.out.alloc HCV7.out.size _
                                                have HFA : Hid (A.heap[V7.heap.size]? = some (.cells #[.int .u8 0, .int .u32 0, .int .i64 0, .int .u32 0, .int .u32 0, .int .u32 0, .int .u32 0, .int .u32 0, .int .u8 0, .int .u8 0, .int .i64 0, .int .i64 0, .int .i64 0, .int .i64 0, .int .i64 0, .int .i64 0, .slice none 0 0] 53 (0, 0))) := by show _ = _; rw [hA]; exact heap_alloc_at V7 _
                                                have HLA : Hid (U4.heap.size ≤ V7.heap.size) := HCV7.out.size
                                                refine ⟨Or.inr (by intros; exact ⟨⟨_, HCA.out⟩, rfl⟩), ?_⟩
                                                generalize V7.heap.size = F at *
                                                clear hA
                                                exact K3.out A F x5 x6 x7 ⟨⟨HCA.out, HFA.out, HLA.out⟩, HG5.out, HG6.out, HG7.out⟩
                                              go_wp2_with (go_at_call 149; refine (mguess_calls _ p8 (HPB2.out _ (by simp)) (by have := HPL2.out p8 (by simp); omega)).mono ?_; rintro e V8 ⟨x8, rfl, hx8, hg8, hb8⟩)
                                              have HCV8 : Hid (Below U4.heap.size U4 V8) := (HCV7.out).trans (hb8.mono (HCV7.out).size)
                                              have HG8 : Hid (GNum p8 x8) := ⟨hx8, hg8⟩
                                              refine ⟨Or.inr (by intros; exact ⟨⟨_, HCV8.out⟩, rfl⟩), ?_⟩
                                              clear hb8 hg8 hx8
                                              refine mixT_slots [18] (fuel := 20) rfl (by kernel_rfl) (by kernel_rfl) (fun d _ _ _ _ h => by cases d <;> exact h) ?_
                                              simp only [opersAt, List.getElem?_toArray, List.getElem?_cons_zero, List.getElem?_cons_succ]
                                              repeat (go_big_quiet_step (fail))
                                              refine wpQuiet_nil ?_
                                              refine mixT_two (k := 22) (k' := 70) (by kernel_rfl) rfl rfl ?_ ?_
                                              rotate_left
                                              ·
                                                go_wp2
                                                obtain ⟨A, hA⟩ : ∃ A, A = (V8.alloc (.cells #[.int .u8 0, .int .u32 0, .int .i64 0, .int .u32 0, .int .u32 0, .int .u32 0, .int .u32 0, .int .u32 0, .int .u8 0, .int .u8 0, .int .i64 0, .int .i64 0, .int .i64 0, .int .i64 0, .int .i64 0, .int .i64 0, .slice none 0 0] 53)) := ⟨_, rfl⟩
                                                rw [← hA]
                                                have HCA : Hid (Below U4.heap.size U4 A) := by show Below _ _ _; rw [hA]; exact HCV8.out.alloc HCV8.out.size _
                                                have HFA : Hid (A.heap[V8.heap.size]? = some (.cells #[.int .u8 0, .int .u32 0, .int .i64 0, .int .u32 0, .int .u32 0, .int .u32 0, .int .u32 0, .int .u32 0, .int .u8 0, .int .u8 0, .int .i64 0, .int .i64 0, .int .i64 0, .int .i64 0, .int .i64 0, .int .i64 0, .slice none 0 0] 53 (0, 0))) := by show _ = _; rw [hA]; exact heap_alloc_at V8 _
                                                have HLA : Hid (U4.heap.size ≤ V8.heap.size) := HCV8.out.size
                                                refine ⟨Or.inr (by intros; exact ⟨⟨_, HCA.out⟩, rfl⟩), ?_⟩
                                                generalize V8.heap.size = F at *
                                                clear hA
                                                exact K4.out A F x5 x6 x7 x8 ⟨⟨HCA.out, HFA.out, HLA.out⟩, HG5.out, HG6.out, HG7.out, HG8.out⟩
                                              go_wp2_with (go_at_call 149; refine (mguess_calls _ p9 (HPB2.out _ (by simp)) (by have := HPL2.out p9 (by simp); omega)).mono ?_; rintro e V9 ⟨x9, rfl, hx9, hg9, hb9⟩)
                                              have HCV9 : Hid (Below U4.heap.size U4 V9) := (HCV8.out).trans (hb9.mono (HCV8.out).size)
                                              have HG9 : Hid (GNum p9 x9) := ⟨hx9, hg9⟩
                                              refine ⟨Or.inr (by intros; exact ⟨⟨_, HCV9.out⟩, rfl⟩), ?_⟩
                                              clear hb9 hg9 hx9
                                              refine mixT_slots [23] (fuel := 18) rfl (by kernel_rfl) (by kernel_rfl) (fun d _ _ _ _ h => by cases d <;> exact h) ?_
                                              simp only [opersAt, List.getElem?_toArray, List.getElem?_cons_zero, List.getElem?_cons_succ]
                                              repeat (go_big_quiet_step (fail))
                                              refine wpQuiet_nil ?_
                                              refine mixT_two (k := 27) (k' := 70) (by kernel_rfl) rfl rfl ?_ ?_
                                              rotate_left
                                              ·
                                                go_wp2
                                                obtain ⟨A, hA⟩ : ∃ A, A = (V9.alloc (.cells #[.int .u8 0, .int .u32 0, .int .i64 0, .int .u32 0, .int .u32 0, .int .u32 0, .int .u32 0, .int .u32 0, .int .u8 0, .int .u8 0, .int .i64 0, .int .i64 0, .int .i64 0, .int .i64 0, .int .i64 0, .int .i64 0, .slice none 0 0] 53)) := ⟨_, rfl⟩
                                                rw [← hA]
                                                have HCA : Hid (Below U4.heap.size U4 A) := by show Below _ _ _; rw [hA]; exact HCV9.out.alloc HCV9.out.size _
                                                have HFA : Hid (A.heap[V9.heap.size]? = some (.cells #[.int .u8 0, .int .u32 0, .int .i64 0, .int .u32 0, .int .u32 0, .int .u32 0, .int .u32 0, .int .u32 0, .int .u8 0, .int .u8 0, .int .i64 0, .int .i64 0, .int .i64 0, .int .i64 0, .int .i64 0, .int .i64 0, .slice none 0 0] 53 (0, 0))) := by show _ = _; rw [hA]; exact heap_alloc_at V9 _
                                                have HLA : Hid (U4.heap.size ≤ V9.heap.size) := HCV9.out.size
                                                refine ⟨Or.inr (by intros; exact ⟨⟨_, HCA.out⟩, rfl⟩), ?_⟩
                                                generalize V9.heap.size = F at *
                                                clear hA
                                                exact K5.out A F x5 x6 x7 x8 x9 ⟨⟨HCA.out, HFA.out, HLA.out⟩, HG5.out, HG6.out, HG7.out, HG8.out, HG9.out⟩
                                              go_wp2_with (go_at_call 149; refine (mguess_calls _ p10 (HPB2.out _ (by simp)) (by have := HPL2.out p10 (by simp); omega)).mono ?_; rintro e V10 ⟨x10, rfl, hx10, hg10, hb10⟩)
                                              have HCV10 : Hid (Below U4.heap.size U4 V10) := (HCV9.out).trans (hb10.mono (HCV9.out).size)
                                              have HG10 : Hid (GNum p10 x10) := ⟨hx10, hg10⟩
                                              refine ⟨Or.inr (by intros; exact ⟨⟨_, HCV10.out⟩, rfl⟩), ?_⟩
                                              clear hb10 hg10 hx10
                                              refine mixT_slots [28] (fuel := 16) rfl (by kernel_rfl) (by kernel_rfl) (fun d _ _ _ _ h => by cases d <;> exact h) ?_
                                              simp only [opersAt, List.getElem?_toArray, List.getElem?_cons_zero, List.getElem?_cons_succ]
                                              repeat (go_big_quiet_step (fail))
                                              refine wpQuiet_nil ?_
                                              refine mixT_two (k := 32) (k' := 70) (by kernel_rfl) rfl rfl ?_ ?_
                                              rotate_left
                                              ·
                                                go_wp2
                                                obtain ⟨A, hA⟩ : ∃ A, A = (V10.alloc (.cells #[.int .u8 0, .int .u32 0, .int .i64 0, .int .u32 0, .int .u32 0, .int .u32 0, .int .u32 0, .int .u32 0, .int .u8 0, .int .u8 0, .int .i64 0, .int .i64 0, .int .i64 0, .int .i64 0, .int .i64 0, .int .i64 0, .slice none 0 0] 53)) := ⟨_, rfl⟩
                                                rw [← hA]
                                                have HCA : Hid (Below U4.heap.size U4 A) := by show Below _ _ _; rw [hA]; exact HCV10.out.alloc HCV10.out.size _
                                                have HFA : Hid (A.heap[V10.heap.size]? = some (.cells #[.int .u8 0, .int .u32 0, .int .i64 0, .int .u32 0, .int .u32 0, .int .u32 0, .int .u32 0, .int .u32 0, .int .u8 0, .int .u8 0, .int .i64 0, .int .i64 0, .int .i64 0, .int .i64 0, .int .i64 0, .int .i64 0, .slice none 0 0] 53 (0, 0))) := by show _ = _; rw [hA]; exact heap_alloc_at V10 _
                                                have HLA : Hid (U4.heap.size ≤ V10.heap.size) := HCV10.out.size
                                                refine ⟨Or.inr (by intros; exact ⟨⟨_, HCA.out⟩, rfl⟩), ?_⟩
                                                generalize V10.heap.size = F at *
                                                clear hA
                                                exact K6.out A F x5 x6 x7 x8 x9 x10 ⟨⟨HCA.out, HFA.out, HLA.out⟩, HG5.out, HG6.out, HG7.out, HG8.out, HG9.out, HG10.out⟩
                                              go_wp2_with (go_at_call 149; refine (mguess_calls _ p11 (HPB2.out _ (by simp)) (by have := HPL2.out p11 (by simp); omega)).mono ?_; rintro e V11 ⟨x11, rfl, hx11, hg11, hb11⟩)
                                              have HCV11 : Hid (Below U4.heap.size U4 V11) := (HCV10.out).trans (hb11.mono (HCV10.out).size)
                                              have HG11 : Hid (GNum p11 x11) := ⟨hx11, hg11⟩
                                              refine ⟨Or.inr (by intros; exact ⟨⟨_, HCV11.out⟩, rfl⟩), ?_⟩
                                              clear hb11 hg11 hx11
                                              refine mixT_slots [33] (fuel := 14) rfl (by kernel_rfl) (by kernel_rfl) (fun d _ _ _ _ h => by cases d <;> exact h) ?_
                                              simp only [opersAt, List.getElem?_toArray, List.getElem?_cons_zero, List.getElem?_cons_succ]
                                              repeat (go_big_quiet_step (fail))
                                              refine wpQuiet_nil ?_
                                              refine mixT_two (k := 37) (k' := 70) (by kernel_rfl) rfl rfl ?_ ?_
                                              rotate_left
                                              ·
                                                go_wp2
                                                obtain ⟨A, hA⟩ : ∃ A, A = (V11.alloc (.cells #[.int .u8 0, .int .u32 0, .int .i64 0, .int .u32 0, .int .u32 0, .int .u32 0, .int .u32 0, .int .u32 0, .int .u8 0, .int .u8 0, .int .i64 0, .int .i64 0, .int .i64 0, .int .i64 0, .int .i64 0, .int .i64 0, .slice none 0 0] 53)) := ⟨_, rfl⟩
                                                rw [← hA]
                                                have HCA : Hid (Below U4.heap.size U4 A) := by show Below _ _ _; rw [hA]; exact HCV11.out.alloc HCV11.out.size _
                                                have HFA : Hid (A.heap[V11.heap.size]? = some (.cells #[.int .u8 0, .int .u32 0, .int .i64 0, .int .u32 0, .int .u32 0, .int .u32 0, .int .u32 0, .int .u32 0, .int .u8 0, .int .u8 0, .int .i64 0, .int .i64 0, .int .i64 0, .int .i64 0, .int .i64 0, .int .i64 0, .slice none 0 0] 53 (0, 0))) := by show _ = _; rw [hA]; exact heap_alloc_at V11 _
                                                have HLA : Hid (U4.heap.size ≤ V11.heap.size) := HCV11.out.size
                                                refine ⟨Or.inr (by intros; exact ⟨⟨_, HCA.out⟩, rfl⟩), ?_⟩
                                                generalize V11.heap.size = F at *
                                                clear hA
                                                exact K7.out A F x5 x6 x7 x8 x9 x10 x11 ⟨⟨HCA.out, HFA.out, HLA.out⟩, HG5.out, HG6.out, HG7.out, HG8.out, HG9.out, HG10.out, HG11.out⟩
                                              go_wp2_with (go_at_call 149; refine (mguess_calls _ p12 (HPB2.out _ (by simp)) (by have := HPL2.out p12 (by simp); omega)).mono ?_; rintro e V12 ⟨x12, rfl, hx12, hg12, hb12⟩)
                                              have HCV12 : Hid (Below U4.heap.size U4 V12) := (HCV11.out).trans (hb12.mono (HCV11.out).size)
                                              have HG12 : Hid (GNum p12 x12) := ⟨hx12, hg12⟩
                                              refine ⟨Or.inr (by intros; exact ⟨⟨_, HCV12.out⟩, rfl⟩), ?_⟩
                                              clear hb12 hg12 hx12
                                              refine mixT_slots [38] (fuel := 12) rfl (by kernel_rfl) (by kernel_rfl) (fun d _ _ _ _ h => by cases d <;> exact h) ?_
                                              simp only [opersAt, List.getElem?_toArray, List.getElem?_cons_zero, List.getElem?_cons_succ]
                                              repeat (go_big_quiet_step (fail))
                                              refine wpQuiet_nil ?_
                                              refine mixT_two (k := 42) (k' := 70) (by kernel_rfl) rfl rfl ?_ ?_
                                              rotate_left
                                              ·
                                                go_wp2
                                                obtain ⟨A, hA⟩ : ∃ A, A = (V12.alloc (.cells #[.int .u8 0, .int .u32 0, .int .i64 0, .int .u32 0, .int .u32 0, .int .u32 0, .int .u32 0, .int .u32 0, .int .u8 0, .int .u8 0, .int .i64 0, .int .i64 0, .int .i64 0, .int .i64 0, .int .i64 0, .int .i64 0, .slice none 0 0] 53)) := ⟨_, rfl⟩
                                                rw [← hA]
                                                have HCA : Hid (Below U4.heap.size U4 A) := by show Below _ _ _; rw [hA]; exact HCV12.out.alloc HCV12.out.size _
                                                have HFA : Hid (A.heap[V12.heap.size]? = some (.cells #[.int .u8 0, .int .u32 0, .int .i64 0, .int .u32 0, .int .u32 0, .int .u32 0, .int .u32 0, .int .u32 0, .int .u8 0, .int .u8 0, .int .i64 0, .int .i64 0, .int .i64 0, .int .i64 0, .int .i64 0, .int .i64 0, .slice none 0 0] 53 (0, 0))) := by show _ = _; rw [hA]; exact heap_alloc_at V12 _
                                                have HLA : Hid (U4.heap.size ≤ V12.heap.size) := HCV12.out.size
                                                refine ⟨Or.inr (by intros; exact ⟨⟨_, HCA.out⟩, rfl⟩), ?_⟩
                                                generalize V12.heap.size = F at *
                                                clear hA
                                                exact K8.out A F x5 x6 x7 x8 x9 x10 x11 x12 ⟨⟨HCA.out, HFA.out, HLA.out⟩, HG5.out, HG6.out, HG7.out, HG8.out, HG9.out, HG10.out, HG11.out, HG12.out⟩
                                              go_wp2_with (go_at_call 149; refine (mguess_calls _ p13 (HPB2.out _ (by simp)) (by have := HPL2.out p13 (by simp); omega)).mono ?_; rintro e V13 ⟨x13, rfl, hx13, hg13, hb13⟩)
                                              have HCV13 : Hid (Below U4.heap.size U4 V13) := (HCV12.out).trans (hb13.mono (HCV12.out).size)
                                              have HG13 : Hid (GNum p13 x13) := ⟨hx13, hg13⟩
                                              refine ⟨Or.inr (by intros; exact ⟨⟨_, HCV13.out⟩, rfl⟩), ?_⟩
                                              clear hb13 hg13 hx13
                                              refine mixT_slots [43] (fuel := 10) rfl (by kernel_rfl) (by kernel_rfl) (fun d _ _ _ _ h => by cases d <;> exact h) ?_
                                              simp only [opersAt, List.getElem?_toArray, List.getElem?_cons_zero, List.getElem?_cons_succ]
                                              repeat (go_big_quiet_step (fail))
                                              refine wpQuiet_nil ?_
                                              refine mixT_two (k := 47) (k' := 70) (by kernel_rfl) rfl rfl ?_ ?_
                                              rotate_left
                                              ·
                                                go_wp2
                                                obtain ⟨A, hA⟩ : ∃ A, A = (V13.alloc (.cells #[.int .u8 0, .int .u32 0, .int .i64 0, .int .u32 0, .int .u32 0, .int .u32 0, .int .u32 0, .int .u32 0, .int .u8 0, .int .u8 0, .int .i64 0, .int .i64 0, .int .i64 0, .int .i64 0, .int .i64 0, .int .i64 0, .slice none 0 0] 53)) := ⟨_, rfl⟩
                                                rw [← hA]
                                                have HCA : Hid (Below U4.heap.size U4 A) := by show Below _ _ _; rw [hA]; exact HCV13.out.alloc HCV13.out.size _
                                                have HFA : Hid (A.heap[V13.heap.size]? = some (.cells #[.int .u8 0, .int .u32 0, .int .i64 0, .int .u32 0, .int .u32 0, .int .u32 0, .int .u32 0, .int .u32 0, .int .u8 0, .int .u8 0, .int .i64 0, .int .i64 0, .int .i64 0, .int .i64 0, .int .i64 0, .int .i64 0, .slice none 0 0] 53 (0, 0))) := by show _ = _; rw [hA]; exact heap_alloc_at V13 _
                                                have HLA : Hid (U4.heap.size ≤ V13.heap.size) := HCV13.out.size
                                                refine ⟨Or.inr (by intros; exact ⟨⟨_, HCA.out⟩, rfl⟩), ?_⟩
                                                generalize V13.heap.size = F at *
                                                clear hA
                                                exact K9.out A F x5 x6 x7 x8 x9 x10 x11 x12 x13 ⟨⟨HCA.out, HFA.out, HLA.out⟩, HG5.out, HG6.out, HG7.out, HG8.out, HG9.out, HG10.out, HG11.out, HG12.out, HG13.out⟩
                                              go_wp2_with (go_at_call 149; refine (mguess_calls _ p14 (HPB2.out _ (by simp)) (by have := HPL2.out p14 (by simp); omega)).mono ?_; rintro e V14 ⟨x14, rfl, hx14, hg14, hb14⟩)
                                              have HCV14 : Hid (Below U4.heap.size U4 V14) := (HCV13.out).trans (hb14.mono (HCV13.out).size)
                                              have HG14 : Hid (GNum p14 x14) := ⟨hx14, hg14⟩
                                              refine ⟨Or.inr (by intros; exact ⟨⟨_, HCV14.out⟩, rfl⟩), ?_⟩
                                              clear hb14 hg14 hx14
                                              refine mixT_two (k := 51) (k' := 70) (by kernel_rfl) rfl rfl ?_ ?_
                                              rotate_left
                                              ·
                                                go_wp2
                                                obtain ⟨A, hA⟩ : ∃ A, A = (V14.alloc (.cells #[.int .u8 0, .int .u32 0, .int .i64 0, .int .u32 0, .int .u32 0, .int .u32 0, .int .u32 0, .int .u32 0, .int .u8 0, .int .u8 0, .int .i64 0, .int .i64 0, .int .i64 0, .int .i64 0, .int .i64 0, .int .i64 0, .slice none 0 0] 53)) := ⟨_, rfl⟩
                                                rw [← hA]
                                                have HCA : Hid (Below U4.heap.size U4 A) := by show Below _ _ _; rw [hA]; exact HCV14.out.alloc HCV14.out.size _
                                                have HFA : Hid (A.heap[V14.heap.size]? = some (.cells #[.int .u8 0, .int .u32 0, .int .i64 0, .int .u32 0, .int .u32 0, .int .u32 0, .int .u32 0, .int .u32 0, .int .u8 0, .int .u8 0, .int .i64 0, .int .i64 0, .int .i64 0, .int .i64 0, .int .i64 0, .int .i64 0, .slice none 0 0] 53 (0, 0))) := by show _ = _; rw [hA]; exact heap_alloc_at V14 _
                                                have HLA : Hid (U4.heap.size ≤ V14.heap.size) := HCV14.out.size
                                                refine ⟨Or.inr (by intros; exact ⟨⟨_, HCA.out⟩, rfl⟩), ?_⟩
                                                generalize V14.heap.size = F at *
                                                clear hA
                                                exact K10.out A F x5 x6 x7 x8 x9 x10 x11 x12 x13 x14 ⟨⟨HCA.out, HFA.out, HLA.out⟩, HG5.out, HG6.out, HG7.out, HG8.out, HG9.out, HG10.out, HG11.out, HG12.out, HG13.out, HG14.out⟩
                                              go_wp2_with (go_at_call 149; refine (mguess_calls _ p15 (HPB2.out _ (by simp)) (by have := HPL2.out p15 (by simp); omega)).mono ?_; rintro e V15 ⟨x15, rfl, hx15, hg15, hb15⟩)
                                              have HCV15 : Hid (Below U4.heap.size U4 V15) := (HCV14.out).trans (hb15.mono (HCV14.out).size)
                                              have HG15 : Hid (GNum p15 x15) := ⟨hx15, hg15⟩
                                              refine ⟨Or.inr (by intros; exact ⟨⟨_, HCV15.out⟩, rfl⟩), ?_⟩
                                              clear hb15 hg15 hx15
                                              refine mixT_two (k := 55) (k' := 70) (by kernel_rfl) rfl rfl ?_ ?_
                                              rotate_left
                                              ·
                                                go_wp2
                                                obtain ⟨A, hA⟩ : ∃ A, A = (V15.alloc (.cells #[.int .u8 0, .int .u32 0, .int .i64 0, .int .u32 0, .int .u32 0, .int .u32 0, .int .u32 0, .int .u32 0, .int .u8 0, .int .u8 0, .int .i64 0, .int .i64 0, .int .i64 0, .int .i64 0, .int .i64 0, .int .i64 0, .slice none 0 0] 53)) := ⟨_, rfl⟩
                                                rw [← hA]
                                                have HCA : Hid (Below U4.heap.size U4 A) := by show Below _ _ _; rw [hA]; exact HCV15.out.alloc HCV15.out.size _
                                                have HFA : Hid (A.heap[V15.heap.size]? = some (.cells #[.int .u8 0, .int .u32 0, .int .i64 0, .int .u32 0, .int .u32 0, .int .u32 0, .int .u32 0, .int .u32 0, .int .u8 0, .int .u8 0, .int .i64 0, .int .i64 0, .int .i64 0, .int .i64 0, .int .i64 0, .int .i64 0, .slice none 0 0] 53 (0, 0))) := by show _ = _; rw [hA]; exact heap_alloc_at V15 _
                                                have HLA : Hid (U4.heap.size ≤ V15.heap.size) := HCV15.out.size
                                                refine ⟨Or.inr (by intros; exact ⟨⟨_, HCA.out⟩, rfl⟩), ?_⟩
                                                generalize V15.heap.size = F at *
                                                clear hA
                                                exact K11.out A F x5 x6 x7 x8 x9 x10 x11 x12 x13 x14 x15 ⟨⟨HCA.out, HFA.out, HLA.out⟩, HG5.out, HG6.out, HG7.out, HG8.out, HG9.out, HG10.out, HG11.out, HG12.out, HG13.out, HG14.out, HG15.out⟩
                                              go_wp2_with (go_at_call 149; refine (mguess_calls _ p16 (HPB2.out _ (by simp)) (by have := HPL2.out p16 (by simp); omega)).mono ?_; rintro e V16 ⟨x16, rfl, hx16, hg16, hb16⟩)
                                              have HCV16 : Hid (Below U4.heap.size U4 V16) := (HCV15.out).trans (hb16.mono (HCV15.out).size)
                                              have HG16 : Hid (GNum p16 x16) := ⟨hx16, hg16⟩
                                              refine ⟨Or.inr (by intros; exact ⟨⟨_, HCV16.out⟩, rfl⟩), ?_⟩
                                              clear hb16 hg16 hx16
                                              refine mixT_two (k := 59) (k' := 70) (by kernel_rfl) rfl rfl ?_ ?_
                                              rotate_left
                                              ·
                                                go_wp2
                                                obtain ⟨A, hA⟩ : ∃ A, A = (V16.alloc (.cells #[.int .u8 0, .int .u32 0, .int .i64 0, .int .u32 0, .int .u32 0, .int .u32 0, .int .u32 0, .int .u32 0, .int .u8 0, .int .u8 0, .int .i64 0, .int .i64 0, .int .i64 0, .int .i64 0, .int .i64 0, .int .i64 0, .slice none 0 0] 53)) := ⟨_, rfl⟩
                                                rw [← hA]
                                                have HCA : Hid (Below U4.heap.size U4 A) := by show Below _ _ _; rw [hA]; exact HCV16.out.alloc HCV16.out.size _
                                                have HFA : Hid (A.heap[V16.heap.size]? = some (.cells #[.int .u8 0, .int .u32 0, .int .i64 0, .int .u32 0, .int .u32 0, .int .u32 0, .int .u32 0, .int .u32 0, .int .u8 0, .int .u8 0, .int .i64 0, .int .i64 0, .int .i64 0, .int .i64 0, .int .i64 0, .int .i64 0, .slice none 0 0] 53 (0, 0))) := by show _ = _; rw [hA]; exact heap_alloc_at V16 _
                                                have HLA : Hid (U4.heap.size ≤ V16.heap.size) := HCV16.out.size
                                                refine ⟨Or.inr (by intros; exact ⟨⟨_, HCA.out⟩, rfl⟩), ?_⟩
                                                generalize V16.heap.size = F at *
                                                clear hA
                                                exact K12.out A F x5 x6 x7 x8 x9 x10 x11 x12 x13 x14 x15 x16 ⟨⟨HCA.out, HFA.out, HLA.out⟩, HG5.out, HG6.out, HG7.out, HG8.out, HG9.out, HG10.out, HG11.out, HG12.out, HG13.out, HG14.out, HG15.out, HG16.out⟩
                                              go_wp2_with (go_at_call 149; refine (mguess_calls _ p17 (HPB2.out _ (by simp)) (by have := HPL2.out p17 (by simp); omega)).mono ?_; rintro e V17 ⟨x17, rfl, hx17, hg17, hb17⟩)
                                              have HCV17 : Hid (Below U4.heap.size U4 V17) := (HCV16.out).trans (hb17.mono (HCV16.out).size)
                                              have HG17 : Hid (GNum p17 x17) := ⟨hx17, hg17⟩
                                              refine ⟨Or.inr (by intros; exact ⟨⟨_, HCV17.out⟩, rfl⟩), ?_⟩
                                              clear hb17 hg17 hx17
                                              refine mixT_two (k := 63) (k' := 70) (by kernel_rfl) rfl rfl ?_ ?_
                                              rotate_left
                                              ·
                                                go_wp2
                                                obtain ⟨A, hA⟩ : ∃ A, A = (V17.alloc (.cells #[.int .u8 0, .int .u32 0, .int .i64 0, .int .u32 0, .int .u32 0, .int .u32 0, .int .u32 0, .int .u32 0, .int .u8 0, .int .u8 0, .int .i64 0, .int .i64 0, .int .i64 0, .int .i64 0, .int .i64 0, .int .i64 0, .slice none 0 0] 53)) := ⟨_, rfl⟩
                                                rw [← hA]
                                                have HCA : Hid (Below U4.heap.size U4 A) := by show Below _ _ _; rw [hA]; exact HCV17.out.alloc HCV17.out.size _
                                                have HFA : Hid (A.heap[V17.heap.size]? = some (.cells #[.int .u8 0, .int .u32 0, .int .i64 0, .int .u32 0, .int .u32 0, .int .u32 0, .int .u32 0, .int .u32 0, .int .u8 0, .int .u8 0, .int .i64 0, .int .i64 0, .int .i64 0, .int .i64 0, .int .i64 0, .int .i64 0, .slice none 0 0] 53 (0, 0))) := by show _ = _; rw [hA]; exact heap_alloc_at V17 _
                                                have HLA : Hid (U4.heap.size ≤ V17.heap.size) := HCV17.out.size
                                                refine ⟨Or.inr (by intros; exact ⟨⟨_, HCA.out⟩, rfl⟩), ?_⟩
                                                generalize V17.heap.size = F at *
                                                clear hA
                                                exact K13.out A F x5 x6 x7 x8 x9 x10 x11 x12 x13 x14 x15 x16 x17 ⟨⟨HCA.out, HFA.out, HLA.out⟩, HG5.out, HG6.out, HG7.out, HG8.out, HG9.out, HG10.out, HG11.out, HG12.out, HG13.out, HG14.out, HG15.out, HG16.out, HG17.out⟩
                                              go_wp2_with (go_at_call 149; refine (mguess_calls _ p18 (HPB2.out _ (by simp)) (by have := HPL2.out p18 (by simp); omega)).mono ?_; rintro e V18 ⟨x18, rfl, hx18, hg18, hb18⟩)
                                              have HCV18 : Hid (Below U4.heap.size U4 V18) := (HCV17.out).trans (hb18.mono (HCV17.out).size)
                                              have HG18 : Hid (GNum p18 x18) := ⟨hx18, hg18⟩
                                              refine ⟨Or.inr (by intros; exact ⟨⟨_, HCV18.out⟩, rfl⟩), ?_⟩
                                              clear hb18 hg18 hx18
                                              refine mixT_two (k := 67) (k' := 70) (by kernel_rfl) rfl rfl ?_ ?_
                                              rotate_left
                                              ·
                                                go_wp2
                                                obtain ⟨A, hA⟩ : ∃ A, A = (V18.alloc (.cells #[.int .u8 0, .int .u32 0, .int .i64 0, .int .u32 0, .int .u32 0, .int .u32 0, .int .u32 0, .int .u32 0, .int .u8 0, .int .u8 0, .int .i64 0, .int .i64 0, .int .i64 0, .int .i64 0, .int .i64 0, .int .i64 0, .slice none 0 0] 53)) := ⟨_, rfl⟩
                                                rw [← hA]
                                                have HCA : Hid (Below U4.heap.size U4 A) := by show Below _ _ _; rw [hA]; exact HCV18.out.alloc HCV18.out.size _
                                                have HFA : Hid (A.heap[V18.heap.size]? = some (.cells #[.int .u8 0, .int .u32 0, .int .i64 0, .int .u32 0, .int .u32 0, .int .u32 0, .int .u32 0, .int .u32 0, .int .u8 0, .int .u8 0, .int .i64 0, .int .i64 0, .int .i64 0, .int .i64 0, .int .i64 0, .int .i64 0, .slice none 0 0] 53 (0, 0))) := by show _ = _; rw [hA]; exact heap_alloc_at V18 _
                                                have HLA : Hid (U4.heap.size ≤ V18.heap.size) := HCV18.out.size
                                                refine ⟨Or.inr (by intros; exact ⟨⟨_, HCA.out⟩, rfl⟩), ?_⟩
                                                generalize V18.heap.size = F at *
                                                clear hA
                                                exact K14.out A F x5 x6 x7 x8 x9 x10 x11 x12 x13 x14 x15 x16 x17 x18 ⟨⟨HCA.out, HFA.out, HLA.out⟩, HG5.out, HG6.out, HG7.out, HG8.out, HG9.out, HG10.out, HG11.out, HG12.out, HG13.out, HG14.out, HG15.out, HG16.out, HG17.out, HG18.out⟩
                                              go_wp2_with (go_at_call 149; refine (mguess_calls _ p19 (HPB2.out _ (by simp)) (by have := HPL2.out p19 (by simp); omega)).mono ?_; rintro e V19 ⟨x19, rfl, hx19, hg19, hb19⟩)
                                              have HCV19 : Hid (Below U4.heap.size U4 V19) := (HCV18.out).trans (hb19.mono (HCV18.out).size)
                                              have HG19 : Hid (GNum p19 x19) := ⟨hx19, hg19⟩
                                              refine ⟨Or.inr (by intros; exact ⟨⟨_, HCV19.out⟩, rfl⟩), ?_⟩
                                              clear hb19 hg19 hx19
                                              refine mixT_slots [68, 69] (fuel := 2) rfl (by kernel_rfl) (by kernel_rfl) (fun d _ _ _ _ h => by cases d <;> exact h) ?_
                                              simp only [opersAt, List.getElem?_toArray, List.getElem?_cons_zero, List.getElem?_cons_succ]
                                              repeat (go_big_quiet_step (fail))
                                              refine wpQuiet_nil ?_
                                              refine mixT_one (k := 70) (by kernel_rfl) rfl ?_
                                              go_wp2
                                              obtain ⟨A, hA⟩ : ∃ A, A = (V19.alloc (.cells #[.int .u8 0, .int .u32 0, .int .i64 0, .int .u32 0, .int .u32 0, .int .u32 0, .int .u32 0, .int .u32 0, .int .u8 0, .int .u8 0, .int .i64 0, .int .i64 0, .int .i64 0, .int .i64 0, .int .i64 0, .int .i64 0, .slice none 0 0] 53)) := ⟨_, rfl⟩
                                              rw [← hA]
                                              have HCA : Hid (Below U4.heap.size U4 A) := by show Below _ _ _; rw [hA]; exact HCV19.out.alloc HCV19.out.size _
                                              have HFA : Hid (A.heap[V19.heap.size]? = some (.cells #[.int .u8 0, .int .u32 0, .int .i64 0, .int .u32 0, .int .u32 0, .int .u32 0, .int .u32 0, .int .u32 0, .int .u8 0, .int .u8 0, .int .i64 0, .int .i64 0, .int .i64 0, .int .i64 0, .int .i64 0, .int .i64 0, .slice none 0 0] 53 (0, 0))) := by show _ = _; rw [hA]; exact heap_alloc_at V19 _
                                              have HLA : Hid (U4.heap.size ≤ V19.heap.size) := HCV19.out.size
                                              refine ⟨Or.inr (by intros; exact ⟨⟨_, HCA.out⟩, rfl⟩), ?_⟩
                                              generalize V19.heap.size = F at *
                                              clear hA
                                              exact K15.out A F x5 x6 x7 x8 x9 x10 x11 x12 x13 x14 x15 x16 x17 x18 x19 ⟨⟨HCA.out, HFA.out, HLA.out⟩, HG5.out, HG6.out, HG7.out, HG8.out, HG9.out, HG10.out, HG11.out, HG12.out, HG13.out, HG14.out, HG15.out, HG16.out, HG17.out, HG18.out, HG19.out⟩
                                            case k =>
                                              intro W F hC
                                              have hQ := hC
                                              have HCW := hide hQ.bel
                                              have HFW := hide hQ.fl
                                              have HLW := hide hQ.ge
                                              clear hQ hC
                                              refine mixT_one (k := 3) (by kernel_rfl) rfl ?_
                                              go_wp2_with (go_at_call 149; refine (mguess_calls _ p5 (HPB2.out _ (by simp)) (by have := HPL2.out p5 (by simp); omega)).mono ?_; rintro e V ⟨x5, rfl, hx5, hg5, hb5⟩)
                                              have HCV : Hid (Below U4.heap.size U4 V) := (HCW.out).trans (hb5.mono (HCW.out).size)
                                              have HG5 : Hid (GNum p5 x5) := ⟨hx5, hg5⟩
                                              have HFV : Hid (V.heap[F]? = some (.cells #[.int .u8 0, .int .u32 0, .int .i64 0, .int .u32 0, .int .u32 0, .int .u32 0, .int .u32 0, .int .u32 0, .int .u8 0, .int .u8 0, .int .i64 0, .int .i64 0, .int .i64 0, .int .i64 0, .int .i64 0, .int .i64 0, .slice none 0 0] 53 (0, 0))) := (hb5.block _ (blk_lt HFW.out)).trans HFW.out
                                              refine ⟨Or.inr (by intros; exact ⟨⟨_, HCV.out⟩, rfl⟩), ?_⟩
                                              clear hb5 hg5 hx5
                                              refine mixT_slots [4] (fuel := 24) rfl (by kernel_rfl) (by kernel_rfl) (fun d _ _ _ _ h => by cases d <;> exact h) ?_
                                              simp only [opersAt, List.getElem?_toArray, List.getElem?_cons_zero, List.getElem?_cons_succ]
                                              repeat (go_big_quiet_step (fail))
                                              refine wpQuiet_nil ?_
                                              exact K1.out V F x5 ⟨⟨HCV.out, HFV.out, HLW.out⟩, HG5.out⟩
                                          case k =>
                                            intro W F x5 hC
                                            obtain ⟨hQ, g5⟩ := hC
                                            have HCW := hide hQ.bel
                                            have HFW := hide hQ.fl
                                            have HLW := hide hQ.ge
                                            have HG5 := hide g5
                                            clear hQ g5
                                            refine mixT_one (k := 8) (by kernel_rfl) rfl ?_
                                            go_wp2_with (go_at_call 149; refine (mguess_calls _ p6 (HPB2.out _ (by simp)) (by have := HPL2.out p6 (by simp); omega)).mono ?_; rintro e V ⟨x6, rfl, hx6, hg6, hb6⟩)
                                            have HCV : Hid (Below U4.heap.size U4 V) := (HCW.out).trans (hb6.mono (HCW.out).size)
                                            have HG6 : Hid (GNum p6 x6) := ⟨hx6, hg6⟩
                                            have HFV : Hid (V.heap[F]? = some (.cells #[.int .u8 0, .int .u32 0, .int .i64 0, .int .u32 0, .int .u32 0, .int .u32 0, .int .u32 0, .int .u32 0, .int .u8 0, .int .u8 0, .int .i64 0, .int .i64 0, .int .i64 0, .int .i64 0, .int .i64 0, .int .i64 0, .slice none 0 0] 53 (0, 0))) := (hb6.block _ (blk_lt HFW.out)).trans HFW.out
                                            refine ⟨Or.inr (by intros; exact ⟨⟨_, HCV.out⟩, rfl⟩), ?_⟩
                                            clear hb6 hg6 hx6
                                            exact K2.out V F x5 x6 ⟨⟨HCV.out, HFV.out, HLW.out⟩, HG5.out, HG6.out⟩
                                        case k =>
                                          intro W F x5 x6 hC
                                          obtain ⟨hQ, g5, g6⟩ := hC
                                          have HCW := hide hQ.bel
                                          have HFW := hide hQ.fl
                                          have HLW := hide hQ.ge
                                          have HG5 := hide g5
                                          have HG6 := hide g6
                                          clear hQ g5 g6
                                          refine mixT_one (k := 12) (by kernel_rfl) rfl ?_
                                          go_wp2_with (go_at_call 149; refine (mguess_calls _ p7 (HPB2.out _ (by simp)) (by have := HPL2.out p7 (by simp); omega)).mono ?_; rintro e V ⟨x7, rfl, hx7, hg7, hb7⟩)
                                          have HCV : Hid (Below U4.heap.size U4 V) := (HCW.out).trans (hb7.mono (HCW.out).size)
                                          have HG7 : Hid (GNum p7 x7) := ⟨hx7, hg7⟩
                                          have HFV : Hid (V.heap[F]? = some (.cells #[.int .u8 0, .int .u32 0, .int .i64 0, .int .u32 0, .int .u32 0, .int .u32 0, .int .u32 0, .int .u32 0, .int .u8 0, .int .u8 0, .int .i64 0, .int .i64 0, .int .i64 0, .int .i64 0, .int .i64 0, .int .i64 0, .slice none 0 0] 53 (0, 0))) := (hb7.block _ (blk_lt HFW.out)).trans HFW.out
                                          refine ⟨Or.inr (by intros; exact ⟨⟨_, HCV.out⟩, rfl⟩), ?_⟩
                                          clear hb7 hg7 hx7
                                          refine mixT_slots [13] (fuel := 21) rfl (by kernel_rfl) (by kernel_rfl) (fun d _ _ _ _ h => by cases d <;> exact h) ?_
                                          simp only [opersAt, List.getElem?_toArray, List.getElem?_cons_zero, List.getElem?_cons_succ]
                                          repeat (go_big_quiet_step (fail))
                                          refine wpQuiet_nil ?_
                                          exact K3.out V F x5 x6 x7 ⟨⟨HCV.out, HFV.out, HLW.out⟩, HG5.out, HG6.out, HG7.out⟩
                                      case k =>
                                        intro W F x5 x6 x7 hC
                                        obtain ⟨hQ, g5, g6, g7⟩ := hC
                                        have HCW := hide hQ.bel
                                        have HFW := hide hQ.fl
                                        have HLW := hide hQ.ge
                                        have HG5 := hide g5
                                        have HG6 := hide g6
                                        have HG7 := hide g7
                                        clear hQ g5 g6 g7
                                        refine mixT_one (k := 17) (by kernel_rfl) rfl ?_
                                        go_wp2_with (go_at_call 149; refine (mguess_calls _ p8 (HPB2.out _ (by simp)) (by have := HPL2.out p8 (by simp); omega)).mono ?_; rintro e V ⟨x8, rfl, hx8, hg8, hb8⟩)
                                        have HCV : Hid (Below U4.heap.size U4 V) := (HCW.out).trans (hb8.mono (HCW.out).size)
                                        have HG8 : Hid (GNum p8 x8) := ⟨hx8, hg8⟩
                                        have HFV : Hid (V.heap[F]? = some (.cells #[.int .u8 0, .int .u32 0, .int .i64 0, .int .u32 0, .int .u32 0, .int .u32 0, .int .u32 0, .int .u32 0, .int .u8 0, .int .u8 0, .int .i64 0, .int .i64 0, .int .i64 0, .int .i64 0, .int .i64 0, .int .i64 0, .slice none 0 0] 53 (0, 0))) := (hb8.block _ (blk_lt HFW.out)).trans HFW.out
                                        refine ⟨Or.inr (by intros; exact ⟨⟨_, HCV.out⟩, rfl⟩), ?_⟩
                                        clear hb8 hg8 hx8
                                        refine mixT_slots [18] (fuel := 19) rfl (by kernel_rfl) (by kernel_rfl) (fun d _ _ _ _ h => by cases d <;> exact h) ?_
                                        simp only [opersAt, List.getElem?_toArray, List.getElem?_cons_zero, List.getElem?_cons_succ]
                                        repeat (go_big_quiet_step (fail))
                                        refine wpQuiet_nil ?_
                                        exact K4.out V F x5 x6 x7 x8 ⟨⟨HCV.out, HFV.out, HLW.out⟩, HG5.out, HG6.out, HG7.out, HG8.out⟩
                                    case k =>
                                      intro W F x5 x6 x7 x8 hC
                                      obtain ⟨hQ, g5, g6, g7, g8⟩ := hC
                                      have HCW := hide hQ.bel
                                      have HFW := hide hQ.fl
                                      have HLW := hide hQ.ge
                                      have HG5 := hide g5
                                      have HG6 := hide g6
                                      have HG7 := hide g7
                                      have HG8 := hide g8
                                      clear hQ g5 g6 g7 g8
                                      refine mixT_one (k := 22) (by kernel_rfl) rfl ?_
                                      go_wp2_with (go_at_call 149; refine (mguess_calls _ p9 (HPB2.out _ (by simp)) (by have := HPL2.out p9 (by simp); omega)).mono ?_; rintro e V ⟨x9, rfl, hx9, hg9, hb9⟩)
                                      have HCV : Hid (Below U4.heap.size U4 V) := (HCW.out).trans (hb9.mono (HCW.out).size)
                                      have HG9 : Hid (GNum p9 x9) := ⟨hx9, hg9⟩
                                      have HFV : Hid (V.heap[F]? = some (.cells #[.int .u8 0, .int .u32 0, .int .i64 0, .int .u32 0, .int .u32 0, .int .u32 0, .int .u32 0, .int .u32 0, .int .u8 0, .int .u8 0, .int .i64 0, .int .i64 0, .int .i64 0, .int .i64 0, .int .i64 0, .int .i64 0, .slice none 0 0] 53 (0, 0))) := (hb9.block _ (blk_lt HFW.out)).trans HFW.out
                                      refine ⟨Or.inr (by intros; exact ⟨⟨_, HCV.out⟩, rfl⟩), ?_⟩
                                      clear hb9 hg9 hx9
                                      refine mixT_slots [23] (fuel := 17) rfl (by kernel_rfl) (by kernel_rfl) (fun d _ _ _ _ h => by cases d <;> exact h) ?_
                                      simp only [opersAt, List.getElem?_toArray, List.getElem?_cons_zero, List.getElem?_cons_succ]
                                      repeat (go_big_quiet_step (fail))
                                      refine wpQuiet_nil ?_
                                      exact K5.out V F x5 x6 x7 x8 x9 ⟨⟨HCV.out, HFV.out, HLW.out⟩, HG5.out, HG6.out, HG7.out, HG8.out, HG9.out⟩
                                  case k =>
                                    intro W F x5 x6 x7 x8 x9 hC
                                    obtain ⟨hQ, g5, g6, g7, g8, g9⟩ := hC
                                    have HCW := hide hQ.bel
                                    have HFW := hide hQ.fl
                                    have HLW := hide hQ.ge
                                    have HG5 := hide g5
                                    have HG6 := hide g6
                                    have HG7 := hide g7
                                    have HG8 := hide g8
                                    have HG9 := hide g9
                                    clear hQ g5 g6 g7 g8 g9
                                    refine mixT_one (k := 27) (by kernel_rfl) rfl ?_
                                    go_wp2_with (go_at_call 149; refine (mguess_calls _ p10 (HPB2.out _ (by simp)) (by have := HPL2.out p10 (by simp); omega)).mono ?_; rintro e V ⟨x10, rfl, hx10, hg10, hb10⟩)
                                    have HCV : Hid (Below U4.heap.size U4 V) := (HCW.out).trans (hb10.mono (HCW.out).size)
                                    have HG10 : Hid (GNum p10 x10) := ⟨hx10, hg10⟩
                                    have HFV : Hid (V.heap[F]? = some (.cells #[.int .u8 0, .int .u32 0, .int .i64 0, .int .u32 0, .int .u32 0, .int .u32 0, .int .u32 0, .int .u32 0, .int .u8 0, .int .u8 0, .int .i64 0, .int .i64 0, .int .i64 0, .int .i64 0, .int .i64 0, .int .i64 0, .slice none 0 0] 53 (0, 0))) := (hb10.block _ (blk_lt HFW.out)).trans HFW.out
                                    refine ⟨Or.inr (by intros; exact ⟨⟨_, HCV.out⟩, rfl⟩), ?_⟩
                                    clear hb10 hg10 hx10
                                    refine mixT_slots [28] (fuel := 15) rfl (by kernel_rfl) (by kernel_rfl) (fun d _ _ _ _ h => by cases d <;> exact h) ?_
                                    simp only [opersAt, List.getElem?_toArray, List.getElem?_cons_zero, List.getElem?_cons_succ]
                                    repeat (go_big_quiet_step (fail))
                                    refine wpQuiet_nil ?_
                                    exact K6.out V F x5 x6 x7 x8 x9 x10 ⟨⟨HCV.out, HFV.out, HLW.out⟩, HG5.out, HG6.out, HG7.out, HG8.out, HG9.out, HG10.out⟩
                                case k =>
                                  intro W F x5 x6 x7 x8 x9 x10 hC
                                  obtain ⟨hQ, g5, g6, g7, g8, g9, g10⟩ := hC
                                  have HCW := hide hQ.bel
                                  have HFW := hide hQ.fl
                                  have HLW := hide hQ.ge
                                  have HG5 := hide g5
                                  have HG6 := hide g6
                                  have HG7 := hide g7
                                  have HG8 := hide g8
                                  have HG9 := hide g9
                                  have HG10 := hide g10
                                  clear hQ g5 g6 g7 g8 g9 g10
                                  refine mixT_one (k := 32) (by kernel_rfl) rfl ?_
                                  go_wp2_with (go_at_call 149; refine (mguess_calls _ p11 (HPB2.out _ (by simp)) (by have := HPL2.out p11 (by simp); omega)).mono ?_; rintro e V ⟨x11, rfl, hx11, hg11, hb11⟩)
                                  have HCV : Hid (Below U4.heap.size U4 V) := (HCW.out).trans (hb11.mono (HCW.out).size)
                                  have HG11 : Hid (GNum p11 x11) := ⟨hx11, hg11⟩
                                  have HFV : Hid (V.heap[F]? = some (.cells #[.int .u8 0, .int .u32 0, .int .i64 0, .int .u32 0, .int .u32 0, .int .u32 0, .int .u32 0, .int .u32 0, .int .u8 0, .int .u8 0, .int .i64 0, .int .i64 0, .int .i64 0, .int .i64 0, .int .i64 0, .int .i64 0, .slice none 0 0] 53 (0, 0))) := (hb11.block _ (blk_lt HFW.out)).trans HFW.out
                                  refine ⟨Or.inr (by intros; exact ⟨⟨_, HCV.out⟩, rfl⟩), ?_⟩
                                  clear hb11 hg11 hx11
                                  refine mixT_slots [33] (fuel := 13) rfl (by kernel_rfl) (by kernel_rfl) (fun d _ _ _ _ h => by cases d <;> exact h) ?_
                                  simp only [opersAt, List.getElem?_toArray, List.getElem?_cons_zero, List.getElem?_cons_succ]
                                  repeat (go_big_quiet_step (fail))
                                  refine wpQuiet_nil ?_
                                  exact K7.out V F x5 x6 x7 x8 x9 x10 x11 ⟨⟨HCV.out, HFV.out, HLW.out⟩, HG5.out, HG6.out, HG7.out, HG8.out, HG9.out, HG10.out, HG11.out⟩
                              case k =>
                                intro W F x5 x6 x7 x8 x9 x10 x11 hC
                                obtain ⟨hQ, g5, g6, g7, g8, g9, g10, g11⟩ := hC
                                have HCW := hide hQ.bel
                                have HFW := hide hQ.fl
                                have HLW := hide hQ.ge
                                have HG5 := hide g5
                                have HG6 := hide g6
                                have HG7 := hide g7
                                have HG8 := hide g8
                                have HG9 := hide g9
                                have HG10 := hide g10
                                have HG11 := hide g11
                                clear hQ g5 g6 g7 g8 g9 g10 g11
                                refine mixT_one (k := 37) (by kernel_rfl) rfl ?_
                                go_wp2_with (go_at_call 149; refine (mguess_calls _ p12 (HPB2.out _ (by simp)) (by have := HPL2.out p12 (by simp); omega)).mono ?_; rintro e V ⟨x12, rfl, hx12, hg12, hb12⟩)
                                have HCV : Hid (Below U4.heap.size U4 V) := (HCW.out).trans (hb12.mono (HCW.out).size)
                                have HG12 : Hid (GNum p12 x12) := ⟨hx12, hg12⟩
                                have HFV : Hid (V.heap[F]? = some (.cells #[.int .u8 0, .int .u32 0, .int .i64 0, .int .u32 0, .int .u32 0, .int .u32 0, .int .u32 0, .int .u32 0, .int .u8 0, .int .u8 0, .int .i64 0, .int .i64 0, .int .i64 0, .int .i64 0, .int .i64 0, .int .i64 0, .slice none 0 0] 53 (0, 0))) := (hb12.block _ (blk_lt HFW.out)).trans HFW.out
                                refine ⟨Or.inr (by intros; exact ⟨⟨_, HCV.out⟩, rfl⟩), ?_⟩
                                clear hb12 hg12 hx12
                                refine mixT_slots [38] (fuel := 11) rfl (by kernel_rfl) (by kernel_rfl) (fun d _ _ _ _ h => by cases d <;> exact h) ?_
                                simp only [opersAt, List.getElem?_toArray, List.getElem?_cons_zero, List.getElem?_cons_succ]
                                repeat (go_big_quiet_step (fail))
                                refine wpQuiet_nil ?_
                                exact K8.out V F x5 x6 x7 x8 x9 x10 x11 x12 ⟨⟨HCV.out, HFV.out, HLW.out⟩, HG5.out, HG6.out, HG7.out, HG8.out, HG9.out, HG10.out, HG11.out, HG12.out⟩
                            case k =>
                              intro W F x5 x6 x7 x8 x9 x10 x11 x12 hC
                              obtain ⟨hQ, g5, g6, g7, g8, g9, g10, g11, g12⟩ := hC
                              have HCW := hide hQ.bel
                              have HFW := hide hQ.fl
                              have HLW := hide hQ.ge
                              have HG5 := hide g5
                              have HG6 := hide g6
                              have HG7 := hide g7
                              have HG8 := hide g8
                              have HG9 := hide g9
                              have HG10 := hide g10
                              have HG11 := hide g11
                              have HG12 := hide g12
                              clear hQ g5 g6 g7 g8 g9 g10 g11 g12
                              refine mixT_one (k := 42) (by kernel_rfl) rfl ?_
                              go_wp2_with (go_at_call 149; refine (mguess_calls _ p13 (HPB2.out _ (by simp)) (by have := HPL2.out p13 (by simp); omega)).mono ?_; rintro e V ⟨x13, rfl, hx13, hg13, hb13⟩)
                              have HCV : Hid (Below U4.heap.size U4 V) := (HCW.out).trans (hb13.mono (HCW.out).size)
                              have HG13 : Hid (GNum p13 x13) := ⟨hx13, hg13⟩
                              have HFV : Hid (V.heap[F]? = some (.cells #[.int .u8 0, .int .u32 0, .int .i64 0, .int .u32 0, .int .u32 0, .int .u32 0, .int .u32 0, .int .u32 0, .int .u8 0, .int .u8 0, .int .i64 0, .int .i64 0, .int .i64 0, .int .i64 0, .int .i64 0, .int .i64 0, .slice none 0 0] 53 (0, 0))) := (hb13.block _ (blk_lt HFW.out)).trans HFW.out
                              refine ⟨Or.inr (by intros; exact ⟨⟨_, HCV.out⟩, rfl⟩), ?_⟩
                              clear hb13 hg13 hx13
                              refine mixT_slots [43] (fuel := 9) rfl (by kernel_rfl) (by kernel_rfl) (fun d _ _ _ _ h => by cases d <;> exact h) ?_
                              simp only [opersAt, List.getElem?_toArray, List.getElem?_cons_zero, List.getElem?_cons_succ]
                              repeat (go_big_quiet_step (fail))
                              refine wpQuiet_nil ?_
                              exact K9.out V F x5 x6 x7 x8 x9 x10 x11 x12 x13 ⟨⟨HCV.out, HFV.out, HLW.out⟩, HG5.out, HG6.out, HG7.out, HG8.out, HG9.out, HG10.out, HG11.out, HG12.out, HG13.out⟩
                          case k =>
                            intro W F x5 x6 x7 x8 x9 x10 x11 x12 x13 hC
                            obtain ⟨hQ, g5, g6, g7, g8, g9, g10, g11, g12, g13⟩ := hC
                            have HCW := hide hQ.bel
                            have HFW := hide hQ.fl
                            have HLW := hide hQ.ge
                            have HG5 := hide g5
                            have HG6 := hide g6
                            have HG7 := hide g7
                            have HG8 := hide g8
                            have HG9 := hide g9
                            have HG10 := hide g10
                            have HG11 := hide g11
                            have HG12 := hide g12
                            have HG13 := hide g13
                            clear hQ g5 g6 g7 g8 g9 g10 g11 g12 g13
                            refine mixT_one (k := 47) (by kernel_rfl) rfl ?_
                            go_wp2_with (go_at_call 149; refine (mguess_calls _ p14 (HPB2.out _ (by simp)) (by have := HPL2.out p14 (by simp); omega)).mono ?_; rintro e V ⟨x14, rfl, hx14, hg14, hb14⟩)
                            have HCV : Hid (Below U4.heap.size U4 V) := (HCW.out).trans (hb14.mono (HCW.out).size)
                            have HG14 : Hid (GNum p14 x14) := ⟨hx14, hg14⟩
                            have HFV : Hid (V.heap[F]? = some (.cells #[.int .u8 0, .int .u32 0, .int .i64 0, .int .u32 0, .int .u32 0, .int .u32 0, .int .u32 0, .int .u32 0, .int .u8 0, .int .u8 0, .int .i64 0, .int .i64 0, .int .i64 0, .int .i64 0, .int .i64 0, .int .i64 0, .slice none 0 0] 53 (0, 0))) := (hb14.block _ (blk_lt HFW.out)).trans HFW.out
                            refine ⟨Or.inr (by intros; exact ⟨⟨_, HCV.out⟩, rfl⟩), ?_⟩
                            clear hb14 hg14 hx14
                            exact K10.out V F x5 x6 x7 x8 x9 x10 x11 x12 x13 x14 ⟨⟨HCV.out, HFV.out, HLW.out⟩, HG5.out, HG6.out, HG7.out, HG8.out, HG9.out, HG10.out, HG11.out, HG12.out, HG13.out, HG14.out⟩
                        case k =>
                          intro W F x5 x6 x7 x8 x9 x10 x11 x12 x13 x14 hC
                          obtain ⟨hQ, g5, g6, g7, g8, g9, g10, g11, g12, g13, g14⟩ := hC
                          have HCW := hide hQ.bel
                          have HFW := hide hQ.fl
                          have HLW := hide hQ.ge
                          have HG5 := hide g5
                          have HG6 := hide g6
                          have HG7 := hide g7
                          have HG8 := hide g8
                          have HG9 := hide g9
                          have HG10 := hide g10
                          have HG11 := hide g11
                          have HG12 := hide g12
                          have HG13 := hide g13
                          have HG14 := hide g14
                          clear hQ g5 g6 g7 g8 g9 g10 g11 g12 g13 g14
                          refine mixT_one (k := 51) (by kernel_rfl) rfl ?_
                          go_wp2_with (go_at_call 149; refine (mguess_calls _ p15 (HPB2.out _ (by simp)) (by have := HPL2.out p15 (by simp); omega)).mono ?_; rintro e V ⟨x15, rfl, hx15, hg15, hb15⟩)
                          have HCV : Hid (Below U4.heap.size U4 V) := (HCW.out).trans (hb15.mono (HCW.out).size)
                          have HG15 : Hid (GNum p15 x15) := ⟨hx15, hg15⟩
                          have HFV : Hid (V.heap[F]? = some (.cells #[.int .u8 0, .int .u32 0, .int .i64 0, .int .u32 0, .int .u32 0, .int .u32 0, .int .u32 0, .int .u32 0, .int .u8 0, .int .u8 0, .int .i64 0, .int .i64 0, .int .i64 0, .int .i64 0, .int .i64 0, .int .i64 0, .slice none 0 0] 53 (0, 0))) := (hb15.block _ (blk_lt HFW.out)).trans HFW.out
                          refine ⟨Or.inr (by intros; exact ⟨⟨_, HCV.out⟩, rfl⟩), ?_⟩
                          clear hb15 hg15 hx15
                          exact K11.out V F x5 x6 x7 x8 x9 x10 x11 x12 x13 x14 x15 ⟨⟨HCV.out, HFV.out, HLW.out⟩, HG5.out, HG6.out, HG7.out, HG8.out, HG9.out, HG10.out, HG11.out, HG12.out, HG13.out, HG14.out, HG15.out⟩
                      case k =>
                        intro W F x5 x6 x7 x8 x9 x10 x11 x12 x13 x14 x15 hC
                        obtain ⟨hQ, g5, g6, g7, g8, g9, g10, g11, g12, g13, g14, g15⟩ := hC
                        have HCW := hide hQ.bel
                        have HFW := hide hQ.fl
                        have HLW := hide hQ.ge
                        have HG5 := hide g5
                        have HG6 := hide g6
                        have HG7 := hide g7
                        have HG8 := hide g8
                        have HG9 := hide g9
                        have HG10 := hide g10
                        have HG11 := hide g11
                        have HG12 := hide g12
                        have HG13 := hide g13
                        have HG14 := hide g14
                        have HG15 := hide g15
                        clear hQ g5 g6 g7 g8 g9 g10 g11 g12 g13 g14 g15
                        refine mixT_one (k := 55) (by kernel_rfl) rfl ?_
                        go_wp2_with (go_at_call 149; refine (mguess_calls _ p16 (HPB2.out _ (by simp)) (by have := HPL2.out p16 (by simp); omega)).mono ?_; rintro e V ⟨x16, rfl, hx16, hg16, hb16⟩)
                        have HCV : Hid (Below U4.heap.size U4 V) := (HCW.out).trans (hb16.mono (HCW.out).size)
                        have HG16 : Hid (GNum p16 x16) := ⟨hx16, hg16⟩
                        have HFV : Hid (V.heap[F]? = some (.cells #[.int .u8 0, .int .u32 0, .int .i64 0, .int .u32 0, .int .u32 0, .int .u32 0, .int .u32 0, .int .u32 0, .int .u8 0, .int .u8 0, .int .i64 0, .int .i64 0, .int .i64 0, .int .i64 0, .int .i64 0, .int .i64 0, .slice none 0 0] 53 (0, 0))) := (hb16.block _ (blk_lt HFW.out)).trans HFW.out
                        refine ⟨Or.inr (by intros; exact ⟨⟨_, HCV.out⟩, rfl⟩), ?_⟩
                        clear hb16 hg16 hx16
                        exact K12.out V F x5 x6 x7 x8 x9 x10 x11 x12 x13 x14 x15 x16 ⟨⟨HCV.out, HFV.out, HLW.out⟩, HG5.out, HG6.out, HG7.out, HG8.out, HG9.out, HG10.out, HG11.out, HG12.out, HG13.out, HG14.out, HG15.out, HG16.out⟩
                    case k =>
                      intro W F x5 x6 x7 x8 x9 x10 x11 x12 x13 x14 x15 x16 hC
                      obtain ⟨hQ, g5, g6, g7, g8, g9, g10, g11, g12, g13, g14, g15, g16⟩ := hC
                      have HCW := hide hQ.bel
                      have HFW := hide hQ.fl
                      have HLW := hide hQ.ge
                      have HG5 := hide g5
                      have HG6 := hide g6
                      have HG7 := hide g7
                      have HG8 := hide g8
                      have HG9 := hide g9
                      have HG10 := hide g10
                      have HG11 := hide g11
                      have HG12 := hide g12
                      have HG13 := hide g13
                      have HG14 := hide g14
                      have HG15 := hide g15
                      have HG16 := hide g16
                      clear hQ g5 g6 g7 g8 g9 g10 g11 g12 g13 g14 g15 g16
                      refine mixT_one (k := 59) (by kernel_rfl) rfl ?_
                      go_wp2_with (go_at_call 149; refine (mguess_calls _ p17 (HPB2.out _ (by simp)) (by have := HPL2.out p17 (by simp); omega)).mono ?_; rintro e V ⟨x17, rfl, hx17, hg17, hb17⟩)
                      have HCV : Hid (Below U4.heap.size U4 V) := (HCW.out).trans (hb17.mono (HCW.out).size)
                      have HG17 : Hid (GNum p17 x17) := ⟨hx17, hg17⟩
                      have HFV : Hid (V.heap[F]? = some (.cells #[.int .u8 0, .int .u32 0, .int .i64 0, .int .u32 0, .int .u32 0, .int .u32 0, .int .u32 0, .int .u32 0, .int .u8 0, .int .u8 0, .int .i64 0, .int .i64 0, .int .i64 0, .int .i64 0, .int .i64 0, .int .i64 0, .slice none 0 0] 53 (0, 0))) := (hb17.block _ (blk_lt HFW.out)).trans HFW.out
                      refine ⟨Or.inr (by intros; exact ⟨⟨_, HCV.out⟩, rfl⟩), ?_⟩
                      clear hb17 hg17 hx17
                      exact K13.out V F x5 x6 x7 x8 x9 x10 x11 x12 x13 x14 x15 x16 x17 ⟨⟨HCV.out, HFV.out, HLW.out⟩, HG5.out, HG6.out, HG7.out, HG8.out, HG9.out, HG10.out, HG11.out, HG12.out, HG13.out, HG14.out, HG15.out, HG16.out, HG17.out⟩
                  case k =>
                    intro W F x5 x6 x7 x8 x9 x10 x11 x12 x13 x14 x15 x16 x17 hC
                    obtain ⟨hQ, g5, g6, g7, g8, g9, g10, g11, g12, g13, g14, g15, g16, g17⟩ := hC
                    have HCW := hide hQ.bel
                    have HFW := hide hQ.fl
                    have HLW := hide hQ.ge
                    have HG5 := hide g5
                    have HG6 := hide g6
                    have HG7 := hide g7
                    have HG8 := hide g8
                    have HG9 := hide g9
                    have HG10 := hide g10
                    have HG11 := hide g11
                    have HG12 := hide g12
                    have HG13 := hide g13
                    have HG14 := hide g14
                    have HG15 := hide g15
                    have HG16 := hide g16
                    have HG17 := hide g17
                    clear hQ g5 g6 g7 g8 g9 g10 g11 g12 g13 g14 g15 g16 g17
                    refine mixT_one (k := 63) (by kernel_rfl) rfl ?_
                    go_wp2_with (go_at_call 149; refine (mguess_calls _ p18 (HPB2.out _ (by simp)) (by have := HPL2.out p18 (by simp); omega)).mono ?_; rintro e V ⟨x18, rfl, hx18, hg18, hb18⟩)
                    have HCV : Hid (Below U4.heap.size U4 V) := (HCW.out).trans (hb18.mono (HCW.out).size)
                    have HG18 : Hid (GNum p18 x18) := ⟨hx18, hg18⟩
                    have HFV : Hid (V.heap[F]? = some (.cells #[.int .u8 0, .int .u32 0, .int .i64 0, .int .u32 0, .int .u32 0, .int .u32 0, .int .u32 0, .int .u32 0, .int .u8 0, .int .u8 0, .int .i64 0, .int .i64 0, .int .i64 0, .int .i64 0, .int .i64 0, .int .i64 0, .slice none 0 0] 53 (0, 0))) := (hb18.block _ (blk_lt HFW.out)).trans HFW.out
                    refine ⟨Or.inr (by intros; exact ⟨⟨_, HCV.out⟩, rfl⟩), ?_⟩
                    clear hb18 hg18 hx18
                    exact K14.out V F x5 x6 x7 x8 x9 x10 x11 x12 x13 x14 x15 x16 x17 x18 ⟨⟨HCV.out, HFV.out, HLW.out⟩, HG5.out, HG6.out, HG7.out, HG8.out, HG9.out, HG10.out, HG11.out, HG12.out, HG13.out, HG14.out, HG15.out, HG16.out, HG17.out, HG18.out⟩
                case k =>
                  intro W F x5 x6 x7 x8 x9 x10 x11 x12 x13 x14 x15 x16 x17 x18 hC
                  obtain ⟨hQ, g5, g6, g7, g8, g9, g10, g11, g12, g13, g14, g15, g16, g17, g18⟩ := hC
                  have HCW := hide hQ.bel
                  have HFW := hide hQ.fl
                  have HLW := hide hQ.ge
                  have HG5 := hide g5
                  have HG6 := hide g6
                  have HG7 := hide g7
                  have HG8 := hide g8
                  have HG9 := hide g9
                  have HG10 := hide g10
                  have HG11 := hide g11
                  have HG12 := hide g12
                  have HG13 := hide g13
                  have HG14 := hide g14
                  have HG15 := hide g15
                  have HG16 := hide g16
                  have HG17 := hide g17
                  have HG18 := hide g18
                  clear hQ g5 g6 g7 g8 g9 g10 g11 g12 g13 g14 g15 g16 g17 g18
                  refine mixT_one (k := 67) (by kernel_rfl) rfl ?_
                  go_wp2_with (go_at_call 149; refine (mguess_calls _ p19 (HPB2.out _ (by simp)) (by have := HPL2.out p19 (by simp); omega)).mono ?_; rintro e V ⟨x19, rfl, hx19, hg19, hb19⟩)
                  have HCV : Hid (Below U4.heap.size U4 V) := (HCW.out).trans (hb19.mono (HCW.out).size)
                  have HG19 : Hid (GNum p19 x19) := ⟨hx19, hg19⟩
                  have HFV : Hid (V.heap[F]? = some (.cells #[.int .u8 0, .int .u32 0, .int .i64 0, .int .u32 0, .int .u32 0, .int .u32 0, .int .u32 0, .int .u32 0, .int .u8 0, .int .u8 0, .int .i64 0, .int .i64 0, .int .i64 0, .int .i64 0, .int .i64 0, .int .i64 0, .slice none 0 0] 53 (0, 0))) := (hb19.block _ (blk_lt HFW.out)).trans HFW.out
                  refine ⟨Or.inr (by intros; exact ⟨⟨_, HCV.out⟩, rfl⟩), ?_⟩
                  clear hb19 hg19 hx19
                  refine mixT_slots [68, 69] (fuel := 1) rfl (by kernel_rfl) (by kernel_rfl) (fun d _ _ _ _ h => by cases d <;> exact h) ?_
                  simp only [opersAt, List.getElem?_toArray, List.getElem?_cons_zero, List.getElem?_cons_succ]
                  repeat (go_big_quiet_step (fail))
                  refine wpQuiet_nil ?_
                  exact K15.out V F x5 x6 x7 x8 x9 x10 x11 x12 x13 x14 x15 x16 x17 x18 x19 ⟨⟨HCV.out, HFV.out, HLW.out⟩, HG5.out, HG6.out, HG7.out, HG8.out, HG9.out, HG10.out, HG11.out, HG12.out, HG13.out, HG14.out, HG15.out, HG16.out, HG17.out, HG18.out, HG19.out⟩
              case k =>
                intro W F x5 x6 x7 x8 x9 x10 x11 x12 x13 x14 x15 x16 x17 x18 x19 hC
                obtain ⟨hQ, g5, g6, g7, g8, g9, g10, g11, g12, g13, g14, g15, g16, g17, g18, g19⟩ := hC
                have HCW := hide hQ.bel
                have HFW := hide hQ.fl
                have HLW := hide hQ.ge
                have HG5 := hide g5
                have HG6 := hide g6
                have HG7 := hide g7
                have HG8 := hide g8
                have HG9 := hide g9
                have HG10 := hide g10
                have HG11 := hide g11
                have HG12 := hide g12
                have HG13 := hide g13
                have HG14 := hide g14
                have HG15 := hide g15
                have HG16 := hide g16
                have HG17 := hide g17
                have HG18 := hide g18
                have HG19 := hide g19
                clear hQ g5 g6 g7 g8 g9 g10 g11 g12 g13 g14 g15 g16 g17 g18 g19
                refine mixT_one (k := 71) (by kernel_rfl) rfl ?_
                have hwh : whole W F 17 = true := by unfold whole; rw [HFW.out]; rfl
                have hzF := blk_lt HFW.out
                go_wp2
                refine ⟨Or.inl (by kernel_rfl), ?_⟩
                refine mixT_nil (by kernel_rfl) ?_
                go_wp2
                go_meet
                case rel =>
                  exact ⟨F, ⟨0, x5 % 4294967296, x6, x7 % 4294967296, x8 % 4294967296, x9 % 4294967296, x10 % 4294967296, x11 % 4294967296, x12 % 256, x13 % 256, x14, x15, x16, x17, x18, x19, []⟩, rfl, HLW, ⟨x5, x6, x7, x8, x9, x10, x11, x12, x13, x14, x15, x16, x17, x18, x19, rfl, HG5.out, HG6.out, HG7.out, HG8.out, HG9.out, HG10.out, HG11.out, HG12.out, HG13.out, HG14.out, HG15.out, HG16.out, HG17.out, HG18.out, HG19.out⟩, heap_setRow_at HFW.out, HCW.out.trans ⟨rfl, rfl, rfl, by simp, fun q hq => setRow_other _ _ _ _ (by have := HLW.out; omega)⟩⟩
          case rest =>
          obtain ⟨Q, rq, rfl, HLQ4, HRQ, HKQ1, HBQ4⟩ := hcut
          have hQ4 := HLQ4.out
          have hEz := blk_lt HKE.out
          have hEQ : E < Q := by omega
          have HBQ : Hid (Below X.heap.size X wc) := HB4.out.trans (HBQ4.out.mono HB4.out.size)
          have HKE2 : Hid (wc.heap[E]? = some (.cells (entA ⟨x1 % 4294967296, rv, x3 % 4294967296, zeroReq⟩ (.slice none 0 0)) 67 (0, 0))) := (HBQ4.out.block _ hEz).trans HKE.out
          have HKQ : Hid (wc.heap[Q]? = some (.cells (reqA { rq with kind := 0 } (.slice none 0 0)) 53 (0, 0))) := by
            show _ = _
            rw [HKQ1.out]
            obtain ⟨_, _, _, _, _, _, _, _, _, _, _, _, _, _, _, e, -⟩ := HRQ.out
            rw [e]
          have hXQ : X.heap.size ≤ Q := by have := HB4.out.size; omega
          clear HKE HKQ1 HBQ4 HB4 hp4 hEz
          have HKE := HKE2
          clear HKE2
          go_upto_region 19 with fail
          go_loopg [12] 20 (fun gk j W => ∃ (r : Nat) (kv : Int), 1 ≤ r ∧ r ≤ 21 ∧ gk = 21 - r ∧ j = .int .u8 r ∧ Hid (NmV kn (r - 1) p4 kv) ∧ Hid (W.heap[Q]? = some (.cells (reqA { rq with kind := kv } (.slice none 0 0)) 53 (0, 0))) ∧ Hid (Below X.heap.size X W) ∧ Hid (W.heap[E]? = some (.cells (entA ⟨x1 % 4294967296, rv, x3 % 4294967296, zeroReq⟩ (.slice none 0 0)) 67 (0, 0))))
          case atStart => exact ⟨1, 0, by omega, by omega, by omega, rfl, Or.inl ⟨rfl, fun k h1 h2 => by omega⟩, HKQ, HBQ, HKE⟩
          clear HKQ HBQ HKE
          case round =>
            obtain ⟨r, kv, hr1, hr2, rfl, rfl, HNv, HKv, HBv, HKe⟩ := hrel
            by_cases hltr : r < 21
            · as_aux_lemma =>
              have hle := blk_lt HKv.out
              have hpx : pg < wr.heap.size := by have := HBv.out.size; omega
              have dd : wr.cell? ⟨pg, 4, none⟩ = some (.string (strOfNums p4)) := (HBv.out.cell (p := ⟨pg, 4, none⟩) hpg2).trans d4
              obtain ⟨S, hS⟩ : ∃ S, S = kn r := ⟨_, rfl⟩
              have HCS : Hid (∀ x : Ext wr.heap.size wr, Calls Tryz.prog 138 #[.int .u8 r] x.world fun e w' => e = .returned (.string S) ∧ Below x.world.heap.size x.world w') := fun x => by
                have := kindStr_calls x.world rn kn ft (r : Int) (HNM.out x.world (HBv.out.trans (x.below.mono HBv.out.size))) ⟨by omega, by omega⟩
                rw [nmOf_in (by omega), ← hS] at this
                exact this.mono fun _ _ ⟨h1, h2⟩ => ⟨h1, by rw [h2]; exact Below.refl _ _⟩
              obtain ⟨t, ht⟩ : ∃ t : Bool, t = (S.toList == (strOfNums p4).toList) := ⟨_, rfl⟩
              have HEQ : Hid (t = true ↔ strB (kn r) = p4) := by show _ ↔ _; rw [ht, hS]; exact nm_eq (HPB2.out p4 (by simp))
              have HTE := hide ht
              have hrb : decide ((r : Int) ≤ 20) = true := by simp; omega
              clear hS ht
              go_upto_region 21 with fail
              go_cut [140] (fun v W => v = .bool t ∧ Hid (Below wr.heap.size wr W))
              case first =>
                as_aux_lemma =>
                  refine wp_region_ext wr.heap.size (by kernel_rfl) (by kernel_rfl) ?_
                  repeat (go_big_quiet_step ((go_at_call 138; refine ext_call (Nat.le_refl _) (HCS.out _))))
                  refine wpQuiet_nil ?_
                  intro _ hw'
                  obtain ⟨x, hw2⟩ := hw'
                  subst hw2
                  go_wp2
                  go_meet
                  case rel => exact ⟨by rw [HTE.out], x.below⟩
              case rest =>
              obtain ⟨rfl, HBw⟩ := hcut
              clear HCS HTE dd
              cases t with
              | true =>
                have HE := hide (HEQ.out.1 rfl)
                clear HEQ
                have HKw : Hid (wc.heap[Q]? = some (.cells (reqA { rq with kind := kv } (.slice none 0 0)) 53 (0, 0))) := (HBw.out.block _ hle).trans HKv.out
                have hlw := blk_lt HKw.out
                have hcc : wc.cell? ⟨Q, 0, none⟩ = some (.int .u8 kv) := cells_all HKw.out 0
                have hfz : wc.frozen? ⟨Q, 0, none⟩ = false := by simp [World.frozen?, HKw.out]
                have HBX : Hid (Below X.heap.size X wc) := HBv.out.trans (HBw.out.mono HBv.out.size)
                go_wp2
                go_roundg (21 - (r + 1))
                case measure => omega
                case rel => exact ⟨r + 1, r, by omega, by omega, rfl, by go_num, Or.inr ⟨r, hr1, by omega, HE.out, rfl⟩, heap_set3 (j := 0) (v := .int .u8 r) HKw.out, HBX.out.setCell (p := ⟨Q, 0, none⟩) (by show X.heap.size ≤ Q; omega) _, (Below.heap_setCell _ _ _ _ (by show E ≠ Q; omega)).trans ((HBw.out.block _ (blk_lt HKe.out)).trans HKe.out)⟩
              | false =>
                have HNe : Hid (strB (kn r) ≠ p4) := fun e => by have := HEQ.out.2 e; cases this
                clear HEQ
                go_wp2
                go_roundg (21 - (r + 1))
                case measure => omega
                case rel =>
                  refine ⟨r + 1, kv, by omega, by omega, rfl, by go_num, ?_, (HBw.out.block _ hle).trans HKv.out, HBv.out.trans (HBw.out.mono HBv.out.size), (HBw.out.block _ (blk_lt HKe.out)).trans HKe.out⟩
                  rcases HNv.out with ⟨h1, h2⟩ | ⟨k, h1, h2, h3, h4⟩
                  · exact Or.inl ⟨h1, fun k k1 k2 => by by_cases e : k = r; (subst e; exact HNe.out); exact h2 k k1 (by omega)⟩
                  · exact Or.inr ⟨k, h1, by omega, h3, h4⟩
            · obtain rfl : r = 21 := by omega
              have hrb : decide ((21 : Int) ≤ 20) = false := by decide
              generalize wr = W5 at *
              have HNK := HNv
              have HK5 := HKv
              have HE5 := HKe
              have HB5 := HBv
              clear HNv HKv HBv HKe hltr hr1 hr2
              have hp5 : pg < W5.heap.size := by have := HB5.out.size; omega
              have d20' : W5.cell? ⟨pg, 20, none⟩ = some (.string (strOfNums p20)) := (HB5.out.cell (p := ⟨pg, 20, none⟩) hpg2).trans d20
              clear d1 d2 d3 d4 d5 d6 d7 d8 d9 d10 d11 d12 d13 d14 d15 d16 d17 d18 d19 d20
              obtain ⟨t45, ht45⟩ : ∃ t45 : Bool, t45 = !((strOfNums p20).toList == (strOfNums [45]).toList) := ⟨_, rfl⟩
              have HT45 := hide ht45
              clear ht45
              go_upto_region 23 with fail
              go_cut [146] (fun v W => v = .bool t45 ∧ W5 = W)
              case first =>
                as_aux_lemma =>
                  go_wp2
                  go_meet
                  case rel => exact ⟨by rw [HT45.out, show (strOfNums [45]).toList = [45] from (strNums_inj (l := [45])).trans rfl], rfl⟩
              case rest =>
              obtain ⟨rfl, rfl⟩ := hcut
              by_cases h45 : p20 = [45]
              · as_aux_lemma =>
                obtain rfl : t45 = false := HT45.out.trans (by rw [h45]; simp)
                clear HT45
                have HLG : Hid (LstG p20 []) := Or.inl ⟨h45, rfl⟩
                have HL5 : Hid (U32sAt W5 (fun k => X.heap.size ≤ k ∧ k ≠ E) (.slice none 0 0) ([] : List Int)) := RArr.nil _ _ _ _
                clear h45
                have hrq : rng W5 Q 0 17 = some (reqA { rq with kind := kv } (.slice none 0 0)) := rng_whole HK5.out
                have hzQ := blk_lt HK5.out
                have hzE := blk_lt HE5.out
                have hst := run_stReq3 W5 E (x1 % 4294967296) rv (x3 % 4294967296) zeroReq { rq with kind := kv } (.slice none 0 0) none 0 0 HE5.out
                go_upto_region 30 with fail
                have HKE8 : Hid ((W5.setRow E (entA ⟨x1 % 4294967296, rv, x3 % 4294967296, { rq with kind := kv }⟩ (.slice none 0 0))).heap[E]? = some (.cells (entA ⟨x1 % 4294967296, rv, x3 % 4294967296, { rq with kind := kv }⟩ (.slice none 0 0)) 67 (0, 0))) := heap_setRow_at HE5.out
                have HB8 : Hid (Below X.heap.size X (W5.setRow E (entA ⟨x1 % 4294967296, rv, x3 % 4294967296, { rq with kind := kv }⟩ (.slice none 0 0)))) := HB5.out.trans ⟨rfl, rfl, rfl, by simp, fun q hq => setRow_other _ _ _ _ (by omega)⟩
                have HL8 : Hid (U32sAt (W5.setRow E (entA ⟨x1 % 4294967296, rv, x3 % 4294967296, { rq with kind := kv }⟩ (.slice none 0 0))) (X.heap.size ≤ ·) (.slice none 0 0) ([] : List Int)) := RArr.mono HL5.out (fun k hk => setRow_other _ _ _ _ hk.2) (fun _ hk => hk.1)
                generalize W5.setRow E (entA ⟨x1 % 4294967296, rv, x3 % 4294967296, { rq with kind := kv }⟩ (.slice none 0 0)) = U8 at *
                obtain ⟨xe, hxe⟩ : ∃ xe : Ent, xe = ⟨x1 % 4294967296, rv, x3 % 4294967296, { rq with kind := kv, list := ([] : List Int) }⟩ := ⟨_, rfl⟩
                have hea : entA ⟨x1 % 4294967296, rv, x3 % 4294967296, { rq with kind := kv }⟩ (.slice none 0 0) = entA xe (.slice none 0 0) := by rw [hxe]; rfl
                rw [hea] at HKE8
                have HLX : Hid (xe.req.list = ([] : List Int)) := by rw [hxe]; rfl
                have HEG : Hid (EntG rn kn (splitB 124 l) xe) := by
                  obtain ⟨x5, x6, x7, x8, x9, x10, x11, x12, x13, x14, x15, x16, x17, x18, x19, e, g5, g6, g7, g8, g9, g10, g11, g12, g13, g14, g15, g16, g17, g18, g19⟩ := HRQ.out
                  show EntG _ _ _ _
                  rw [← HPS.out, hxe, e]
                  exact ⟨p0, p1, p2, p3, p4, p5, p6, p7, p8, p9, p10, p11, p12, p13, p14, p15, p16, p17, p18, p19, p20, x1, rv, x3, kv, x5, x6, x7, x8, x9, x10, x11, x12, x13, x14, x15, x16, x17, x18, x19, ([] : List Int), rfl, rfl, HG1.out, HNR.out, HG3.out, HNK.out, g5, g6, g7, g8, g9, g10, g11, g12, g13, g14, g15, g16, g17, g18, g19, HLG.out⟩
                have hcX : rng U8 E 0 20 = some (entA xe (.slice none 0 0)) := rng_whole HKE8.out
                have hzE8 := blk_lt HKE8.out
                have hz8 := HB8.out.size
                have HO8 := hide (HIX.out.own.below HB8.out (Nat.le_refl _))
                have HLN2 := hide HIX.out.len
                have hW2X : W2.heap.size ≤ X.heap.size := HIX.out.bel.size
                clear hea hxe hst hrq hzQ hzE HK5 HE5 HB5 HL5
                go_wp2_with (at_builtin; refine wpList_app1 (α := ZE) rfl _ _ 42 rfl W2.heap.size 67 zeCs Tryz.underlying42 Tryz.info67_z rfl (by decide) zeCs_size zeCs_one (.slice a q capq) zs rfl (OwnR.below HO8.out ((Below.refl _ _).alloc (Nat.le_refl _) _) (Nat.le_refl _)) _ rfl (xe, ((none : Option Addr), 0, 0)) (rng_whole (heap_alloc_at _ _)) (by rw [HLN2.out] <;> omega) (by rw [HLN2.out] <;> (unfold maxLen; omega)) (by simp only [World.size_alloc]; omega) ?_; intro v1 w1 hown1 hsame1 hbel1 hat1X; obtain ⟨a1, cap1, hv1⟩ := hown1.form; rw [List.length_append, HLN2.out] at hv1; subst hv1)
                go_roundg (K0 - (q + 1))
                case measure => omega
                case rel =>
                  have hB26 : Below W2.heap.size U8 w1 := ((Below.refl _ _).alloc (by omega) _).trans hbel1
                  refine ⟨q + 1, zs ++ [(xe, ((none : Option Addr), 0, 0))], a1, cap1, by omega, rfl, rfl, by go_num, ⟨hown1, ?_, by simp [HLN2.out], fun j hj => ?_, HIX.out.bel.trans ((HB8.out.mono hW2X).trans hB26)⟩⟩
                  · have hns : ∀ x, (Value.slice a1 (q + 1) cap1).ownBlock = some x → (Value.slice a q capq).ownBlock = some x ∨ U8.heap.size ≤ x := fun x e => hat1X.elim (fun h => Or.inl (h.symm.trans e)) (fun h => Or.inr (by have e := h.symm.trans e; injection e with e; rw [World.size_alloc] at e; omega))
                    have hsm : ∀ k, k < U8.heap.size → (Value.slice a q capq).ownBlock ≠ some k → w1.heap[k]? = U8.heap[k]? := fun k h1 h2 => (hsame1 k ⟨by simp only [World.size_alloc]; omega, h2⟩).trans (((Below.refl U8.heap.size U8).alloc (Nat.le_refl _) _).block k h1)
                    intro z hz
                    rcases List.mem_append.1 hz with hz | hz
                    · exact RArr.mono (RArr.lt (HIX.out.zip z hz)) (fun k hk => (hsm k (by have := hk.2; omega) hk.1.2).trans (HB8.out.block k hk.2)) (fun k hk => ⟨hk.1.1, fun e => (hns k e).elim (fun h => hk.1.2 h) (fun h => by have := hk.2; omega)⟩)
                    · rw [List.mem_singleton.1 hz]
                      have hno : ∀ k, X.heap.size ≤ k → (Value.slice a q capq).ownBlock ≠ some k := fun k hk e => by have := (HIX.out.own.block k e).2; omega
                      show U32sAt w1 _ (.slice none 0 0) xe.req.list
                      rw [HLX.out]
                      exact RArr.mono (RArr.lt HL8.out) (fun k hk => hsm k hk.2 (hno k hk.1)) (fun k hk => ⟨by have := hk.1; omega, fun e => (hns k e).elim (fun h => hno k hk.1 h) (fun h => by have := hk.2; omega)⟩)
                  · rw [List.length_append] at hj
                    have hj : j < zs.length + 1 := hj
                    by_cases hjq : j < zs.length
                    · obtain ⟨l', h1, h2⟩ := HIX.out.lin j hjq
                      exact ⟨l', h1, by rw [List.getElem_append_left hjq]; exact h2⟩
                    · obtain rfl : j = zs.length := by omega
                      refine ⟨l, by rw [HLN2.out]; exact HLQ.out, ?_⟩
                      have e : (zs ++ [(xe, ((none : Option Addr), 0, 0))])[zs.length]'(by simp) = (xe, ((none : Option Addr), 0, 0)) := by simp
                      rw [e]
                      exact HEG.out
              · obtain rfl : t45 = true := HT45.out.trans (by
                  rw [strNums_inj, strNums_inj]
                  cases hx : (u8s p20 == u8s [45]) with
                  | false => rfl
                  | true => exact absurd (u8s_inj (HPB2.out p20 (by simp)) (fun d hd => by rw [List.mem_singleton.1 hd]; omega) (by simpa using hx)) h45)
                clear HT45
                have H45 := hide h45
                clear h45
                obtain ⟨ss, hss⟩ : ∃ ss, ss = splitB 44 p20 := ⟨_, rfl⟩
                have hs0 : 0 < ss.length := by rw [hss]; exact List.length_pos_iff.2 (splitB_ne _ _)
                have hsL : ss.length ≤ 900000001 := by have h1 := splitB_len 44 p20; rw [hss]; have := HPL2.out p20 (by simp); omega
                have HSB : Hid (∀ p ∈ ss, ByteL p ∧ p.length ≤ 900000000) := fun p hp => by
                  rw [hss] at hp
                  exact ⟨fun d hd => HPB2.out p20 (by simp) d (splitB_mem hp d hd), Nat.le_trans (splitB_plen hp) (HPL2.out p20 (by simp))⟩
                obtain ⟨M2, hM2⟩ : ∃ M2, M2 = ss.length := ⟨_, rfl⟩
                have HM2 := hide hM2
                have HSS := hide hss
                have HSP : Hid (Calls Tryz.prog 147 #[.string (strOfNums p20), .int .u8 44] W5 fun e w' => ∃ sg sgc, e = .returned (.slice (some ⟨sg, 0, none⟩) M2 sgc) ∧ Hid (W5.heap.size ≤ sg ∧ sg < w'.heap.size ∧ M2 ≤ sgc ∧ ∀ i (hi : i < ss.length), w'.cell? ⟨sg, i, none⟩ = some (.string (strOfNums ss[i]))) ∧ Hid (Below W5.heap.size W5 w')) := by
                  refine (msplit_calls W5 p20 44 (HPB2.out p20 (by simp)) (by have := HPL2.out p20 (by simp); omega)).mono ?_
                  rintro e w' ⟨sv2, rfl, hownp, hbp⟩
                  rw [← hss] at hownp
                  obtain ⟨sg, sgc, hsv, h1, h2, h3, h4⟩ := str_cells hownp hs0 (by omega)
                  exact ⟨sg, sgc, by rw [hsv, hM2], ⟨h1, h2, by rw [hM2]; exact h3, h4⟩, hbp⟩
                rw [← hM2] at hs0 hsL
                clear hss hM2
                have hzQ5 := blk_lt HK5.out
                have hzE5 := blk_lt HE5.out
                go_upto_region 25 with (go_at_call 147; refine HSP.out.mono ?_; rintro e Y ⟨sg, sgc, rfl, HSG, HBP⟩)
                clear HSP d20'
                obtain ⟨hsg1, hsg2, hsgcap, hsgcell⟩ := HSG.out
                have HSC := hide hsgcell
                have hiG := run_indexAt_arr (P := Tryz.prog) (n := M2) (cap := sgc) (a := some ⟨sg, 0, none⟩) (b := sg) (off := 0) Tryz.underlying98 Tryz.size9_s (fun _ => rfl)
                have hY5 := HBP.out.size
                have HKY : Hid (Y.heap[Q]? = some (.cells (reqA { rq with kind := kv } (.slice none 0 0)) 53 (0, 0))) := (HBP.out.block _ hzQ5).trans HK5.out
                have HEY : Hid (Y.heap[E]? = some (.cells (entA ⟨x1 % 4294967296, rv, x3 % 4294967296, zeroReq⟩ (.slice none 0 0)) 67 (0, 0))) := (HBP.out.block _ hzE5).trans HE5.out
                have HBY' : Hid (Below X.heap.size X Y) := HB5.out.trans (HBP.out.mono HB5.out.size)
                have hXY := HBY'.out.size
                clear hsgcell HSG HK5 HE5 HB5 hp5
                go_loopg [152] M2 (fun gk j W => ∃ (r : Nat) (lst : List Int) (sa : Option Addr) (sc : Nat), r ≤ M2 ∧ gk = M2 - r ∧ j = .int .i64 r ∧ Hid (lst.length = r) ∧ Hid (LsG ss lst) ∧ Hid (W.heap[Q]? = some (.cells (reqA { rq with kind := kv } (.slice sa r sc)) 53 (0, 0))) ∧ Hid (OwnR W Y.heap.size 48 1 u32Cs (.slice sa r sc) lst) ∧ Hid (∀ b, b < Y.heap.size → b ≠ Q → W.heap[b]? = Y.heap[b]?) ∧ Hid (Below X.heap.size X W) ∧ Hid (Y.heap.size ≤ W.heap.size))
                case atStart => exact ⟨0, [], none, 0, by omega, by omega, rfl, rfl, LsG.nil _, HKY, OwnR.nil _ _ _ _ _, fun _ _ _ => rfl, HBY', Nat.le_refl _⟩
                clear HKY
                case round =>
                  obtain ⟨r, lst, sa, sc, hr, rfl, rfl, HLL, HLs, HKr, HOL, HSm, HBr, HYr⟩ := hrel
                  have hYr := HYr.out
                  have hzQ := blk_lt HKr.out
                  by_cases hltr : r < M2
                  · as_aux_lemma =>
                    have hrs : r < ss.length := by rw [← HM2.out]; exact hltr
                    have hblk : wr.heap[sg]? = Y.heap[sg]? := HSm.out sg hsg2 (by omega)
                    have dcr : wr.cell? ⟨sg, r, none⟩ = some (.string (strOfNums ss[r])) := by
                      have h1 := HSC.out r hrs
                      unfold World.cell? at h1 ⊢
                      rw [hblk]
                      exact h1
                    have hsgr : sg < wr.heap.size := by omega
                    have HUB := hide (HSB.out _ (List.getElem_mem hrs)).1
                    have HUL := hide (HSB.out _ (List.getElem_mem hrs)).2
                    have HUQ : Hid (ss[r]? = some ss[r]) := List.getElem?_eq_getElem hrs
                    generalize ss[r] = u at *
                    go_upto_region 27 with fail
                    obtain ⟨S0, hS0, hSQ⟩ : ∃ S0, (∀ x, (Value.slice sa r sc).ownBlock = some x → x = S0) ∧ Q ≠ S0 := by
                      cases ha : (Value.slice sa r sc).ownBlock with
                      | none => exact ⟨wr.heap.size, fun x e => (by cases e), by omega⟩
                      | some y => exact ⟨y, fun x e => (Option.some.inj e).symm, by have := (HOL.out.block y ha).1; omega⟩
                    have HS0 := hide hS0
                    have q16 : wr.cell? ⟨Q, 16, none⟩ = some (.slice sa r sc) := cells_all HKr.out 16
                    clear hS0 dcr hblk
                    refine wp_region_mixX wr.heap.size S0 [1] (by kernel_rfl) ?_
                    refine mixT_slots [0, 2] (fuel := 7) rfl (by kernel_rfl) (by kernel_rfl) (fun d _ _ _ _ h => by cases d <;> exact h) ?_
                    simp only [opersAt, List.getElem?_toArray, List.getElem?_cons_zero, List.getElem?_cons_succ]
                    repeat (go_big_quiet_step (fail))
                    refine wpQuiet_nil ?_
                    refine mixT_reads [1] (fuel := 6) rfl (by kernel_rfl) (by decide) (by kernel_rfl) (fun d _ _ _ _ h => by cases d <;> exact h) (exS_drew _ _ _) ?_
                    simp only [opersAt, List.getElem?_toArray, List.getElem?_cons_zero, List.getElem?_cons_succ]
                    repeat (go_big_quiet_step (fail))
                    refine wpQuiet_nil ?_
                    refine mixT_one (k := 3) (by kernel_rfl) rfl ?_
                    go_wp2_with (go_at_call 149; refine (mguess_calls _ u (HUB.out) (by have := HUL.out; omega)).mono ?_; rintro e V ⟨xu, rfl, hxu, hgu, hbu⟩)
                    have HCV : Hid (Below wr.heap.size wr V) := ((Below.refl wr.heap.size wr).drew).trans (hbu.mono ((Below.refl wr.heap.size wr).drew).size)
                    have HGu : Hid (GNum u xu) := ⟨hxu, hgu⟩
                    refine ⟨Or.inr (by intros; exact exS_below HCV.out), ?_⟩
                    clear hbu hgu hxu
                    refine mixT_slots [4] (fuel := 4) rfl (by kernel_rfl) (by kernel_rfl) (fun d _ _ _ _ h => by cases d <;> exact h) ?_
                    simp only [opersAt, List.getElem?_toArray, List.getElem?_cons_zero, List.getElem?_cons_succ]
                    repeat (go_big_quiet_step (fail))
                    refine wpQuiet_nil ?_
                    refine mixT_one (k := 5) (by kernel_rfl) rfl ?_
                    go_wp2
                    have HBA : Hid (Below wr.heap.size wr (V.alloc (.cells #[.int .u32 (xu % 4294967296)] 48))) := HCV.out.alloc HCV.out.size _
                    refine ⟨Or.inr (by intros; exact exS_below HBA.out), ?_⟩
                    refine mixT_one (k := 6) (by kernel_rfl) rfl ?_
                    have HO15 := hide ((HOL.out.below HCV.out (Nat.le_refl _)).below ((Below.refl V.heap.size V).alloc (Nat.le_refl _) (.cells #[.int .u32 (xu % 4294967296)] 48)) (Nat.le_refl _))
                    have HR15 : Hid (rng (V.alloc (.cells #[.int .u32 (xu % 4294967296)] 48)) V.heap.size 0 1 = some (u32Cs (xu % 4294967296))) := rng_whole (heap_alloc_at _ _)
                    have hz15 : Y.heap.size ≤ (V.alloc (.cells #[.int .u32 (xu % 4294967296)] 48)).heap.size := by have := HCV.out.size; simp; omega
                    refine wpList_app1 (α := Int) rfl _ _ 29 rfl Y.heap.size 48 u32Cs Tryz.underlying29 Tryz.info48 rfl (by decide) u32Cs_size u32Cs_one _ lst rfl HO15.out _ rfl (xu % 4294967296) HR15.out (by rw [HLL.out]; omega) (by rw [HLL.out]; unfold maxLen; omega) hz15 ?_
                    intro v16 U hown16 hsame16 hbel16 hat16
                    have hQU : U.heap[Q]? = some (.cells (reqA { rq with kind := kv } (.slice sa r sc)) 53 (0, 0)) := (hbel16.block Q (by omega)).trans ((HBA.out.block _ hzQ).trans HKr.out)
                    have HSU : Hid (∀ b, b < wr.heap.size → b ≠ S0 → U.heap[b]? = wr.heap[b]?) := fun b h1 h2 => (hsame16 b ⟨by have := HBA.out.size; omega, fun e => h2 (HS0.out b e)⟩).trans (HBA.out.block b h1)
                    refine ⟨Or.inr (by intros; exact ⟨⟨U, HSU.out⟩, rfl⟩), ?_⟩
                    have hszU : wr.heap.size ≤ U.heap.size := Nat.le_trans HBA.out.size hbel16.size
                    have HBU : Hid (Below Y.heap.size wr U) := (HBA.out.mono (by omega)).trans hbel16
                    obtain ⟨a1, cap1, hv1⟩ := hown16.form
                    rw [List.length_append, HLL.out] at hv1
                    subst hv1
                    have HO16 := hide hown16
                    have u16 : U.cell? ⟨Q, 16, none⟩ = some (.slice sa r sc) := cells_all hQU 16
                    have uf : U.frozen? ⟨Q, 16, none⟩ = false := by simp [World.frozen?, hQU]
                    have zQU := blk_lt hQU
                    have HQU := hide hQU
                    clear hown16 hsame16 hbel16 hat16 hQU HO15 HR15
                    refine mixT_one (k := 7) (by kernel_rfl) rfl ?_
                    go_wp2
                    refine ⟨Or.inr (by intros; exact ⟨⟨U, HSU.out⟩, rfl⟩), ?_⟩
                    refine mixT_one (k := 8) (by kernel_rfl) rfl ?_
                    go_wp2
                    refine ⟨Or.inl (by kernel_rfl), ?_⟩
                    refine mixT_nil (by kernel_rfl) ?_
                    go_wp2
                    go_roundg (M2 - (r + 1))
                    case measure => omega
                    case rel =>
                      refine ⟨r + 1, lst ++ [xu % 4294967296], a1, cap1, by omega, rfl, by go_num, (by show _ = _; simp [HLL.out]), HLs.out.snoc (by rw [HLL.out]; exact HUQ.out) HGu.out, heap_set3 (j := 16) (v := .slice a1 (r + 1) cap1) HQU.out, ?_, ?_, ?_, by show _ ≤ _; simp; omega⟩
                      · exact HO16.out.mono fun x hx => Below.heap_setCell _ _ _ _ (by have := (HO16.out.block x hx).1; show x ≠ Q; omega)
                      · intro b h1 h2
                        exact (Below.heap_setCell _ _ _ _ h2).trans ((HBU.out.block b h1).trans (HSm.out b h1 h2))
                      · exact (HBr.out.trans (HBU.out.mono (by omega))).setCell (p := ⟨Q, 16, none⟩) (by show X.heap.size ≤ Q; omega) _
                  · obtain rfl : r = M2 := by omega
                    as_aux_lemma =>
                    have HLG : Hid (LstG p20 lst) := Or.inr ⟨H45.out, by rw [HLL.out, ← HSS.out, ← HM2.out], by rw [← HSS.out]; exact HLs.out⟩
                    have HE6 : Hid (wr.heap[E]? = some (.cells (entA ⟨x1 % 4294967296, rv, x3 % 4294967296, zeroReq⟩ (.slice none 0 0)) 67 (0, 0))) := (HSm.out E (blk_lt HEY.out) (by omega)).trans HEY.out
                    have HL6 : Hid (U32sAt wr (fun k => X.heap.size ≤ k ∧ k ≠ E) (.slice sa r sc) lst) := RArr.mono (HOL.out.rows u32Cs_size (by decide) (by rw [HLL.out]; omega)) (Same.refl _ _) (fun k hk => by have h1 : Y.heap.size ≤ k := hk; have := blk_lt HEY.out; exact ⟨by omega, by omega⟩)
                    have HK6 := HKr
                    have HB6 := HBr
                    obtain ⟨sn, hsn⟩ : ∃ sn, sn = r := ⟨_, rfl⟩
                    rw [← hsn] at HK6 HL6 ⊢
                    obtain ⟨W6, hW6⟩ : ∃ W6, W6 = wr := ⟨_, rfl⟩
                    rw [← hW6] at HK6 HL6 HE6 HB6 ⊢
                    clear HKr HBr HOL HSm HLL HLs HYr hzQ hsn hW6
                    have hrq : rng W6 Q 0 17 = some (reqA { rq with kind := kv } (.slice sa sn sc)) := rng_whole HK6.out
                    have hzQ := blk_lt HK6.out
                    have hzE := blk_lt HE6.out
                    have hst := run_stReq3 W6 E (x1 % 4294967296) rv (x3 % 4294967296) zeroReq { rq with kind := kv } (.slice none 0 0) sa sn sc HE6.out
                    go_upto_region 30 with fail
                    have HKE8 : Hid ((W6.setRow E (entA ⟨x1 % 4294967296, rv, x3 % 4294967296, { rq with kind := kv }⟩ (.slice sa sn sc))).heap[E]? = some (.cells (entA ⟨x1 % 4294967296, rv, x3 % 4294967296, { rq with kind := kv }⟩ (.slice sa sn sc)) 67 (0, 0))) := heap_setRow_at HE6.out
                    have HB8 : Hid (Below X.heap.size X (W6.setRow E (entA ⟨x1 % 4294967296, rv, x3 % 4294967296, { rq with kind := kv }⟩ (.slice sa sn sc)))) := HB6.out.trans ⟨rfl, rfl, rfl, by simp, fun q hq => setRow_other _ _ _ _ (by omega)⟩
                    have HL8 : Hid (U32sAt (W6.setRow E (entA ⟨x1 % 4294967296, rv, x3 % 4294967296, { rq with kind := kv }⟩ (.slice sa sn sc))) (X.heap.size ≤ ·) (.slice sa sn sc) lst) := RArr.mono HL6.out (fun k hk => setRow_other _ _ _ _ hk.2) (fun _ hk => hk.1)
                    generalize W6.setRow E (entA ⟨x1 % 4294967296, rv, x3 % 4294967296, { rq with kind := kv }⟩ (.slice sa sn sc)) = U8 at *
                    obtain ⟨xe, hxe⟩ : ∃ xe : Ent, xe = ⟨x1 % 4294967296, rv, x3 % 4294967296, { rq with kind := kv, list := lst }⟩ := ⟨_, rfl⟩
                    have hea : entA ⟨x1 % 4294967296, rv, x3 % 4294967296, { rq with kind := kv }⟩ (.slice sa sn sc) = entA xe (.slice sa sn sc) := by rw [hxe]; rfl
                    rw [hea] at HKE8
                    have HLX : Hid (xe.req.list = lst) := by rw [hxe]; rfl
                    have HEG : Hid (EntG rn kn (splitB 124 l) xe) := by
                      obtain ⟨x5, x6, x7, x8, x9, x10, x11, x12, x13, x14, x15, x16, x17, x18, x19, e, g5, g6, g7, g8, g9, g10, g11, g12, g13, g14, g15, g16, g17, g18, g19⟩ := HRQ.out
                      show EntG _ _ _ _
                      rw [← HPS.out, hxe, e]
                      exact ⟨p0, p1, p2, p3, p4, p5, p6, p7, p8, p9, p10, p11, p12, p13, p14, p15, p16, p17, p18, p19, p20, x1, rv, x3, kv, x5, x6, x7, x8, x9, x10, x11, x12, x13, x14, x15, x16, x17, x18, x19, lst, rfl, rfl, HG1.out, HNR.out, HG3.out, HNK.out, g5, g6, g7, g8, g9, g10, g11, g12, g13, g14, g15, g16, g17, g18, g19, HLG.out⟩
                    have hcX : rng U8 E 0 20 = some (entA xe (.slice sa sn sc)) := rng_whole HKE8.out
                    have hzE8 := blk_lt HKE8.out
                    have hz8 := HB8.out.size
                    have HO8 := hide (HIX.out.own.below HB8.out (Nat.le_refl _))
                    have HLN2 := hide HIX.out.len
                    have hW2X : W2.heap.size ≤ X.heap.size := HIX.out.bel.size
                    clear hea hxe hst hrq hzQ hzE HK6 HE6 HB6 HL6
                    go_wp2_with (at_builtin; refine wpList_app1 (α := ZE) rfl _ _ 42 rfl W2.heap.size 67 zeCs Tryz.underlying42 Tryz.info67_z rfl (by decide) zeCs_size zeCs_one (.slice a q capq) zs rfl (OwnR.below HO8.out ((Below.refl _ _).alloc (Nat.le_refl _) _) (Nat.le_refl _)) _ rfl (xe, (sa, sn, sc)) (rng_whole (heap_alloc_at _ _)) (by rw [HLN2.out] <;> omega) (by rw [HLN2.out] <;> (unfold maxLen; omega)) (by simp only [World.size_alloc]; omega) ?_; intro v1 w1 hown1 hsame1 hbel1 hat1X; obtain ⟨a1, cap1, hv1⟩ := hown1.form; rw [List.length_append, HLN2.out] at hv1; subst hv1)
                    go_roundg (K0 - (q + 1))
                    case measure => omega
                    case rel =>
                      have hB26 : Below W2.heap.size U8 w1 := ((Below.refl _ _).alloc (by omega) _).trans hbel1
                      refine ⟨q + 1, zs ++ [(xe, (sa, sn, sc))], a1, cap1, by omega, rfl, rfl, by go_num, ⟨hown1, ?_, by simp [HLN2.out], fun j hj => ?_, HIX.out.bel.trans ((HB8.out.mono hW2X).trans hB26)⟩⟩
                      · have hns : ∀ x, (Value.slice a1 (q + 1) cap1).ownBlock = some x → (Value.slice a q capq).ownBlock = some x ∨ U8.heap.size ≤ x := fun x e => hat1X.elim (fun h => Or.inl (h.symm.trans e)) (fun h => Or.inr (by have e := h.symm.trans e; injection e with e; rw [World.size_alloc] at e; omega))
                        have hsm : ∀ k, k < U8.heap.size → (Value.slice a q capq).ownBlock ≠ some k → w1.heap[k]? = U8.heap[k]? := fun k h1 h2 => (hsame1 k ⟨by simp only [World.size_alloc]; omega, h2⟩).trans (((Below.refl U8.heap.size U8).alloc (Nat.le_refl _) _).block k h1)
                        intro z hz
                        rcases List.mem_append.1 hz with hz | hz
                        · exact RArr.mono (RArr.lt (HIX.out.zip z hz)) (fun k hk => (hsm k (by have := hk.2; omega) hk.1.2).trans (HB8.out.block k hk.2)) (fun k hk => ⟨hk.1.1, fun e => (hns k e).elim (fun h => hk.1.2 h) (fun h => by have := hk.2; omega)⟩)
                        · rw [List.mem_singleton.1 hz]
                          have hno : ∀ k, X.heap.size ≤ k → (Value.slice a q capq).ownBlock ≠ some k := fun k hk e => by have := (HIX.out.own.block k e).2; omega
                          show U32sAt w1 _ (.slice sa sn sc) xe.req.list
                          rw [HLX.out]
                          exact RArr.mono (RArr.lt HL8.out) (fun k hk => hsm k hk.2 (hno k hk.1)) (fun k hk => ⟨by have := hk.1; omega, fun e => (hns k e).elim (fun h => hno k hk.1 h) (fun h => by have := hk.2; omega)⟩)
                      · rw [List.length_append] at hj
                        have hj : j < zs.length + 1 := hj
                        by_cases hjq : j < zs.length
                        · obtain ⟨l', h1, h2⟩ := HIX.out.lin j hjq
                          exact ⟨l', h1, by rw [List.getElem_append_left hjq]; exact h2⟩
                        · obtain rfl : j = zs.length := by omega
                          refine ⟨l, by rw [HLN2.out]; exact HLQ.out, ?_⟩
                          have e : (zs ++ [(xe, (sa, sn, sc))])[zs.length]'(by simp) = (xe, (sa, sn, sc)) := by simp
                          rw [e]
                          exact HEG.out
    · obtain rfl : q = K0 := by omega
      have HFG : Hid (TrG rn kn bs (zs.map (·.1))) := ⟨by rw [← HLS.out, ← HN.out]; omega, by rw [← HLS.out, ← HN.out, List.length_map, HI.out.len]; have := HK0.out; omega, fun j h => by
        rw [List.length_map] at h
        obtain ⟨l, h1, h2⟩ := HI.out.lin j h
        exact ⟨l, by rw [← HLS.out]; exact h1, by rw [List.getElem_map]; exact h2⟩⟩
      have HLen := hide HI.out.len
      have HOk : Hid (∀ z ∈ zs, z.1.Ok) := fun z hz => by
        obtain ⟨j, hj, rfl⟩ := List.getElem_of_mem hz
        obtain ⟨l, -, h2⟩ := HI.out.lin j hj
        exact h2.ok
      have hch : RArr wr (W2.heap.size ≤ ·) 20 zeCs (.slice a q capq) zs := HI.out.own.rows zeCs_size (by decide) (by rw [HLen.out]; omega)
      have HCH := hide hch
      have HZW : Hid (ZipE wr (W2.heap.size ≤ ·) zs) := fun z hz => RArr.mono (HI.out.zip z hz) (Same.refl _ _) (fun _ hk => hk.1)
      have HBR : Hid (Below w.heap.size w wr) := HB2.out.trans (HI.out.bel.mono HB2.out.size)
      clear hch HI
      have HRE := hide (mrenderTrail_calls wr (W2.heap.size ≤ ·) rn kn ft a q capq zs HCH.out HZW.out (by omega) (HNM0.out wr HBR.out) HOk.out)
      go_upto_region 32 with fail
      go_cut [15, 16] (fun tv okv W => (tv = .slice none 0 0 ∧ okv = .bool false ∧ Hid (rtB 0 (zs.map (·.1)) = false) ∧ Hid (Below wr.heap.size wr W)) ∨ (okv = .bool true ∧ Hid (rtB 0 (zs.map (·.1)) = true) ∧ Hid (ByS wr W tv (trText rn kn (zs.map (·.1))))))
      case first =>
        as_aux_lemma =>
          go_wp2_with (go_at_call 86; refine HRE.out.mono ?_; rintro e Y2 hR; obtain ⟨tv, okv, rfl, hpost⟩ : ∃ tv okv, e = .returned (.tuple #[tv, okv]) ∧ Hid ((tv = .slice none 0 0 ∧ okv = .bool false ∧ Hid (rtB 0 (zs.map (·.1)) = false) ∧ Hid (Below wr.heap.size wr Y2)) ∨ (okv = .bool true ∧ Hid (rtB 0 (zs.map (·.1)) = true) ∧ Hid (ByS wr Y2 tv (trText rn kn (zs.map (·.1)))))) := (by cases hR with | bad he hr hb => exact ⟨_, _, he, Or.inl ⟨rfl, rfl, hr, hb⟩⟩ | good v he hr hv => exact ⟨_, _, he, Or.inr ⟨rfl, hr, hv⟩⟩))
          go_meet
          case rel => exact hpost.out
      case rest =>
      clear HRE
      rcases hcut with ⟨rfl, rfl, HRF, HBc⟩ | ⟨rfl, HRT, HTV⟩
      · have HNO : Hid (∀ xs, ¬ Tv rn kn bs xs) := fun xs ht => by
          have e := HFG.out.right HNG.out ht (by have := HLN.out; omega)
          have h1 := HRF.out
          rw [e, ht.rt] at h1
          cases h1
        go_wp2
        refine bodyPost_ret (v := .tuple #[.slice none 0 0, .int .u8 29]) (by simp [results, Tryz.results87]) rfl ?_
        exact HBAD.out wc (HBR.out.trans (HBc.out.mono HBR.out.size)) HNO.out
      · have HB2y : Hid (Below w.heap.size w wc) := HBR.out.trans (HTV.out.bel.mono HBR.out.size)
        have hcv1 := conv_str HTV.out.at'
        have hcv2 := conv_str (HBT.out wc HB2y.out)
        by_cases heq : trText rn kn (zs.map (·.1)) = bs
        · have t1 : ((strOfNums (trText rn kn (zs.map (·.1)))).toList == (strOfNums bs).toList) = true := by rw [heq]; simp
          have HEQ := hide heq
          clear heq
          go_wp2
          refine bodyPost_ret (v := .tuple #[.slice a q capq, .int .u8 0]) (by simp [results, Tryz.results87]) rfl ?_
          refine .good a capq zs (by rw [HLen.out]) ?_ ?_ ⟨HRT.out, fun x hx => ?_, HEQ.out.symm⟩ HB2y.out
          · rw [HLen.out]
            exact RArr.mono (RArr.below HCH.out HTV.out.bel) (Same.refl _ _) (fun y hy => by have h1 : W2.heap.size ≤ y := hy; have := HB2.out.size; show w.heap.size ≤ y; omega)
          · exact fun z hz => RArr.mono (RArr.below (HZW.out z hz) HTV.out.bel) (Same.refl _ _) (fun y hy => by have h1 : W2.heap.size ≤ y := hy; have := HB2.out.size; show w.heap.size ≤ y; omega)
          · obtain ⟨z, hz, rfl⟩ := List.mem_map.1 hx
            exact HOk.out z hz
        · have t1 : ((strOfNums (trText rn kn (zs.map (·.1)))).toList == (strOfNums bs).toList) = false := by
            rw [strNums_inj, strNums_inj]
            cases hx : (u8s (trText rn kn (zs.map (·.1))) == u8s bs) with
            | false => rfl
            | true => exact absurd (u8s_inj (show ByteL (trText rn kn (zs.map (·.1))) from trail_bytes tr_bytes _) HBY.out (by simpa using hx)) heq
          have HNO : Hid (∀ xs, ¬ Tv rn kn bs xs) := fun xs ht => by
            have e := HFG.out.right HNG.out ht (by have := HLN.out; omega)
            apply heq
            rw [e, ht.tx]
          clear heq
          go_wp2
          refine bodyPost_ret (v := .tuple #[.slice none 0 0, .int .u8 29]) (by simp [results, Tryz.results87]) rfl ?_
          exact HBAD.out wc HB2y.out HNO.out
end Go.Proofs.Qxb6500666aGreatDoor
