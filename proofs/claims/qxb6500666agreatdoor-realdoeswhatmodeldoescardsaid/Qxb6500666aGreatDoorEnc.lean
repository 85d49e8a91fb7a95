/- Keys and records, written. (Made by tools/mk_enc.py.) -/
import Derived.Test.Qxb6500666aGreatDoorWriterWalk
import Derived.Test.Qxb6500666aGreatDoorDraft
namespace Go.Proofs.Qxb6500666aGreatDoor
open Go.RowKit

set_option maxRecDepth 100000 in
theorem wFinish_calls (w : World) (g : Nat) (v : Value) (hg : w.heap[g]? = some (.cells #[v] 373 (0, 0))) :
    Calls Tryz.prog 248 #[.pointer (some ⟨g, 0, none⟩)] w fun e w' => e = .returned (.tuple #[v, .nilIface]) ∧ w = w' := by
  obtain ⟨hc, -, -⟩ := cell_one hg
  go_enter Tryz.func248, Tryz.ntmps248
  go_wp2
  go_ret2
  exact ⟨rfl, rfl⟩

set_option maxRecDepth 100000 in
theorem finish_calls (w : World) (g : Nat) (v : Value) (hg : w.heap[g]? = some (.cells #[v] 373 (0, 0))) :
    Calls Tryz.prog 217 #[.pointer (some ⟨g, 0, none⟩)] w fun e w' => e = .returned v ∧ w = w' := by
  go_enter Tryz.func217, Tryz.ntmps217
  go_wp2_with (go_at_call 248; refine (wFinish_calls _ g v hg).mono ?_; rintro e w1 ⟨rfl, rfl⟩)
  go_ret
  exact ⟨rfl, rfl⟩

/-- A new writer. -/
theorem writer_new (w : World) (k : Nat) (h : w.heap.size = k) : WriterAt (w.alloc (.cells #[.slice none 0 0] 373)) k k (fun _ => False) [] := by
  subst h
  exact ⟨none, 0, heap_alloc_at _ _, Nat.le_refl _, OwnR.nil _ _ _ _ _, by simp [Value.ownBlock], fun h => h, fun _ _ h => h, fun _ h => h.elim⟩
theorem WriterAt.size {w : World} {B g : Nat} {A : Nat → Prop} {bs : List Int} (h : WriterAt w B g A bs) : g < w.heap.size ∧ B ≤ g := by
  obtain ⟨a, cap, hg, hB, -⟩ := h
  exact ⟨blk_lt hg, hB⟩
theorem WriterAt.more {w : World} {B g : Nat} {A : Nat → Prop} {bs : List Int} (h : WriterAt w B g A bs) (o : Obj) : WriterAt (w.alloc o) B g (fun b => A b ∨ b = w.heap.size) bs := by
  obtain ⟨a, cap, hg, hB, hown, hne, h1, h2, h3⟩ := h
  have hgl := blk_lt hg
  refine ⟨a, cap, (Below.heap_alloc _ _ _ hgl).trans hg, hB, hown.below ((Below.refl _ _).alloc (Nat.le_refl _) _) (Nat.le_refl _), hne, fun e => e.elim h1 (fun e => by omega), fun b hb e => e.elim (h2 b hb) (fun e => by have := (hown.block b hb).2; omega), fun b hb => by simp only [World.size_alloc]; exact hb.elim (fun h => Nat.lt_succ_of_lt (h3 b h)) (fun e => by omega)⟩

/-- What an encoder hands back. -/
def Enc (w w' : World) (e : Ending) (bs : List Int) : Prop := ∃ v, e = .returned v ∧ OwnR w' w.heap.size 5 1 byteCs v bs ∧ Below w.heap.size w w'
def i64B (x : Int) : List Int := d256 8 (x + 9223372036854775808)
theorem i64B_len (x : Int) : (i64B x).length = 8 := d256_len _ _

def key0B (tag : Int) : List Int := [tag]
set_option maxRecDepth 100000 in
theorem key0_calls (w : World) (tag : Int) : Calls Tryz.prog 161 #[.int .u8 tag] w fun e w' => Enc w w' e (key0B tag) := by
  go_enter Tryz.func161, Tryz.ntmps161
  go_wp2
  go_ret
  refine ⟨_, rfl, ⟨rfl, Or.inr ⟨w.heap.size, 1, _, rfl, Nat.le_refl _, heap_alloc_at _ _, Nat.le_refl _, by unfold maxLen; omega, rfl, rfl⟩⟩, (Below.refl _ _).alloc (Nat.le_refl _) _⟩

attribute [local go_sem ↓] exec_ldRow exec_stRow
attribute [local go_sem] run_ldRow run_stRow whole_alloc_lt whole_alloc_at whole_drew setRow_alloc_at setRow_alloc_lt rng_alloc_lt rng_alloc_at rng_drew rng_drewN

def key1B (tag a : Int) : List Int := d256 1 tag ++ d256 4 a
set_option maxRecDepth 100000 in
set_option maxHeartbeats 1000000 in
theorem key1_calls (w : World) (tag a : Int) (h1 : U8 tag) (h2 : U32 a) :
    Calls Tryz.prog 163 #[.int .u8 tag, .int .u32 a] w fun e w' => Enc w w' e (key1B tag a) := by
  go_enter Tryz.func163, Tryz.ntmps163
  have hb0 : Below w.heap.size w (w.alloc (.cells #[.slice none 0 0] 373)) := (Below.refl _ _).alloc (Nat.le_refl _) _
  have hW0 := writer_new w (w.heap.size) (by simp)
  go_upto_region 2 with fail
  generalize (w.alloc (.cells #[.slice none 0 0] 373)) = W at *
  have HB0 := hide hb0
  clear hb0
  go_upto_region 3 with (go_at_call 215; refine (wU8_calls _ _ _ _ _ tag hW0 (by simp) h1.1 h1.2).mono ?_; rintro e w1 ⟨rfl, hV1⟩)
  have HB1 := hide (HB0.out.trans (hV1.below.mono (by omega)))
  have hW1 := hV1
  clear hW0 hV1 HB0
  go_upto_region 4 with (go_at_call 216; refine (wU32_calls _ _ _ _ _ a hW1.text (by simp [d256_len]) h2.1 h2.2).mono ?_; rintro e w2 ⟨rfl, hV2⟩)
  have HB2 := hide (HB1.out.trans (hV2.below.mono (by omega)))
  have hW2 := hV2
  clear hW1 hV2 HB1
  obtain ⟨a, cap, hg, hBg, hown, -⟩ := hW2.text
  go_wp2_with (go_at_call 217; refine (finish_calls _ _ _ hg).mono ?_; rintro e w99 ⟨rfl, rfl⟩)
  go_ret
  exact ⟨_, rfl, hown.lower (by omega), HB2.out⟩

def key2B (tag a b : Int) : List Int := d256 1 tag ++ d256 4 a ++ d256 4 b
set_option maxRecDepth 100000 in
set_option maxHeartbeats 1000000 in
theorem key2_calls (w : World) (tag a b : Int) (h1 : U8 tag) (h2 : U32 a) (h3 : U32 b) :
    Calls Tryz.prog 258 #[.int .u8 tag, .int .u32 a, .int .u32 b] w fun e w' => Enc w w' e (key2B tag a b) := by
  go_enter Tryz.func258, Tryz.ntmps258
  have hb0 : Below w.heap.size w (w.alloc (.cells #[.slice none 0 0] 373)) := (Below.refl _ _).alloc (Nat.le_refl _) _
  have hW0 := writer_new w (w.heap.size) (by simp)
  go_upto_region 2 with fail
  generalize (w.alloc (.cells #[.slice none 0 0] 373)) = W at *
  have HB0 := hide hb0
  clear hb0
  go_upto_region 3 with (go_at_call 215; refine (wU8_calls _ _ _ _ _ tag hW0 (by simp) h1.1 h1.2).mono ?_; rintro e w1 ⟨rfl, hV1⟩)
  have HB1 := hide (HB0.out.trans (hV1.below.mono (by omega)))
  have hW1 := hV1
  clear hW0 hV1 HB0
  go_upto_region 4 with (go_at_call 216; refine (wU32_calls _ _ _ _ _ a hW1.text (by simp [d256_len]) h2.1 h2.2).mono ?_; rintro e w2 ⟨rfl, hV2⟩)
  have HB2 := hide (HB1.out.trans (hV2.below.mono (by omega)))
  have hW2 := hV2
  clear hW1 hV2 HB1
  go_upto_region 5 with (go_at_call 216; refine (wU32_calls _ _ _ _ _ b hW2.text (by simp [d256_len]) h3.1 h3.2).mono ?_; rintro e w3 ⟨rfl, hV3⟩)
  have HB3 := hide (HB2.out.trans (hV3.below.mono (by omega)))
  have hW3 := hV3
  clear hW2 hV3 HB2
  obtain ⟨a, cap, hg, hBg, hown, -⟩ := hW3.text
  go_wp2_with (go_at_call 217; refine (finish_calls _ _ _ hg).mono ?_; rintro e w99 ⟨rfl, rfl⟩)
  go_ret
  exact ⟨_, rfl, hown.lower (by omega), HB3.out⟩

def placeB (a b : Int) : List Int := d256 4 a ++ d256 4 b
set_option maxRecDepth 100000 in
set_option maxHeartbeats 1000000 in
theorem place_calls (w : World) (a b : Int) (h1 : U32 a) (h2 : U32 b) :
    Calls Tryz.prog 309 #[.agg #[.int .u32 a, .int .u32 b]] w fun e w' => Enc w w' e (placeB a b) := by
  go_enter Tryz.func309, Tryz.ntmps309
  have hb0 : Below w.heap.size w ((w.alloc (.cells #[.int .u32 a, .int .u32 b] 405)).alloc (.cells #[.slice none 0 0] 373)) := ((Below.refl _ _).alloc (Nat.le_refl _) _).alloc (by simp) _
  have hW0 := writer_new (w.alloc (.cells #[.int .u32 a, .int .u32 b] 405)) (w.heap.size + 1) (by simp)
  have hx0 : ((w.alloc (.cells #[.int .u32 a, .int .u32 b] 405)).alloc (.cells #[.slice none 0 0] 373)).heap[w.heap.size]? = some (.cells #[.int .u32 a, .int .u32 b] 405 (0, 0)) := (Below.heap_alloc _ _ _ (by simp)).trans (heap_alloc_at _ _)
  go_upto_region 2 with fail
  generalize ((w.alloc (.cells #[.int .u32 a, .int .u32 b] 405)).alloc (.cells #[.slice none 0 0] 373)) = W at *
  have HB0 := hide hb0
  clear hb0
  have ck : W.cell? ⟨w.heap.size, 0, none⟩ = some (.int .u32 a) := by rw [World.cell?, hx0]; rfl
  have hlk := blk_lt hx0
  go_upto_region 3 with (go_at_call 216; refine (wU32_calls _ _ _ _ _ a hW0 (by simp) h1.1 h1.2).mono ?_; rintro e w1 ⟨rfl, hV1⟩)
  have HB1 := hide (HB0.out.trans (hV1.below.mono (by omega)))
  have hx1 := (hV1.below.block _ (by omega)).trans hx0
  have hW1 := hV1
  clear hW0 hV1 HB0 hx0 ck hlk
  have ck : w1.cell? ⟨w.heap.size, 1, none⟩ = some (.int .u32 b) := by rw [World.cell?, hx1]; rfl
  have hlk := blk_lt hx1
  go_upto_region 4 with (go_at_call 216; refine (wU32_calls _ _ _ _ _ b hW1.text (by simp [d256_len]) h2.1 h2.2).mono ?_; rintro e w2 ⟨rfl, hV2⟩)
  have HB2 := hide (HB1.out.trans (hV2.below.mono (by omega)))
  have hx2 := (hV2.below.block _ (by omega)).trans hx1
  have hW2 := hV2
  clear hW1 hV2 HB1 hx1 ck hlk
  obtain ⟨a, cap, hg, hBg, hown, -⟩ := hW2.text
  go_wp2_with (go_at_call 217; refine (finish_calls _ _ _ hg).mono ?_; rintro e w99 ⟨rfl, rfl⟩)
  go_ret
  exact ⟨_, rfl, hown.lower (by omega), HB2.out⟩

def statB (s : Stat) : List Int := d256 4 s.entries ++ d256 4 s.transfers ++ d256 4 s.lastCum ++ i64B s.lastMin
set_option maxRecDepth 100000 in
set_option maxHeartbeats 1000000 in
theorem stat_calls (w : World) (s : Stat) (h : s.Ok) :
    Calls Tryz.prog 179 #[.agg #[.int .u32 s.entries, .int .u32 s.transfers, .int .u32 s.lastCum, .int .i64 s.lastMin]] w fun e w' => Enc w w' e (statB s) := by
  go_enter Tryz.func179, Tryz.ntmps179
  have hb0 : Below w.heap.size w ((w.alloc (.cells #[.int .u32 s.entries, .int .u32 s.transfers, .int .u32 s.lastCum, .int .i64 s.lastMin] 65)).alloc (.cells #[.slice none 0 0] 373)) := ((Below.refl _ _).alloc (Nat.le_refl _) _).alloc (by simp) _
  have hW0 := writer_new (w.alloc (.cells #[.int .u32 s.entries, .int .u32 s.transfers, .int .u32 s.lastCum, .int .i64 s.lastMin] 65)) (w.heap.size + 1) (by simp)
  have hx0 : ((w.alloc (.cells #[.int .u32 s.entries, .int .u32 s.transfers, .int .u32 s.lastCum, .int .i64 s.lastMin] 65)).alloc (.cells #[.slice none 0 0] 373)).heap[w.heap.size]? = some (.cells #[.int .u32 s.entries, .int .u32 s.transfers, .int .u32 s.lastCum, .int .i64 s.lastMin] 65 (0, 0)) := (Below.heap_alloc _ _ _ (by simp)).trans (heap_alloc_at _ _)
  go_upto_region 2 with fail
  generalize ((w.alloc (.cells #[.int .u32 s.entries, .int .u32 s.transfers, .int .u32 s.lastCum, .int .i64 s.lastMin] 65)).alloc (.cells #[.slice none 0 0] 373)) = W at *
  have HB0 := hide hb0
  clear hb0
  have ck : W.cell? ⟨w.heap.size, 0, none⟩ = some (.int .u32 s.entries) := by rw [World.cell?, hx0]; rfl
  have hlk := blk_lt hx0
  go_upto_region 3 with (go_at_call 216; refine (wU32_calls _ _ _ _ _ s.entries hW0 (by simp) h.entries.1 h.entries.2).mono ?_; rintro e w1 ⟨rfl, hV1⟩)
  have HB1 := hide (HB0.out.trans (hV1.below.mono (by omega)))
  have hx1 := (hV1.below.block _ (by omega)).trans hx0
  have hW1 := hV1
  clear hW0 hV1 HB0 hx0 ck hlk
  have ck : w1.cell? ⟨w.heap.size, 1, none⟩ = some (.int .u32 s.transfers) := by rw [World.cell?, hx1]; rfl
  have hlk := blk_lt hx1
  go_upto_region 4 with (go_at_call 216; refine (wU32_calls _ _ _ _ _ s.transfers hW1.text (by simp [d256_len]) h.transfers.1 h.transfers.2).mono ?_; rintro e w2 ⟨rfl, hV2⟩)
  have HB2 := hide (HB1.out.trans (hV2.below.mono (by omega)))
  have hx2 := (hV2.below.block _ (by omega)).trans hx1
  have hW2 := hV2
  clear hW1 hV2 HB1 hx1 ck hlk
  have ck : w2.cell? ⟨w.heap.size, 2, none⟩ = some (.int .u32 s.lastCum) := by rw [World.cell?, hx2]; rfl
  have hlk := blk_lt hx2
  go_upto_region 5 with (go_at_call 216; refine (wU32_calls _ _ _ _ _ s.lastCum hW2.text (by simp [d256_len]) h.lastCum.1 h.lastCum.2).mono ?_; rintro e w3 ⟨rfl, hV3⟩)
  have HB3 := hide (HB2.out.trans (hV3.below.mono (by omega)))
  have hx3 := (hV3.below.block _ (by omega)).trans hx2
  have hW3 := hV3
  clear hW2 hV3 HB2 hx2 ck hlk
  have ck : w3.cell? ⟨w.heap.size, 3, none⟩ = some (.int .i64 s.lastMin) := by rw [World.cell?, hx3]; rfl
  have hlk := blk_lt hx3
  go_upto_region 6 with (go_at_call 231; refine (wI64_calls _ _ _ _ _ s.lastMin hW3.text (by simp [d256_len]) h.lastMin.1 h.lastMin.2).mono ?_; rintro e w4 ⟨rfl, hV4⟩)
  have HB4 := hide (HB3.out.trans (hV4.below.mono (by omega)))
  have hx4 := (hV4.below.block _ (by omega)).trans hx3
  have hW4 := hV4
  clear hW3 hV4 HB3 hx3 ck hlk
  obtain ⟨a, cap, hg, hBg, hown, -⟩ := hW4.text
  go_wp2_with (go_at_call 217; refine (finish_calls _ _ _ hg).mono ?_; rintro e w99 ⟨rfl, rfl⟩)
  go_ret
  exact ⟨_, rfl, hown.lower (by omega), HB4.out⟩

structure Hdr where
  kind : Int
  seq : Int
  issued : Int
  base : Int
  count : Int
  sum : Int
  len : Int
  deriving DecidableEq
structure Hdr.Ok (h : Hdr) : Prop where
  kind : U8 h.kind
  seq : U32 h.seq
  issued : I64 h.issued
  base : U32 h.base
  count : U32 h.count
  sum : U32 h.sum
  len : U32 h.len

def hdrB (x : Hdr) : List Int := d256 1 x.kind ++ i64B x.issued ++ d256 4 x.base ++ d256 4 x.count ++ d256 4 x.sum ++ d256 4 x.len
set_option maxRecDepth 100000 in
set_option maxHeartbeats 1000000 in
theorem hdr_calls (w : World) (x : Hdr) (h : x.Ok) :
    Calls Tryz.prog 310 #[.agg #[.int .u8 x.kind, .int .u32 x.seq, .int .i64 x.issued, .int .u32 x.base, .int .u32 x.count, .int .u32 x.sum, .int .u32 x.len]] w fun e w' => Enc w w' e (hdrB x) := by
  go_enter Tryz.func310, Tryz.ntmps310
  have hb0 : Below w.heap.size w ((w.alloc (.cells #[.int .u8 x.kind, .int .u32 x.seq, .int .i64 x.issued, .int .u32 x.base, .int .u32 x.count, .int .u32 x.sum, .int .u32 x.len] 71)).alloc (.cells #[.slice none 0 0] 373)) := ((Below.refl _ _).alloc (Nat.le_refl _) _).alloc (by simp) _
  have hW0 := writer_new (w.alloc (.cells #[.int .u8 x.kind, .int .u32 x.seq, .int .i64 x.issued, .int .u32 x.base, .int .u32 x.count, .int .u32 x.sum, .int .u32 x.len] 71)) (w.heap.size + 1) (by simp)
  have hx0 : ((w.alloc (.cells #[.int .u8 x.kind, .int .u32 x.seq, .int .i64 x.issued, .int .u32 x.base, .int .u32 x.count, .int .u32 x.sum, .int .u32 x.len] 71)).alloc (.cells #[.slice none 0 0] 373)).heap[w.heap.size]? = some (.cells #[.int .u8 x.kind, .int .u32 x.seq, .int .i64 x.issued, .int .u32 x.base, .int .u32 x.count, .int .u32 x.sum, .int .u32 x.len] 71 (0, 0)) := (Below.heap_alloc _ _ _ (by simp)).trans (heap_alloc_at _ _)
  go_upto_region 2 with fail
  generalize ((w.alloc (.cells #[.int .u8 x.kind, .int .u32 x.seq, .int .i64 x.issued, .int .u32 x.base, .int .u32 x.count, .int .u32 x.sum, .int .u32 x.len] 71)).alloc (.cells #[.slice none 0 0] 373)) = W at *
  have HB0 := hide hb0
  clear hb0
  have ck : W.cell? ⟨w.heap.size, 0, none⟩ = some (.int .u8 x.kind) := by rw [World.cell?, hx0]; rfl
  have hlk := blk_lt hx0
  go_upto_region 3 with (go_at_call 215; refine (wU8_calls _ _ _ _ _ x.kind hW0 (by simp) h.kind.1 h.kind.2).mono ?_; rintro e w1 ⟨rfl, hV1⟩)
  have HB1 := hide (HB0.out.trans (hV1.below.mono (by omega)))
  have hx1 := (hV1.below.block _ (by omega)).trans hx0
  have hW1 := hV1
  clear hW0 hV1 HB0 hx0 ck hlk
  have ck : w1.cell? ⟨w.heap.size, 2, none⟩ = some (.int .i64 x.issued) := by rw [World.cell?, hx1]; rfl
  have hlk := blk_lt hx1
  go_upto_region 4 with (go_at_call 231; refine (wI64_calls _ _ _ _ _ x.issued hW1.text (by simp [d256_len]) h.issued.1 h.issued.2).mono ?_; rintro e w2 ⟨rfl, hV2⟩)
  have HB2 := hide (HB1.out.trans (hV2.below.mono (by omega)))
  have hx2 := (hV2.below.block _ (by omega)).trans hx1
  have hW2 := hV2
  clear hW1 hV2 HB1 hx1 ck hlk
  have ck : w2.cell? ⟨w.heap.size, 3, none⟩ = some (.int .u32 x.base) := by rw [World.cell?, hx2]; rfl
  have hlk := blk_lt hx2
  go_upto_region 5 with (go_at_call 216; refine (wU32_calls _ _ _ _ _ x.base hW2.text (by simp [d256_len]) h.base.1 h.base.2).mono ?_; rintro e w3 ⟨rfl, hV3⟩)
  have HB3 := hide (HB2.out.trans (hV3.below.mono (by omega)))
  have hx3 := (hV3.below.block _ (by omega)).trans hx2
  have hW3 := hV3
  clear hW2 hV3 HB2 hx2 ck hlk
  have ck : w3.cell? ⟨w.heap.size, 4, none⟩ = some (.int .u32 x.count) := by rw [World.cell?, hx3]; rfl
  have hlk := blk_lt hx3
  go_upto_region 6 with (go_at_call 216; refine (wU32_calls _ _ _ _ _ x.count hW3.text (by simp [d256_len]) h.count.1 h.count.2).mono ?_; rintro e w4 ⟨rfl, hV4⟩)
  have HB4 := hide (HB3.out.trans (hV4.below.mono (by omega)))
  have hx4 := (hV4.below.block _ (by omega)).trans hx3
  have hW4 := hV4
  clear hW3 hV4 HB3 hx3 ck hlk
  have ck : w4.cell? ⟨w.heap.size, 5, none⟩ = some (.int .u32 x.sum) := by rw [World.cell?, hx4]; rfl
  have hlk := blk_lt hx4
  go_upto_region 7 with (go_at_call 216; refine (wU32_calls _ _ _ _ _ x.sum hW4.text (by simp [d256_len]) h.sum.1 h.sum.2).mono ?_; rintro e w5 ⟨rfl, hV5⟩)
  have HB5 := hide (HB4.out.trans (hV5.below.mono (by omega)))
  have hx5 := (hV5.below.block _ (by omega)).trans hx4
  have hW5 := hV5
  clear hW4 hV5 HB4 hx4 ck hlk
  have ck : w5.cell? ⟨w.heap.size, 6, none⟩ = some (.int .u32 x.len) := by rw [World.cell?, hx5]; rfl
  have hlk := blk_lt hx5
  go_upto_region 8 with (go_at_call 216; refine (wU32_calls _ _ _ _ _ x.len hW5.text (by simp [d256_len]) h.len.1 h.len.2).mono ?_; rintro e w6 ⟨rfl, hV6⟩)
  have HB6 := hide (HB5.out.trans (hV6.below.mono (by omega)))
  have hx6 := (hV6.below.block _ (by omega)).trans hx5
  have hW6 := hV6
  clear hW5 hV6 HB5 hx5 ck hlk
  obtain ⟨a, cap, hg, hBg, hown, -⟩ := hW6.text
  go_wp2_with (go_at_call 217; refine (finish_calls _ _ _ hg).mono ?_; rintro e w99 ⟨rfl, rfl⟩)
  go_ret
  exact ⟨_, rfl, hown.lower (by omega), HB6.out⟩

end Go.Proofs.Qxb6500666aGreatDoor
