/- The account, the request and the entry, written. -/
import Derived.Test.Qxb6500666aGreatDoorEnc
namespace Go.Proofs.Qxb6500666aGreatDoor
open Go.RowKit

def accB (role : Int) (active : Bool) : List Int := d256 1 role ++ d256 1 (if active then 1 else 0)
set_option maxRecDepth 100000 in
set_option maxHeartbeats 1000000 in
theorem acc_calls (w : World) (role : Int) (active : Bool) (h1 : U8 role) :
    Calls Tryz.prog 303 #[.agg #[.int .u8 role, .bool active]] w fun e w' => Enc w w' e (accB role active) := by
  go_enter Tryz.func303, Tryz.ntmps303
  have hb0 : Below w.heap.size w ((w.alloc (.cells #[.int .u8 role, .bool active] 314)).alloc (.cells #[.slice none 0 0] 373)) := ((Below.refl _ _).alloc (Nat.le_refl _) _).alloc (by simp) _
  have hW0 := writer_new (w.alloc (.cells #[.int .u8 role, .bool active] 314)) (w.heap.size + 1) (by simp)
  have hx0 : ((w.alloc (.cells #[.int .u8 role, .bool active] 314)).alloc (.cells #[.slice none 0 0] 373)).heap[w.heap.size]? = some (.cells #[.int .u8 role, .bool active] 314 (0, 0)) := (Below.heap_alloc _ _ _ (by simp)).trans (heap_alloc_at _ _)
  go_upto_region 2 with fail
  generalize ((w.alloc (.cells #[.int .u8 role, .bool active] 314)).alloc (.cells #[.slice none 0 0] 373)) = W at *
  have HB0 := hide hb0
  have ck : W.cell? ⟨w.heap.size, 0, none⟩ = some (.int .u8 role) := by rw [World.cell?, hx0]; rfl
  have hlk := blk_lt hx0
  go_upto_region 3 with (go_at_call 215; refine (wU8_calls _ _ _ _ _ role hW0 (by simp) h1.1 h1.2).mono ?_; rintro e w1 ⟨rfl, hV1⟩)
  have HB1 := hide (HB0.out.trans (hV1.below.mono (by omega)))
  have hx1 := (hV1.below.block _ (by omega)).trans hx0
  have ck1 : w1.cell? ⟨w.heap.size, 1, none⟩ = some (.bool active) := by rw [World.cell?, hx1]; rfl
  have hlk1 := blk_lt hx1
  clear ck hlk hW0 HB0 hx0 hb0
  cases active with
  | true =>
    go_upto_region 6 with (go_at_call 215; refine (wU8_calls _ _ _ _ _ 1 hV1.text (by simp [d256_len]) (by decide) (by decide)).mono ?_; rintro e w2 ⟨rfl, hV2⟩)
    have HB2 := hide (HB1.out.trans (hV2.below.mono (by omega)))
    obtain ⟨a, cap, hg, hBg, hown, -⟩ := hV2.text
    go_wp2_with (go_at_call 217; refine (finish_calls _ _ _ hg).mono ?_; rintro e w99 ⟨rfl, rfl⟩)
    go_ret
    exact ⟨_, rfl, hown.lower (by omega), HB2.out⟩
  | false =>
    go_upto_region 6 with (go_at_call 215; refine (wU8_calls _ _ _ _ _ 0 hV1.text (by simp [d256_len]) (by decide) (by decide)).mono ?_; rintro e w2 ⟨rfl, hV2⟩)
    have HB2 := hide (HB1.out.trans (hV2.below.mono (by omega)))
    obtain ⟨a, cap, hg, hBg, hown, -⟩ := hV2.text
    go_wp2_with (go_at_call 217; refine (finish_calls _ _ _ hg).mono ?_; rintro e w99 ⟨rfl, rfl⟩)
    go_ret
    exact ⟨_, rfl, hown.lower (by omega), HB2.out⟩

end Go.Proofs.Qxb6500666aGreatDoor
