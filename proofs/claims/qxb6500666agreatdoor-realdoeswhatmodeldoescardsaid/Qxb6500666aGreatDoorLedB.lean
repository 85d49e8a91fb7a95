/- Take of a text that is no file. -/
import Derived.Test.Qxb6500666aGreatDoorLedM
namespace Go.Proofs.Qxb6500666aGreatDoor
open Go.RowKit
attribute [local go_sem ↓] exec_ldRow exec_ldChange exec_ldFile exec_stRow exec_stChange exec_stFile exec_bsRow exec_bsChange exec_slRows exec_bdChange exec_eqlRow exec_neqRow
attribute [local go_sem] run_ldRow run_ldChange run_ldFile run_stRow run_stChange run_stFile run_bsRow run_bsChange run_bdChange run_neqRow run_eqlRow rng_alloc_lt rng_alloc_at rng_drew rng_drewN rng_setCell_other rng_setRow_other whole_alloc_lt whole_alloc_at whole_drew whole_setCell_other whole_setRow_other setRow_alloc_at setRow_alloc_lt setRow_drew rowCs_size rowCs_ones rowCs_0 rowCs_1 rowCs_2 rowCs_3 rowCs_4 rowCs_5 rowCs_6 rowCs_7 rowCs_8 rowCs_9 rowCs_10 rowCs_11 rowCs_12 rowCs_all changeCs_size changeCs_ones changeCs_0 changeCs_row changeCs_all fileCs_size fileCs_ones fileCs_0 fileCs_1 fileCs_2 fileCs_3 fileCs_4 fileCs_all ext_const Ext.cell Ext.frozen Ext.rng Ext.whole

attribute [local go_sem] file_ones change_ones
theorem zFile_ones : ones zFile 5 = true := rfl
theorem zFile_size : zFile.size = 5 := rfl
attribute [local go_sem] zFile_ones zFile_size
set_option maxRecDepth 100000 in
set_option maxHeartbeats 2000000 in
theorem ledTake_bad (W : World) (G : Nat) (b off n cap : Nat) (data : List Int) (hcap : n ≤ cap ∧ cap ≤ maxLen) (hbl : b < W.heap.size) (hd : ∀ t (h : t < data.length), W.cell? ⟨b, off + t, none⟩ = some (.int .u8 data[t])) (hn : data.length = n) (hn2 : n ≤ 1000000000000) (h10 : (10 : Int) ∉ data) :
    Calls Tryz.prog 54 #[.pointer (some ⟨G, 0, none⟩), .slice (some ⟨b, off, none⟩) n cap] W fun e w' => ∃ E, e = .returned (.iface 241 (.pointer (some ⟨E, 0, none⟩))) ∧ Below W.heap.size W w' := by
  have HPS := hide (parse_line W b off n cap data hcap hbl hd hn hn2 h10)
  clear hd hn hcap h10
  go_enter Tryz.func54, Tryz.ntmps54
  go_upto_region 2 with (go_at_call 33; refine HPS.out.mono ?_; rintro e W1 ⟨E, rfl, hb1⟩)
  go_wp2
  go_ret
  exact ⟨E, rfl, hb1.alloc hb1.size _⟩
end Go.Proofs.Qxb6500666aGreatDoor
