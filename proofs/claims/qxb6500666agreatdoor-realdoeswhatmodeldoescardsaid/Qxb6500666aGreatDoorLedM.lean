/- The receiver's ledger in memory; Taken, Rows; Parse of a text without a newline. -/
import Derived.Test.Qxb6500666aGreatDoorLedP
import Derived.Test.Qxb6500666aGreatDoorChnW
import Derived.Test.Qxb6500666aGreatDoorWkParse
import Derived.Test.Qxb6500666aGreatDoorDamR
namespace Go.Proofs.Qxb6500666aGreatDoor
open Go.RowKit
attribute [local go_sem] ext_const Ext.cell Ext.frozen Ext.rng Ext.whole

def ledCs (L : Led) (v : SV) : Array Value := #[.int .u32 L.taken, .int .u32 L.base, .int .i64 L.issued, sv v]
/-- A ledger, in the block G. -/
structure LedAt (w : World) (G : Nat) (L : Led) (v : SV) : Prop where
  top : w.heap[G]? = some (.cells (ledCs L v) 154 (0, 0))
  rows : RArr w (· ≠ G) 13 rowCs (sv v) L.rows
theorem LedAt.lt {w : World} {G : Nat} {L : Led} {v : SV} (h : LedAt w G L v) : G < w.heap.size := blk_lt h.top
theorem LedAt.four {w : World} {G : Nat} {L : Led} {v : SV} (h : LedAt w G L v) : w.cell? ⟨G, 0, none⟩ = some (.int .u32 L.taken) ∧ w.cell? ⟨G, 1, none⟩ = some (.int .u32 L.base) ∧ w.cell? ⟨G, 2, none⟩ = some (.int .i64 L.issued) ∧ w.cell? ⟨G, 3, none⟩ = some (sv v) ∧ (∀ j, w.frozen? ⟨G, j, none⟩ = false) ∧ G < w.heap.size := cell_four (x0 := .int .u32 L.taken) (x1 := .int .u32 L.base) (x2 := .int .i64 L.issued) (x3 := sv v) h.top
theorem LedAt.below {w w' : World} {G : Nat} {L : Led} {v : SV} (h : LedAt w G L v) (hb : Below w.heap.size w w') : LedAt w' G L v := ⟨(hb.block _ h.lt).trans h.top, RArr.below h.rows hb⟩
theorem LedAt.new (w : World) : LedAt (w.alloc (.cells (ledCs led0 (none, 0, 0)) 154)) w.heap.size led0 (none, 0, 0) :=
  ⟨heap_alloc_at _ _, none, 0, 0, 0, rfl, Nat.le_refl _, ⟨by unfold maxLen; omega, fun _ => rfl⟩, by simp [led0], fun h => absurd h (by simp [led0]), fun i h => absurd h (by simp [led0])⟩

theorem taken_calls (w : World) (G : Nat) (L : Led) (v : SV) (h : LedAt w G L v) :
    Calls Tryz.prog 55 #[.pointer (some ⟨G, 0, none⟩)] w fun e w' => e = .returned (.int .u32 L.taken) ∧ w = w' := by
  obtain ⟨c0, -⟩ := h.four
  clear h
  go_enter Tryz.func55, Tryz.ntmps55
  go_wp2
  go_ret
  exact ⟨rfl, rfl⟩

theorem ledRows_calls (w : World) (G : Nat) (L : Led) (v : SV) (h : LedAt w G L v) (hl : L.rows.length ≤ 100000000) :
    Calls Tryz.prog 58 #[.pointer (some ⟨G, 0, none⟩)] w fun e w' => ∃ u, e = .returned u ∧ OwnR w' w.heap.size 109 13 rowCs u L.rows ∧ Below w.heap.size w w' := by
  obtain ⟨-, -, -, c3, -⟩ := h.four
  obtain ⟨a, cap, b, off, hv, hl1, hl2, hl3, ha, hc⟩ := h.rows
  obtain ⟨va, vn, vc⟩ := v
  injection hv with e1 e2 e3
  subst e1
  subst e2
  subst e3
  have c3 : w.cell? ⟨G, 3, none⟩ = some (.slice va L.rows.length vc) := c3
  clear h
  go_enter Tryz.func58, Tryz.ntmps58
  go_wp2_with (at_builtin; refine wpList_appN (α := Row) rfl _ _ 150 rfl w.heap.size 109 rowCs Tryz.underlying150 Tryz.info109 rfl (by decide) rowCs_size rowCs_one _ [] rfl (OwnR.nil _ _ _ _ _) va L.rows.length vc rfl L.rows rfl hl2.2 (fun h => ⟨b, off, (ha h).1, hc⟩) (by simp; omega) (by unfold maxLen; simp; omega) (Nat.le_refl _) ?_; intro v2 w2 hown2 hsame2 hbel2 hat2)
  go_ret
  exact ⟨_, rfl, hown2, hbel2⟩

attribute [local go_sem ↓] exec_ldRow exec_ldChange exec_ldFile exec_stRow exec_stChange exec_stFile exec_bsRow exec_bsChange exec_slRows exec_bdChange exec_eqlRow exec_neqRow
attribute [local go_sem] run_ldRow run_ldChange run_ldFile run_stRow run_stChange run_stFile run_bsRow run_bsChange run_bdChange run_neqRow run_eqlRow rng_alloc_lt rng_alloc_at rng_drew rng_drewN rng_setCell_other rng_setRow_other whole_alloc_lt whole_alloc_at whole_drew whole_setCell_other whole_setRow_other setRow_alloc_at setRow_alloc_lt setRow_drew rowCs_size rowCs_ones rowCs_0 rowCs_1 rowCs_2 rowCs_3 rowCs_4 rowCs_5 rowCs_6 rowCs_7 rowCs_8 rowCs_9 rowCs_10 rowCs_11 rowCs_12 rowCs_all changeCs_size changeCs_ones changeCs_0 changeCs_row changeCs_all fileCs_size fileCs_ones fileCs_0 fileCs_1 fileCs_2 fileCs_3 fileCs_4 fileCs_all ext_const Ext.cell Ext.frozen Ext.rng Ext.whole
set_option maxRecDepth 100000 in
set_option maxHeartbeats 2000000 in
/-- Parse of a text without a newline. -/
theorem parse_line (w : World) (b off n cap : Nat) (data : List Int) (hcap : n ≤ cap ∧ cap ≤ maxLen) (hbl : b < w.heap.size) (hd : ∀ t (h : t < data.length), w.cell? ⟨b, off + t, none⟩ = some (.int .u8 data[t])) (hn : data.length = n) (hn2 : n ≤ 1000000000000) (h10 : (10 : Int) ∉ data) :
    Calls Tryz.prog 33 #[.slice (some ⟨b, off, none⟩) n cap] w fun e w' => ∃ E, e = .returned (.tuple #[.agg zFile, .iface 241 (.pointer (some ⟨E, 0, none⟩))]) ∧ Below w.heap.size w w' := by
  have HD := hide hd
  have HN := hide hn
  have HCP := hide hcap
  have H10 := hide h10
  clear hd hn hcap h10
  go_enter Tryz.func33, Tryz.ntmps33
  go_upto_region 2 with fail
  obtain ⟨G, hG⟩ : ∃ G, w.heap.size = G := ⟨_, rfl⟩
  have hb1 := below2 w (.cells #[.int .u8 0, .int .u32 0, .int .i64 0, .int .u32 0, .slice none 0 0] 59) (.cells #[.slice (some ⟨b, off, none⟩) n cap, .int .i64 0, .int .i64 0] 224)
  have hk0 : ((w.alloc (.cells #[.int .u8 0, .int .u32 0, .int .i64 0, .int .u32 0, .slice none 0 0] 59)).alloc (.cells #[.slice (some ⟨b, off, none⟩) n cap, .int .i64 0, .int .i64 0] 224)).heap[w.heap.size]? = some (.cells zFile 59 (0, 0)) := by rw [Below.heap_alloc _ _ _ (by simp), heap_alloc_at]; rfl
  have hk1 : ReaderAt ((w.alloc (.cells #[.int .u8 0, .int .u32 0, .int .i64 0, .int .u32 0, .slice none 0 0] 59)).alloc (.cells #[.slice (some ⟨b, off, none⟩) n cap, .int .i64 0, .int .i64 0] 224)) (w.heap.size + 1) (.slice (some ⟨b, off, none⟩) n cap) (0 : Nat) 0 := by
    have := heap_alloc_at (w.alloc (.cells #[.int .u8 0, .int .u32 0, .int .i64 0, .int .u32 0, .slice none 0 0] 59)) (.cells #[.slice (some ⟨b, off, none⟩) n cap, .int .i64 0, .int .i64 0] 224)
    simpa [ReaderAt] using this
  have hz1 : ((w.alloc (.cells #[.int .u8 0, .int .u32 0, .int .i64 0, .int .u32 0, .slice none 0 0] 59)).alloc (.cells #[.slice (some ⟨b, off, none⟩) n cap, .int .i64 0, .int .i64 0] 224)).heap.size = w.heap.size + 2 := by simp
  generalize ((w.alloc (.cells #[.int .u8 0, .int .u32 0, .int .i64 0, .int .u32 0, .slice none 0 0] 59)).alloc (.cells #[.slice (some ⟨b, off, none⟩) n cap, .int .i64 0, .int .i64 0] 224)) = W1 at *
  have HD1 : Hid (∀ t (h : t < data.length), W1.cell? ⟨b, off + t, none⟩ = some (.int .u8 data[t])) := fun t h => by
    rw [World.cell?_of_block (w := w) (hb1.block _ hbl)]
    exact HD.out t h
  rw [hG] at hb1 hk0 hk1 hz1 hbl ⊢
  have HG := hide hG
  have HPR1 : Hid (PR w W1 G) := ⟨hk0, hb1⟩
  have HNX := hide (next_any W1 (G + 1) n cap b off data 0 0 6 hk1 (by omega) HCP.out (by omega) HD1.out HN.out (by omega) (by omega) (by omega) (by omega) ⟨by omega, by omega⟩)
  clear hG hb1 hk0 hk1
  have HNY : Hid (Calls Tryz.prog 103 #[.pointer (some ⟨G + 1, 0, none⟩), .int .i64 (6 : Nat)] W1 fun e w' => ∃ E, e = .returned (.tuple #[.pointer none, .iface 241 (.pointer (some ⟨E, 0, none⟩))]) ∧ RdSt W1 w' (G + 1)) := HNX.out.mono fun e w' h => by
    cases h with
    | bad E he hE hp hs => exact ⟨E, he, hs⟩
    | good g ps line he hg hF hw hP hR hpos hline hcat hs =>
      exfalso
      apply H10.out
      rw [List.drop_zero] at hline
      rw [hline]
      simp
  clear HNX
  go_wp2_with (go_at_call 103; refine HNY.out.mono ?_; rintro e w2 ⟨E, rfl, hs⟩; have HPR2 := hide (HPR1.out.rd hs (by omega)); have hwh := HPR2.out.whole; clear hs)
  have hfin := heap_setRow_at (ds := zFile) HPR2.out.res
  refine bodyPost_ret (results_cell_tmp Tryz.results33 _ _ G _ _ _ _ rfl hfin Tryz.underlying59 rfl (by kernel_rfl)) rfl ?_
  refine ⟨E, rfl, ?_⟩
  rw [HG.out]
  exact HPR2.out.blw.trans ⟨rfl, rfl, rfl, by simp, fun k hk => setRow_other _ _ _ _ (by omega)⟩
end Go.Proofs.Qxb6500666aGreatDoor
