/- render and Render, walked. -/
import Derived.Test.Qxb6500666aGreatDoorCheckWalk
import Derived.Test.Qxb6500666aGreatDoorMix
import Derived.Laws.MakeOwn
import Derived.BigRegion
namespace Go.Proofs.Qxb6500666aGreatDoor
open Go.RowKit
attribute [local go_sem ↓] exec_ldRow exec_ldChange exec_ldFile exec_stRow exec_stChange exec_stFile exec_bsRow exec_bsChange exec_slRows exec_bdChange exec_eqlRow exec_neqRow
attribute [local go_sem] run_ldRow run_ldChange run_ldFile run_stRow run_stChange run_stFile run_bsRow run_bsChange run_bdChange run_neqRow run_eqlRow rng_alloc_lt rng_alloc_at rng_drew rng_drewN rng_setCell_other rng_setRow_other whole_alloc_lt whole_alloc_at whole_drew whole_setCell_other whole_setRow_other setRow_alloc_at setRow_alloc_lt setRow_drew rowCs_size rowCs_ones rowCs_0 rowCs_1 rowCs_2 rowCs_3 rowCs_4 rowCs_5 rowCs_6 rowCs_7 rowCs_8 rowCs_9 rowCs_10 rowCs_11 rowCs_12 rowCs_all changeCs_size changeCs_ones changeCs_0 changeCs_row changeCs_all fileCs_size fileCs_ones fileCs_0 fileCs_1 fileCs_2 fileCs_3 fileCs_4 fileCs_all ext_const Ext.cell Ext.frozen Ext.rng Ext.whole

/-- A header, stored whole. -/
theorem Tryz.size71 (w : World) : (sizeOf 71).run Tryz.prog w = .ok 7 w := by kernel_rfl
section
variable (ρ : Operand → Value) (dst : Option Tmp) (x y : Operand) (ty : TypeId) (pos : String) (after : Array Edge) (guard : Option (Nat × Bool))
theorem exec_stHeader : execOp ρ { dst, op := .store 71 x y, type := ty, pos, after, guard } = (do stS 71 (ρ x) (ρ y); pure .skip) := rfl
end
theorem run_stHeader (w : World) (b : Nat) (cs : Array Value) : (stS 71 (.pointer (some ⟨b, 0, none⟩)) (.agg cs)).run Tryz.prog w = if whole w b 7 = true ∧ ones cs 7 = true then .ok () (w.setRow b cs) else (Instr.storeAt 71 (.pointer (some ⟨b, 0, none⟩)) (.agg cs)).run Tryz.prog w :=
  run_stS Tryz.size71 w b cs
/-- A header's cells. -/
def hdCs (k s i b n c l : Int) : Array Value := #[.int .u8 k, .int .u32 s, .int .i64 i, .int .u32 b, .int .u32 n, .int .u32 c, .int .u32 l]
theorem hdCs_ones' (k s i b n c l : Int) : ones (hdCs k s i b n c l) 7 = true := rfl
theorem hdCs_ones (k s i b n c l : Int) : ones #[.int .u8 k, .int .u32 s, .int .i64 i, .int .u32 b, .int .u32 n, .int .u32 c, .int .u32 l] 7 = true := rfl
attribute [local go_sem ↓] exec_stHeader
attribute [local go_sem] run_stHeader hdCs_ones hdCs_ones'

theorem results_tmp_cell {P : Program} {fn : Func} {q p : Tmp} {ty : TypeId} (h : fn.results = #[.tmp q, .cell p ty]) (tmps : Array Value) (w : World) (g : Nat) (t : TypeId) (cs : Array Value) (fr : Nat × Nat) (d : TypeDesc)
    (hp : tmps.getD p undef = .pointer (some ⟨g, 0, none⟩)) (hg : w.heap[g]? = some (.cells cs t fr))
    (hu : P.underlying ty = some d) (hd : (match d with | .struct _ | .array _ _ => true | _ => false) = true) (hi : (P.info? ty).map (·.size) = some cs.size) :
    (results fn tmps).run P w = .ok (.tuple #[tmps.getD q undef, .agg cs]) w := by
  have hp' : tmps[p]?.getD undef = .pointer (some ⟨g, 0, none⟩) := by simpa using hp
  simp [results, h, hp', asAddr, run_loadVar_row w g t ty cs fr d hg hu hd hi]

theorem results_cell_tmp {P : Program} {fn : Func} {q p : Tmp} {ty : TypeId} (h : fn.results = #[.cell p ty, .tmp q]) (tmps : Array Value) (w : World) (g : Nat) (t : TypeId) (cs : Array Value) (fr : Nat × Nat) (d : TypeDesc)
    (hp : tmps.getD p undef = .pointer (some ⟨g, 0, none⟩)) (hg : w.heap[g]? = some (.cells cs t fr))
    (hu : P.underlying ty = some d) (hd : (match d with | .struct _ | .array _ _ => true | _ => false) = true) (hi : (P.info? ty).map (·.size) = some cs.size) :
    (results fn tmps).run P w = .ok (.tuple #[.agg cs, tmps.getD q undef]) w := by
  have hp' : tmps[p]?.getD undef = .pointer (some ⟨g, 0, none⟩) := by simpa using hp
  simp [results, h, hp', asAddr, run_loadVar_row w g t ty cs fr d hg hu hd hi]

theorem heap_setRow_at {w : World} {g : Nat} {cs ds : Array Value} {t : TypeId} (h : w.heap[g]? = some (.cells cs t (0, 0))) : (w.setRow g ds).heap[g]? = some (.cells ds t (0, 0)) := setRow_heap w g cs ds t _ h

theorem OwnR.baseLe {α : Type} {w : World} {base base' : Nat} {e : TypeId} {size : Nat} {f : α → Array Value} {v : Value} {xs : List α} (h : OwnR w base e size f v xs) (hb : base' ≤ base) : OwnR w base' e size f v xs := by
  obtain ⟨h1, h2⟩ := h
  refine ⟨h1, ?_⟩
  rcases h2 with h2 | ⟨g, cap, cur, h3, hg, r⟩
  · exact Or.inl h2
  · exact Or.inr ⟨g, cap, cur, h3, Nat.le_trans hb hg, r⟩

def trailText (bs : List Int) (n : Int) : List Int := bs ++ [84] ++ fld n ++ fld (crc bs) ++ [10]
def headText (k s i b n : Int) : List Int := [72] ++ [124, k] ++ fld s ++ fld i ++ fld b ++ fld n ++ [10]
theorem flatL_snoc {α β : Type} (f : α → List β) (l : List α) (x : α) : flatL f (l ++ [x]) = flatL f l ++ f x := by
  induction l with
  | nil => simp [flatL]
  | cons y l ih => simp [flatL, ih]

def linesText (cs : List Change) : List Int := flatL rowText cs
def bodyText (k s i b : Int) (cs : List Change) : List Int := headText k s i b cs.length ++ linesText cs
def fileText (k s i b : Int) (cs : List Change) : List Int := trailText (bodyText k s i b cs) cs.length

set_option maxRecDepth 100000 in
set_option maxHeartbeats 2000000 in
theorem trailer_calls (w : World) (B g : Nat) (A : Nat → Prop) (bs : List Int) (n : Int) (h : TextAt w B g A bs) (hl : bs.length ≤ 17592186044416) (hn : I64 n) :
    Calls Tryz.prog 140 #[.pointer (some ⟨g, 0, none⟩), .int .i64 n] w fun e w' => e = .returned (.int .u32 (crc bs)) ∧ Wrote w w' B g A (trailText bs n) := by
  have h0 := h
  obtain ⟨a, cap, hg, hB, hown, hne, -, -, -⟩ := h
  obtain ⟨hc, -, hgl⟩ := cell_one hg
  have hby : BytesAt w (B ≤ ·) (.slice a bs.length cap) bs := hown.rows byteCs_size (by decide) (by omega)
  have hcr : U32 (crc bs) := ⟨crc_lo bs, crc_hi bs⟩
  generalize hcv : crc bs = s at *
  go_enter Tryz.func140, Tryz.ntmps140
  go_upto_region 2 with (go_at_call 46; refine (checksum_calls _ _ _ bs hby).mono ?_; rintro e w1 ⟨rfl, rfl⟩; rw [hcv])
  obtain ⟨x0, e0⟩ : ∃ x0, bs ++ [84] = x0 := ⟨_, rfl⟩
  go_upto_region 3 with (go_at_call 130; refine (open_calls _ B g _ bs 84 h0 (by omega)).mono ?_; rintro e w1 ⟨rfl, hW1⟩)
  rw [e0] at hW1
  have l1 : x0.length ≤ bs.length + 1 := by rw [← e0]; simp
  obtain ⟨x1, e1⟩ : ∃ x1, x0 ++ fld n = x1 := ⟨_, rfl⟩
  go_upto_region 4 with (go_at_call 132; refine (number_fld _ B g _ x0 x1 n _ hW1.text l1 (by omega) hn e1).mono ?_; rintro e w2 ⟨rfl, hW2, l2⟩)
  obtain ⟨x2, e2⟩ : ∃ x2, x1 ++ fld s = x2 := ⟨_, rfl⟩
  go_upto_region 5 with (go_at_call 135; refine (id_fld _ B g _ x1 x2 s _ hW2.text l2 (by omega) hcr e2).mono ?_; rintro e w3 ⟨rfl, hW3, l3⟩)
  go_wp2_with (go_at_call 133; refine (close_calls _ B g _ x2 hW3.text (by omega)).mono ?_; rintro e w4 ⟨rfl, hW4⟩)
  go_ret
  have hE : x2 ++ [10] = trailText bs n := by rw [← e2, ← e1, ← e0, trailText, hcv]
  rw [hE] at hW4
  exact ⟨rfl, ((hW1.trans hW2).trans hW3).trans hW4⟩

set_option maxRecDepth 100000 in
set_option maxHeartbeats 4000000 in
theorem render_exact (w : World) (ok : Nat → Prop) (k s i bb : Int) (a : Option Addr) (cap : Nat) (cs : List Change) (h : ChangesAt w ok (.slice a cs.length cap) cs) (hlen : cs.length ≤ 100000000) (hs : U32 s) (hi : I64 i) (hb : U32 bb) (hok : ∀ c ∈ cs, c.Ok) :
    Calls Tryz.prog 123 #[.agg (fileCs k s i bb a cs.length cap)] w fun e w' => ∃ v c l, e = .returned (.tuple #[v, .agg (hdCs k s i bb cs.length c l)]) ∧ OwnR w' w.heap.size 5 1 byteCs v (fileText k s i bb cs) ∧ Below w.heap.size w w' ∧ Hid (c = crc (bodyText k s i bb cs) ∧ l = ((fileText k s i bb cs).length : Int) % 4294967296) := by
  obtain ⟨a', cap', b, off, hv, hl, hm, hr, ha, hc⟩ := RArr.lt h
  simp only [Value.slice.injEq, true_and] at hv
  obtain ⟨rfl, rfl⟩ := hv
  obtain ⟨n, hn⟩ : ∃ n, cs.length = n := ⟨_, rfl⟩
  have Hn := hide hn
  rw [hn] at hl hr ha hlen ⊢
  have hix := run_indexAt_arr (P := Tryz.prog) (cap := cap) Tryz.underlying57 Tryz.size111 (fun h => (ha h).1)
  have HB : Hid (0 < n → b < w.heap.size) := fun h => (ha h).2.2
  have HC := hide hc
  have HOk := hide hok
  have Hs := hide hs
  have Hi := hide hi
  have Hbb := hide hb
  clear ha hc hn hm hl h hok hs hi hb
  go_enter Tryz.func123, Tryz.ntmps123
  go_upto_region 1 with fail
  obtain ⟨G, hG⟩ : ∃ G, w.heap.size = G := ⟨_, rfl⟩
  have hb1 := below2 w (.cells (fileCs k s i bb a n cap) 59) (.cells #[.int .u8 0, .int .u32 0, .int .i64 0, .int .u32 0, .int .u32 0, .int .u32 0, .int .u32 0] 71)
  have hk0 : ((w.alloc (.cells (fileCs k s i bb a n cap) 59)).alloc (.cells #[.int .u8 0, .int .u32 0, .int .i64 0, .int .u32 0, .int .u32 0, .int .u32 0, .int .u32 0] 71)).heap[w.heap.size]? = some (.cells (fileCs k s i bb a n cap) 59 (0, 0)) := by rw [Below.heap_alloc _ _ _ (by simp), heap_alloc_at]
  have hk1 : ((w.alloc (.cells (fileCs k s i bb a n cap) 59)).alloc (.cells #[.int .u8 0, .int .u32 0, .int .i64 0, .int .u32 0, .int .u32 0, .int .u32 0, .int .u32 0] 71)).heap[w.heap.size + 1]? = some (.cells #[.int .u8 0, .int .u32 0, .int .i64 0, .int .u32 0, .int .u32 0, .int .u32 0, .int .u32 0] 71 (0, 0)) := by
    have := heap_alloc_at (w.alloc (.cells (fileCs k s i bb a n cap) 59)) (.cells #[.int .u8 0, .int .u32 0, .int .i64 0, .int .u32 0, .int .u32 0, .int .u32 0, .int .u32 0] 71)
    simpa using this
  have hz1 : w.heap.size + 2 = ((w.alloc (.cells (fileCs k s i bb a n cap) 59)).alloc (.cells #[.int .u8 0, .int .u32 0, .int .i64 0, .int .u32 0, .int .u32 0, .int .u32 0, .int .u32 0] 71)).heap.size := by simp
  generalize (w.alloc (.cells (fileCs k s i bb a n cap) 59)).alloc (.cells #[.int .u8 0, .int .u32 0, .int .i64 0, .int .u32 0, .int .u32 0, .int .u32 0, .int .u32 0] 71) = W1 at *
  rw [hG] at hk0 hk1 hz1 ⊢
  have HG := hide hG
  clear hG
  have f0 := cells_all hk0
  obtain ⟨i0, hi0, hq0, hq1, hq2⟩ := info_parts Tryz.info5
  go_upto_region 2 with (at_make; refine wpList_make_own W1 rfl _ _ 55 rfl G 5 i0 _ 1 Tryz.underlying55 hi0 hq0 hq1 _ _ _ (64 + 96 * n) rfl rfl (by omega) (by rw [hq2]; omega) (by unfold maxLen; omega) (by omega) ?_; intro W2 hown0 hgr0)
  have hb2 : Below W1.heap.size W1 W2 := (Below.refl _ _).grown hgr0 (Nat.le_refl _) (fun k hk => by simp at hk)
  have hown1 : OwnR W2 G 5 1 byteCs (.slice (some ⟨W1.heap.size, 0, none⟩) 0 (64 + 96 * n)) [] := hown0
  have hlt2 : W1.heap.size < W2.heap.size := (hown1.block _ rfl).2
  have hT0 : TextAt (W2.alloc (.cells #[.slice (some ⟨W1.heap.size, 0, none⟩) 0 (64 + 96 * n)] 271)) G W2.heap.size (fun b => b = G ∨ b = G + 1) [] :=
    ⟨_, _, heap_alloc_at _ _, by omega, hown1.below ((Below.refl _ _).alloc (Nat.le_refl _) _) (Nat.le_refl _), by simp [Value.ownBlock]; omega, by omega, fun b hb => by simp [Value.ownBlock] at hb; omega, fun b hb => by simp; omega⟩
  have hWw : Below G w (W2.alloc (.cells #[.slice (some ⟨W1.heap.size, 0, none⟩) 0 (64 + 96 * n)] 271)) := by
    have e := HG.out
    rw [e] at hb1
    exact (hb1.trans (hb2.mono (by omega))).alloc (by omega) _
  have hk3 : (W2.alloc (.cells #[.slice (some ⟨W1.heap.size, 0, none⟩) 0 (64 + 96 * n)] 271)).heap[G]? = some (.cells (fileCs k s i bb a n cap) 59 (0, 0)) := by
    rw [Below.heap_alloc _ _ _ (by omega), hb2.block _ (by omega)]; exact hk0
  have hd3 : (W2.alloc (.cells #[.slice (some ⟨W1.heap.size, 0, none⟩) 0 (64 + 96 * n)] 271)).heap[G + 1]? = some (.cells #[.int .u8 0, .int .u32 0, .int .i64 0, .int .u32 0, .int .u32 0, .int .u32 0, .int .u32 0] 71 (0, 0)) := by
    rw [Below.heap_alloc _ _ _ (by omega), hb2.block _ (by omega)]; exact hk1
  generalize W2.alloc (.cells #[.slice (some ⟨W1.heap.size, 0, none⟩) 0 (64 + 96 * n)] 271) = W3 at *
  generalize W2.heap.size = T at *
  clear hown0 hown1 hgr0 hb2 hlt2 hi0 hq0 hq1 hq2 hk0 hk1 hz1 hb1 f0
  have c0 := cells_all hk3
  obtain ⟨x0, e0⟩ : ∃ x0, ([72] : List Int) = x0 := ⟨_, rfl⟩
  go_upto_region 3 with (go_at_call 130; refine (open_calls _ G T _ [] 72 hT0 (by simp)).mono ?_; rintro e w1 ⟨rfl, hW1⟩)
  simp only [List.nil_append] at hW1
  rw [e0] at hW1
  have l1 : x0.length ≤ 1 := by rw [← e0]; simp
  have k1 := (hW1.same G (Or.inl rfl)).trans hk3
  have c1 := cells_all k1
  clear c0
  obtain ⟨x1, e1⟩ : ∃ x1, x0 ++ [124, k] = x1 := ⟨_, rfl⟩
  go_upto_region 4 with (go_at_call 131; refine (letter_calls _ G T _ x0 k hW1.text (by omega)).mono ?_; rintro e w2 ⟨rfl, hV⟩)
  rw [e1] at hV
  have l2 : x1.length ≤ 3 := by rw [← e1]; simp; omega
  have hW2 := hW1.trans hV
  have k2 := (hV.same G (Or.inl rfl)).trans k1
  have c2 := cells_all k2
  clear hV c1
  obtain ⟨x2, e2⟩ : ∃ x2, x1 ++ fld s = x2 := ⟨_, rfl⟩
  go_upto_region 5 with (go_at_call 135; refine (id_fld _ G T _ x1 x2 s _ hW2.text l2 (by omega) Hs.out e2).mono ?_; rintro e w3 ⟨rfl, hV, l3⟩)
  have hW3 := hW2.trans hV
  have k3 := (hV.same G (Or.inl rfl)).trans k2
  have c3 := cells_all k3
  clear hV c2
  obtain ⟨x3, e3⟩ : ∃ x3, x2 ++ fld i = x3 := ⟨_, rfl⟩
  go_upto_region 6 with (go_at_call 132; refine (number_fld _ G T _ x2 x3 i _ hW3.text l3 (by omega) Hi.out e3).mono ?_; rintro e w4 ⟨rfl, hV, l4⟩)
  have hW4 := hW3.trans hV
  have k4 := (hV.same G (Or.inl rfl)).trans k3
  have c4 := cells_all k4
  clear hV c3
  obtain ⟨x4, e4⟩ : ∃ x4, x3 ++ fld bb = x4 := ⟨_, rfl⟩
  go_upto_region 7 with (go_at_call 135; refine (id_fld _ G T _ x3 x4 bb _ hW4.text l4 (by omega) Hbb.out e4).mono ?_; rintro e w5 ⟨rfl, hV, l5⟩)
  have hW5 := hW4.trans hV
  have k5 := (hV.same G (Or.inl rfl)).trans k4
  have c5 := cells_all k5
  clear hV c4
  obtain ⟨x5, e5⟩ : ∃ x5, x4 ++ fld (n : Int) = x5 := ⟨_, rfl⟩
  go_upto_region 8 with (go_at_call 132; refine (number_fld _ G T _ x4 x5 (n : Int) _ hW5.text l5 (by omega) ⟨by omega, by omega⟩ e5).mono ?_; rintro e w6 ⟨rfl, hV, l6⟩)
  have hW6 := hW5.trans hV
  have k6 := (hV.same G (Or.inl rfl)).trans k5
  have c6 := cells_all k6
  clear hV c5
  go_upto_region 9 with (go_at_call 133; refine (close_calls _ G T _ x5 hW6.text (by omega)).mono ?_; rintro e w7 ⟨rfl, hV⟩)
  have e6 : x5 ++ [10] = headText k s i bb n := by rw [← e5, ← e4, ← e3, ← e2, ← e1, ← e0]; rfl
  rw [e6] at hV
  have hW7 := hW6.trans hV
  have k7 := (hV.same G (Or.inl rfl)).trans k6
  have c7 := cells_all k7
  have l7 : (headText k s i bb n).length ≤ 128 := by rw [← e6]; simp; omega
  clear hV c6 hW1 hW2 hW3 hW4 hW5 hW6 k1 k2 k3 k4 k5 k6 l1 l2 l3 l4 l5 l6 e1 e2 e3 e4 e5 e6 e0 hT0
  have hkC := hWw
  go_wp2
  clear c7
  go_loopg [36] n (fun g j W => ∃ q : Nat, q ≤ n ∧ g = n - q ∧ j = .int .i64 q ∧ Wrote W3 W G T (fun b => b = G ∨ b = G + 1) (headText k s i bb n ++ linesText (cs.take q)) ∧ (headText k s i bb n ++ linesText (cs.take q)).length ≤ 128 + 275 * q)
  case atStart => exact ⟨0, by omega, by omega, rfl, by simpa [linesText, flatL] using hW7, by simpa [linesText, flatL] using l7⟩
  case round =>
    obtain ⟨q, hq, rfl, rfl, hWq, hlq⟩ := hrel
    by_cases hlt : q < n
    · have hqs : q < cs.length := by rw [Hn.out]; exact hlt
      have hbb' := HB.out (by omega)
      have hGw := HG.out
      have c0 : rng wr b (off + q * 14) 14 = some (changeCs cs[q]) := by
        rw [rng_of_block (hWq.below.block _ (by omega)), rng_of_block (hWw.block _ (by omega))]; exact HC.out q hqs
      have hcO := hide (HOk.out _ (List.getElem_mem hqs))
      have HLT : Hid (linesText (cs.take (q + 1)) = linesText (cs.take q) ++ rowText cs[q]) := by
        show _ = _
        rw [List.take_succ_eq_append_getElem hqs]
        exact flatL_snoc _ _ _
      generalize cs[q] = c at *
      obtain ⟨y, hy⟩ : ∃ y, headText k s i bb n ++ linesText (cs.take q) = y := ⟨_, rfl⟩
      rw [hy] at hWq hlq
      have hT1 := hWq.text.alloc (.cells (changeCs c) 111)
      have hGs : G ≤ wr.heap.size := by have := hWq.below.size; have := hWw.size; omega
      have hbw : b < wr.heap.size := by omega
      clear hGw
      go_wp2_with (go_at_call 167; refine (row_calls _ G T _ y c hT1 (by omega) (by simp; omega) hcO.out).mono ?_; rintro e w9 ⟨rfl, hV, lV⟩)
      go_roundg (n - (q + 1))
      case measure => omega
      case rel =>
        have hE : headText k s i bb n ++ linesText (cs.take (q + 1)) = y ++ rowText c := by rw [HLT.out, ← hy, List.append_assoc]
        refine ⟨q + 1, by omega, rfl, by go_num, ?_, by rw [hE]; omega⟩
        rw [hE]
        refine ⟨hV.text.sub fun b hb => Or.inl hb, hWq.below.trans (((Below.refl _ _).alloc hGs _).trans hV.below), hWq.same.trans fun b hb => ?_⟩
        rw [hV.same b (Or.inl hb), Below.heap_alloc _ _ _ (by have := hWq.text; obtain ⟨_, _, _, _, _, _, _, _, h3⟩ := this; exact h3 b hb)]
    · have hE : cs.take q = cs := List.take_of_length_le (by rw [Hn.out]; omega)
      rw [hE] at hWq hlq
      obtain ⟨y, hy⟩ : ∃ y, headText k s i bb n ++ linesText cs = y := ⟨_, rfl⟩
      rw [hy] at hWq hlq
      have kq := (hWq.same G (Or.inl rfl)).trans hk3
      have cq := cells_all kq
      go_upto_region 15 with (go_at_call 140; refine (trailer_calls _ G T _ y n hWq.text (by omega) ⟨by omega, by omega⟩).mono ?_; rintro e w9 ⟨rfl, hV⟩)
      have hWf := hWq.trans hV
      have kf := (hV.same G (Or.inl rfl)).trans kq
      have cf := cells_all kf
      have kd := (hWf.same (G + 1) (Or.inr rfl)).trans hd3
      have cd := cells_all kd
      clear cq
      obtain ⟨z, hz⟩ : ∃ z, trailText y n = z := ⟨_, rfl⟩
      rw [hz] at hWf
      obtain ⟨ax, capx, hgx, -, hownx, hnex, -, h2x, h3x⟩ := hWf.text
      obtain ⟨hcx, -, hTl⟩ := cell_one hgx
      have hzl : z.length ≤ 140737488355328 := by
        have h1 := fld_len (x := (n : Int)) ⟨by omega, by omega⟩
        have h2 := fld_len (x := crc y) ⟨by have := crc_lo y; omega, by have := crc_hi y; omega⟩
        rw [← hz, trailText]
        simp
        omega
      generalize hzle : z.length = zl at *
      have HZL := hide hzle
      clear hzle
      have hfd : ∀ j, w9.frozen? ⟨G + 1, j, none⟩ = false := fun j => by simp [World.frozen?, kd]
      have hwh : whole w9 (G + 1) 7 = true := by unfold whole; rw [kd]; rfl
      clear hfd cd
      refine wp_region_mix w9.heap.size [0, 1, 2, 3, 4, 5, 6, 7, 8, 9, 10, 11, 12, 13, 14, 15, 16, 17, 18, 19] 2 (by kernel_rfl) rfl (by kernel_rfl) (fun d _ _ _ _ h => by cases d <;> exact h) ?_
      simp only [opersAt, List.getElem?_toArray, List.getElem?_cons_zero, List.getElem?_cons_succ]
      repeat (go_big_quiet_step (fail))
      refine wpQuiet_nil ?_
      refine mixR_one (k := 20) (by kernel_rfl) rfl ?_
      go_wp2_with fail
      refine ⟨Or.inr ⟨⟨_, (Below.refl _ _).drew⟩, rfl⟩, ?_⟩
      refine mixR_one (k := 21) (by kernel_rfl) rfl ?_
      go_wp2_with fail
      refine ⟨Or.inl (by kernel_rfl), ?_⟩
      refine mixR_nil (by kernel_rfl) ?_
      go_wp2_with fail
      have hfin : (w9.setRow (G + 1) (hdCs k s i bb n (crc y) ((zl : Int) % 4294967296))).drew.heap[G + 1]? = some (.cells (hdCs k s i bb n (crc y) ((zl : Int) % 4294967296)) 71 (0, 0)) := heap_setRow_at kd
      refine bodyPost_ret (results_tmp_cell Tryz.results123 _ _ (G + 1) _ _ _ _ rfl hfin Tryz.underlying71 rfl (by kernel_rfl)) rfl ?_
      refine ⟨_, _, _, rfl, ?_, ?_, ?_⟩
      · have hE2 : fileText k s i bb cs = z := by rw [← hz, ← hy, fileText, bodyText, Hn.out]
        rw [hE2, HG.out]
        exact OwnR.mono hownx fun b hb => setRow_other _ _ _ _ (fun e => h2x b hb (Or.inr e))
      · rw [HG.out]
        have hsr : Below G w9 (w9.setRow (G + 1) (hdCs k s i bb n (crc y) ((zl : Int) % 4294967296))) := ⟨rfl, rfl, rfl, by simp, fun k hk => setRow_other _ _ _ _ (by omega)⟩
        exact ((hWw.trans hWf.below).trans hsr).drew
      · have hE2 : fileText k s i bb cs = z := by rw [← hz, ← hy, fileText, bodyText, Hn.out]
        have hE3 : bodyText k s i bb cs = y := by rw [← hy, bodyText, Hn.out]
        exact ⟨by rw [hE3], by rw [hE2, HZL.out]⟩

theorem render_calls (w : World) (ok : Nat → Prop) (k s i bb : Int) (a : Option Addr) (cap : Nat) (cs : List Change) (h : ChangesAt w ok (.slice a cs.length cap) cs) (hlen : cs.length ≤ 100000000) (hs : U32 s) (hi : I64 i) (hb : U32 bb) (hok : ∀ c ∈ cs, c.Ok) :
    Calls Tryz.prog 123 #[.agg (fileCs k s i bb a cs.length cap)] w fun e w' => ∃ v c l, e = .returned (.tuple #[v, .agg (hdCs k s i bb cs.length c l)]) ∧ OwnR w' w.heap.size 5 1 byteCs v (fileText k s i bb cs) ∧ Below w.heap.size w w' := by
  refine (render_exact w ok k s i bb a cap cs h hlen hs hi hb hok).mono ?_
  rintro e w' ⟨v, c, l, h1, h2, h3, -⟩
  exact ⟨v, c, l, h1, h2, h3⟩

set_option maxRecDepth 100000 in
set_option maxHeartbeats 2000000 in
/-- Render of a file: the whole. -/
theorem render_ok (w : World) (ok : Nat → Prop) (k s i bb : Int) (a : Option Addr) (cap : Nat) (cs : List Change) (h : ChangesAt w ok (.slice a cs.length cap) cs) (hlen : cs.length ≤ 100000000) (hs : U32 s) (hi : I64 i) (hb : U32 bb) (hok : ∀ c ∈ cs, c.Ok) (hF : FileOk k s i bb cs) :
    Calls Tryz.prog 71 #[.agg (fileCs k s i bb a cs.length cap)] w fun e w' => ∃ v, e = .returned (.tuple #[v, .nilIface]) ∧ OwnR w' w.heap.size 5 1 byteCs v (fileText k s i bb cs) ∧ Below w.heap.size w w' := by
  have HF := hide hF
  have Hok := hide hok
  have Hh := hide h
  have Hs := hide hs
  have Hi := hide hi
  have Hb := hide hb
  have Hl := hide hlen
  clear h hF hok hs hi hb hlen
  have hb0 : Below w.heap.size w (w.alloc (.cells (fileCs k s i bb a cs.length cap) 59)) := (Below.refl _ _).alloc (Nat.le_refl _) _
  go_enter Tryz.func71, Tryz.ntmps71
  go_upto_region 2 with (go_at_call 114; refine (checkFile_calls _ ok k s i bb a cap cs (RArr.below Hh.out hb0) .nilIface (fun _ => rfl) (fun h => absurd HF.out h)).mono ?_; rintro e w1 ⟨rfl, hb1⟩)
  have hb01 := hb0.trans (hb1.mono hb0.size)
  have hk : w1.heap[w.heap.size]? = some (.cells (fileCs k s i bb a cs.length cap) 59 (0, 0)) := by rw [hb1.block _ (by simp)]; exact heap_alloc_at _ _
  have hrf : rng w1 w.heap.size 0 5 = some (fileCs k s i bb a cs.length cap) := by unfold rng; rw [hk]; rfl
  clear hb1 hk
  go_wp2_with (go_at_call 123; refine (render_calls _ ok k s i bb a cap cs (RArr.below Hh.out hb01) Hl.out Hs.out Hi.out Hb.out Hok.out).mono ?_; rintro e w2 ⟨v, c, l, rfl, hown, hb2⟩)
  go_ret2
  exact ⟨_, rfl, (OwnR.baseLe hown hb01.size).below ((Below.refl _ _).alloc (Nat.le_refl _) _) (Nat.le_refl _), (hb01.trans (hb2.mono hb01.size)).alloc (by have := hb01.size; have := hb2.size; omega) _⟩

set_option maxRecDepth 100000 in
set_option maxHeartbeats 2000000 in
/-- Render of what is no file. -/
theorem render_bad (w : World) (ok : Nat → Prop) (k s i bb : Int) (a : Option Addr) (cap : Nat) (cs : List Change) (h : ChangesAt w ok (.slice a cs.length cap) cs) (hF : ¬ FileOk k s i bb cs) :
    Calls Tryz.prog 71 #[.agg (fileCs k s i bb a cs.length cap)] w fun e w' => e = .returned (.tuple #[.slice none 0 0, .iface 63 (.int .u8 29)]) ∧ Below w.heap.size w w' := by
  have HF := hide hF
  have Hh := hide h
  clear h hF
  have hb0 : Below w.heap.size w (w.alloc (.cells (fileCs k s i bb a cs.length cap) 59)) := (Below.refl _ _).alloc (Nat.le_refl _) _
  go_enter Tryz.func71, Tryz.ntmps71
  go_wp2_with (go_at_call 114; refine (checkFile_calls _ ok k s i bb a cap cs (RArr.below Hh.out hb0) (.iface 63 (.int .u8 29)) (fun h => absurd h HF.out) (fun _ => rfl)).mono ?_; rintro e w1 ⟨rfl, hb1⟩)
  go_ret2
  exact ⟨rfl, hb0.trans (hb1.mono hb0.size)⟩

end Go.Proofs.Qxb6500666aGreatDoor
