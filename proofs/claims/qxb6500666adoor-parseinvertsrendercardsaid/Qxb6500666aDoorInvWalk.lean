/- ParseInvertsRender, walked. -/
import Derived.Test.Qxb6500666aDoorSameWalk
import Derived.Test.Qxb6500666aDoorParseWalk
import Derived.Test.Qxb6500666aDoorModelValid
import Derived.Test.Qxb6500666aDoorScript
namespace Go.Proofs.Qxb6500666aDoor
open Go.RowKit
attribute [local go_sem ↓] exec_ldRow exec_ldChange exec_ldFile exec_stRow exec_stChange exec_stFile exec_bsRow exec_bsChange exec_slRows exec_bdChange exec_eqlRow exec_neqRow
attribute [local go_sem] run_ldRow run_ldChange run_ldFile run_stRow run_stChange run_stFile run_bsRow run_bsChange run_bdChange run_neqRow run_eqlRow rng_alloc_lt rng_alloc_at rng_drew rng_drewN rng_setCell_other rng_setRow_other whole_alloc_lt whole_alloc_at whole_drew whole_setCell_other whole_setRow_other setRow_alloc_at setRow_alloc_lt setRow_drew rowCs_size rowCs_ones rowCs_0 rowCs_1 rowCs_2 rowCs_3 rowCs_4 rowCs_5 rowCs_6 rowCs_7 rowCs_8 rowCs_9 rowCs_10 rowCs_11 rowCs_12 rowCs_all changeCs_size changeCs_ones changeCs_0 changeCs_row changeCs_all fileCs_size fileCs_ones fileCs_0 fileCs_1 fileCs_2 fileCs_3 fileCs_4 fileCs_all ext_const Ext.cell Ext.frozen Ext.rng Ext.whole

section
variable (ρ : Operand → Value) (dst : Option Tmp) (x y : Operand) (ty : TypeId) (pos : String) (after : Array Edge) (guard : Option (Nat × Bool))
theorem exec_ldOp : execOp ρ { dst, op := .load 40 x, type := ty, pos, after, guard } = (do pure (.value (← ldS 40 (ρ x)))) := rfl
theorem exec_stOp : execOp ρ { dst, op := .store 40 x y, type := ty, pos, after, guard } = (do stS 40 (ρ x) (ρ y); pure .skip) := rfl
end
theorem run_ldOp (w : World) (b off : Nat) : (ldS 40 (.pointer (some ⟨b, off, none⟩))).run Tryd.prog w = match rng w b off 27 with | some cs => .ok (.agg cs) w | none => (Instr.loadAt 40 (.pointer (some ⟨b, off, none⟩))).run Tryd.prog w :=
  run_ldS Tryd.underlying40 Tryd.size40 w b off
theorem run_stOp (w : World) (b : Nat) (cs : Array Value) : (stS 40 (.pointer (some ⟨b, 0, none⟩)) (.agg cs)).run Tryd.prog w = if whole w b 27 = true ∧ ones cs 27 = true then .ok () (w.setRow b cs) else (Instr.storeAt 40 (.pointer (some ⟨b, 0, none⟩)) (.agg cs)).run Tryd.prog w :=
  run_stS Tryd.size40 w b cs
attribute [local go_sem ↓] exec_ldOp exec_stOp
attribute [local go_sem] run_ldOp run_stOp

/-- A step of the script, its cells as a whole. -/
structure OpAt (w : World) (ok : Nat → Prop) (b o : Nat) (p : Op) (cs : Array Value) (a : Option Addr) (cap : Nat) : Prop where
  cells : rng w b o 27 = some cs
  size : cs.size = 27
  ones : ones cs 27 = true
  file : cs.extract 22 27 = fileCs p.file.kind p.file.seq p.file.issued p.file.base a p.file.changes.length cap
  lines : ChangesAt w ok (.slice a p.file.changes.length cap) p.file.changes
  ok : p.file.Ok
  changes : ∀ c ∈ p.file.changes, c.Ok

theorem opAt_of {w : World} {ok : Nat → Prop} {b o : Nat} {p : Op} {cs : List Value} (hE : EOp w ok cs p) (hc : ∀ j (hj : j < cs.length), w.cell? ⟨b, o + j, none⟩ = some cs[j]) : ∃ a cap, OpAt w ok b o p cs.toArray a cap := by
  obtain ⟨rs, fs, dv, rfl, _, _, _, _, ⟨lv, rfl, _, hlist⟩, hdata, ⟨cv, rfl, hfo, hch⟩⟩ := hE
  have hok := changesOk hch
  have hca := changesAt_of hch
  obtain ⟨a1, cap1, _, _, rfl, _⟩ := hlist
  obtain ⟨a2, cap2, _, _, rfl, _⟩ := hdata
  obtain ⟨a, cap, _, _, rfl, _⟩ := hch
  refine ⟨a, cap, ?_, ?_, ?_, ?_, hca, hfo, hok⟩
  · have := rng_of_cells (w := w) (b := b) (off := o) (by simp [reqCs]) hc
    simpa [reqCs, fileHd] using this
  · simp [reqCs, fileHd]
  · rfl
  · rfl

theorem text_pos (k s i b : Int) (cs : List Change) : 0 < (fileText k s i b cs).length := by simp [fileText, trailText]; omega

theorem lines_len {cs : List Change} (h : ∀ c ∈ cs, c.Ok) : (linesText cs).length ≤ 275 * cs.length := by
  induction cs with
  | nil => simp [linesText, flatL]
  | cons c cs ih =>
    have h1 := ih fun x hx => h x (List.mem_cons_of_mem _ hx)
    have hr := (h c (List.mem_cons_self ..)).row
    have e1 := fld_len hr.sample.i64
    have e2 := fld_len hr.analyte.i64
    have e3 := fld_len hr.version.i64
    have e4 := fld_len hr.value
    have e5 := fld_len hr.subject.i64
    have e6 := fld_len hr.site.i64
    have e7 := fld_len hr.visit.i64
    have e8 := fld_len hr.proto.i64
    have e9 := fld_len hr.kit.i64
    have e10 := fld_len hr.cls.i64
    have e11 := fld_len hr.collected
    have e12 := fld_len hr.received
    have e13 := fld_len hr.tested
    have : (rowText c).length ≤ 275 := by
      simp only [rowText, List.length_append, List.length_cons, List.length_nil]
      omega
    unfold linesText at h1 ⊢
    simp only [flatL, List.length_append, List.length_cons]
    omega

theorem text_len {k s i b : Int} {cs : List Change} (hs : U32 s) (hi : I64 i) (hb : U32 b) (h : ∀ c ∈ cs, c.Ok) (hl : cs.length ≤ 65536) : (fileText k s i b cs).length ≤ 140737488355328 := by
  have h1 := lines_len h
  have e1 := fld_len hs.i64
  have e2 := fld_len hi
  have e3 := fld_len hb.i64
  have e4 : (fld (cs.length : Int)).length ≤ 21 := fld_len ⟨by omega, by omega⟩
  have e5 := fld_len (x := crc (bodyText k s i b cs)) ⟨by have := crc_lo (bodyText k s i b cs); omega, by have := crc_hi (bodyText k s i b cs); omega⟩
  unfold fileText trailText
  simp only [List.length_append, List.length_cons, List.length_nil]
  conv => lhs; enter [1, 1, 1, 1]; unfold bodyText headText
  simp only [List.length_append, List.length_cons, List.length_nil]
  omega

theorem data_of_own {w : World} {B : Nat} {v : Value} {bs : List Int} (h : OwnR w B 5 1 byteCs v bs) (hp : 0 < bs.length) (hl : bs.length ≤ 140737488355328) : ∃ b c, v = .slice (some ⟨b, 0, none⟩) bs.length c ∧ DataAt w b 0 bs.length c bs := by
  have hB : BytesAt w (B ≤ ·) v bs := h.rows byteCs_size (by decide) hl
  rcases h.2 with ⟨_, h0⟩ | ⟨g, cap, cur, rfl, hg, hh, hc, hm, _⟩
  · omega
  · obtain ⟨a1, c1, b1, o1, hv, _, _, _, _, ha, hcell⟩ := hB.parts _ rfl
    injection hv with v1 v2 v3
    have := (ha hp).1
    rw [← v1] at this
    injection this with this
    injection this with t1 t2
    subst t1 t2
    exact ⟨g, cap, rfl, ⟨(Array.getElem?_eq_some_iff.1 hh).1, ⟨hc, hm⟩, rfl, hl, hcell⟩⟩

theorem total_le' {s : List Op} {k : Nat} (h : k < s.length) (ht : total s ≤ 65536) : s[k].file.changes.length ≤ 65536 := (total_le h ht).2.2

set_option maxRecDepth 100000 in
set_option maxHeartbeats 4000000 in
theorem inv_walk (w : World) (v : Value) (s : List Op) (h : Script w (· < w.heap.size) v s) :
    Calls Tryd.prog 3 #[v] w fun e w' => e = .returned (.bool true) ∧ Below w.heap.size w w' := by
  have HSm := hide (small_calls w _ v s h)
  obtain ⟨a, cap, b, off, rfl, hl, hm, hr, ha, hc⟩ := h
  obtain ⟨n, hn⟩ : ∃ n, n = s.length := ⟨_, rfl⟩
  have Hn : Hid (n = s.length) := hn
  rw [← hn] at hl hr ha HSm ⊢
  have hi := run_indexAt_arr (P := Tryd.prog) (cap := cap) Tryd.underlying22 Tryd.size40 (fun h => (ha h).1)
  have HB : Hid (0 < n → b < w.heap.size) := fun h => (ha h).2
  have HC : Hid (∀ k (h : k < s.length), ∃ cs a cap, OpAt w (· < w.heap.size) b (off + k * 27) s[k] cs a cap) := fun k h => by
    obtain ⟨cs, _, hE, hcell⟩ := hc k h
    obtain ⟨a, cap, hO⟩ := opAt_of hE hcell
    exact ⟨_, a, cap, hO⟩
  clear ha hc hn
  by_cases hsm : total s ≤ 65536
  · have HT := hide hsm
    have hd : decide (total s ≤ 65536) = true := by simpa using hsm
    rw [hd] at HSm
    clear hd hsm
    go_enter Tryd.func3, Tryd.ntmps3
    go_wp2_with (go_at_call 6; refine HSm.out.mono ?_; rintro e w1 ⟨rfl, rfl⟩)
    clear HSm
    go_loopg [14] n (fun g j wr => ∃ q : Nat, q ≤ n ∧ g = n - q ∧ j = .int .i64 q ∧ Below w.heap.size w wr)
    case atStart => exact ⟨0, by omega, by omega, rfl, Below.refl _ _⟩
    case round =>
      obtain ⟨q, hq, rfl, rfl, hbel⟩ := hrel
      by_cases hlt : q < n
      · have hqs : q < s.length := by rw [← Hn.out]; exact hlt
        have hbb := HB.out (by omega)
        obtain ⟨cs, fa, fcap, hO⟩ := HC.out q hqs
        have hl2 := total_le' hqs HT.out
        generalize s[q] = p at *
        have hcells : rng wr b (off + q * 27) 27 = some cs := by rw [rng_of_block (hbel.block _ hbb)]; exact hO.cells
        have hones := hO.ones
        have hcsz := hO.size
        have hbw : b < wr.heap.size := by have := hbel.size; omega
        obtain ⟨hcell0, -, -, hfile, hlines, hfok, hchok⟩ := hO
        clear hcell0
        generalize p.file = f at *
        obtain ⟨k, fs, fi, fb, fc⟩ := f
        simp only at hfile hlines hl2 hchok
        obtain ⟨hk, hs, hi2, hb2⟩ := hfok
        simp only at hk hs hi2 hb2
        go_upto_region 6 with fail
        have hW1 : Below w.heap.size w (wr.alloc (.cells cs 40)) := hbel.alloc hbel.size _
        have hk1 : (wr.alloc (.cells cs 40)).heap[wr.heap.size]? = some (.cells cs 40 (0, 0)) := heap_alloc_at _ _
        have hz1 : wr.heap.size < (wr.alloc (.cells cs 40)).heap.size := by simp
        have hDb : w.heap.size ≤ wr.heap.size := hbel.size
        generalize wr.alloc (.cells cs 40) = W1 at *
        generalize wr.heap.size = D at *
        have HFile : Hid (∀ W : World, W.heap[D]? = W1.heap[D]? → rng W D 22 5 = some (fileCs k fs fi fb fa fc.length fcap)) := fun W hW => by
          have h1 : rng W D 0 27 = some cs := by
            unfold rng
            rw [hW, hk1]
            simp [hcsz]
          have := rng_sub (o := 22) (m := 5) h1 (by decide)
          rw [hfile] at this
          simpa using this
        have hr1 := HFile.out W1 rfl
        have HLn := hide hlines
        have HCh := hide hchok
        have Hs := hide hs
        have Hi := hide hi2
        have Hb := hide hb2
        have Hk := hide hk
        clear hcells hones hcsz hfile hlines hchok hs hi2 hb2 hk hk1 hbw hbel hbb
        by_cases hF : FileOk k fs fi fb fc
        · have HF := hide hF
          clear hF
          go_upto_region 7 with (go_at_call 7; refine (render_ok W1 _ k fs fi fb fa fcap fc (RArr.below HLn.out hW1) hl2 Hs.out Hi.out Hb.out HCh.out HF.out).mono ?_; rintro e w2 ⟨v, rfl, hown, hb2⟩)
          have hr2 := HFile.out w2 (hb2.block _ hz1)
          have hW2 := hW1.trans (hb2.mono hW1.size)
          go_upto_region 10 with (go_at_call 8; refine (valid_calls w2 _ k fs fi fb fa fcap fc (RArr.below HLn.out hW2) Hs.out HCh.out (.bool true) (fun _ => rfl) (fun h => absurd HF.out h)).mono ?_; rintro e w3 ⟨rfl, hb3⟩)
          have hz2 := hb2.size
          have hz3 := hb3.size
          have hr3 := HFile.out w3 ((hb3.block _ (by omega)).trans (hb2.block _ hz1))
          have hW3 := hW2.trans (hb3.mono hW2.size)
          have hown3 := hown.below hb3 (Nat.le_refl _)
          obtain ⟨bt, ct, rfl, hDt⟩ := data_of_own hown3 (text_pos k fs fi fb fc) (text_len Hs.out Hi.out Hb.out HCh.out hl2)
          clear hown hown3 hr1 hr2
          go_upto_region 13 with (go_at_call 10; refine (parse_calls w3 bt 0 _ ct k fs fi fb fc hDt HF.out Hk.out Hs.out Hi.out Hb.out HCh.out hl2).mono ?_; rintro e w4 ⟨a4, cap4, rfl, hch4, hb4⟩)
          have hz4 := hb4.size
          have hW5 : Below w.heap.size w (w4.alloc (.cells (fileCs k fs fi fb a4 fc.length cap4) 38)) := (hW3.trans (hb4.mono hW3.size)).alloc (by omega) _
          have hr5 := HFile.out (w4.alloc (.cells (fileCs k fs fi fb a4 fc.length cap4) 38)) (by rw [Below.heap_alloc _ _ _ (by omega), hb4.block _ (by omega), hb3.block _ (by omega)]; exact hb2.block _ hz1)
          have hch5 : ChangesAt (w4.alloc (.cells (fileCs k fs fi fb a4 fc.length cap4) 38)) (fun _ => True) (.slice a4 fc.length cap4) fc := RArr.below hch4 ((Below.refl _ _).alloc (Nat.le_refl _) _)
          go_wp2_with (go_at_call 11; refine (sameFile_calls _ _ _ k fs fi fb a4 fa fc.length cap4 fcap fc hch5 (RArr.below HLn.out hW5)).mono ?_; rintro e w6 ⟨rfl, hb6⟩)
          go_roundg (n - (q + 1))
          case measure => omega
          case rel => exact ⟨q + 1, by omega, rfl, by go_num, hW5.trans (hb6.mono hW5.size)⟩
        · have HF := hide hF
          clear hF
          go_upto_region 7 with (go_at_call 7; refine (render_bad W1 _ k fs fi fb fa fcap fc (RArr.below HLn.out hW1) HF.out).mono ?_; rintro e w2 ⟨rfl, hb2⟩)
          have hr2 := HFile.out w2 (hb2.block _ hz1)
          have hW2 := hW1.trans (hb2.mono hW1.size)
          go_upto_region 8 with (go_at_call 8; refine (valid_calls w2 _ k fs fi fb fa fcap fc (RArr.below HLn.out hW2) Hs.out HCh.out (.bool false) (fun h => absurd h HF.out) (fun _ => rfl)).mono ?_; rintro e w3 ⟨rfl, hb3⟩)
          go_wp2_with (go_at_call 9; refine (codeOf_err 29 _ rfl).mono ?_; rintro e w4 ⟨rfl, rfl⟩)
          go_roundg (n - (q + 1))
          case measure => omega
          case rel => exact ⟨q + 1, by omega, rfl, by go_num, hW2.trans (hb3.mono hW2.size)⟩
      · go_wp2
        go_ret
        exact ⟨rfl, hbel⟩
  · have hd : decide (total s ≤ 65536) = false := by simpa using hsm
    rw [hd] at HSm
    go_enter Tryd.func3, Tryd.ntmps3
    go_wp2_with (go_at_call 6; refine HSm.out.mono ?_; rintro e w1 ⟨rfl, rfl⟩)
    go_ret
    exact ⟨rfl, Below.refl _ _⟩

end Go.Proofs.Qxb6500666aDoor
