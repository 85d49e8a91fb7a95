/- The model in memory; user, rows, issued. -/
import Derived.Test.Qxb6500666aGreatDoorMdB
import Derived.Test.Qxb6500666aGreatDoorChnW
import Derived.Test.Qxb6500666aGreatDoorAudQ
namespace Go.Proofs.Qxb6500666aGreatDoor
open Go.RowKit
/-- A user of the model. -/
structure Usr where
  id : Int
  role : Int
  act : Bool
def usrCs (u : Usr) : Array Value := #[.int .u32 u.id, .int .u8 u.role, .bool u.act]
theorem usrCs_size (u : Usr) : (usrCs u).size = 3 := rfl
theorem usrCs_one (u : Usr) : ∀ c ∈ (usrCs u).toList, c.oneCell' = true := by simp [usrCs, Value.oneCell']
theorem usrCs_ones (u : Usr) : ones (usrCs u) 3 = true := rfl
/-- The model's state. -/
structure Mod where
  low : Low
  us : List Usr
  au : List Ent
  fs : List File
  full : Bool
/-- Its slices. -/
structure MV where
  x : LV
  u : SV
  a : SV
  f : SV
def mvCs (v : MV) (full : Bool) : Array Value := #[v.x.p0, v.x.p1, v.x.p2, v.x.p3, v.x.k, v.x.s1, v.x.s2, v.x.s3, sv v.u, sv v.a, sv v.f, .bool full]
structure MIn (W : World) (ok : Nat → Prop) (v : MV) (m : Mod) : Prop where
  low : LowAt W ok v.x m.low
  us : RArr W ok 3 usrCs (sv v.u) m.us
  au : ∃ zs, RArr W ok 20 zeCs (sv v.a) zs ∧ ZipE W ok zs ∧ zs.map (·.1) = m.au
  fs : ∃ zf, RArr W ok 5 zfCs (sv v.f) zf ∧ zf.map (·.1) = m.fs ∧ ∀ z ∈ zf, ChangesAt W ok (sv z.2) z.1.changes
theorem MIn.mono {W W' : World} {ok ok' : Nat → Prop} {v : MV} {m : Mod} (h : MIn W ok v m) (hs : Same ok W W') (hk : ∀ b, ok b → ok' b) : MIn W' ok' v m := by
  obtain ⟨h1, h2, ⟨zs, h3, h4, h5⟩, ⟨zf, h6, h7, h8⟩⟩ := h
  exact ⟨h1.mono hs hk, h2.mono hs hk, ⟨zs, h3.mono hs hk, fun z hz => (h4 z hz).mono hs hk, h5⟩, ⟨zf, h6.mono hs hk, h7, fun z hz => (h8 z hz).mono hs hk⟩⟩
theorem MIn.lt {W : World} {ok : Nat → Prop} {v : MV} {m : Mod} (h : MIn W ok v m) : MIn W (fun b => ok b ∧ b < W.heap.size) v m := by
  obtain ⟨h1, h2, ⟨zs, h3, h4, h5⟩, ⟨zf, h6, h7, h8⟩⟩ := h
  exact ⟨h1.lt, h2.lt, ⟨zs, h3.lt, fun z hz => (h4 z hz).lt, h5⟩, ⟨zf, h6.lt, h7, fun z hz => (h8 z hz).lt⟩⟩
theorem MIn.below {W W' : World} {ok : Nat → Prop} {v : MV} {m : Mod} (h : MIn W ok v m) (hb : Below W.heap.size W W') : MIn W' ok v m := h.lt.mono (fun b q => hb.block b q.2) (fun _ q => q.1)
/-- The model at block M. -/
structure MAt (W : World) (M : Nat) (ok : Nat → Prop) (v : MV) (m : Mod) : Prop where
  top : W.heap[M]? = some (.cells (mvCs v m.full) 45 (0, 0))
  inn : MIn W ok v m
theorem MAt.below {W W' : World} {M : Nat} {ok : Nat → Prop} {v : MV} {m : Mod} (h : MAt W M ok v m) (hb : Below W.heap.size W W') : MAt W' M ok v m := ⟨(hb.block _ (blk_lt h.top)).trans h.top, h.inn.below hb⟩
theorem MAt.lb {W : World} {M : Nat} {ok : Nat → Prop} {v : MV} {m : Mod} (h : MAt W M ok v m) : LBlk W M 0 v.x := by
  refine ⟨?_, ?_, ?_, blk_lt h.top⟩ <;> (unfold Qxb6500666aGreatDoor.rng; rw [h.top]; rfl)
/-- A user's role; known; active. -/
def mUser (m : Mod) (id : Int) : Int × Bool × Bool := if id = 1 then (1, true, true) else match m.us.find? (fun u => u.id == id) with
  | some u => (u.role, true, u.act)
  | none => (0, false, false)
def usrAns (R : Int × Bool × Bool) : Ending := .returned (.tuple #[.int .u8 R.1, .bool R.2.1, .bool R.2.2])
section
variable (ρ : Operand → Value) (dst : Option Tmp) (x y : Operand) (ty : TypeId) (pos : String) (after : Array Edge) (guard : Option (Nat × Bool))
theorem exec_ldUsr : execOp ρ { dst, op := .load 342 x, type := ty, pos, after, guard } = (do pure (.value (← ldS 342 (ρ x)))) := rfl
theorem exec_stUsr : execOp ρ { dst, op := .store 342 x y, type := ty, pos, after, guard } = (do stS 342 (ρ x) (ρ y); pure .skip) := rfl
end
theorem Tryz.size342_m (w : World) : (sizeOf 342).run Tryz.prog w = .ok 3 w := by kernel_rfl
theorem run_ldUsr (w : World) (b off : Nat) : (ldS 342 (.pointer (some ⟨b, off, none⟩))).run Tryz.prog w = match rng w b off 3 with | some cs => .ok (.agg cs) w | none => (Instr.loadAt 342 (.pointer (some ⟨b, off, none⟩))).run Tryz.prog w :=
  run_ldS Tryz.underlying342 Tryz.size342_m w b off
theorem run_stUsr (w : World) (b : Nat) (cs : Array Value) : (stS 342 (.pointer (some ⟨b, 0, none⟩)) (.agg cs)).run Tryz.prog w = if whole w b 3 = true ∧ ones cs 3 = true then .ok () (w.setRow b cs) else (Instr.storeAt 342 (.pointer (some ⟨b, 0, none⟩)) (.agg cs)).run Tryz.prog w := run_stS Tryz.size342_m w b cs
attribute [local go_sem] ext_const Ext.cell Ext.frozen Ext.rng Ext.whole
attribute [local go_sem ↓] exec_ldUsr exec_stUsr exec_ldRow exec_stRow exec_bsRow exec_ldChange exec_stChange exec_ldFile exec_stFile
attribute [local go_sem] run_ldUsr run_stUsr usrCs_size usrCs_ones run_ldRow run_stRow run_bsRow rowCs_size rowCs_ones rowCs_all run_ldChange run_stChange changeCs_size changeCs_ones changeCs_row changeCs_all run_ldFile run_stFile fileCs_size fileCs_ones fileCs_all whole_alloc_lt whole_alloc_at whole_drew setRow_alloc_at setRow_alloc_lt setRow_drew rng_alloc_lt rng_alloc_at rng_drew rng_drewN

set_option maxRecDepth 100000 in
set_option maxHeartbeats 4000000 in
theorem mUser_calls (w : World) (M : Nat) (ok : Nat → Prop) (v : MV) (m : Mod) (id : Int) (h : MAt w M ok v m) :
    Calls Tryz.prog 144 #[.pointer (some ⟨M, 0, none⟩), .int .u32 id] w fun e w' => e = usrAns (mUser m id) ∧ Below w.heap.size w w' := by
  obtain ⟨R, hR⟩ : ∃ R, R = mUser m id := ⟨_, rfl⟩
  rw [← hR]
  cases t1 : (id == 1) with
  | true =>
    have HE : Hid (R = (1, true, true)) := hR.trans (by unfold mUser; rw [if_pos (by simpa using t1)])
    clear hR
    go_enter Tryz.func144, Tryz.ntmps144
    go_wp2
    refine bodyPost_ret (v := .tuple #[.int .u8 1, .bool true, .bool true]) (by simp [results, Tryz.results144]) rfl ?_
    exact ⟨by rw [HE.out]; rfl, Below.refl _ _⟩
  | false =>
    have HR : Hid (R = match (m.us.drop 0).find? (fun u => u.id == id) with | some u => (u.role, true, u.act) | none => (0, false, false)) := hR.trans (by unfold mUser; rw [if_neg (by simpa using t1)]; rfl)
    obtain ⟨a, cap, b, off, hv, hl, hm, hr, ha, hc⟩ := RArr.lt h.inn.us
    obtain ⟨n, hn⟩ : ∃ n, n = m.us.length := ⟨_, rfl⟩
    rw [← hn] at hl hr ha hv
    have Hn := hide hn
    have cu : w.cell? ⟨M, 8, none⟩ = some (.slice a n cap) := by rw [← hv]; exact cells_all h.top 8
    have zM := blk_lt h.top
    have hi := run_indexAt_arr (P := Tryz.prog) (n := n) (cap := cap) Tryz.underlying41 Tryz.size342_m (fun h => (ha h).1)
    have HB : Hid (0 < n → b < w.heap.size) := fun h => (ha h).2.2
    have HC := hide hc
    clear ha hc hn hm hl h hR hv
    have HB0 := hide (Below.refl w.heap.size w)
    go_enter Tryz.func144, Tryz.ntmps144
    go_upto_region 4 with fail
    clear cu
    go_loopg [16] n (fun gk j W => ∃ q : Nat, q ≤ n ∧ gk = n - q ∧ j = .int .i64 q ∧ Hid (Below w.heap.size w W) ∧ Hid (R = match (m.us.drop q).find? (fun u => u.id == id) with | some u => (u.role, true, u.act) | none => (0, false, false)))
    case atStart => exact ⟨0, by omega, by omega, rfl, HB0, HR⟩
    clear HB0 HR
    case round =>
      obtain ⟨q, hq, rfl, rfl, HBR, HE⟩ := hrel
      by_cases hlt : q < n
      · have hqs : q < m.us.length := by rw [← Hn.out]; exact hlt
        have hbb := HB.out (by omega)
        have c0 := HC.out q hqs
        rw [← rng_of_block (HBR.out.block _ hbb)] at c0
        have hbw : b < wr.heap.size := by have := HBR.out.size; omega
        have HD : Hid (R = if m.us[q].id == id then (m.us[q].role, true, m.us[q].act) else match (m.us.drop (q + 1)).find? (fun u => u.id == id) with | some u => (u.role, true, u.act) | none => (0, false, false)) := HE.out.trans (by
          rw [List.drop_eq_getElem_cons hqs, List.find?_cons]
          cases (m.us[q].id == id) <;> rfl)
        generalize m.us[q] = u at *
        clear HE
        go_upto_region 6 with fail
        have hb2 : Below wr.heap.size wr (wr.alloc (.cells (usrCs u) 342)) := (Below.refl _ _).alloc (Nat.le_refl _) _
        have hkx : (wr.alloc (.cells (usrCs u) 342)).heap[wr.heap.size]? = some (.cells (usrCs u) 342 (0, 0)) := heap_alloc_at _ _
        generalize wr.alloc (.cells (usrCs u) 342) = V at *
        have HV : Hid (Below w.heap.size w V) := HBR.out.trans (hb2.mono HBR.out.size)
        have d0 : V.cell? ⟨wr.heap.size, 0, none⟩ = some (.int .u32 u.id) := cells_all hkx 0
        have d1 : V.cell? ⟨wr.heap.size, 1, none⟩ = some (.int .u8 u.role) := cells_all hkx 1
        have d2 : V.cell? ⟨wr.heap.size, 2, none⟩ = some (.bool u.act) := cells_all hkx 2
        have zx := blk_lt hkx
        clear c0 hbw hb2 hkx HBR
        generalize wr.heap.size = D at *
        cases ts : (u.id == id) with
        | true =>
          have HF : Hid (R = (u.role, true, u.act)) := HD.out.trans (by rw [ts]; rfl)
          clear HD
          go_upto_region 7 with fail
          refine wp_region_ext V.heap.size (by kernel_rfl) (by kernel_rfl) ?_
          repeat (go_big_quiet_step (fail))
          refine wpQuiet_nil ?_
          intro _ hw'
          obtain ⟨x, hw2⟩ := hw'
          subst hw2
          go_wp2
          refine bodyPost_ret (v := .tuple #[.int .u8 u.role, .bool true, .bool u.act]) (by simp [results, Tryz.results144]) rfl ?_
          exact ⟨by rw [HF.out]; rfl, HV.out.trans (x.below.mono HV.out.size)⟩
        | false =>
          have HF : Hid (R = match (m.us.drop (q + 1)).find? (fun u => u.id == id) with | some u => (u.role, true, u.act) | none => (0, false, false)) := HD.out.trans (by rw [ts]; rfl)
          clear HD
          go_wp2
          go_roundg (n - (q + 1))
          case measure => omega
          case rel => exact ⟨q + 1, by omega, rfl, by go_num, HV, HF⟩
      · obtain rfl : q = n := by omega
        have HF : Hid (R = (0, false, false)) := HE.out.trans (by rw [List.drop_of_length_le (by rw [← Hn.out]; omega)]; rfl)
        go_wp2
        refine bodyPost_ret (v := .tuple #[.int .u8 0, .bool false, .bool false]) (by simp [results, Tryz.results144]) rfl ?_
        exact ⟨by rw [HF.out]; rfl, HBR.out⟩
end Go.Proofs.Qxb6500666aGreatDoor
