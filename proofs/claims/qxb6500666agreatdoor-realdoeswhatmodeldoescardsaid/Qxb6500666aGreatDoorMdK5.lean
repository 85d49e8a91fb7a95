/- The model's change: kinds 1, 8. (Made by tools/mk_mch2.py.) -/
import Derived.Test.Qxb6500666aGreatDoorMdI
namespace Go.Proofs.Qxb6500666aGreatDoor
open Go.RowKit
section
variable (ρ : Operand → Value) (dst : Option Tmp) (x y z : Operand) (ty : TypeId) (pos : String) (after : Array Edge) (guard : Option (Nat × Bool))
def bdUsrS (a b c : Value) : Sem Value := Instr.build 342 #[(0, a), (1, b), (2, c)]
theorem exec_bdUsr : execOp ρ { dst, op := .build 342 #[(0, x), (1, y), (2, z)], type := ty, pos, after, guard } = (do pure (.value (← bdUsrS (ρ x) (ρ y) (ρ z)))) := by simp [execOp, bdUsrS]
theorem exec_bsUsr : execOp ρ { dst, op := .buildSlice 41 1 #[(0, x)], type := ty, pos, after, guard } = (do pure (.value (← bsS 41 (ρ x)))) := by simp [execOp, bsS]
end
theorem run_bdUsr (w : World) (i r : Int) (b : Bool) : (bdUsrS (.int .u32 i) (.int .u8 r) (.bool b)).run Tryz.prog w = .ok (.agg (usrCs ⟨i, r, b⟩)) w := by kernel_rfl
theorem run_bsUsr (w : World) (u : Usr) : (bsS 41 (.agg (usrCs u))).run Tryz.prog w = .ok (.slice (some ⟨w.heap.size, 0, none⟩) 1 1) (w.alloc (.cells (usrCs u) 342)) := by kernel_rfl
theorem Tryz.info342_m : (Tryz.prog.info? 342).map (fun i => (i.zero, i.size, i.bytes)) = some (some (.agg #[.int .u32 0, .int .u8 0, .bool false]), 3, 8) := by kernel_rfl
/-- A new user. -/
def addU (m : Mod) (r : Req) : CR3 := if (r.id == 0) then ⟨m, 0, 7⟩ else if (decide (r.role < 1) || decide (6 < r.role)) then ⟨m, 0, 8⟩ else if (mUser m r.id).2.1 then ⟨m, 0, 10⟩ else ⟨{ m with us := m.us ++ [⟨r.id, r.role, true⟩] }, 0, 0⟩
/-- A file issued. -/
def fileM (m : Mod) (kd now : Int) (cs : List Change) : Mod := { m with fs := m.fs ++ [⟨kd, (m.fs.length + 1 : Nat), now, cumOf m.fs, cs⟩] }
def incM (m : Mod) (r : Req) : CR3 := ⟨fileM m 73 r.now ((mPend m).take 20), (m.fs.length + 1 : Nat), 0⟩
def cumLn (m : Mod) : List Change := (mEliB m.low).map (fun y => ⟨82, y⟩)
theorem mChg2_len (x y : Option Row) : (mChg2 x y).length ≤ 1 := by
  cases x <;> cases y <;> simp [mChg2]
  split <;> simp
theorem flat_one {α β : Type} {f : α → List β} (h : ∀ x, (f x).length ≤ 1) : ∀ l : List α, (l.flatMap f).length ≤ l.length
  | [] => by simp
  | x :: l => by have := h x; have := flat_one h l; simp only [List.flatMap_cons, List.length_append, List.length_cons]; omega
theorem mPend_len (m : Mod) (h1 : (mrl m.fs m.fs.length).length ≤ 1000000) (h2 : m.low.sm.rs.length ≤ 1000000) : (mPend m).length ≤ 2000000 := by
  have h3 := flat_one (fun x => mChg2_len (mfind (mRelA m) x) (mfind (mEliB m.low) x)) (ordK (mKeys (mRelA m) (mEliB m.low)))
  have h4 : (mKeys (mRelA m) (mEliB m.low)).length ≤ (mRelA m).length + (mEliB m.low).length := by
    unfold mKeys
    rw [List.length_append]
    have := List.length_filter_le (fun r => (mfind (mRelA m) r).isNone) (mEliB m.low)
    omega
  have h5 : (mRelA m).length ≤ 1000000 := by rw [mRelA, ordK_len]; exact h1
  have h6 : (mEliB m.low).length ≤ 1000000 := by rw [mEliB, ordK_len]; have := elgs_len m.low; omega
  rw [ordK_len] at h3
  have h7 : (mPend m).length = ((ordK (mKeys (mRelA m) (mEliB m.low))).flatMap (fun x => mChg2 (mfind (mRelA m) x) (mfind (mEliB m.low) x))).length := rfl
  omega
def cumM (m : Mod) (r : Req) : CR3 := if 0 < (mPend m).length then ⟨m, 0, 25⟩ else ⟨fileM m 67 r.now (cumLn m), (m.fs.length + 1 : Nat), 0⟩

attribute [local go_sem] ext_const Ext.cell Ext.frozen Ext.rng Ext.whole
attribute [local go_sem ↓] exec_ldPrS exec_bdUsr exec_bsUsr exec_ldUsr exec_stUsr exec_ldRow exec_stRow exec_ldChange exec_stChange exec_bsChange exec_bdChange
attribute [local go_sem] run_ldPrS run_bdUsr run_bsUsr run_ldUsr run_stUsr usrCs_size usrCs_ones run_ldRow run_stRow rowCs_size rowCs_ones rowCs_all run_ldChange run_stChange run_bsChange run_bdChange changeCs_size changeCs_ones changeCs_row changeCs_all whole_alloc_lt whole_alloc_at whole_drew setRow_alloc_at setRow_alloc_lt setRow_drew rng_alloc_lt rng_alloc_at rng_drew rng_drewN
set_option maxRecDepth 100000 in
set_option maxHeartbeats 8000000 in
theorem mch1_calls (w : World) (M : Nat) (ok okv : Nat → Prop) (v : MV) (m : Mod) (r : Req) (lv : Value) (h : ChX w M ok okv v m r lv) (hk : r.kind = 1) :
    Calls Tryz.prog 146 #[.pointer (some ⟨M, 0, none⟩), .agg (reqA r lv)] w fun e w' => ChP w w' M ok e (addU m r) := by
  obtain ⟨R, hR⟩ : ∃ R, R = addU m r := ⟨_, rfl⟩
  rw [← hR]
  have HR := hide hR
  have HH := hide h
  have zM := blk_lt h.at'.top
  clear hR h
  go_enter Tryz.func146, Tryz.ntmps146
  go_upto_region 1 with fail
  have hb1 : Below w.heap.size w (w.alloc (.cells (reqA r lv) 53)) := (Below.refl _ _).alloc (Nat.le_refl _) _
  have hq : (w.alloc (.cells (reqA r lv) 53)).heap[w.heap.size]? = some (.cells (reqA r lv) 53 (0, 0)) := heap_alloc_at _ _
  have hsz : (w.alloc (.cells (reqA r lv) 53)).heap.size = w.heap.size + 1 := World.size_alloc _ _
  have HB1 := hide hb1
  have HM := hide (HH.out.at'.below hb1)
  generalize w.alloc (.cells (reqA r lv) 53) = W at *
  have q0 := cells_all hq 0
  have q3 := cells_all hq 3
  have q8 := cells_all hq 8
  simp only [reqA, List.getElem?_toArray, List.getElem?_cons_succ, List.getElem?_cons_zero] at q0 q3 q8
  rw [hk] at q0
  have zq := blk_lt hq
  have HKQ := hide hq
  have HBK : Hid (∀ V, Below W.heap.size W V → But M w V) := fun V hb => But.of (HB1.out.trans (hb.mono (by omega))) (by omega)
  have HMB : Hid (∀ V, Below W.heap.size W V → ∃ v', MAt V M ok v' m) := fun V hb => ⟨_, HM.out.below hb⟩
  have hok : ∀ b, W.heap.size ≤ b → ok b := fun b hb => HH.out.new b (by omega)
  have hMW : M < W.heap.size := by omega
  clear hq hb1
  generalize hQ : w.heap.size = Q at *
  have HQS := hide hQ
  clear hQ
  have HUS := hide (fun V (hb : Below W.heap.size W V) => mUser_calls V M ok v m r.id (HM.out.below hb))
  obtain ⟨au, cu, bu, ou, hvu, hlu, hmu, hru, hau, hcu⟩ := RArr.lt HM.out.inn.us
  obtain ⟨k, hk9⟩ : ∃ k, k = m.us.length := ⟨_, rfl⟩
  rw [← hk9] at hvu hau
  have hkb : k ≤ 100000 := by rw [hk9]; exact HH.out.ul
  have HK := hide hk9
  have HVU := hide hvu
  have HSRC : Hid (∀ V, Below W.heap.size W V → (au = none → cu = 0) ∧ (0 < k → ∃ b off, au = some ⟨b, off, none⟩ ∧ ∀ i (h : i < m.us.length), rng V b (off + i * 3) 3 = some (usrCs m.us[i]))) := fun V hb => ⟨hmu.2, fun hp => ⟨bu, ou, (hau hp).1, fun i hi => (rng_of_block (hb.block _ (hau hp).2.2) _ _).trans (hcu i hi)⟩⟩
  clear hvu hlu hmu hru hau hcu hk9
  unfold addU at HR
  cases t0 : (r.id == 0) with
  | true =>
    have HE : Hid (R = ⟨m, 0, 7⟩) := HR.out.trans (by rw [t0]; rfl)
    go_wp2
    refine bodyPost_ret (v := .tuple #[.int .u32 0, .int .u8 7]) (by simp [results, Tryz.results146]) rfl ?_
    rw [HE.out]
    exact ⟨rfl, HMB.out _ (Below.refl _ _), HBK.out _ (Below.refl _ _)⟩
  | false =>
  rw [t0] at HR
  cases t1 : decide (r.role < 1) with
  | true =>
    have HE : Hid (R = ⟨m, 0, 8⟩) := HR.out.trans (by rw [t1]; rfl)
    go_wp2
    refine bodyPost_ret (v := .tuple #[.int .u32 0, .int .u8 8]) (by simp [results, Tryz.results146]) rfl ?_
    rw [HE.out]
    exact ⟨rfl, HMB.out _ (Below.refl _ _), HBK.out _ (Below.refl _ _)⟩
  | false =>
  cases t2 : decide (6 < r.role) with
  | true =>
    have HE : Hid (R = ⟨m, 0, 8⟩) := HR.out.trans (by rw [t1, t2]; rfl)
    go_wp2
    refine bodyPost_ret (v := .tuple #[.int .u32 0, .int .u8 8]) (by simp [results, Tryz.results146]) rfl ?_
    rw [HE.out]
    exact ⟨rfl, HMB.out _ (Below.refl _ _), HBK.out _ (Below.refl _ _)⟩
  | false =>
  rw [t1, t2] at HR
  have HU := hide (HUS.out W (Below.refl _ _))
  cases hu : mUser m r.id with
  | mk ro kac =>
  obtain ⟨kn, ac⟩ := kac
  rw [hu] at HU HR
  cases kn with
  | true =>
    have HE : Hid (R = ⟨m, 0, 10⟩) := HR.out
    go_wp2_with (go_at_call 144; refine HU.out.mono ?_; rintro e X ⟨rfl, hbX⟩; unfold usrAns)
    refine bodyPost_ret (v := .tuple #[.int .u32 0, .int .u8 10]) (by simp [results, Tryz.results146]) rfl ?_
    rw [HE.out]
    exact ⟨rfl, HMB.out _ hbX, HBK.out _ hbX⟩
  | false =>
    have HE : Hid (R = ⟨{ m with us := m.us ++ [⟨r.id, r.role, true⟩] }, 0, 0⟩) := HR.out
    go_upto_region 10 with (go_at_call 144; refine HU.out.mono ?_; rintro e X ⟨rfl, hbX⟩; unfold usrAns)
    have HBX := hide hbX
    have hXz := hbX.size
    have HM1 := hide (HM.out.below hbX)
    have cu1 : X.cell? ⟨M, 8, none⟩ = some (.slice au k cu) := by have := cells_all HM1.out.top 8; rw [← HVU.out]; exact this
    have zM1 := blk_lt HM1.out.top
    have hqX := (hbX.block _ zq).trans HKQ.out
    have x3 := cells_all hqX 3
    have x8 := cells_all hqX 8
    simp only [reqA, List.getElem?_toArray, List.getElem?_cons_succ, List.getElem?_cons_zero] at x3 x8
    have zqX := blk_lt hqX
    have HXD : Hid (Below W.heap.size W X.drew) := hbX.drew
    have hdz : X.drew.heap.size = X.heap.size := rfl
    clear hqX hbX q3 q8 q0 HU
    refine wp_region_mixT (X.heap.size) [4, 7, 9] (by kernel_rfl) ?_
    refine mixT_slots [0, 1, 2, 3, 6, 8] (fuel := 10) rfl (by kernel_rfl) (by kernel_rfl) (fun d _ _ _ _ h => by cases d <;> exact h) ?_
    simp only [opersAt, List.getElem?_toArray, List.getElem?_cons_zero, List.getElem?_cons_succ]
    repeat (go_big_quiet_step (fail))
    refine wpQuiet_nil ?_
    refine mixT_reads [4, 7, 9] (fuel := 7) rfl (by kernel_rfl) (by decide) (by kernel_rfl) (fun d _ _ _ _ h => by cases d <;> exact h) (ext_drew _ _) ?_
    simp only [opersAt, List.getElem?_toArray, List.getElem?_cons_zero, List.getElem?_cons_succ]
    repeat (go_big_quiet_step (fail))
    refine wpQuiet_nil ?_
    refine mixT_slots [10] (fuel := 6) rfl (by kernel_rfl) (by kernel_rfl) (fun d _ _ _ _ h => by cases d <;> exact h) ?_
    simp only [opersAt, List.getElem?_toArray, List.getElem?_cons_zero, List.getElem?_cons_succ]
    repeat (go_big_quiet_step (fail))
    refine wpQuiet_nil ?_
    refine mixT_two (k := 5) (k' := 11) (by kernel_rfl) rfl rfl ?_ ?_
    · go_wp2_with (at_builtin; refine wpList_appN (α := Usr) rfl _ _ 41 rfl X.heap.size 342 usrCs Tryz.underlying41 Tryz.info342_m rfl (by decide) usrCs_size usrCs_one (.slice none 0 0) [] rfl (OwnR.nil _ _ _ _ _) au k cu rfl m.us HK.out (HSRC.out _ HXD.out).1 (HSRC.out _ HXD.out).2 (by simp; omega) (by simp; unfold maxLen; omega) (Nat.le_refl _) ?_; intro v7 w7 hown7 hsame7 hbel7 hat7; rw [List.nil_append] at hown7; obtain ⟨a7, c7, hv7⟩ := hown7.form; rw [← HK.out] at hv7; subst hv7)
      have hbw : Below X.heap.size X w7 := (Below.refl _ _).drew.trans hbel7
      refine ⟨Or.inr (by intros; exact ⟨⟨_, hbw⟩, rfl⟩), ?_⟩
      have HO7 := hide hown7
      have HB7 := hide hbw
      have hz7 := hbw.size
      clear hown7 hsame7 hbel7 hat7 hbw
      refine mixT_one (k := 11) (by kernel_rfl) rfl ?_
      go_wp2
      have HBA : Hid (Below X.heap.size X (w7.alloc (.cells (usrCs ⟨r.id, r.role, true⟩) 342))) := HB7.out.alloc hz7 _
      refine ⟨Or.inr (by intros; exact ⟨⟨_, HBA.out⟩, rfl⟩), ?_⟩
      refine mixT_one (k := 12) (by kernel_rfl) rfl ?_
      go_wp2_with (at_builtin; refine wpList_app1 (α := Usr) rfl _ _ 41 rfl X.heap.size 342 usrCs Tryz.underlying41 Tryz.info342_m rfl (by decide) usrCs_size usrCs_one (.slice a7 k c7) m.us rfl (OwnR.below HO7.out ((Below.refl _ _).alloc (Nat.le_refl _) _) (Nat.le_refl _)) _ rfl ⟨r.id, r.role, true⟩ (rng_whole (heap_alloc_at _ _)) (by rw [← HK.out]; omega) (by rw [← HK.out]; unfold maxLen; omega) (by simp only [World.size_alloc]; omega) ?_; intro v8 w8 hown8 hsame8 hbel8 hat8; obtain ⟨a8, c8, hv8⟩ := hown8.form; rw [List.length_append, ← HK.out, List.length_singleton] at hv8; subst hv8)
      have hbw8 : Below X.heap.size X w8 := HBA.out.trans hbel8
      refine ⟨Or.inl (by kernel_rfl), ?_⟩
      have HM8 := hide (HM1.out.below hbw8)
      have d8 : w8.cell? ⟨M, 8, none⟩ = some (.slice au k cu) := by have := cells_all HM8.out.top 8; rw [← HVU.out]; exact this
      have f8 := HM8.out.fz 8
      have zM8 := blk_lt HM8.out.top
      have HO8 := hide hown8
      have HBW8 := hide hbw8
      clear hown8 hsame8 hbel8 hat8 hbw8 cu1
      refine mixT_one (k := 13) (by kernel_rfl) rfl ?_
      go_wp2
      refine ⟨Or.inl (by kernel_rfl), ?_⟩
      refine mixT_one (k := 14) (by kernel_rfl) rfl ?_
      go_wp2
      refine ⟨Or.inl (by kernel_rfl), ?_⟩
      refine mixT_one (k := 15) (by kernel_rfl) rfl ?_
      go_wp2
      refine ⟨Or.inl (by kernel_rfl), ?_⟩
      refine mixT_nil (by kernel_rfl) ?_
      have hput := HM8.out.putUs HH.out.nok (y := (a8, k + 1, c8)) (l := m.us ++ [⟨r.id, r.role, true⟩]) (by
        have := (HO8.out.rows usrCs_size (by decide) (by rw [List.length_append, ← HK.out]; simp; omega))
        refine RArr.mono this (Same.refl _ _) (fun b hb => hok b (by omega)))
      have HPUT := hide hput
      have HBM : Hid (But M w (w8.setCell ⟨M, 8, none⟩ (.slice a8 (k + 1) c8))) := (HBK.out _ (HBX.out.trans (HBW8.out.mono hXz))).trans hput.2
      clear hput d8 f8
      simp only [sv] at HPUT
      generalize w8.setCell ⟨M, 8, none⟩ (.slice a8 (k + 1) c8) = V9 at *
      go_wp2
      refine bodyPost_ret (v := .tuple #[.int .u32 0, .int .u8 0]) (by simp [results, Tryz.results146]) rfl ?_
      rw [HE.out]
      exact ⟨rfl, ⟨_, HPUT.out.1⟩, HBM.out⟩
    · go_wp2
      have HBA : Hid (Below X.heap.size X (X.alloc (.cells (usrCs ⟨r.id, r.role, true⟩) 342)).drew) := ((Below.refl _ _).alloc (Nat.le_refl _) _).drew
      have HKA : Hid (rng (X.alloc (.cells (usrCs ⟨r.id, r.role, true⟩) 342)).drew X.heap.size 0 3 = some (usrCs ⟨r.id, r.role, true⟩)) := rng_whole (heap_alloc_at X _)
      refine ⟨Or.inr (by intros; exact ⟨⟨_, HBA.out⟩, rfl⟩), ?_⟩
      have HWA : Hid (Below W.heap.size W (X.alloc (.cells (usrCs ⟨r.id, r.role, true⟩) 342)).drew) := HBX.out.trans (HBA.out.mono hXz)
      have hza : (X.alloc (.cells (usrCs ⟨r.id, r.role, true⟩) 342)).drew.heap.size = X.heap.size + 1 := World.size_alloc _ _
      generalize (X.alloc (.cells (usrCs ⟨r.id, r.role, true⟩) 342)).drew = WA at *
      refine mixT_one (k := 5) (by kernel_rfl) rfl ?_
      go_wp2_with (at_builtin; refine wpList_appN (α := Usr) rfl _ _ 41 rfl WA.heap.size 342 usrCs Tryz.underlying41 Tryz.info342_m rfl (by decide) usrCs_size usrCs_one (.slice none 0 0) [] rfl (OwnR.nil _ _ _ _ _) au k cu rfl m.us HK.out (HSRC.out _ HWA.out).1 (HSRC.out _ HWA.out).2 (by simp; omega) (by simp; unfold maxLen; omega) (Nat.le_refl _) ?_; intro v7 w7 hown7 hsame7 hbel7 hat7; rw [List.nil_append] at hown7; obtain ⟨a7, c7, hv7⟩ := hown7.form; rw [← HK.out] at hv7; subst hv7)
      have hbw : Below X.heap.size X w7 := HBA.out.trans (hbel7.mono (by omega))
      refine ⟨Or.inr (by intros; exact ⟨⟨_, hbw⟩, rfl⟩), ?_⟩
      have HO7 := hide (hown7.baseLe (show X.heap.size ≤ WA.heap.size by omega))
      have HB7 := hide hbw
      have HK7 : Hid (rng w7 X.heap.size 0 3 = some (usrCs ⟨r.id, r.role, true⟩)) := (rng_of_block (hbel7.block _ (by omega)) _ _).trans HKA.out
      have hz7 := hbw.size
      clear hown7 hsame7 hbel7 hat7 hbw
      refine mixT_one (k := 12) (by kernel_rfl) rfl ?_
      go_wp2_with (at_builtin; refine wpList_app1 (α := Usr) rfl _ _ 41 rfl X.heap.size 342 usrCs Tryz.underlying41 Tryz.info342_m rfl (by decide) usrCs_size usrCs_one (.slice a7 k c7) m.us rfl HO7.out _ rfl ⟨r.id, r.role, true⟩ HK7.out (by rw [← HK.out]; omega) (by rw [← HK.out]; unfold maxLen; omega) hz7 ?_; intro v8 w8 hown8 hsame8 hbel8 hat8; obtain ⟨a8, c8, hv8⟩ := hown8.form; rw [List.length_append, ← HK.out, List.length_singleton] at hv8; subst hv8)
      have hbw8 : Below X.heap.size X w8 := HB7.out.trans hbel8
      refine ⟨Or.inl (by kernel_rfl), ?_⟩
      have HM8 := hide (HM1.out.below hbw8)
      have d8 : w8.cell? ⟨M, 8, none⟩ = some (.slice au k cu) := by have := cells_all HM8.out.top 8; rw [← HVU.out]; exact this
      have f8 := HM8.out.fz 8
      have zM8 := blk_lt HM8.out.top
      have HO8 := hide hown8
      have HBW8 := hide hbw8
      clear hown8 hsame8 hbel8 hat8 hbw8 cu1
      refine mixT_one (k := 13) (by kernel_rfl) rfl ?_
      go_wp2
      refine ⟨Or.inl (by kernel_rfl), ?_⟩
      refine mixT_one (k := 14) (by kernel_rfl) rfl ?_
      go_wp2
      refine ⟨Or.inl (by kernel_rfl), ?_⟩
      refine mixT_one (k := 15) (by kernel_rfl) rfl ?_
      go_wp2
      refine ⟨Or.inl (by kernel_rfl), ?_⟩
      refine mixT_nil (by kernel_rfl) ?_
      have hput := HM8.out.putUs HH.out.nok (y := (a8, k + 1, c8)) (l := m.us ++ [⟨r.id, r.role, true⟩]) (by
        have := (HO8.out.rows usrCs_size (by decide) (by rw [List.length_append, ← HK.out]; simp; omega))
        refine RArr.mono this (Same.refl _ _) (fun b hb => hok b (by omega)))
      have HPUT := hide hput
      have HBM : Hid (But M w (w8.setCell ⟨M, 8, none⟩ (.slice a8 (k + 1) c8))) := (HBK.out _ (HBX.out.trans (HBW8.out.mono hXz))).trans hput.2
      clear hput d8 f8
      simp only [sv] at HPUT
      generalize w8.setCell ⟨M, 8, none⟩ (.slice a8 (k + 1) c8) = V9 at *
      go_wp2
      refine bodyPost_ret (v := .tuple #[.int .u32 0, .int .u8 0]) (by simp [results, Tryz.results146]) rfl ?_
      rw [HE.out]
      exact ⟨rfl, ⟨_, HPUT.out.1⟩, HBM.out⟩

set_option maxRecDepth 100000 in
set_option maxHeartbeats 8000000 in
theorem mch8n_calls (w : World) (M : Nat) (ok okv : Nat → Prop) (v : MV) (m : Mod) (r : Req) (lv : Value) (h : ChX w M ok okv v m r lv) (hk : r.kind = 8) (hst : m.low.pr.site.any (fun x : Int => (x == r.ref)) = false) :
    Calls Tryz.prog 146 #[.pointer (some ⟨M, 0, none⟩), .agg (reqA r lv)] w fun e w' => ChP w w' M ok e ((⟨m, 0, 18⟩ : CR3)) := by
  obtain ⟨R, hR⟩ : ∃ R, R = (⟨m, 0, 18⟩ : CR3) := ⟨_, rfl⟩
  rw [← hR]
  have HR := hide hR
  have HH := hide h
  have zM := blk_lt h.at'.top
  clear hR h
  go_enter Tryz.func146, Tryz.ntmps146
  go_upto_region 1 with fail
  have hb1 : Below w.heap.size w (w.alloc (.cells (reqA r lv) 53)) := (Below.refl _ _).alloc (Nat.le_refl _) _
  have hq : (w.alloc (.cells (reqA r lv) 53)).heap[w.heap.size]? = some (.cells (reqA r lv) 53 (0, 0)) := heap_alloc_at _ _
  have hsz : (w.alloc (.cells (reqA r lv) 53)).heap.size = w.heap.size + 1 := World.size_alloc _ _
  have HB1 := hide hb1
  have HM := hide (HH.out.at'.below hb1)
  generalize w.alloc (.cells (reqA r lv) 53) = W at *
  have q0 := cells_all hq 0
  have q4 := cells_all hq 4
  simp only [reqA, List.getElem?_toArray, List.getElem?_cons_succ, List.getElem?_cons_zero] at q0 q4
  rw [hk] at q0
  have zq := blk_lt hq
  have HKQ := hide hq
  have HBK : Hid (∀ V, Below W.heap.size W V → But M w V) := fun V hb => But.of (HB1.out.trans (hb.mono (by omega))) (by omega)
  have HMB : Hid (∀ V, Below W.heap.size W V → ∃ v', MAt V M ok v' m) := fun V hb => ⟨_, HM.out.below hb⟩
  have hok : ∀ b, W.heap.size ≤ b → ok b := fun b hb => HH.out.new b (by omega)
  have hMW : M < W.heap.size := by omega
  clear hq hb1
  generalize hQ : w.heap.size = Q at *
  have HQS := hide hQ
  clear hQ
  have HE := HR
  obtain ⟨g0, g4, g5, zM1⟩ := HM.out.lb
  simp only [Nat.zero_add] at g0 g4 g5
  go_upto_region 37 with fail
  refine wp_region_mixT (W.heap.size) [3, 5] (by kernel_rfl) ?_
  refine mixT_slots [0, 1, 2, 4] (fuel := 4) rfl (by kernel_rfl) (by kernel_rfl) (fun d _ _ _ _ h => by cases d <;> exact h) ?_
  simp only [opersAt, List.getElem?_toArray, List.getElem?_cons_zero, List.getElem?_cons_succ]
  repeat (go_big_quiet_step (fail))
  refine wpQuiet_nil ?_
  refine mixT_reads [3, 5] (fuel := 2) rfl (by kernel_rfl) (by decide) (by kernel_rfl) (fun d _ _ _ _ h => by cases d <;> exact h) (ext_drew _ _) ?_
  simp only [opersAt, List.getElem?_toArray, List.getElem?_cons_zero, List.getElem?_cons_succ]
  repeat (go_big_quiet_step (fail))
  refine wpQuiet_nil ?_
  refine mixT_one (k := 6) (by kernel_rfl) rfl ?_
  go_wp2_with (go_at_call 192; refine (hasSite_calls _ ok _ _ _ _ m.low.pr.site r.ref (HM.out.inn.low.pr.below (Below.refl _ _).drew).s).mono ?_; rintro e w0 ⟨rfl, hb0⟩; rw [findV_any, hst])
  have hbw : Below W.heap.size W w0 := (Below.refl _ _).drew.trans hb0
  refine ⟨Or.inr (by intros; exact ⟨⟨_, hbw⟩, rfl⟩), ?_⟩
  refine mixT_one (k := 7) (by kernel_rfl) rfl ?_
  go_wp2
  refine ⟨Or.inr (fun h => h), ?_⟩
  refine mixT_nil (by kernel_rfl) ?_
  go_wp2
  refine bodyPost_ret (v := .tuple #[.int .u32 0, .int .u8 18]) (by simp [results, Tryz.results146]) rfl ?_
  rw [HE.out]
  exact ⟨rfl, HMB.out _ hbw, HBK.out _ hbw⟩

set_option maxRecDepth 100000 in
set_option maxHeartbeats 8000000 in
theorem mch19_calls (w : World) (M : Nat) (ok okv : Nat → Prop) (v : MV) (m : Mod) (r : Req) (lv : Value) (h : ChX w M ok okv v m r lv) (hk : r.kind = 19) :
    Calls Tryz.prog 146 #[.pointer (some ⟨M, 0, none⟩), .agg (reqA r lv)] w fun e w' => ChP w w' M ok e (incM m r) := by
  obtain ⟨R, hR⟩ : ∃ R, R = incM m r := ⟨_, rfl⟩
  rw [← hR]
  have HR := hide hR
  have HH := hide h
  have zM := blk_lt h.at'.top
  clear hR h
  go_enter Tryz.func146, Tryz.ntmps146
  go_upto_region 1 with fail
  have hb1 : Below w.heap.size w (w.alloc (.cells (reqA r lv) 53)) := (Below.refl _ _).alloc (Nat.le_refl _) _
  have hq : (w.alloc (.cells (reqA r lv) 53)).heap[w.heap.size]? = some (.cells (reqA r lv) 53 (0, 0)) := heap_alloc_at _ _
  have hsz : (w.alloc (.cells (reqA r lv) 53)).heap.size = w.heap.size + 1 := World.size_alloc _ _
  have HB1 := hide hb1
  have HM := hide (HH.out.at'.below hb1)
  generalize w.alloc (.cells (reqA r lv) 53) = W at *
  have q0 := cells_all hq 0
  have q2 := cells_all hq 2
  simp only [reqA, List.getElem?_toArray, List.getElem?_cons_succ, List.getElem?_cons_zero] at q0 q2
  rw [hk] at q0
  have zq := blk_lt hq
  have HKQ := hide hq
  have HBK : Hid (∀ V, Below W.heap.size W V → But M w V) := fun V hb => But.of (HB1.out.trans (hb.mono (by omega))) (by omega)
  have HMB : Hid (∀ V, Below W.heap.size W V → ∃ v', MAt V M ok v' m) := fun V hb => ⟨_, HM.out.below hb⟩
  have hok : ∀ b, W.heap.size ≤ b → ok b := fun b hb => HH.out.new b (by omega)
  have hMW : M < W.heap.size := by omega
  clear hq hb1
  generalize hQ : w.heap.size = Q at *
  have HQS := hide hQ
  clear hQ
  have HP := hide (mPend_calls W M ok v m HM.out HH.out.fl HH.out.cl HH.out.rl HH.out.su HH.out.times HH.out.small.sm.b)
  have HE : Hid (R = ⟨fileM m 73 r.now ((mPend m).take 20), (m.fs.length + 1 : Nat), 0⟩) := HR
  have hpl := mPend_len m HH.out.rl HH.out.small.sm.b
  generalize mPend m = P at *
  go_upto_region 62 with (go_at_call 183; refine HP.out.mono ?_; rintro e X ⟨vp, rfl, hop, hbX⟩; obtain ⟨ap, cp, rfl⟩ := hop.form)
  obtain ⟨np, hnp⟩ : ∃ n, n = P.length := ⟨_, rfl⟩
  rw [← hnp] at hop hpl ⊢
  have HNP := hide hnp
  have HOP := hide hop
  have HBX := hide hbX
  have hXz := hbX.size
  have HM1 := hide (HM.out.below hbX)
  have hqX := (hbX.block _ zq).trans HKQ.out
  have x2 := cells_all hqX 2
  simp only [reqA, List.getElem?_toArray, List.getElem?_cons_succ, List.getElem?_cons_zero] at x2
  have zqX := blk_lt hqX
  have hok1 : ∀ b, X.heap.size ≤ b → ok b := fun b hb => hok b (by omega)
  clear hqX hbX q2 q0 HP hop hnp
  by_cases h20 : 20 < np
  · have hd20 : decide (20 < (np : Int)) = true := by simp; omega
    obtain ⟨ap', cp', bp, op, hvp, hlp, hmp, hrp, hap, hcp⟩ := RArr.lt (HOP.out.rows changeCs_size (by decide) (by rw [← HNP.out]; omega))
    simp only [Value.slice.injEq] at hvp
    obtain ⟨rfl, hnn, rfl⟩ := hvp
    rw [← hnn] at hap hlp
    obtain ⟨aS, hsl, has⟩ := run_slToE (P := Tryz.prog) Tryz.underlying57 Tryz.size111 (a := ap) (b := bp) (off := op) (n := np) (cap := cp) (fun h => (hap h).1) hlp 20 (by omega)
    obtain rfl : aS = ap := (has (by omega)).trans (hap (by omega)).1.symm
    have hsl2 : ∀ w, (Instr.sliceAt 57 (.slice aS np cp) none (some (.int .i64 20)) none).run Tryz.prog w = .ok (.slice aS 20 cp) w := hsl
    have hrt : ChangesAt X ok (.slice aS 20 cp) (P.take 20) := RArr.mono ((HOP.out.takeLe changeCs_size 20 (by rw [← HNP.out]; omega)).rows changeCs_size (by decide) (by simp; omega)) (Same.refl _ _) (fun b hb => hok b hb)
    have HISS := hide (mIssue_calls X M ok v m 73 r.now aS 20 cp (P.take 20) HM1.out HH.out.nok hok1 hrt HH.out.fl HH.out.al)
    clear hnn hlp hmp hrp hap hcp has hsl hrt
    go_wp2_with (go_at_call 204; refine HISS.out.mono ?_; rintro e Y ⟨rfl, hmY, hbY⟩)
    refine bodyPost_ret (v := .tuple #[.int .u32 ((m.fs.length + 1 : Nat) : Int), .int .u8 0]) (by simp [results, Tryz.results146]) rfl ?_
    rw [HE.out]
    exact ⟨rfl, hmY, (HBK.out _ HBX.out).trans hbY⟩
  · have hd20 : decide (20 < (np : Int)) = false := by simp; omega
    have hrt : ChangesAt X ok (.slice ap np cp) (P.take 20) := by
      rw [List.take_of_length_le (by rw [← HNP.out]; omega)]
      exact RArr.mono (HOP.out.rows changeCs_size (by decide) (by rw [← HNP.out]; omega)) (Same.refl _ _) (fun b hb => hok b hb)
    have HISS := hide (mIssue_calls X M ok v m 73 r.now ap np cp (P.take 20) HM1.out HH.out.nok hok1 hrt HH.out.fl HH.out.al)
    clear hrt
    go_wp2_with (go_at_call 204; refine HISS.out.mono ?_; rintro e Y ⟨rfl, hmY, hbY⟩)
    refine bodyPost_ret (v := .tuple #[.int .u32 ((m.fs.length + 1 : Nat) : Int), .int .u8 0]) (by simp [results, Tryz.results146]) rfl ?_
    rw [HE.out]
    exact ⟨rfl, hmY, (HBK.out _ HBX.out).trans hbY⟩

set_option maxRecDepth 100000 in
set_option maxHeartbeats 8000000 in
theorem mch20_calls (w : World) (M : Nat) (ok okv : Nat → Prop) (v : MV) (m : Mod) (r : Req) (lv : Value) (h : ChX w M ok okv v m r lv) (hk : r.kind = 20) :
    Calls Tryz.prog 146 #[.pointer (some ⟨M, 0, none⟩), .agg (reqA r lv)] w fun e w' => ChP w w' M ok e (cumM m r) := by
  obtain ⟨R, hR⟩ : ∃ R, R = cumM m r := ⟨_, rfl⟩
  rw [← hR]
  have HR := hide hR
  have HH := hide h
  have zM := blk_lt h.at'.top
  clear hR h
  go_enter Tryz.func146, Tryz.ntmps146
  go_upto_region 1 with fail
  have hb1 : Below w.heap.size w (w.alloc (.cells (reqA r lv) 53)) := (Below.refl _ _).alloc (Nat.le_refl _) _
  have hq : (w.alloc (.cells (reqA r lv) 53)).heap[w.heap.size]? = some (.cells (reqA r lv) 53 (0, 0)) := heap_alloc_at _ _
  have hsz : (w.alloc (.cells (reqA r lv) 53)).heap.size = w.heap.size + 1 := World.size_alloc _ _
  have HB1 := hide hb1
  have HM := hide (HH.out.at'.below hb1)
  generalize w.alloc (.cells (reqA r lv) 53) = W at *
  have q0 := cells_all hq 0
  have q2 := cells_all hq 2
  simp only [reqA, List.getElem?_toArray, List.getElem?_cons_succ, List.getElem?_cons_zero] at q0 q2
  rw [hk] at q0
  have zq := blk_lt hq
  have HKQ := hide hq
  have HBK : Hid (∀ V, Below W.heap.size W V → But M w V) := fun V hb => But.of (HB1.out.trans (hb.mono (by omega))) (by omega)
  have HMB : Hid (∀ V, Below W.heap.size W V → ∃ v', MAt V M ok v' m) := fun V hb => ⟨_, HM.out.below hb⟩
  have hok : ∀ b, W.heap.size ≤ b → ok b := fun b hb => HH.out.new b (by omega)
  have hMW : M < W.heap.size := by omega
  clear hq hb1
  generalize hQ : w.heap.size = Q at *
  have HQS := hide hQ
  clear hQ
  have HP := hide (mPend_calls W M ok v m HM.out HH.out.fl HH.out.cl HH.out.rl HH.out.su HH.out.times HH.out.small.sm.b)
  have hpl := mPend_len m HH.out.rl HH.out.small.sm.b
  unfold cumM at HR
  generalize mPend m = P at *
  by_cases h0 : 0 < P.length
  · have HE : Hid (R = ⟨m, 0, 25⟩) := HR.out.trans (by rw [if_pos h0])
    obtain ⟨np, hnp⟩ : ∃ n, n = P.length := ⟨_, rfl⟩
    have hd0 : 0 < np := by omega
    have HNP := hide hnp
    clear h0 hnp
    go_wp2_with (go_at_call 183; refine HP.out.mono ?_; rintro e X ⟨vp, rfl, hop, hbX⟩; obtain ⟨ap, cp, rfl⟩ := hop.form; rw [← HNP.out])
    refine bodyPost_ret (v := .tuple #[.int .u32 0, .int .u8 25]) (by simp [results, Tryz.results146]) rfl ?_
    rw [HE.out]
    exact ⟨rfl, HMB.out _ hbX, HBK.out _ hbX⟩
  · have HE : Hid (R = ⟨fileM m 67 r.now (cumLn m), (m.fs.length + 1 : Nat), 0⟩) := HR.out.trans (by rw [if_neg h0])
    obtain rfl : P = [] := by cases P with | nil => rfl | cons x y => simp at h0
    clear h0 hpl
    go_upto_region 69 with (go_at_call 183; refine HP.out.mono ?_; rintro e X ⟨vp, rfl, hop, hbX⟩; obtain ⟨ap, cp, rfl⟩ := hop.form; rw [List.length_nil])
    have HEL := hide (mElig_calls X M ok v.x m.low (HM.out.below hbX).lb (HM.out.below hbX).inn.low HH.out.su HH.out.times HH.out.small.sm.b)
    have hBl : (mEliB m.low).length ≤ 1000000 := by rw [mEliB, ordK_len]; have := elgs_len m.low; have := HH.out.small.sm.b; omega
    rw [show ordK (elgs m.low) = mEliB m.low from rfl] at HEL
    have HCL : Hid (cumLn m = (mEliB m.low).map (fun y => ⟨82, y⟩)) := rfl
    generalize mEliB m.low = B at *
    have HBX := hide hbX
    have hXz := hbX.size
    clear hop hbX HP
    go_upto_region 70 with (go_at_call 205; refine HEL.out.mono ?_; rintro e Y ⟨vb, rfl, hob, hbY⟩; obtain ⟨ab, cb, rfl⟩ := hob.form)
    obtain ⟨nb, hnb⟩ : ∃ n, n = B.length := ⟨_, rfl⟩
    obtain ⟨ab', cb', bb, ob, hvb, hlb, hmb, hrb, hab, hcb⟩ := RArr.lt (hob.rows rowCs_size (by decide) (by omega))
    simp only [Value.slice.injEq] at hvb
    obtain ⟨rfl, hn2, rfl⟩ := hvb
    rw [← hnb] at hab hBl ⊢
    have hib := run_indexAt_arr (P := Tryz.prog) (n := nb) (cap := cb) Tryz.underlying150 Tryz.size109 (fun h => (hab h).1)
    have HBB : Hid (0 < nb → bb < Y.heap.size) := fun h => (hab h).2.2
    have HBC := hide hcb
    have HNB := hide hnb
    have HBY : Hid (Below W.heap.size W Y) := HBX.out.trans (hbY.mono hXz)
    have hYz := HBY.out.size
    clear hlb hmb hrb hab hcb hn2 hnb hob hbY HEL HBX hXz
    have HO0 : Hid (OwnR Y Y.heap.size 111 14 changeCs (.slice none 0 0) ((B.take 0).map (fun y => ⟨82, y⟩))) := OwnR.nil _ _ _ _ _
    have HB0 := hide (Below.refl Y.heap.size Y)
    go_loopg [14, 416] nb (fun gk ov j Z => ∃ (q : Nat) (oa : Option Addr) (oc : Nat), q ≤ nb ∧ gk = nb - q ∧ ov = .slice oa q oc ∧ j = .int .i64 q ∧ Hid (OwnR Z Y.heap.size 111 14 changeCs (.slice oa q oc) ((B.take q).map (fun y => ⟨82, y⟩))) ∧ Hid (Below Y.heap.size Y Z))
    case atStart => exact ⟨0, none, 0, by omega, by omega, rfl, rfl, HO0, HB0⟩
    clear HO0 HB0
    case round =>
      obtain ⟨q, oa, oc, hq, rfl, rfl, rfl, HOW, HBR⟩ := hrel
      have hsr := HBR.out.size
      by_cases hlt : q < nb
      · as_aux_lemma =>
        have hqs : q < B.length := by rw [← HNB.out]; exact hlt
        have hbb := HBB.out (by omega)
        have c0 := HBC.out q hqs
        rw [← rng_of_block (HBR.out.block _ hbb)] at c0
        have hbw : bb < wr.heap.size := by omega
        have HTK : Hid ((B.take (q + 1)).map (fun y => (⟨82, y⟩ : Change)) = (B.take q).map (fun y => ⟨82, y⟩) ++ [⟨82, B[q]⟩]) := by show _ = _; rw [List.take_succ_eq_append_getElem hqs, List.map_append]; rfl
        have HQL : Hid (((B.take q).map (fun y => (⟨82, y⟩ : Change))).length = q) := by show _ = _; rw [List.length_map, List.length_take]; omega
        generalize B[q] = y at *
        go_upto_region 72 with fail
        have hb2 : Below wr.heap.size wr (wr.alloc (.cells (rowCs y) 109)) := (Below.refl _ _).alloc (Nat.le_refl _) _
        have hkx : (wr.alloc (.cells (rowCs y) 109)).heap[wr.heap.size]? = some (.cells (rowCs y) 109 (0, 0)) := heap_alloc_at _ _
        generalize wr.alloc (.cells (rowCs y) 109) = V at *
        have HV : Hid (Below Y.heap.size Y V) := HBR.out.trans (hb2.mono hsr)
        have HOV := hide (HOW.out.below hb2 (Nat.le_refl _))
        have rr : rng V wr.heap.size 0 13 = some (rowCs y) := rng_whole hkx
        have zx := blk_lt hkx
        have hzV := HV.out.size
        clear hb2 hkx c0 hbw HOW HBR hsr
        generalize wr.heap.size = D at *
        go_wp2_with (at_builtin; refine wpList_app1 (α := Change) rfl _ _ 57 rfl Y.heap.size 111 changeCs Tryz.underlying57 Tryz.info111 rfl (by decide) changeCs_size changeCs_one (.slice oa q oc) ((B.take q).map (fun y => ⟨82, y⟩)) rfl (OwnR.below HOV.out ((Below.refl _ _).alloc (Nat.le_refl _) _) (Nat.le_refl _)) _ rfl ⟨82, y⟩ (rng_whole (heap_alloc_at _ _)) (by rw [HQL.out]; omega) (by rw [HQL.out]; unfold maxLen; omega) (by simp only [World.size_alloc]; omega) ?_; intro v8 w8 hown8 hsame8 hbel8 hat8; obtain ⟨a8, c8, hv8⟩ := hown8.form; rw [List.length_append, HQL.out, List.length_singleton] at hv8; subst hv8)
        go_roundg (nb - (q + 1))
        case measure => omega
        case rel => exact ⟨q + 1, a8, c8, by omega, rfl, rfl, by go_num, by rw [HTK.out]; exact hown8, (HV.out.alloc hzV _).trans hbel8⟩
      · obtain rfl : q = nb := by omega
        as_aux_lemma =>
        rw [List.take_of_length_le (by rw [← HNB.out]; omega)] at HOW
        have HBZ : Hid (Below W.heap.size W wr) := HBY.out.trans (HBR.out.mono hYz)
        have hZz := HBZ.out.size
        have HM1 := hide (HM.out.below HBZ.out)
        have hqX := (HBZ.out.block _ zq).trans HKQ.out
        have x2 := cells_all hqX 2
        simp only [reqA, List.getElem?_toArray, List.getElem?_cons_succ, List.getElem?_cons_zero] at x2
        have zqX := blk_lt hqX
        have hrt : ChangesAt wr ok (.slice oa q oc) (cumLn m) := by
          rw [HCL.out]
          exact RArr.mono (HOW.out.rows changeCs_size (by decide) (by rw [List.length_map, ← HNB.out]; omega)) (Same.refl _ _) (fun b hb => hok b (by omega))
        have HISS := hide (mIssue_calls wr M ok v m 67 r.now oa q oc (cumLn m) HM1.out HH.out.nok (fun b hb => hok b (by omega)) hrt HH.out.fl HH.out.al)
        clear hrt hqX q0 q2
        go_wp2_with (go_at_call 204; refine HISS.out.mono ?_; rintro e U ⟨rfl, hmY, hbY⟩)
        refine bodyPost_ret (v := .tuple #[.int .u32 ((m.fs.length + 1 : Nat) : Int), .int .u8 0]) (by simp [results, Tryz.results146]) rfl ?_
        rw [HE.out]
        exact ⟨rfl, hmY, (HBK.out _ HBZ.out).trans hbY⟩

end Go.Proofs.Qxb6500666aGreatDoor
