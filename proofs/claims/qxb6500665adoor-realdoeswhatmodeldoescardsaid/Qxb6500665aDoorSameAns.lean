/- sameAnswer of two answers that read alike, walked. -/
import Derived.Test.Qxb6500665aDoorSameVer
import Derived.ChangeKeysEq
namespace Go.Proofs.Qxb6500665aDoor
open Go.RowKit Go.Proofs.Qxb6500665aDoor.Cal

section
variable (ρ : Operand → Value) (dst : Option Tmp) (x y : Operand) (ty : TypeId) (pos : String) (after : Array Edge) (guard : Option (Nat × Bool))
theorem exec_eqlPl (yt : TypeId) : execOp ρ { dst, op := .binOp .eql 39 x y yt, type := ty, pos, after, guard } = (do pure (.value (← cmpS .eql 39 x y (ρ x) (ρ y)))) := rfl
theorem exec_eqlAn (yt : TypeId) : execOp ρ { dst, op := .binOp .eql 43 x y yt, type := ty, pos, after, guard } = (do pure (.value (← cmpS .eql 43 x y (ρ x) (ρ y)))) := rfl
theorem exec_eqlSu (yt : TypeId) : execOp ρ { dst, op := .binOp .eql 45 x y yt, type := ty, pos, after, guard } = (do pure (.value (← cmpS .eql 45 x y (ρ x) (ρ y)))) := rfl
end

theorem guardPl (op : BinOp) (x y : Operand) (u v : Array Value) (w : World) : (eqGuard op 39 x y (.agg u) (.agg v)).run Tryd.prog w = .ok () w := by
  cases op <;> kernel_rfl
theorem guardAn (op : BinOp) (x y : Operand) (u v : Array Value) (w : World) : (eqGuard op 43 x y (.agg u) (.agg v)).run Tryd.prog w = .ok () w := by
  cases op <;> kernel_rfl
theorem guardSu (op : BinOp) (x y : Operand) (u v : Array Value) (w : World) : (eqGuard op 45 x y (.agg u) (.agg v)).run Tryd.prog w = .ok () w := by
  cases op <;> kernel_rfl
set_option maxRecDepth 100000 in
theorem equalPl (a b c d : Int) (w : World) : (Op.equalIn Op.maxDepth 39 (.agg #[.int .u32 a, .int .u8 b, .int .i64 c, .int .i64 d]) (.agg #[.int .u32 a, .int .u8 b, .int .i64 c, .int .i64 d])).run Tryd.prog w = .ok true w := by
  obtain ⟨k, hk⟩ : ∃ k, Op.maxDepth = k + 2 := ⟨_, rfl⟩
  rw [hk, run_equalIn_struct w _ 39 _ _ (by kernel_rfl) (by kernel_rfl)]
  simp [go_sem, Op.eqFields]
set_option maxRecDepth 100000 in
theorem equalSu (a b c : Int) (w : World) : (Op.equalIn Op.maxDepth 45 (.agg #[.int .u32 a, .int .u32 b, .int .i64 c]) (.agg #[.int .u32 a, .int .u32 b, .int .i64 c])).run Tryd.prog w = .ok true w := by
  obtain ⟨k, hk⟩ : ∃ k, Op.maxDepth = k + 2 := ⟨_, rfl⟩
  rw [hk, run_equalIn_struct w _ 45 _ _ (by kernel_rfl) (by kernel_rfl)]
  simp [go_sem, Op.eqFields]
theorem Tryd.cells1 : Tryd.prog.cellsOf 2 = 1 := by kernel_rfl
set_option maxRecDepth 100000 in
theorem equalArr (k : Nat) (b c d : Int) (w : World) : (Op.equalIn (k + 2) 30 (.agg #[.int .i64 b, .int .i64 c, .int .i64 d]) (.agg #[.int .i64 b, .int .i64 c, .int .i64 d])).run Tryd.prog w = .ok true w := by
  have hs : (Tryd.prog.info? 2).isSome = true := by kernel_rfl
  obtain ⟨i, hi⟩ := Option.isSome_iff_exists.1 hs
  rw [run_equalIn_array (P := Tryd.prog) (w := w) (k + 1) (e := 2) (n := 3) _ _ (by kernel_rfl) hi, Tryd.cells1]
  simp [go_sem, List.range_succ, Op.eqItems]
set_option maxRecDepth 100000 in
theorem equalAn (a b c d : Int) (w : World) : (Op.equalIn Op.maxDepth 43 (.agg #[.int .u32 a, .int .i64 b, .int .i64 c, .int .i64 d]) (.agg #[.int .u32 a, .int .i64 b, .int .i64 c, .int .i64 d])).run Tryd.prog w = .ok true w := by
  obtain ⟨k, hk⟩ : ∃ k, Op.maxDepth = k + 3 := ⟨_, rfl⟩
  rw [hk, run_equalIn_struct w _ 43 _ _ (by kernel_rfl) (by kernel_rfl)]
  simp [go_sem, Op.eqFields, equalArr]
theorem run_eqlPl (x y : Operand) (a b c d : Int) (w : World) : (cmpS .eql 39 x y (.agg #[.int .u32 a, .int .u8 b, .int .i64 c, .int .i64 d]) (.agg #[.int .u32 a, .int .u8 b, .int .i64 c, .int .i64 d])).run Tryd.prog w = .ok (.bool true) w := by
  simp [cmpS, guardPl, binOp, Op.equal, equalPl]
theorem run_eqlAn (x y : Operand) (a b c d : Int) (w : World) : (cmpS .eql 43 x y (.agg #[.int .u32 a, .int .i64 b, .int .i64 c, .int .i64 d]) (.agg #[.int .u32 a, .int .i64 b, .int .i64 c, .int .i64 d])).run Tryd.prog w = .ok (.bool true) w := by
  simp [cmpS, guardAn, binOp, Op.equal, equalAn]
theorem run_eqlSu (x y : Operand) (a b c : Int) (w : World) : (cmpS .eql 45 x y (.agg #[.int .u32 a, .int .u32 b, .int .i64 c]) (.agg #[.int .u32 a, .int .u32 b, .int .i64 c])).run Tryd.prog w = .ok (.bool true) w := by
  simp [cmpS, guardSu, binOp, Op.equal, equalSu]

attribute [local go_sem ↓] exec_eqlPl exec_eqlAn exec_eqlSu
attribute [local go_sem] run_eqlPl run_eqlAn run_eqlSu

set_option maxRecDepth 100000 in
set_option maxHeartbeats 4000000 in
theorem sameAnswer_calls (w : World) (ok ok' okv okv' : Nat → Prop) (c num p0 p1 p2 p3 v0 v1 a0 a1 a2 a3 s0 s1 s2 : Int) (la la' va va' : Option Addr) (ln ln' lc lc' vn vc vc' : Nat) (ids : List Int) (vs : List Visit)
    (hl : U32sAt w ok (.slice la ln lc) ids) (hl' : U32sAt w ok' (.slice la' ln' lc') ids) (hv : VisitsAt w okv (.slice va vn vc) vs) (hv' : VisitsAt w okv' (.slice va' vn vc') vs) :
    Calls Tryd.prog 8 #[.agg #[.int .u8 c, .int .i64 num, .slice la ln lc, .int .u32 p0, .int .u8 p1, .int .i64 p2, .int .i64 p3, .int .u32 v0, .int .i64 v1, .slice va vn vc, .int .u32 a0, .int .i64 a1, .int .i64 a2, .int .i64 a3, .int .u32 s0, .int .u32 s1, .int .i64 s2],
      .agg #[.int .u8 c, .int .i64 num, .slice la' ln' lc', .int .u32 p0, .int .u8 p1, .int .i64 p2, .int .i64 p3, .int .u32 v0, .int .i64 v1, .slice va' vn vc', .int .u32 a0, .int .i64 a1, .int .i64 a2, .int .i64 a3, .int .u32 s0, .int .u32 s1, .int .i64 s2]] w fun e w' => e = .returned (.bool true) ∧ Below w.heap.size w w' := by
  have HI : Hid (∀ W, Below w.heap.size w W → Calls Tryd.prog 14 #[.slice la ln lc, .slice la' ln' lc'] W fun e w' => e = .returned (.bool true) ∧ ∃ d, w' = W.drewN d) := fun W hW => by
    have h9 := sameIDs_calls W _ _ _ _ _ _ (RArr.below hl hW) (RArr.below hl' hW)
    simpa using h9
  have HV : Hid (∀ W, Below w.heap.size w W → Calls Tryd.prog 15 #[.agg #[.int .u32 v0, .int .i64 v1, .slice va vn vc], .agg #[.int .u32 v0, .int .i64 v1, .slice va' vn vc']] W fun e w' => e = .returned (.bool true) ∧ Below W.heap.size W w') := fun W hW => sameVersion_calls W _ _ v0 v1 va va' vn vc vc' vs (hv.below hW) (hv'.below hW)
  clear hl hl' hv hv'
  go_enter Tryd.func8, Tryd.ntmps8
  go_upto_region 1 with fail
  obtain ⟨w2, hw2⟩ : ∃ w2, w2 = (w.alloc (.cells #[.int .u8 c, .int .i64 num, .slice la ln lc, .int .u32 p0, .int .u8 p1, .int .i64 p2, .int .i64 p3, .int .u32 v0, .int .i64 v1, .slice va vn vc, .int .u32 a0, .int .i64 a1, .int .i64 a2, .int .i64 a3, .int .u32 s0, .int .u32 s1, .int .i64 s2] 47)).alloc (.cells #[.int .u8 c, .int .i64 num, .slice la' ln' lc', .int .u32 p0, .int .u8 p1, .int .i64 p2, .int .i64 p3, .int .u32 v0, .int .i64 v1, .slice va' vn vc', .int .u32 a0, .int .i64 a1, .int .i64 a2, .int .i64 a3, .int .u32 s0, .int .u32 s1, .int .i64 s2] 47) := ⟨_, rfl⟩
  rw [← hw2]
  have hbw : Below w.heap.size w w2 := by rw [hw2]; exact ((Below.refl _ _).alloc (Nat.le_refl _) _).alloc (by simp) _
  have hs2 : w.heap.size + 1 < w2.heap.size := by rw [hw2]; simp
  have hX : w2.heap[w.heap.size]? = some (.cells #[.int .u8 c, .int .i64 num, .slice la ln lc, .int .u32 p0, .int .u8 p1, .int .i64 p2, .int .i64 p3, .int .u32 v0, .int .i64 v1, .slice va vn vc, .int .u32 a0, .int .i64 a1, .int .i64 a2, .int .i64 a3, .int .u32 s0, .int .u32 s1, .int .i64 s2] 47 (0, 0)) := by rw [hw2]; exact heap2_fst w _ _ _ _
  have hY : w2.heap[w.heap.size + 1]? = some (.cells #[.int .u8 c, .int .i64 num, .slice la' ln' lc', .int .u32 p0, .int .u8 p1, .int .i64 p2, .int .i64 p3, .int .u32 v0, .int .i64 v1, .slice va' vn vc', .int .u32 a0, .int .i64 a1, .int .i64 a2, .int .i64 a3, .int .u32 s0, .int .u32 s1, .int .i64 s2] 47 (0, 0)) := by rw [hw2]; exact heap2_snd w _ _ _ _
  have x0 : w2.cell? ⟨w.heap.size, 0, none⟩ = some (.int .u8 c) := by rw [World.cell?, hX]; rfl
  have x1 : w2.cell? ⟨w.heap.size, 1, none⟩ = some (.int .i64 num) := by rw [World.cell?, hX]; rfl
  have x2 : w2.cell? ⟨w.heap.size, 2, none⟩ = some (.slice la ln lc) := by rw [World.cell?, hX]; rfl
  have x3 : w2.cell? ⟨w.heap.size, 3, none⟩ = some (.int .u32 p0) := by rw [World.cell?, hX]; rfl
  have x4 : w2.cell? ⟨w.heap.size, 4, none⟩ = some (.int .u8 p1) := by rw [World.cell?, hX]; rfl
  have x5 : w2.cell? ⟨w.heap.size, 5, none⟩ = some (.int .i64 p2) := by rw [World.cell?, hX]; rfl
  have x6 : w2.cell? ⟨w.heap.size, 6, none⟩ = some (.int .i64 p3) := by rw [World.cell?, hX]; rfl
  have x7 : w2.cell? ⟨w.heap.size, 7, none⟩ = some (.int .u32 v0) := by rw [World.cell?, hX]; rfl
  have x8 : w2.cell? ⟨w.heap.size, 8, none⟩ = some (.int .i64 v1) := by rw [World.cell?, hX]; rfl
  have x9 : w2.cell? ⟨w.heap.size, 9, none⟩ = some (.slice va vn vc) := by rw [World.cell?, hX]; rfl
  have x10 : w2.cell? ⟨w.heap.size, 10, none⟩ = some (.int .u32 a0) := by rw [World.cell?, hX]; rfl
  have x11 : w2.cell? ⟨w.heap.size, 11, none⟩ = some (.int .i64 a1) := by rw [World.cell?, hX]; rfl
  have x12 : w2.cell? ⟨w.heap.size, 12, none⟩ = some (.int .i64 a2) := by rw [World.cell?, hX]; rfl
  have x13 : w2.cell? ⟨w.heap.size, 13, none⟩ = some (.int .i64 a3) := by rw [World.cell?, hX]; rfl
  have x14 : w2.cell? ⟨w.heap.size, 14, none⟩ = some (.int .u32 s0) := by rw [World.cell?, hX]; rfl
  have x15 : w2.cell? ⟨w.heap.size, 15, none⟩ = some (.int .u32 s1) := by rw [World.cell?, hX]; rfl
  have x16 : w2.cell? ⟨w.heap.size, 16, none⟩ = some (.int .i64 s2) := by rw [World.cell?, hX]; rfl
  have y0 : w2.cell? ⟨w.heap.size + 1, 0, none⟩ = some (.int .u8 c) := by rw [World.cell?, hY]; rfl
  have y1 : w2.cell? ⟨w.heap.size + 1, 1, none⟩ = some (.int .i64 num) := by rw [World.cell?, hY]; rfl
  have y2 : w2.cell? ⟨w.heap.size + 1, 2, none⟩ = some (.slice la' ln' lc') := by rw [World.cell?, hY]; rfl
  have y3 : w2.cell? ⟨w.heap.size + 1, 3, none⟩ = some (.int .u32 p0) := by rw [World.cell?, hY]; rfl
  have y4 : w2.cell? ⟨w.heap.size + 1, 4, none⟩ = some (.int .u8 p1) := by rw [World.cell?, hY]; rfl
  have y5 : w2.cell? ⟨w.heap.size + 1, 5, none⟩ = some (.int .i64 p2) := by rw [World.cell?, hY]; rfl
  have y6 : w2.cell? ⟨w.heap.size + 1, 6, none⟩ = some (.int .i64 p3) := by rw [World.cell?, hY]; rfl
  have y7 : w2.cell? ⟨w.heap.size + 1, 7, none⟩ = some (.int .u32 v0) := by rw [World.cell?, hY]; rfl
  have y8 : w2.cell? ⟨w.heap.size + 1, 8, none⟩ = some (.int .i64 v1) := by rw [World.cell?, hY]; rfl
  have y9 : w2.cell? ⟨w.heap.size + 1, 9, none⟩ = some (.slice va' vn vc') := by rw [World.cell?, hY]; rfl
  have y10 : w2.cell? ⟨w.heap.size + 1, 10, none⟩ = some (.int .u32 a0) := by rw [World.cell?, hY]; rfl
  have y11 : w2.cell? ⟨w.heap.size + 1, 11, none⟩ = some (.int .i64 a1) := by rw [World.cell?, hY]; rfl
  have y12 : w2.cell? ⟨w.heap.size + 1, 12, none⟩ = some (.int .i64 a2) := by rw [World.cell?, hY]; rfl
  have y13 : w2.cell? ⟨w.heap.size + 1, 13, none⟩ = some (.int .i64 a3) := by rw [World.cell?, hY]; rfl
  have y14 : w2.cell? ⟨w.heap.size + 1, 14, none⟩ = some (.int .u32 s0) := by rw [World.cell?, hY]; rfl
  have y15 : w2.cell? ⟨w.heap.size + 1, 15, none⟩ = some (.int .u32 s1) := by rw [World.cell?, hY]; rfl
  have y16 : w2.cell? ⟨w.heap.size + 1, 16, none⟩ = some (.int .i64 s2) := by rw [World.cell?, hY]; rfl
  have HI2 := hide (HI.out w2 hbw)
  have HV2 : Hid (∀ d, _) := fun d => HV.out (w2.drewN d) (below_drewN hbw d)
  have HBW := hide hbw
  clear hX hY hw2 HI HV hbw
  go_wp2_with (first | (go_at_call 14; refine HI2.out.mono ?_; rintro e w' ⟨rfl, dd, rfl⟩) | (go_at_call 15; refine (HV2.out _).mono ?_; rintro e w4 ⟨rfl, hb4⟩; have zx : ∀ i, w4.cell? ⟨w.heap.size, i, none⟩ = w2.cell? ⟨w.heap.size, i, none⟩ := (fun i => hb4.cell (p := ⟨w.heap.size, i, none⟩) (Nat.lt_trans (Nat.lt_succ_self _) hs2)); have zy : ∀ i, w4.cell? ⟨w.heap.size + 1, i, none⟩ = w2.cell? ⟨w.heap.size + 1, i, none⟩ := (fun i => hb4.cell (p := ⟨w.heap.size + 1, i, none⟩) hs2); have HB4 := hide hb4; clear hb4))
  go_ret
  exact ⟨rfl, (below_drewN HBW.out _).trans (HB4.out.mono (by show w.heap.size ≤ w2.heap.size; omega))⟩

end Go.Proofs.Qxb6500665aDoor
