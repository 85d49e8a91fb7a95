/- plainApply, walked. -/
import Derived.Test.Qxb6500666aDoorMapRow
import Derived.Deep.DeepCutAuto
import Derived.Deep.CutBlock
import Derived.Deep.LoopGhost
namespace Go.Proofs.Qxb6500666aDoor
open Go.RowKit Go.Maps
attribute [local go_sem ↓] exec_ldRow exec_ldChange exec_ldFile exec_stRow exec_stChange exec_stFile exec_bsRow exec_bsChange exec_slRows exec_bdChange exec_eqlRow exec_neqRow
attribute [local go_sem] run_ldRow run_ldChange run_ldFile run_stRow run_stChange run_stFile run_bsRow run_bsChange run_bdChange run_neqRow run_eqlRow rng_alloc_lt rng_alloc_at rng_drew rng_drewN rng_setCell_other rng_setRow_other whole_alloc_lt whole_alloc_at whole_drew whole_setCell_other whole_setRow_other setRow_alloc_at setRow_alloc_lt setRow_drew rowCs_size rowCs_ones rowCs_0 rowCs_1 rowCs_2 rowCs_3 rowCs_4 rowCs_5 rowCs_6 rowCs_7 rowCs_8 rowCs_9 rowCs_10 rowCs_11 rowCs_12 rowCs_all changeCs_size changeCs_ones changeCs_0 changeCs_row changeCs_all fileCs_size fileCs_ones fileCs_0 fileCs_1 fileCs_2 fileCs_3 fileCs_4 fileCs_all ext_const Ext.cell Ext.frozen Ext.rng Ext.whole

section
variable {ops : Array Oper} {rest : List Oper} {o : Oper} {a : Act} {w : World} {Q : Exit → Act → World → Prop}
theorem wpList_putM (hg : o.guard = none) (m x v : Operand) (hop : o.op = Op.mapUpdate 56 m x v) (B n : Nat) (mm : List Row)
    (hm : a.eval m = .map (some B)) (hown : MapAt w B n mm) (hn : n < maxLen) (r : Row) (hs : U32 r.sample) (ha : U32 r.analyte) (hx : a.eval x = keyV r.sample r.analyte) (hv : a.eval v = .agg (rowCs r))
    (hK : ∀ w', MapAt w' B (n + 1) (mput mm r) → w.grownBy w' (some B) → wpList Tryd.prog ops Q rest (a.put o.dst undef) w') : wpList Tryd.prog ops Q (o :: rest) a w := by
  refine wpList_plain hg fun K' hK' => ?_
  obtain ⟨w', hrun, r1, r2⟩ := hown.put hn r hs ha
  unfold Oper.wp
  simp [execOp, hop, hm, hx, hv, hrun, Result.andThen]
  exact hK' _ _ (hK w' r1 r2)

theorem wpList_lookM (hg : o.guard = none) (m x : Operand) (hop : o.op = Op.lookup 56 m x true) (B n : Nat) (mm : List Row)
    (hm : a.eval m = .map (some B)) (hown : MapAt w B n mm) (s t : Int) (hs : U32 s) (ha : U32 t) (hx : a.eval x = keyV s t)
    (hK : wpList Tryd.prog ops Q rest (a.put o.dst (.tuple #[.agg (rowCs ((mlook mm s t).getD zeroRow)), .bool (mlook mm s t).isSome])) w) : wpList Tryd.prog ops Q (o :: rest) a w := by
  refine wpList_plain hg fun K' hK' => ?_
  have hrun := hown.look_ok hs ha
  unfold Oper.wp
  simp [execOp, hop, hm, hx, hrun, Result.andThen]
  exact hK' _ _ hK

theorem wpList_dropM (hg : o.guard = none) (m x : Operand) (hop : o.op = Op.call { callee := Callee.builtin Builtin.delete, args := #[m, x], argTypes := #[56, 63] }) (B n : Nat) (mm : List Row)
    (hm : a.eval m = .map (some B)) (hown : MapAt w B n mm) (s t : Int) (hs : U32 s) (ha : U32 t) (hx : a.eval x = keyV s t)
    (hK : ∀ w', MapAt w' B n (mdel mm s t) → w.mapTurned w' B → wpList Tryd.prog ops Q rest (a.put o.dst (.tuple #[])) w') : wpList Tryd.prog ops Q (o :: rest) a w := by
  refine wpList_plain hg fun K' hK' => ?_
  obtain ⟨w', hrun, r1, r2⟩ := hown.drop hs ha o.type
  unfold Oper.wp
  simp [execOp, hop, resolve, invoke, builtin, hm, hx, hrun, Result.andThen]
  exact hK' _ _ (hK w' r1 r2)
end

/-- One line on the plain map; none: it does not fit. -/
def plainStep (m : List Row) (c : Change) : Option (List Row) :=
  if c.action == 78 && !(mlook m c.row.sample c.row.analyte).isSome then some (mput m c.row)
  else if c.action == 67 && (mlook m c.row.sample c.row.analyte).isSome && !((mlook m c.row.sample c.row.analyte).getD zeroRow).eqB c.row then some (mput m c.row)
  else if c.action == 87 && (mlook m c.row.sample c.row.analyte).isSome && ((mlook m c.row.sample c.row.analyte).getD zeroRow).eqB c.row then some (mdel m c.row.sample c.row.analyte)
  else none

def plainGo (m : List Row) : List Change → Option (List Row)
  | [] => some m
  | c :: r => match plainStep m c with
    | none => none
    | some m' => plainGo m' r

def mapOf (rs : List Row) : List Row := rs.foldl mput []

theorem mapOf_snoc (rs : List Row) (r : Row) : mapOf (rs ++ [r]) = mput (mapOf rs) r := by simp [mapOf, List.foldl_append]

def PlainPost (w : World) (rs : List Row) (cs : List Change) (e : Ending) (w' : World) : Prop :=
  Below w.heap.size w w' ∧ match plainGo (mapOf rs) cs with
  | none => e = .returned (.tuple #[.map none, .bool false])
  | some m => ∃ B n, w.heap.size ≤ B ∧ e = .returned (.tuple #[.map (some B), .bool (ordB (cs.map (·.row)))]) ∧ MapAt w' B n m

set_option maxRecDepth 100000 in
set_option maxHeartbeats 4000000 in
theorem plainApply_calls (w : World) (ok ok' : Nat → Prop) (v v' : Value) (rs : List Row) (cs : List Change) (h : RowsAt w ok v rs) (h' : ChangesAt w ok' v' cs) (hlen : rs.length ≤ 131072) (hlen' : cs.length ≤ 131072)
    (hok : ∀ r ∈ rs, r.Ok) (hok' : ∀ c ∈ cs, c.row.Ok) :
    Calls Tryd.prog 15 #[v, v'] w fun e w' => PlainPost w rs cs e w' := by
  obtain ⟨a, cap, b, off, rfl, hl, hm, hr, ha, hc⟩ := RArr.lt h
  obtain ⟨a', cap', b', off', rfl, hl', hm', hr', ha', hc'⟩ := RArr.lt h'
  obtain ⟨n, hn⟩ : ∃ n, n = rs.length := ⟨_, rfl⟩
  obtain ⟨n', hn'⟩ : ∃ n, n = cs.length := ⟨_, rfl⟩
  have Hn : Hid (n = rs.length) := hn
  have Hn' : Hid (n' = cs.length) := hn'
  rw [← hn] at hl hr ha hlen ⊢
  rw [← hn'] at hl' hr' ha' hlen' ⊢
  have hi := run_indexAt_arr (P := Tryd.prog) (cap := cap) Tryd.underlying51 Tryd.size61 (fun h => (ha h).1)
  have hi' := run_indexAt_arr (P := Tryd.prog) (cap := cap') Tryd.underlying36 Tryd.size71 (fun h => (ha' h).1)
  have HB : Hid (0 < n → b < w.heap.size) := fun h => (ha h).2.2
  have HB' : Hid (0 < n' → b' < w.heap.size) := fun h => (ha' h).2.2
  have HC := hide hc
  have HC' := hide hc'
  have HOK := hide hok
  have HOK' := hide hok'
  have hmm := @run_makeMap Tryd.prog
  clear ha hc hn hm hl ha' hc' hn' hm' hl' h h' hok hok'
  go_enter Tryd.func15, Tryd.ntmps15
  go_wp2_with fail
  have hm0 : MapAt (w.alloc (.map #[] 0)) w.heap.size 0 [] := MapAt.made w
  have hb0 : Below w.heap.size w (w.alloc (.map #[] 0)) := (Below.refl _ _).alloc (Nat.le_refl _) _
  generalize w.alloc (.map #[] 0) = W0 at *
  go_loopg [18] n (fun g j wr => ∃ q : Nat, q ≤ n ∧ g = n - q ∧ j = .int .i64 q ∧ MapAt wr w.heap.size q (mapOf (rs.take q)) ∧ Below w.heap.size w wr)
  case atStart => exact ⟨0, by omega, by omega, rfl, hm0, hb0⟩
  case round =>
    obtain ⟨q, hq, rfl, rfl, hmap, hbel⟩ := hrel
    by_cases hlt : q < n
    · have hqs : q < rs.length := by rw [← Hn.out]; exact hlt
      have hbb := HB.out (by omega)
      have c0 : rng wr b (off + q * 13) 13 = some (rowCs rs[q]) := by rw [rng_of_block (hbel.block _ hbb)]; exact HC.out q hqs
      have HT : Hid (mapOf (rs.take (q + 1)) = mput (mapOf (rs.take q)) rs[q]) := by
        show _ = _
        rw [List.take_succ_eq_append_getElem hqs, mapOf_snoc]
      have hro := HOK.out rs[q] (List.getElem_mem hqs)
      generalize rs[q] = r at *
      have hbw : b < wr.heap.size := by have := hbel.size; omega
      go_wp2_with (at_mapUpdate; refine wpList_putM rfl _ _ _ rfl w.heap.size q (mapOf (rs.take q)) rfl (hmap.below ((Below.refl _ _).alloc (Nat.le_refl _) _) hmap.lt) (by unfold maxLen; omega) r hro.sample hro.analyte rfl rfl ?_; intro w1 hmap1 hgr1)
      have hbel1 : Below w.heap.size w w1 := (hbel.alloc hbel.size _).grown hgr1 (by have := hbel.size; simp; omega) (fun k hk => by cases hk; exact Nat.le_refl _)
      go_roundg (n - (q + 1))
      case measure => omega
      case rel => exact ⟨q + 1, by omega, rfl, by go_num, by rw [HT.out]; exact hmap1, hbel1⟩
    · have HT : Hid (mapOf (rs.take q) = mapOf rs) := by show _ = _; rw [List.take_of_length_le (by rw [← Hn.out]; omega)]
      rw [HT.out] at hmap
      have hqn : q = n := by omega
      clear HT
      subst hqn
      go_wp2_with fail
      go_loopg [9, 32] n' (fun g x j wx => ∃ (p : Nat) (m : List Row), p ≤ n' ∧ g = n' - p ∧ j = .int .i64 p ∧ MapAt wx w.heap.size (q + p) m ∧ OwnR wx (w.heap.size + 1) 61 13 rowCs x ((cs.take p).map (·.row)) ∧ Below w.heap.size w wx ∧ Hid (plainGo (mapOf rs) cs = plainGo m (cs.drop p)))
      case atStart => exact ⟨0, mapOf rs, by omega, by omega, rfl, hmap, OwnR.nil _ _ _ _ _, hbel, rfl⟩
      case round =>
        obtain ⟨p, m, hp, rfl, rfl, hmapx, hownx, hbelx, HG⟩ := hrel
        by_cases hlp : p < n'
        · have hps : p < cs.length := by rw [← Hn'.out]; exact hlp
          have hbb' := HB'.out (by omega)
          have c0 : rng wr b' (off' + p * 14) 14 = some (changeCs cs[p]) := by rw [rng_of_block (hbelx.block _ hbb')]; exact HC'.out p hps
          have HL : Hid ((cs.take (p + 1)).map (·.row) = (cs.take p).map (·.row) ++ [cs[p].row]) := by
            show _ = _
            rw [List.take_succ_eq_append_getElem hps, List.map_append]; rfl
          have HD : Hid (cs.drop p = cs[p] :: cs.drop (p + 1)) := drop_cons _ _ hps
          have hco := HOK'.out cs[p] (List.getElem_mem hps)
          generalize cs[p] = c at *
          have hbw' : b' < wr.heap.size := by have := hbelx.size; omega
          have hlq : ((cs.take p).map (·.row)).length ≤ 131072 := by simp; omega
          obtain ⟨xs, hxs⟩ : ∃ xs, xs = (cs.take p).map (·.row) := ⟨_, rfl⟩
          rw [← hxs] at hownx hlq HL
          clear hxs
          have hsz := hbelx.size
          have hml := hmapx.lt
          have HNB : Hid (u9.ownBlock ≠ some wr.heap.size) := fun e => by have := (hownx.block _ e).2; omega
          go_upto_block 4 with (first
            | (at_builtin; refine wpList_app1 (α := Row) rfl _ _ 51 rfl (w.heap.size + 1) 61 rowCs Tryd.underlying51 Tryd.info61 rfl (by decide) rowCs_size rowCs_one _ xs rfl (OwnR.below (OwnR.below hownx ((Below.refl _ _).alloc (Nat.le_refl _) _) (Nat.le_refl _)) ((Below.refl _ _).alloc (Nat.le_refl _) _) (Nat.le_refl _)) _ rfl c.row (by simp [go_sem]) (by omega) (by unfold maxLen; omega) (by simp; omega) ?_; intro v1 w1 hown1 hsame hbel1 hat;
               have hx1 : rng w1 wr.heap.size 0 14 = some (changeCs c) := (rng_of_block (hsame _ ⟨by simp; omega, HNB.out⟩) 0 14).trans (by simp [go_sem]);
               have hxl := rng_lt hx1; have hxa : w1.cell? ⟨wr.heap.size, 0, none⟩ = some (.int .u8 c.action) := (rng_cell hx1).2 0 (by decide); have hxs : w1.cell? ⟨wr.heap.size, 1, none⟩ = some (.int .u32 c.row.sample) := (rng_cell hx1).2 1 (by decide); have hxn : w1.cell? ⟨wr.heap.size, 2, none⟩ = some (.int .u32 c.row.analyte) := (rng_cell hx1).2 2 (by decide);
               have hxr : rng w1 wr.heap.size 1 13 = some (rowCs c.row) := by (have := rng_sub (o := 1) (m := 13) hx1 (by decide); rw [changeCs_row] at this; exact this);
               have hmap1 : MapAt w1 w.heap.size (q + p) m := MapAt.below (hmapx.below (((Below.refl _ _).alloc (Nat.le_refl _) _).alloc (by simp) _) hml) hbel1 (Nat.lt_succ_self _))
            | (at_lookup; refine wpList_lookM rfl _ _ rfl w.heap.size (q + p) m rfl (hmap1.below ((Below.refl _ _).alloc (Nat.le_refl _) _) hmap1.lt) c.row.sample c.row.analyte hco.sample hco.analyte rfl ?_))
          have hgl1 : wr.heap.size + 2 ≤ w1.heap.size := by have := hbel1.size; simp at this; omega
          have hbelA : Below w.heap.size w w1 := ((hbelx.alloc hsz _).alloc (by simp; omega) _).trans (hbel1.mono (Nat.le_succ _))
          have HS : Hid (plainGo (mapOf rs) cs = match plainStep m c with | none => none | some m' => plainGo m' (cs.drop (p + 1))) := by
            show _ = _
            rw [HG.out, HD.out]; rfl
          have HPS : Hid (plainStep m c = if c.action == 78 && !(mlook m c.row.sample c.row.analyte).isSome then some (mput m c.row)
              else if c.action == 67 && (mlook m c.row.sample c.row.analyte).isSome && !((mlook m c.row.sample c.row.analyte).getD zeroRow).eqB c.row then some (mput m c.row)
              else if c.action == 87 && (mlook m c.row.sample c.row.analyte).isSome && ((mlook m c.row.sample c.row.analyte).getD zeroRow).eqB c.row then some (mdel m c.row.sample c.row.analyte)
              else none) := rfl
          clear HG HD hsame hat hx1
          generalize (mlook m c.row.sample c.row.analyte).isSome = th at *
          generalize (mlook m c.row.sample c.row.analyte).getD zeroRow = pr at *
          obtain ⟨eqv, heqv⟩ : ∃ e, e = pr.eqB c.row := ⟨_, rfl⟩
          have hev : pr.eqB c.row = eqv := heqv.symm
          have HEV := hide hev
          clear heqv
          by_cases h78 : c.action = 78
          · have t78 : (c.action == 78) = true := by simpa using h78
            have t67 : (c.action == 67) = false := by simp; omega
            have t87 : (c.action == 87) = false := by simp; omega
            clear h78
            cases th with
            | false =>
              have HR : Hid (plainStep m c = some (mput m c.row)) := by show _ = _; rw [HPS.out]; simp [t78]
              clear HPS
              go_wp2_with (at_mapUpdate; refine wpList_putM rfl _ _ _ rfl w.heap.size (q + p) m rfl (hmap1.below (((Below.refl _ _).alloc (Nat.le_refl _) _).alloc (by simp) _) hmap1.lt) (by unfold maxLen; omega) c.row hco.sample hco.analyte rfl rfl ?_; intro w2 hmap2 hgr2)
              have hbel2 : Below w.heap.size w w2 := ((hbelA.alloc hbelA.size _).alloc (by have := hbelA.size; simp; omega) _).grown hgr2 (by have := hbelA.size; simp; omega) (fun k hk => by cases hk; exact Nat.le_refl _)
              have hown2 : OwnR w2 (w.heap.size + 1) 61 13 rowCs v1 (xs ++ [c.row]) := (hown1.below (((Below.refl _ _).alloc (Nat.le_refl _) _).alloc (by simp) _) (Nat.le_refl _)).mono (fun k hk => hgr2.block k (by have := (hown1.block k hk).2; simp; omega) (fun e => by have := (hown1.block k hk).1; cases e; omega))
              go_roundg (n' - (p + 1))
              case measure => omega
              case rel => exact ⟨p + 1, mput m c.row, by omega, rfl, by go_num, hmap2, by rw [HL.out]; exact hown2, hbel2, by show _ = _; rw [HS.out, HR.out]⟩
            | true =>
              have HR : Hid (plainStep m c = none) := by show _ = _; rw [HPS.out]; simp [t78, t67, t87]
              clear HPS
              have HN : Hid (plainGo (mapOf rs) cs = none) := by show _ = _; rw [HS.out, HR.out]
              go_wp2
              go_ret2
              refine ⟨(hbelA.alloc hbelA.size _).alloc (by have := hbelA.size; simp; omega) _, ?_⟩
              rw [HN.out]
              exact rfl
          · have t78 : (c.action == 78) = false := by simpa using h78
            clear h78
            by_cases h67 : c.action = 67
            · have t67 : (c.action == 67) = true := by simpa using h67
              have t87 : (c.action == 87) = false := by simp; omega
              clear h67
              cases th with
              | false =>
                have HR : Hid (plainStep m c = none) := by show _ = _; rw [HPS.out]; simp [t78, t67, t87]
                clear HPS
                have HN : Hid (plainGo (mapOf rs) cs = none) := by show _ = _; rw [HS.out, HR.out]
                go_wp2
                go_ret2
                refine ⟨(hbelA.alloc hbelA.size _).alloc (by have := hbelA.size; simp; omega) _, ?_⟩
                rw [HN.out]
                exact rfl
              | true =>
                cases eqv with
                | false =>
                  have HR : Hid (plainStep m c = some (mput m c.row)) := by show _ = _; rw [HPS.out]; simp [t78, t67, hev]
                  clear HPS
                  go_wp2_with (at_mapUpdate; refine wpList_putM rfl _ _ _ rfl w.heap.size (q + p) m rfl (hmap1.below (((Below.refl _ _).alloc (Nat.le_refl _) _).alloc (by simp) _) hmap1.lt) (by unfold maxLen; omega) c.row hco.sample hco.analyte rfl rfl ?_; intro w2 hmap2 hgr2)
                  have hbel2 : Below w.heap.size w w2 := ((hbelA.alloc hbelA.size _).alloc (by have := hbelA.size; simp; omega) _).grown hgr2 (by have := hbelA.size; simp; omega) (fun k hk => by cases hk; exact Nat.le_refl _)
                  have hown2 : OwnR w2 (w.heap.size + 1) 61 13 rowCs v1 (xs ++ [c.row]) := (hown1.below (((Below.refl _ _).alloc (Nat.le_refl _) _).alloc (by simp) _) (Nat.le_refl _)).mono (fun k hk => hgr2.block k (by have := (hown1.block k hk).2; simp; omega) (fun e => by have := (hown1.block k hk).1; cases e; omega))
                  go_roundg (n' - (p + 1))
                  case measure => omega
                  case rel => exact ⟨p + 1, mput m c.row, by omega, rfl, by go_num, hmap2, by rw [HL.out]; exact hown2, hbel2, by show _ = _; rw [HS.out, HR.out]⟩
                | true =>
                  have HR : Hid (plainStep m c = none) := by show _ = _; rw [HPS.out]; simp [t78, t67, t87, hev]
                  clear HPS
                  have HN : Hid (plainGo (mapOf rs) cs = none) := by show _ = _; rw [HS.out, HR.out]
                  go_wp2
                  go_ret2
                  refine ⟨(hbelA.alloc hbelA.size _).alloc (by have := hbelA.size; simp; omega) _, ?_⟩
                  rw [HN.out]
                  exact rfl
            · have t67 : (c.action == 67) = false := by simpa using h67
              clear h67
              by_cases h87 : c.action = 87
              · have t87 : (c.action == 87) = true := by simpa using h87
                clear h87
                cases th with
                | false =>
                  have HR : Hid (plainStep m c = none) := by show _ = _; rw [HPS.out]; simp [t78, t67, t87]
                  clear HPS
                  have HN : Hid (plainGo (mapOf rs) cs = none) := by show _ = _; rw [HS.out, HR.out]
                  go_wp2
                  go_ret2
                  refine ⟨(hbelA.alloc hbelA.size _).alloc (by have := hbelA.size; simp; omega) _, ?_⟩
                  rw [HN.out]
                  exact rfl
                | true =>
                  cases eqv with
                  | false =>
                    have HR : Hid (plainStep m c = none) := by show _ = _; rw [HPS.out]; simp [t78, t67, t87, hev]
                    clear HPS
                    have HN : Hid (plainGo (mapOf rs) cs = none) := by show _ = _; rw [HS.out, HR.out]
                    go_wp2
                    go_ret2
                    refine ⟨(hbelA.alloc hbelA.size _).alloc (by have := hbelA.size; simp; omega) _, ?_⟩
                    rw [HN.out]
                    exact rfl
                  | true =>
                    have HR : Hid (plainStep m c = some (mdel m c.row.sample c.row.analyte)) := by show _ = _; rw [HPS.out]; simp [t78, t67, t87, hev]
                    clear HPS
                    go_wp2_with (at_delete; refine wpList_dropM rfl _ _ rfl w.heap.size (q + p) m rfl (hmap1.below (((Below.refl _ _).alloc (Nat.le_refl _) _).alloc (by simp) _) hmap1.lt) c.row.sample c.row.analyte hco.sample hco.analyte rfl ?_; intro w2 hmap2 hturn2)
                    have hgr2 := hturn2.grown
                    have hbel2 : Below w.heap.size w w2 := ((hbelA.alloc hbelA.size _).alloc (by have := hbelA.size; simp; omega) _).grown hgr2 (by have := hbelA.size; simp; omega) (fun k hk => by cases hk; exact Nat.le_refl _)
                    have hown2 : OwnR w2 (w.heap.size + 1) 61 13 rowCs v1 (xs ++ [c.row]) := (hown1.below (((Below.refl _ _).alloc (Nat.le_refl _) _).alloc (by simp) _) (Nat.le_refl _)).mono (fun k hk => hgr2.block k (by have := (hown1.block k hk).2; simp; omega) (fun e => by have := (hown1.block k hk).1; cases e; omega))
                    go_roundg (n' - (p + 1))
                    case measure => omega
                    case rel => exact ⟨p + 1, mdel m c.row.sample c.row.analyte, by omega, rfl, by go_num, hmap2.mono (by omega), by rw [HL.out]; exact hown2, hbel2, by show _ = _; rw [HS.out, HR.out]⟩
              · have t87 : (c.action == 87) = false := by simpa using h87
                clear h87
                have HR : Hid (plainStep m c = none) := by show _ = _; rw [HPS.out]; simp [t78, t67, t87]
                clear HPS
                have HN : Hid (plainGo (mapOf rs) cs = none) := by show _ = _; rw [HS.out, HR.out]
                go_wp2
                go_ret2
                refine ⟨(hbelA.alloc hbelA.size _).alloc (by have := hbelA.size; simp; omega) _, ?_⟩
                rw [HN.out]
                exact rfl
        · have HE : Hid (plainGo (mapOf rs) cs = some m) := by
            show _ = _
            rw [HG.out, List.drop_eq_nil_iff.2 (by rw [← Hn'.out]; omega)]; rfl
          have HT : Hid ((cs.take p).map (·.row) = cs.map (·.row)) := by show _ = _; rw [List.take_of_length_le (by rw [← Hn'.out]; omega)]
          rw [HT.out] at hownx
          have hrows : RowsAt wr (w.heap.size + 1 ≤ ·) u9 (cs.map (·.row)) := hownx.rows rowCs_size (by decide) (by simp; rw [← Hn'.out]; omega)
          have HR := hide hrows
          clear hrows HT
          go_wp2_with (go_at_call 13; refine (inKeyOrder_calls _ _ _ _ HR.out).mono ?_; rintro e w1 ⟨rfl, hbel1⟩)
          go_ret2
          refine ⟨hbelx.trans (hbel1.mono hbelx.size), ?_⟩
          rw [HE.out]
          exact ⟨w.heap.size, _, Nat.le_refl _, rfl, hmapx.below hbel1 hmapx.lt⟩

end Go.Proofs.Qxb6500666aDoor
