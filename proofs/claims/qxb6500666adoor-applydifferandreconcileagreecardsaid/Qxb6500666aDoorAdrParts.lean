/- What the walk of ApplyDifferAndReconcileAgree uses. -/
import Derived.Test.Qxb6500666aDoorPlainLaw
import Derived.Test.Qxb6500666aDoorApplyWalk
import Derived.Test.Qxb6500666aDoorSmall
import Derived.Test.Qxb6500666aDoorMix
import Derived.Deep.DeepCutAuto
import Derived.Deep.CutBlock
import Derived.Deep.LoopGhost
namespace Go.Proofs.Qxb6500666aDoor
open Go.RowKit Go.Maps
attribute [local go_sem ↓] exec_ldRow exec_ldChange exec_ldFile exec_stRow exec_stChange exec_stFile exec_bsRow exec_bsChange exec_slRows exec_bdChange exec_eqlRow exec_neqRow
attribute [local go_sem] run_ldRow run_ldChange run_ldFile run_stRow run_stChange run_stFile run_bsRow run_bsChange run_bdChange run_neqRow run_eqlRow rng_alloc_lt rng_alloc_at rng_drew rng_drewN rng_setCell_other rng_setRow_other whole_alloc_lt whole_alloc_at whole_drew whole_setCell_other whole_setRow_other setRow_alloc_at setRow_alloc_lt setRow_drew rowCs_size rowCs_ones rowCs_0 rowCs_1 rowCs_2 rowCs_3 rowCs_4 rowCs_5 rowCs_6 rowCs_7 rowCs_8 rowCs_9 rowCs_10 rowCs_11 rowCs_12 rowCs_all changeCs_size changeCs_ones changeCs_0 changeCs_row changeCs_all fileCs_size fileCs_ones fileCs_0 fileCs_1 fileCs_2 fileCs_3 fileCs_4 fileCs_all ext_const Ext.cell Ext.frozen Ext.rng Ext.whole

/-- The rows of both sides, in the world as it stands. -/
structure Kept (w W : World) (a b : Value) (rs ts : List Row) : Prop where
  below : Below w.heap.size w W
  left : RowsAt W (fun _ => True) a rs
  right : RowsAt W (fun _ => True) b ts

theorem Kept.next {w W W' : World} {a b : Value} {rs ts : List Row} (h : Kept w W a b rs ts) (hb : Below W.heap.size W W') : Kept w W' a b rs ts :=
  ⟨h.below.trans (hb.mono h.below.size), RArr.below h.left hb, RArr.below h.right hb⟩

theorem StepAt.below {w w' : World} {b o : Nat} {p : Op} (h : StepAt w (· < w.heap.size) b o p) (hb : Below w.heap.size w w') (hbl : b < w.heap.size) : StepAt w' (· < w.heap.size) b o p := by
  obtain ⟨h1, h2, h3, ⟨a, cap, h4, h5, h6⟩, h7⟩ := h
  refine ⟨fun j hj => ?_, ?_, ?_, ⟨a, cap, ?_, ?_, ?_⟩, h7⟩
  · rw [hb.cell (p := ⟨b, _, none⟩) hbl]; exact h1 j hj
  · rw [hb.cell (p := ⟨b, _, none⟩) hbl]; exact h2
  · rw [hb.cell (p := ⟨b, _, none⟩) hbl]; exact h3
  · rw [hb.cell (p := ⟨b, _, none⟩) hbl]; exact h4
  · rw [rng_of_block (hb.block _ hbl)]; exact h5
  · exact RArr.below h6 hb

theorem below_setRow {B : Nat} {a w : World} (h : Below B a w) {g : Nat} (hg : B ≤ g) (cs : Array Value) : Below B a (w.setRow g cs) :=
  h.trans ⟨rfl, rfl, rfl, by simp [World.setRow], fun k hk => setRow_other w g k cs (by omega)⟩

theorem rng_setRow_at {w : World} {g n : Nat} {cs : Array Value} (hw : whole w g n = true) (hn : cs.size = n) : rng (w.setRow g cs) g 0 n = some cs := by
  unfold whole at hw
  split at hw
  · rename_i c t hb
    obtain ⟨hg, hg2⟩ := Array.getElem?_eq_some_iff.1 hb
    have e : (w.setRow g cs).heap[g]? = some (.cells cs t (0, 0)) := by
      simp [World.setRow, hg, Array.getElem_modify, hg2]
    unfold rng
    rw [e]
    simp [hn]
  · cases hw

/-- The contracts, their answers given. -/
theorem inKeyOrder_is (w : World) (ok : Nat → Prop) (v : Value) (rs : List Row) (h : RowsAt w ok v rs) {t : Bool} (ht : ordB rs = t) :
    Calls Tryd.prog 13 #[v] w fun e w' => e = .returned (.bool t) ∧ Below w.heap.size w w' := ht ▸ inKeyOrder_calls w ok v rs h

theorem sameList_is (w : World) (ok ok' : Nat → Prop) (v v' : Value) (rs : List Row) (h : RowsAt w ok v rs) (h' : RowsAt w ok' v' rs) :
    Calls Tryd.prog 16 #[v, v'] w fun e w' => e = .returned (.bool true) ∧ Below w.heap.size w w' :=
  (sameList_calls w ok ok' v v' rs rs h h').mono fun e w' ⟨he, n, hw⟩ => by
    rw [(sameRows_iff rs rs).2 rfl] at he
    subst hw
    exact ⟨he, below_drewN (Below.refl _ _) n⟩

theorem stepGo_cases {c : Change} {x tl o' r' : List Row} (h : stepGo c x tl = some (o', r')) : (o' = x ∨ o' = x ++ [c.row]) ∧ ∀ r ∈ r', r ∈ tl := by
  by_cases a78 : c.action = 78
  · cases hh : headIs c.row tl with
    | true => rw [stepGo_new_bad a78 hh] at h; cases h
    | false =>
      rw [stepGo_new_ok a78 hh] at h
      cases h
      exact ⟨Or.inr rfl, fun r hr => hr⟩
  by_cases a67 : c.action = 67
  · cases hh : headIs c.row tl with
    | false => rw [stepGo_corr_no a67 hh] at h; cases h
    | true =>
      cases tl with
      | nil => simp [headIs] at hh
      | cons r t =>
        cases he : r.eqB c.row with
        | true => rw [stepGo_corr_same a67 he] at h; cases h
        | false =>
          rw [stepGo_corr_ok a67 hh he] at h
          cases h
          exact ⟨Or.inr rfl, fun r hr => List.mem_cons_of_mem _ hr⟩
  by_cases a87 : c.action = 87
  · cases hh : headIs c.row tl with
    | false => rw [stepGo_wd_no a87 hh] at h; cases h
    | true =>
      cases tl with
      | nil => simp [headIs] at hh
      | cons r t =>
        cases he : r.eqB c.row with
        | false => rw [stepGo_wd_other a87 he] at h; cases h
        | true =>
          rw [stepGo_wd_ok a87 hh he] at h
          cases h
          exact ⟨Or.inl rfl, fun r hr => List.mem_cons_of_mem _ hr⟩
  · rw [stepGo_none a78 a67 a87] at h; cases h

/-- Apply gathers rows of the list and of the lines alone. -/
theorem applyGo_ok {T : Row → Prop} : ∀ (cs : List Change) (prev : Option Row) (rest out o : List Row), (∀ r ∈ rest, T r) → (∀ r ∈ out, T r) → (∀ c ∈ cs, T c.row) → applyGo prev rest out cs = some o → ∀ r ∈ o, T r
  | [], _, rest, out, o, h1, h2, _, h => by
    simp only [applyGo, Option.some.injEq] at h
    subst h
    exact fun r hr => (List.mem_append.1 hr).elim (h2 r) (h1 r)
  | c :: cs, prev, rest, out, o, h1, h2, h3, h => by
    obtain ⟨mid, tl, rfl, hsk, _, _⟩ := skipTo_spec c.row rest out
    have hc := h3 c (List.mem_cons_self ..)
    have h3' := fun q hq => h3 q (List.mem_cons_of_mem _ hq)
    have hx : ∀ r ∈ out ++ mid, T r := fun r hr => (List.mem_append.1 hr).elim (h2 r) (fun hm => h1 r (List.mem_append.2 (Or.inl hm)))
    have ht : ∀ r ∈ tl, T r := fun r hr => h1 r (List.mem_append.2 (Or.inr hr))
    have hxc : ∀ r ∈ out ++ mid ++ [c.row], T r := fun r hr => (List.mem_append.1 hr).elim (hx r) (fun hm => by rw [List.mem_singleton] at hm; rw [hm]; exact hc)
    rw [applyGo, hsk] at h
    split at h
    · cases h
    · split at h
      · cases h
      · rename_i out' rest' hst
        obtain ⟨g1, g2⟩ := stepGo_cases hst
        refine applyGo_ok cs _ rest' out' o (fun r hr => ht r (g2 r hr)) ?_ h3' h
        rcases g1 with rfl | rfl
        · exact hx
        · exact hxc

/-- What the law has behind Apply and plainApply. -/
def Applied (W : World) (got err want ok : Value) : Prop :=
  (got = .slice none 0 0 ∧ err = .iface 46 (.int .u8 30) ∧ ok = .bool false) ∨
  ∃ (o m : List Row) (B n : Nat), err = .nilIface ∧ ok = .bool true ∧ want = .map (some B) ∧ MapAt W B n m ∧ Agree m o ∧ (∀ r ∈ o, r.Ok) ∧ RowsAt W (fun _ => True) got o

theorem Applied.below {W W' : World} {got err want ok : Value} (h : Applied W got err want ok) (hb : Below W.heap.size W W') : Applied W' got err want ok := by
  rcases h with h | ⟨o, m, B, n, h1, h2, h3, h4, h5, h6, h7⟩
  · exact Or.inl h
  · exact Or.inr ⟨o, m, B, n, h1, h2, h3, h4.below hb h4.lt, h5, h6, RArr.below h7 hb⟩

/-- append([]api.Row(nil), rows...). -/
theorem wpList_clone {ops : Array Oper} {rest : List Oper} {o : Oper} {a : Act} {w : World} {Q : Exit → Act → World → Prop} (hgd : o.guard = none) (x : Operand)
    (ho : o.op = .call { callee := .builtin .append, args := #[.const (.slice none 0 0), x], argTypes := #[51, 51] }) (rs : List Row) (h : RowsAt w (fun _ => True) (a.eval x) rs) (hl : rs.length ≤ 65536)
    (hK : ∀ v' w', RowsAt w' (fun _ => True) v' rs → Below w.heap.size w w' → wpList Tryd.prog ops Q rest (a.put o.dst v') w') : wpList Tryd.prog ops Q (o :: rest) a w := by
  obtain ⟨ao, cap, b, off, hv, hlc, hm, hr, ha, hc⟩ := h
  refine wpList_appN (α := Row) hgd _ x 51 ho w.heap.size 61 rowCs Tryd.underlying51 Tryd.info61 rfl (by decide) rowCs_size rowCs_one (.slice none 0 0) [] rfl (OwnR.nil _ _ _ _ _) ao rs.length cap hv rs rfl hm.2 (fun hp => ⟨b, off, (ha hp).1, hc⟩) (by simp; omega) (by unfold maxLen; simp; omega) (Nat.le_refl _) ?_
  intro v' w' hown _ hb _
  exact hK v' w' (RArr.mono (hown.rows rowCs_size (by decide) (by simp; omega)) (Same.refl _ _) (fun _ _ => trivial)) hb

theorem apply_none (w : World) (ok ok' : Nat → Prop) (v v' : Value) (rs : List Row) (cs : List Change) (h : RowsAt w ok v rs) (h' : ChangesAt w ok' v' cs) (hlen : rs.length ≤ 131072) (hlen' : cs.length ≤ 131072) (hF : applyF rs cs = none) :
    Calls Tryd.prog 14 #[v, v'] w fun e w' => e = .returned (.tuple #[.slice none 0 0, .iface 46 (.int .u8 30)]) ∧ Below w.heap.size w w' :=
  (apply_calls w ok ok' v v' rs cs h h' hlen hlen').mono fun e w' ⟨hb, hm⟩ => by rw [hF] at hm; exact ⟨hm, hb⟩

theorem apply_some (w : World) (ok ok' : Nat → Prop) (v v' : Value) (rs : List Row) (cs : List Change) (o : List Row) (h : RowsAt w ok v rs) (h' : ChangesAt w ok' v' cs) (hlen : rs.length ≤ 131072) (hlen' : cs.length ≤ 131072) (hF : applyF rs cs = some o) (ho : o.length ≤ 140737488355328) :
    Calls Tryd.prog 14 #[v, v'] w fun e w' => ∃ u, e = .returned (.tuple #[u, .nilIface]) ∧ RowsAt w' (fun _ => True) u o ∧ Below w.heap.size w w' :=
  (apply_calls w ok ok' v v' rs cs h h' hlen hlen').mono fun e w' ⟨hb, hm⟩ => by
    rw [hF] at hm
    obtain ⟨u, he, hown⟩ := hm
    exact ⟨u, he, RArr.mono (hown.rows rowCs_size (by decide) ho) (Same.refl _ _) (fun _ _ => trivial), hb⟩

theorem plain_none (w : World) (ok ok' : Nat → Prop) (v v' : Value) (rs : List Row) (cs : List Change) (h : RowsAt w ok v rs) (h' : ChangesAt w ok' v' cs) (hlen : rs.length ≤ 131072) (hlen' : cs.length ≤ 131072) (hok : ∀ r ∈ rs, r.Ok) (hok' : ∀ c ∈ cs, c.row.Ok) (hF : plainGo (mapOf rs) cs = none) :
    Calls Tryd.prog 15 #[v, v'] w fun e w' => e = .returned (.tuple #[.map none, .bool false]) ∧ Below w.heap.size w w' :=
  (plainApply_calls w ok ok' v v' rs cs h h' hlen hlen' hok hok').mono fun e w' ⟨hb, hm⟩ => by rw [hF] at hm; exact ⟨hm, hb⟩

theorem plain_some (w : World) (ok ok' : Nat → Prop) (v v' : Value) (rs : List Row) (cs : List Change) (m : List Row) (t : Bool) (h : RowsAt w ok v rs) (h' : ChangesAt w ok' v' cs) (hlen : rs.length ≤ 131072) (hlen' : cs.length ≤ 131072) (hok : ∀ r ∈ rs, r.Ok) (hok' : ∀ c ∈ cs, c.row.Ok) (hF : plainGo (mapOf rs) cs = some m) (ht : ordB (cs.map (·.row)) = t) :
    Calls Tryd.prog 15 #[v, v'] w fun e w' => ∃ B n, e = .returned (.tuple #[.map (some B), .bool t]) ∧ MapAt w' B n m ∧ Below w.heap.size w w' :=
  (plainApply_calls w ok ok' v v' rs cs h h' hlen hlen' hok hok').mono fun e w' ⟨hb, hm⟩ => by
    rw [hF] at hm
    obtain ⟨B, n, _, he, hmap⟩ := hm
    rw [ht] at he
    exact ⟨B, n, he, hmap, hb⟩

/-- The other file's lines, in the world as it stands. -/
structure Lines (W : World) (g : Nat) (ga : Option Addr) (gcap : Nat) (cs : List Change) : Prop where
  lt : g < W.heap.size
  cell : W.cell? ⟨g, 4, none⟩ = some (.slice ga cs.length gcap)
  lines : ChangesAt W (fun _ => True) (.slice ga cs.length gcap) cs

theorem Lines.next {W W' : World} {g : Nat} {ga : Option Addr} {gcap : Nat} {cs : List Change} (h : Lines W g ga gcap cs) (hb : Below W.heap.size W W') : Lines W' g ga gcap cs :=
  ⟨Nat.lt_of_lt_of_le h.lt hb.size, by rw [hb.cell (p := ⟨g, 4, none⟩) h.lt]; exact h.cell, RArr.below h.lines hb⟩

theorem agree_len {rs : List Row} {cs : List Change} {o : List Row} (h : applyF rs cs = some o) : o.length ≤ rs.length + cs.length := by
  have key : ∀ (cs : List Change) (prev : Option Row) (rest out o : List Row), applyGo prev rest out cs = some o → o.length ≤ out.length + rest.length + cs.length := by
    intro cs
    induction cs with
    | nil => intro prev rest out o h; simp only [applyGo, Option.some.injEq] at h; subst h; simp
    | cons c cs ih =>
      intro prev rest out o h
      obtain ⟨mid, tl, rfl, hsk, _, _⟩ := skipTo_spec c.row rest out
      rw [applyGo, hsk] at h
      split at h
      · cases h
      · split at h
        · cases h
        · rename_i out' rest' hst
          have h1 := ih _ _ _ _ h
          have hl : out'.length + rest'.length ≤ (out ++ mid).length + tl.length + 1 := by
            by_cases a78 : c.action = 78
            · cases hh : headIs c.row tl with
              | true => rw [stepGo_new_bad a78 hh] at hst; cases hst
              | false => rw [stepGo_new_ok a78 hh] at hst; cases hst; simp; omega
            by_cases a67 : c.action = 67
            · cases hh : headIs c.row tl with
              | false => rw [stepGo_corr_no a67 hh] at hst; cases hst
              | true =>
                cases tl with
                | nil => simp [headIs] at hh
                | cons r t =>
                  cases he : r.eqB c.row with
                  | true => rw [stepGo_corr_same a67 he] at hst; cases hst
                  | false => rw [stepGo_corr_ok a67 hh he] at hst; cases hst; simp; omega
            by_cases a87 : c.action = 87
            · cases hh : headIs c.row tl with
              | false => rw [stepGo_wd_no a87 hh] at hst; cases hst
              | true =>
                cases tl with
                | nil => simp [headIs] at hh
                | cons r t =>
                  cases he : r.eqB c.row with
                  | false => rw [stepGo_wd_other a87 he] at hst; cases hst
                  | true => rw [stepGo_wd_ok a87 hh he] at hst; cases hst; simp; omega
            · rw [stepGo_none a78 a67 a87] at hst; cases hst
          simp only [List.length_append, List.length_cons] at h1 hl ⊢
          omega
  have := key cs none rs [] o h
  simpa using this

/-- What the law has behind Apply alone. -/
def Half (W : World) (rs : List Row) (cs : List Change) (got err : Value) : Prop :=
  (applyF rs cs = none ∧ got = .slice none 0 0 ∧ err = .iface 46 (.int .u8 30)) ∨
  ∃ o, applyF rs cs = some o ∧ err = .nilIface ∧ RowsAt W (fun _ => True) got o

theorem plain_false (w : World) (ok ok' : Nat → Prop) (v v' : Value) (rs : List Row) (cs : List Change) (h : RowsAt w ok v rs) (h' : ChangesAt w ok' v' cs) (hlen : rs.length ≤ 131072) (hlen' : cs.length ≤ 131072) (hok : ∀ r ∈ rs, r.Ok) (hok' : ∀ c ∈ cs, c.row.Ok)
    (hF : plainGo (mapOf rs) cs = none ∨ ordB (cs.map (·.row)) = false) :
    Calls Tryd.prog 15 #[v, v'] w fun e w' => ∃ u, e = .returned (.tuple #[u, .bool false]) ∧ Below w.heap.size w w' := by
  cases hG : plainGo (mapOf rs) cs with
  | none => exact (plain_none w ok ok' v v' rs cs h h' hlen hlen' hok hok' hG).mono fun e w' ⟨h1, h2⟩ => ⟨_, h1, h2⟩
  | some m => exact (plain_some w ok ok' v v' rs cs m false h h' hlen hlen' hok hok' hG (hF.resolve_left (by rw [hG]; simp))).mono fun e w' ⟨B, n, h1, _, h2⟩ => ⟨_, h1, h2⟩

theorem wpList_lenM {ops : Array Oper} {rest : List Oper} {o : Oper} {a : Act} {w : World} {Q : Exit → Act → World → Prop} (hg : o.guard = none) (m : Operand)
    (hop : o.op = Op.call { callee := Callee.builtin Builtin.len, args := #[m], argTypes := #[56] }) (B n : Nat) (mm : List Row) (hm : a.eval m = .map (some B)) (hown : MapAt w B n mm)
    (hK : wpList Tryd.prog ops Q rest (a.put o.dst (.int .i64 mm.length)) w) : wpList Tryd.prog ops Q (o :: rest) a w := by
  refine wpList_plain hg fun K' hK' => ?_
  unfold Oper.wp
  simp [execOp, hop, resolve, invoke, builtin, hm, hown.len o.type, Result.andThen]
  exact hK' _ _ hK

theorem pairs_len : ∀ (f : Nat) (bs ts : List Row), (pairs f bs ts).length ≤ f
  | 0, _, _ => by simp [pairs]
  | f + 1, [], [] => by simp [pairs]
  | f + 1, [], a :: ts => by simp only [pairs, List.length_cons]; have := pairs_len f [] ts; omega
  | f + 1, b :: bs, [] => by simp only [pairs, List.length_cons]; have := pairs_len f bs []; omega
  | f + 1, b :: bs, a :: ts => by
    simp only [pairs]
    have h1 := pairs_len f bs (a :: ts)
    have h2 := pairs_len f (b :: bs) ts
    have h3 := pairs_len f bs ts
    split
    · simp only [List.length_cons]; omega
    · split <;> simp only [List.length_cons] <;> omega

theorem differ_len (bs ts : List Row) : (differ bs ts).length ≤ bs.length + ts.length := Nat.le_trans (flatL_len lineOf_len _) (pairs_len _ _ _)
theorem reconcile_len (bs ts : List Row) : (reconcile bs ts).length ≤ bs.length + ts.length := Nat.le_trans (flatL_len diffOf_len _) (pairs_len _ _ _)

theorem differ_is (w : World) (ok ok' : Nat → Prop) (v v' : Value) (bs ts : List Row) (h : RowsAt w ok v bs) (h' : RowsAt w ok' v' ts) (hlen : bs.length ≤ 65536) (hlen' : ts.length ≤ 65536) (xs : List Change) (n : Nat) (hx : differ bs ts = xs) (hn : xs.length = n) :
    Calls Tryd.prog 17 #[v, v'] w fun e w' => ∃ a cap, e = .returned (.slice a n cap) ∧ ChangesAt w' (fun _ => True) (.slice a n cap) xs ∧ Below w.heap.size w w' := by
  refine (differ_calls w ok ok' v v' bs ts h h' (by omega) (by omega)).mono fun e w' ⟨u, he, hown, hb⟩ => ?_
  have hl := differ_len bs ts
  rw [hx] at hown hl
  obtain ⟨a, cap, hu⟩ := hown.form
  rw [hn] at hu
  subst hu
  exact ⟨a, cap, he, RArr.mono (hown.rows changeCs_size (by decide) (by omega)) (Same.refl _ _) (fun _ _ => trivial), hb⟩

theorem reconcile_is (w : World) (ok ok' : Nat → Prop) (v v' : Value) (bs ts : List Row) (h : RowsAt w ok v bs) (h' : RowsAt w ok' v' ts) (hlen : bs.length ≤ 65536) (hlen' : ts.length ≤ 65536) (xs : List Diff) (n : Nat) (hx : reconcile bs ts = xs) (hn : xs.length = n) :
    Calls Tryd.prog 18 #[v, v'] w fun e w' => ∃ a cap, e = .returned (.slice a n cap) ∧ RArr w' (fun _ => True) 5 diffCs (.slice a n cap) xs ∧ Below w.heap.size w w' := by
  refine (reconcile_calls w ok ok' v v' bs ts h h' (by omega) (by omega)).mono fun e w' ⟨u, he, hown, hb⟩ => ?_
  have hl := reconcile_len bs ts
  rw [hx] at hown hl
  obtain ⟨a, cap, hu⟩ := hown.form
  rw [hn] at hu
  subst hu
  exact ⟨a, cap, he, RArr.mono (hown.rows diffCs_size (by decide) (by omega)) (Same.refl _ _) (fun _ _ => trivial), hb⟩

/-- A slice whose length is known by another name. -/
theorem RArr.parts {α : Type} {w : World} {ok : Nat → Prop} {size : Nat} {f : α → Array Value} {v : Value} {xs : List α} (h : RArr w ok size f v xs) (n : Nat) (hn : xs.length = n) :
    ∃ a cap b off, v = .slice a n cap ∧ n ≤ 140737488355328 ∧ (0 < n → a = some ⟨b, off, none⟩ ∧ b < w.heap.size) ∧ ∀ i (h : i < xs.length), rng w b (off + i * size) size = some (f xs[i]) := by
  obtain ⟨a, cap, b, off, hv, _, _, hr, ha, hc⟩ := RArr.lt h
  subst hn
  exact ⟨a, cap, b, off, hv, hr, fun hp => ⟨(ha hp).1, (ha hp).2.2⟩, hc⟩

theorem verGo_snoc (s a acc : Int) (l : List Row) (r : Row) : verGo s a acc (l ++ [r]) = if atK s a r then r.version else verGo s a acc l := by simp [verGo, List.foldl_append]

theorem Tryd.size69 (w : World) : (sizeOf 69).run Tryd.prog w = .ok 5 w := by kernel_rfl

theorem changeCs_1 (c : Change) : (changeCs c)[1]? = some (.int .u32 c.row.sample) := rfl
theorem changeCs_2 (c : Change) : (changeCs c)[2]? = some (.int .u32 c.row.analyte) := rfl

theorem verGo_take (s a : Int) {l : List Row} {i : Nat} (h : i < l.length) : verGo s a 0 (l.take (i + 1)) = if atK s a l[i] then l[i].version else verGo s a 0 (l.take i) := by
  rw [List.take_succ_eq_append_getElem h, verGo_snoc]

theorem verGo_all {l : List Row} (h : Rise l) (s a : Int) {i : Nat} (hi : l.length ≤ i) : verGo s a 0 (l.take i) = verOf l s a := by
  rw [List.take_of_length_le hi, verGo_eq h]
  rfl

theorem cell_alloc2 (w : World) (cs ds : Array Value) (t u : Nat) (j : Nat) : ((w.alloc (.cells cs t)).alloc (.cells ds u)).cell? ⟨w.heap.size, j, none⟩ = cs[j]? := by simp

theorem match_at {rs ts : List Row} (h1 : Rise rs) (h2 : Rise ts) {xs : List Change} {ys : List Diff} (hx : differ rs ts = xs) (hy : reconcile rs ts = ys) : ys.length = xs.length ∧ ∀ n (h : n < ys.length) (h' : n < xs.length), Match rs ts ys[n] xs[n] := by
  subst hx hy
  exact reconcile_match h1 h2

/-- RArr.parts, the slice given. -/
theorem RArr.parts' {α : Type} {w : World} {ok : Nat → Prop} {size : Nat} {f : α → Array Value} {a : Option Addr} {n cap : Nat} {xs : List α} (h : RArr w ok size f (.slice a n cap) xs) (hn : xs.length = n) :
    ∃ b off, n ≤ 140737488355328 ∧ (0 < n → a = some ⟨b, off, none⟩ ∧ b < w.heap.size) ∧ ∀ i (h : i < xs.length), rng w b (off + i * size) size = some (f xs[i]) := by
  obtain ⟨a', cap', b, off, hv, h1, h2, h3⟩ := RArr.parts h n hn
  injection hv with e1 e2 e3
  subst e1
  exact ⟨b, off, h1, h2, h3⟩

end Go.Proofs.Qxb6500666aDoor
