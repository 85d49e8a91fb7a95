/- A map[resultKey]Row, ranged over. -/
import Derived.Test.Qxb6500666aGreatDoorMapR
import Derived.Maps.RangeWalk
namespace Go.Proofs.Qxb6500666aGreatDoor
open Go.RowKit Go.Maps

theorem zranges_blocks {H : Type} {P : Program} {k : TypeId} {R : Value → Option (DataW H × List MemPlace)} {w w' : World} {b r n : Nat} {D : DataW H} {left : Lit → Bool} {cnt : Nat} (h : w.ranges P k R b r n D left cnt) (h1 : w'.heap[b]? = w.heap[b]?) (h2 : w'.heap[r]? = w.heap[r]?) : w'.ranges P k R b r n D left cnt := by
  obtain ⟨es, clock, since, seen, c0, hb, F, hs, hD, hr, rest⟩ := h
  exact ⟨es, clock, since, seen, c0, h1.trans hb, F, hs, hD, h2.trans hr, rest⟩
theorem zranges_has {H : Type} {P : Program} {k : TypeId} {R : Value → Option (DataW H × List MemPlace)} {w : World} {b r n : Nat} {D : DataW H} {left : Lit → Bool} {cnt : Nat} (h : w.ranges P k R b r n D left cnt) {kl : Lit} (hs : kl.sameKey kl = true) (hl : left kl = true) : Maps.has D kl = true := by
  obtain ⟨es, clock, since, seen, c0, hb, F, hz, hD, hr, hq, hc, h1, h2, -⟩ := h
  obtain ⟨x, hx, rfl⟩ := h2 kl hl
  rw [hD, Maps.has_eq, List.any_eq_true]
  exact ⟨_, mem_sorted.2 (List.mem_map.2 ⟨x, hx, rfl⟩), hs⟩

theorem cells_keyV {key : Value} {s a : Int} (h : key.cells.toList = [.int .u32 s, .int .u32 a]) : key = keyV s a := by
  cases key <;> simp [Value.cells] at h
  rename_i cs'
  obtain ⟨l⟩ := cs'
  simp at h
  subst h
  rfl
set_option maxRecDepth 100000 in
/-- What is a key has a key's form. -/
theorem keyOf_inv {key : Value} {l : Lit} (h : keyOf Tryz.prog 106 key = some l) : ∃ s a, U32 s ∧ U32 a ∧ key = keyV s a := by
  unfold keyOf at h
  rw [Tryz.underlying106] at h
  simp only [Tryz.keyType, Bool.true_and] at h
  split at h
  · obtain ⟨n, hn⟩ : ∃ n, Tryz.prog.types.size + 1 = n + 2 := ⟨Tryz.prog.types.size - 1, by have h : 1 ≤ Tryz.prog.types.size := Nat.le_of_lt (Nat.lt_of_le_of_lt (by decide : 1 ≤ (106 : Nat)) Tryz.keyRow); omega⟩
    rw [hn] at h
    cases hk : Tryz.prog.keyLits (n + 2) 106 key.cells.toList with
    | none => rw [hk] at h; cases h
    | some ls =>
      generalize hcs : key.cells.toList = cs at hk
      simp only [Program.keyLits, Tryz.underlying106, Tryz.keyCells] at hk
      split at hk
      · rename_i hc
        obtain ⟨x, y, rfl⟩ : ∃ x y, cs = [x, y] := by
          match cs, hc.1 with
          | [x, y], _ => exact ⟨x, y, rfl⟩
        have hw : ∀ s : Int, (Lit.int .u32 s).wf = true → U32 s := fun s hw => by
          simp [Lit.wf, IntKind.min, IntKind.max, IntKind.signed, IntKind.bits] at hw
          unfold U32
          omega
        simp only [List.mapM_cons, List.mapM_nil, Tryz.underlying48, Tryz.u32Cells, List.drop_zero, List.drop_succ_cons, List.take_succ_cons, List.take_zero] at hk
        cases x <;> first | (simp at hk; done) | skip
        rename_i k s
        cases y <;> first | (simp at hk; done) | skip
        rename_i k' a
        by_cases c1 : k = .u32 ∧ (Lit.int .u32 s).wf = true
        · by_cases c2 : k' = .u32 ∧ (Lit.int .u32 a).wf = true
          · obtain ⟨rfl, hs⟩ := c1
            obtain ⟨rfl, ha⟩ := c2
            replace hs := hw s hs
            replace ha := hw a ha
            refine ⟨s, a, hs, ha, ?_⟩
            exact cells_keyV hcs
          · simp [c2] at hk
        · simp [c1] at hk
      · cases hk
  · cases h

/-- Block B is the map m, block r an iterator over it; the rows todo are still to come. -/
def MapIt (w : World) (B r n : Nat) (m todo : List Row) (cnt : Nat) : Prop :=
  Apart m ∧ (∀ q ∈ m, U32 q.sample ∧ U32 q.analyte) ∧ ∃ (D : DataW Value) (left : Lit → Bool), w.ranges Tryz.prog 106 heldElem B r n D left cnt ∧ Maps.size D = m.length ∧
    (∀ s a l, keyOf Tryz.prog 106 (keyV s a) = some l → Maps.has D l = (mlook m s a).isSome ∧ D.atKey l (.held (.agg (rowCs zeroRow))) = .held (.agg (rowCs ((mlook m s a).getD zeroRow)))) ∧
    todo = m.filter fun q => (keyOf Tryz.prog 106 (keyV q.sample q.analyte)).any left
section
variable {w w' : World} {B r n cnt : Nat} {m todo : List Row}
theorem MapIt.map (h : MapIt w B r n m todo cnt) : MapAt w B n m := by
  obtain ⟨h1, h2, D, left, h3, h4, h5, -⟩ := h
  exact ⟨h1, D, h3.owns, h4, h5⟩
theorem MapIt.same (h : MapIt w B r n m todo cnt) (hB : w'.heap[B]? = w.heap[B]?) (hr : w'.heap[r]? = w.heap[r]?) : MapIt w' B r n m todo cnt := by
  obtain ⟨h1, h2, D, left, h3, h4, h5, h6⟩ := h
  exact ⟨h1, h2, D, left, zranges_blocks h3 hB hr, h4, h5, h6⟩
theorem MapIt.ne (h : MapIt w B r n m todo cnt) : r ≠ B := by
  obtain ⟨h1, h2, D, left, h3, -⟩ := h
  exact h3.ne
theorem MapIt.lt (h : MapIt w B r n m todo cnt) : r < w.heap.size := by
  obtain ⟨h1, h2, D, left, h3, -⟩ := h
  exact h3.lt
theorem MapIt.apart (h : MapIt w B r n m todo cnt) : Apart todo := by
  obtain ⟨h1, h2, D, left, h3, h4, h5, rfl⟩ := h
  exact List.Pairwise.filter _ h1
theorem MapIt.sub (h : MapIt w B r n m todo cnt) : ∀ q ∈ todo, q ∈ m := by
  obtain ⟨h1, h2, D, left, h3, h4, h5, rfl⟩ := h
  exact fun q hq => (List.mem_filter.1 hq).1
theorem mlook_apart : ∀ {m : List Row}, Apart m → ∀ {q : Row}, q ∈ m → mlook m q.sample q.analyte = some q
  | [], _, q, hq => by cases hq
  | x :: m, h, q, hq => by
    have h' := List.pairwise_cons.1 h
    rw [mlook_cons]
    rcases List.mem_cons.1 hq with rfl | hq
    · rw [if_pos (atK_true.2 ⟨rfl, rfl⟩)]
    · have : atK q.sample q.analyte x = false := atK_false.2 (h'.1 q hq)
      rw [this, if_neg (by decide)]
      exact mlook_apart h'.2 hq
/-- range m. -/
theorem MapAt.range (h : MapAt w B n m) (hU : ∀ q ∈ m, U32 q.sample ∧ U32 q.analyte) {ops : Array Oper} {rest : List Oper} {o : Oper} {a : Act} {Q : Exit → Act → World → Prop} (hg : o.guard = none) (x : Operand) (hop : o.op = Op.range 148 x) (hm : a.eval x = .map (some B))
    (hK : ∀ w' cnt, MapIt w' B w.heap.size n m m cnt → w.grownBy w' none → w'.heap.size = w.heap.size + 1 → wpList Tryz.prog ops Q rest (a.put o.dst (.pointer (some ⟨w.heap.size, 0, none⟩))) w') : wpList Tryz.prog ops Q (o :: rest) a w := by
  obtain ⟨h1, D, h2, h3, h4⟩ := h
  refine wpList_range_own w hg x _ hop 106 109 Tryz.keyLaw Tryz.underlying148 heldElem B n D hm h2 ?_
  intro w' hr hg' hs
  refine hK w' _ ⟨h1, hU, D, Maps.has D, hr, h3, h4, ?_⟩ hg' hs
  refine (List.filter_eq_self.2 fun q hq => ?_).symm
  obtain ⟨l, hl⟩ := keyOf_keyV (hU q hq).1 (hU q hq).2
  rw [hl]
  show Maps.has D l = true
  rw [(h4 _ _ l hl).1, mlook_apart h1 hq]
  rfl
/-- The next row. -/
theorem MapIt.next (h : MapIt w B r n m todo cnt) {ops : Array Oper} {rest : List Oper} {o : Oper} {a : Act} {Q : Exit → Act → World → Prop} (hg : o.guard = none) (it : Operand) (hop : o.op = Op.next it false) (hit : a.eval it = .pointer (some ⟨r, 0, none⟩))
    (hDone : todo = [] → wpList Tryz.prog ops Q rest (a.put o.dst (.tuple #[.bool false])) w)
    (hMore : ∀ (c : Row) (w' : World) (cnt' : Nat), c ∈ todo → MapIt w' B r n m (mdel todo c.sample c.analyte) cnt' → cnt' < cnt → w.grownBy w' (some r) → w'.heap.size = w.heap.size → (Instr.entry (.pointer (some ⟨r, 0, none⟩))).run Tryz.prog w' = .ok (.tuple #[keyV c.sample c.analyte, .agg (rowCs c)]) w' →
      wpList Tryz.prog ops Q rest (a.put o.dst (.tuple #[.bool true, keyV c.sample c.analyte, .agg (rowCs c)])) w') : wpList Tryz.prog ops Q (o :: rest) a w := by
  obtain ⟨h1, h2, D, left, h3, h4, h5, h6⟩ := h
  refine wpList_next_ranges (α := Value) (β := Value) w hg it hop 106 Tryz.keyLaw heldElem (fun c => c) (fun c => c) (fun key _ _ => ⟨key, rfl⟩) (fun v _ _ => ⟨v, rfl⟩) B r n D left cnt hit h3 (fun _ hl => hDone ?_) ?_
  · rw [h6, List.filter_eq_nil_iff]
    intro q _
    cases keyOf Tryz.prog 106 (keyV q.sample q.analyte) with
    | none => simp
    | some l => simp [hl l]
  · intro key v kl y w' cnt' hkey hlk hv hat hrg hlt hgr hsz hen
    obtain ⟨s, a', hs, ha, rfl⟩ := keyOf_inv hkey
    have hhas := zranges_has h3 (WideAt.sameKey_self (isKey_of hkey)) hlk
    rw [(h5 s a' kl hkey).1] at hhas
    cases hm : mlook m s a' with
    | none => rw [hm] at hhas; cases hhas
    | some c =>
      obtain ⟨m1, m2, m3⟩ := mlook_mem hm
      have hel := (h5 s a' kl hkey).2
      rw [hat, hm] at hel
      have hv' : v = .agg (rowCs c) := by
        simp only [heldElem, Option.some.injEq] at hv
        rw [← hv] at hel
        simpa using hel
      subst hv'
      rw [← m2, ← m3] at hkey hen ⊢
      have hc : c ∈ todo := by
        rw [h6]
        exact List.mem_filter.2 ⟨m1, by rw [hkey]; exact hlk⟩
      refine hMore c w' cnt' hc ⟨h1, h2, D, _, hrg, h4, h5, ?_⟩ hlt hgr hsz hen
      rw [h6]
      unfold mdel
      rw [List.filter_filter]
      refine List.filter_congr fun q hq => ?_
      obtain ⟨l, hl⟩ := keyOf_keyV (h2 q hq).1 (h2 q hq).2
      rw [hl]
      show (!atK c.sample c.analyte q && left l) = (left l && !l.sameKey kl)
      have e : l.sameKey kl = atK c.sample c.analyte q := by
        rw [Bool.eq_iff_iff, WideAt.sameKey_iff (isKey_of hkey), atK_true]
        constructor
        · intro e
          subst e
          exact keyV_inj (Tryz.keyLaw.inj hl hkey)
        · rintro ⟨e1, e2⟩
          rw [e1, e2, hkey] at hl
          exact (Option.some.inj hl).symm
      rw [e, Bool.and_comm]
end
/-- One row fewer is to come. -/
theorem count_del (P : Row → Bool) : ∀ {l : List Row}, Apart l → ∀ {c : Row}, c ∈ l → (l.filter P).length = ((mdel l c.sample c.analyte).filter P).length + (if P c then 1 else 0)
  | [], _, c, hc => by cases hc
  | x :: l, h, c, hc => by
    have h' := List.pairwise_cons.1 h
    rw [mdel_cons]
    by_cases hx : atK c.sample c.analyte x = true
    · rw [if_pos hx]
      have hxc : x = c := by
        rcases List.mem_cons.1 hc with e | hc
        · exact e.symm
        · exact absurd (atK_true.1 hx) (h'.1 c hc)
      subst hxc
      have e : mdel l x.sample x.analyte = l := by
        unfold mdel
        refine List.filter_eq_self.2 fun q hq => ?_
        have : atK x.sample x.analyte q = false := atK_false.2 (fun k => h'.1 q hq ⟨k.1.symm, k.2.symm⟩)
        rw [this]
        rfl
      rw [e, List.filter_cons]
      split <;> simp
    · rw [if_neg hx]
      have hcl : c ∈ l := by
        rcases List.mem_cons.1 hc with e | hc
        · subst e; exact absurd (atK_true.2 ⟨rfl, rfl⟩) hx
        · exact hc
      have ih := count_del P h'.2 hcl
      rw [List.filter_cons, List.filter_cons]
      split
      · rw [List.length_cons, List.length_cons, ih]; omega
      · exact ih

end Go.Proofs.Qxb6500666aGreatDoor
