/- Strings appended to the text; the names of roles and kinds. -/
import Derived.Test.Qxb6500666aGreatDoorTrail
import Derived.Test.Qxb6500666aGreatDoorRep3
import Derived.Lib.AppendStr
namespace Go.Proofs.Qxb6500666aGreatDoor
open Go.RowKit Go.Lib

def strB (s : ByteArray) : List Int := s.data.toList.map (fun b => (b.toNat : Int))
theorem strB_len (s : ByteArray) : (strB s).length = s.size := by simp [strB]
theorem strB_flat (s : ByteArray) : flat byteCs (strB s) = strCells s := by
  unfold strB strCells
  induction s.data.toList with
  | nil => rfl
  | cons x l ih => simp only [List.map_cons, flat, ih]; rfl

theorem run_append_str_at {P : Program} (w : World) (base : Nat) (t u ty e : TypeId) (i : TypeInfo) (ht : P.underlying t = some (.slice e)) (hu : P.underlying u = some .string) (hi : P.info? e = some i) (hz : i.zero = some (.int .u8 0))
    (hsize : i.size = 1) (hby : i.bytes = 1) (v : Value) (n : Nat) (xs : List Value) (hown : w.ownsRow base e 1 v n xs) (s : ByteArray) (h63 : n + s.size ≤ maxLen) (hbytes : n + s.size ≤ 140737488355328) (hbase : base ≤ w.heap.size) :
    ∃ v' w', (Builtin.append_ #[t, u] ty #[v, .string s]).run P w = .ok v' w' ∧ w'.ownsRow base e 1 v' (n + s.size) (xs ++ strCells s) ∧ w.grownBy w' v.ownBlock ∧ (v'.ownBlock = v.ownBlock ∨ v'.ownBlock = some w.heap.size) := by
  obtain ⟨v', w', hr, h2, h3, h4⟩ := run_append_own_string (P := P) w base t u ty e i ht hu hi hz hsize hby v n xs hown s h63 hbytes hbase
  refine ⟨v', w', hr, h2, h3, ?_⟩
  have hsmall : n + s.size ≤ 9223372036854775807 := by simp only [maxLen] at h63; omega
  have hxl : xs.length = n := by simpa using hown.1
  rcases hown.2 with ⟨rfl, rfl⟩ | ⟨g, cap, cur, rfl, hbg, hg, hnc, hcm, hcs, htake⟩
  · by_cases hm : s.size = 0
    · rw [h4.2 ⟨rfl, hm⟩]; exact Or.inl rfl
    · have hr2 := run_append_nil_string (P := P) w t u ty e i (.int .u8 0) ht hu hi hz s (by omega) (by omega) (by rw [hby]; omega)
      rw [hr2] at hr
      injection hr with e1 _
      rw [← e1]
      exact Or.inr rfl
  · by_cases hroom : n + s.size ≤ cap
    · have hcs' : cur.size = cap := by simpa using hcs
      have hr2 := run_append_room_string (P := P) w t u ty e i ht hu hi hsize g n cap cur hg s hroom (by omega)
      rw [hr2] at hr
      injection hr with e1 _
      rw [← e1]
      exact Or.inl rfl
    · have holds : ∀ j u, xs[j]? = some u → w.cell? ((⟨g, 0, none⟩ : Addr).add j) = some u := hown.cells (g := g) rfl
      have hr2 := run_append_grow_string (P := P) w t u ty e i (.int .u8 0) ht hu hi hz ⟨g, 0, none⟩ n cap xs (by rw [hsize]; simpa using hxl) holds s (by omega) (by omega) (by rw [hby]; exact growslice_fits (by omega) (by omega))
      rw [hr2] at hr
      injection hr with e1 _
      rw [← e1]
      exact Or.inr rfl

theorem wpList_appStr {P : Program} {ops : Array Oper} {rest : List Oper} {o : Oper} {a : Act} {w : World} {Q : Exit → Act → World → Prop} (hgd : o.guard = none) (sl x : Operand) (t u : TypeId)
    (ho : o.op = .call { callee := .builtin .append, args := #[sl, x], argTypes := #[t, u] })
    (base : Nat) (e : TypeId) (ht : P.underlying t = some (.slice e)) (hu : P.underlying u = some .string) (hinfo : (P.info? e).map (fun i => (i.zero, i.size, i.bytes)) = some (some (.int .u8 0), 1, 1))
    (v : Value) (xs : List Int) (hs : a.eval sl = v) (hown : OwnR w base e 1 byteCs v xs) (s : ByteArray) (hx : a.eval x = .string s) (hlen : xs.length + s.size ≤ 140737488355328) (hbase : base ≤ w.heap.size)
    (h : ∀ v' w', OwnR w' base e 1 byteCs v' (xs ++ strB s) → Same (fun b => b < w.heap.size ∧ v.ownBlock ≠ some b) w w' → Below base w w' → (v'.ownBlock = v.ownBlock ∨ v'.ownBlock = some w.heap.size) → wpList P ops Q rest (a.put o.dst v') w') : wpList P ops Q (o :: rest) a w := by
  obtain ⟨i, hi, hz0, hz1, hz2⟩ := info_parts hinfo
  obtain ⟨v', w', hr, h2, h3, h4⟩ := run_append_str_at (P := P) w base t u o.type e i ht hu hi hz0 hz1 hz2 v xs.length (flat byteCs xs) hown s (by unfold maxLen; omega) hlen hbase
  refine wpList_plain hgd fun K hK => ?_
  unfold Oper.wp execOp
  simp only [ho, resolve, invoke, builtin, Sem.run_bind, Sem.run_pure, Result.andThen_ok, List.map_toArray, List.map_cons, List.map_nil, hs, hx, hr]
  refine hK _ _ (h v' w' ?_ (fun b hb => h3.block b hb.1 (fun e => hb.2 e.symm)) ((Below.refl _ _).grown h3 hbase (fun k hk => (hown.block k hk).1)) h4)
  unfold OwnR
  rw [flat_append, strB_flat, List.length_append, strB_len]
  exact h2

attribute [local go_sem] ext_const Ext.cell Ext.frozen Ext.rng Ext.whole

set_option maxRecDepth 100000 in
set_option maxHeartbeats 1000000 in
theorem word_calls (w : World) (B g : Nat) (A : Nat → Prop) (bs : List Int) (s : ByteArray) (h : TextAt w B g A bs) (hl : bs.length + s.size ≤ 70368744177664) :
    Calls Tryz.prog 136 #[.pointer (some ⟨g, 0, none⟩), .string s] w fun e w' => e = .returned (.tuple #[]) ∧ Wrote w w' B g A (bs ++ 124 :: strB s) := by
  obtain ⟨a, cap, hg, hB, hown, hne, k1, k2, k3⟩ := h
  obtain ⟨hc, hfz, hgl⟩ := cell_one hg
  go_enter Tryz.func136, Tryz.ntmps136
  go_upto_region 1 with (at_builtin; refine wpList_app1 (α := Int) rfl _ _ 55 rfl B 5 byteCs Tryz.underlying55 Tryz.info5 rfl (by decide) byteCs_size byteCs_one (.slice a bs.length cap) bs rfl (OwnR.below hown ((Below.refl _ _).alloc (Nat.le_refl _) _) (Nat.le_refl _)) _ rfl 124 ((rng_alloc_at _ _ _ _ _ _ _ rfl).trans rfl) (by omega) (by unfold maxLen; omega) (by simp; omega) ?_; intro v1 w1 hown1 hsame1 hbel1 hat1; have hs1 := same_alloc1 hsame1; obtain ⟨hc1, hfz1, -⟩ := cell_one ((hs1 g ⟨hgl, hne⟩).trans hg); obtain ⟨a1, cap1, rfl⟩ := hown1.form; simp only [List.length_append, List.length_cons, List.length_nil, Nat.zero_add] at hown1 hat1 ⊢)
  have hW := text_store hg hB hne k1 k2 k3 hown1 (((Below.refl _ _).alloc (by omega) _).trans hbel1) hs1 (at_alloc1 hat1)
  clear hc hfz hc1 hfz1 hs1 hown hown1 hsame1 hat1 hg hgl hne hbel1 k1 k2 k3
  generalize w1.setCell ⟨g, 0, none⟩ (.slice a1 (bs.length + 1) cap1) = W1 at *
  obtain ⟨a2, cap2, hg2, -, hown2, hne2, k1, k2, k3⟩ := hW.text
  simp only [List.length_append, List.length_cons, List.length_nil, Nat.zero_add] at hg2 hown2 hne2 k2
  obtain ⟨hc2, hfz2, hgl2⟩ := cell_one hg2
  go_wp2_with (at_builtin; refine wpList_appStr rfl _ _ 55 9 rfl B 5 Tryz.underlying55 Tryz.underlying9 Tryz.info5 _ (bs ++ [124]) rfl hown2 s rfl (by simp; omega) (by omega) ?_; intro v3 w3 hown3 hs3 hbel3 hat3; obtain ⟨hc3, hfz3, -⟩ := cell_one ((hs3 g ⟨hgl2, hne2⟩).trans hg2); obtain ⟨a3, cap3, hv3⟩ := hown3.form; generalize (bs ++ [124] ++ strB s).length = L3 at hv3; subst hv3)
  go_end0
  refine ⟨rfl, hW.trans ?_⟩
  have := text_store hg2 hB hne2 k1 k2 k3 hown3 hbel3 hs3 (hat3.imp id (fun e b hb => by rw [e] at hb; injection hb with hb; omega))
  simpa using this

def lstT : Nat → List Int → List Int
  | _, [] => []
  | i, x :: r => (if 0 < i then [44] else []) ++ dec x ++ lstT (i + 1) r
theorem lstT_snoc (x : Int) : ∀ (i : Nat) (l : List Int), lstT i (l ++ [x]) = lstT i l ++ ((if 0 < i + l.length then [44] else []) ++ dec x)
  | i, [] => by simp [lstT]
  | i, y :: l => by
    simp only [List.cons_append, lstT, lstT_snoc x (i + 1) l, List.length_cons, List.append_assoc, show i + 1 + l.length = i + (l.length + 1) by omega]
theorem lstT_len : ∀ (i : Nat) (l : List Int), (∀ x ∈ l, U32 x) → (lstT i l).length ≤ 22 * l.length
  | i, [], _ => by simp [lstT]
  | i, x :: l, h => by
    have h1 := lstT_len (i + 1) l (fun y hy => h y (List.mem_cons_of_mem _ hy))
    have hx := (h x (List.mem_cons_self ..)).i64
    have h2 := dec_len hx.1 hx.2
    simp only [lstT, List.length_append, List.length_cons]
    split <;> simp <;> omega
def lstText (ids : List Int) : List Int := [124] ++ (if ids.length = 0 then [45] else []) ++ lstT 0 ids

set_option maxRecDepth 100000 in
set_option maxHeartbeats 2000000 in
theorem list_calls (w : World) (B g : Nat) (A ok : Nat → Prop) (bs : List Int) (a0 : Option Addr) (n cap0 : Nat) (ids : List Int) (h : TextAt w B g A bs) (hl : bs.length ≤ 17592186044416) (hid : U32sAt w ok (.slice a0 n cap0) ids) (hn : n ≤ 1000) (hids : ∀ x ∈ ids, U32 x) (hok : ∀ b, ok b → b < B ∨ A b) :
    Calls Tryz.prog 139 #[.pointer (some ⟨g, 0, none⟩), .slice a0 n cap0] w fun e w' => e = .returned (.tuple #[]) ∧ Wrote w w' B g A (bs ++ lstText ids) := by
  obtain ⟨a', cap', b, off, hv, hl0, hm, hr, ha, hc0⟩ := RArr.lt hid
  simp only [Value.slice.injEq] at hv
  obtain ⟨rfl, hnn, rfl⟩ := hv
  have Hn : Hid (n = ids.length) := hnn
  rw [← hnn] at hl0 hr ha
  have hi := run_indexAt_arr (P := Tryz.prog) (n := n) (cap := cap0) Tryz.underlying29 Tryz.size48 (fun h => (ha h).1)
  have HBB : Hid (0 < n → (b < B ∨ A b) ∧ b < w.heap.size) := fun h => ⟨hok b (ha h).2.1, (ha h).2.2⟩
  have HC := hide hc0
  clear ha hc0 hnn hm hl0 hid hok
  obtain ⟨a, cap, hg, hB, hown, hne, k1, k2, k3⟩ := h
  obtain ⟨hc, hfz, hgl⟩ := cell_one hg
  go_enter Tryz.func139, Tryz.ntmps139
  go_upto_region 1 with (at_builtin; refine wpList_app1 (α := Int) rfl _ _ 55 rfl B 5 byteCs Tryz.underlying55 Tryz.info5 rfl (by decide) byteCs_size byteCs_one (.slice a bs.length cap) bs rfl (OwnR.below hown ((Below.refl _ _).alloc (Nat.le_refl _) _) (Nat.le_refl _)) _ rfl 124 ((rng_alloc_at _ _ _ _ _ _ _ rfl).trans rfl) (by omega) (by unfold maxLen; omega) (by simp; omega) ?_; intro v1 w1 hown1 hsame1 hbel1 hat1; have hs1 := same_alloc1 hsame1; obtain ⟨hc1, hfz1, -⟩ := cell_one ((hs1 g ⟨hgl, hne⟩).trans hg); obtain ⟨a1, cap1, rfl⟩ := hown1.form; simp only [List.length_append, List.length_cons, List.length_nil, Nat.zero_add] at hown1 hat1 ⊢)
  have hW := hide (text_store hg hB hne k1 k2 k3 hown1 (((Below.refl _ _).alloc (by omega) _).trans hbel1) hs1 (at_alloc1 hat1))
  clear hc hfz hc1 hfz1 hs1 hown hown1 hsame1 hat1 hg hgl hne hbel1 k1 k2 k3
  generalize w1.setCell ⟨g, 0, none⟩ (.slice a1 (bs.length + 1) cap1) = W1 at *
  go_upto_if 17 with fail
  go_cut [] (fun W => Hid (Wrote w W B g A (bs ++ [124] ++ (if ids.length = 0 then [45] else []))))
  case first =>
    by_cases h0 : n = 0
    · obtain ⟨a2, cap2, hg, -, hown, hne, k1, k2, k3⟩ := hW.out.text
      simp only [List.length_append, List.length_cons, List.length_nil, Nat.zero_add] at hg hown hne k2
      obtain ⟨hc, hfz, hgl⟩ := cell_one hg
      subst h0
      go_wp2_with (at_builtin; refine wpList_app1 (α := Int) rfl _ _ 55 rfl B 5 byteCs Tryz.underlying55 Tryz.info5 rfl (by decide) byteCs_size byteCs_one _ (bs ++ [124]) rfl (OwnR.below hown ((Below.refl _ _).alloc (Nat.le_refl _) _) (Nat.le_refl _)) _ rfl 45 ((rng_alloc_at _ _ _ _ _ _ _ rfl).trans rfl) (by simp; omega) (by unfold maxLen; simp; omega) (by simp; omega) ?_; intro v1 w1 hown1 hsame1 hbel1 hat1; have hs1 := same_alloc1 hsame1; obtain ⟨hc1, hfz1, -⟩ := cell_one ((hs1 g ⟨hgl, hne⟩).trans hg); obtain ⟨a1, cap1, hv1⟩ := hown1.form; generalize (bs ++ [124] ++ [45]).length = L3 at hv1; subst hv1)
      go_meet
      case rel =>
        have h2 := text_store hg hB hne k1 k2 k3 hown1 (((Below.refl _ _).alloc (by omega) _).trans hbel1) hs1 (at_alloc1 hat1)
        show Wrote _ _ _ _ _ _
        rw [if_pos Hn.out.symm]
        exact hW.out.trans h2
    · go_wp2
      go_meet
      case rel =>
        show Wrote _ _ _ _ _ _
        rw [if_neg (fun e => h0 (Hn.out.trans e)), List.append_nil]
        exact hW.out
  case rest =>
    have HW0 := hcut
    obtain ⟨y, hy⟩ : ∃ y, bs ++ [124] ++ (if ids.length = 0 then [45] else []) = y := ⟨_, rfl⟩
    rw [hy] at HW0
    have HY := hide hy
    have hyl : y.length ≤ bs.length + 2 := by rw [← hy]; split <;> simp
    have HI := hide hids
    clear hcut hy hW hids
    go_upto_region 4 with fail
    go_loopg [29] n (fun gk j wr => ∃ q : Nat, q ≤ n ∧ gk = n - q ∧ j = .int .i64 q ∧ Hid (Wrote w wr B g A (y ++ lstT 0 (ids.take q))))
    case atStart => exact ⟨0, by omega, by omega, rfl, by simpa [lstT] using HW0⟩
    clear HW0
    case round =>
      obtain ⟨q, hq, rfl, rfl, HWq⟩ := hrel
      by_cases hlt : q < n
      · have hqs : q < ids.length := by rw [← Hn.out]; exact hlt
        have hbb := HBB.out (by omega)
        have hbk : wr.heap[b]? = w.heap[b]? := hbb.1.elim (fun h => HWq.out.below.block b h) (fun h => HWq.out.same b h)
        have c1 := HC.out q hqs
        rw [← rng_of_block hbk] at c1
        have c0 := (rng_cell c1).2 0 (by decide)
        simp only [u32Cs, List.getElem?_toArray, List.getElem?_cons_zero, Nat.mul_one, Nat.add_zero] at c0
        have hbw : b < wr.heap.size := by have := HWq.out.below.size; omega
        have hx := HI.out _ (List.getElem_mem hqs)
        have HLT : Hid (lstT 0 (ids.take (q + 1)) = lstT 0 (ids.take q) ++ ((if 0 < q then [44] else []) ++ dec ids[q])) := by
          show _ = _
          rw [List.take_succ_eq_append_getElem hqs, lstT_snoc]
          simp only [List.length_take, Nat.zero_add, show min q ids.length = q by omega]
        have hll := lstT_len 0 (ids.take q) (fun x hx => HI.out x (List.mem_of_mem_take hx))
        have hll2 : (ids.take q).length ≤ q := by simp; omega
        generalize ids[q] = x at *
        obtain ⟨z, hz⟩ : ∃ z, y ++ lstT 0 (ids.take q) = z := ⟨_, rfl⟩
        have hzl : z.length ≤ bs.length + 2 + 22 * q := by rw [← hz, List.length_append]; omega
        rw [hz] at HWq
        have HZ := hide hz
        have HX := hide hx
        clear c1 hbk hll hll2 hz hx
        go_upto_if 35 with fail
        go_cut [] (fun W => Hid (Wrote wr W B g A (z ++ (if 0 < q then [44] else []))))
        case first =>
          by_cases h0 : 0 < q
          · obtain ⟨a2, cap2, hg, -, hown, hne, k1, k2, k3⟩ := HWq.out.text
            obtain ⟨hc, hfz, hgl⟩ := cell_one hg
            generalize hzz : z.length = L at *
            go_wp2_with (at_builtin; refine wpList_app1 (α := Int) rfl _ _ 55 rfl B 5 byteCs Tryz.underlying55 Tryz.info5 rfl (by decide) byteCs_size byteCs_one _ z rfl (OwnR.below hown ((Below.refl _ _).alloc (Nat.le_refl _) _) (Nat.le_refl _)) _ rfl 44 ((rng_alloc_at _ _ _ _ _ _ _ rfl).trans rfl) (by omega) (by unfold maxLen; omega) (by simp; omega) ?_; intro v1 w1 hown1 hsame1 hbel1 hat1; have hs1 := same_alloc1 hsame1; obtain ⟨hc1, hfz1, -⟩ := cell_one ((hs1 g ⟨hgl, hne⟩).trans hg); obtain ⟨a1, cap1, hv1⟩ := hown1.form; generalize (z ++ [44]).length = L3 at hv1; subst hv1)
            go_meet
            case rel =>
              show Wrote _ _ _ _ _ _
              rw [if_pos h0]
              exact text_store hg hB hne k1 k2 k3 hown1 (((Below.refl _ _).alloc (by omega) _).trans hbel1) hs1 (at_alloc1 hat1)
          · have hq0 : q = 0 := by omega
            subst hq0
            go_wp2
            go_meet
            case rel =>
              show Wrote _ _ _ _ _ _
              rw [if_neg h0, List.append_nil]
              exact ⟨HWq.out.text, Below.refl _ _, Same.refl _ _⟩
        case rest =>
          have HW1 := hcut
          obtain ⟨z1, hz1⟩ : ∃ z1, z ++ (if 0 < q then [44] else []) = z1 := ⟨_, rfl⟩
          rw [hz1] at HW1
          have HZ1 := hide hz1
          have hz1l : z1.length ≤ bs.length + 3 + 22 * q := by rw [← hz1]; split <;> simp <;> omega
          obtain ⟨a2, cap2, hg, -, hown, hne, k1, k2, k3⟩ := HW1.out.text
          obtain ⟨hc, hfz, hgl⟩ := cell_one hg
          clear hcut hz1 c0 hbw hi
          generalize hzz : z1.length = L at *
          obtain ⟨hx1, hx2⟩ := HX.out
          go_wp2_with (go_at_call 47; refine (appendInt_calls _ B _ z1 x hown (by omega) (by omega) (by omega) (by omega)).mono ?_; rintro e w3 ⟨v3, rfl, hown3, hs3, hbel3, hat3⟩; obtain ⟨hc3, hfz3, -⟩ := cell_one ((hs3 g ⟨hgl, hne⟩).trans hg); obtain ⟨a3, cap3, hv3⟩ := hown3.form; generalize (z1 ++ dec x).length = L3 at hv3; subst hv3)
          go_roundg (n - (q + 1))
          case measure => omega
          case rel =>
            have h2 := text_store hg hB hne k1 k2 k3 hown3 hbel3 hs3 hat3
            refine ⟨q + 1, by omega, rfl, by go_num, ?_⟩
            show Wrote _ _ _ _ _ _
            rw [HLT.out, ← List.append_assoc, ← List.append_assoc, HZ.out, HZ1.out]
            exact (HWq.out.trans HW1.out).trans h2
      · have HF : Hid (ids.take q = ids) := List.take_of_length_le (by rw [← Hn.out]; omega)
        rw [HF.out] at HWq
        go_wp2
        go_end0
        refine ⟨rfl, ?_⟩
        have hE : bs ++ lstText ids = y ++ lstT 0 ids := by rw [← HY.out]; simp only [lstText, List.append_assoc]
        rw [hE]
        exact HWq.out

end Go.Proofs.Qxb6500666aGreatDoor
