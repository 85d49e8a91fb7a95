/- ParseError.Error and the bench's codeOf: weak. -/
import Derived.Test.Qxb6500666aGreatDoorWkRole
import Derived.ArgAppend
import Derived.Lib.SlBytesConst
import Derived.Lib.Strings
namespace Go.Proofs.Qxb6500666aGreatDoor
open Go.RowKit Go.Lib

attribute [local go_sem] ext_const Ext.cell Ext.frozen Ext.rng Ext.whole

theorem flat_bytes (xs : List Int) : flat byteCs xs = xs.map (Value.int .u8) := by
  induction xs with
  | nil => rfl
  | cons x r ih => simpa [flat, byteCs] using ih
/-- A full slice of bytes is appended to: a new array. -/
theorem wpList_appG {ops : Array Oper} {rest : List Oper} {o : Oper} {a : Act} {w : World} {Q : Exit → Act → World → Prop} (hgd : o.guard = none) (s x : Operand)
    (ho : o.op = .call { callee := .builtin .append, args := #[s, x], argTypes := #[55, 55] })
    (g n cap : Nat) (xs : List Int) (hn : n = xs.length) (hs : a.eval s = .slice (some ⟨g, 0, none⟩) n cap) (hold : ∀ i (h : i < xs.length), w.cell? ⟨g, i, none⟩ = some (.int .u8 xs[i]))
    (b off m c : Nat) (hx : a.eval x = .slice (some ⟨b, off, none⟩) m c) (ys : List Int) (hm : m = ys.length) (hsrc : ∀ i (h : i < ys.length), rng w b (off + i * 1) 1 = some (byteCs ys[i]))
    (hfull : cap < n + m) (hbig : n + m ≤ 100000) (_ : b < w.heap.size)
    (h : ∀ v' w', OwnR w' w.heap.size 5 1 byteCs v' (xs ++ ys) → Below w.heap.size w w' → wpList Tryz.prog ops Q rest (a.put o.dst v') w') : wpList Tryz.prog ops Q (o :: rest) a w := by
  obtain ⟨i, hi, hz0, hz1, hz2⟩ := info_parts Tryz.info5
  refine wpList_append_grows w hgd s x 55 ho 5 i (.int .u8 0) 1 1 Tryz.underlying55 hi hz0 hz1 hz2 rfl (by decide) (some ⟨g, 0, none⟩) n cap (flat byteCs xs) hs (fun h => by cases h) (by rw [flat_length byteCs_size, hn]) ?_ ⟨b, off, none⟩ m c (flat byteCs ys) hx (by rw [flat_length byteCs_size, hm]) ?_ ?_ hfull (by unfold maxLen; omega) (by omega) ?_
  · intro q hq j u hu
    simp only [Option.some.injEq] at hq
    subst hq
    rw [flat_bytes] at hu
    obtain ⟨hj, rfl⟩ := List.getElem?_eq_some_iff.1 hu
    simp only [List.length_map] at hj
    rw [Addr.add_lit, Nat.zero_add, hold j hj]
    simp
  · intro j u hu
    rw [flat_bytes] at hu
    obtain ⟨hj, rfl⟩ := List.getElem?_eq_some_iff.1 hu
    simp only [List.length_map] at hj
    rw [Addr.add_lit]
    have := (rng_cell (hsrc j hj)).2 0 (by decide)
    rw [Nat.mul_one, Nat.add_zero] at this
    rw [this]
    simp [byteCs]
  · intro u hu
    rw [flat_bytes] at hu
    obtain ⟨y, -, rfl⟩ := List.mem_map.1 hu
    rfl
  · intro v' w' hv hgr
    refine h v' w' ?_ ((Below.refl _ _).grown hgr (Nat.le_refl _) (fun k hk => by simp at hk))
    unfold OwnR
    rw [List.length_append, flat_append, ← hn, ← hm]
    exact hv

set_option maxRecDepth 100000 in
set_option maxHeartbeats 1000000 in
theorem appendInt_full (w : World) (g n : Nat) (bs : List Int) (x : Int) (hn : n = bs.length) (hg : g < w.heap.size) (hold : ∀ i (h : i < bs.length), w.cell? ⟨g, i, none⟩ = some (.int .u8 bs[i])) (hlen : n ≤ 100) (h1 : -9223372036854775808 ≤ x) (h2 : x ≤ 9223372036854775807) :
    Calls Tryz.prog 47 #[.slice (some ⟨g, 0, none⟩) n n, .int .i64 x] w fun e w' => ∃ v', e = .returned v' ∧ OwnR w' w.heap.size 5 1 byteCs v' (bs ++ dec x) ∧ Below w.heap.size w w' := by
  obtain ⟨m, hm⟩ : ∃ m : Nat, x.natAbs = m := ⟨_, rfl⟩
  have HM := digs_len 18 m (by omega)
  have HO := hide hold
  have HN := hide hn
  clear hold hn
  go_enter Tryz.func47, Tryz.ntmps47
  go_upto_if 10 with fail
  go_cut [5] (fun z W => z = .int .i64 (-(m : Int)) ∧ w = W)
  case first =>
    by_cases hx : 0 < x
    · go_wp2
      go_meet
      case rel => exact ⟨by congr 1; omega, rfl⟩
    · go_wp2
      go_meet
      case rel => exact ⟨by congr 1; omega, rfl⟩
  case rest =>
  obtain ⟨rfl, rfl⟩ := hcut
  go_upto_block 0 with fail
  have hD0 : Dig w (w.alloc (.cells #[.int .u8 0, .int .u8 0, .int .u8 0, .int .u8 0, .int .u8 0, .int .u8 0, .int .u8 0, .int .u8 0, .int .u8 0, .int .u8 0, .int .u8 0, .int .u8 0, .int .u8 0, .int .u8 0, .int .u8 0, .int .u8 0, .int .u8 0, .int .u8 0, .int .u8 0, .int .u8 0] 252)) 20 [] :=
    ⟨by simp, (Below.refl _ _).alloc (Nat.le_refl _) _, rfl, ⟨[.int .u8 0, .int .u8 0, .int .u8 0, .int .u8 0, .int .u8 0, .int .u8 0, .int .u8 0, .int .u8 0, .int .u8 0, .int .u8 0, .int .u8 0, .int .u8 0, .int .u8 0, .int .u8 0, .int .u8 0, .int .u8 0, .int .u8 0, .int .u8 0, .int .u8 0, .int .u8 0], heap_alloc_at _ _, rfl⟩⟩
  go_cut [7] (fun at' W => ∃ p : Nat, at' = .int .i64 p ∧ Dig w W p (digs m))
  case first =>
    go_wp2
    go_loopg [5, 7] 20 (fun g z at' W => ∃ (k p : Nat) (r : List Int), g = 0 + p ∧ z = .int .i64 (-(k : Int)) ∧ at' = .int .i64 p ∧ Dig w W p r ∧ digs k ++ r = digs m ∧ k ≤ m)
    case atStart => exact ⟨m, 20, [], rfl, rfl, rfl, hD0, by simp, Nat.le_refl _⟩
    case round =>
      obtain ⟨k, p, r, rfl, rfl, rfl, hD, hdg, hkm⟩ := hrel
      have hl1 := congrArg List.length hdg
      simp only [List.length_append] at hl1
      have hl2 := hD.len
      have hl3 := digs_pos k
      obtain ⟨p', rfl⟩ : ∃ p', p = p' + 1 := ⟨p - 1, by omega⟩
      obtain ⟨x0, hcell⟩ := hD.cell (q := p') (by omega)
      have hfz := hD.open p'
      by_cases hk : k < 10
      · have t1 : (-((k : Int) / 10) == 0) = true := by
          have : (k : Int) / 10 = 0 := by omega
          simp [this]
        go_wp2
        go_meet
        case rel =>
          refine ⟨p', by first | rfl | (congr 1; omega), ?_⟩
          rw [← hdg, digs_small hk]
          have e : (k : Int) % 10 = k := by omega
          rw [e]
          exact hD.put _
      · have t1 : (-((k : Int) / 10) == 0) = false := by
          have : (k : Int) / 10 ≠ 0 := by omega
          simp [this]
        go_wp2
        go_roundg (0 + p')
        case measure => omega
        case rel =>
          refine ⟨k / 10, p', (48 + ((k % 10 : Nat) : Int)) :: r, rfl, by congr 1, by first | rfl | (congr 1; omega), ?_, by rw [digs_step hk]; exact hdg, by omega⟩
          exact hD.put _
  case rest =>
  obtain ⟨p, rfl, hD⟩ := hcut
  have hpl := hD.len
  have hpd := digs_pos m
  by_cases hx : x < 0
  · obtain ⟨p', rfl⟩ : ∃ p', p = p' + 1 := ⟨p - 1, by omega⟩
    obtain ⟨x0, hcell⟩ := hD.cell (q := p') (by omega)
    have hfz := hD.open p'
    have hsl := fun W => run_slDig W w.heap.size p' (by omega)
    have HD := hD.put 45
    generalize hW : wc.setCell ⟨w.heap.size, p', none⟩ (.int .u8 45) = W1 at *
    go_wp2_with (at_builtin; refine wpList_appG rfl _ _ rfl g n n bs HN.out rfl (fun i h => (HD.below.cell (p := ⟨_, _, none⟩) hg).trans (HO.out i h)) w.heap.size p' (20 - p') (20 - p') rfl (45 :: digs m) (by simp; omega) HD.tail (by simp at *; omega) (by omega) (by have := HD.size; omega) ?_; intro v' w' hown' hbel')
    go_ret
    have e : dec x = 45 :: digs m := by rw [dec, if_pos hx, hm]
    rw [e]
    exact ⟨v', rfl, hown'.lower (by have := HD.size; omega), HD.below.trans (hbel'.mono (by have := HD.size; omega))⟩
  · have hsl := fun W => run_slDig W w.heap.size p (by omega)
    go_wp2_with (at_builtin; refine wpList_appG rfl _ _ rfl g n n bs HN.out rfl (fun i h => (hD.below.cell (p := ⟨_, _, none⟩) hg).trans (HO.out i h)) w.heap.size p (20 - p) (20 - p) rfl (digs m) (by omega) hD.tail (by simp at *; omega) (by omega) (by have := hD.size; omega) ?_; intro v' w' hown' hbel')
    go_ret
    have e : dec x = digs m := by rw [dec, if_neg (by omega), hm]
    rw [e]
    exact ⟨v', rfl, hown'.lower (by have := hD.size; omega), hD.below.trans (hbel'.mono (by have := hD.size; omega))⟩


/-- A ParseError, as the bench's codeOf reads it. -/
theorem PErr_parts {w : World} {E : Nat} (h : PErr w E) : ∃ l f, w.heap[E]? = some (.cells #[.int .i64 l, .int .u8 f] 243 (0, 0)) ∧ I64 l ∧ Flt f ∧ 0 < l ∧ f ≠ 0 := by
  obtain ⟨l, f, h1, h2, h3⟩ := h
  exact ⟨l, f, h1, ⟨by omega, by omega⟩, ⟨by omega, by omega⟩, by omega, by omega⟩
def msg0 : List Int := [116, 114, 97, 110, 115, 102, 101, 114, 58, 32, 108, 105, 110, 101, 32]

set_option maxRecDepth 100000 in
set_option maxHeartbeats 2000000 in
theorem error_any (w : World) (rn kn ft : Nat → ByteArray) (E : Nat) (l f : Int) (hnm : NmAt w rn kn ft) (hE : w.heap[E]? = some (.cells #[.int .i64 l, .int .u8 f] 243 (0, 0))) (hl : I64 l) (hf : Flt f) :
    Calls Tryz.prog 119 #[.pointer (some ⟨E, 0, none⟩)] w fun e w' => (∃ S : ByteArray, e = .returned (.string S) ∧ 0 < S.size) ∧ Below w.heap.size w w' := by
  obtain ⟨hf0, hf1⟩ := hf
  obtain ⟨fn, rfl⟩ : ∃ fn : Nat, f = fn := ⟨f.toNat, by omega⟩
  have HE := hide hE
  have hEl := (Array.getElem?_eq_some_iff.1 hE).1
  have HNM := hide hnm
  have hcv := run_convert_bytes_const (P := Tryz.prog) w 55 5 #[.int .u8 116, .int .u8 114, .int .u8 97, .int .u8 110, .int .u8 115, .int .u8 102, .int .u8 101, .int .u8 114, .int .u8 58, .int .u8 32, .int .u8 108, .int .u8 105, .int .u8 110, .int .u8 101, .int .u8 32] 15 15 Tryz.underlying55 Tryz.underlying5
  clear hE hnm
  go_enter Tryz.func119, Tryz.ntmps119
  go_upto_region 2 with fail
  clear hcv
  have hbA : Below w.heap.size w (w.alloc (.cells #[.int .u8 116, .int .u8 114, .int .u8 97, .int .u8 110, .int .u8 115, .int .u8 102, .int .u8 101, .int .u8 114, .int .u8 58, .int .u8 32, .int .u8 108, .int .u8 105, .int .u8 110, .int .u8 101, .int .u8 32] 5 (15, 16))) := (Below.refl _ _).alloc (Nat.le_refl _) _
  have hc0 : ∀ i (h : i < msg0.length), (w.alloc (.cells #[.int .u8 116, .int .u8 114, .int .u8 97, .int .u8 110, .int .u8 115, .int .u8 102, .int .u8 101, .int .u8 114, .int .u8 58, .int .u8 32, .int .u8 108, .int .u8 105, .int .u8 110, .int .u8 101, .int .u8 32] 5 (15, 16))).cell? ⟨w.heap.size, i, none⟩ = some (.int .u8 msg0[i]) := by
    intro i hi
    rw [World.cell?, heap_alloc_at]
    have : i < 15 := hi
    have h2 : ∀ k : Fin 15, (#[.int .u8 116, .int .u8 114, .int .u8 97, .int .u8 110, .int .u8 115, .int .u8 102, .int .u8 101, .int .u8 114, .int .u8 58, .int .u8 32, .int .u8 108, .int .u8 105, .int .u8 110, .int .u8 101, .int .u8 32] : Array Value)[k.val]? = some (.int .u8 (msg0[k.val]'k.isLt)) := fun k => by
      match k with
      | 0 | 1 | 2 | 3 | 4 | 5 | 6 | 7 | 8 | 9 | 10 | 11 | 12 | 13 | 14 => rfl
    exact h2 ⟨i, this⟩
  have hsA : w.heap.size < (w.alloc (.cells #[.int .u8 116, .int .u8 114, .int .u8 97, .int .u8 110, .int .u8 115, .int .u8 102, .int .u8 101, .int .u8 114, .int .u8 58, .int .u8 32, .int .u8 108, .int .u8 105, .int .u8 110, .int .u8 101, .int .u8 32] 5 (15, 16))).heap.size := blk_lt (heap_alloc_at _ _)
  generalize w.alloc (.cells #[.int .u8 116, .int .u8 114, .int .u8 97, .int .u8 110, .int .u8 115, .int .u8 102, .int .u8 101, .int .u8 114, .int .u8 58, .int .u8 32, .int .u8 108, .int .u8 105, .int .u8 110, .int .u8 101, .int .u8 32] 5 (15, 16)) = W1 at *
  have HC0 := hide hc0
  clear hc0
  have r0 : W1.cell? ⟨E, 0, none⟩ = some (.int .i64 l) := by rw [World.cell?, hbA.block _ hEl, HE.out]; rfl
  have hEl1 : E < W1.heap.size := by omega
  go_upto_region 3 with (go_at_call 47; refine (appendInt_full W1 w.heap.size 15 msg0 l rfl hsA HC0.out (by decide) hl.1 hl.2).mono ?_; rintro e W2 ⟨v2, rfl, hown2, hb2⟩)
  have HO2 := hide hown2
  have hdl : (dec l).length ≤ 20 := dec_len hl.1 hl.2
  have hbB : Below w.heap.size w W2 := hbA.trans (hb2.mono (by omega))
  have hs2 := hb2.size
  clear hown2 hb2 r0
  go_upto_region 4 with (at_builtin; refine wpList_appStr rfl _ _ _ _ rfl W1.heap.size 5 Tryz.underlying55 Tryz.underlying9 Tryz.info5 v2 (msg0 ++ dec l) rfl HO2.out _ rfl (by rw [List.length_append]; have h1 : msg0.length = 15 := rfl; have h2 : (ByteArray.mk #[58, 32]).size = 2 := rfl; omega) hs2 ?_; intro v3 W3 hown3 _ hb3 _)
  have HO3 := hide hown3
  have hbC : Below w.heap.size w W3 := hbB.trans (hb3.mono (by omega))
  have hs3 := hb3.size
  have hs0 := hbC.size
  have r1 : W3.cell? ⟨E, 1, none⟩ = some (.int .u8 (fn : Int)) := by rw [World.cell?, hbC.block _ hEl, HE.out]; rfl
  have hEl3 : E < W3.heap.size := by omega
  have hgl := HNM.out.lt
  have rf : W3.cell? ⟨2, fn, none⟩ = some (.string (ft fn)) := (hbC.cell (p := ⟨_, _, none⟩) (by dsimp only; omega)).trans (HNM.out.f fn (by omega))
  have hfs := HNM.out.fs fn
  clear hown3 hb3
  go_upto_region 6 with (at_builtin; refine wpList_appStr rfl _ _ _ _ rfl W1.heap.size 5 Tryz.underlying55 Tryz.underlying9 Tryz.info5 v3 _ rfl HO3.out _ rfl (by rw [List.length_append, List.length_append, strB_len]; have h1 : msg0.length = 15 := rfl; have h2 : (ByteArray.mk #[58, 32]).size = 2 := rfl; omega) (by omega) ?_; intro v4 W4 hown4 _ hb4 _)
  have HO4 := hide hown4
  have hbD : Below w.heap.size w W4 := hbC.trans (hb4.mono (by omega))
  have hle : (msg0 ++ dec l ++ strB (ByteArray.mk #[58, 32]) ++ strB (ft fn)).length ≤ 1000 := by
    rw [List.length_append, List.length_append, List.length_append, strB_len, strB_len]
    have h1 : msg0.length = 15 := rfl
    have h2 : (ByteArray.mk #[58, 32]).size = 2 := rfl
    omega
  have hpos : 0 < (msg0 ++ dec l ++ strB (ByteArray.mk #[58, 32]) ++ strB (ft fn)).length := by
    rw [List.length_append, List.length_append, List.length_append]
    have h1 : msg0.length = 15 := rfl
    omega
  have hBA := BytesAt.parts (HO4.out.rows byteCs_size (by decide) (by omega)) _ rfl
  generalize msg0 ++ dec l ++ strB (ByteArray.mk #[58, 32]) ++ strB (ft fn) = bs at *
  obtain ⟨a4, c4, b4, o4, rfl, -, -, -, -, ha4, hc4⟩ := hBA
  have ha5 := (ha4 hpos).1
  subst ha5
  have hcv := run_convert_bytes_arg (P := Tryz.prog) W4 55 5 Tryz.underlying55 Tryz.underlying5 b4 o4 bs.length c4 bs rfl (fun i hi => (by rw [hc4 i hi]; simp [List.getD, hi])) 9 Tryz.underlying9
  clear hown4 hb4 ha4 hc4 HO4 HO3 HO2
  go_wp2
  go_ret
  exact ⟨⟨_, rfl, by rw [strOfNums_size]; exact hpos⟩, hbD⟩

theorem str_ne {S : ByteArray} (h : 0 < S.size) : S.toList.isEmpty = false := by
  rw [Lib.toList_data]
  cases hd : S.data.toList with
  | nil =>
    have : S.data.toList.length = 0 := by rw [hd]; rfl
    rw [Array.length_toList] at this
    exact absurd h (by show ¬ 0 < S.data.size; omega)
  | cons x r => rfl
/-- The error that a function of the program hands back: nil, a code, a ParseError. -/
inductive ErrV (w : World) : Value → Int → Prop
  | nil : ErrV w .nilIface 0
  | code (c : Int) (h : U8 c) (h0 : c ≠ 0) : ErrV w (.iface 63 (.int .u8 c)) c
  | parse (E : Nat) (l f : Int) (hE : w.heap[E]? = some (.cells #[.int .i64 l, .int .u8 f] 243 (0, 0))) (hl : I64 l) (hf : Flt f) : ErrV w (.iface 241 (.pointer (some ⟨E, 0, none⟩))) (if 0 < l ∧ f ≠ 0 then 29 else 255)

theorem ErrV.ofPErr {w : World} {E : Nat} (h : PErr w E) : ErrV w (.iface 241 (.pointer (some ⟨E, 0, none⟩))) 29 := by
  obtain ⟨l, f, h1, h2, h3, h4, h5⟩ := PErr_parts h
  have := ErrV.parse E l f h1 h2 h3
  rwa [if_pos ⟨h4, h5⟩] at this

set_option maxRecDepth 100000 in
set_option maxHeartbeats 2000000 in
theorem benchCode_calls (w : World) (rn kn ft : Nat → ByteArray) (v : Value) (c : Int) (hnm : NmAt w rn kn ft) (h : ErrV w v c) :
    Calls Tryz.prog 49 #[v] w fun e w' => e = .returned (.int .u8 c) ∧ Below w.heap.size w w' := by
  have HNM := hide hnm
  clear hnm
  cases h with
  | nil =>
    go_enter Tryz.func49, Tryz.ntmps49
    go_wp2
    go_ret
    exact ⟨rfl, Below.refl _ _⟩
  | code c h h0 =>
    have t0 : (c == 0) = false := by simp [h0]
    have hta : ∀ w : World, (Instr.typeAssert (.iface 63 (.int .u8 c)) 113 63 true).run Tryz.prog w = .ok (.tuple #[.int .u8 c, .bool true]) w := fun _ => by kernel_rfl
    go_enter Tryz.func49, Tryz.ntmps49
    go_wp2
    go_ret
    exact ⟨rfl, Below.refl _ _⟩
  | parse E l f hE hl hf =>
    have HE := hide hE
    have hEl := blk_lt hE
    have r0 : w.cell? ⟨E, 0, none⟩ = some (.int .i64 l) := by rw [World.cell?, hE]; rfl
    have r1 : w.cell? ⟨E, 1, none⟩ = some (.int .u8 f) := by rw [World.cell?, hE]; rfl
    have HF := hide hf
    have hta : ∀ w : World, (Instr.typeAssert (.iface 241 (.pointer (some ⟨E, 0, none⟩))) 113 63 true).run Tryz.prog w = .ok (.tuple #[.int .u8 0, .bool false]) w := fun _ => by kernel_rfl
    have htb : ∀ w : World, (Instr.typeAssert (.iface 241 (.pointer (some ⟨E, 0, none⟩))) 113 241 true).run Tryz.prog w = .ok (.tuple #[.pointer (some ⟨E, 0, none⟩), .bool true]) w := fun _ => by kernel_rfl
    clear hE hf
    obtain ⟨c, hc⟩ : ∃ c : Int, (if 0 < l ∧ f ≠ 0 then (29 : Int) else 255) = c := ⟨_, rfl⟩
    rw [hc]
    have HC := hide hc
    clear hc
    go_enter Tryz.func49, Tryz.ntmps49
    go_upto_region 11 with fail
    by_cases h1 : 0 < l
    · by_cases h2 : f = 0
      · have t1 : (f != 0) = false := by simp [h2]
        have HH : Hid (255 = c) := by have h9 := HC.out; rw [if_neg (fun h => h.2 h2)] at h9; exact h9
        clear h2
        go_wp2
        go_ret
        exact ⟨by rw [← HH.out]; rfl, Below.refl _ _⟩
      · have t1 : (f != 0) = true := by simp [h2]
        have HH : Hid (29 = c) := by have h9 := HC.out; rw [if_pos ⟨h1, h2⟩] at h9; exact h9
        clear h2
        go_wp2_with (go_at_call 119; refine (error_any w rn kn ft E l f HNM.out HE.out hl HF.out).mono ?_; rintro e w1 ⟨⟨S, rfl, hS⟩, hb⟩; have tS := str_ne hS)
        go_ret
        exact ⟨by rw [← HH.out]; rfl, hb⟩
    · have HH : Hid (255 = c) := by have h9 := HC.out; rw [if_neg (fun h => h1 h.1)] at h9; exact h9
      go_wp2
      go_ret
      exact ⟨by rw [← HH.out]; rfl, Below.refl _ _⟩

end Go.Proofs.Qxb6500666aGreatDoor
