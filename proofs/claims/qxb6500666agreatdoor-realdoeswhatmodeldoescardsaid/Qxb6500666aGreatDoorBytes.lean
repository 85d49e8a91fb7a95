/- Slices of bytes; the checksum. -/
import Derived.Test.Qxb6500666aGreatDoorPlainText
import Derived.Test.Qxb6500666aGreatDoorAppend
import Derived.Deep.DeepCutAuto
import Derived.Deep.CutBlock
import Derived.Deep.LoopGhost
import Derived.Laws.Closers25b
namespace Go.Proofs.Qxb6500666aGreatDoor
open Go.RowKit

def byteCs (b : Int) : Array Value := #[.int .u8 b]
theorem byteCs_size (b : Int) : (byteCs b).size = 1 := rfl
theorem byteCs_one (b : Int) : ∀ u ∈ (byteCs b).toList, u.oneCell' = true := by simp [byteCs, Value.oneCell']
theorem Tryz.size5 (w : World) : (sizeOf 5).run Tryz.prog w = .ok 1 w := by kernel_rfl
theorem Tryz.info5 : (Tryz.prog.info? 5).map (fun i => (i.zero, i.size, i.bytes)) = some (some (.int .u8 0), 1, 1) := by kernel_rfl

/-- A slice of bytes. -/
def BytesAt (w : World) (ok : Nat → Prop) (v : Value) (bs : List Int) : Prop := RArr w ok 1 byteCs v bs

theorem BytesAt.parts {w : World} {ok : Nat → Prop} {v : Value} {xs : List Int} (h : BytesAt w ok v xs) (n : Nat) (hn : xs.length = n) :
    ∃ a cap b off, v = .slice a n cap ∧ n ≤ 140737488355328 ∧ n ≤ cap ∧ cap ≤ maxLen ∧ (a = none → cap = 0) ∧ (0 < n → a = some ⟨b, off, none⟩ ∧ ok b ∧ b < w.heap.size) ∧ ∀ i (h : i < xs.length), w.cell? ⟨b, off + i, none⟩ = some (.int .u8 xs[i]) := by
  obtain ⟨a, cap, b, off, hv, hl, hm, hr, ha, hc⟩ := RArr.lt h
  subst hn
  refine ⟨a, cap, b, off, hv, hr, hl, hm.1, hm.2, fun hp => ⟨(ha hp).1, (ha hp).2⟩, fun i hi => ?_⟩
  have := (rng_cell (hc i hi)).2 0 (by decide)
  simpa [byteCs] using this

theorem BytesAt.below {w w' : World} {ok : Nat → Prop} {v : Value} {bs : List Int} (h : BytesAt w ok v bs) (hb : Below w.heap.size w w') : BytesAt w' ok v bs := RArr.below h hb

def crcBit (s : Int) : Int := if bits .and .u32 s 1 == 1 then bits .xor .u32 (s / 2) 3988292384 else s / 2
def crcBits : Nat → Int → Int
  | 0, s => s
  | k + 1, s => crcBit (crcBits k s)
def crcByte (s y : Int) : Int := crcBits 8 (bits .xor .u32 s (y % 4294967296))
def crcGo (bs : List Int) : Int := bs.foldl crcByte 4294967295

def crc (bs : List Int) : Int := bits .xor .u32 IntKind.u32.max (crcGo bs)
theorem crc_lo (bs : List Int) : 0 ≤ crc bs := bits_lo_u32 ..
theorem crc_hi (bs : List Int) : crc bs ≤ 4294967295 := bits_hi_u32 ..

theorem crcGo_take {bs : List Int} {q : Nat} (h : q < bs.length) : crcGo (bs.take (q + 1)) = crcByte (crcGo (bs.take q)) bs[q] := by
  unfold crcGo
  rw [List.take_succ_eq_append_getElem h, List.foldl_append]
  rfl

set_option maxRecDepth 100000 in
set_option maxHeartbeats 1000000 in
theorem checksum_calls (w : World) (ok : Nat → Prop) (v : Value) (bs : List Int) (h : BytesAt w ok v bs) :
    Calls Tryz.prog 46 #[v] w fun e w' => e = .returned (.int .u32 (crc bs)) ∧ w = w' := by
  obtain ⟨a, cap, b, off, hv, hr, -, -, -, ha, hc⟩ := h.parts _ rfl
  obtain ⟨n, hn⟩ : ∃ n, bs.length = n := ⟨_, rfl⟩
  rw [hn] at hr ha hv
  subst hv
  have hi := run_indexAt_arr (P := Tryz.prog) (cap := cap) Tryz.underlying55 Tryz.size5 (fun h => (ha h).1)
  have Hn := hide hn
  have HC := hide hc
  clear ha hc hn h
  go_enter Tryz.func46, Tryz.ntmps46
  go_wp2
  go_loopg [3, 9] n (fun g x j W => ∃ q : Nat, q ≤ n ∧ g = n - q ∧ j = .int .i64 q ∧ x = .int .u32 (crcGo (bs.take q)) ∧ w = W)
  case atStart => exact ⟨0, by omega, by omega, rfl, rfl, rfl⟩
  case round =>
    obtain ⟨q, hq, rfl, rfl, rfl, rfl⟩ := hrel
    by_cases hlt : q < n
    · have hqs : q < bs.length := by rw [Hn.out]; exact hlt
      have c0 := HC.out q hqs
      have HT := hide (crcGo_take hqs)
      generalize bs[q] = y at *
      obtain ⟨s0, hs0⟩ : ∃ s0, bits .xor .u32 (crcGo (bs.take q)) (y % 4294967296) = s0 := ⟨_, rfl⟩
      go_wp2
      go_loopg [3, 6] 8 (fun g x j W => ∃ p : Nat, p ≤ 8 ∧ g = 8 - p ∧ j = .int .i64 p ∧ x = .int .u32 (crcBits p s0) ∧ w = W)
      case atStart => exact ⟨0, by omega, by omega, rfl, rfl, rfl⟩
      case round =>
        obtain ⟨p, hp, rfl, rfl, rfl, rfl⟩ := hrel
        by_cases hpt : p < 8
        · have HS : Hid (crcBits (p + 1) s0 = crcBit (crcBits p s0)) := rfl
          generalize crcBits p s0 = s at *
          cases ht : (bits .and .u32 s 1 == 1) with
          | true =>
            have HX : Hid (crcBit s = bits .xor .u32 (s / 2) 3988292384) := by show _ = _; rw [crcBit, ht]; rfl
            go_wp2
            go_roundg (8 - (p + 1))
            case measure => omega
            case rel => exact ⟨p + 1, by omega, rfl, by go_num, by rw [HS.out, HX.out], rfl⟩
          | false =>
            have HX : Hid (crcBit s = s / 2) := by show _ = _; rw [crcBit, ht]; rfl
            go_wp2
            go_roundg (8 - (p + 1))
            case measure => omega
            case rel => exact ⟨p + 1, by omega, rfl, by go_num, by rw [HS.out, HX.out], rfl⟩
        · have hp8 : p = 8 := by omega
          subst hp8
          have HY : Hid (crcGo (bs.take (q + 1)) = crcBits 8 s0) := by show _ = _; rw [HT.out, crcByte, hs0]
          generalize crcBits 8 s0 = s8 at *
          go_wp2
          go_roundg (n - (q + 1))
          case measure => omega
          case rel => exact ⟨q + 1, by omega, rfl, by go_num, by rw [HY.out], rfl⟩
    · have HE : Hid (bs.take q = bs) := List.take_of_length_le (by rw [Hn.out]; omega)
      go_wp2
      go_ret
      exact ⟨by rw [HE.out]; rfl, rfl⟩


theorem heap_alloc_at (w : World) (o : Obj) : (w.alloc o).heap[w.heap.size]? = some o := by show (w.heap.push o)[w.heap.size]? = some o; simp

/-- AppendInt's array, filled from place p on. -/
structure Dig (w W : World) (p : Nat) (r : List Int) : Prop where
  size : W.heap.size = w.heap.size + 1
  below : Below w.heap.size w W
  len : p + r.length = 20
  cells : ∃ pre : List Value, W.heap[w.heap.size]? = some (.cells (pre ++ r.map (Value.int .u8)).toArray 252 (0, 0)) ∧ pre.length = p

theorem Dig.cell {w W : World} {p : Nat} {r : List Int} (h : Dig w W p r) {q : Nat} (hq : q < 20) : ∃ x, W.cell? ⟨w.heap.size, q, none⟩ = some x := by
  obtain ⟨pre, hh, hp⟩ := h.cells
  have hl := h.len
  refine ⟨(pre ++ r.map (Value.int .u8))[q]'(by simp; omega), ?_⟩
  simp [World.cell?, hh]

theorem Dig.open {w W : World} {p : Nat} {r : List Int} (h : Dig w W p r) (q : Nat) : W.frozen? ⟨w.heap.size, q, none⟩ = false := by
  obtain ⟨pre, hh, hp⟩ := h.cells
  simp [World.frozen?, hh]

theorem Dig.tail {w W : World} {p : Nat} {r : List Int} (h : Dig w W p r) (i : Nat) (hi : i < r.length) : rng W w.heap.size (p + i * 1) 1 = some (byteCs r[i]) := by
  obtain ⟨pre, hh, hp⟩ := h.cells
  have hl := h.len
  unfold rng
  rw [hh]
  simp only
  rw [if_pos (by simp; omega)]
  congr 1
  apply Array.toList_inj.1
  have e : (pre ++ r.map (Value.int .u8)).drop (p + i) = (r.map (Value.int .u8)).drop i := by rw [← hp, List.drop_append]; simp
  simp only [Array.toList_extract, List.extract_eq_take_drop, Nat.mul_one, e]
  rw [List.drop_eq_getElem_cons (by simpa using hi)]
  simp [byteCs]

theorem Dig.put {w W : World} {p : Nat} {r : List Int} (h : Dig w W (p + 1) r) (y : Int) : Dig w (W.setCell ⟨w.heap.size, p, none⟩ (.int .u8 y)) p (y :: r) := by
  obtain ⟨pre, hh, hp⟩ := h.cells
  have hl := h.len
  refine ⟨by simp [World.setCell, h.size], h.below.trans ⟨rfl, rfl, rfl, by simp [World.setCell], fun k hk => Below.heap_setCell _ _ _ _ (by simp; omega)⟩, by simp; omega, ?_⟩
  obtain ⟨pre', z, rfl⟩ : ∃ pre' z, pre = pre' ++ [z] := ⟨pre.dropLast, pre.getLast (by intro e; subst e; simp at hp), by rw [List.dropLast_concat_getLast]⟩
  have hp' : pre'.length = p := by simpa using hp
  refine ⟨pre', ?_, hp'⟩
  rw [heap_setCell_same _ _ _ _ _ _ hh, ← hp']
  simp

theorem run_slDig (w : World) (g p : Nat) (hp : p < 20) : (Instr.sliceAt 252 (.pointer (some ⟨g, 0, none⟩)) (some (.int .i64 (p : Int))) none none).run Tryz.prog w = .ok (.slice (some ⟨g, p, none⟩) (20 - p) (20 - p)) w := by
  simp [Instr.sliceAt, Instr.slice, run_underlying Tryz.underlying252, Instr.sliceBounds, Instr.sliceBound, asIntOf, Instr.sureAddr, show p ≤ 20 by omega, show ¬ 20 = p by omega, Addr.add_lit]

/-- It writes its digits from the right: what stands from place at on, of the number m that is left. -/
theorem digs_step {m : Nat} {r : List Int} (h : ¬ m < 10) : digs (m / 10) ++ (48 + ((m % 10 : Nat) : Int)) :: r = digs m ++ r := by
  rw [digs_big h, List.append_assoc]; rfl

set_option maxRecDepth 100000 in
set_option maxHeartbeats 1000000 in
theorem appendInt_calls (w : World) (B : Nat) (v : Value) (bs : List Int) (x : Int) (hown : OwnR w B 5 1 byteCs v bs) (hB : B ≤ w.heap.size) (hlen : bs.length ≤ 70368744177664) (h1 : -9223372036854775808 ≤ x) (h2 : x ≤ 9223372036854775807) :
    Calls Tryz.prog 47 #[v, .int .i64 x] w fun e w' => ∃ v', e = .returned v' ∧ OwnR w' B 5 1 byteCs v' (bs ++ dec x) ∧ Same (fun b => b < w.heap.size ∧ v.ownBlock ≠ some b) w w' ∧ Below B w w' ∧ (v'.ownBlock = v.ownBlock ∨ ∀ b, v'.ownBlock = some b → w.heap.size ≤ b) := by
  obtain ⟨m, hm⟩ : ∃ m : Nat, x.natAbs = m := ⟨_, rfl⟩
  have HM := digs_len 18 m (by omega)
  have HO := hide hown
  clear hown
  go_enter Tryz.func47, Tryz.ntmps47
  go_upto_if 10 with fail
  go_cut [5] (fun z W => z = .int .i64 (-(m : Int)) ∧ w = W)
  case first =>
    by_cases hx : 0 < x
    · go_wp2
      go_meet
      case rel => exact ⟨by congr 1; omega, rfl⟩
    · go_wp2
      go_meet
      case rel => exact ⟨by congr 1; omega, rfl⟩
  case rest =>
  obtain ⟨rfl, rfl⟩ := hcut
  go_upto_block 0 with fail
  have hD0 : Dig w (w.alloc (.cells #[.int .u8 0, .int .u8 0, .int .u8 0, .int .u8 0, .int .u8 0, .int .u8 0, .int .u8 0, .int .u8 0, .int .u8 0, .int .u8 0, .int .u8 0, .int .u8 0, .int .u8 0, .int .u8 0, .int .u8 0, .int .u8 0, .int .u8 0, .int .u8 0, .int .u8 0, .int .u8 0] 252)) 20 [] :=
    ⟨by simp, (Below.refl _ _).alloc (Nat.le_refl _) _, rfl, ⟨[.int .u8 0, .int .u8 0, .int .u8 0, .int .u8 0, .int .u8 0, .int .u8 0, .int .u8 0, .int .u8 0, .int .u8 0, .int .u8 0, .int .u8 0, .int .u8 0, .int .u8 0, .int .u8 0, .int .u8 0, .int .u8 0, .int .u8 0, .int .u8 0, .int .u8 0, .int .u8 0], heap_alloc_at _ _, rfl⟩⟩
  go_cut [7] (fun at' W => ∃ p : Nat, at' = .int .i64 p ∧ Dig w W p (digs m))
  case first =>
    go_wp2
    go_loopg [5, 7] 20 (fun g z at' W => ∃ (k p : Nat) (r : List Int), g = 0 + p ∧ z = .int .i64 (-(k : Int)) ∧ at' = .int .i64 p ∧ Dig w W p r ∧ digs k ++ r = digs m ∧ k ≤ m)
    case atStart => exact ⟨m, 20, [], rfl, rfl, rfl, hD0, by simp, Nat.le_refl _⟩
    case round =>
      obtain ⟨k, p, r, rfl, rfl, rfl, hD, hdg, hkm⟩ := hrel
      have hl1 := congrArg List.length hdg
      simp only [List.length_append] at hl1
      have hl2 := hD.len
      have hl3 := digs_pos k
      obtain ⟨p', rfl⟩ : ∃ p', p = p' + 1 := ⟨p - 1, by omega⟩
      obtain ⟨x0, hcell⟩ := hD.cell (q := p') (by omega)
      have hfz := hD.open p'
      by_cases hk : k < 10
      · have t1 : (-((k : Int) / 10) == 0) = true := by
          have : (k : Int) / 10 = 0 := by omega
          simp [this]
        go_wp2
        go_meet
        case rel =>
          refine ⟨p', by first | rfl | (congr 1; omega), ?_⟩
          rw [← hdg, digs_small hk]
          have e : (k : Int) % 10 = k := by omega
          rw [e]
          exact hD.put _
      · have t1 : (-((k : Int) / 10) == 0) = false := by
          have : (k : Int) / 10 ≠ 0 := by omega
          simp [this]
        go_wp2
        go_roundg (0 + p')
        case measure => omega
        case rel =>
          refine ⟨k / 10, p', (48 + ((k % 10 : Nat) : Int)) :: r, rfl, by congr 1, by first | rfl | (congr 1; omega), ?_, by rw [digs_step hk]; exact hdg, by omega⟩
          exact hD.put _
  case rest =>
  obtain ⟨p, rfl, hD⟩ := hcut
  have hpl := hD.len
  have hpd := digs_pos m
  by_cases hx : x < 0
  · obtain ⟨p', rfl⟩ : ∃ p', p = p' + 1 := ⟨p - 1, by omega⟩
    obtain ⟨x0, hcell⟩ := hD.cell (q := p') (by omega)
    have hfz := hD.open p'
    have hsl := fun W => run_slDig W w.heap.size p' (by omega)
    have HD := hD.put 45
    generalize hW : wc.setCell ⟨w.heap.size, p', none⟩ (.int .u8 45) = W1 at *
    go_wp2_with (at_builtin; refine wpList_appN (α := Int) rfl _ _ 55 rfl B 5 byteCs Tryz.underlying55 Tryz.info5 rfl (by decide) byteCs_size byteCs_one v bs rfl (HO.out.below HD.below (Nat.le_refl _)) (some ⟨w.heap.size, p', none⟩) (20 - p') (20 - p') rfl (45 :: digs m) (by simp; omega) (fun h => by cases h) (fun _ => ⟨_, _, rfl, HD.tail⟩) (by omega) (by unfold maxLen; omega) (by have := HD.size; omega) ?_; intro v' w' hown' hsame' hbel' hat')
    go_ret
    have e : dec x = 45 :: digs m := by rw [dec, if_pos hx, hm]
    rw [e]
    refine ⟨v', rfl, hown', fun b hb => (hsame' b ⟨by have := HD.size; omega, hb.2⟩).trans (HD.below.block b hb.1), (HD.below.mono hB).trans hbel', ?_⟩
    rcases hat' with h | h
    · exact Or.inl h
    · exact Or.inr fun b hb => by rw [h] at hb; have := HD.size; injection hb with hb; omega
  · have hsl := fun W => run_slDig W w.heap.size p (by omega)
    go_wp2_with (at_builtin; refine wpList_appN (α := Int) rfl _ _ 55 rfl B 5 byteCs Tryz.underlying55 Tryz.info5 rfl (by decide) byteCs_size byteCs_one v bs rfl (HO.out.below hD.below (Nat.le_refl _)) (some ⟨w.heap.size, p, none⟩) (20 - p) (20 - p) rfl (digs m) (by omega) (fun h => by cases h) (fun _ => ⟨_, _, rfl, hD.tail⟩) (by omega) (by unfold maxLen; omega) (by have := hD.size; omega) ?_; intro v' w' hown' hsame' hbel' hat')
    go_ret
    have e : dec x = digs m := by rw [dec, if_neg (by omega), hm]
    rw [e]
    refine ⟨v', rfl, hown', fun b hb => (hsame' b ⟨by have := hD.size; omega, hb.2⟩).trans (hD.below.block b hb.1), (hD.below.mono hB).trans hbel', ?_⟩
    rcases hat' with h | h
    · exact Or.inl h
    · exact Or.inr fun b hb => by rw [h] at hb; have := hD.size; injection hb with hb; omega

end Go.Proofs.Qxb6500666aGreatDoor
