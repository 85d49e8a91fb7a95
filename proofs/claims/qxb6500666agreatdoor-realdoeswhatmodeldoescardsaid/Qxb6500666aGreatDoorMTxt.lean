/- The model's text functions: num, id, closed. -/
import Derived.Test.Qxb6500666aGreatDoorXInt
import Derived.Test.Qxb6500666aGreatDoorSortZ
import Derived.Test.Qxb6500666aGreatDoorRenderWalk
import Derived.Laws.IdiomStrings
import Derived.Laws.Concat
namespace Go.Proofs.Qxb6500666aGreatDoor
open Go.RowKit

theorem strOfNums_append (a b : List Int) : strOfNums a ++ strOfNums b = strOfNums (a ++ b) := by
  apply ByteArray.ext
  simp [strOfNums]
theorem owns_cells {w : World} {B : Nat} {v : Value} {bs : List Int} (h : OwnR w B 5 1 byteCs v bs) (hp : 0 < bs.length) (hl : bs.length ≤ 140737488355328) : ∃ b cap, v = .slice (some ⟨b, 0, none⟩) bs.length cap ∧ ∀ i, i < bs.length → w.cell? ⟨b, 0 + i, none⟩ = some (.int .u8 (bs.getD i 0)) := by
  obtain ⟨g, cap, e, h1, h2, h3⟩ := h.elem byteCs_size (by decide) hl hp
  refine ⟨g, cap, e, fun i hi => ?_⟩
  have := (rng_cell (h3 i hi)).2 0 (by decide)
  simp only [byteCs, Nat.mul_one, Nat.add_zero, List.getElem?_toArray, List.getElem?_cons_zero] at this
  rw [Nat.zero_add, this]
  simp [List.getD, hi]
set_option maxRecDepth 100000 in
theorem mnum_calls (w : World) (x : Int) (hx : I64 x) :
    Calls Tryz.prog 151 #[.int .i64 x] w fun e w' => ∃ S : ByteArray, e = .returned (.string S) ∧ Hid (S = strOfNums (dec x)) ∧ S.size ≤ 20 ∧ Below w.heap.size w w' := by
  have hl := dec_len hx.1 hx.2
  have hp := dec_pos x
  go_enter Tryz.func151, Tryz.ntmps151
  go_wp2_with (go_at_call 47; refine (appendInt_calls w w.heap.size (.slice none 0 0) [] x (OwnR.nil _ _ _ _ _) (Nat.le_refl _) (by simp) hx.1 hx.2).mono ?_; rintro e w1 ⟨v, rfl, hown, -, hb, -⟩; rw [List.nil_append] at hown; obtain ⟨b, cap, rfl, hc⟩ := owns_cells hown hp (by omega); have hcv := run_convert_bytes_arg (P := Tryz.prog) w1 55 5 Tryz.underlying55 Tryz.underlying5 b 0 (dec x).length cap (dec x) rfl hc 9 Tryz.underlying9; clear hown hc)
  go_ret
  exact ⟨_, rfl, rfl, by rw [strOfNums_size]; exact hl, hb⟩
set_option maxRecDepth 100000 in
theorem mid_calls (w : World) (x : Int) (hx : U32 x) :
    Calls Tryz.prog 150 #[.int .u32 x] w fun e w' => ∃ S : ByteArray, e = .returned (.string S) ∧ Hid (S = strOfNums (dec x)) ∧ S.size ≤ 20 ∧ Below w.heap.size w w' := by
  have h1 := hx.1
  have h2 := hx.2
  go_enter Tryz.func150, Tryz.ntmps150
  go_wp2_with (go_at_call 151; refine (mnum_calls _ x ⟨by omega, by omega⟩).mono ?_; rintro e w1 ⟨S, rfl, HS, hz, hb⟩)
  go_ret
  exact ⟨S, rfl, HS, hz, hb⟩
theorem trail_bytes {bs : List Int} (h : ByteL bs) (n : Int) : ByteL (trailText bs n) := by
  intro d hd
  simp only [trailText, fld, List.mem_append, List.mem_cons, List.not_mem_nil, or_false] at hd
  have hr := dec_range n d
  have hr2 := dec_range (crc bs) d
  rcases hd with (((hd | hd) | hd) | hd) | hd
  · exact h d hd
  · omega
  · rcases hd with hd | hd
    · omega
    · have := hr hd; omega
  · rcases hd with hd | hd
    · omega
    · have := hr2 hd; omega
  · omega
/-- A string turned into bytes. -/
structure ByS (w w' : World) (v : Value) (bs : List Int) : Prop where
  at' : BytesAt w' (w.heap.size ≤ ·) v bs
  bel : Below w.heap.size w w'
theorem conv_bytes (w : World) (bs : List Int) (hB : ByteL bs) (hl : bs.length ≤ 140737488355328) : ∃ c w', (convert 9 55 (.string (strOfNums bs))).run Tryz.prog w = .ok (.slice (some ⟨w.heap.size, 0, none⟩) bs.length c) w' ∧ ByS w w' (.slice (some ⟨w.heap.size, 0, none⟩) bs.length c) bs := by
  have h := run_bytes_of_string (P := Tryz.prog) w 9 55 5 (strOfNums bs) Tryz.underlying9 Tryz.underlying55 Tryz.underlying5
  have h1 := grownCap_ge w (strOfNums bs).size 0 5
  have h2 := grownCap_le_maxLen w (strOfNums bs).size 0 5 (by rw [strOfNums_size]; unfold maxLen; omega)
  rw [strOfNums_size] at h h1 h2
  generalize grownCap w bs.length 0 5 = cap at *
  refine ⟨cap, _, h, ⟨_, cap, w.heap.size, 0, rfl, h1, ⟨h2, fun e => by cases e⟩, hl, fun _ => ⟨rfl, Nat.le_refl _⟩, fun i hi => ?_⟩, ((Below.refl _ _).drew).alloc (Nat.le_refl _) _⟩
  rw [Nat.mul_one, Nat.zero_add]
  refine rng_one ?_
  have hk : (w.drew.alloc (.cells (bytesRow (strOfNums bs) cap) 5 ((bytesRow (strOfNums bs) cap).size, (bytesRow (strOfNums bs) cap).size + 1))).heap[w.heap.size]? = some (.cells (bytesRow (strOfNums bs) cap) 5 ((bytesRow (strOfNums bs) cap).size, (bytesRow (strOfNums bs) cap).size + 1)) := heap_alloc_at _ _
  simp only [World.cell?, hk]
  have hb := hB _ (List.getElem_mem hi)
  have hsz : i < (strOfNums bs).data.size := by have := strOfNums_size bs; have h3 : (strOfNums bs).data.size = (strOfNums bs).size := rfl; omega
  unfold bytesRow
  rw [Array.getElem?_append_left (by simpa using hsz), Array.getElem?_map, Array.getElem?_eq_getElem hsz]
  simp only [strOfNums, Option.map_some, List.getElem_toArray, List.getElem_map]
  have h9 : (UInt8.ofNat bs[i].toNat).toNat = bs[i].toNat := by simp; omega
  have h8 : ((bs[i].toNat : Nat) : Int) = bs[i] := by omega
  rw [h9, h8]
  simp
attribute [local go_sem] run_string_add_sum
set_option maxRecDepth 100000 in
theorem mclosed_calls (w : World) (bs : List Int) (n : Int) (hn : I64 n) (hB : ByteL bs) (hl : bs.length ≤ 100000000000000) :
    Calls Tryz.prog 152 #[.string (strOfNums bs), .int .i64 n] w fun e w' => ∃ v, e = .returned (.tuple #[v, .int .u32 (crc bs)]) ∧ ByS w w' v (trailText bs n) := by
  obtain ⟨S, hS⟩ : ∃ S, S = strOfNums bs := ⟨_, rfl⟩
  have hsz : S.size = bs.length := by rw [hS, strOfNums_size]
  have hsl : S.size ≤ 100000000000000 := by omega
  obtain ⟨c1, w1, hcv, hby⟩ := conv_bytes w bs hB (by omega)
  rw [← hS] at hcv ⊢
  have HBY := hide hby
  have HS := hide hS
  clear hby hS hsz
  have c0 := crc_lo bs
  have c1' := crc_hi bs
  go_enter Tryz.func152, Tryz.ntmps152
  go_upto_region 2 with (go_at_call 46; refine (checksum_calls _ _ _ bs HBY.out.at').mono ?_; rintro e w2 ⟨rfl, rfl⟩)
  go_wp2_with (first
    | (go_at_call 151; refine (mnum_calls _ n hn).mono ?_; rintro e w3 ⟨S3, rfl, HS3, hz3, hb3⟩)
    | (go_at_call 150; refine (mid_calls _ (crc bs) ⟨c0, c1'⟩).mono ?_; rintro e w4 ⟨S4, rfl, HS4, hz4, hb4⟩; obtain ⟨c5, w5, hcv5, hby5⟩ := conv_bytes w4 (trailText bs n) (trail_bytes hB n) (by have h1 := dec_len hn.1 hn.2; have h2 := dec_len (v := crc bs) (by omega) (by omega); simp [trailText, fld]; omega); have e5 : S ++ { data := #[84, 124] } ++ S3 ++ { data := #[124] } ++ S4 ++ { data := #[10] } = strOfNums (trailText bs n) := (by rw [HS.out, HS3.out, HS4.out, show ({ data := #[84, 124] } : ByteArray) = strOfNums [84, 124] from rfl, show ({ data := #[124] } : ByteArray) = strOfNums [124] from rfl, show ({ data := #[10] } : ByteArray) = strOfNums [10] from rfl]; simp only [strOfNums_append]; congr 1; simp [trailText, fld]); rw [← e5] at hcv5; have HE := hide hby5; have HB4 : Hid (Below w.heap.size w w4) := (HBY.out.bel.trans ((hb3.trans (hb4.mono hb3.size)).mono HBY.out.bel.size)); clear hby5 e5 hb3 hb4))
  refine bodyPost_ret (v := .tuple #[.slice (some ⟨w4.heap.size, 0, none⟩) (trailText bs n).length c5, .int .u32 (crc bs)]) (by simp [results, Tryz.results152]) rfl ?_
  exact ⟨_, rfl, ⟨RArr.mono HE.out.at' (Same.refl _ _) (fun b hb => by have h1 : w4.heap.size ≤ b := hb; have h2 := HB4.out.size; show w.heap.size ≤ b; omega), HB4.out.trans (HE.out.bel.mono HB4.out.size)⟩⟩
end Go.Proofs.Qxb6500666aGreatDoor
