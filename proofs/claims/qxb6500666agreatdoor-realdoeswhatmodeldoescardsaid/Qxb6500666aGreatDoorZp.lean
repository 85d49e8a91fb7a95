/- The pairs, zipped with their bytes. (Made by tools/mk_zscan.py.) -/
import Derived.Test.Qxb6500666aGreatDoorStoreWalk
import Derived.Test.Qxb6500666aGreatDoorMix
namespace Go.Proofs.Qxb6500666aGreatDoor
open Go.RowKit

theorem sv_toSV {w : World} {ok : Nat → Prop} {v : Value} {bs : List Int} (h : BytesAt w ok v bs) : sv (toSV v) = v := by
  obtain ⟨a, n, c, rfl⟩ := h.form; rfl

abbrev ZP := (SV × SV) × KV
def zCs (z : ZP) : Array Value := #[sv z.1.1, sv z.1.2]
theorem zCs_size (z : ZP) : (zCs z).size = 2 := rfl
theorem zCs_one (z : ZP) : ∀ u ∈ (zCs z).toList, u.oneCell' = true := by simp [zCs, sv, Value.oneCell']

theorem Tryz.size388 (w : World) : (sizeOf 388).run Tryz.prog w = .ok 3 w := by kernel_rfl
theorem Tryz.info171 : (Tryz.prog.info? 171).map (fun i => (i.zero, i.size, i.bytes)) = some (some (.agg #[.slice none 0 0, .slice none 0 0]), 2, 48) := by kernel_rfl

/-- The pairs, zipped with their bytes. -/
def Zip (w : World) (A : Nat → Prop) (zs : List ZP) : Prop := ∀ z ∈ zs, BytesAt w A (sv z.1.1) z.2.1 ∧ BytesAt w A (sv z.1.2) z.2.2

theorem PairsAt.zs {w : World} {A : Nat → Prop} {pv : Value} {ps : List KV} (h : PairsAt w A pv ps) : ∃ zs : List ZP, RArr w A 2 zCs pv zs ∧ zs.map (·.2) = ps ∧ Zip w A zs := by
  obtain ⟨qs, ⟨a, cap, b, off, h1, h2, h3, h4, h5, h6⟩, hl, hb⟩ := h
  refine ⟨(qs.zip ps).map (fun z => ((toSV z.1.1, toSV z.1.2), z.2)), ⟨a, cap, b, off, ?_, ?_, h3, ?_, ?_, fun i hi => ?_⟩, ?_, fun z hz => ?_⟩
  · simp [h1, hl]
  · simpa [hl] using hl ▸ h2
  · simpa [hl] using hl ▸ h4
  · intro hp; exact h5 (by simp at hp; omega)
  · have h7 := h6 i (by simp at hi; omega)
    have h8 := hb i (by simp at hi; omega) (by simp at hi; omega)
    simpa [zCs, pairCs, sv_toSV h8.1, sv_toSV h8.2] using h7
  · simp only [List.map_map]
    show (qs.zip ps).map (·.2) = ps
    exact List.map_snd_zip (by omega)
  · obtain ⟨i, hi, rfl⟩ := List.getElem_of_mem hz
    have h8 := hb i (by simp at hi; omega) (by simp at hi; omega)
    simpa [sv_toSV h8.1, sv_toSV h8.2] using h8

theorem PairsAt.of_zs {w : World} {A : Nat → Prop} {pv : Value} {zs : List ZP} (h : RArr w A 2 zCs pv zs) (hz : Zip w A zs) : PairsAt w A pv (zs.map (·.2)) := by
  obtain ⟨a, cap, b, off, h1, h2, h3, h4, h5, h6⟩ := h
  refine ⟨zs.map (fun z => (sv z.1.1, sv z.1.2)), ⟨a, cap, b, off, by simp [h1], by simpa using h2, h3, by simpa using h4, fun hp => h5 (by simpa using hp), fun i hi => ?_⟩, by simp, fun i hi hi' => ?_⟩
  · have := h6 i (by simpa using hi)
    simpa [zCs, pairCs] using this
  · have hi2 : i < zs.length := by simpa using hi
    have := hz zs[i] (List.getElem_mem hi2)
    simpa using this

theorem Zip.mono {w w' : World} {A A' : Nat → Prop} {zs : List ZP} (h : Zip w A zs) (hs : Same A w w') (hA : ∀ b, A b → A' b) : Zip w' A' zs := fun z hz => ⟨(h z hz).1.mono hs hA, (h z hz).2.mono hs hA⟩
theorem Zip.filter {w : World} {A : Nat → Prop} {zs : List ZP} (h : Zip w A zs) (p : ZP → Bool) : Zip w A (zs.filter p) := fun z hz => h z ((List.mem_filter.1 hz).1)
theorem Zip.append {w : World} {A : Nat → Prop} {zs ys : List ZP} (h : Zip w A zs) (k : Zip w A ys) : Zip w A (zs ++ ys) := fun z hz => (List.mem_append.1 hz).elim (h z) (k z)

theorem clone_calls' (w : World) (ok : Nat → Prop) (x : Value) (xs : List Int) (hx : BytesAt w ok x xs) :
    Calls Tryz.prog 210 #[x] w fun e w' => e = .returned (.slice (some ⟨w.heap.size, 0, none⟩) xs.length xs.length) ∧ cloneW w xs = w' := clone_calls w ok x xs hx

end Go.Proofs.Qxb6500666aGreatDoor
