/- The variables that are laid: out of the rows' condition. -/
import Derived.Test.Qxb6500666aGreatDoorExec
import Derived.OpenShut
import Derived.Lay
import Derived.LaidHandle
namespace Go.Proofs.Qxb6500666aGreatDoor
open Go Go.ChangeShapes Go.WideShapes Go.ChangeAt Go.RowKit

theorem laidVars_mem {P : Program} {w : World} : ∀ {l : List (String × DataW Unit)} {ps : List MemPlace}, DataW.LaidVars P w l ps → ∀ n d, (n, d) ∈ l → ∃ g t cs fuel p, P.globalNamed n = some g ∧ (P.globals[g]?).map (·.type) = some t ∧ w.var? P n = some cs ∧ DataW.trod (fun _ => ()) P w 0 (fun _ => true) false fuel t cs.toList = some (d, p)
  | [], _, _, _, _, h => by cases h
  | (m, e) :: r, ps, h, n, d, hm => by
    obtain ⟨g, t, cs, fuel, p, q, h1, h2, h3, h4, h5, _⟩ := h
    rcases List.mem_cons.1 hm with e' | hm
    · injection e' with e1 e2
      subst e1 e2
      exact ⟨g, t, cs, fuel, p, h1, h2, h3, h4⟩
    · exact laidVars_mem h5 n d hm
theorem laidPlain {P : Program} {l : List (String × DataW Unit)} {w : World} (h : laidMetH P l w) {n : String} {d : DataW Unit} (hx : (n, d) ∈ l) (hd : d.handleName?.isNone = true) : ∃ g t cs fuel p, P.globalNamed n = some g ∧ (P.globals[g]?).map (·.type) = some t ∧ w.var? P n = some cs ∧ DataW.trod (fun _ => ()) P w 0 (fun _ => true) false fuel t cs.toList = some (d, p) := by
  unfold laidMetH at h
  split at h
  · obtain ⟨ps, h1, _⟩ := h
    exact laidVars_mem h1 n d hx
  · obtain ⟨⟨ps, h1, _⟩, _⟩ := h
    exact laidVars_mem h1 n d (List.mem_filter.2 ⟨hx, hd⟩)
theorem tab_open {H : Type} {enc : TypeId × Value → H} {P : Program} {w : World} {sp : Nat → Bool} {held : Bool} {fuel N : Nat} {t e : TypeId} {cs : Array Value} {ds : List (DataW H)} {p : List MemPlace} {n : String} {g : Nat} (hg : P.globalNamed n = some g) (hv : w.var? P n = some cs) (hu : P.underlying t = some (.array N e)) (hce : P.cellsOf e = 1) (hct : P.cellsOf t = N) (h : DataW.trod enc P w 0 sp held fuel t cs.toList = some (.agg ds, p)) :
    ds.length = N ∧ ∀ k, k < N → ∃ c m y, w.cell? ⟨g, k, none⟩ = some c ∧ DataW.trod enc P w 0 sp held m e [c] = some y ∧ ds[k]? = some y.1 := by
  obtain ⟨xs, m, -, hx, hl, hn, hi⟩ := DataW.trod_array hu h
  have hd : ds = xs.map (·.1) := by
    have := (Prod.mk.inj hx).1
    injection this
  refine ⟨by rw [hd, List.length_map, hn], fun k hk => ?_⟩
  have hlen : cs.toList.length = N := by rw [hl, hct]
  have hk2 : k < cs.size := by rw [← Array.length_toList]; omega
  have h1 := hi k hk
  rw [hce, Nat.mul_one] at h1
  have h2 : (cs.toList.drop k).take 1 = [cs[k]] := by
    rw [List.drop_eq_getElem_cons (by omega)]
    simp
  rw [h2, List.getElem?_eq_getElem (by omega)] at h1
  refine ⟨cs[k], m, xs[k], ?_, h1, ?_⟩
  · rw [World.var?_cell hg hv k]
    simp [hk2]
  · rw [hd, List.getElem?_map, List.getElem?_eq_getElem (by omega)]
    rfl
def strSmall : DataW Unit → Bool
  | .lit (.string l) => decide (l.length ≤ 64)
  | _ => false
theorem names_of {W : World} {l : List (String × DataW Unit)} (h : laidMetH Tryz.prog l W) {nm : String} {ds : List (DataW Unit)} (hx : (nm, DataW.agg ds) ∈ l) {g N : Nat} {t e : TypeId} (hg : Tryz.prog.globalNamed nm = some g) (ht : (Tryz.prog.globals[g]?).map (·.type) = some t) (hu : Tryz.prog.underlying t = some (.array N e)) (he : Tryz.prog.underlying e = some .string) (hce : Tryz.prog.cellsOf e = 1) (hct : Tryz.prog.cellsOf t = N) (hs : ds.all strSmall = true) :
    ∃ f : Nat → ByteArray, (∀ k, k < N → W.cell? ⟨g, k, none⟩ = some (.string (f k))) ∧ ∀ k, (f k).size ≤ 64 := by
  obtain ⟨g', t', cs, fuel, p, q1, q2, q3, q4⟩ := laidPlain h hx rfl
  obtain rfl := Option.some.inj (hg.symm.trans q1)
  obtain rfl := Option.some.inj (ht.symm.trans q2)
  obtain ⟨hl, hk⟩ := tab_open q1 q3 hu hce hct q4
  have key : ∀ k, ∃ s : ByteArray, (k < N → W.cell? ⟨g, k, none⟩ = some (.string s)) ∧ s.size ≤ 64 := fun k => by
    by_cases hkn : k < N
    · obtain ⟨c, m, y, c1, c2, c3⟩ := hk k hkn
      obtain ⟨s, hs1, hs2, -⟩ := DataW.trod_string he c2
      injection hs1 with hs1
      subst hs1
      refine ⟨s, fun _ => c1, ?_⟩
      have h1 := List.all_eq_true.1 hs _ (List.mem_of_getElem? c3)
      rw [hs2] at h1
      have h2 : s.data.toList.length ≤ 64 := of_decide_eq_true h1
      show s.data.size ≤ 64
      rw [← Array.length_toList]
      exact h2
    · exact ⟨ByteArray.empty, fun q => absurd q hkn, by simp⟩
  exact ⟨fun k => (key k).choose, fun k hk => (key k).choose_spec.1 hk, fun k => (key k).choose_spec.2⟩
def datInts : DataW Unit → List Int
  | .slice es _ => es.map (fun d => match d with | .lit (.int _ n) => n | _ => 0)
  | _ => []
theorem grants_of {W : World} {l : List (String × DataW Unit)} (h : laidMetH Tryz.prog l W) {nm : String} {ds : List (DataW Unit)} (hx : (nm, DataW.agg ds) ∈ l) {g : Nat} {t e e2 : TypeId} (hg : Tryz.prog.globalNamed nm = some g) (ht : (Tryz.prog.globals[g]?).map (·.type) = some t) (hu : Tryz.prog.underlying t = some (.array 31 e)) (he : Tryz.prog.underlying e = some (.slice e2)) (he2 : Tryz.prog.underlying e2 = some (.int .u8)) (hce : Tryz.prog.cellsOf e = 1) (hce2 : Tryz.prog.cellsOf e2 = 1) (hct : Tryz.prog.cellsOf t = 31) (hs : ((List.range 31).all fun k => decide ((ds[k]?).map datInts = some (grantsL k))) = true) :
    ∀ k : Nat, k ≤ 30 → ∃ v, W.cell? ⟨g, k, none⟩ = some v ∧ RArr W (· < W.heap.size) 1 byteCs v (grantsL k) := by
  obtain ⟨g', t', cs, fuel, p, q1, q2, q3, q4⟩ := laidPlain h hx rfl
  obtain rfl := Option.some.inj (hg.symm.trans q1)
  obtain rfl := Option.some.inj (ht.symm.trans q2)
  obtain ⟨hl, hk⟩ := tab_open q1 q3 hu hce hct q4
  intro k hkn
  obtain ⟨c, m, y, c1, c2, c3⟩ := hk k (by omega)
  have h1 := List.all_eq_true.1 hs k (List.mem_range.2 (by omega))
  rw [c3] at h1
  have h1 : datInts y.1 = grantsL k := by simpa using h1
  rcases open_ints he he2 hce2 c2 with ⟨e1, e3⟩ | ⟨a, len, cap, zs, hcs, hb, hl2, hm, hz, hx2, hcell, -⟩
  · injection e1 with e1
    subst e1
    rw [e3] at h1
    have h1 : grantsL k = [] := h1.symm
    rw [h1]
    exact ⟨_, c1, none, 0, 0, 0, rfl, Nat.le_refl _, ⟨by unfold maxLen; omega, fun _ => rfl⟩, by simp, fun h => by (simp at h), fun i h => by (simp at h)⟩
  · injection hcs with hcs
    subst hcs
    rw [hx2] at h1
    have h2 : zs.take len = grantsL k := by
      rw [← h1]
      simp [datInts, lits, List.map_map, Function.comp_def]
    simp only [if_true] at hz
    have hgl : (grantsL k).length = len := by rw [← h2, List.length_take]; omega
    have hlen8 : len ≤ 8 := by
      rw [← hgl]
      have : ((List.range 31).all fun k => decide ((grantsL k).length ≤ 8)) = true := by decide
      simpa using List.all_eq_true.1 this k (List.mem_range.2 (by omega))
    by_cases h0 : 0 < len
    · have h4 := hcell 0 (by omega)
      have hsp : a = ⟨a.block, a.off, none⟩ ∧ a.block < W.heap.size := by
        simp only [Addr.add_zero'] at h4
        unfold World.cell? at h4
        split at h4
        · rename_i hh
          refine ⟨?_, (Array.getElem?_eq_some_iff.1 hh).1⟩
          cases a with
          | mk b o s => cases s with
            | none => rfl
            | some s => simp at h4
        · cases h4
      refine ⟨_, c1, some a, cap, a.block, a.off, by rw [hgl], by rw [hgl]; exact hl2, ⟨hm, fun e => by cases e⟩, by rw [hgl]; omega, fun _ => ⟨by rw [← hsp.1], hsp.2⟩, fun i hi => ?_⟩
      rw [hgl] at hi
      have h5 := hcell i (by omega)
      rw [hsp.1, Addr.add_lit] at h5
      rw [Nat.mul_one]
      have h6 : (grantsL k)[i] = zs.getD i 0 := by
        have h7 : (grantsL k)[i]? = zs[i]? := by rw [← h2, List.getElem?_take_of_lt hi]
        rw [List.getElem?_eq_getElem (by omega), List.getElem?_eq_getElem (by omega)] at h7
        rw [List.getD_eq_getElem?_getD, List.getElem?_eq_getElem (by omega)]
        exact Option.some.inj h7
      have h8 := rng_of_cells (w := W) (b := a.block) (off := a.off + i) (cs := [Value.int .u8 (zs.getD i 0)]) (by simp) (fun j hj => by
        obtain rfl : j = 0 := by simpa using hj
        exact h5)
      rw [h6]
      exact h8
    · have hz0 : grantsL k = [] := List.length_eq_zero_iff.1 (by omega)
      rw [hz0]
      exact ⟨_, c1, some a, cap, 0, 0, by rw [show len = 0 by omega]; rfl, by simp, ⟨hm, fun e => by cases e⟩, by simp, fun h => by (simp at h), fun i h => by (simp at h)⟩
theorem utf8_inj {a b : String} (h : a.toUTF8.data.toList = b.toUTF8.data.toList) : a = b := by
  have h1 : a.toUTF8.data = b.toUTF8.data := Array.ext' h
  have h2 : a.toUTF8 = b.toUTF8 := by
    cases ha : a.toUTF8
    cases hb : b.toUTF8
    rw [ha, hb] at h1
    simp at h1
    rw [h1]
  exact String.toByteArray_inj.1 h2

end Go.Proofs.Qxb6500666aGreatDoor
