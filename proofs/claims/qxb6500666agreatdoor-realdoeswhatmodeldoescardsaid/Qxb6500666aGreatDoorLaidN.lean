/- The names that are laid, of this program: what they are. -/
import Derived.Test.Qxb6500666aGreatDoorLaidZ
import Derived.Test.Qxb6500666aGreatDoorXTrP
namespace Go.Proofs.Qxb6500666aGreatDoor
open Go Go.ChangeShapes Go.WideShapes Go.ChangeAt Go.RowKit

/-- A laid name's bytes. -/
def nmB (ds : List (DataW Unit)) (k : Nat) : List Int := match ds[k]? with
  | some (.lit (.string l)) => l.map (fun b => (b.toNat : Int))
  | _ => []
set_option maxRecDepth 100000 in
theorem names_val {W : World} {l : List (String × DataW Unit)} (h : laidMetH Tryz.prog l W) {nm : String} {ds : List (DataW Unit)} (hx : (nm, DataW.agg ds) ∈ l) {g N : Nat} {t e : TypeId} (hg : Tryz.prog.globalNamed nm = some g) (ht : (Tryz.prog.globals[g]?).map (·.type) = some t) (hu : Tryz.prog.underlying t = some (.array N e)) (he : Tryz.prog.underlying e = some .string) (hce : Tryz.prog.cellsOf e = 1) (hct : Tryz.prog.cellsOf t = N) {f : Nat → ByteArray} (hf : ∀ k, k < N → W.cell? ⟨g, k, none⟩ = some (.string (f k))) :
    ∀ k, k < N → strB (f k) = nmB ds k := by
  obtain ⟨g', t', cs, fuel, p, q1, q2, q3, q4⟩ := laidPlain h hx rfl
  obtain rfl := Option.some.inj (hg.symm.trans q1)
  obtain rfl := Option.some.inj (ht.symm.trans q2)
  obtain ⟨hl, hk⟩ := tab_open q1 q3 hu hce hct q4
  intro k hkn
  obtain ⟨c, m, y, c1, c2, c3⟩ := hk k hkn
  obtain ⟨s, hs1, hs2, -⟩ := DataW.trod_string he c2
  have h1 := Option.some.inj (c1.symm.trans (hf k hkn))
  have h3 : s = f k := by
    have h4 : c = .string s := (List.cons.inj hs1).1
    exact Value.string.inj (h4.symm.trans h1)
  unfold nmB
  rw [c3, hs2, ← h3]
  rfl
def partB (p : List Int) : Bool := (! p.isEmpty) && p.all (fun c => (c != 124) && (c != 10))
theorem partB_ok {p : List Int} (h : partB p = true) : PartOk p := by
  unfold partB at h
  simp only [Bool.and_eq_true, List.all_eq_true, bne_iff_ne, ne_eq] at h
  refine ⟨fun e => ?_, fun c hc => h.2 c hc⟩
  subst e
  simp at h
def partsB (ds : List (DataW Unit)) (n : Nat) : Bool := (List.range n).all fun k => partB (nmB ds (k + 1))
def injB (ds : List (DataW Unit)) (m n : Nat) : Bool := (List.range m).all fun j => (List.range n).all fun k => (nmB ds (j + 1) != nmB ds (k + 1)) || (j == k)
theorem parts_ok {ds : List (DataW Unit)} {n : Nat} (h : partsB ds n = true) : ∀ k, 1 ≤ k → k ≤ n → PartOk (nmB ds k) := fun k h1 h2 => by
  have := List.all_eq_true.1 h (k - 1) (List.mem_range.2 (by omega))
  rw [show k - 1 + 1 = k by omega] at this
  exact partB_ok this
theorem inj_ok {ds : List (DataW Unit)} {m n : Nat} (h : injB ds m n = true) : ∀ j k, 1 ≤ j → j ≤ m → 1 ≤ k → k ≤ n → nmB ds j = nmB ds k → j = k := fun j k h1 h2 h3 h4 e => by
  have := List.all_eq_true.1 (List.all_eq_true.1 h (j - 1) (List.mem_range.2 (by omega))) (k - 1) (List.mem_range.2 (by omega))
  rw [show j - 1 + 1 = j by omega, show k - 1 + 1 = k by omega, e] at this
  simp at this
  omega
set_option maxRecDepth 100000 in
theorem nmg_of {W : World} {l : List (String × DataW Unit)} (h : laidMetH Tryz.prog l W) (h2 : ("e2e/api.kindNames", Rows.laid_e2e_api_kindNames) ∈ l) (h3 : ("e2e/api.roleNames", Rows.laid_e2e_api_roleNames) ∈ l) {rn kn ft : Nat → ByteArray} (hn : NmAt W rn kn ft) : NmG rn kn := by
  have k1 := names_val h (ds := dsOf Rows.laid_e2e_api_kindNames) h2 (g := 5) (N := 31) (t := 340) (e := 9) (by kernel_rfl) (by kernel_rfl) (by kernel_rfl) (by kernel_rfl) (by kernel_rfl) (by kernel_rfl) (f := kn) (fun k hk => hn.k k (by omega))
  have r1 := names_val h (ds := dsOf Rows.laid_e2e_api_roleNames) h3 (g := 4) (N := 7) (t := 339) (e := 9) (by kernel_rfl) (by kernel_rfl) (by kernel_rfl) (by kernel_rfl) (by kernel_rfl) (by kernel_rfl) (f := rn) (fun k hk => hn.r k (by omega))
  have a1 : partsB (dsOf Rows.laid_e2e_api_kindNames) 20 = true := by kernel_rfl
  have a2 : partsB (dsOf Rows.laid_e2e_api_roleNames) 6 = true := by kernel_rfl
  have b1 : injB (dsOf Rows.laid_e2e_api_kindNames) 30 20 = true := by kernel_rfl
  have b2 : injB (dsOf Rows.laid_e2e_api_roleNames) 6 6 = true := by kernel_rfl
  exact ⟨fun k p q => by rw [r1 k (by omega)]; exact parts_ok a2 k p q, fun k p q => by rw [k1 k (by omega)]; exact parts_ok a1 k p q, fun j k p1 p2 p3 p4 e => inj_ok b2 j k p1 p2 p3 p4 (by rw [← r1 j (by omega), ← r1 k (by omega)]; exact e), fun j k p1 p2 p3 p4 e => inj_ok b1 j k p1 p2 p3 p4 (by rw [← k1 j (by omega), ← k1 k (by omega)]; exact e), by rw [r1 0 (by omega)]; kernel_rfl, by rw [k1 0 (by omega)]; kernel_rfl⟩

end Go.Proofs.Qxb6500666aGreatDoor
