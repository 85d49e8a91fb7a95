/- The variables that are laid, of this program. (Made by tools/mk_laidz.py.) -/
import Derived.Test.Qxb6500666aGreatDoorRows
import Derived.Test.Qxb6500666aGreatDoorLaid
namespace Go.Proofs.Qxb6500666aGreatDoor
open Go Go.ChangeShapes Go.WideShapes Go.ChangeAt Go.RowKit

def dsOf {H : Type} : DataW H → List (DataW H)
  | .agg ds => ds
  | _ => []
theorem trod_func {H : Type} {enc : TypeId × Value → H} {P : Program} {w : World} {base : Nat} {sp : Nat → Bool} {fuel : Nat} {t : TypeId} {c : Value} {y : DataW H × List MemPlace} {d : TypeDesc} (ht : P.underlying t = some d) (hf : (match d with | .func .. => true | _ => false) = true) (h : DataW.trod enc P w base sp true fuel t [c] = some y) {x : H} (hy : y.1 = .held x) : enc (t, c) = x := by
  cases fuel with
  | zero => simp [DataW.trod] at h
  | succ m =>
    unfold DataW.trod at h
    rw [ht] at h
    cases d <;> simp at hf
    cases c <;> simp at h
    all_goals (subst h; simp at hy)
    exact hy
def hdD : DataW Unit := match (Rows.laid_e2e_transfer_handlers : DataW Unit) with | .iface _ d => d | d => d
theorem func_of {W : World} {l : List (String × DataW Unit)} (h : laidMetH Tryz.prog l W) (hx : ("e2e/transfer.handlers", Rows.laid_e2e_transfer_handlers) ∈ l) {ds : List (DataW (List UInt8))} (he : hdD.funcsOut = .agg ds) {k : Nat} {fid : FuncId} {nm : String} (hk : k < 21) (hd : ds[k]? = some (.held nm.toUTF8.data.toList)) (hne : nm.toUTF8.data.toList ≠ []) (hn : Tryz.prog.funcNamed nm = some fid) : W.cell? ⟨3, k, none⟩ = some (.func (.func fid) #[] #[]) := by
  obtain ⟨g', t', cs, fuel, p, q1, q2, q3, q4⟩ := laidMetH.funcs h (d := hdD) (show ("e2e/transfer.handlers", DataW.iface "func table" hdD) ∈ l from hx)
  obtain rfl := Option.some.inj ((show Tryz.prog.globalNamed "e2e/transfer.handlers" = some 3 by kernel_rfl).symm.trans q1)
  obtain rfl := Option.some.inj ((show (Tryz.prog.globals[3]?).map (·.type) = some 332 by kernel_rfl).symm.trans q2)
  rw [he] at q4
  obtain ⟨-, hq⟩ := tab_open (N := 21) (e := 331) q1 q3 (by kernel_rfl) (by kernel_rfl) (by kernel_rfl) q4
  obtain ⟨c, m, y, c1, c2, c3⟩ := hq k hk
  rw [hd] at c3
  have hy := (Option.some.inj c3).symm
  have htk := trod_func (d := (Tryz.prog.underlying 331).getD default) (by kernel_rfl) (by kernel_rfl) c2 hy
  cases hb : nm.toUTF8.data.toList with
  | nil => exact absurd hb hne
  | cons b r =>
    rw [hb] at htk
    obtain ⟨f, fn, e1, -, e3, e4⟩ := funcToken_tells htk
    rw [← hb] at e4
    have e5 := utf8_inj e4
    rw [e5, hn] at e3
    obtain rfl := Option.some.inj e3
    rw [c1, e1]
theorem gl_of {W : World} {l : List (String × DataW Unit)} (h : laidMetH Tryz.prog l W) (h1 : ("e2e/api.grants", Rows.laid_e2e_api_grants) ∈ l) (h2 : ("e2e/api.kindNames", Rows.laid_e2e_api_kindNames) ∈ l) (h3 : ("e2e/api.roleNames", Rows.laid_e2e_api_roleNames) ∈ l) (h4 : ("e2e/transfer.faultText", Rows.laid_e2e_transfer_faultText) ∈ l) (h5 : ("e2e/transfer.handlers", Rows.laid_e2e_transfer_handlers) ∈ l) : ∃ rn kn ft, Gl W W.heap.size rn kn ft (· < W.heap.size) := by
  obtain ⟨kn, k1, k2⟩ := names_of h (ds := dsOf Rows.laid_e2e_api_kindNames) h2 (g := 5) (N := 31) (t := 340) (e := 9) (by kernel_rfl) (by kernel_rfl) (by kernel_rfl) (by kernel_rfl) (by kernel_rfl) (by kernel_rfl) (by kernel_rfl)
  obtain ⟨rn, r1, r2⟩ := names_of h (ds := dsOf Rows.laid_e2e_api_roleNames) h3 (g := 4) (N := 7) (t := 339) (e := 9) (by kernel_rfl) (by kernel_rfl) (by kernel_rfl) (by kernel_rfl) (by kernel_rfl) (by kernel_rfl) (by kernel_rfl)
  obtain ⟨ft, f1, f2⟩ := names_of h (ds := dsOf Rows.laid_e2e_transfer_faultText) h4 (g := 2) (N := 9) (t := 307) (e := 9) (by kernel_rfl) (by kernel_rfl) (by kernel_rfl) (by kernel_rfl) (by kernel_rfl) (by kernel_rfl) (by kernel_rfl)
  have g1 := grants_of h (ds := dsOf Rows.laid_e2e_api_grants) h1 (g := 1) (t := 250) (e := 249) (e2 := 49) (by kernel_rfl) (by kernel_rfl) (by kernel_rfl) (by kernel_rfl) (by kernel_rfl) (by kernel_rfl) (by kernel_rfl) (by kernel_rfl) (by kernel_rfl)
  have he : hdD.funcsOut = .agg (dsOf hdD.funcsOut) := by kernel_rfl
  have hlt : 5 < W.heap.size := by
    have := k1 0 (by decide)
    unfold World.cell? at this
    split at this
    · rename_i hh
      exact (Array.getElem?_eq_some_iff.1 hh).1
    · cases this
  refine ⟨rn, kn, ft, ⟨fun k hk => r1 k (by omega), fun k hk => k1 k (by omega), fun k hk => f1 k (by omega), hlt, r2, k2, f2⟩, ⟨hlt, func_of h h5 he (nm := "(*e2e/transfer.System).addUser") (by decide) (by kernel_rfl) (by decide +kernel) (by kernel_rfl), func_of h h5 he (nm := "(*e2e/transfer.System).revokeUser") (by decide) (by kernel_rfl) (by decide +kernel) (by kernel_rfl), func_of h h5 he (nm := "(*e2e/transfer.System).defineAnalyte") (by decide) (by kernel_rfl) (by decide +kernel) (by kernel_rfl), func_of h h5 he (nm := "(*e2e/transfer.System).amend") (by decide) (by kernel_rfl) (by decide +kernel) (by kernel_rfl), func_of h h5 he (nm := "(*e2e/transfer.System).addSite") (by decide) (by kernel_rfl) (by decide +kernel) (by kernel_rfl), func_of h h5 he (nm := "(*e2e/transfer.System).enrol") (by decide) (by kernel_rfl) (by decide +kernel) (by kernel_rfl), func_of h h5 he (nm := "(*e2e/transfer.System).buildKit") (by decide) (by kernel_rfl) (by decide +kernel) (by kernel_rfl), func_of h h5 he (nm := "(*e2e/transfer.System).shipKit") (by decide) (by kernel_rfl) (by decide +kernel) (by kernel_rfl), func_of h h5 he (nm := "(*e2e/transfer.System).accession") (by decide) (by kernel_rfl) (by decide +kernel) (by kernel_rfl), func_of h h5 he (nm := "(*e2e/transfer.System).recordExcursion") (by decide) (by kernel_rfl) (by decide +kernel) (by kernel_rfl), func_of h h5 he (nm := "(*e2e/transfer.System).correctCollection") (by decide) (by kernel_rfl) (by decide +kernel) (by kernel_rfl), func_of h h5 he (nm := "(*e2e/transfer.System).enterResult") (by decide) (by kernel_rfl) (by decide +kernel) (by kernel_rfl), func_of h h5 he (nm := "(*e2e/transfer.System).correctResult") (by decide) (by kernel_rfl) (by decide +kernel) (by kernel_rfl), func_of h h5 he (nm := "(*e2e/transfer.System).withdrawResult") (by decide) (by kernel_rfl) (by decide +kernel) (by kernel_rfl), func_of h h5 he (nm := "(*e2e/transfer.System).raiseQuery") (by decide) (by kernel_rfl) (by decide +kernel) (by kernel_rfl), func_of h h5 he (nm := "(*e2e/transfer.System).answerQuery") (by decide) (by kernel_rfl) (by decide +kernel) (by kernel_rfl), func_of h h5 he (nm := "(*e2e/transfer.System).closeQuery") (by decide) (by kernel_rfl) (by decide +kernel) (by kernel_rfl), func_of h h5 he (nm := "(*e2e/transfer.System).reopenQuery") (by decide) (by kernel_rfl) (by decide +kernel) (by kernel_rfl), func_of h h5 he (nm := "(*e2e/transfer.System).issueIncremental") (by decide) (by kernel_rfl) (by decide +kernel) (by kernel_rfl), func_of h h5 he (nm := "(*e2e/transfer.System).issueCumulative") (by decide) (by kernel_rfl) (by decide +kernel) (by kernel_rfl)⟩, ⟨g1, by omega⟩, fun _ q => q, hlt⟩

end Go.Proofs.Qxb6500666aGreatDoor
