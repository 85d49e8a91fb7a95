/- The row of RealDoesWhatModelDoes, out of its walk; and its card. -/
import Derived.Test.Qxb6500665aDoorRows
import Derived.Test.Qxb6500665aDoorCards
import Derived.Test.Qxb6500665aDoorTie
import Derived.Test.Qxb6500665aDoorRealWalk
import Derived.OpenShut
import Derived.Handed
import Derived.LaidLaws
import Derived.Lay
import Derived.Stop.Joined
import Derived.SevenTiedAt
import Derived.MakeChecks
namespace Go.Proofs.Qxb6500665aDoor.realDoesWhatModelDoes
open Go Go.ChangeShapes Go.WideShapes Go.ChangeAt Go.RowKit Go.Proofs.Qxb6500665aDoor

theorem own : ownKnob Tryd.prog.godebug = none := by kernel_rfl
theorem laidOut : laidOutB Tryd.prog = true := by kernel_rfl

theorem met (os : Os) (args : Array Value) : laidMetH Tryd.prog Rows.realDoesWhatModelDoesRow.laid ((World.laidAll Tryd.prog os Rows.realDoesWhatModelDoesRow.laid).forCall (fun _ _ => 0) ⟨#[], args, []⟩).memory :=
  laidMet_laidAll args (by kernel_rfl) (by kernel_rfl)

theorem kinds_met {W : World} (h : laidMetH Tryd.prog Rows.realDoesWhatModelDoesRow.laid W) : ∃ kb ko kc, QK W kb ko kc := by
  rw [MakeChecks.laidMetH_plain _ _ _ (by kernel_rfl)] at h
  obtain ⟨ps, ⟨g, t, cs, fuel, p, q, hg, ht, hv, hd, _, _⟩, _, _⟩ := h
  obtain rfl := Option.some.inj ((show Tryd.prog.globalNamed "e2e/protocollaw.queryKinds" = some 0 by kernel_rfl).symm.trans hg)
  obtain rfl := Option.some.inj ((show (Tryd.prog.globals[0]?).map (·.type) = some 122 by kernel_rfl).symm.trans ht)
  have hgl : 0 < W.heap.size := by
    apply Classical.byContradiction
    intro hn
    have : W.heap[0]? = none := Array.getElem?_eq_none_iff.2 (Nat.le_of_not_lt hn)
    simp [World.var?, hg, this] at hv
  rcases open_ints Tryd.underlying122 Tryd.underlying28 Tryd.cells28 hd with ⟨-, hx⟩ | ⟨a, len, cap, zs, hcs, hb, hl, hm, hz, hx, hcell, -⟩
  · cases hx
  · have hx1 := (Prod.mk.inj hx).1
    unfold Rows.laid_e2e_protocollaw_queryKinds at hx1
    injection hx1 with hx2 hx3
    have hd0 : zs.drop len = [] := by
      cases hdd : zs.drop len with
      | nil => rfl
      | cons y r => rw [hdd] at hx3; cases hx3
    have hzl : zs.length ≤ len := by simpa using hd0
    simp only [if_true] at hz
    have htk : zs.take len = zs := List.take_of_length_le hzl
    rw [htk] at hx2
    have hzs : zs = [6, 7, 8, 9, 10, 11, 12, 13, 14, 15] := by
      have := congrArg (List.map (fun d : DataW Unit => match d with | .lit (.int _ n) => n | _ => 0)) hx2
      simpa [lits, List.map_map, Function.comp_def] using this.symm
    subst hzs
    have hcap : cap = 10 := by simpa using hz.symm
    have hlen : len = 10 := by simp at hzl; omega
    subst hcap hlen
    have hspot : a = ⟨a.block, a.off, none⟩ ∧ a.block < W.heap.size := by
      have h4 := hcell 0 (by simp)
      simp only [Addr.add_zero'] at h4
      unfold World.cell? at h4
      split at h4
      · rename_i hh
        refine ⟨?_, (Array.getElem?_eq_some_iff.1 hh).1⟩
        cases a with
        | mk b o s => cases s with
          | none => rfl
          | some s => simp at h4
      · cases h4
    obtain ⟨hs1, hs2⟩ := hspot
    refine ⟨a.block, a.off, 10, ⟨?_, ⟨by omega, hm⟩, ⟨hgl, hs2⟩, fun i hi => ?_⟩⟩
    · rw [World.var?_cell hg hv 0, ← hs1]
      have : cs.toList[0]? = some (Value.slice (some a) 10 10) := by rw [hcs]; rfl
      simpa using this
    · have := hcell i (by simpa using hi)
      rw [hs1, Addr.add_lit] at this
      rw [this]
      have h10 : i = 0 ∨ i = 1 ∨ i = 2 ∨ i = 3 ∨ i = 4 ∨ i = 5 ∨ i = 6 ∨ i = 7 ∨ i = 8 ∨ i = 9 := by omega
      rcases h10 with rfl | rfl | rfl | rfl | rfl | rfl | rfl | rfl | rfl | rfl <;> rfl

set_option maxRecDepth 100000 in
theorem lifted (os : Os) (started : os.Started) (H : Type) (enc : TypeId × Value → H) :
    ReturnsInHanded {} Tryd.checked os 3 .any (fun w args => (Rows.realDoesWhatModelDoesSpec.pre enc Tryd.prog Tryd.f3 [] false w args ∧ laidMetH Tryd.prog Rows.realDoesWhatModelDoesRow.laid w) ∧ sizedMet enc Tryd.prog Tryd.f3 (OpenSpec.ofChange Rows.realDoesWhatModelDoesSpec) false w args)
      (Rows.realDoesWhatModelDoesSpec.post enc Tryd.prog Tryd.f3 false true false false) := by
  refine returnsInHanded_of_change_and (C := Tryd.checked) (X := fun w _ => laidMetH Tryd.prog Rows.realDoesWhatModelDoesRow.laid w) (fun _ _ _ hh h => h.of_heap hh) own started (by kernel_rfl) Tryd.func3
    (ChangeSpec.witness_shaped (enc := enc) (C := Tryd.checked) (os := os) (X := fun w _ => laidMetH Tryd.prog Rows.realDoesWhatModelDoesRow.laid w) false (World.laidAll Tryd.prog os Rows.realDoesWhatModelDoesRow.laid) #[.slice none 0 0] 8 rfl (World.shaped_of_ZipB (by kernel_rfl) (by kernel_rfl)) (by kernel_rfl) (by kernel_rfl) (by kernel_rfl) (met os _)) ?_
  intro W base args ds gs before hval0 hW _ hsz0 hL _
  have hsz : (DataW.weightsEach Tryd.prog (Tryd.f3.params.toList ++ Rows.realDoesWhatModelDoesSpec.plain.varTypes Tryd.prog) (ds ++ gs)).all (· ≤ reachBytes) = true := hsz0
  clear hsz0
  have hval : ∀ (j : Nat) t v, Tryd.f3.params[j]? = some t → args[j]? = some v → Value.okWide Tryd.prog W .any base t v := hval0
  have hW' := hW
  obtain ⟨p, q, hA0, hV, rfl, hfz, hnd⟩ := hW
  have hA : DataW.TrodAll enc Tryd.prog W 0 (fun _ => true) true Tryd.f3.params.toList args.toList ds p := hA0
  rw [Tryd.params3] at hA hval hsz
  obtain ⟨v0, d0, rfl, rfl, h0⟩ := trodAll_one hA
  obtain ⟨rfl, rfl⟩ := trodVars_none hV
  obtain ⟨a0, len, cap, rfl⟩ := okWide_slice Tryd.underlying22 (hval 0 22 v0 rfl rfl)
  have h0k := h0
  obtain ⟨fuel, hf⟩ := h0
  clear hA0 hval0
  simp only [List.append_nil] at hW'
  have hlt : ∀ x ∈ p, x.block < W.heap.size := fun x hx => by simpa using hW'.lt x hx
  have hargs : ∀ (W' : World), Below W.heap.size W W' → DataW.Trod enc Tryd.prog W' 0 (fun b => decide (b < W.heap.size)) true 22 (.slice a0 len cap) d0 p :=
    fun W' hn => Below.trod laidOut (by kernel_rfl) (of_decide_eq_true (by kernel_rfl)) h0k hn hlt
  have hlight : Light Tryd.prog 22 d0 := fun n hn => by
    have := List.all_eq_true.1 hsz n (DataW.weights_mem_each (j := 0) (t := 22) (d := d0) rfl rfl n hn)
    simpa using this
  obtain ⟨s, hs⟩ := script_of_trod (c := .slice a0 len cap) (by simpa [Value.cells] using hf) hlight
  obtain ⟨kb, ko, kc, hk⟩ := kinds_met hL
  refine (real_walk W _ s kb ko kc hs hk).mono fun e W' ⟨he, hb⟩ => ?_
  subst he
  exact ⟨_, rfl, _, _, _, [], p, [], hW', trodAll_cons_mk (shut_bool Tryd.underlying4 _) trodAll_mk0, trodAll_mk1 (hargs _ hb), rfl, hb.frame _, fun h => by cases h⟩

theorem over : Rows.RealDoesWhatModelDoesSaid :=
  OpenClaim.holds_of_wide 3 Tryd.f3 rfl rfl rfl rfl rfl rfl rfl ⟨rfl, rfl, rfl, rfl, rfl⟩ rfl rfl rfl rfl rfl (by kernel_rfl) Tryd.func3 (by kernel_rfl)
    (of_decide_eq_true (by kernel_rfl)) (by unfold Func.isWrapper; first | (rw [if_pos (by decide +kernel)]; kernel_rfl) | (rw [if_neg (by decide +kernel)]; exact ⟨rfl, rfl⟩))
    (fun os started H enc _ => lifted os started H enc)

theorem proved : Rows.RealDoesWhatModelDoesCardSaid :=
  Claim7.holds_tied_plain_at .later [] [.data] true (true, "a5e551ed982d1495d7d6d7655c0bdbe7ca8b4bb48d4c9b70a3854a8b6dac28c5") true
    over (fun _ h => by cases h) (by kernel_rfl) (fun _ h => by cases h) realDoesWhatModelDoes_row_tie rfl ⟨rfl, rfl⟩ (by kernel_rfl) rfl
    (fun f fn hf hfn => by
      obtain rfl : f = 3 := Option.some.inj ((show Tryd.prog.funcNamed "e2e/protocollaw.RealDoesWhatModelDoes" = some 3 by kernel_rfl).symm.trans hf) |>.symm
      obtain rfl : fn = Tryd.f3 := (Option.some.inj (Tryd.func3.symm.trans hfn)).symm
      exact ⟨by kernel_rfl, fun j t ht => by
        rw [Tryd.params3] at ht
        have h3 : t = 22 := by
          rcases j with _ | j
          · simpa using ht.symm
          · simp at ht
        subst h3
        exact (show Tryd.prog.wantsStandIn 22 = false by kernel_rfl)⟩)
    (by kernel_rfl)
end Go.Proofs.Qxb6500665aDoor.realDoesWhatModelDoes
