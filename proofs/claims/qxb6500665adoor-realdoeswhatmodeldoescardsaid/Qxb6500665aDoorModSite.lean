/- addSite of the model, walked. -/
import Derived.Test.Qxb6500665aDoorModel
namespace Go.Proofs.Qxb6500665aDoor
open Go.RowKit Go.Proofs.Qxb6500665aDoor.Cal

theorem cell_six {w : World} {b : Nat} {x0 x1 x2 x3 x4 x5 : Value} {t : TypeId} (h : w.heap[b]? = some (.cells #[x0, x1, x2, x3, x4, x5] t (0, 0))) : w.cell? ⟨b, 0, none⟩ = some x0 ∧ w.cell? ⟨b, 1, none⟩ = some x1 ∧ w.cell? ⟨b, 2, none⟩ = some x2 ∧ w.cell? ⟨b, 3, none⟩ = some x3 ∧ w.cell? ⟨b, 4, none⟩ = some x4 ∧ w.cell? ⟨b, 5, none⟩ = some x5 ∧ (∀ j, w.frozen? ⟨b, j, none⟩ = false) ∧ b < w.heap.size := by
  refine ⟨by rw [World.cell?, h]; rfl, by rw [World.cell?, h]; rfl, by rw [World.cell?, h]; rfl, by rw [World.cell?, h]; rfl, by rw [World.cell?, h]; rfl, by rw [World.cell?, h]; rfl, fun j => by rw [World.frozen?, h]; simp, ?_⟩
  apply Classical.byContradiction
  intro hn
  have : w.heap[b]? = none := by simp; omega
  rw [h] at this
  cases this

def mSite (T : Tab) (full : Bool) (id : Int) : Int := if id = 0 then 2 else if T.site id = true then 9 else if full = true then 21 else 0
def mSiteT (T : Tab) (full : Bool) (id : Int) : Tab := if mSite T full id = 0 then { T with site := upd T.site id true } else T

/-- Behind a command of the model: all blocks that are not the model's are as before. -/
structure MCmd (w w' : World) (M base N a p s u : Nat) (v v' : Value) (C C' : Nat → Prop) (T : Tab) (full : Bool) : Prop where
  at' : MAt w' M base N a p s u v' C' T full
  same : ∀ b, b < w.heap.size → ¬ MD M a p s u v C b → w'.heap[b]? = w.heap[b]?
  below : Below base w w'
  new : ∀ b, C' b → C b ∨ w.heap.size ≤ b
  newv : v'.ownBlock = v.ownBlock ∨ ∀ b, v'.ownBlock = some b → w.heap.size ≤ b

theorem MAt.mono {w : World} {M base N N' a p s u : Nat} {v : Value} {C : Nat → Prop} {T : Tab} {full : Bool} (h : MAt w M base N a p s u v C T full) (hn : N ≤ N') : MAt w M base N' a p s u v C T full := by
  obtain ⟨pf, h1, h2⟩ := h.pan
  exact ⟨h.top, h.an.mono hn, ⟨pf, h1.mono hn, h2⟩, h.vers, h.site.mono hn, h.sub.mono hn, h.nd, h.low, h.own, h.lt⟩

/-- All but one of the model's maps stand. -/
theorem MAt.putSite {w w' : World} {M base N a p s u : Nat} {v : Value} {C : Nat → Prop} {T : Tab} {full : Bool} {f : Int → Bool} (h : MAt w M base N a p s u v C T full) (hs : ∀ b, b < w.heap.size → b ≠ s → w'.heap[b]? = w.heap[b]?) (hz : w.heap.size ≤ w'.heap.size)
    (hm : MapU w' s (N + 1) (.bool false) (fun k => if f k then some (.bool true) else none)) (hgb : Below base w w') :
    MCmd w w' M base (N + 1) a p s u v v C C { T with site := f } full := by
  obtain ⟨pf, h1, h2⟩ := h.pan
  obtain ⟨mv, m1, m2, m3, m4⟩ := h.vers
  have hn := h.nd
  simp only [List.nodup_cons, List.mem_cons, List.not_mem_nil, or_false, not_or] at hn
  obtain ⟨⟨n1, n2, n3, n4⟩, ⟨n5, n6, n7⟩, ⟨n8, n9⟩, n10, -⟩ := hn
  have hC : ∀ b, C b → b ≠ s := fun b hb e => (h.low s (by simp)).2.1 (e ▸ hb)
  have hV : ∀ b, v.ownBlock = some b → b ≠ s := fun b hb e => (h.low s (by simp)).2.2 (e ▸ hb)
  have hsb := (h.low s (by simp)).1
  have hMl := (cell_six h.top).2.2.2.2.2.2.2
  have hbl := hgb.size
  refine ⟨⟨(hs M hMl n3).trans h.top, (h.an.same (hs a h.an.lt n6)).mono (Nat.le_succ _), ⟨pf, (h1.same (hs p h1.lt n8)).mono (Nat.le_succ _), fun k hk => ?_⟩, ⟨mv, m1.mono (fun b hb' => hs b (m1.block b hb').2 (hV b hb')), m2, m3, fun x hx => (m4 x hx).mono (fun b hb' => hb'.elim (fun h => hgb.block b h) (fun h9 => hs b (h.lt b h9).2 (hC b h9))) (fun _ h => h)⟩, hm, (h.sub.same (hs u h.sub.lt (fun e => n10 e.symm))).mono (Nat.le_succ _), h.nd, h.low, h.own, fun b hb' => ⟨(h.lt b hb').1, Nat.lt_of_lt_of_le (h.lt b hb').2 hz⟩⟩, fun b hb' hd => hs b hb' (fun e => hd (Or.inl (by rw [e]; simp))), hgb, fun b hb' => Or.inl hb', Or.inl rfl⟩
  rcases h2 k hk with h3 | ⟨ids, pv, h3, h4, h5⟩
  · exact Or.inl h3
  · exact Or.inr ⟨ids, pv, h3, h4, h5.mono (fun b hb' => hs b (h.lt b hb').2 (hC b hb')) (fun _ h => h)⟩

theorem MCmd.refl {w : World} {M base N a p s u : Nat} {v : Value} {C : Nat → Prop} {T : Tab} {full : Bool} (h : MAt w M base N a p s u v C T full) : MCmd w w M base (N + 1) a p s u v v C C T full :=
  ⟨h.mono (Nat.le_succ _), fun _ _ _ => rfl, Below.refl _ _, fun _ hb => Or.inl hb, Or.inl rfl⟩

def SitePost (w w' : World) (e : Ending) (M base N a p s u : Nat) (v : Value) (C : Nat → Prop) (full : Bool) (k : Int) (T' : Tab) : Prop :=
  e = .returned (.int .u8 k) ∧ MCmd w w' M base N a p s u v v C C T' full
theorem ret_site {w w' : World} {e : Ending} {M base N a p s u : Nat} {v : Value} {C : Nat → Prop} {full : Bool} {k k' : Int} {T' T'' : Tab} (h : Hid (k = k' ∧ T' = T'')) (hp : SitePost w w' e M base N a p s u v C full k' T'') : SitePost w w' e M base N a p s u v C full k T' := by
  rw [h.out.1, h.out.2]; exact hp

theorem Tryd.zeroBool (w : World) : (zeroValue 4).run Tryd.prog w = .ok (.bool false) w := by kernel_rfl
theorem Tryd.mapSite : Tryd.prog.underlying 66 = some (.map 29 4) := by kernel_rfl

set_option maxRecDepth 100000 in
set_option maxHeartbeats 1000000 in
theorem addSite_m (w : World) (M base N a p s u : Nat) (v : Value) (C : Nat → Prop) (T : Tab) (full : Bool) (id : Int) (h : MAt w M base N a p s u v C T full) (hid : U32 id) (hN : N < 1000000000) :
    Calls Tryd.prog 37 #[.pointer (some ⟨M, 0, none⟩), .int .u32 id] w fun e w' => SitePost w w' e M base (N + 1) a p s u v C full (mSite T full id) (mSiteT T full id) := by
  obtain ⟨K, hK⟩ : ∃ K, K = mSite T full id := ⟨_, rfl⟩
  obtain ⟨T', hT'⟩ : ∃ T', T' = mSiteT T full id := ⟨_, rfl⟩
  rw [← hK, ← hT']
  have HK := hide (And.intro hK hT')
  clear hK hT'
  have hsb := (h.low s (by simp)).1
  have hsl := h.site.lt
  obtain ⟨c0, c1, c2, c3, c4, c5, -, hMl⟩ := cell_six h.top
  have hlk := h.site.look Tryd.mapSite (Tryd.zeroBool w) hid
  obtain ⟨w', hup, hmu, hg⟩ := h.site.put Tryd.mapSite (show N < maxLen by unfold maxLen; omega) hid (.bool true)
  have HM := hide (h.putSite (f := upd T.site id true) (w' := w') (fun b hb hne => hg.block b hb (by simpa using hne)) hg.size (by
    have e : upd (fun k => if T.site k then some (Value.bool true) else none) id (some (.bool true)) = fun k => if upd T.site id true k then some (Value.bool true) else none := by
      funext k
      unfold upd
      by_cases hk : k = id
      · simp [hk]
      · simp [hk]
    rw [e] at hmu
    exact hmu) ((Below.refl base w).grown hg (by omega) (fun j hj => by cases hj; exact hsb)))
  have HH := hide h
  clear h hmu hg
  by_cases h0 : id = 0
  · have t0 : (id == 0) = true := by simp [h0]
    have HE : Hid (K = 2 ∧ T' = T) := by
      have e : mSite T full id = 2 := by rw [mSite, if_pos h0]
      exact ⟨HK.out.1.trans e, HK.out.2.trans (by rw [mSiteT, e, if_neg (by decide)])⟩
    clear h0
    go_enter Tryd.func37, Tryd.ntmps37
    go_wp2
    go_ret
    exact ret_site HE ⟨rfl, MCmd.refl HH.out⟩
  · have t0 : (id == 0) = false := by simp [h0]
    by_cases hs : T.site id = true
    · have HE : Hid (K = 9 ∧ T' = T) := by
        have e : mSite T full id = 9 := by rw [mSite, if_neg h0, if_pos hs]
        exact ⟨HK.out.1.trans e, HK.out.2.trans (by rw [mSiteT, e, if_neg (by decide)])⟩
      rw [if_pos hs] at hlk
      simp only [Option.getD_some] at hlk
      clear h0 hs
      go_enter Tryd.func37, Tryd.ntmps37
      go_wp2
      go_ret
      exact ret_site HE ⟨rfl, MCmd.refl HH.out⟩
    · rw [if_neg hs] at hlk
      simp only [Option.getD_none] at hlk
      cases full with
      | true =>
        have HE : Hid (K = 21 ∧ T' = T) := by
          have e : mSite T true id = 21 := by rw [mSite, if_neg h0, if_neg hs, if_pos rfl]
          exact ⟨HK.out.1.trans e, HK.out.2.trans (by rw [mSiteT, e, if_neg (by decide)])⟩
        clear h0 hs
        go_enter Tryd.func37, Tryd.ntmps37
        go_wp2
        go_ret
        exact ret_site HE ⟨rfl, MCmd.refl HH.out⟩
      | false =>
        have HE : Hid (K = 0 ∧ T' = { T with site := upd T.site id true }) := by
          have e : mSite T false id = 0 := by rw [mSite, if_neg h0, if_neg hs]; rfl
          exact ⟨HK.out.1.trans e, HK.out.2.trans (by rw [mSiteT, e, if_pos rfl])⟩
        clear h0 hs
        go_enter Tryd.func37, Tryd.ntmps37
        go_wp2
        go_ret
        exact ret_site HE ⟨rfl, HM.out⟩

end Go.Proofs.Qxb6500665aDoor
