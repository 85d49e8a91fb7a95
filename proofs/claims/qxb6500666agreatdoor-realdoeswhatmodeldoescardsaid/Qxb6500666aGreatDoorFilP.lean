/- The files on record, and the rows that they have released. Plain. -/
import Derived.Test.Qxb6500666aGreatDoorFilK
import Derived.Test.Qxb6500666aGreatDoorSortO
import Derived.Test.Qxb6500666aGreatDoorAudP
import Derived.Test.Qxb6500666aGreatDoorFileB
import Derived.Test.Qxb6500666aGreatDoorRecon
namespace Go.Proofs.Qxb6500666aGreatDoor
open Go.RowKit

def relF (acc : Option (List Row)) (f : File) : Option (List Row) := match acc with
  | none => none
  | some rows => if f.kind = 73 then applyF rows f.changes else some rows
def relOf (fs : List File) : Option (List Row) := fs.foldl relF (some [])
def cumOf (fs : List File) : Int := fs.foldl (fun b f => if f.kind = 67 then f.seq else b) 0
theorem relOf_snoc (fs : List File) (f : File) : relOf (fs ++ [f]) = relF (relOf fs) f := by simp [relOf, List.foldl_append]
theorem cumOf_snoc (fs : List File) (f : File) : cumOf (fs ++ [f]) = if f.kind = 67 then f.seq else cumOf fs := by simp [cumOf, List.foldl_append]

/-- The store holds these files, which have released these rows. -/
structure FI (ps : List KV) (fs : List File) (rows : List Row) : Prop where
  kn : KN ps
  st : ∃ s, statR ps = .ok s ∧ s.transfers = fs.length ∧ s.lastCum = cumOf fs ∧ ∀ f ∈ fs, f.issued ≤ s.lastMin
  seq : ∀ i (h : i < fs.length), fs[i].seq = (i : Int) + 1 ∧ fs[i].base = cumOf (fs.take i)
  mono : fs.Pairwise fun f g => f.issued ≤ g.issued
  fok : ∀ f ∈ fs, FileOk f.kind f.seq f.issued f.base f.changes
  cok : ∀ f ∈ fs, ∀ c ∈ f.changes, c.Ok
  hdr : ∀ i (h : i < fs.length), getB ps (key1B 104 ((i : Int) + 1)) = some (hdrB (hdrOf fs[i].kind fs[i].seq fs[i].issued fs[i].base fs[i].changes))
  lin : ∀ i (h : i < fs.length), fs[i].kind = 73 → ∀ j (hj : j < fs[i].changes.length), getB ps (key2B 99 ((i : Int) + 1) (j : Int)) = some (chgB fs[i].changes[j])
  no : ∀ k, U32 k → (k = 0 ∨ (fs.length : Int) < k) → getB ps (key1B 104 k) = none
  rel : relOf fs = some rows
  cum : ∀ i (h : i < fs.length), fs[i].kind = 67 → ∃ rs, relOf (fs.take i) = some rs ∧ fs[i].changes = asCur rs
  ptr0 : ∀ s a, U32 s → U32 a → mlook rows s a = none → getB ps (key2B 114 s a) = none
  ptr1 : ∀ r ∈ rows, ∃ i j, ∃ (hi : i < fs.length) (hj : j < fs[i].changes.length), fs[i].kind = 73 ∧ fs[i].changes[j].row = r ∧ fs[i].changes[j].action ≠ 87 ∧ getB ps (key2B 114 r.sample r.analyte) = some (placeB ((i : Int) + 1) (j : Int))
  keys : ∀ p ∈ ps, p.1.head? = some 114 → ∃ s a, U32 s ∧ U32 a ∧ p.1 = key2B 114 s a
  rise : Rise rows
  rok : ∀ r ∈ rows, r.Ok
theorem FI.start : FI [] [] [] := ⟨KN.nil, ⟨⟨0, 0, 0, 0⟩, rfl, rfl, rfl, fun _ h => (by cases h)⟩, fun i h => (by simp at h), List.Pairwise.nil, fun _ h => (by cases h), fun _ h => (by cases h), fun i h => (by simp at h), fun i h => (by simp at h), fun _ _ _ => rfl, rfl, fun i h => (by simp at h), fun _ _ _ _ _ => rfl, fun _ h => (by cases h), fun _ h => (by cases h), List.Pairwise.nil, fun _ h => (by cases h)⟩

section
variable {ps : List KV} {fs : List File} {rows : List Row}
theorem FI.line (h : FI ps fs rows) {i : Nat} (hi : i < fs.length) {j : Nat} (hj : j < fs[i].changes.length) : ActOk fs[i].kind fs[i].changes[j].action ∧ RowOk fs[i].changes[j].row := by
  have := (h.fok _ (List.getElem_mem hi)).2.2.2 j hj
  exact ⟨this.1, this.2.1⟩
theorem FI.kind (h : FI ps fs rows) {f : File} (hf : f ∈ fs) : f.kind = 67 ∨ f.kind = 73 := (h.fok f hf).1
/-- A line on record, read back. -/
theorem FI.chg (h : FI ps fs rows) {i : Nat} (hi : i < fs.length) (hk : fs[i].kind = 73) {j : Nat} (hj : j < fs[i].changes.length) : chgR ps ((i : Int) + 1) (j : Int) = .ok fs[i].changes[j] := by
  have h1 := h.line hi hj
  rw [hk] at h1
  unfold chgR
  rw [h.lin i hi hk j hj]
  dsimp only
  rw [decChg_enc (h.cok _ (List.getElem_mem hi) _ (List.getElem_mem hj)) h1.1 h1.2]
  rfl
theorem inc_len (h : FI ps fs rows) {f : File} (hf : f ∈ fs) (hk : f.kind = 73) : f.changes.length ≤ 20 := by
  have := (h.fok f hf).2.2.1
  omega
theorem relStep_ok (h : FI ps fs rows) (hl : fs.length ≤ 1000000) {p : KV} {r : Row} (hr : r ∈ rows) (hp1 : p.1 = key2B 114 r.sample r.analyte) (hp2 : getB ps p.1 = some p.2) : relStep ps p = some r := by
  obtain ⟨i, j, hi, hj, k1, k2, k3, k4⟩ := h.ptr1 r hr
  have ho := h.rok r hr
  have hj20 := inc_len h (List.getElem_mem hi) k1
  rw [hp1, k4] at hp2
  injection hp2 with hp2
  unfold relStep
  rw [hp1, splitK_enc ho.sample ho.analyte]
  dsimp only
  rw [← hp2, decPlc_enc ⟨by omega, by omega⟩ ⟨by omega, by omega⟩ (by omega)]
  dsimp only
  rw [h.chg hi k1 hj]
  dsimp only
  rw [if_neg (by simpa using k3), k2, if_neg (by simp), if_neg (by simp)]
theorem relL_map {ps : List KV} (f : KV → Row) : ∀ (l : List KV) (acc : List Row), (∀ p ∈ l, relStep ps p = some (f p)) → l.foldl (relAdd ps) (some acc) = some (acc ++ l.map f)
  | [], acc, _ => by simp
  | p :: l, acc, h => by
    have h1 : relAdd ps (some acc) p = some (acc ++ [f p]) := by
      unfold relAdd
      rw [h p (List.mem_cons_self ..)]
    rw [List.foldl_cons, h1, relL_map f l _ (fun q hq => h q (List.mem_cons_of_mem _ hq))]
    simp
/-- What is released: these rows. -/
theorem FI.relR (h : FI ps fs rows) (hl : fs.length ≤ 1000000) : relR ps = some rows := by
  obtain ⟨h1, h2, h3⟩ := scanB_spec ps (key0B 114) (key0B 115) (ps.length + 1) none (leftC_le _ _ _ _)
  unfold Go.Proofs.Qxb6500666aGreatDoor.relR relL
  generalize scanB ps (key0B 114) (key0B 115) (ps.length + 1) none = sc at *
  have hrow : ∀ p ∈ sc, ∃ r ∈ rows, p.1 = key2B 114 r.sample r.analyte ∧ relStep ps p = some r := fun p hp => by
    obtain ⟨a1, a2, a3⟩ := h2 p hp
    obtain ⟨s, a, hs, ha, he⟩ := h.keys p a1 (inRange_head a2)
    cases hm : mlook rows s a with
    | none =>
      have := h.ptr0 s a hs ha hm
      rw [← he, a3] at this
      cases this
    | some r =>
      obtain ⟨m1, m2, m3⟩ := mlook_mem hm
      have he' : p.1 = key2B 114 r.sample r.analyte := by rw [m2, m3]; exact he
      exact ⟨r, m1, he', relStep_ok h hl m1 he' a3⟩
  have hf : ∀ p ∈ sc, relStep ps p = some ((relStep ps p).getD zeroRow) := fun p hp => by
    obtain ⟨r, -, -, e⟩ := hrow p hp
    rw [e]
    rfl
  rw [relL_map (fun p => (relStep ps p).getD zeroRow) sc [] hf, List.nil_append]
  congr 1
  refine rise_unique ?_ h.rise (fun x => ⟨fun hx => ?_, fun hx => ?_⟩)
  · unfold Rise
    rw [List.pairwise_map]
    refine List.Pairwise.imp_of_mem (fun {p q} hp hq hpq => ?_) h1
    obtain ⟨r, r1, r2, r3⟩ := hrow p hp
    obtain ⟨r', r1', r2', r3'⟩ := hrow q hq
    rw [r3, r3']
    rw [r2, r2'] at hpq
    exact key2B_lt (h.rok r r1).sample (h.rok r r1).analyte (h.rok r' r1').sample (h.rok r' r1').analyte hpq
  · obtain ⟨p, hp, e⟩ := List.mem_map.1 hx
    obtain ⟨r, r1, r2, r3⟩ := hrow p hp
    rw [r3] at e
    have e : r = x := e
    rw [← e]
    exact r1
  · obtain ⟨i, j, hi, hj, k1, k2, k3, k4⟩ := h.ptr1 x hx
    obtain ⟨q, hq, he⟩ := h3 _ (getB_in k4) (key2B_in _ _)
    obtain ⟨r, r1, r2, r3⟩ := hrow q hq
    refine List.mem_map.2 ⟨q, hq, ?_⟩
    show (relStep ps q).getD zeroRow = x
    rw [r3]
    show r = x
    rw [he] at r2
    have hx' := h.rok x hx
    have hr' := h.rok r r1
    obtain ⟨e1, e2⟩ := key2B_inj hx'.sample hx'.analyte hr'.sample hr'.analyte r2
    have m1 := mlook_self h.rise hx
    have m2 := mlook_self h.rise r1
    rw [e1, e2, m2] at m1
    injection m1
end

/-! What a batch does. -/
theorem applyW_mem : ∀ {ws : List WR} {ps : List KV} {p : KV}, p ∈ applyW ps ws → p ∈ ps ∨ ∃ x ∈ ws, x.2 = false ∧ p = x.1
  | [], ps, p, h => Or.inl h
  | x :: r, ps, p, h => by
    rcases applyW_mem (ws := r) (ps := putW ps x) h with h | ⟨y, h1, h2⟩
    · unfold putW at h
      rcases List.mem_append.1 h with h | h
      · exact Or.inl (rmB_sub.2 p h)
      · split at h
        · cases h
        · rename_i hb
          exact Or.inr ⟨x, List.mem_cons_self .., by simpa using hb, List.mem_singleton.1 h⟩
    · exact Or.inr ⟨y, List.mem_cons_of_mem _ h1, h2⟩
theorem getB_ws {ps : List KV} (hk : KN ps) (R : HR) (r : Req) (role : Int) {k : List Int} (h1 : k.head? ≠ some 97) (h2 : k.head? ≠ some 115) : getB (applyW ps (wsAll R r role)) k = lastW R.ws k (getB ps k) := by
  rw [getB_apply _ hk]
  unfold wsAll
  rw [lastW_app, lastW_app, lastW_none (ws := [((key0B 115, statB (stNext R.st r.now)), false)]), lastW_none (ws := [((key1B 97 (stNext R.st r.now).entries, entB role R.iss r), false)])]
  · intro x hx
    rw [List.mem_singleton.1 hx]
    exact fun e => h1 (by rw [← e]; rfl)
  · intro x hx
    rw [List.mem_singleton.1 hx]
    exact fun e => h2 (by rw [← e]; rfl)
theorem stat_ws {ps : List KV} (hk : KN ps) (R : HR) (r : Req) (role : Int) (ho : (stNext R.st r.now).Ok) (hc : R.st.lastCum ≤ R.st.transfers) (hn : 0 ≤ r.now ∧ r.now ≤ 157785119) : statR (applyW ps (wsAll R r role)) = .ok (stNext R.st r.now) := by
  have hsb : getB (applyW ps (wsAll R r role)) (key0B 115) = some (statB (stNext R.st r.now)) := by
    rw [getB_apply _ hk]
    unfold wsAll
    rw [lastW_app, lastW_hit]
  unfold statR
  rw [hsb]
  dsimp only
  have hcal : inCal r.now = true := by unfold inCal; simp; omega
  rw [decStat_enc ho hc hcal]
  rfl
/-- Writes to users' accounts alone. -/
def OnlyU (ws : List WR) : Prop := ∀ x ∈ ws, x.1.1.head? = some 117
theorem cumGo_bound : ∀ (fs : List File) (b : Int) (k : Nat), (∀ i (h : i < fs.length), fs[i].seq = (k : Int) + i + 1) → 0 ≤ b ∧ b ≤ k → 0 ≤ fs.foldl (fun b f => if f.kind = 67 then f.seq else b) b ∧ fs.foldl (fun b f => if f.kind = 67 then f.seq else b) b ≤ (k : Int) + fs.length
  | [], b, k, _, h => by simpa using h
  | f :: fs, b, k, hs, h => by
    have h0 := hs 0 (by simp)
    have h1 := cumGo_bound fs (if f.kind = 67 then f.seq else b) (k + 1) (fun i hi => by
      have := hs (i + 1) (by simpa using hi)
      simp only [List.getElem_cons_succ] at this
      rw [this]
      omega) (by
      simp only [List.getElem_cons_zero] at h0
      split <;> omega)
    rw [List.foldl_cons]
    simp only [List.length_cons]
    omega
theorem cumOf_bound (fs : List File) (h : ∀ i (h : i < fs.length), fs[i].seq = (i : Int) + 1) : 0 ≤ cumOf fs ∧ cumOf fs ≤ fs.length := by
  have := cumGo_bound fs 0 0 (fun i hi => by rw [h i hi]; omega) ⟨by decide, by decide⟩
  unfold cumOf
  omega
theorem FI.cumB {ps : List KV} {fs : List File} {rows : List Row} (h : FI ps fs rows) : 0 ≤ cumOf fs ∧ cumOf fs ≤ fs.length := cumOf_bound fs (fun i hi => (h.seq i hi).1)
/-- A command that issues no file. -/
theorem FI.same {ps : List KV} {fs : List File} {rows : List Row} {s : Stat} (h : FI ps fs rows) (hl : fs.length ≤ 1000000) (R : HR) (r : Req) (role : Int) (hs : statR ps = .ok s) (hw : OnlyU R.ws) (hst : R.st = s) (hn : 0 ≤ r.now ∧ r.now ≤ 157785119) (hm : s.lastMin ≤ r.now) : FI (applyW ps (wsAll R r role)) fs rows := by
  have hg : ∀ k : List Int, k.head? ≠ some 97 → k.head? ≠ some 115 → k.head? ≠ some 117 → getB (applyW ps (wsAll R r role)) k = getB ps k := fun k h1 h2 h3 => by
    rw [getB_ws h.kn R r role h1 h2, lastW_none]
    intro x hx e
    exact h3 (by rw [← e]; exact hw x hx)
  have g1 : ∀ k, getB (applyW ps (wsAll R r role)) (key1B 104 k) = getB ps (key1B 104 k) := fun k => hg _ (by rw [key1B_head]; decide) (by rw [key1B_head]; decide) (by rw [key1B_head]; decide)
  have g2 : ∀ k j, getB (applyW ps (wsAll R r role)) (key2B 99 k j) = getB ps (key2B 99 k j) := fun k j => hg _ (by rw [key2B_head]; decide) (by rw [key2B_head]; decide) (by rw [key2B_head]; decide)
  have g3 : ∀ k j, getB (applyW ps (wsAll R r role)) (key2B 114 k j) = getB ps (key2B 114 k j) := fun k j => hg _ (by rw [key2B_head]; decide) (by rw [key2B_head]; decide) (by rw [key2B_head]; decide)
  obtain ⟨s0, t1, t2, t3, t4⟩ := h.st
  rw [hs] at t1
  injection t1 with t1
  subst t1
  have hcb := h.cumB
  have hO : (stNext R.st r.now).Ok := by
    rw [hst]
    unfold stNext
    exact ⟨u32mod _, by dsimp only; rw [t2]; exact ⟨by omega, by omega⟩, by dsimp only; rw [t3]; exact ⟨by omega, by omega⟩, ⟨by dsimp only; omega, by dsimp only; omega⟩⟩
  refine ⟨h.kn.apply _, ⟨stNext R.st r.now, stat_ws h.kn R r role hO (by rw [hst, t2, t3]; omega) hn, by rw [hst]; exact t2, by rw [hst]; exact t3, fun f hf => by have := t4 f hf; show f.issued ≤ r.now; omega⟩, h.seq, h.mono, h.fok, h.cok, fun i hi => by rw [g1]; exact h.hdr i hi, fun i hi hk j hj => by rw [g2]; exact h.lin i hi hk j hj, fun k hk q => by rw [g1]; exact h.no k hk q, h.rel, h.cum, fun a b ha hb q => by rw [g3]; exact h.ptr0 a b ha hb q, fun y hy => ?_, fun p hp q => ?_, h.rise, h.rok⟩
  · obtain ⟨i, j, hi, hj, k1, k2, k3, k4⟩ := h.ptr1 y hy
    exact ⟨i, j, hi, hj, k1, k2, k3, by rw [g3]; exact k4⟩
  · rcases applyW_mem hp with hp | ⟨x, hx, -, rfl⟩
    · exact h.keys p hp q
    · exfalso
      unfold wsAll at hx
      rcases List.mem_append.1 hx with hx | hx
      · rcases List.mem_append.1 hx with hx | hx
        · rw [hw x hx] at q; injection q with q; omega
        · rw [List.mem_singleton.1 hx] at q
          have q : (key1B 97 _).head? = some 114 := q
          rw [key1B_head] at q
          injection q with q; omega
      · rw [List.mem_singleton.1 hx] at q
        have q : (key0B 115).head? = some 114 := q
        rw [key0B_head] at q
        injection q with q; omega

end Go.Proofs.Qxb6500666aGreatDoor
