/- The audit trail grows by one per accepted command: the plain law. -/
import Derived.Test.Qxb6500666aGreatDoorSameF
namespace Go.Proofs.Qxb6500666aGreatDoor
open Go.RowKit

theorem rdIds_enc : ∀ (ids acc : List Int), (∀ x ∈ ids, U32 x) → rdIds ids.length ⟨idsT ids, false⟩ acc = (acc ++ ids, ⟨[], false⟩)
  | [], acc, _ => by simp [rdIds, idsT]
  | x :: r, acc, h => by
    have e : idsT (x :: r) = d256 4 x ++ idsT r := rfl
    rw [e]
    show rdIds r.length (rdDig 4 ⟨d256 4 x ++ idsT r, false⟩).2 (acc ++ [(rdDig 4 ⟨d256 4 x ++ idsT r, false⟩).1]) = _
    rw [rdDig4 (idsT r) (h x (by simp))]
    dsimp only
    rw [rdIds_enc r _ (fun y hy => h y (by simp [hy]))]
    simp
set_option maxRecDepth 100000 in
theorem readReq_enc {r : Req} (hr : r.Ok) (hi : ∀ x ∈ r.list, U32 x) (hl : r.list.length ≤ 12) : readReq ⟨reqB r, false⟩ = ((r, isCmd r.kind), ⟨[], false⟩) := by
  have eb : reqB r = d256 1 r.kind ++ (d256 4 r.user ++ (i64B r.now ++ (d256 4 r.id ++ (d256 4 r.ref ++ (d256 4 r.kit ++ (d256 4 r.subject ++ (d256 4 r.visit ++ (d256 1 r.role ++ (d256 1 r.cls ++ (i64B r.time ++ (i64B r.till ++ (i64B r.value ++ (i64B r.l0 ++ (i64B r.l1 ++ (i64B r.l2 ++ (d256 1 (r.list.length : Int) ++ idsT r.list)))))))))))))))) := by
    simp only [reqB, reqHeadB, limB, List.append_assoc]
  have a1 := fun rest => rdDig1 (n := r.kind) rest hr.kind
  have a2 := fun rest => rdDig4 (n := r.user) rest hr.user
  have a3 := fun rest => rdI64_enc (n := r.now) rest hr.now
  have a4 := fun rest => rdDig4 (n := r.id) rest hr.id
  have a5 := fun rest => rdDig4 (n := r.ref) rest hr.ref
  have a6 := fun rest => rdDig4 (n := r.kit) rest hr.kit
  have a7 := fun rest => rdDig4 (n := r.subject) rest hr.subject
  have a8 := fun rest => rdDig4 (n := r.visit) rest hr.visit
  have a9 := fun rest => rdDig1 (n := r.role) rest hr.role
  have a10 := fun rest => rdDig1 (n := r.cls) rest hr.cls
  have a11 := fun rest => rdI64_enc (n := r.time) rest hr.time
  have a12 := fun rest => rdI64_enc (n := r.till) rest hr.till
  have a13 := fun rest => rdI64_enc (n := r.value) rest hr.value
  have a14 := fun rest => rdI64_enc (n := r.l0) rest hr.l0
  have a15 := fun rest => rdI64_enc (n := r.l1) rest hr.l1
  have a16 := fun rest => rdI64_enc (n := r.l2) rest hr.l2
  have a17 := fun rest => rdDig1 (n := (r.list.length : Int)) rest ⟨by omega, by omega⟩
  rw [eb]
  unfold readReq
  dsimp only
  rw [a1]
  dsimp only
  rw [a2]
  dsimp only
  rw [a3]
  dsimp only
  rw [a4]
  dsimp only
  rw [a5]
  dsimp only
  rw [a6]
  dsimp only
  rw [a7]
  dsimp only
  rw [a8]
  dsimp only
  rw [a9]
  dsimp only
  rw [a10]
  dsimp only
  rw [a11]
  dsimp only
  rw [a12]
  dsimp only
  rw [a13]
  dsimp only
  rw [a14]
  dsimp only
  rw [a15]
  dsimp only
  rw [a16]
  dsimp only
  rw [a17]
  dsimp only
  rw [if_neg (by simp; omega), Int.toNat_natCast, rdIds_enc _ _ hi]
  simp
theorem decEnt_enc {seq role iss : Int} {r : Req} (h1 : roleOk role = true) (h2 : U32 iss) (hr : r.Ok) (hi : ∀ x ∈ r.list, U32 x) (hl : r.list.length ≤ 12) (hc : isCmd r.kind = true) : decEnt seq (entB role iss r) = some ⟨seq, role, iss, r⟩ := by
  have e1 := rdDig1 (d256 4 iss ++ reqB r) (roleOk_u8 h1)
  have e2 := rdDig4 (reqB r) h2
  unfold decEnt entB
  dsimp only
  rw [List.append_assoc, e1]
  dsimp only
  rw [e2]
  dsimp only
  rw [readReq_enc hr hi hl]
  dsimp only
  rw [hc, h1]
  rfl

/-- No write goes to an entry or to the counts. -/
def NoA (ws : List WR) : Prop := ∀ x ∈ ws, x.1.1.head? ≠ some 97 ∧ x.1.1.head? ≠ some 115
theorem NoA.nil : NoA [] := fun _ h => by cases h
theorem incW_noa (seq : Int) : ∀ (cs : List Change) (i : Nat), NoA (incW seq i cs)
  | [], _ => NoA.nil
  | c :: cs, i => by
    intro x hx
    unfold incW at hx
    rcases List.mem_cons.mp hx with e | hx
    · rw [e]; exact ⟨by show some _ ≠ some _; decide, by show some _ ≠ some _; decide⟩
    · rcases List.mem_cons.mp hx with e | hx
      · rw [e]; unfold ptrW; split <;> exact ⟨by show some _ ≠ some _; decide, by show some _ ≠ some _; decide⟩
      · exact incW_noa seq cs (i + 1) x hx
theorem ite_a {p : Prop} [Decidable p] {a b : HR} (h1 : NoA a.ws) (h2 : NoA b.ws) : NoA (if p then a else b).ws := by
  split
  · exact h1
  · exact h2
theorem NoA.one {k v : List Int} {b : Bool} (h : k.head? ≠ some 97 ∧ k.head? ≠ some 115) : NoA [((k, v), b)] := fun x hx => by rw [List.mem_singleton.mp hx]; exact h
theorem addUserR_noa (ps : List KV) (r : Req) : NoA (addUserR ps r).2 := by
  unfold addUserR
  split
  · exact NoA.nil
  · split
    · exact NoA.nil
    · split
      · exact NoA.nil
      · split
        · exact NoA.one ⟨by rw [key1B_head]; decide, by rw [key1B_head]; decide⟩
        · exact NoA.nil
theorem revokeR_noa (ps : List KV) (r : Req) : NoA (revokeR ps r).2 := by
  unfold revokeR
  split
  · exact NoA.nil
  · split
    · exact NoA.nil
    · split
      · exact NoA.nil
      · exact NoA.one ⟨by rw [key1B_head]; decide, by rw [key1B_head]; decide⟩
theorem incR_noa (ps : List KV) (L : Low) (now : Int) (s : Stat) (iss : Int) : NoA (incR ps L now s iss).2.2.2 := by
  unfold incR
  split
  · exact NoA.nil
  · split
    · intro x hx
      rcases List.mem_cons.mp hx with e | hx
      · rw [e]; exact ⟨by rw [key1B_head]; decide, by rw [key1B_head]; decide⟩
      · exact incW_noa _ _ _ x hx
    · exact NoA.nil
theorem cumR_noa (ps : List KV) (L : Low) (now : Int) (s : Stat) (iss : Int) : NoA (cumR ps L now s iss).2.2.2 := by
  unfold cumR
  split
  · exact NoA.nil
  · split
    · exact NoA.nil
    · split
      · exact NoA.nil
      · split
        · exact NoA.one ⟨by rw [key1B_head]; decide, by rw [key1B_head]; decide⟩
        · exact NoA.nil
theorem handR_noa (ps : List KV) (L : Low) (s : Stat) (r : Req) : NoA (handR ps L s r).ws := by
  unfold handR
  refine ite_a (addUserR_noa ps r) (ite_a (revokeR_noa ps r) ?_)
  iterate 16 refine ite_a NoA.nil ?_
  exact ite_a (incR_noa _ _ _ _ _) (cumR_noa _ _ _ _ _)
/-- What a handler does to the counts. -/
def StN (s s' : Stat) : Prop := s' = s ∨ s' = { s with transfers := (s.transfers + 1) % 4294967296 } ∨ s' = { s with transfers := (s.transfers + 1) % 4294967296, lastCum := (s.transfers + 1) % 4294967296 }
theorem ite_s {p : Prop} [Decidable p] {a b : HR} {s : Stat} (h1 : StN s a.st ∧ U32 a.iss) (h2 : StN s b.st ∧ U32 b.iss) : StN s (if p then a else b).st ∧ U32 (if p then a else b).iss := by
  split
  · exact h1
  · exact h2
theorem u32mod (x : Int) : U32 (x % 4294967296) := ⟨by omega, by omega⟩
theorem handR_stn (ps : List KV) (L : Low) (s : Stat) (r : Req) : StN s (handR ps L s r).st ∧ U32 (handR ps L s r).iss := by
  unfold handR
  iterate 18 refine ite_s ⟨Or.inl rfl, u32z⟩ ?_
  refine ite_s ?_ ?_
  · dsimp only
    unfold incR
    split
    · exact ⟨Or.inl rfl, u32z⟩
    · split
      · exact ⟨Or.inr (Or.inl rfl), u32mod _⟩
      · exact ⟨Or.inl rfl, u32z⟩
  · dsimp only
    unfold cumR
    split
    · exact ⟨Or.inl rfl, u32z⟩
    · split
      · exact ⟨Or.inl rfl, u32z⟩
      · split
        · exact ⟨Or.inl rfl, u32z⟩
        · split
          · exact ⟨Or.inr (Or.inr rfl), u32mod _⟩
          · exact ⟨Or.inl rfl, u32z⟩

/-- The entries in the store are those that the law has kept. -/
structure AI (ps : List KV) (es : List Ent) : Prop where
  kn : KN ps
  st : ∃ s, statR ps = .ok s ∧ s.entries = es.length ∧ 0 ≤ s.transfers ∧ s.transfers ≤ es.length ∧ 0 ≤ s.lastCum ∧ s.lastCum ≤ s.transfers
  ent : ∀ i (h : i < es.length), entR ps ((i : Int) + 1) = .ok es[i]
  no : ∀ k, U32 k → (es.length : Int) < k → getB ps (key1B 97 k) = none
theorem AI.start : AI [] [] := ⟨KN.nil, ⟨⟨0, 0, 0, 0⟩, rfl, rfl, by decide, by decide, by decide, by decide⟩, fun i h => by simp at h, fun k _ _ => rfl⟩
theorem last_a (R : HR) (hn : NoA R.ws) (r : Req) (role k : Int) (d : Option (List Int)) (hk : U32 k) (he : U32 (stNext R.st r.now).entries) : lastW (wsAll R r role) (key1B 97 k) d = if k = (stNext R.st r.now).entries then some (entB role R.iss r) else d := by
  unfold wsAll
  rw [lastW_app, lastW_app]
  rw [lastW_none (ws := [((key0B 115, statB (stNext R.st r.now)), false)])]
  · rw [lastW_none (ws := R.ws) (fun x hx q => (hn x hx).1 (by rw [q]; rfl))]
    by_cases e : k = (stNext R.st r.now).entries
    · rw [if_pos e, e, lastW_hit]
    · rw [if_neg e, lastW_none]
      intro x hx
      rw [List.mem_singleton.mp hx]
      exact fun q => e (key1B_inj he hk q).symm
  · intro x hx
    rw [List.mem_singleton.mp hx]
    exact head_ne (key0B_head _) (key1B_head _ _) (by decide)
theorem authR_role {ps : List KV} {u k role : Int} (h : authR ps u k = .ok role) : roleOk role = true ∧ accR ps u = .ok (role, true) := by
  unfold authR at h
  split at h
  · split at h <;> cases h
  · rename_i a ha
    split at h
    · cases h
    · rename_i h1
      split at h
      · cases h
      · injection h with h
        obtain ⟨r, b⟩ := a
        dsimp only at h h1
        subst h
        have hb : b = true := by simpa using h1
        subst hb
        refine ⟨?_, ha⟩
        by_cases hu : u = 1
        · subst hu
          have : accR ps 1 = .ok (1, true) := rfl
          rw [this] at ha
          injection ha with ha
          injection ha with ha
          rw [← ha]
          rfl
        · exact accR_roleU hu ha
/-- The entries behind an accepted command. -/
theorem AI.cmd {ps : List KV} {es : List Ent} {full : Bool} {off lar : Int} {L : Low} {r : Req} (h : AI ps es) (hr : r.Ok) (hi : ∀ x ∈ r.list, U32 x) (hl : es.length ≤ 1000000) (hk : isCmd r.kind = true) (hc : (exR ps full off lar L r).c = 0) :
    ∃ role, accR ps r.user = .ok (role, true) ∧ AI (exR ps full off lar L r).ps (es ++ [⟨(es.length : Int) + 1, role, (exR ps full off lar L r).iss, r⟩]) := by
  obtain ⟨role, s, ha, hs, hnow, -, hl12, h5, -, -, e⟩ := exR_acc hk hc
  rw [e]
  dsimp only
  clear hc e
  obtain ⟨hrole, hacc⟩ := authR_role ha
  refine ⟨role, hacc, ?_⟩
  obtain ⟨s0, t1, t2, t3, t4, t5, t6⟩ := h.st
  rw [hs] at t1
  injection t1 with t1
  subst t1
  obtain ⟨hst, hiss⟩ := handR_stn ps L s r
  have hnoa := handR_noa ps L s r
  have hent := handR_entries ps L s r
  generalize handR ps L s r = R at *
  have hE : (stNext R.st r.now).entries = (es.length : Int) + 1 := by
    unfold stNext
    dsimp only
    rw [hent, t2]
    omega
  have hEU : U32 (stNext R.st r.now).entries := by rw [hE]; exact ⟨by omega, by omega⟩
  have hg : ∀ k, U32 k → getB (applyW ps (wsAll R r role)) (key1B 97 k) = if k = (es.length : Int) + 1 then some (entB role R.iss r) else getB ps (key1B 97 k) := fun k hk => by
    rw [getB_apply _ h.kn, last_a R hnoa r role k _ hk hEU, hE]
  refine ⟨h.kn.apply _, ?_, fun i hi' => ?_, fun k hk2 hlt => ?_⟩
  · have hsb : getB (applyW ps (wsAll R r role)) (key0B 115) = some (statB (stNext R.st r.now)) := by
      rw [getB_apply _ h.kn]
      unfold wsAll
      rw [lastW_app, lastW_hit]
    have hq : (stNext R.st r.now).Ok ∧ (stNext R.st r.now).lastCum ≤ (stNext R.st r.now).transfers ∧ inCal (stNext R.st r.now).lastMin = true ∧ 0 ≤ (stNext R.st r.now).transfers ∧ (stNext R.st r.now).transfers ≤ (es.length : Int) + 1 ∧ 0 ≤ (stNext R.st r.now).lastCum := by
      have hcal : inCal r.now = true := by unfold inCal; simp; omega
      have hmod : (s.transfers + 1) % 4294967296 = s.transfers + 1 := by omega
      have hm : (s.entries + 1) % 4294967296 = (es.length : Int) + 1 := by rw [t2]; omega
      obtain ⟨T, C, eS, b1, b2, b3, b4⟩ : ∃ T C, stNext R.st r.now = ⟨(es.length : Int) + 1, T, C, r.now⟩ ∧ 0 ≤ T ∧ T ≤ (es.length : Int) + 1 ∧ 0 ≤ C ∧ C ≤ T := by
        rcases hst with hst | hst | hst
        · exact ⟨s.transfers, s.lastCum, by rw [hst]; unfold stNext; rw [hm], by omega, by omega, by omega, by omega⟩
        · exact ⟨s.transfers + 1, s.lastCum, by rw [hst]; unfold stNext; dsimp only; rw [hm, hmod], by omega, by omega, by omega, by omega⟩
        · exact ⟨s.transfers + 1, s.transfers + 1, by rw [hst]; unfold stNext; dsimp only; rw [hm, hmod], by omega, by omega, by omega, by omega⟩
      rw [eS]
      exact ⟨⟨⟨by dsimp only; omega, by dsimp only; omega⟩, ⟨by dsimp only; omega, by dsimp only; omega⟩, ⟨by dsimp only; omega, by dsimp only; omega⟩, hr.now⟩, b4, hcal, b1, b2, b3⟩
    refine ⟨stNext R.st r.now, ?_, by rw [hE]; simp, hq.2.2.2.1, by simpa using hq.2.2.2.2.1, hq.2.2.2.2.2, hq.2.1⟩
    unfold statR
    rw [hsb]
    dsimp only
    rw [decStat_enc hq.1 hq.2.1 hq.2.2.1]
    rfl
  · have hik : i < es.length + 1 := by simpa using hi'
    have hu : U32 ((i : Int) + 1) := ⟨by omega, by omega⟩
    unfold entR
    rw [hg _ hu]
    by_cases e : i = es.length
    · subst e
      rw [if_pos rfl]
      dsimp only
      rw [decEnt_enc hrole hiss hr hi hl12 hk]
      simp [ofOpt]
    · rw [if_neg (by omega)]
      have := h.ent i (by omega)
      unfold entR at this
      rw [this, List.getElem_append_left (by omega)]
  · have hll : (es.length : Int) + 1 < k := by simpa using hlt
    rw [hg k hk2, if_neg (by omega)]
    exact h.no k hk2 (by omega)
theorem trGo_all {ps : List KV} {es : List Ent} (h : ∀ i (h : i < es.length), entR ps ((i : Int) + 1) = .ok es[i]) : ∀ k j, j + k = es.length → trGo ps k (j + 1) (es.take j) = some es
  | 0, j, e => by
    show some (es.take j) = some es
    rw [List.take_of_length_le (by omega)]
  | k + 1, j, e => by
    have hj : j < es.length := by omega
    have h1 := h j hj
    unfold trGo
    have hc : ((j + 1 : Nat) : Int) = (j : Int) + 1 := by omega
    rw [hc, h1]
    dsimp only
    rw [← List.take_succ_eq_append_getElem hj]
    exact trGo_all h k (j + 1) (by omega)
theorem AI.trail {ps : List KV} {es : List Ent} (h : AI ps es) : trailR ps = some es := by
  obtain ⟨s, t1, t2, -⟩ := h.st
  unfold trailR
  rw [t1]
  dsimp only
  rw [t2, Int.toNat_natCast]
  have := trGo_all h.ent es.length 0 (by omega)
  simpa using this

end Go.Proofs.Qxb6500666aGreatDoor
