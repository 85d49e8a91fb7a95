/- The audit trail grows by one per accepted command: what the law reads and keeps. -/
import Derived.Test.Qxb6500666aGreatDoorAudP
import Derived.Test.Qxb6500666aGreatDoorPermW
namespace Go.Proofs.Qxb6500666aGreatDoor
open Go.RowKit

/-- The entries behind a step. -/
theorem aud_step {rn kn : Nat → ByteArray} {w w' : World} {t : ST} {es : List Ent} {ro : Int → Option Int} {ac : Int → Option Bool} {o : Op} {x : Rsp} (h : AI t.ps es) (hu : UI t.ps ro ac) (hr : o.req.Ok) (hi : ∀ y ∈ o.req.list, U32 y) (hl : es.length ≤ 1000000) (ha : AnsP rn kn w w' t o x) :
    (accP o x = true → AI (stepR t o).ps (es ++ [⟨(es.length : Int) + 1, (ro o.req.user).getD 0, x.issued, o.req⟩])) ∧ (accP o x = false → AI (stepR t o).ps es) := by
  by_cases k : o.kind = 1
  · have ep : (stepR t o).ps = (exR t.ps t.full t.off t.lar t.low o.req).ps := by unfold stepR; rw [if_pos k]
    rw [ep]
    obtain ⟨r1, r2⟩ := ha.2 k
    cases hc : isCmd o.req.kind with
    | false =>
      have e1 : accP o x = false := by unfold accP; rw [hc]; simp
      rw [e1, (exR_rd hc).1]
      exact ⟨fun q => (by cases q), fun _ => h⟩
    | true =>
      have hrd : isRdg o.req.kind = false := by
        unfold isCmd at hc
        unfold isRdg
        simp at hc ⊢
        omega
      have ex := r2 (Or.inl hrd)
      have ec : x.code = (exR t.ps t.full t.off t.lar t.low o.req).c := by rw [ex]
      have ei : x.issued = (exR t.ps t.full t.off t.lar t.low o.req).iss := by rw [ex]
      by_cases z : (exR t.ps t.full t.off t.lar t.low o.req).c = 0
      · have e1 : accP o x = true := by unfold accP; rw [hc, ec, z, k]; rfl
        rw [e1]
        refine ⟨fun _ => ?_, fun q => (by cases q)⟩
        obtain ⟨role, hacc, hai⟩ := h.cmd hr hi hl hc z
        have hro : (ro o.req.user).getD 0 = role := by
          rcases hu.u o.req.user hr.user with ⟨-, u2⟩ | ⟨-, u2⟩
          · rw [u2] at hacc
            injection hacc with hacc
            injection hacc
          · rcases u2 with u2 | ⟨r, u2⟩
            · rw [u2] at hacc; cases hacc
            · rw [u2] at hacc
              injection hacc with hacc
              injection hacc with _ hacc
              cases hacc
        rw [hro, ei]
        exact hai
      · have e1 : accP o x = false := by unfold accP; rw [hc, ec]; simp [z]
        rw [e1, exR_same z]
        exact ⟨fun q => (by cases q), fun _ => h⟩
  · have e1 : accP o x = false := by unfold accP; simp [k]
    have ep : (stepR t o).ps = t.ps := by
      unfold stepR
      rw [if_neg k]
      split <;> rfl
    rw [e1, ep]
    exact ⟨fun q => (by cases q), fun _ => h⟩
theorem root_may22 (ps : List KV) : authR ps 1 22 = .ok 1 := rfl
theorem root_may23 (ps : List KV) : authR ps 1 23 = .ok 1 := rfl
theorem aud_stat {rn kn : Nat → ByteArray} {w w' : World} {ps : List KV} {es : List Ent} {full : Bool} {off lar : Int} {L : Low} {x : Rsp} (h : AI ps es) (hx : RspP rn kn w w' ps full off lar L (askReq 22 0 0) x) : x.st.entries = es.length := by
  have h1 := hx.1 rfl 1 (root_may22 ps)
  obtain ⟨s, t1, t2, -⟩ := h.st
  have e : rdX rn kn w w' ps L (askReq 22 0 0) = rd22X ps := by unfold rdX; simp [askReq]
  rw [e] at h1
  unfold rd22X at h1
  rw [t1] at h1
  have h1 : x = { rsp0 with st := s } := h1
  rw [h1]
  exact t2
theorem aud_none {rn kn : Nat → ByteArray} {w w' : World} {ps : List KV} {es : List Ent} {full : Bool} {off lar : Int} {L : Low} {x : Rsp} (h : AI ps es) (hl : es.length ≤ 1000000) (hx : RspP rn kn w w' ps full off lar L (askReq 23 ((es.length : Int) + 1) 0) x) : x.code = 24 := by
  have h1 := hx.1 rfl 1 (root_may23 ps)
  have e : rdX rn kn w w' ps L (askReq 23 ((es.length : Int) + 1) 0) = rd23X w w' ps (askReq 23 ((es.length : Int) + 1) 0) := by unfold rdX; simp [askReq]
  rw [e] at h1
  have e2 : entR ps (askReq 23 ((es.length : Int) + 1) 0).id = .error 24 := by
    show entR ps ((es.length : Int) + 1) = _
    unfold entR
    rw [h.no _ ⟨by omega, by omega⟩ (by omega)]
  unfold rd23X at h1
  rw [e2] at h1
  have h1 : x = { rsp0 with code := 24 } := h1
  rw [h1]
theorem aud_ent {rn kn : Nat → ByteArray} {w w' : World} {ps : List KV} {es : List Ent} {full : Bool} {off lar : Int} {L : Low} {x : Rsp} (h : AI ps es) (hp : es.length - 1 < es.length) (hx : RspP rn kn w w' ps full off lar L (askReq 23 (es.length : Int) 0) x) : x.en = es[es.length - 1] ∧ U32sAt w' (w.heap.size ≤ ·) (sv x.el) es[es.length - 1].req.list := by
  have h1 := hx.1 rfl 1 (root_may23 ps)
  have e : rdX rn kn w w' ps L (askReq 23 (es.length : Int) 0) = rd23X w w' ps (askReq 23 (es.length : Int) 0) := by unfold rdX; simp [askReq]
  rw [e] at h1
  have e2 : entR ps (askReq 23 (es.length : Int) 0).id = .ok es[es.length - 1] := by
    show entR ps (es.length : Int) = _
    have := h.ent (es.length - 1) hp
    rwa [show ((es.length - 1 : Nat) : Int) + 1 = (es.length : Int) by omega] at this
  unfold rd23X at h1
  rw [e2] at h1
  simp only [RV, Except.map] at h1
  obtain ⟨a, n, c, q1, q2⟩ := h1
  rw [q1]
  exact ⟨rfl, q2⟩

/-- What the law keeps between its steps. -/
structure AQ (w W : World) (B Rb M1 M2 n : Nat) (v : Value) (zs : List ZE) (t : ST) (ro : Int → Option Int) (ac : Int → Option Bool) : Prop where
  bx : BX w W (fun g => PK Rb M1 M2 g ∨ v.ownBlock = some g) t
  ra : RoAt W Rb M1 M2 n ro ac
  ai : AI t.ps (zs.map (·.1))
  own : OwnR W B 67 20 zeCs v zs
  zip : ZipE W (· < w.heap.size) zs
  sep : ∀ g, v.ownBlock = some g → g ≠ Rb ∧ g ≠ M1 ∧ g ≠ M2
theorem ZipE.low {w W W' : World} {zs : List ZE} (h : ZipE W (· < w.heap.size) zs) (h1 : Below w.heap.size w W) (h2 : Below w.heap.size w W') : ZipE W' (· < w.heap.size) zs :=
  fun z hz => RArr.mono (h z hz) (fun b hb => (h2.block b hb).trans (h1.block b hb).symm) (fun _ q => q)
section
variable {w W W' : World} {B Rb M1 M2 n : Nat} {v : Value} {zs : List ZE} {t : ST} {ro : Int → Option Int} {ac : Int → Option Bool}
theorem AQ.below (h : AQ w W B Rb M1 M2 n v zs t ro ac) (hb : Below W.heap.size W W') : AQ w W' B Rb M1 M2 n v zs t ro ac :=
  ⟨h.bx.below hb, h.ra.below hb, h.ai, h.own.below hb (Nat.le_refl _), h.zip.low h.bx.blw (h.bx.below hb).blw, h.sep⟩
/-- A question leaves it. -/
theorem AQ.asked (h : AQ w W B Rb M1 M2 n v zs t ro ac) (hx : BX w W' (fun g => PK Rb M1 M2 g ∨ v.ownBlock = some g) t) (hf : ∀ g, (PK Rb M1 M2 g ∨ v.ownBlock = some g) → W'.heap[g]? = W.heap[g]?) : AQ w W' B Rb M1 M2 n v zs t ro ac :=
  ⟨hx, h.ra.same (fun g q => hf g (Or.inl q)), h.ai, h.own.mono (fun g q => hf g (Or.inr q)), h.zip.low h.bx.blw hx.blw, h.sep⟩
/-- note leaves the rest. -/
theorem AQ.noted {ro' : Int → Option Int} {ac' : Int → Option Bool} {n' : Nat} (h : AQ w W B Rb M1 M2 n v zs t ro ac) (hn : NoteP W W' Rb M1 M2 n' ro' ac') (h1 : w.heap.size ≤ M1) (h2 : w.heap.size ≤ M2) : AQ w W' B Rb M1 M2 n' v zs t ro' ac' := by
  have hx : BX w W' (fun g => PK Rb M1 M2 g ∨ v.ownBlock = some g) t := h.bx.mine (fun b hb hk => hn.fr b hb (fun e => hk (Or.inl (Or.inr (Or.inl e)))) (fun e => hk (Or.inl (Or.inr (Or.inr e))))) hn.sz (h.bx.blw.trans (hn.bel w.heap.size h1 h2 h.bx.blw.size))
  exact ⟨hx, hn.at', h.ai, h.own.mono (fun g q => hn.fr g (h.own.block g q).2 (h.sep g q).2.1 (h.sep g q).2.2), h.zip.low h.bx.blw hx.blw, h.sep⟩
end
section
variable (ρ : Operand → Value) (dst : Option Tmp) (x : Operand) (ty : TypeId) (pos : String) (after : Array Edge) (guard : Option (Nat × Bool))
def fldS (t : TypeId) (k : Nat) (v : Value) : Sem Value := Instr.field t v k
theorem exec_fldRsp (k : Nat) : execOp ρ { dst, op := .field 75 x k, type := ty, pos, after, guard } = (do pure (.value (← fldS 75 k (ρ x)))) := by simp [execOp, fldS]
theorem exec_fldSt (k : Nat) : execOp ρ { dst, op := .field 65 x k, type := ty, pos, after, guard } = (do pure (.value (← fldS 65 k (ρ x)))) := by simp [execOp, fldS]
end
theorem run_fld4 (w : World) (r : Rsp) : (fldS 75 4 (.agg (respCs r))).run Tryz.prog w = .ok (.agg (statCs r.st)) w := by kernel_rfl
theorem run_fld0 (w : World) (r : Rsp) : (fldS 75 0 (.agg (respCs r))).run Tryz.prog w = .ok (.int .u8 r.code) w := by kernel_rfl
theorem run_fld5 (w : World) (r : Rsp) : (fldS 75 5 (.agg (respCs r))).run Tryz.prog w = .ok (.agg (entA r.en (sv r.el))) w := by kernel_rfl
theorem run_fldSt0 (w : World) (s : Stat) : (fldS 65 0 (.agg (statCs s))).run Tryz.prog w = .ok (.int .u32 s.entries) w := by kernel_rfl

end Go.Proofs.Qxb6500666aGreatDoor
