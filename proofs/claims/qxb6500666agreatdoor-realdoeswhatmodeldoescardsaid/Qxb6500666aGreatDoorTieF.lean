/- What the model keeps follows from what the real layer keeps. Plain. -/
import Derived.Test.Qxb6500666aGreatDoorTieE
import Derived.Test.Qxb6500666aGreatDoorRcnM
namespace Go.Proofs.Qxb6500666aGreatDoor
open Go.RowKit
theorem mIss_at {m : Mod} {seq : Int} {f : File} (hs : U32 seq) (h : mIss m seq = some f) : ∃ i, ∃ hi : i < m.fs.length, m.fs[i] = f ∧ seq = (i : Int) + 1 := by
  unfold mIss at h
  split at h
  · cases h
  · rename_i hn
    have h0 := hs.1
    obtain ⟨hi, e⟩ := List.getElem?_eq_some_iff.1 h
    exact ⟨_, hi, e, by omega⟩
theorem mIss_of {m : Mod} {i : Nat} (hi : i < m.fs.length) : mIss m ((i : Int) + 1) = some m.fs[i] := by
  unfold mIss
  rw [if_neg (by omega), show ((i : Int) + 1 - 1).toNat = i by omega, List.getElem?_eq_getElem hi]
theorem mIss_no {m : Mod} {k : Int} (h : k = 0 ∨ (m.fs.length : Int) < k) : mIss m k = none := by
  unfold mIss
  rw [if_pos h]
theorem FR.iss {q : Nat} {t : ST} {m : Mod} {rows : List Row} (h : TJ q t m rows) {seq : Int} {f : File} (hs : U32 seq) (hf : mIss m seq = some f) : FR f := by
  obtain ⟨i, hi, e, -⟩ := mIss_at hs hf
  rw [← e]
  exact FR.of h.fi hi
theorem FR.from {q : Nat} {t : ST} {m : Mod} {rows : List Row} (h : TJ q t m rows) {id : Int} {f : File} (hs : U32 id) (hf : mFrom m id = some f) : FR f := by
  unfold mFrom at hf
  split at hf
  · injection hf with hf
    rw [← hf]
    exact FR.zero
  · exact FR.iss h hs hf
theorem TJ.minv {q : Nat} {t : ST} {m : Mod} {rows : List Row} (h : TJ q t m rows) (hq : q ≤ 65536) (hi : Inv q t) (hu : SU t.low.sm) : MInv m := by
  have hp := hi.po hq
  have hfl := h.fl
  have hal := h.al
  have hul := h.ul
  obtain ⟨vf, lf, hci⟩ := h.ci
  refine ⟨by rw [h.low]; exact hp.small, by rw [h.low]; exact hp.times, by rw [h.low]; exact hu, by omega, by omega, by omega, hci.cl, ?_, ?_, h.eo, ?_⟩
  · rw [mrl_len h.fi]
    have h1 := hci.rowsLen
    have h2 := hi.low.sm.b
    omega
  · intro f hf
    obtain ⟨i, hi', rfl⟩ := List.mem_iff_getElem.1 hf
    obtain ⟨n1, n2, n3, n4, -⟩ := h.fi.nums (by omega) hi'
    exact ⟨h.fi.fok _ hf, n2, n3, n4, h.fi.cok _ hf⟩
  · intro id ref hid href fe fl hfe hfl' k1 k2 hlt
    have f1 := FR.from h hid hfe
    have f2 := FR.iss h href hfl'
    have e : mDiffs (fe.changes.map (·.row)) (fl.changes.map (·.row)) = reconcile (rowsF fe) (rowsF fl) := mDiffs_eq f1.rise f2.rise
    rw [e]
    exact ⟨rpC_rec hlt f1.rise f2.rise f1.ok f2.ok, fun d hd => rec_okD f1.rise f2.rise f1.ok f2.ok hd⟩
end Go.Proofs.Qxb6500666aGreatDoor
