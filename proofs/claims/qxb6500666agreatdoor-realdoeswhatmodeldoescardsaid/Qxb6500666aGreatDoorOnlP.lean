/- The texts that the law puts to the parsers: bytes, and not too many. Plain. -/
import Derived.Test.Qxb6500666aGreatDoorChnW
import Derived.Test.Qxb6500666aGreatDoorCraE
import Derived.Test.Qxb6500666aGreatDoorRcnM
import Derived.Test.Qxb6500666aGreatDoorCumM
import Derived.Test.Qxb6500666aGreatDoorMTrQ
namespace Go.Proofs.Qxb6500666aGreatDoor
open Go.RowKit
theorem root_may30 (ps : List KV) : authR ps 1 30 = .ok 1 := by kernel_rfl
theorem trText_len {rn kn : Nat → ByteArray} {xs : List Ent} {t : List Int} (hr : ∀ k, (rn k).size ≤ 64) (hk : ∀ k, (kn k).size ≤ 64) (hok : ∀ x ∈ xs, x.Ok) (hl : xs.length ≤ 65536) (h : rtR rn kn xs = .ok t) : t.length ≤ 90000000 ∧ ByteL t := by
  unfold rtR at h
  split at h
  · rename_i hb
    injection h with h
    subst h
    refine ⟨?_, trail_bytes tr_bytes _⟩
    have hn : I64 (xs.length : Int) := ⟨by omega, by omega⟩
    have h1 := flatK_len (f := trLine rn kn) (k := 760) (l := xs) (fun x hx => by
      obtain ⟨p1, n, p2, p3⟩ := rtB_all hb x hx
      exact trLine_len hr hk (hok x hx) (by rw [p3]; unfold U32; omega) p1)
    have h2 := fld_len hn
    have h3 := trailText_len (bs := trHead xs.length ++ flatL (trLine rn kn) xs) hn
    have h4 : (trHead (xs.length : Int)).length ≤ 40 := by
      unfold trHead
      simp only [List.length_append, List.length_cons, List.length_nil]
      omega
    rw [List.length_append] at h3
    unfold trText
    omega
  · cases h
theorem fileText_le {k s i b : Int} {cs : List Change} (hF : FileOk k s i b cs) (hs : U32 s) (hi : I64 i) (hb : U32 b) (hok : ∀ c ∈ cs, c.Ok) (hl : cs.length ≤ 65536) : (fileText k s i b cs).length ≤ 90000000 ∧ ByteL (fileText k s i b cs) := by
  refine ⟨?_, trail_bytes (body_bytes hF) _⟩
  have hn : I64 (cs.length : Int) := ⟨by omega, by omega⟩
  have k1 := fld_len hs.i64
  have k2 := fld_len hi
  have k3 := fld_len hb.i64
  have k4 := fld_len hn
  have h3 := flatK_len (f := rowText) (k := 275) (l := cs) (fun c hc => rowText_len (hok c hc))
  have h4 := trailText_len (bs := bodyText k s i b cs) hn
  have h5 : (headText k s i b (cs.length : Int)).length ≤ 120 := by
    unfold headText
    simp only [List.length_append, List.length_cons, List.length_nil]
    omega
  unfold fileText
  have h6 : (bodyText k s i b cs).length = (headText k s i b cs.length).length + (flatL rowText cs).length := by unfold bodyText linesText; rw [List.length_append]
  omega
section
variable {rn kn : Nat → ByteArray} {w w' : World} {ps : List KV} {full : Bool} {off lar : Int} {L : Low} {x : Rsp} {fs : List File} {rows : List Row} {es : List Ent}
/-- A text that the law may put to the parsers. -/
def TxB (w w' : World) (v : Value) : Prop := ∃ bs, BytesAt w' (w.heap.size ≤ ·) v bs ∧ ByteL bs ∧ bs.length ≤ 90000000
theorem TxB.nil (w w' : World) : TxB w w' (.slice none 0 0) := ⟨[], RArr.nil _ _ _ _, (fun d hd => by cases hd), by simp⟩
theorem TxB.below {w2 : World} {v : Value} (h : TxB w w' v) (hb : Below w'.heap.size w' w2) : TxB w w2 v := by
  obtain ⟨bs, h1, h2, h3⟩ := h
  exact ⟨bs, RArr.below h1 hb, h2, h3⟩
theorem ask_trailB (hx : RspP rn kn w w' ps full off lar L (askReq 30 0 0) x) (hr : ∀ k, (rn k).size ≤ 64) (hk : ∀ k, (kn k).size ≤ 64) (hA : AI ps es) (hl : es.length ≤ 65536) (hp : PsOk ps) : TxB w w' (sv x.bytes) := by
  have h1 := hx.1 rfl 1 (root_may30 ps)
  have e : rdX rn kn w w' ps L (askReq 30 0 0) = trailX rn kn w w' ps := by unfold rdX; simp [askReq, rd30X]
  rw [e] at h1
  unfold trailX at h1
  rw [hA.trail] at h1
  have hok := (trailR_ok hp hA.trail).1
  simp only at h1
  cases hR : rtR rn kn es with
  | error c =>
    rw [hR] at h1
    have h1 : x = { rsp0 with code := c } := h1
    rw [h1]
    exact TxB.nil _ _
  | ok t =>
    rw [hR] at h1
    obtain ⟨a, n, c, rfl, ho⟩ := h1
    have h2 := trText_len hr hk hok hl hR
    exact ⟨t, ho.rows byteCs_size (by decide) (by omega), h2.2, h2.1⟩
theorem ask_repB {j : Nat} (hx : RspP rn kn w w' ps full off lar L (askReq 28 0 (j : Int)) x) (h : FI ps fs rows) (hl : fs.length ≤ 65536) (hj : j ≤ fs.length) (hr : ∀ f ∈ file0 :: fs, FR f) (hc : ∀ f ∈ fs, f.changes.length ≤ 65536) : TxB w w' (sv x.bytes) := by
  have hx0 : RspP rn kn w w' ps full off lar L (askReq 28 ((0 : Nat) : Int) (j : Int)) x := hx
  by_cases hb : badP fs 0 j
  · obtain ⟨c, -, rfl⟩ := ask_bad hx0 h (by omega) (by omega) hj hb
    exact TxB.nil _ _
  · have hj2 : j < (file0 :: fs).length := by simp; omega
    obtain ⟨hlt, hC, a, n, c, a', n', c', rfl, h1, h2⟩ := ask_good hx0 h (by omega) (by simp) hj2 hb hr
    have hlen := reconcile_len (rowsF (file0 :: fs)[0]) (rowsF (file0 :: fs)[j])
    have hrl : (rowsF (file0 :: fs)[j]).length ≤ 65536 := by
      have hm := List.getElem_mem hj2
      have : (file0 :: fs)[j].changes.length ≤ 65536 := by
        rcases List.mem_cons.1 hm with e | e
        · rw [e]; decide
        · exact hc _ e
      unfold rowsF
      rw [List.length_map]
      exact this
    have hr0 : (rowsF (file0 :: fs)[0]).length = 0 := rfl
    have hd : ∀ d ∈ reconcile (rowsF (file0 :: fs)[0]) (rowsF (file0 :: fs)[j]), Diff.Ok d := fun d hd => rec_okD (hr _ (List.getElem_mem (by simp))).rise (hr _ (List.getElem_mem hj2)).rise (hr _ (List.getElem_mem (by simp))).ok (hr _ (List.getElem_mem hj2)).ok hd
    have ht := repText_len (ea := ((0 : Nat) : Int)) (la := (j : Int)) (ds := reconcile (rowsF (file0 :: fs)[0]) (rowsF (file0 :: fs)[j])) ⟨by omega, by omega⟩ ⟨by omega, by omega⟩ hd (by omega)
    exact ⟨_, h2.rows byteCs_size (by decide) (by omega), trail_bytes (rep_bytes hC) _, ht⟩
theorem fileB_tx (h : FI ps fs rows) (hl : fs.length ≤ 65536) (hc : ∀ f ∈ fs, f.changes.length ≤ 65536) {seq : Int} (hs : U32 seq) : (∃ c, fbR ps seq = .error c) ∨ ∃ t, fbR ps seq = .ok t ∧ ByteL t ∧ t.length ≤ 90000000 := by
  by_cases h0 : seq = 0 ∨ (fs.length : Int) < seq
  · exact Or.inl ⟨23, h.fbNo hs h0⟩
  · obtain ⟨i, hi⟩ : ∃ i : Nat, seq = (i : Int) + 1 := ⟨(seq - 1).toNat, by have := hs.1; omega⟩
    have hi2 : i < fs.length := by omega
    have hm := List.getElem_mem hi2
    have hk := h.fk (by omega) hc _ hm
    have h1 := h.fbR (by omega) hi2
    have h2 := fileText_le (h.fok _ hm) hk.s hk.i hk.b (h.cok _ hm) (hc _ hm)
    exact Or.inr ⟨_, by rw [hi]; exact h1, h2.2, h2.1⟩
end
end Go.Proofs.Qxb6500666aGreatDoor
