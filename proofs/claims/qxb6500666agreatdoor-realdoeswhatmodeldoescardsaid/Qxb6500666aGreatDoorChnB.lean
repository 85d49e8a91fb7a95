/- A file of the bench's, fetched and parsed. -/
import Derived.Test.Qxb6500666aGreatDoorFilR
import Derived.Test.Qxb6500666aGreatDoorAskB
import Derived.Test.Qxb6500666aGreatDoorParseWalk
import Derived.Test.Qxb6500666aGreatDoorTextLen
import Derived.Test.Qxb6500666aGreatDoorStXC
namespace Go.Proofs.Qxb6500666aGreatDoor
open Go.RowKit

theorem data_of_own {w : World} {B : Nat} {v : Value} {bs : List Int} (h : OwnR w B 5 1 byteCs v bs) (hp : 0 < bs.length) (hl : bs.length ≤ 140737488355328) : ∃ b c, v = .slice (some ⟨b, 0, none⟩) bs.length c ∧ DataAt w b 0 bs.length c bs := by
  have hB : BytesAt w (B ≤ ·) v bs := h.rows byteCs_size (by decide) hl
  rcases h.2 with ⟨_, h0⟩ | ⟨g, cap, cur, rfl, hg, hh, hc, hm, _⟩
  · omega
  · obtain ⟨a1, c1, b1, o1, hv, _, _, _, ha, hcell⟩ := hB
    injection hv with v1 v2 v3
    have := (ha hp).1
    rw [← v1] at this
    injection this with this
    injection this with t1 t2
    subst t1 t2
    exact ⟨g, cap, rfl, ⟨(Array.getElem?_eq_some_iff.1 hh).1, ⟨hc, hm⟩, rfl, hl, fun t ht => (by have := (rng_cell (hcell t ht)).2 0 (by decide); simpa [byteCs] using this)⟩⟩
theorem fileText_pos (k s i b : Int) (cs : List Change) : 0 < (fileText k s i b cs).length := by
  unfold fileText trailText
  simp only [List.length_append, List.length_cons, List.length_nil]
  omega
/-- The bench's system hands out a file. -/
theorem BX.fileB {w W : World} {K : Nat → Prop} {t : ST} (h : BX w W K t) (hp : PO t.ps t.low) {seq : Int} (hs : U32 seq) : ∃ Y, W.heap[w.heap.size + 2]? = some (.cells #[.pointer (some ⟨w.heap.size, 0, none⟩), .pointer (some ⟨w.heap.size + 1, 0, none⟩), .pointer (some ⟨Y, 0, none⟩)] 88 (0, 0)) ∧
    ∀ W', Below W.heap.size W W' → Calls Tryz.prog 32 #[.pointer (some ⟨Y, 0, none⟩), .int .u32 seq] W' fun e w' => OwnX W' w' 5 1 byteCs e (fbR t.ps seq) := by
  obtain ⟨Y, pv, A, ok, zs, x, h1, h2, h3, h4⟩ := h
  refine ⟨Y, h1.bn, fun W' hb => ?_⟩
  have hsy := (h1.bs.toSys (by rw [h2]; exact hp)).below hb
  have hpl : zs.length ≤ 4000000 := by have := hp.plen; rw [← h2, List.length_map] at this; omega
  have := sysFile_callsX W' Y _ _ _ _ _ seq hsy.sys hsy.st hsy.pk (by rw [List.length_map]; exact hpl) hs
  rwa [h2] at this
/-- A rendered file parses back. -/
theorem parse_own {W : World} {B : Nat} {v : Value} {k s i bb : Int} {cs : List Change} (h : OwnR W B 5 1 byteCs v (fileText k s i bb cs)) (hF : FileOk k s i bb cs) (hk : U8 k) (hs : U32 s) (hi : I64 i) (hb : U32 bb) (hok : ∀ c ∈ cs, c.Ok) (hlen : cs.length ≤ 65536) :
    ∃ a n c, v = .slice a n c ∧ ∀ W', Below W.heap.size W W' → Calls Tryz.prog 33 #[.slice a n c] W' fun e w' => ∃ a cap', e = .returned (.tuple #[.agg (fileCs k s i bb a cs.length cap'), .nilIface]) ∧ ChangesAt w' (fun _ => True) (.slice a cs.length cap') cs ∧ Below W'.heap.size W' w' := by
  have hl := fileText_len (k := k) hs hi hb hok (show cs.length ≤ 80000000 by omega)
  obtain ⟨b, c, e, hD⟩ := data_of_own h (fileText_pos _ _ _ _ _) (by omega)
  refine ⟨_, _, _, e, fun W' hW => ?_⟩
  obtain ⟨b', c', e', hD'⟩ := data_of_own (h.below hW (Nat.le_refl _)) (fileText_pos _ _ _ _ _) (by omega)
  rw [e] at e'
  injection e' with e1 e2 e3
  injection e1 with e1
  injection e1 with e1
  subst e1 e3
  exact parse_calls W' b 0 _ c k s i bb cs hD' hF hk hs hi hb hok hlen
theorem FI.fileAt {ps : List KV} {fs : List File} {rows : List Row} (h : FI ps fs rows) (hl : fs.length ≤ 1000000) {i : Nat} (hi : i < fs.length) (hcl : fs[i].changes.length ≤ 65536) {W : World} {B : Nat} {v : Value} (ho : OwnR W B 5 1 byteCs v (fileText fs[i].kind fs[i].seq fs[i].issued fs[i].base fs[i].changes)) :
    ∃ a n c, v = .slice a n c ∧ ∀ W', Below W.heap.size W W' → Calls Tryz.prog 33 #[.slice a n c] W' fun e w' => ∃ a cap', e = .returned (.tuple #[.agg (fileCs fs[i].kind fs[i].seq fs[i].issued fs[i].base a fs[i].changes.length cap'), .nilIface]) ∧ ChangesAt w' (fun _ => True) (.slice a fs[i].changes.length cap') fs[i].changes ∧ Below W'.heap.size W' w' := by
  obtain ⟨n1, n2, n3, n4, -⟩ := h.nums hl hi
  exact parse_own ho (h.fok _ (List.getElem_mem hi)) n1 n2 n3 n4 (h.cok _ (List.getElem_mem hi)) hcl

end Go.Proofs.Qxb6500666aGreatDoor
