/- RenderTrail, walked. (Made by tools/mk_rtrail2.py.) -/
import Derived.Test.Qxb6500666aGreatDoorRTrail
namespace Go.Proofs.Qxb6500666aGreatDoor
open Go.RowKit

def trHead (n : Int) : List Int := [72] ++ [124, 65] ++ fld n ++ [10]
def trLine (rn kn : Nat → ByteArray) (x : Ent) : List Int := [69] ++ fld x.seq ++ (124 :: strB (nmOf rn 6 x.role)) ++ fld x.issued ++ (124 :: strB (nmOf kn 30 x.req.kind)) ++ fld x.req.user ++ fld x.req.now ++ fld x.req.id ++ fld x.req.ref ++ fld x.req.kit ++ fld x.req.subject ++ fld x.req.visit ++ fld x.req.role ++ fld x.req.cls ++ fld x.req.time ++ fld x.req.till ++ fld x.req.value ++ (fld x.req.l0 ++ fld x.req.l1 ++ fld x.req.l2) ++ lstText x.req.list ++ [10]
def trText (rn kn : Nat → ByteArray) (xs : List Ent) : List Int := trailText (trHead xs.length ++ flatL (trLine rn kn) xs) xs.length
def rtB : Nat → List Ent → Bool
  | _, [] => true
  | i, x :: r => if entOk x (i + 1 : Nat) then rtB (i + 1) r else false
def rtR (rn kn : Nat → ByteArray) (xs : List Ent) : Except Int (List Int) := if rtB 0 xs then .ok (trText rn kn xs) else .error 29
structure Ent.Ok (x : Ent) : Prop where
  role : U8 x.role
  issued : U32 x.issued
  req : x.req.Ok
  list : ∀ y ∈ x.req.list, U32 y
def lmT (x : Req) : Nat → List Int
  | 0 => []
  | 1 => fld x.l0
  | 2 => fld x.l0 ++ fld x.l1
  | _ => fld x.l0 ++ fld x.l1 ++ fld x.l2

structure LnSt (V W : World) (G T E Q : Nat) (ec rc : Array Value) (t : List Int) (m : Nat) : Prop where
  wr : Wrote V W G T (fun b => b = E ∨ b = Q) t
  len : t.length ≤ m
  e : W.heap[E]? = some (.cells ec 67 (0, 0))
  q : W.heap[Q]? = some (.cells rc 53 (0, 0))
theorem LnSt.next {V W W' : World} {G T E Q : Nat} {ec rc : Array Value} {t t' : List Int} {m m' : Nat} (h : LnSt V W G T E Q ec rc t m) (k : Wrote W W' G T (fun b => b = E ∨ b = Q) t') (hl : t'.length ≤ m') : LnSt V W' G T E Q ec rc t' m' :=
  ⟨h.wr.trans k, hl, (k.same E (Or.inl rfl)).trans h.e, (k.same Q (Or.inr rfl)).trans h.q⟩

theorem trLine_join (rn kn : Nat → ByteArray) (x : Ent) (y x0 x1 x2 x3 x4 x5 x6 x7 x8 x9 x10 x11 x12 x13 x14 x15 x16 x17 x18 x19 : List Int) (h0 : Hid (x0 = y)) (h1 : Hid (x1 = x0 ++ [69])) (h2 : Hid (x2 = x1 ++ fld x.seq)) (h3 : Hid (x3 = x2 ++ (124 :: strB (nmOf rn 6 x.role)))) (h4 : Hid (x4 = x3 ++ fld x.issued)) (h5 : Hid (x5 = x4 ++ (124 :: strB (nmOf kn 30 x.req.kind)))) (h6 : Hid (x6 = x5 ++ fld x.req.user)) (h7 : Hid (x7 = x6 ++ fld x.req.now)) (h8 : Hid (x8 = x7 ++ fld x.req.id)) (h9 : Hid (x9 = x8 ++ fld x.req.ref)) (h10 : Hid (x10 = x9 ++ fld x.req.kit)) (h11 : Hid (x11 = x10 ++ fld x.req.subject)) (h12 : Hid (x12 = x11 ++ fld x.req.visit)) (h13 : Hid (x13 = x12 ++ fld x.req.role)) (h14 : Hid (x14 = x13 ++ fld x.req.cls)) (h15 : Hid (x15 = x14 ++ fld x.req.time)) (h16 : Hid (x16 = x15 ++ fld x.req.till)) (h17 : Hid (x17 = x16 ++ fld x.req.value)) (h18 : Hid (x18 = x17 ++ lmT x.req 3)) (h19 : Hid (x19 = x18 ++ lstText x.req.list)) : y ++ trLine rn kn x = x19 ++ [10] := by
  have e0 : x0 = y := h0
  have e1 : x1 = x0 ++ [69] := h1
  have e2 : x2 = x1 ++ fld x.seq := h2
  have e3 : x3 = x2 ++ (124 :: strB (nmOf rn 6 x.role)) := h3
  have e4 : x4 = x3 ++ fld x.issued := h4
  have e5 : x5 = x4 ++ (124 :: strB (nmOf kn 30 x.req.kind)) := h5
  have e6 : x6 = x5 ++ fld x.req.user := h6
  have e7 : x7 = x6 ++ fld x.req.now := h7
  have e8 : x8 = x7 ++ fld x.req.id := h8
  have e9 : x9 = x8 ++ fld x.req.ref := h9
  have e10 : x10 = x9 ++ fld x.req.kit := h10
  have e11 : x11 = x10 ++ fld x.req.subject := h11
  have e12 : x12 = x11 ++ fld x.req.visit := h12
  have e13 : x13 = x12 ++ fld x.req.role := h13
  have e14 : x14 = x13 ++ fld x.req.cls := h14
  have e15 : x15 = x14 ++ fld x.req.time := h15
  have e16 : x16 = x15 ++ fld x.req.till := h16
  have e17 : x17 = x16 ++ fld x.req.value := h17
  have e18 : x18 = x17 ++ lmT x.req 3 := h18
  have e19 : x19 = x18 ++ lstText x.req.list := h19
  clear h0 h1 h2 h3 h4 h5 h6 h7 h8 h9 h10 h11 h12 h13 h14 h15 h16 h17 h18 h19
  subst e19 e18 e17 e16 e15 e14 e13 e12 e11 e10 e9 e8 e7 e6 e5 e4 e3 e2 e1 e0
  unfold trLine
  have e3 : lmT x.req 3 = fld x.req.l0 ++ fld x.req.l1 ++ fld x.req.l2 := rfl
  generalize lmT x.req 3 = lm at e3
  subst e3
  generalize strB (nmOf rn 6 x.role) = s1
  generalize strB (nmOf kn 30 x.req.kind) = s2
  generalize lstText x.req.list = s3
  generalize fld x.seq = f0
  generalize fld x.issued = f1
  generalize fld x.req.user = f2
  generalize fld x.req.now = f3
  generalize fld x.req.id = f4
  generalize fld x.req.ref = f5
  generalize fld x.req.kit = f6
  generalize fld x.req.subject = f7
  generalize fld x.req.visit = f8
  generalize fld x.req.role = f9
  generalize fld x.req.cls = f10
  generalize fld x.req.time = f11
  generalize fld x.req.till = f12
  generalize fld x.req.value = f13
  generalize fld x.req.l0 = f14
  generalize fld x.req.l1 = f15
  generalize fld x.req.l2 = f16
  simp only [List.append_assoc]

attribute [local go_sem] ext_const Ext.cell Ext.frozen Ext.rng Ext.whole
attribute [local go_sem ↓] exec_ldReq exec_stReq exec_ldEnt exec_stEnt
attribute [local go_sem] run_ldReq run_stReq run_ldEnt run_stEnt entA_size entA_ones whole_alloc_lt whole_alloc_at whole_drew setRow_alloc_at setRow_alloc_lt rng_alloc_lt rng_alloc_at rng_drew rng_drewN rng_setRow_other whole_setRow_other run_ix0 run_ix1 run_ix2

set_option maxRecDepth 100000 in
set_option maxHeartbeats 8000000 in
theorem renderTrail_calls (w : World) (ok : Nat → Prop) (rn kn ft : Nat → ByteArray) (a : Option Addr) (n cap : Nat) (zs : List ZE) (h : RArr w ok 20 zeCs (.slice a n cap) zs) (hzp : ZipE w ok zs) (hlen : n ≤ 5000000) (hnm : NmAt w rn kn ft) (hok : ∀ z ∈ zs, z.1.Ok) :
    Calls Tryz.prog 79 #[.slice a n cap] w fun e w' => OwnX w w' 5 1 byteCs e (rtR rn kn (zs.map (·.1))) := by
  obtain ⟨R, hR⟩ : ∃ R, R = rtR rn kn (zs.map (·.1)) := ⟨_, rfl⟩
  rw [← hR]
  have HR := hide hR
  obtain ⟨a', cap', b, off, hv, hl, hm, hr, ha, hc⟩ := RArr.lt h
  simp only [Value.slice.injEq] at hv
  obtain ⟨rfl, hn, rfl⟩ := hv
  have Hn : Hid (n = zs.length) := hn
  rw [← hn] at hl hr ha
  have hi := run_indexAt_arr (P := Tryz.prog) (n := n) (cap := cap) Tryz.underlying42 Tryz.size67_z (fun h => (ha h).1)
  have HB : Hid (0 < n → b < w.heap.size) := fun h => (ha h).2.2
  have HC := hide hc
  have HOk := hide hok
  have HZP := hide hzp
  have HNM := hide hnm
  clear ha hc hn hm hl h hR hok hzp hnm
  go_enter Tryz.func79, Tryz.ntmps79
  obtain ⟨i0, hi0, hq0, hq1, hq2⟩ := info_parts Tryz.info5
  go_upto_region 2 with (at_make; refine wpList_make_own w rfl _ _ 55 rfl w.heap.size 5 i0 _ 1 Tryz.underlying55 hi0 hq0 hq1 _ _ _ (32 + 128 * n) rfl rfl (by omega) (by rw [hq2]; omega) (by unfold maxLen; omega) (Nat.le_refl _) ?_; intro W2 hown0 hgr0)
  have hb2 : Below w.heap.size w W2 := (Below.refl _ _).grown hgr0 (Nat.le_refl _) (fun k hk => by simp at hk)
  have hown1 : OwnR W2 w.heap.size 5 1 byteCs (.slice (some ⟨w.heap.size, 0, none⟩) 0 (32 + 128 * n)) [] := hown0
  have hlt2 : w.heap.size < W2.heap.size := (hown1.block _ rfl).2
  have hT0 : TextAt (W2.alloc (.cells #[.slice (some ⟨w.heap.size, 0, none⟩) 0 (32 + 128 * n)] 271)) w.heap.size W2.heap.size (fun _ => False) [] :=
    ⟨_, _, heap_alloc_at _ _, by omega, hown1.below ((Below.refl _ _).alloc (Nat.le_refl _) _) (Nat.le_refl _), by simp [Value.ownBlock]; omega, fun h => h, fun b hb h => h, fun b hb => hb.elim⟩
  have hWw : Below w.heap.size w (W2.alloc (.cells #[.slice (some ⟨w.heap.size, 0, none⟩) 0 (32 + 128 * n)] 271)) := hb2.alloc (by omega) _
  generalize W2.alloc (.cells #[.slice (some ⟨w.heap.size, 0, none⟩) 0 (32 + 128 * n)] 271) = W3 at *
  generalize W2.heap.size = T at *
  obtain ⟨G, hG⟩ : ∃ G, w.heap.size = G := ⟨_, rfl⟩
  rw [hG] at hT0 hWw ⊢
  have HG := hide hG
  have HT0 := hide hT0
  have HWw := hide hWw
  clear hown0 hown1 hgr0 hb2 hlt2 hi0 hq0 hq1 hq2 hG hT0 hWw
  have hW0 : Wrote W3 W3 G T (fun _ => False) [] := ⟨HT0.out, Below.refl _ _, Same.refl _ _⟩
  have l0 : ([] : List Int).length ≤ 0 := by simp
  obtain ⟨x0, e0⟩ : ∃ x0, ([] : List Int) = x0 := ⟨_, rfl⟩
  rw [e0] at hW0 l0
  obtain ⟨x1, e1⟩ : ∃ x, x0 ++ [72] = x := ⟨_, rfl⟩
  go_upto_region 3 with (go_at_call 130; refine (open_calls _ G T _ x0 72 hW0.text (by omega)).mono ?_; rintro e v1 ⟨rfl, hV⟩)
  rw [e1] at hV
  have l1 : x1.length ≤ 1 := by rw [← e1, List.length_append]; simp only [List.length_cons, List.length_nil]; omega
  have hW1 := hW0.trans hV
  clear hV hW0
  obtain ⟨x2, e2⟩ : ∃ x, x1 ++ [124, 65] = x := ⟨_, rfl⟩
  go_upto_region 4 with (go_at_call 131; refine (letter_calls _ G T _ x1 65 hW1.text (by omega)).mono ?_; rintro e v2 ⟨rfl, hV⟩)
  rw [e2] at hV
  have l2 : x2.length ≤ 3 := by rw [← e2, List.length_append]; simp only [List.length_cons, List.length_nil]; omega
  have hW2 := hW1.trans hV
  clear hV hW1
  obtain ⟨x3, e3⟩ : ∃ x, x2 ++ fld (n : Int) = x := ⟨_, rfl⟩
  go_upto_region 5 with (go_at_call 132; refine (number_fld _ G T _ x2 x3 (n : Int) _ hW2.text l2 (by omega) ⟨by omega, by omega⟩ e3).mono ?_; rintro e v3 ⟨rfl, hV, l3⟩)
  have hW3 := hW2.trans hV
  clear hV hW2
  go_upto_region 6 with (go_at_call 133; refine (close_calls _ G T _ x3 hW3.text (by omega)).mono ?_; rintro e v4 ⟨rfl, hV⟩)
  have e9 : x3 ++ [10] = trHead n := by rw [← e3, ← e2, ← e1, ← e0]; rfl
  rw [e9] at hV
  have hW9 := hide (hW3.trans hV)
  have l9 : (trHead n).length ≤ 64 := by rw [← e9]; simp; omega
  have L9 := hide l9
  have HRB : Hid (R = if rtB 0 ((zs.map (·.1)).drop 0) then .ok (trText rn kn (zs.map (·.1))) else .error 29) := HR.out
  clear hV hW3 e0 l0 e1 l1 e2 l2 e3 l3 e9 l9 HR
  go_upto_region 7 with fail
  go_loopg [24] n (fun gk j W => ∃ q : Nat, q ≤ n ∧ gk = n - q ∧ j = .int .i64 q ∧ Hid (Wrote W3 W G T (fun _ => False) (trHead n ++ flatL (trLine rn kn) ((zs.take q).map (·.1)))) ∧ Hid ((trHead n ++ flatL (trLine rn kn) ((zs.take q).map (·.1))).length ≤ 64 + 1024 * q) ∧ Hid (R = if rtB q ((zs.map (·.1)).drop q) then .ok (trText rn kn (zs.map (·.1))) else .error 29))
  case atStart => exact ⟨0, by omega, by omega, rfl, by simpa [flatL] using hW9, by simpa [flatL] using L9, HRB⟩
  clear hW9 L9 HRB
  case round =>
    obtain ⟨q, hq, rfl, rfl, HWq, HLq, HRq⟩ := hrel
    have hzw := HWw.out.size
    have hzq := HWq.out.below.size
    have hgg := HG.out
    by_cases hlt : q < n
    · have hqs : q < zs.length := by rw [← Hn.out]; exact hlt
      have hbb := HB.out (by omega)
      have c0 := HC.out q hqs
      have hbG : b < G := by omega
      rw [← rng_of_block (HWw.out.block _ hbG), ← rng_of_block (HWq.out.below.block _ hbG)] at c0
      have hbw : b < wr.heap.size := by omega
      have hcO := HOk.out _ (List.getElem_mem hqs)
      have hzl := HZP.out _ (List.getElem_mem hqs)
      have HLT : Hid (flatL (trLine rn kn) ((zs.take (q + 1)).map (·.1)) = flatL (trLine rn kn) ((zs.take q).map (·.1)) ++ trLine rn kn zs[q].1) := by
        show _ = _
        rw [List.take_succ_eq_append_getElem hqs, List.map_append]
        exact flatL_snoc _ _ _
      have HRD : Hid (R = if entOk zs[q].1 (q + 1 : Nat) then (if rtB (q + 1) ((zs.map (·.1)).drop (q + 1)) then .ok (trText rn kn (zs.map (·.1))) else .error 29) else .error 29) := HRq.out.trans (by
        rw [List.drop_eq_getElem_cons (by simpa using hqs), rtB]
        simp only [List.getElem_map]
        split <;> rfl)
      generalize zs[q] = z at *
      obtain ⟨x, ⟨la, ln, lc⟩⟩ := z
      simp only [zeCs, sv] at c0 hzl hcO HLT HRD
      have HZL := hide hzl
      have hlnn : ln = x.req.list.length := by
        obtain ⟨_, _, _, _, h1, _⟩ := hzl
        simp only [Value.slice.injEq] at h1
        exact h1.2.1
      obtain ⟨y, hy⟩ : ∃ y, trHead n ++ flatL (trLine rn kn) ((zs.take q).map (·.1)) = y := ⟨_, rfl⟩
      rw [hy] at HWq HLq
      have HY := hide hy
      have hyl := HLq.out
      have HLN := hide hlnn
      clear hy hzl hlnn
      have hGs : G ≤ wr.heap.size := by omega
      obtain ⟨ec, hec⟩ : ∃ ec, ec = entA x (.slice la ln lc) := ⟨_, rfl⟩
      have HEC := hide hec
      have hz1 : ones ec 20 = true := by rw [hec]; rfl
      have hz2 : ec.size = 20 := by rw [hec]; rfl
      have hz3 : ec.extract 0 20 = ec := by rw [hec]; rfl
      rw [← hec] at c0
      obtain ⟨rc, hrc⟩ : ∃ rc, rc = reqA x.req (.slice la ln lc) := ⟨_, rfl⟩
      have HRC := hide hrc
      have hro : ones rc 17 = true := by rw [hrc]; rfl
      have hrs : rc.size = 17 := by rw [hrc]; rfl
      have hr3 : rc.extract 0 17 = rc := by rw [hrc]; rfl
      have HCE : Hid (∀ W : World, Calls Tryz.prog 134 #[.agg ec, .int .u32 ((q : Int) + 1)] W fun e w' => e = .returned (.bool (entOk x (q + 1 : Nat))) ∧ Below W.heap.size W w') := fun W => by rw [hec]; exact checkEntry_calls W x la ln lc _ HLN.out
      clear hec hrc
      have hqm : ((q : Int) + 1) % 4294967296 = (q : Int) + 1 := by omega
      go_upto_region 8 with fail
      go_cut [5, 6] (fun i p W => i = .int .i64 q ∧ p = .pointer (some ⟨wr.heap.size, 0, none⟩) ∧ Hid (Below wr.heap.size wr W) ∧ Hid (W.heap[wr.heap.size]? = some (.cells ec 67 (0, 0))))
      case first =>
        as_aux_lemma =>
          go_wp2
          go_meet
          case rel => exact ⟨rfl, rfl, (Below.refl _ _).alloc (Nat.le_refl _) _, heap_alloc_at _ _⟩
      case rest =>
      obtain ⟨rfl, rfl, HB5, HX5⟩ := hcut
      generalize wc = w5 at *
      clear c0 hbw hi
      obtain ⟨t0, ht0⟩ : ∃ t0, t0 = entOk x (q + 1 : Nat) := ⟨_, rfl⟩
      rw [← ht0] at HCE HRD
      have HT0 := hide ht0
      clear ht0
      go_upto_region 9 with fail
      go_cut [34] (fun v W => v = .bool (! t0) ∧ Hid (Below wr.heap.size wr W) ∧ Hid (W.heap[wr.heap.size]? = some (.cells ec 67 (0, 0))))
      case first =>
        as_aux_lemma =>
          have r0 : rng w5 wr.heap.size 0 20 = some ec := by rw [← hz2]; exact rng_whole HX5.out
          have l0 := blk_lt HX5.out
          go_wp2_with (go_at_call 134; refine (HCE.out _).mono ?_; rintro e w6 ⟨rfl, hb6⟩)
          go_meet
          case rel => exact ⟨rfl, HB5.out.trans (hb6.mono HB5.out.size), (hb6.block _ l0).trans HX5.out⟩
      case rest =>
      obtain ⟨rfl, HB6, HX6⟩ := hcut
      generalize wc = w6 at *
      clear HB5 HX5
      cases t0 with
      | false =>
        have HF : Hid (R = .error 29) := HRD.out
        go_wp2
        go_ret2
        have h9 : Below w.heap.size w wr := HG.out ▸ (HWw.out.trans HWq.out.below)
        exact ownx_err HF (h9.trans (HB6.out.mono (by omega)))
      | true =>
      have HRN : Hid (R = if rtB (q + 1) ((zs.map (·.1)).drop (q + 1)) then .ok (trText rn kn (zs.map (·.1))) else .error 29) := HRD.out
      have HSQ : Hid (x.seq = (q : Int) + 1) := by
        show x.seq = _
        have t0 := HT0.out.symm
        unfold entOk at t0
        split at t0
        · rename_i h1; simpa using h1
        · cases t0
      have hl12 : x.req.list.length ≤ 12 := by
        have t0 := HT0.out.symm
        unfold entOk at t0
        split at t0
        · split at t0
          · split at t0
            · exact of_decide_eq_true t0
            · cases t0
          · cases t0
        · cases t0
      have hsu : U32 x.seq := by rw [HSQ.out]; exact ⟨by omega, by omega⟩
      clear HRD HT0 HCE
      go_upto_region 11 with fail
      go_cut [7] (fun p W => p = .pointer (some ⟨w6.heap.size, 0, none⟩) ∧ Hid (Below wr.heap.size wr W) ∧ Hid (W.heap[wr.heap.size]? = some (.cells ec 67 (0, 0))) ∧ Hid (W.heap[w6.heap.size]? = some (.cells rc 53 (0, 0))))
      case first =>
        as_aux_lemma =>
          have hre : rng w6 wr.heap.size 3 17 = some rc := by unfold Qxb6500666aGreatDoor.rng; rw [HX6.out, HEC.out, HRC.out]; rfl
          have hle := blk_lt HX6.out
          go_wp2
          go_meet
          case rel => exact ⟨rfl, HB6.out.alloc HB6.out.size _, (Below.heap_alloc _ _ _ hle).trans HX6.out, heap_alloc_at _ _⟩
      case rest =>
      obtain ⟨rfl, HB7, HXE, HXQ⟩ := hcut
      generalize wc = V at *
      have hle := blk_lt HX6.out
      generalize hEE : wr.heap.size = E at *
      generalize hQQ : w6.heap.size = Q at *
      have hEQ : E < Q := hle
      have HS0 : Hid (LnSt V V G T E Q ec rc y (64 + 1024 * q)) := by
        obtain ⟨ax, cx, g1, g2, g3, g4, g5, g6, g7⟩ := HWq.out.text
        have hTl := blk_lt g1
        refine ⟨⟨⟨ax, cx, (HB7.out.block _ (by omega)).trans g1, g2, g3.below HB7.out (by omega), g4, by rintro (h | h) <;> omega, fun b hb => ?_, by rintro b (rfl | rfl); exact blk_lt HXE.out; exact blk_lt HXQ.out⟩, Below.refl _ _, Same.refl _ _⟩, hyl, HXE.out, HXQ.out⟩
        have := (g3.block b hb).2
        rintro (h | h) <;> omega
      have HEE := hide hEE
      have HNV : Hid (NmAt V rn kn ft) := (HNM.out.same ((HWw.out.trans HWq.out.below).trans (HB7.out.mono hGs)) (by have := HNM.out.lt; omega))
      have hGl : 5 < G := by have := HNM.out.lt; omega
      clear hEE hQQ hyl hle HX6 HXE HXQ HB6
      have hrl1 := hcO.req.role.1
      have hrl2 := hcO.req.role.2
      have hcl1 := hcO.req.cls.1
      have hcl2 := hcO.req.cls.2
      obtain ⟨x0, hx0⟩ : ∃ t, t = y := ⟨_, rfl⟩
      rw [← hx0] at HS0
      have HX0 := hide hx0
      clear hx0
      go_upto_region 12 with fail
      go_cut [] (fun W => Hid (LnSt V W G T E Q ec rc (x0 ++ [69]) (64 + 1024 * q + 1)))
      case first =>
        as_aux_lemma =>
          have l0 := HS0.out.len
          go_wp2_with (go_at_call 130; refine (open_calls _ G T _ x0 69 HS0.out.wr.text (by omega)).mono ?_; rintro e v9 ⟨rfl, hV⟩)
          go_meet
          case rel => exact HS0.out.next hV (by rw [List.length_append]; simp only [List.length_cons, List.length_nil]; omega)
      case rest =>
      have HS1 := hcut
      clear HS0 hcut
      generalize wc = V1 at *
      obtain ⟨x1, hx1⟩ : ∃ t, t = (x0 ++ [69]) := ⟨_, rfl⟩
      rw [← hx1] at HS1
      have HX1 := hide hx1
      clear hx1
      go_upto_region 13 with fail
      go_cut [] (fun W => Hid (LnSt V W G T E Q ec rc (x1 ++ fld x.seq) (64 + 1024 * q + 22)))
      case first =>
        as_aux_lemma =>
          have l0 := HS1.out.len
          have ck : V1.cell? ⟨E, 0, none⟩ = some (.int .u32 x.seq) := by rw [World.cell?, HS1.out.e, HEC.out]; rfl
          have hlk := blk_lt HS1.out.e
          go_wp2_with (go_at_call 135; refine (id_fld _ G T _ x1 _ x.seq _ HS1.out.wr.text l0 (by omega) hsu rfl).mono ?_; rintro e v9 ⟨rfl, hV, l9⟩)
          go_meet
          case rel => exact HS1.out.next hV l9
      case rest =>
      have HS2 := hcut
      clear HS1 hcut
      generalize wc = V2 at *
      obtain ⟨x2, hx2⟩ : ∃ t, t = (x1 ++ fld x.seq) := ⟨_, rfl⟩
      rw [← hx2] at HS2
      have HX2 := hide hx2
      clear hx2
      go_upto_region 14 with fail
      go_cut [] (fun W => Hid (LnSt V W G T E Q ec rc (x2 ++ (124 :: strB (nmOf rn 6 x.role))) (64 + 1024 * q + 87)))
      case first =>
        as_aux_lemma =>
          have l0 := HS2.out.len
          have ck : V2.cell? ⟨E, 1, none⟩ = some (.int .u8 x.role) := by rw [World.cell?, HS2.out.e, HEC.out]; rfl
          have hlk := blk_lt HS2.out.e
          have hns := (nmOf_size (top := 6) (x := x.role) HNM.out.rs)
          go_wp2_with (first | (go_at_call 137; refine (roleStr_calls _ rn kn ft _ (HNV.out.same HS2.out.wr.below hGl) hcO.role).mono ?_; rintro e w9 ⟨rfl, hw9⟩; have hw8 := hw9.symm; subst hw8) | (go_at_call 136; refine (word_calls _ G T _ x2 _ HS2.out.wr.text (by omega)).mono ?_; rintro e v9 ⟨rfl, hV⟩))
          go_meet
          case rel => exact HS2.out.next hV (by rw [List.length_append, List.length_cons, strB_len]; omega)
      case rest =>
      have HS3 := hcut
      clear HS2 hcut
      generalize wc = V3 at *
      obtain ⟨x3, hx3⟩ : ∃ t, t = (x2 ++ (124 :: strB (nmOf rn 6 x.role))) := ⟨_, rfl⟩
      rw [← hx3] at HS3
      have HX3 := hide hx3
      clear hx3
      go_upto_region 15 with fail
      go_cut [] (fun W => Hid (LnSt V W G T E Q ec rc (x3 ++ fld x.issued) (64 + 1024 * q + 108)))
      case first =>
        as_aux_lemma =>
          have l0 := HS3.out.len
          have ck : V3.cell? ⟨E, 2, none⟩ = some (.int .u32 x.issued) := by rw [World.cell?, HS3.out.e, HEC.out]; rfl
          have hlk := blk_lt HS3.out.e
          go_wp2_with (go_at_call 135; refine (id_fld _ G T _ x3 _ x.issued _ HS3.out.wr.text l0 (by omega) hcO.issued rfl).mono ?_; rintro e v9 ⟨rfl, hV, l9⟩)
          go_meet
          case rel => exact HS3.out.next hV l9
      case rest =>
      have HS4 := hcut
      clear HS3 hcut
      generalize wc = V4 at *
      obtain ⟨x4, hx4⟩ : ∃ t, t = (x3 ++ fld x.issued) := ⟨_, rfl⟩
      rw [← hx4] at HS4
      have HX4 := hide hx4
      clear hx4
      go_upto_region 16 with fail
      go_cut [] (fun W => Hid (LnSt V W G T E Q ec rc (x4 ++ (124 :: strB (nmOf kn 30 x.req.kind))) (64 + 1024 * q + 173)))
      case first =>
        as_aux_lemma =>
          have l0 := HS4.out.len
          have ck : V4.cell? ⟨Q, 0, none⟩ = some (.int .u8 x.req.kind) := by rw [World.cell?, HS4.out.q, HRC.out]; rfl
          have hlk := blk_lt HS4.out.q
          have hns := (nmOf_size (top := 30) (x := x.req.kind) HNM.out.ks)
          go_wp2_with (first | (go_at_call 138; refine (kindStr_calls _ rn kn ft _ (HNV.out.same HS4.out.wr.below hGl) hcO.req.kind).mono ?_; rintro e w9 ⟨rfl, hw9⟩; have hw8 := hw9.symm; subst hw8) | (go_at_call 136; refine (word_calls _ G T _ x4 _ HS4.out.wr.text (by omega)).mono ?_; rintro e v9 ⟨rfl, hV⟩))
          go_meet
          case rel => exact HS4.out.next hV (by rw [List.length_append, List.length_cons, strB_len]; omega)
      case rest =>
      have HS5 := hcut
      clear HS4 hcut
      generalize wc = V5 at *
      obtain ⟨x5, hx5⟩ : ∃ t, t = (x4 ++ (124 :: strB (nmOf kn 30 x.req.kind))) := ⟨_, rfl⟩
      rw [← hx5] at HS5
      have HX5 := hide hx5
      clear hx5
      go_upto_region 17 with fail
      go_cut [] (fun W => Hid (LnSt V W G T E Q ec rc (x5 ++ fld x.req.user) (64 + 1024 * q + 194)))
      case first =>
        as_aux_lemma =>
          have l0 := HS5.out.len
          have ck : V5.cell? ⟨Q, 1, none⟩ = some (.int .u32 x.req.user) := by rw [World.cell?, HS5.out.q, HRC.out]; rfl
          have hlk := blk_lt HS5.out.q
          go_wp2_with (go_at_call 135; refine (id_fld _ G T _ x5 _ x.req.user _ HS5.out.wr.text l0 (by omega) hcO.req.user rfl).mono ?_; rintro e v9 ⟨rfl, hV, l9⟩)
          go_meet
          case rel => exact HS5.out.next hV l9
      case rest =>
      have HS6 := hcut
      clear HS5 hcut
      generalize wc = V6 at *
      obtain ⟨x6, hx6⟩ : ∃ t, t = (x5 ++ fld x.req.user) := ⟨_, rfl⟩
      rw [← hx6] at HS6
      have HX6 := hide hx6
      clear hx6
      go_upto_region 18 with fail
      go_cut [] (fun W => Hid (LnSt V W G T E Q ec rc (x6 ++ fld x.req.now) (64 + 1024 * q + 215)))
      case first =>
        as_aux_lemma =>
          have l0 := HS6.out.len
          have ck : V6.cell? ⟨Q, 2, none⟩ = some (.int .i64 x.req.now) := by rw [World.cell?, HS6.out.q, HRC.out]; rfl
          have hlk := blk_lt HS6.out.q
          go_wp2_with (go_at_call 132; refine (number_fld _ G T _ x6 _ x.req.now _ HS6.out.wr.text l0 (by omega) hcO.req.now rfl).mono ?_; rintro e v9 ⟨rfl, hV, l9⟩)
          go_meet
          case rel => exact HS6.out.next hV l9
      case rest =>
      have HS7 := hcut
      clear HS6 hcut
      generalize wc = V7 at *
      obtain ⟨x7, hx7⟩ : ∃ t, t = (x6 ++ fld x.req.now) := ⟨_, rfl⟩
      rw [← hx7] at HS7
      have HX7 := hide hx7
      clear hx7
      go_upto_region 19 with fail
      go_cut [] (fun W => Hid (LnSt V W G T E Q ec rc (x7 ++ fld x.req.id) (64 + 1024 * q + 236)))
      case first =>
        as_aux_lemma =>
          have l0 := HS7.out.len
          have ck : V7.cell? ⟨Q, 3, none⟩ = some (.int .u32 x.req.id) := by rw [World.cell?, HS7.out.q, HRC.out]; rfl
          have hlk := blk_lt HS7.out.q
          go_wp2_with (go_at_call 135; refine (id_fld _ G T _ x7 _ x.req.id _ HS7.out.wr.text l0 (by omega) hcO.req.id rfl).mono ?_; rintro e v9 ⟨rfl, hV, l9⟩)
          go_meet
          case rel => exact HS7.out.next hV l9
      case rest =>
      have HS8 := hcut
      clear HS7 hcut
      generalize wc = V8 at *
      obtain ⟨x8, hx8⟩ : ∃ t, t = (x7 ++ fld x.req.id) := ⟨_, rfl⟩
      rw [← hx8] at HS8
      have HX8 := hide hx8
      clear hx8
      go_upto_region 20 with fail
      go_cut [] (fun W => Hid (LnSt V W G T E Q ec rc (x8 ++ fld x.req.ref) (64 + 1024 * q + 257)))
      case first =>
        as_aux_lemma =>
          have l0 := HS8.out.len
          have ck : V8.cell? ⟨Q, 4, none⟩ = some (.int .u32 x.req.ref) := by rw [World.cell?, HS8.out.q, HRC.out]; rfl
          have hlk := blk_lt HS8.out.q
          go_wp2_with (go_at_call 135; refine (id_fld _ G T _ x8 _ x.req.ref _ HS8.out.wr.text l0 (by omega) hcO.req.ref rfl).mono ?_; rintro e v9 ⟨rfl, hV, l9⟩)
          go_meet
          case rel => exact HS8.out.next hV l9
      case rest =>
      have HS9 := hcut
      clear HS8 hcut
      generalize wc = V9 at *
      obtain ⟨x9, hx9⟩ : ∃ t, t = (x8 ++ fld x.req.ref) := ⟨_, rfl⟩
      rw [← hx9] at HS9
      have HX9 := hide hx9
      clear hx9
      go_upto_region 21 with fail
      go_cut [] (fun W => Hid (LnSt V W G T E Q ec rc (x9 ++ fld x.req.kit) (64 + 1024 * q + 278)))
      case first =>
        as_aux_lemma =>
          have l0 := HS9.out.len
          have ck : V9.cell? ⟨Q, 5, none⟩ = some (.int .u32 x.req.kit) := by rw [World.cell?, HS9.out.q, HRC.out]; rfl
          have hlk := blk_lt HS9.out.q
          go_wp2_with (go_at_call 135; refine (id_fld _ G T _ x9 _ x.req.kit _ HS9.out.wr.text l0 (by omega) hcO.req.kit rfl).mono ?_; rintro e v9 ⟨rfl, hV, l9⟩)
          go_meet
          case rel => exact HS9.out.next hV l9
      case rest =>
      have HS10 := hcut
      clear HS9 hcut
      generalize wc = V10 at *
      obtain ⟨x10, hx10⟩ : ∃ t, t = (x9 ++ fld x.req.kit) := ⟨_, rfl⟩
      rw [← hx10] at HS10
      have HX10 := hide hx10
      clear hx10
      go_upto_region 22 with fail
      go_cut [] (fun W => Hid (LnSt V W G T E Q ec rc (x10 ++ fld x.req.subject) (64 + 1024 * q + 299)))
      case first =>
        as_aux_lemma =>
          have l0 := HS10.out.len
          have ck : V10.cell? ⟨Q, 6, none⟩ = some (.int .u32 x.req.subject) := by rw [World.cell?, HS10.out.q, HRC.out]; rfl
          have hlk := blk_lt HS10.out.q
          go_wp2_with (go_at_call 135; refine (id_fld _ G T _ x10 _ x.req.subject _ HS10.out.wr.text l0 (by omega) hcO.req.subject rfl).mono ?_; rintro e v9 ⟨rfl, hV, l9⟩)
          go_meet
          case rel => exact HS10.out.next hV l9
      case rest =>
      have HS11 := hcut
      clear HS10 hcut
      generalize wc = V11 at *
      obtain ⟨x11, hx11⟩ : ∃ t, t = (x10 ++ fld x.req.subject) := ⟨_, rfl⟩
      rw [← hx11] at HS11
      have HX11 := hide hx11
      clear hx11
      go_upto_region 23 with fail
      go_cut [] (fun W => Hid (LnSt V W G T E Q ec rc (x11 ++ fld x.req.visit) (64 + 1024 * q + 320)))
      case first =>
        as_aux_lemma =>
          have l0 := HS11.out.len
          have ck : V11.cell? ⟨Q, 7, none⟩ = some (.int .u32 x.req.visit) := by rw [World.cell?, HS11.out.q, HRC.out]; rfl
          have hlk := blk_lt HS11.out.q
          go_wp2_with (go_at_call 135; refine (id_fld _ G T _ x11 _ x.req.visit _ HS11.out.wr.text l0 (by omega) hcO.req.visit rfl).mono ?_; rintro e v9 ⟨rfl, hV, l9⟩)
          go_meet
          case rel => exact HS11.out.next hV l9
      case rest =>
      have HS12 := hcut
      clear HS11 hcut
      generalize wc = V12 at *
      obtain ⟨x12, hx12⟩ : ∃ t, t = (x11 ++ fld x.req.visit) := ⟨_, rfl⟩
      rw [← hx12] at HS12
      have HX12 := hide hx12
      clear hx12
      go_upto_region 24 with fail
      go_cut [] (fun W => Hid (LnSt V W G T E Q ec rc (x12 ++ fld x.req.role) (64 + 1024 * q + 341)))
      case first =>
        as_aux_lemma =>
          have l0 := HS12.out.len
          have ck : V12.cell? ⟨Q, 8, none⟩ = some (.int .u8 x.req.role) := by rw [World.cell?, HS12.out.q, HRC.out]; rfl
          have hlk := blk_lt HS12.out.q
          go_wp2_with (go_at_call 132; refine (number_fld _ G T _ x12 _ x.req.role _ HS12.out.wr.text l0 (by omega) hcO.req.role.i64 rfl).mono ?_; rintro e v9 ⟨rfl, hV, l9⟩)
          go_meet
          case rel => exact HS12.out.next hV l9
      case rest =>
      have HS13 := hcut
      clear HS12 hcut
      generalize wc = V13 at *
      obtain ⟨x13, hx13⟩ : ∃ t, t = (x12 ++ fld x.req.role) := ⟨_, rfl⟩
      rw [← hx13] at HS13
      have HX13 := hide hx13
      clear hx13
      go_upto_region 25 with fail
      go_cut [] (fun W => Hid (LnSt V W G T E Q ec rc (x13 ++ fld x.req.cls) (64 + 1024 * q + 362)))
      case first =>
        as_aux_lemma =>
          have l0 := HS13.out.len
          have ck : V13.cell? ⟨Q, 9, none⟩ = some (.int .u8 x.req.cls) := by rw [World.cell?, HS13.out.q, HRC.out]; rfl
          have hlk := blk_lt HS13.out.q
          go_wp2_with (go_at_call 132; refine (number_fld _ G T _ x13 _ x.req.cls _ HS13.out.wr.text l0 (by omega) hcO.req.cls.i64 rfl).mono ?_; rintro e v9 ⟨rfl, hV, l9⟩)
          go_meet
          case rel => exact HS13.out.next hV l9
      case rest =>
      have HS14 := hcut
      clear HS13 hcut
      generalize wc = V14 at *
      obtain ⟨x14, hx14⟩ : ∃ t, t = (x13 ++ fld x.req.cls) := ⟨_, rfl⟩
      rw [← hx14] at HS14
      have HX14 := hide hx14
      clear hx14
      go_upto_region 26 with fail
      go_cut [] (fun W => Hid (LnSt V W G T E Q ec rc (x14 ++ fld x.req.time) (64 + 1024 * q + 383)))
      case first =>
        as_aux_lemma =>
          have l0 := HS14.out.len
          have ck : V14.cell? ⟨Q, 10, none⟩ = some (.int .i64 x.req.time) := by rw [World.cell?, HS14.out.q, HRC.out]; rfl
          have hlk := blk_lt HS14.out.q
          go_wp2_with (go_at_call 132; refine (number_fld _ G T _ x14 _ x.req.time _ HS14.out.wr.text l0 (by omega) hcO.req.time rfl).mono ?_; rintro e v9 ⟨rfl, hV, l9⟩)
          go_meet
          case rel => exact HS14.out.next hV l9
      case rest =>
      have HS15 := hcut
      clear HS14 hcut
      generalize wc = V15 at *
      obtain ⟨x15, hx15⟩ : ∃ t, t = (x14 ++ fld x.req.time) := ⟨_, rfl⟩
      rw [← hx15] at HS15
      have HX15 := hide hx15
      clear hx15
      go_upto_region 27 with fail
      go_cut [] (fun W => Hid (LnSt V W G T E Q ec rc (x15 ++ fld x.req.till) (64 + 1024 * q + 404)))
      case first =>
        as_aux_lemma =>
          have l0 := HS15.out.len
          have ck : V15.cell? ⟨Q, 11, none⟩ = some (.int .i64 x.req.till) := by rw [World.cell?, HS15.out.q, HRC.out]; rfl
          have hlk := blk_lt HS15.out.q
          go_wp2_with (go_at_call 132; refine (number_fld _ G T _ x15 _ x.req.till _ HS15.out.wr.text l0 (by omega) hcO.req.till rfl).mono ?_; rintro e v9 ⟨rfl, hV, l9⟩)
          go_meet
          case rel => exact HS15.out.next hV l9
      case rest =>
      have HS16 := hcut
      clear HS15 hcut
      generalize wc = V16 at *
      obtain ⟨x16, hx16⟩ : ∃ t, t = (x15 ++ fld x.req.till) := ⟨_, rfl⟩
      rw [← hx16] at HS16
      have HX16 := hide hx16
      clear hx16
      go_upto_region 28 with fail
      go_cut [] (fun W => Hid (LnSt V W G T E Q ec rc (x16 ++ fld x.req.value) (64 + 1024 * q + 425)))
      case first =>
        as_aux_lemma =>
          have l0 := HS16.out.len
          have ck : V16.cell? ⟨Q, 12, none⟩ = some (.int .i64 x.req.value) := by rw [World.cell?, HS16.out.q, HRC.out]; rfl
          have hlk := blk_lt HS16.out.q
          go_wp2_with (go_at_call 132; refine (number_fld _ G T _ x16 _ x.req.value _ HS16.out.wr.text l0 (by omega) hcO.req.value rfl).mono ?_; rintro e v9 ⟨rfl, hV, l9⟩)
          go_meet
          case rel => exact HS16.out.next hV l9
      case rest =>
      have HS17 := hcut
      clear HS16 hcut
      generalize wc = V17 at *
      obtain ⟨x17, hx17⟩ : ∃ t, t = (x16 ++ fld x.req.value) := ⟨_, rfl⟩
      rw [← hx17] at HS17
      have HX17 := hide hx17
      clear hx17
      go_upto_region 29 with fail
      go_cut [92, 93] (fun a j W => a = .agg #[.int .i64 x.req.l0, .int .i64 x.req.l1, .int .i64 x.req.l2] ∧ j = .int .i64 0 ∧ V17 = W)
      case first =>
        as_aux_lemma =>
          have r13 : V17.cell? ⟨Q, 13, none⟩ = some (.int .i64 x.req.l0) := by rw [World.cell?, HS17.out.q, HRC.out]; rfl
          have r14 : V17.cell? ⟨Q, 14, none⟩ = some (.int .i64 x.req.l1) := by rw [World.cell?, HS17.out.q, HRC.out]; rfl
          have r15 : V17.cell? ⟨Q, 15, none⟩ = some (.int .i64 x.req.l2) := by rw [World.cell?, HS17.out.q, HRC.out]; rfl
          have hlk := blk_lt HS17.out.q
          go_wp2
          go_meet
          case rel => exact ⟨rfl, rfl, rfl⟩
      case rest =>
      obtain ⟨rfl, rfl, rfl⟩ := hcut
      have hl0 := fld_len hcO.req.l0
      have hl1 := fld_len hcO.req.l1
      have hl2 := fld_len hcO.req.l2
      go_upto_region 30 with fail
      go_loopg [93] 3 (fun gk j W => ∃ r : Nat, r ≤ 3 ∧ gk = 3 - r ∧ j = .int .i64 r ∧ Hid (LnSt V W G T E Q ec rc (x17 ++ lmT x.req r) (64 + 1024 * q + 425 + 21 * r)))
      case atStart => exact ⟨0, by omega, by omega, rfl, by show LnSt _ _ _ _ _ _ _ _ _ _; rw [show lmT x.req 0 = [] from rfl, List.append_nil]; exact HS17.out⟩
      case round =>
        obtain ⟨r, hr3, rfl, rfl, HQ⟩ := hrel
        have lq := HQ.out.len
        by_cases hlt3 : r < 3
        · have hqq : r = 0 ∨ r = 1 ∨ r = 2 := by omega
          rcases hqq with rfl | rfl | rfl
          · go_wp2_with (go_at_call 132; refine (number_fld _ G T _ (x17 ++ lmT x.req 0) _ x.req.l0 _ HQ.out.wr.text lq (by omega) hcO.req.l0 rfl).mono ?_; rintro e v9 ⟨rfl, hV, l9⟩)
            go_roundg (3 - (0 + 1))
            case measure => omega
            case rel =>
              have hE : x17 ++ lmT x.req (0 + 1) = x17 ++ lmT x.req 0 ++ fld x.req.l0 := by simp [lmT]
              exact ⟨0 + 1, by omega, rfl, by go_num, by show LnSt _ _ _ _ _ _ _ _ _ _; rw [hE]; exact HQ.out.next hV (by omega)⟩
          · go_wp2_with (go_at_call 132; refine (number_fld _ G T _ (x17 ++ lmT x.req 1) _ x.req.l1 _ HQ.out.wr.text lq (by omega) hcO.req.l1 rfl).mono ?_; rintro e v9 ⟨rfl, hV, l9⟩)
            go_roundg (3 - (1 + 1))
            case measure => omega
            case rel =>
              have hE : x17 ++ lmT x.req (1 + 1) = x17 ++ lmT x.req 1 ++ fld x.req.l1 := by simp [lmT]
              exact ⟨1 + 1, by omega, rfl, by go_num, by show LnSt _ _ _ _ _ _ _ _ _ _; rw [hE]; exact HQ.out.next hV (by omega)⟩
          · go_wp2_with (go_at_call 132; refine (number_fld _ G T _ (x17 ++ lmT x.req 2) _ x.req.l2 _ HQ.out.wr.text lq (by omega) hcO.req.l2 rfl).mono ?_; rintro e v9 ⟨rfl, hV, l9⟩)
            go_roundg (3 - (2 + 1))
            case measure => omega
            case rel =>
              have hE : x17 ++ lmT x.req (2 + 1) = x17 ++ lmT x.req 2 ++ fld x.req.l2 := by simp [lmT]
              exact ⟨2 + 1, by omega, rfl, by go_num, by show LnSt _ _ _ _ _ _ _ _ _ _; rw [hE]; exact HQ.out.next hV (by omega)⟩
        · have hq3 : r = 3 := by omega
          subst hq3
          have HS18 : Hid (LnSt V wr G T E Q ec rc (x17 ++ lmT x.req 3) (64 + 1024 * q + 488)) := HQ
          clear HS17 HQ lq
          generalize wr = V18 at *
          obtain ⟨x18, hx18⟩ : ∃ t, t = x17 ++ lmT x.req 3 := ⟨_, rfl⟩
          rw [← hx18] at HS18
          have HX18 := hide hx18
          clear hx18
          go_upto_region 34 with fail
          go_cut [] (fun W => Hid (LnSt V W G T E Q ec rc (x18 ++ lstText x.req.list) (64 + 1024 * q + 760)))
          case first =>
            as_aux_lemma =>
              have l0 := HS18.out.len
              have ck : V18.cell? ⟨Q, 16, none⟩ = some (.slice la ln lc) := by rw [World.cell?, HS18.out.q, HRC.out]; rfl
              have hlk := blk_lt HS18.out.q
              have hln := HLN.out
              have HLI : Hid (U32sAt V18 (fun b => ok b ∧ b < w.heap.size) (.slice la ln lc) x.req.list) := RArr.mono (RArr.lt HZL.out) (fun b hb => (HS18.out.wr.below.block b (by have := hb.2; omega)).trans ((HB7.out.block b (by have := hb.2; omega)).trans ((HWq.out.below.block b (by have := hb.2; omega)).trans (HWw.out.block b (by have := hb.2; omega))))) (fun _ h => h)
              have HLW : Hid (∀ a b : Nat, a = b → True) := fun _ _ _ => trivial
              clear HLW hln
              go_wp2_with (go_at_call 139; refine (list_calls _ G T _ _ x18 la ln lc x.req.list HS18.out.wr.text (by omega) HLI.out (by have := HLN.out; omega) hcO.list (fun b hb => Or.inl (by have := hb.2; omega))).mono ?_; rintro e v9 ⟨rfl, hV⟩)
              go_meet
              case rel =>
                have h1 := lstT_len 0 x.req.list hcO.list
                refine HS18.out.next hV ?_
                rw [List.length_append]
                unfold lstText
                rw [List.length_append, List.length_append]
                split <;> simp <;> omega
          case rest =>
          have HS19 := hcut
          clear HS18 hcut
          generalize wc = V19 at *
          obtain ⟨x19, hx19⟩ : ∃ t, t = x18 ++ lstText x.req.list := ⟨_, rfl⟩
          rw [← hx19] at HS19
          have HX19 := hide hx19
          clear hx19
          go_upto_region 35 with fail
          have l19 := HS19.out.len
          go_wp2_with (go_at_call 133; refine (close_calls _ G T _ x19 HS19.out.wr.text (by omega)).mono ?_; rintro e v9 ⟨rfl, hV⟩)
          go_roundg (n - (q + 1))
          case measure => omega
          case rel =>
            have hE : trHead n ++ flatL (trLine rn kn) ((zs.take (q + 1)).map (·.1)) = x19 ++ [10] := by
              rw [HLT.out, ← List.append_assoc, HY.out]
              exact trLine_join rn kn x y _ _ _ _ _ _ _ _ _ _ _ _ _ _ _ _ _ _ _ _ HX0 HX1 HX2 HX3 HX4 HX5 HX6 HX7 HX8 HX9 HX10 HX11 HX12 HX13 HX14 HX15 HX16 HX17 HX18 HX19
            have hF := HS19.out.wr.trans hV
            refine ⟨q + 1, by omega, rfl, by go_num, ?_, by show _ ≤ _; rw [hE]; simp; omega, HRN⟩
            show Wrote _ _ _ _ _ _
            rw [hE]
            exact ⟨hF.text.sub fun b hb => hb.elim, HWq.out.below.trans ((HB7.out.mono (by omega)).trans hF.below), fun b hb => hb.elim⟩
    · have hE : zs.take q = zs := List.take_of_length_le (by rw [← Hn.out]; omega)
      have HF : Hid (R = .ok (trText rn kn (zs.map (·.1)))) := HRq.out.trans (by rw [List.drop_of_length_le (by simp [← Hn.out]; omega)]; rfl)
      rw [hE] at HWq HLq
      obtain ⟨y, hy⟩ : ∃ y, trHead n ++ flatL (trLine rn kn) (zs.map (·.1)) = y := ⟨_, rfl⟩
      rw [hy] at HWq HLq
      have HY := hide hy
      have hyl := HLq.out
      clear hy
      go_upto_region 38 with (go_at_call 140; refine (trailer_calls _ G T _ y n HWq.out.text (by omega) ⟨by omega, by omega⟩).mono ?_; rintro e w9 ⟨rfl, hV⟩)
      have hWf := hide (HWq.out.trans hV)
      obtain ⟨ax, capx, hgx, -, hownx, -, -, -, -⟩ := hV.text
      obtain ⟨hcx, -, hTl⟩ := cell_one hgx
      have HOX := hide hownx
      clear hV hgx hownx
      go_wp2
      go_ret2
      rw [HF.out]
      have hE2 : trText rn kn (zs.map (·.1)) = trailText y n := by rw [← HY.out, trText, List.length_map, ← Hn.out]
      rw [hE2]
      exact ⟨_, rfl, HOX.out.lower (by omega), (HWw.out.trans hWf.out.below).mono (by omega)⟩
    
  end Go.Proofs.Qxb6500666aGreatDoor
