/- The model's Pending. -/
import Derived.Test.Qxb6500666aGreatDoorMdG
namespace Go.Proofs.Qxb6500666aGreatDoor
open Go.RowKit
/-- What became of a key. -/
def mChg2 (x y : Option Row) : List Change := match x, y with
  | some a, none => [⟨87, a⟩]
  | none, some b => [⟨78, b⟩]
  | some a, some b => if a.eqB b then [] else [⟨67, b⟩]
  | none, none => []
def mChg (A B : List Row) (k : Row) : List Change := mChg2 (mfind A k) (mfind B k)
def mKeys (A B : List Row) : List Row := A ++ B.filter (fun r => (mfind A r).isNone)
def mPendOf (A B : List Row) : List Change := (ordK (mKeys A B)).flatMap (mChg A B)
def mRelA (m : Mod) : List Row := ordK (mrl m.fs m.fs.length)
def mEliB (L : Low) : List Row := ordK (elgs L)
def mPend (m : Mod) : List Change := mPendOf (mRelA m) (mEliB m.low)
theorem insK_perm (out : List Row) (r : Row) : (insK out r).Perm (r :: out) := by
  unfold insK
  refine List.perm_middle.trans ?_
  rw [List.takeWhile_append_dropWhile]
theorem ordK_go : ∀ (l out : List Row), (l.foldl insK out).Perm (l ++ out)
  | [], _ => List.Perm.refl _
  | r :: l, out => (ordK_go l (insK out r)).trans ((List.Perm.append_left l (insK_perm out r)).trans List.perm_middle)
theorem ordK_perm (l : List Row) : (ordK l).Perm l := by have := ordK_go l []; rwa [List.append_nil] at this
theorem ordK_len (l : List Row) : (ordK l).length = l.length := (ordK_perm l).length_eq
attribute [local go_sem] ext_const Ext.cell Ext.frozen Ext.rng Ext.whole
attribute [local go_sem ↓] exec_ldRow exec_stRow exec_bsRow exec_ldChange exec_stChange exec_bsChange exec_bdChange exec_neqRow
attribute [local go_sem] run_ldRow run_stRow run_bsRow rowCs_size rowCs_ones rowCs_all run_ldChange run_stChange run_bsChange run_bdChange run_neqRow changeCs_size changeCs_ones changeCs_row changeCs_all whole_alloc_lt whole_alloc_at whole_drew setRow_alloc_at setRow_alloc_lt setRow_drew rng_alloc_lt rng_alloc_at rng_drew rng_drewN

set_option maxRecDepth 100000 in
set_option maxHeartbeats 16000000 in
theorem mPend_calls (w : World) (M : Nat) (ok : Nat → Prop) (v : MV) (m : Mod) (h : MAt w M ok v m) (hl : m.fs.length ≤ 100000) (hcl : ∀ f ∈ m.fs, f.changes.length ≤ 65536) (hrl : (mrl m.fs m.fs.length).length ≤ 1000000) (hsu : SU m.low.sm) (htm : m.low.Times) (hsl : m.low.sm.rs.length ≤ 1000000) :
    Calls Tryz.prog 183 #[.pointer (some ⟨M, 0, none⟩)] w fun e w' => ∃ v, e = .returned v ∧ OwnR w' w.heap.size 111 14 changeCs v (mPend m) ∧ Below w.heap.size w w' := by
  obtain ⟨k, hk⟩ : ∃ k, k = m.fs.length := ⟨_, rfl⟩
  obtain ⟨af, cf, hvf⟩ : ∃ a c, sv v.f = .slice a k c := by
    obtain ⟨zf, hf1, hf2, -⟩ := h.inn.fs
    obtain ⟨af, capf, bf, offf, hvf, -⟩ := hf1
    refine ⟨af, capf, ?_⟩
    rw [hvf, hk, ← hf2, List.length_map]
  have c10 : w.cell? ⟨M, 10, none⟩ = some (.slice af k cf) := by rw [← hvf]; exact cells_all h.top 10
  have HRL := hide (mRel_calls w M ok v m k h (by omega) hl hcl (by rw [hk]; omega))
  rw [hk] at HRL
  have HEL := hide (fun V (hb : Below w.heap.size w V) => mElig_calls V M ok v.x m.low (h.lb.below hb (blk_lt h.top)) (h.inn.low.below hb) hsu htm hsl)
  obtain ⟨A, hA⟩ : ∃ A, A = mRelA m := ⟨_, rfl⟩
  obtain ⟨B, hB⟩ : ∃ B, B = mEliB m.low := ⟨_, rfl⟩
  have hAl : A.length ≤ 1000000 := by rw [hA, mRelA, ordK_len]; exact hrl
  have hBl : B.length ≤ 1000000 := by rw [hB, mEliB, ordK_len]; have := elgs_len m.low; omega
  rw [show ordK (mrl m.fs m.fs.length) = A from hA.symm] at HRL
  rw [show ordK (elgs m.low) = B from hB.symm] at HEL
  rw [show mPend m = mPendOf A B by rw [mPend, ← hA, ← hB]]
  rw [← hk] at HRL
  have zM := blk_lt h.top
  clear h hl hcl hrl hsu htm hsl hvf hA hB hk
  go_enter Tryz.func183, Tryz.ntmps183
  go_upto_region 2 with first
    | (go_at_call 234; refine HRL.out.mono ?_; rintro e W1 ⟨va, rfl, hoa, hb1⟩; obtain ⟨aa, ca, rfl⟩ := hoa.form; have HOA := hide hoa; have HB1 := hide hb1; have HEL := hide (HEL.out _ hb1); clear HRL hoa hb1)
    | (go_at_call 205; refine HEL.out.mono ?_; rintro e W2 ⟨vb, rfl, hob, hb2⟩; obtain ⟨ab, cb, rfl⟩ := hob.form; have HOB := hide hob; have HB2 := hide hb2; clear HEL hob hb2)
  clear c10
  obtain ⟨na, hna⟩ : ∃ n, n = A.length := ⟨_, rfl⟩
  obtain ⟨nb, hnb⟩ : ∃ n, n = B.length := ⟨_, rfl⟩
  have HW2 : Hid (Below w.heap.size w W2) := HB1.out.trans (HB2.out.mono HB1.out.size)
  have hw2 := HW2.out.size
  have HRA : Hid (RArr W2 (fun b => w.heap.size ≤ b ∧ b < W2.heap.size) 13 rowCs (.slice aa A.length ca) A) := ((HOA.out.below HB2.out (Nat.le_refl _)).rows rowCs_size (by decide) (by omega)).lt
  have HRB : Hid (RArr W2 (fun b => w.heap.size ≤ b ∧ b < W2.heap.size) 13 rowCs (.slice ab B.length cb) B) := (HOB.out.rows rowCs_size (by decide) (by omega)).lt.mono (fun _ _ => rfl) (fun b q => ⟨Nat.le_trans HB1.out.size q.1, q.2⟩)
  rw [← hna] at HRA hAl ⊢
  rw [← hnb] at HRB hBl ⊢
  have HNA := hide hna
  have HNB := hide hnb
  have HFA := hide (fun V (hb : Below W2.heap.size W2 V) r => mfind_calls V (fun b => w.heap.size ≤ b ∧ b < W2.heap.size) aa na ca A r (HRA.out.mono (fun b q => hb.block b q.2) (fun _ q => q)))
  have HFB := hide (fun V (hb : Below W2.heap.size W2 V) r => mfind_calls V (fun b => w.heap.size ≤ b ∧ b < W2.heap.size) ab nb cb B r (HRB.out.mono (fun b q => hb.block b q.2) (fun _ q => q)))
  clear HOA HOB HB1 HB2 hna hnb
  obtain ⟨aa', ca', ba, oa, hva, hla, hma, hra, haa, hca⟩ := HRA.out
  simp only [Value.slice.injEq] at hva
  obtain ⟨rfl, hn1, rfl⟩ := hva
  rw [← hn1] at haa
  have hia := run_indexAt_arr (P := Tryz.prog) (n := na) (cap := ca) Tryz.underlying150 Tryz.size109 (fun h => (haa h).1)
  have HAB : Hid (0 < na → ba < W2.heap.size) := fun h => (haa h).2.2
  have HAC := hide hca
  obtain ⟨ab', cb', bb, ob, hvb, hlb, hmb, hrb, hab, hcb⟩ := HRB.out
  simp only [Value.slice.injEq] at hvb
  obtain ⟨rfl, hn2, rfl⟩ := hvb
  rw [← hn2] at hab
  have hib := run_indexAt_arr (P := Tryz.prog) (n := nb) (cap := cb) Tryz.underlying150 Tryz.size109 (fun h => (hab h).1)
  have HBB : Hid (0 < nb → bb < W2.heap.size) := fun h => (hab h).2.2
  have HBC := hide hcb
  clear hla hma hra haa hca hlb hmb hrb hab hcb hn1 hn2 HRA HRB
  have HO0 : Hid (OwnR W2 W2.heap.size 109 13 rowCs (.slice none 0 0) (A.take 0)) := OwnR.nil _ _ _ _ _
  have HB0 := hide (Below.refl W2.heap.size W2)
  go_upto_region 4 with fail
  go_loopg [5, 30] na (fun gk ov j W => ∃ (q : Nat) (oa : Option Addr) (oc : Nat), q ≤ na ∧ gk = na - q ∧ ov = .slice oa q oc ∧ j = .int .i64 q ∧ Hid (OwnR W W2.heap.size 109 13 rowCs (.slice oa q oc) (A.take q)) ∧ Hid (Below W2.heap.size W2 W))
  case atStart => exact ⟨0, none, 0, by omega, by omega, rfl, rfl, HO0, HB0⟩
  clear HO0 HB0
  case round =>
    obtain ⟨q, oa, oc, hq, rfl, rfl, rfl, HOW, HBR⟩ := hrel
    have hsr := HBR.out.size
    by_cases hlt : q < na
    · have hqs : q < A.length := by rw [← HNA.out]; exact hlt
      have hbb := HAB.out (by omega)
      have c0 := HAC.out q hqs
      rw [← rng_of_block (HBR.out.block _ hbb)] at c0
      have hbw : ba < wr.heap.size := by omega
      have HTK := hide (List.take_succ_eq_append_getElem hqs)
      have HQL : Hid ((A.take q).length = q) := by show _ = _; rw [List.length_take]; omega
      generalize A[q] = r at *
      go_upto_region 6 with fail
      have hb2 : Below wr.heap.size wr (wr.alloc (.cells (rowCs r) 109)) := (Below.refl _ _).alloc (Nat.le_refl _) _
      have hkx : (wr.alloc (.cells (rowCs r) 109)).heap[wr.heap.size]? = some (.cells (rowCs r) 109 (0, 0)) := heap_alloc_at _ _
      generalize wr.alloc (.cells (rowCs r) 109) = V at *
      have HV : Hid (Below W2.heap.size W2 V) := HBR.out.trans (hb2.mono hsr)
      have HOV := hide (HOW.out.below hb2 (Nat.le_refl _))
      have rr : rng V wr.heap.size 0 13 = some (rowCs r) := rng_whole hkx
      have zx := blk_lt hkx
      have hzV := HV.out.size
      clear hb2 hkx c0 hbw HOW HBR hsr
      generalize wr.heap.size = D at *
      go_wp2_with (at_builtin; refine wpList_app1 (α := Row) rfl _ _ 150 rfl W2.heap.size 109 rowCs Tryz.underlying150 Tryz.info109 rfl (by decide) rowCs_size rowCs_one (.slice oa q oc) (A.take q) rfl (OwnR.below HOV.out ((Below.refl _ _).alloc (Nat.le_refl _) _) (Nat.le_refl _)) _ rfl r (rng_whole (heap_alloc_at _ _)) (by rw [HQL.out]; omega) (by rw [HQL.out]; unfold maxLen; omega) (by simp only [World.size_alloc]; omega) ?_; intro v8 w8 hown8 hsame8 hbel8 hat8; obtain ⟨a8, c8, hv8⟩ := hown8.form; rw [List.length_append, HQL.out, List.length_singleton] at hv8; subst hv8)
      go_roundg (na - (q + 1))
      case measure => omega
      case rel => exact ⟨q + 1, a8, c8, by omega, rfl, rfl, by go_num, by rw [HTK.out]; exact hown8, (HV.out.alloc hzV _).trans hbel8⟩
    · obtain rfl : q = na := by omega
      have HO0 : Hid (OwnR wr W2.heap.size 109 13 rowCs (.slice oa q oc) (A ++ (B.take 0).filter (fun r => (mfind A r).isNone))) := by
        refine hide ?_
        have := HOW.out
        rw [List.take_of_length_le (by rw [← HNA.out]; omega)] at this
        simpa using this
      have HL0 : Hid (q = (A ++ (B.take 0).filter (fun r => (mfind A r).isNone)).length) := by show _ = _; rw [HNA.out]; simp
      have HB0 := HBR
      clear HOW HBR hlt hq hsr
      go_upto_region 9 with fail
      go_loopg [5, 41] nb (fun gk ov j W => ∃ (p n5 : Nat) (a5 : Option Addr) (c5 : Nat), p ≤ nb ∧ gk = nb - p ∧ ov = .slice a5 n5 c5 ∧ j = .int .i64 p ∧ n5 ≤ q + p ∧ Hid (n5 = (A ++ (B.take p).filter (fun r => (mfind A r).isNone)).length) ∧ Hid (OwnR W W2.heap.size 109 13 rowCs (.slice a5 n5 c5) (A ++ (B.take p).filter (fun r => (mfind A r).isNone))) ∧ Hid (Below W2.heap.size W2 W))
      case atStart => exact ⟨0, q, oa, oc, by omega, by omega, rfl, rfl, by omega, HL0, HO0, HB0⟩
      clear HO0 HL0 HB0
      case round =>
        obtain ⟨p, n5, a5, c5, hp, rfl, rfl, rfl, hn5, HN5, HOW, HBR⟩ := hrel
        have hsr := HBR.out.size
        by_cases hlt : p < nb
        · as_aux_lemma =>
          have hps : p < B.length := by rw [← HNB.out]; exact hlt
          have hbb := HBB.out (by omega)
          have c0 := HBC.out p hps
          rw [← rng_of_block (HBR.out.block _ hbb)] at c0
          have hbw : bb < wr.heap.size := by omega
          have HTK : Hid (A ++ (B.take (p + 1)).filter (fun r => (mfind A r).isNone) = (A ++ (B.take p).filter (fun r => (mfind A r).isNone)) ++ (if (mfind A B[p]).isNone then [B[p]] else [])) := by
            show _ = _
            rw [filter_take hps, List.append_assoc]
          generalize B[p] = r at *
          go_upto_region 11 with fail
          have hb2 : Below wr.heap.size wr (wr.alloc (.cells (rowCs r) 109)) := (Below.refl _ _).alloc (Nat.le_refl _) _
          have hkx : (wr.alloc (.cells (rowCs r) 109)).heap[wr.heap.size]? = some (.cells (rowCs r) 109 (0, 0)) := heap_alloc_at _ _
          generalize wr.alloc (.cells (rowCs r) 109) = V at *
          have HV : Hid (Below W2.heap.size W2 V) := HBR.out.trans (hb2.mono hsr)
          have HOV := hide (HOW.out.below hb2 (Nat.le_refl _))
          have rr : rng V wr.heap.size 0 13 = some (rowCs r) := rng_whole hkx
          have zx := blk_lt hkx
          have hzV := HV.out.size
          have HF := hide (HFA.out V HV.out r)
          clear hb2 hkx c0 hbw HOW HBR hsr
          generalize wr.heap.size = D at *
          cases hm : mfind A r with
          | some y =>
            rw [hm] at HTK HF
            simp only [Option.isNone_some, Bool.false_eq_true, if_false, List.append_nil, Option.getD_some, Option.isSome_some] at HTK HF
            go_wp2_with (go_at_call 235; refine HF.out.mono ?_; rintro e V2 ⟨rfl, hbv⟩)
            have hb3 : Below V.heap.size V (V2.alloc (.cells (rowCs y) 109)) := hbv.alloc hbv.size _
            go_roundg (nb - (p + 1))
            case measure => omega
            case rel => exact ⟨p + 1, n5, a5, c5, by omega, rfl, rfl, by go_num, by omega, by rw [HTK.out]; exact HN5, by rw [HTK.out]; exact HOV.out.below hb3 (Nat.le_refl _), HV.out.trans (hb3.mono hzV)⟩
          | none =>
            rw [hm] at HTK HF
            simp only [Option.isNone_none, if_true, Option.getD_none, Option.isSome_none] at HTK HF
            go_upto_region 13 with (go_at_call 235; refine HF.out.mono ?_; rintro e V2 ⟨rfl, hbv⟩)
            have hb3 : Below V.heap.size V (V2.alloc (.cells (rowCs zeroRow) 109)) := hbv.alloc hbv.size _
            generalize V2.alloc (.cells (rowCs zeroRow) 109) = V3 at *
            have rr3 : rng V3 D 0 13 = some (rowCs r) := (rng_of_block (hb3.block _ zx) _ _).trans rr
            have zx3 : D < V3.heap.size := Nat.lt_of_lt_of_le zx hb3.size
            have HO3 := hide (HOV.out.below hb3 (Nat.le_refl _))
            have HV3 : Hid (Below W2.heap.size W2 V3) := HV.out.trans (hb3.mono hzV)
            have hz3 := HV3.out.size
            clear rr zx hb3 hbv HOV HV hzV HF
            go_wp2_with (at_builtin; refine wpList_app1 (α := Row) rfl _ _ 150 rfl W2.heap.size 109 rowCs Tryz.underlying150 Tryz.info109 rfl (by decide) rowCs_size rowCs_one (.slice a5 n5 c5) (A ++ (B.take p).filter (fun r => (mfind A r).isNone)) rfl (OwnR.below HO3.out ((Below.refl _ _).alloc (Nat.le_refl _) _) (Nat.le_refl _)) _ rfl r (rng_whole (heap_alloc_at _ _)) (by rw [← HN5.out]; omega) (by rw [← HN5.out]; unfold maxLen; omega) (by simp only [World.size_alloc]; omega) ?_; intro v8 w8 hown8 hsame8 hbel8 hat8; obtain ⟨a8, c8, hv8⟩ := hown8.form; rw [List.length_append, ← HN5.out, List.length_singleton] at hv8; subst hv8)
            go_roundg (nb - (p + 1))
            case measure => omega
            case rel => exact ⟨p + 1, n5 + 1, a8, c8, by omega, rfl, rfl, by go_num, by omega, by rw [HTK.out]; show _ = _; rw [List.length_append, ← HN5.out]; rfl, by rw [HTK.out]; exact hown8, (HV3.out.alloc hz3 _).trans hbel8⟩
        · obtain rfl : p = nb := by omega
          as_aux_lemma =>
          rw [List.take_of_length_le (by rw [← HNB.out]; omega), show A ++ B.filter (fun r => (mfind A r).isNone) = mKeys A B from rfl] at HN5 HOW
          have HIK := hide (inKey_calls wr (W2.heap.size ≤ ·) a5 n5 c5 (mKeys A B) (HOW.out.rows rowCs_size (by decide) (by rw [← HN5.out]; omega)) (by omega))
          have hKl : (ordK (mKeys A B)).length ≤ 2000000 := by rw [ordK_len, ← HN5.out]; omega
          generalize hK : ordK (mKeys A B) = K at *
          have HPO : Hid (mPendOf A B = K.flatMap (mChg A B)) := by show _ = _; rw [mPendOf, hK]
          go_upto_region 17 with (go_at_call 186; refine HIK.out.mono ?_; rintro e W3 ⟨v3, rfl, hown3, hb3⟩; obtain ⟨ak, ck, rfl⟩ := hown3.form)
          obtain ⟨nk, hnk⟩ : ∃ n, n = K.length := ⟨_, rfl⟩
          have HNK := hide hnk
          have HW3 : Hid (Below W2.heap.size W2 W3) := HBR.out.trans (hb3.mono hsr)
          have hw3 := HW3.out.size
          obtain ⟨ak', ck', bk, ok', hvk, hlk, hmk, hrk, hak, hck⟩ := RArr.lt (hown3.rows rowCs_size (by decide) (by omega))
          simp only [Value.slice.injEq] at hvk
          obtain ⟨rfl, -, rfl⟩ := hvk
          rw [← hnk] at hak hKl ⊢
          have hik := run_indexAt_arr (P := Tryz.prog) (n := nk) (cap := ck) Tryz.underlying150 Tryz.size109 (fun h => (hak h).1)
          have HKB : Hid (0 < nk → bk < W3.heap.size) := fun h => (hak h).2.2
          have HKC := hide hck
          have HO0 : Hid (OwnR W3 W3.heap.size 111 14 changeCs (.slice none 0 0) ((K.take 0).flatMap (mChg A B))) := OwnR.nil _ _ _ _ _
          have HB0 := hide (Below.refl W3.heap.size W3)
          clear hlk hmk hrk hak hck hnk hown3 hb3 HIK HOW HN5 HBR hsr hK
          go_loopg [12, 61] nk (fun gk ov j W => ∃ (u n7 : Nat) (a7 : Option Addr) (c7 : Nat), u ≤ nk ∧ gk = nk - u ∧ ov = .slice a7 n7 c7 ∧ j = .int .i64 u ∧ n7 ≤ u ∧ Hid (n7 = ((K.take u).flatMap (mChg A B)).length) ∧ Hid (OwnR W W3.heap.size 111 14 changeCs (.slice a7 n7 c7) ((K.take u).flatMap (mChg A B))) ∧ Hid (Below W3.heap.size W3 W))
          case atStart => exact ⟨0, 0, none, 0, by omega, by omega, rfl, rfl, by omega, rfl, HO0, HB0⟩
          clear HO0 HB0
          case round =>
            obtain ⟨u, n7, a7, c7, hu, rfl, rfl, rfl, hn7, HN7, HOW, HBR⟩ := hrel
            have hsr := HBR.out.size
            by_cases hlt : u < nk
            · have hus : u < K.length := by rw [← HNK.out]; exact hlt
              have hbb := HKB.out (by omega)
              have c0 := HKC.out u hus
              rw [← rng_of_block (HBR.out.block _ hbb)] at c0
              have hbw : bk < wr.heap.size := by omega
              have HTK : Hid ((K.take (u + 1)).flatMap (mChg A B) = (K.take u).flatMap (mChg A B) ++ mChg2 (mfind A K[u]) (mfind B K[u])) := by
                show _ = _
                rw [List.take_succ_eq_append_getElem hus, List.flatMap_append]
                simp [mChg]
              generalize K[u] = y at *
              go_upto_region 19 with fail
              have hb2 : Below wr.heap.size wr (wr.alloc (.cells (rowCs y) 109)) := (Below.refl _ _).alloc (Nat.le_refl _) _
              have hkx : (wr.alloc (.cells (rowCs y) 109)).heap[wr.heap.size]? = some (.cells (rowCs y) 109 (0, 0)) := heap_alloc_at _ _
              generalize wr.alloc (.cells (rowCs y) 109) = V at *
              have HV : Hid (Below W3.heap.size W3 V) := HBR.out.trans (hb2.mono hsr)
              have HOV := hide (HOW.out.below hb2 (Nat.le_refl _))
              have rr : rng V wr.heap.size 0 13 = some (rowCs y) := rng_whole hkx
              have zx := blk_lt hkx
              have hzV := HV.out.size
              have HFA1 := hide (HFA.out V (HW3.out.trans (HV.out.mono hw3)) y)
              have HFB1 := hide (fun X (hb : Below V.heap.size V X) => HFB.out X ((HW3.out.trans (HV.out.mono hw3)).trans (hb.mono (Nat.le_trans hw3 hzV))) y)
              clear hb2 hkx c0 hbw HOW HBR hsr
              generalize wr.heap.size = D at *
              generalize mfind A y = fa at *
              generalize mfind B y = fb at *
              go_upto_region 20 with (go_at_call 235; refine HFA1.out.mono ?_; rintro e X ⟨rfl, hbX⟩)
              clear HFA1
              have hb3 : Below V.heap.size V (X.alloc (.cells (rowCs (fa.getD zeroRow)) 109)) := hbX.alloc hbX.size _
              have hka : (X.alloc (.cells (rowCs (fa.getD zeroRow)) 109)).heap[X.heap.size]? = some (.cells (rowCs (fa.getD zeroRow)) 109 (0, 0)) := heap_alloc_at _ _
              generalize X.alloc (.cells (rowCs (fa.getD zeroRow)) 109) = X1 at *
              have HFB2 := hide (HFB1.out X1 hb3)
              have rr1 : rng X1 D 0 13 = some (rowCs y) := (rng_of_block (hb3.block _ zx) _ _).trans rr
              have zx1 : D < X1.heap.size := Nat.lt_of_lt_of_le zx hb3.size
              have zka := blk_lt hka
              clear HFB1 rr zx hbX
              generalize X.heap.size = Ea at *
              go_upto_region 21 with (go_at_call 235; refine HFB2.out.mono ?_; rintro e Y ⟨rfl, hbY⟩)
              clear HFB2
              have hb4 : Below V.heap.size V (Y.alloc (.cells (rowCs (fb.getD zeroRow)) 109)) := (hb3.trans (hbY.mono hb3.size)).alloc (Nat.le_trans hb3.size hbY.size) _
              have hkb : (Y.alloc (.cells (rowCs (fb.getD zeroRow)) 109)).heap[Y.heap.size]? = some (.cells (rowCs (fb.getD zeroRow)) 109 (0, 0)) := heap_alloc_at _ _
              have hka2 : (Y.alloc (.cells (rowCs (fb.getD zeroRow)) 109)).heap[Ea]? = some (.cells (rowCs (fa.getD zeroRow)) 109 (0, 0)) := (Below.heap_alloc _ _ _ (Nat.lt_of_lt_of_le zka hbY.size)).trans ((hbY.block _ zka).trans hka)
              generalize Y.alloc (.cells (rowCs (fb.getD zeroRow)) 109) = Y1 at *
              generalize Y.heap.size = Eb at *
              have ra : rng Y1 Ea 0 13 = some (rowCs (fa.getD zeroRow)) := rng_whole hka2
              have rb : rng Y1 Eb 0 13 = some (rowCs (fb.getD zeroRow)) := rng_whole hkb
              have za := blk_lt hka2
              have zb := blk_lt hkb
              have HO4 := hide (HOV.out.below hb4 (Nat.le_refl _))
              have HV4 : Hid (Below W3.heap.size W3 Y1) := HV.out.trans (hb4.mono hzV)
              have hz4 := HV4.out.size
              clear hb3 hb4 hka hka2 hkb zka rr1 zx1 hbY HOV HV hzV
              generalize hKU : (K.take u).flatMap (mChg A B) = KU at *
              cases fa with
              | none =>
                simp only [Option.getD_none, Option.isSome_none] at ra ⊢
                cases fb with
                | none =>
                  simp only [Option.getD_none, Option.isSome_none, List.append_nil, mChg2] at rb HTK ⊢
                  go_wp2
                  go_roundg (nk - (u + 1))
                  case measure => omega
                  case rel => exact ⟨u + 1, n7, a7, c7, by omega, rfl, rfl, by go_num, by omega, by rw [HTK.out]; exact HN7, by rw [HTK.out]; exact HO4, HV4⟩
                | some b =>
                  simp only [Option.getD_some, Option.isSome_some, mChg2] at rb HTK ⊢
                  go_wp2_with (at_builtin; refine wpList_app1 (α := Change) rfl _ _ 57 rfl W3.heap.size 111 changeCs Tryz.underlying57 Tryz.info111 rfl (by decide) changeCs_size changeCs_one (.slice a7 n7 c7) KU rfl (OwnR.below HO4.out ((Below.refl _ _).alloc (Nat.le_refl _) _) (Nat.le_refl _)) _ rfl ⟨78, b⟩ (rng_whole (heap_alloc_at _ _)) (by rw [← HN7.out]; omega) (by rw [← HN7.out]; unfold maxLen; omega) (by simp only [World.size_alloc]; omega) ?_; intro v8 w8 hown8 hsame8 hbel8 hat8; obtain ⟨a8, c8, hv8⟩ := hown8.form; rw [List.length_append, ← HN7.out, List.length_singleton] at hv8; subst hv8)
                  go_roundg (nk - (u + 1))
                  case measure => omega
                  case rel => exact ⟨u + 1, n7 + 1, a8, c8, by omega, rfl, rfl, by go_num, by omega, by rw [HTK.out]; show _ = _; rw [List.length_append, ← HN7.out]; rfl, by rw [HTK.out]; exact hown8, (HV4.out.alloc hz4 _).trans hbel8⟩
              | some a =>
                simp only [Option.getD_some, Option.isSome_some] at ra ⊢
                cases fb with
                | none =>
                  simp only [Option.getD_none, Option.isSome_none, mChg2] at rb HTK ⊢
                  go_wp2_with (at_builtin; refine wpList_app1 (α := Change) rfl _ _ 57 rfl W3.heap.size 111 changeCs Tryz.underlying57 Tryz.info111 rfl (by decide) changeCs_size changeCs_one (.slice a7 n7 c7) KU rfl (OwnR.below HO4.out ((Below.refl _ _).alloc (Nat.le_refl _) _) (Nat.le_refl _)) _ rfl ⟨87, a⟩ (rng_whole (heap_alloc_at _ _)) (by rw [← HN7.out]; omega) (by rw [← HN7.out]; unfold maxLen; omega) (by simp only [World.size_alloc]; omega) ?_; intro v8 w8 hown8 hsame8 hbel8 hat8; obtain ⟨a8, c8, hv8⟩ := hown8.form; rw [List.length_append, ← HN7.out, List.length_singleton] at hv8; subst hv8)
                  go_roundg (nk - (u + 1))
                  case measure => omega
                  case rel => exact ⟨u + 1, n7 + 1, a8, c8, by omega, rfl, rfl, by go_num, by omega, by rw [HTK.out]; show _ = _; rw [List.length_append, ← HN7.out]; rfl, by rw [HTK.out]; exact hown8, (HV4.out.alloc hz4 _).trans hbel8⟩
                | some b =>
                  simp only [Option.getD_some, Option.isSome_some, mChg2] at rb HTK ⊢
                  cases he : a.eqB b with
                  | true =>
                    rw [he] at HTK
                    simp only [if_true, List.append_nil] at HTK
                    go_wp2
                    go_roundg (nk - (u + 1))
                    case measure => omega
                    case rel => exact ⟨u + 1, n7, a7, c7, by omega, rfl, rfl, by go_num, by omega, by rw [HTK.out]; exact HN7, by rw [HTK.out]; exact HO4, HV4⟩
                  | false =>
                    rw [he] at HTK
                    simp only [Bool.false_eq_true, if_false] at HTK
                    go_wp2_with (at_builtin; refine wpList_app1 (α := Change) rfl _ _ 57 rfl W3.heap.size 111 changeCs Tryz.underlying57 Tryz.info111 rfl (by decide) changeCs_size changeCs_one (.slice a7 n7 c7) KU rfl (OwnR.below HO4.out ((Below.refl _ _).alloc (Nat.le_refl _) _) (Nat.le_refl _)) _ rfl ⟨67, b⟩ (rng_whole (heap_alloc_at _ _)) (by rw [← HN7.out]; omega) (by rw [← HN7.out]; unfold maxLen; omega) (by simp only [World.size_alloc]; omega) ?_; intro v8 w8 hown8 hsame8 hbel8 hat8; obtain ⟨a8, c8, hv8⟩ := hown8.form; rw [List.length_append, ← HN7.out, List.length_singleton] at hv8; subst hv8)
                    go_roundg (nk - (u + 1))
                    case measure => omega
                    case rel => exact ⟨u + 1, n7 + 1, a8, c8, by omega, rfl, rfl, by go_num, by omega, by rw [HTK.out]; show _ = _; rw [List.length_append, ← HN7.out]; rfl, by rw [HTK.out]; exact hown8, (HV4.out.alloc hz4 _).trans hbel8⟩
            · obtain rfl : u = nk := by omega
              rw [List.take_of_length_le (by rw [← HNK.out]; omega), ← HPO.out] at HOW
              go_wp2
              go_ret
              exact ⟨_, rfl, HOW.out.baseLe (by omega), HW2.out.trans ((HW3.out.trans (HBR.out.mono hw3)).mono hw2)⟩
end Go.Proofs.Qxb6500666aGreatDoor
