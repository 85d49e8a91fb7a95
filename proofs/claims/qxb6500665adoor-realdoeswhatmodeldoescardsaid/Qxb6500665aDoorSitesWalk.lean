/- scanIDs, Sites, Subjects, walked. -/
import Derived.Test.Qxb6500665aDoorScanWalk
import Derived.Test.Qxb6500665aDoorTestsWalk
namespace Go.Proofs.Qxb6500665aDoor
open Go.RowKit Go.Proofs.Qxb6500665aDoor.Cal

/-- Where a scan over identifiers stands. -/
structure SI (w0 : World) (B0 F I : Nat) (sel : KV → List Int) (w : World) (l : List KV) : Prop where
  same : ∀ b, b < w0.heap.size → b ≠ F → b ≠ I → w.heap[b]? = w0.heap[b]?
  size : w0.heap.size ≤ w.heap.size
  below : Below B0 w0 w
  fail : w.heap[F]? = some (.cells #[.nilIface] 74 (0, 0))
  ids : ∃ iv, w.heap[I]? = some (.cells #[iv] 31 (0, 0)) ∧ OwnR w w0.heap.size 29 1 u32Cs iv (l.flatMap sel)

theorem SI.grow {w0 : World} {B0 F I : Nat} {sel : KV → List Int} {w w' : World} {l : List KV} (h : SI w0 B0 F I sel w l) (hF : F < w0.heap.size) (hI : I < w0.heap.size) (hB : B0 ≤ w0.heap.size) (hb : Below w.heap.size w w') : SI w0 B0 F I sel w' l := by
  obtain ⟨iv, h1, h2⟩ := h.ids
  have hs := h.size
  exact ⟨fun b hb' h3 h4 => (hb.block b (by omega)).trans (h.same b hb' h3 h4), Nat.le_trans h.size hb.size, h.below.trans (hb.mono (by omega)), (hb.block F (by omega)).trans h.fail, iv, (hb.block I (by omega)).trans h1, h2.below hb (Nat.le_refl _)⟩

/-- The inner visitor. -/
def Inner (w0 : World) (B0 F I tag : Nat) (ps : List KV) (sel : KV → List Int) (fid : FuncId) (caps : Array Value) : Prop :=
  ∀ w l p id vv, SI w0 B0 F I sel w l → l.length ≤ ps.length + 1 → p ∈ ps → p.1 = keyB tag id → U32 id → BytesAt w (w0.heap.size ≤ ·) vv p.2 → Calls Tryd.prog fid (#[.int .u32 id, vv] ++ caps) w fun e w' => e = .returned .nilIface ∧ SI w0 B0 F I sel w' (l ++ [p])

set_option maxRecDepth 100000 in
set_option maxHeartbeats 1000000 in
theorem scanIDs1_calls (w0 : World) (B0 F I V tag : Nat) (ps : List KV) (sel : KV → List Int) (fid : FuncId) (caps : Array Value) (hcf : ∀ args w, (callFunc fid args).run Tryd.prog w = .ok (.enter fid args) w) (hin : Inner w0 B0 F I tag ps sel fid caps) (hF : F < w0.heap.size) (hI : I < w0.heap.size) (hB : B0 ≤ w0.heap.size) (hBF : B0 ≤ F) (hV : V < w0.heap.size) (hVF : V ≠ F) (hVI : V ≠ I) (hFI : F ≠ I)
    (hV0 : w0.heap[V]? = some (.cells #[.func (.func fid) #[] caps] 152 (0, 0))) (ht : tag ≤ 255)
    (w : World) (l : List KV) (p : KV) (id : Int) (kv vv : Value) (h : SI w0 B0 F I sel w l) (hl : l.length ≤ ps.length + 1) (hp : p ∈ ps) (hk : p.1 = keyB tag id) (hid : U32 id) (hkv : BytesAt w (w0.heap.size ≤ ·) kv p.1) (hvv : BytesAt w (w0.heap.size ≤ ·) vv p.2) :
    Calls Tryd.prog 91 #[kv, vv, .pointer (some ⟨F, 0, none⟩), .pointer (some ⟨V, 0, none⟩)] w fun e w' => e = .returned (.bool true) ∧ SI w0 B0 F I sel w' (l ++ [p]) := by
  obtain ⟨ka, kn, kc, rfl, -⟩ := hkv.form'
  obtain ⟨va, vn, vc, rfl, -⟩ := hvv.form'
  obtain ⟨w1, hw1⟩ : ∃ w1, w1 = w.alloc (.cells #[.slice ka kn kc, .bool false] 182) := ⟨_, rfl⟩
  have hb1 : Below w.heap.size w w1 := by rw [hw1]; exact (Below.refl _ _).alloc (Nat.le_refl _) _
  have hs1 : w1.heap.size = w.heap.size + 1 := by rw [hw1]; simp
  have hR1 : ReaderAt w1 w.heap.size (.slice ka kn kc) false := by rw [hw1]; exact heap_alloc_at _ _
  have hB1 : BytesAt w1 (fun b => w0.heap.size ≤ b ∧ b < w.heap.size) (.slice ka kn kc) (d256 1 tag ++ (d256 4 id ++ [])) := by
    have := BytesAt.below (RArr.lt hkv) hb1
    rw [hk] at this
    simpa [keyB] using this
  have hsz := h.size
  have HSI := hide (h.grow hF hI hB hb1)
  have HVV := hide (RArr.lt hvv)
  have HIN := hide hin
  have HW1 := hide hw1
  have HK := hide hk
  obtain ⟨i1, i2⟩ := hid
  clear hkv hvv hw1 hin h hk
  go_enter Tryd.func91, Tryd.ntmps91
  go_upto_region 2 with (go_at_call 82; refine (newReader_calls _ ka kn kc).mono ?_; rintro e w2 ⟨rfl, rfl⟩; rw [← HW1.out])
  go_upto_region 3 with (go_at_call 88; refine (rU8_calls _ _ _ _ (tag : Int) _ hR1 hB1 (fun b hb => by have := hb.2; omega) (by omega) (by omega)).mono ?_; rintro e w2 ⟨v2, rfl, hR2, hB2, hw2⟩; obtain ⟨hk2, hs2⟩ := kept_read hw2; clear hw2)
  go_upto_region 4 with (go_at_call 83; refine (rU32_calls _ _ _ _ id _ hR2 hB2 (fun b hb => by have := hb.2; omega) i1 i2).mono ?_; rintro e w3 ⟨v3, rfl, hR3, hB3, hw3⟩; obtain ⟨hk3, hs3⟩ := kept_read hw3; clear hw3)
  have hkk : Kept w1 w3 w.heap.size := hk2.trans hk3
  have hs13 : w3.heap.size = w.heap.size + 1 := by omega
  have HSI3 : Hid (SI w0 B0 F I sel w3 l) := by
    obtain ⟨iv, h1, h2⟩ := HSI.out.ids
    refine ⟨fun b hb' h3 h4 => (hkk.same b ⟨by omega, by omega⟩).trans (HSI.out.same b hb' h3 h4), by omega, HSI.out.below.trans (hkk.below.mono (by omega)), (hkk.same F ⟨by omega, by omega⟩).trans HSI.out.fail, iv, (hkk.same I ⟨by omega, by omega⟩).trans h1, ?_⟩
    exact h2.mono (fun b hb => hkk.same b ⟨(h2.block b hb).2, by
      intro e
      subst e
      rcases h2.2 with ⟨q1, _⟩ | ⟨gg, cc, cur, q1, _, q3, _⟩
      · rw [q1] at hb; simp [Value.ownBlock] at hb
      · rw [q1] at hb
        simp only [Value.ownBlock, Option.some.injEq] at hb
        subst hb
        have := hR1
        unfold ReaderAt at this
        rw [q3] at this
        injection this with this
        injection this with _ this
        cases this⟩)
  have hV3 : w3.heap[V]? = some (.cells #[.func (.func fid) #[] caps] 152 (0, 0)) := (HSI3.out.same V hV hVF hVI).trans hV0
  obtain ⟨v0c, -, -⟩ := cell_one hV3
  have HVV3 : Hid (BytesAt w3 (w0.heap.size ≤ ·) (.slice va vn vc) p.2) := BytesAt.mono HVV.out (fun b hb => (hkk.same b ⟨by have := hb.2; omega, by have := hb.2; omega⟩).trans (hb1.block b hb.2)) (fun b hb => hb.1)
  go_upto_region 6 with (go_at_call 84; refine (done_calls _ _ _ _ hR3 hB3).mono ?_; rintro e w4 ⟨rfl, rfl⟩)
  have HCALL := hide (HIN.out w3 l p id _ HSI3.out hl hp HK.out ⟨i1, i2⟩ HVV3.out)
  go_wp2_with fail
  refine HCALL.out.mono ?_
  rintro e w5 ⟨rfl, hSI5⟩
  obtain ⟨f0, ff, hFl⟩ := cell_one hSI5.fail
  have HSI5 := hide hSI5
  clear hSI5
  go_wp2
  go_ret
  refine ⟨rfl, ?_⟩
  have hoth : ∀ b, b ≠ F → (w5.setCell ⟨F, 0, none⟩ .nilIface).heap[b]? = w5.heap[b]? := fun b hb => Below.heap_setCell _ _ _ _ hb
  obtain ⟨iv, h1, h2⟩ := HSI5.out.ids
  refine ⟨fun b hb h3 h4 => (hoth b h3).trans (HSI5.out.same b hb h3 h4), by simp [World.setCell]; exact HSI5.out.size, HSI5.out.below.setCell (p := ⟨F, 0, none⟩) hBF _, ?_, iv, (hoth I (Ne.symm hFI)).trans h1, h2.mono (fun b hb => hoth b (by have := (h2.block b hb).1; omega))⟩
  have := heap_setCell_same w5 F 0 #[.nilIface] 74 .nilIface HSI5.out.fail
  simpa using this

/-- A key's identifier. -/
def idOf (k : List Int) : Int := v256 (k.drop 1)
theorem idOf_key (tag id : Int) (h : U32 id) : idOf (keyB tag id) = id := by
  unfold idOf keyB
  rw [List.drop_left' (by rw [d256_len])]
  exact v256_d256 4 id h.1 (by have := h.2; omega)

theorem SI.len {w0 : World} {B0 F I : Nat} {sel : KV → List Int} {w : World} {l : List KV} (hsel : ∀ p, (sel p).length ≤ 1) (_h : SI w0 B0 F I sel w l) : (l.flatMap sel).length ≤ l.length := by
  clear _h
  induction l with
  | nil => simp
  | cons p r ih => simp only [List.flatMap_cons, List.length_append, List.length_cons]; have := hsel p; omega

/-- Behind the append of one number. -/
theorem SI.put {w0 : World} {B0 F I : Nat} {sel : KV → List Int} {w w1 : World} {l : List KV} {p : KV} {iv v1 : Value} (h : SI w0 B0 F I sel w l) (hI : I < w0.heap.size) (hF : F < w0.heap.size) (hFI : F ≠ I) (hBI : B0 ≤ I) (hB : B0 ≤ w0.heap.size) (hiv : w.heap[I]? = some (.cells #[iv] 31 (0, 0)))
    (hb : Below w0.heap.size w w1) (hown : OwnR w1 w0.heap.size 29 1 u32Cs v1 (l.flatMap sel ++ sel p)) :
    SI w0 B0 F I sel (w1.setCell ⟨I, 0, none⟩ v1) (l ++ [p]) := by
  have hsz := h.size
  have hlow : ∀ b, b < w0.heap.size → w1.heap[b]? = w.heap[b]? := fun b hb' => hb.block b hb'
  have hoth : ∀ b, b ≠ I → (w1.setCell ⟨I, 0, none⟩ v1).heap[b]? = w1.heap[b]? := fun b hb' => Below.heap_setCell _ _ _ _ hb'
  refine ⟨fun b hb' h3 h4 => (hoth b h4).trans ((hlow b hb').trans (h.same b hb' h3 h4)), by simp [World.setCell]; have := hb.size; omega, (h.below.trans (hb.mono hB)).setCell (p := ⟨I, 0, none⟩) hBI _, (hoth F hFI).trans ((hlow F hF).trans h.fail), v1, ?_, ?_⟩
  · have := heap_setCell_same w1 I 0 #[iv] 31 v1 ((hlow I hI).trans hiv)
    simpa using this
  · rw [List.flatMap_append]
    have : [p].flatMap sel = sel p := by simp
    rw [this]
    exact hown.mono (fun b hb' => hoth b (by have := (hown.block b hb').1; omega))

set_option maxRecDepth 100000 in
set_option maxHeartbeats 1000000 in
theorem sites1_inner (w0 : World) (B0 F I : Nat) (ps : List KV) (hF : F < w0.heap.size) (hI : I < w0.heap.size) (hFI : F ≠ I) (hBI : B0 ≤ I) (hB : B0 ≤ w0.heap.size) (hps : ps.length ≤ 1000000) :
    Inner w0 B0 F I 115 ps (fun p => [idOf p.1]) 70 #[.pointer (some ⟨I, 0, none⟩)] := by
  intro w l p id vv h hl hp hk hid hvv
  obtain ⟨va, vn, vc, rfl, -⟩ := hvv.form'
  obtain ⟨iv, h1, h2⟩ := h.ids
  obtain ⟨c0, cf, hIl⟩ := cell_one h1
  have hlen := h.len (fun _ => by simp)
  have hsz := h.size
  have HH := hide h
  have HH1 := hide h1
  have HH2 := hide h2
  have HID : Hid (idOf p.1 = id) := by show _ = _; rw [hk, idOf_key _ _ hid]
  obtain ⟨ia, icap, hiv⟩ := h2.form
  generalize hL : l.flatMap (fun p : KV => [idOf p.1]) = L at *
  have HL := hide hL
  generalize hLL : L.length = LL at hiv
  subst hiv
  clear h h1 hvv hk h2 hL
  show Calls Tryd.prog 70 #[.int .u32 id, .slice va vn vc, .pointer (some ⟨I, 0, none⟩)] w _
  go_enter Tryd.func70, Tryd.ntmps70
  go_wp2_with (at_builtin; refine wpList_app1 (α := Int) rfl _ _ 31 rfl w0.heap.size 29 u32Cs Tryd.underlying31 Tryd.info29 rfl (by decide) u32Cs_size u32Cs_one _ L rfl (OwnR.below HH2.out ((Below.refl _ _).alloc (Nat.le_refl _) _) (Nat.le_refl _)) _ rfl id (by rw [rng_alloc_at _ _ _ _ _ _ _ (by first | rfl | simp)]; rfl) (by omega) (by unfold maxLen; omega) (by simp; omega) ?_; intro v1 w1 hown1 hsame1 hbel1 hat1; have hI1 : w1.heap[I]? = some (.cells #[.slice ia LL icap] 31 (0, 0)) := (hbel1.block I hI).trans ((Below.heap_alloc _ _ _ hIl).trans HH1.out); obtain ⟨k0, kf, -⟩ := cell_one hI1; have HO1 := hide hown1; obtain ⟨b1, b2, hv1⟩ := hown1.form; generalize hL1 : (L ++ [id]).length = L1 at hv1; subst hv1; clear hown1)
  go_ret
  refine ⟨rfl, SI.put HH.out hI hF hFI hBI hB HH1.out (((Below.refl _ _).alloc (by omega) _).trans hbel1) ?_⟩
  rw [HL.out, HID.out]
  exact HO1.out


/-- Every key is a record's. -/
def KeysOk (ps : List KV) : Prop := ∀ p ∈ ps, ∃ t id : Int, 0 ≤ t ∧ t ≤ 255 ∧ U32 id ∧ p.1 = keyB t id

theorem key_range {t id : Int} {tag : Nat} (h0 : 0 ≤ t) (h1 : t ≤ 255) (h : inRange [(tag : Int)] [(tag : Int) + 1] none (keyB t id) = true) : t = tag := by
  have hk : keyB t id = t :: d256 4 id := by
    have : d256 1 t = [t] := by simp [d256]; omega
    rw [keyB, this]; rfl
  rw [hk] at h
  simp only [inRange, Bool.and_true, Bool.and_eq_true, Bool.not_eq_true'] at h
  obtain ⟨h2, h3⟩ := h
  simp only [ltB] at h2 h3
  split at h2
  · assumption
  · split at h3
    · cases h3
    · have a1 := of_decide_eq_false h2
      have a2 := of_decide_eq_true h3
      omega

set_option maxRecDepth 100000 in
set_option maxHeartbeats 2000000 in
theorem scanIDs_calls (w : World) (P S : Nat) (A : Nat → Prop) (ps : List KV) (full : Bool) (tag B0 I : Nat) (sel : KV → List Int) (fid : FuncId) (caps : Array Value) (h : PAt w P S A ps full) (hcf : ∀ args w, (callFunc fid args).run Tryd.prog w = .ok (.enter fid args) w) (ht : tag ≤ 200) (hk : KeysOk ps)
    (hBI : B0 ≤ I) (hAI : ¬ A I) (hSI : S ≠ I) (hI : w.heap[I]? = some (.cells #[.slice none 0 0] 31 (0, 0))) (hin : ∀ w0 : World, w0.heap.size = w.heap.size + 4 → (∀ b, b < w.heap.size → w0.heap[b]? = w.heap[b]?) → Inner w0 B0 (w.heap.size + 1) I tag ps sel fid caps) :
    Calls Tryd.prog 69 #[.pointer (some ⟨P, 0, none⟩), .int .u8 tag, .func (.func fid) #[] caps] w fun e w' => e = .returned .nilIface ∧ (∃ iv, w'.heap[I]? = some (.cells #[iv] 31 (0, 0)) ∧ OwnR w' w.heap.size 29 1 u32Cs iv ((scanB ps [(tag : Int)] [(tag : Int) + 1] (ps.length + 1) none).flatMap sel)) ∧ (∀ b, b < w.heap.size → b ≠ I → w'.heap[b]? = w.heap[b]?) ∧ Below B0 w w' := by
  have hIl := (cell_one hI).2.2
  obtain ⟨w0, hw0⟩ : ∃ w0, w0 = (((w.alloc (.cells #[.func (.func fid) #[] caps] 152)).alloc (.cells #[.nilIface] 74)).alloc (.cells #[.int .u8 tag] 5)).alloc (.cells #[.int .u8 ((tag : Int) + 1)] 5) := ⟨_, rfl⟩
  have hb0 : Below w.heap.size w w0 := by rw [hw0]; exact ((((Below.refl _ _).alloc (Nat.le_refl _) _).alloc (by simp) _).alloc (by simp; omega) _).alloc (by simp; omega) _
  have hs0 : w0.heap.size = w.heap.size + 4 := by rw [hw0]; simp
  have hV0 : w0.heap[w.heap.size]? = some (.cells #[.func (.func fid) #[] caps] 152 (0, 0)) := by
    rw [hw0, Below.heap_alloc _ _ _ (by simp; omega), Below.heap_alloc _ _ _ (by simp; omega), Below.heap_alloc _ _ _ (by simp)]
    exact heap_alloc_at _ _
  have hF0 : w0.heap[w.heap.size + 1]? = some (.cells #[.nilIface] 74 (0, 0)) := by
    rw [hw0, Below.heap_alloc _ _ _ (by simp), Below.heap_alloc _ _ _ (by simp)]
    have := heap_alloc_at (w.alloc (.cells #[.func (.func fid) #[] caps] 152)) (.cells #[.nilIface] 74)
    simpa using this
  have hfr : w0.heap[w.heap.size + 2]? = some (.cells #[.int .u8 tag] 5 (0, 0)) := by
    rw [hw0, Below.heap_alloc _ _ _ (by simp)]
    have := heap_alloc_at ((w.alloc (.cells #[.func (.func fid) #[] caps] 152)).alloc (.cells #[.nilIface] 74)) (.cells #[.int .u8 tag] 5)
    simpa using this
  have hto : w0.heap[w.heap.size + 3]? = some (.cells #[.int .u8 ((tag : Int) + 1)] 5 (0, 0)) := by
    rw [hw0]
    have := heap_alloc_at (((w.alloc (.cells #[.func (.func fid) #[] caps] 152)).alloc (.cells #[.nilIface] 74)).alloc (.cells #[.int .u8 tag] 5)) (.cells #[.int .u8 ((tag : Int) + 1)] 5)
    simpa using this
  have one : ∀ (W : World) (g : Nat) (x : Int), W.heap[g]? = some (.cells #[.int .u8 x] 5 (0, 0)) → BytesAt W (· = g) (.slice (some ⟨g, 0, none⟩) 1 1) [x] := fun W g x hg => by
    refine ⟨_, 1, g, 0, rfl, Nat.le_refl _, ⟨by unfold maxLen; omega, fun h => by cases h⟩, by simp, fun _ => ⟨rfl, rfl⟩, fun i hi => ?_⟩
    have h0 : i = 0 := by simpa using hi
    subst h0
    exact rng_one (by simp [World.cell?, hg])
  have hSI0 : SI w0 B0 (w.heap.size + 1) I sel w0 [] := ⟨fun _ _ _ _ => rfl, Nat.le_refl _, Below.refl _ _, hF0, _, (hb0.block I hIl).trans hI, OwnR.nil _ _ _ _ _⟩
  have hst0 := h.store.below hb0
  have hSl := h.store.size
  have hstore : ∀ W l, SI w0 B0 (w.heap.size + 1) I sel W l → StoreAt W S A ps full := fun W l hW =>
    hst0.mono (fun b hb => hW.same b (by rcases hb with hb | rfl; exact hst0.lt b hb; omega) (by rcases hb with hb | rfl; (have := h.store.lt b hb; omega); omega) (by rcases hb with hb | rfl; (intro e; exact hAI (e ▸ hb)); exact hSI)) hW.size
  have hVis : Vis S A ps full (w.heap.size + 1) w.heap.size w0.heap.size (.slice (some ⟨w.heap.size + 2, 0, none⟩) 1 1) (.slice (some ⟨w.heap.size + 3, 0, none⟩) 1 1) [(tag : Int)] [(tag : Int) + 1] (SI w0 B0 (w.heap.size + 1) I sel) := by
    refine ⟨fun W W' l hW hb => hW.grow (by omega) (by omega) (by omega) hb, hstore, fun W l hW => hW.size, fun W l hW => ⟨_, one W (w.heap.size + 2) _ ((hW.same _ (by omega) (by omega) (by omega)).trans hfr)⟩, fun W l hW => ⟨_, one W (w.heap.size + 3) _ ((hW.same _ (by omega) (by omega) (by omega)).trans hto)⟩, fun W l p kv vv hW hl hp hr hkv hvv => ?_⟩
    obtain ⟨t, id, t0, t1, hid, hpk⟩ := hk p hp
    rw [hpk] at hr
    have htt := key_range t0 t1 hr
    subst htt
    refine (scanIDs1_calls w0 B0 (w.heap.size + 1) I w.heap.size tag ps sel fid caps hcf (hin w0 hs0 (fun b hb => hb0.block b hb)) (by omega) (by omega) (by omega) (by omega) (by omega) (by omega) (by omega) (by omega) hV0 (by omega) W l p id kv vv hW hl hp hpk hid hkv hvv).mono ?_
    rintro e w' ⟨he, hw'⟩
    refine ⟨he, hw', fun b hb => ?_⟩
    have q1 := hst0.lt b hb
    have q2 : b ≠ w.heap.size + 1 := by have := h.store.lt b hb; omega
    have q3 : b ≠ I := fun e => hAI (e ▸ hb)
    exact (hw'.same b q1 q2 q3).trans (hW.same b q1 q2 q3).symm
  have HSC := hide (scan_calls w0 S A ps full (w.heap.size + 1) w.heap.size w0.heap.size _ _ 1 1 1 1 _ _ _ hVis (by simp) hSI0)
  obtain ⟨p0, pf, hPl⟩ := cell_one h.proto
  have HW0 := hide hw0
  clear hw0 hVis hSI0 hst0 hstore one hto hfr hF0 hV0 h hin hk hcf
  go_enter Tryd.func69, Tryd.ntmps69
  go_wp2_with (go_at_call 90; rw [← HW0.out]; refine HSC.out.mono ?_; rintro e w1 ⟨rfl, hSI1⟩; obtain ⟨f0, -, -⟩ := cell_one hSI1.fail)
  go_ret
  obtain ⟨iv, q1, q2⟩ := hSI1.ids
  exact ⟨rfl, ⟨iv, q1, q2.lower (by omega)⟩, fun b hb hbI => (hSI1.same b (by omega) (by omega) hbI).trans (hb0.block b hb), (hb0.mono (by omega)).trans hSI1.below⟩

def sitesOf (ps : List KV) : List Int := (scanB ps [115] [116] (ps.length + 1) none).flatMap fun p => [idOf p.1]

set_option maxRecDepth 100000 in
set_option maxHeartbeats 1000000 in
theorem sites_calls (w : World) (P S : Nat) (A : Nat → Prop) (ps : List KV) (full : Bool) (h : PAt w P S A ps full) (hk : KeysOk ps) (hps : ps.length ≤ 1000000) :
    Calls Tryd.prog 29 #[.pointer (some ⟨P, 0, none⟩)] w fun e w' => ∃ iv, e = .returned (.tuple #[iv, .nilIface]) ∧ OwnR w' w.heap.size 29 1 u32Cs iv (sitesOf ps) ∧ Below w.heap.size w w' := by
  have hb0 : Below w.heap.size w (w.alloc (.cells #[.slice none 0 0] 31)) := (Below.refl _ _).alloc (Nat.le_refl _) _
  have hSl := h.store.size
  have HC := hide (scanIDs_calls (w.alloc (.cells #[.slice none 0 0] 31)) P S A ps full 115 w.heap.size w.heap.size (fun p => [idOf p.1]) 70 #[.pointer (some ⟨w.heap.size, 0, none⟩)] (h.below hb0) (fun args w => by kernel_rfl) (by decide) hk (Nat.le_refl _) (fun hA => by have := h.store.lt _ hA; omega) (by omega) (heap_alloc_at _ _) (fun w0 hs0 _ => sites1_inner w0 _ _ _ ps (by simp at hs0; simp; omega) (by simp at hs0; omega) (by simp; omega) (Nat.le_refl _) (by simp at hs0; omega) hps))
  clear h
  go_enter Tryd.func29, Tryd.ntmps29
  go_wp2_with (go_at_call 69; refine HC.out.mono ?_; rintro e w1 ⟨rfl, ⟨iv, q1, q2⟩, q3, q4⟩; obtain ⟨c0, -, -⟩ := cell_one q1)
  go_ret2
  exact ⟨iv, rfl, q2.lower (by simp), hb0.trans q4⟩

/-- A subject's site. -/
def stOf (v : List Int) : Int := v256 (v.take 4)
theorem stOf_sub (s a : Int) (h : U32 s) : stOf (subB s a) = s := by
  unfold stOf subB
  rw [List.take_left' (by rw [d256_len])]
  exact v256_d256 4 s h.1 (by have := h.2; omega)

/-- Every subject's record can be read. -/
def SubsOk (ps : List KV) : Prop := ∀ p ∈ ps, ∀ id, U32 id → p.1 = keyB 117 id → ∃ st an, U32 st ∧ I64 an ∧ p.2 = subB st an

def selSub (site : Int) (p : KV) : List Int := if site = 0 ∨ stOf p.2 = site then [idOf p.1] else []
theorem selSub_len (site : Int) (p : KV) : (selSub site p).length ≤ 1 := by unfold selSub; split <;> simp

attribute [local go_sem ↓] exec_stSubject
attribute [local go_sem] run_stSubject ones_iii whole_alloc_lt whole_alloc_at whole_drew whole_setCell_other whole_setRow_other setRow_alloc_at setRow_alloc_lt

set_option maxRecDepth 100000 in
set_option maxHeartbeats 2000000 in
theorem subjects1_inner (w0 : World) (B0 F I X : Nat) (ps : List KV) (site : Int) (hF : F < w0.heap.size) (hI : I < w0.heap.size) (hFI : F ≠ I) (hBI : B0 ≤ I) (hB : B0 ≤ w0.heap.size) (hX : X < w0.heap.size) (hXF : X ≠ F) (hXI : X ≠ I) (hX0 : w0.heap[X]? = some (.cells #[.int .u32 site] 29 (0, 0))) (hps : ps.length ≤ 1000000) (hsub : SubsOk ps) :
    Inner w0 B0 F I 117 ps (selSub site) 71 #[.pointer (some ⟨X, 0, none⟩), .pointer (some ⟨I, 0, none⟩)] := by
  intro w l p id vv h hl hp hk hid hvv
  obtain ⟨st, an, s1, s2, hpv⟩ := hsub p hp id hid hk
  obtain ⟨va, vn, vc, rfl, -⟩ := hvv.form'
  have hsz := h.size
  rw [hpv] at hvv
  have HD := hide (decodeSubject_calls w id st an _ _ hvv s1 s2)
  have HH := hide h
  have hXw : w.heap[X]? = some (.cells #[.int .u32 site] 29 (0, 0)) := (h.same X hX hXF hXI).trans hX0
  have hlen := h.len (selSub_len site)
  have HSEL : Hid (selSub site p = if site = 0 ∨ st = site then [id] else []) := by
    show _ = _
    unfold selSub
    rw [hpv, stOf_sub _ _ s1, hk, idOf_key _ _ hid]
  clear h hvv hk hpv
  show Calls Tryd.prog 71 #[.int .u32 id, .slice va vn vc, .pointer (some ⟨X, 0, none⟩), .pointer (some ⟨I, 0, none⟩)] w _
  go_enter Tryd.func71, Tryd.ntmps71
  go_upto_region 2 with (go_at_call 66; refine HD.out.mono ?_; rintro e w1 ⟨rfl, hb1⟩)
  obtain ⟨w2, hw2⟩ : ∃ w2, w2 = w1.alloc (.cells #[.int .u32 id, .int .u32 st, .int .i64 an] 45) := ⟨_, rfl⟩
  have hb2 : Below w.heap.size w w2 := by rw [hw2]; exact hb1.alloc hb1.size _
  have x2 : w2.cell? ⟨X, 0, none⟩ = some (.int .u32 site) := by
    rw [hb2.cell (p := ⟨X, 0, none⟩) (by show X < _; omega)]; exact (cell_one hXw).1
  have e1 : w2.cell? ⟨w1.heap.size, 1, none⟩ = some (.int .u32 st) := by rw [hw2]; simp
  have HSI2 := hide (HH.out.grow hF hI hB hb2)
  have HW2 := hide hw2
  rw [← HW2.out]
  clear hw2
  obtain ⟨iv, h1, h2⟩ := HSI2.out.ids
  obtain ⟨c0, cf, hIl⟩ := cell_one h1
  have hsz2 := HSI2.out.size
  have HH1 := hide h1
  have HH2 := hide h2
  obtain ⟨ia, icap, hiv⟩ := h2.form
  generalize hL : l.flatMap (selSub site) = L at *
  have HL := hide hL
  generalize hLL : L.length = LL at hiv
  subst hiv
  clear h1 h2 hL
  by_cases hz : site = 0 ∨ st = site
  · rw [if_pos hz] at HSEL
    by_cases hz0 : site = 0
    · have hb0 : (site == 0) = true := by simp [hz0]
      clear hz hz0
      go_wp2_with (at_builtin; refine wpList_app1 (α := Int) rfl _ _ 31 rfl w0.heap.size 29 u32Cs Tryd.underlying31 Tryd.info29 rfl (by decide) u32Cs_size u32Cs_one _ L rfl (OwnR.below HH2.out ((Below.refl _ _).alloc (Nat.le_refl _) _) (Nat.le_refl _)) _ rfl id (by rw [rng_alloc_at _ _ _ _ _ _ _ (by first | rfl | simp)]; rfl) (by omega) (by unfold maxLen; omega) (by simp; omega) ?_; intro v1 w3 hown1 hsame1 hbel1 hat1; have hI1 : w3.heap[I]? = some (.cells #[.slice ia LL icap] 31 (0, 0)) := (hbel1.block I hI).trans ((Below.heap_alloc _ _ _ hIl).trans HH1.out); obtain ⟨k0, kf, -⟩ := cell_one hI1; have HO1 := hide hown1; obtain ⟨b1, b2, hv1⟩ := hown1.form; generalize hL1 : (L ++ [id]).length = L1 at hv1; subst hv1; clear hown1)
      go_ret
      refine ⟨rfl, SI.put HSI2.out hI hF hFI hBI hB HH1.out (((Below.refl _ _).alloc (by omega) _).trans hbel1) ?_⟩
      rw [HL.out, HSEL.out]
      exact HO1.out
    · have hse : st = site := by rcases hz with h | h; exact absurd h hz0; exact h
      have hb0 : (site == 0) = false := by simp [hz0]
      have hb1' : (st == site) = true := by simp [hse]
      clear hz hz0 hse
      go_wp2_with (at_builtin; refine wpList_app1 (α := Int) rfl _ _ 31 rfl w0.heap.size 29 u32Cs Tryd.underlying31 Tryd.info29 rfl (by decide) u32Cs_size u32Cs_one _ L rfl (OwnR.below HH2.out ((Below.refl _ _).alloc (Nat.le_refl _) _) (Nat.le_refl _)) _ rfl id (by rw [rng_alloc_at _ _ _ _ _ _ _ (by first | rfl | simp)]; rfl) (by omega) (by unfold maxLen; omega) (by simp; omega) ?_; intro v1 w3 hown1 hsame1 hbel1 hat1; have hI1 : w3.heap[I]? = some (.cells #[.slice ia LL icap] 31 (0, 0)) := (hbel1.block I hI).trans ((Below.heap_alloc _ _ _ hIl).trans HH1.out); obtain ⟨k0, kf, -⟩ := cell_one hI1; have HO1 := hide hown1; obtain ⟨b1, b2, hv1⟩ := hown1.form; generalize hL1 : (L ++ [id]).length = L1 at hv1; subst hv1; clear hown1)
      go_ret
      refine ⟨rfl, SI.put HSI2.out hI hF hFI hBI hB HH1.out (((Below.refl _ _).alloc (by omega) _).trans hbel1) ?_⟩
      rw [HL.out, HSEL.out]
      exact HO1.out
  · rw [if_neg hz] at HSEL
    have hb0 : (site == 0) = false := by simp; omega
    have hb1' : (st == site) = false := by simp; omega
    clear hz
    go_wp2
    go_ret
    refine ⟨rfl, ?_⟩
    have hq := HSI2.out
    refine ⟨hq.same, hq.size, hq.below, hq.fail, _, HH1.out, ?_⟩
    rw [List.flatMap_append, HL.out]
    have : [p].flatMap (selSub site) = [] := by simp [HSEL.out]
    rw [this, List.append_nil]
    exact HH2.out

def subsOf (ps : List KV) (site : Int) : List Int := (scanB ps [117] [118] (ps.length + 1) none).flatMap (selSub site)

set_option maxRecDepth 100000 in
set_option maxHeartbeats 1000000 in
theorem subjects_calls (w : World) (P S : Nat) (A : Nat → Prop) (ps : List KV) (full : Bool) (site : Int) (h : PAt w P S A ps full) (hk : KeysOk ps) (hsub : SubsOk ps) (hps : ps.length ≤ 1000000) :
    Calls Tryd.prog 30 #[.pointer (some ⟨P, 0, none⟩), .int .u32 site] w fun e w' => ∃ iv, e = .returned (.tuple #[iv, .nilIface]) ∧ OwnR w' w.heap.size 29 1 u32Cs iv (subsOf ps site) ∧ Below w.heap.size w w' := by
  obtain ⟨w1, hw1⟩ : ∃ w1, w1 = (w.alloc (.cells #[.int .u32 site] 29)).alloc (.cells #[.slice none 0 0] 31) := ⟨_, rfl⟩
  have hb0 : Below w.heap.size w w1 := by rw [hw1]; exact ((Below.refl _ _).alloc (Nat.le_refl _) _).alloc (by simp) _
  have hs1 : w1.heap.size = w.heap.size + 2 := by rw [hw1]; simp
  have hX1 : w1.heap[w.heap.size]? = some (.cells #[.int .u32 site] 29 (0, 0)) := by rw [hw1, Below.heap_alloc _ _ _ (by simp)]; exact heap_alloc_at _ _
  have hI1 : w1.heap[w.heap.size + 1]? = some (.cells #[.slice none 0 0] 31 (0, 0)) := by
    rw [hw1]
    have := heap_alloc_at (w.alloc (.cells #[.int .u32 site] 29)) (.cells #[.slice none 0 0] 31)
    simpa using this
  have hSl := h.store.size
  have HC := hide (scanIDs_calls w1 P S A ps full 117 w.heap.size (w.heap.size + 1) (selSub site) 71 #[.pointer (some ⟨w.heap.size, 0, none⟩), .pointer (some ⟨w.heap.size + 1, 0, none⟩)] (h.below hb0) (fun args w => by kernel_rfl) (by decide) hk (by omega) (fun hA => by have := h.store.lt _ hA; omega) (by omega) hI1 (fun w0 hs0 hold => subjects1_inner w0 _ _ _ w.heap.size ps site (by omega) (by omega) (by omega) (by omega) (by omega) (by omega) (by omega) (by omega) ((hold _ (by omega)).trans hX1) hps hsub))
  have HW1 := hide hw1
  clear h hw1
  go_enter Tryd.func30, Tryd.ntmps30
  go_wp2_with (go_at_call 69; rw [← HW1.out]; refine HC.out.mono ?_; rintro e w2 ⟨rfl, ⟨iv, q1, q2⟩, q3, q4⟩; obtain ⟨c0, -, -⟩ := cell_one q1)
  go_ret2
  exact ⟨iv, rfl, q2.lower (by omega), hb0.trans q4⟩

end Go.Proofs.Qxb6500665aDoor
