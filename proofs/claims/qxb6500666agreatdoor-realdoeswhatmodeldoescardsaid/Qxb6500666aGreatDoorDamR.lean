/- DamagedStoreIsSurvived: the store laid anew in memory, damaged; the law's own blocks. -/
import Derived.Test.Qxb6500666aGreatDoorDamQ
import Derived.Test.Qxb6500666aGreatDoorDmgB
import Derived.Test.Qxb6500666aGreatDoorRefQ
namespace Go.Proofs.Qxb6500666aGreatDoor
open Go.RowKit

/-- A world that keeps the blocks below H, but for one. -/
structure ExS (w : World) (H S : Nat) where
  world : World
  same : ∀ b, b < H → b ≠ S → world.heap[b]? = w.heap[b]?
theorem ExS.cell {w : World} {H S : Nat} (x : ExS w H S) (b o : Nat) (s : Option Nat) (h1 : b < H) (h2 : b ≠ S) : x.world.cell? ⟨b, o, s⟩ = w.cell? ⟨b, o, s⟩ := by
  unfold World.cell?
  rw [x.same b h1 h2]
theorem ExS.rng {w : World} {H S : Nat} (x : ExS w H S) (b o n : Nat) (h1 : b < H) (h2 : b ≠ S) : rng x.world b o n = Qxb6500666aGreatDoor.rng w b o n := rng_of_block (x.same b h1 h2) o n
theorem exS_const {w : World} {H S : Nat} (p : Prop) : (∀ _ : ExS w H S, p) = p := propext ⟨fun h => h ⟨w, fun _ _ _ => rfl⟩, fun h _ => h⟩
theorem wp_region_mixX {P : Program} {id : Nat} {Q : Exit → Act → World → Prop} {a : Act} {w : World} {ops : Array Oper} (H S : Nat) (R : List Nat) (hm : P.follows .mixedOrders = true)
    (h : wpMixT P .any ops Q (fun w' => ∃ x : ExS w H S, w' = x.world) R ops.size (Array.replicate ops.size false) a w.drew) :
    (Code.region id ops true).wp P Q a w :=
  wp_region_any hm (wpAny_of_mixT (S := fun w' => ∃ x : ExS w H S, w' = x.world) (R := R) _ _ _ _ h)
theorem exS_drew (w : World) (H S : Nat) : ∃ x : ExS w H S, w.drew = x.world := ⟨⟨w.drew, fun _ _ _ => rfl⟩, rfl⟩
theorem exS_below {w W : World} {H S : Nat} (h : Below H w W) : ∃ x : ExS w H S, W = x.world := ⟨⟨W, fun b hb _ => h.block b hb⟩, rfl⟩

theorem opByte_of {w : World} {ok : Nat → Prop} {p : Op} {cs : List Value} (hE : EOp w ok cs p) : ByteL p.data := by
  obtain ⟨rs, fs, dv, rfl, q1, q2, q3, q4, -, hdata, -⟩ := hE
  exact arr_all hdata (fun _ _ h => h.2)

theorem BJ.ly {w W : World} {K J : Nat → Prop} {t : ST} (h : BJ w W K J t) : ∀ g, J g → g ≠ w.heap.size ∧ g ≠ w.heap.size + 1 := fun g hg => by
  obtain ⟨Y, pv, A, ok, zs, x, h1, h2, h3, h4, h5⟩ := h
  exact ⟨(h5 g hg).2.1, (h5 g hg).2.2.1⟩
/-- A pair laid aside: its key's first byte, its value's length. -/
theorem pair_facts {W5 : World} {K0 : Nat → Prop} {b2 o2 : Nat} {z : ZP} {kv : KV} (hr : rng W5 b2 o2 2 = some (zCs z)) (h1 : BytesAt W5 K0 (sv z.1.1) kv.1) (h2 : BytesAt W5 K0 (sv z.1.2) kv.2) (hn : kv.1 ≠ []) (hB : ByteL kv.1) :
    ∃ kb ko n1 cp1 a2 cp2 k0, K0 kb ∧ 0 < n1 ∧ U8 k0 ∧ ∀ V : World, V.heap[b2]? = W5.heap[b2]? → V.heap[kb]? = W5.heap[kb]? → V.cell? ⟨b2, o2, none⟩ = some (.slice (some ⟨kb, ko, none⟩) n1 cp1) ∧ V.cell? ⟨b2, o2 + 1, none⟩ = some (.slice a2 kv.2.length cp2) ∧ V.cell? ⟨kb, ko, none⟩ = some (.int .u8 k0) := by
  have hp : 0 < kv.1.length := List.length_pos_iff.2 hn
  obtain ⟨a1, cp1, kb, ko, e1, l1, m1, r1, g1, c1⟩ := h1
  obtain ⟨a2, cp2, _, _, e2, _⟩ := h2
  obtain ⟨rfl, hk⟩ := g1 hp
  refine ⟨kb, ko, kv.1.length, cp1, a2, cp2, kv.1[0], hk, hp, hB _ (List.getElem_mem hp), fun V q1 q2 => ?_⟩
  rw [← rng_of_block q1] at hr
  have d0 := (rng_cell hr).2 0 (by decide)
  have d1 := (rng_cell hr).2 1 (by decide)
  have dk := c1 0 hp
  rw [← rng_of_block q2] at dk
  have dk := (rng_cell dk).2 0 (by decide)
  simp only [zCs, e1, e2, byteCs, List.getElem?_toArray, List.getElem?_cons_zero, List.getElem?_cons_succ, Nat.add_zero, Nat.zero_mul] at d0 d1 dk
  exact ⟨d0, d1, dk⟩

/-- The store and the layers laid anew: the store's list in block G, its bytes behind it. -/
structure DR (w W : World) (K J : Nat → Prop) (G Y : Nat) (x : LV) (ns : List ZP) (t : ST) : Prop where
  bn : BN W (w.heap.size + 2) Y w.heap.size (w.heap.size + 1) w.heap.size (.slice (some ⟨G, 0, none⟩) ns.length ns.length) (fun b => G < b ∧ b < W.heap.size) J ns t.full t.off t.lar x t.low
  ps : ns.map (·.2) = t.ps
  pk : PsOk t.ps
  bel : Below w.heap.size w W
  nf : NFs W G ns
  yl : Y < G
  lt : ∀ g, K g ∨ J g → g < G
  aw : ∀ g, K g → (g ≠ Y ∧ g ≠ w.heap.size ∧ g ≠ w.heap.size + 1) ∧ g ≠ w.heap.size + 2 ∧ ¬ J g
theorem DR.gz {w W : World} {K J : Nat → Prop} {G Y : Nat} {x : LV} {ns : List ZP} {t : ST} (h : DR w W K J G Y x ns t) : G < W.heap.size := (h.bn.bs.stm.own.block G rfl).2
/-- The bench out of its parts. -/
theorem BN.bj {w W : World} {K J : Nat → Prop} {Y G : Nat} {n c : Nat} {A : Nat → Prop} {x : LV} {ns : List ZP} {t : ST} (h : BN W (w.heap.size + 2) Y w.heap.size (w.heap.size + 1) w.heap.size (.slice (some ⟨G, 0, none⟩) n c) A J ns t.full t.off t.lar x t.low) (hps : ns.map (·.2) = t.ps) (hb : Below w.heap.size w W) (hl : ∀ g, K g ∨ J g → g < G) (hA : ∀ b, A b → G < b) (ha : ∀ g, K g → (g ≠ Y ∧ g ≠ w.heap.size ∧ g ≠ w.heap.size + 1) ∧ g ≠ w.heap.size + 2 ∧ ¬ J g) : BJ w W K J t := by
  have hG := (h.bs.stm.own.block G rfl).2
  refine ⟨Y, _, A, J, ns, x, h, hps, hb, fun g hg => ?_, fun g hg => ?_⟩
  · have h1 := ha g hg
    have h2 := hl g (Or.inl hg)
    exact ⟨by omega, h1.1, h1.2.1, fun e => by (have e : G = g := Option.some.inj e; omega), fun e => by (have := hA g e; omega), h1.2.2⟩
  · have q := h.bs.okl g hg
    exact ⟨q.1, q.2.1, q.2.2.1, fun e => h.n4 (e ▸ hg), q.2.2.2⟩
theorem DR.bj {w W : World} {K J : Nat → Prop} {G Y : Nat} {x : LV} {ns : List ZP} {t : ST} (h : DR w W K J G Y x ns t) : BJ w W K J t := BN.bj h.bn h.ps h.bel h.lt (fun _ q => q.1) h.aw

theorem BJ.reset {w V W2 : World} {K J : Nat → Prop} {t : ST} {x0 : LV} {L0 : Low} {ns : List ZP} {G : Nat} (h : BJ w V K J t) (hG : V.heap.size ≤ G)
    (hown : OwnR W2 w.heap.size 171 2 zCs (.slice (some ⟨G, 0, none⟩) ns.length ns.length) ns) (hzip : Zip W2 (fun b => G < b ∧ b < W2.heap.size) ns) (hnf : NFs W2 G ns) (hpk : PsOk (ns.map (·.2))) (hlow : LowAt W2 J x0 L0) (hz : V.heap.size ≤ W2.heap.size)
    (hs : ∀ b, b < V.heap.size → b ≠ w.heap.size → b ≠ w.heap.size + 1 → W2.heap[b]? = V.heap[b]?) (htop : W2.heap[w.heap.size]? = some (.cells #[.slice (some ⟨G, 0, none⟩) ns.length ns.length, .bool t.full, .int .i64 t.off, .int .i64 t.lar] 131 (0, 0))) (hlb : W2.heap[w.heap.size + 1]? = some (.cells (lvCs x0) 83 (0, 0))) (hbel : Below w.heap.size w W2) (hKJ : ∀ g, K g → ¬ J g) :
    ∃ Y, DR w W2 K J G Y x0 ns { t with ps := ns.map (·.2), low := L0 } := by
  obtain ⟨Y, pv, A, ok, zs, x, h1, h2, h3, h4, h5⟩ := h
  have y1 := blk_lt h1.bs.sys
  have y2 := blk_lt h1.bn
  have hk := h1.bs.ne
  have hn := h1.ne
  refine ⟨Y, ⟨h1.reset hz (hs Y y1 hk.2.1 hk.2.2) (hs _ y2 hn.2.1 hn.2.2) htop hlb hown hzip (fun b e => ?_) (fun b e => ⟨by omega, e.2⟩) hlow (fun b e => ?_), rfl, hpk, hbel, hnf, by omega, fun g hg => ?_, fun g hg => ?_⟩⟩
  · have e : G = b := Option.some.inj e
    subst e
    exact ⟨hG, fun q => by omega⟩
  · have q := h5 b e
    exact ⟨q.1, q.2.1, q.2.2.1, q.2.2.2.1⟩
  · rcases hg with hg | hg
    · have := (h4 g hg).1; omega
    · have := (h5 g hg).1; omega
  · obtain ⟨a1, a2, a3, a4, a5⟩ := (h4 g hg).2
    exact ⟨a1, a2, hKJ g hg⟩

section
variable {w W : World} {K J : Nat → Prop} {G Y : Nat} {x : LV} {ns : List ZP} {t : ST}
theorem DR.len (h : DR w W K J G Y x ns t) : ns.length = t.ps.length := by rw [← h.ps, List.length_map]
theorem DR.cells (h : DR w W K J G Y x ns t) (hl : ns.length ≤ 140737488355328) {q : Nat} (hq : q < ns.length) : W.cell? ⟨G, q * 2 + 1, none⟩ = some (sv ns[q].1.2) := by
  obtain ⟨g, cap, e, -, -, hr⟩ := h.bn.bs.stm.own.elem zCs_size (by decide) hl (by omega)
  injection e with e
  injection e with e
  injection e with e
  subst e
  have := (rng_cell (hr q hq)).2 1 (by decide)
  simpa [zCs] using this
/-- A byte of a record, and what writing it does. -/
theorem DR.byte (h : DR w W K J G Y x ns t) (hl : ns.length ≤ 140737488355328) {q : Nat} (hq : q < ns.length) (hp : 0 < ns[q].2.2.length) : ∃ vb vo vc, W.cell? ⟨G, q * 2 + 1, none⟩ = some (.slice (some ⟨vb, vo, none⟩) ns[q].2.2.length vc) ∧ vb < W.heap.size ∧ ∀ i : Nat, i < ns[q].2.2.length → ∃ y, W.cell? ⟨vb, vo + i, none⟩ = some (.int .u8 y) ∧ W.frozen? ⟨vb, vo + i, none⟩ = false ∧
    ∀ c : Int, 0 ≤ c ∧ c ≤ 255 → ∃ ps', BJ w (W.setCell ⟨vb, vo + i, none⟩ (.int .u8 c)) K J { t with ps := ps' } ∧ PsOk ps' ∧ ps'.length = t.ps.length ∧ ∀ g, K g ∨ J g → (W.setCell ⟨vb, vo + i, none⟩ (.int .u8 c)).heap[g]? = W.heap[g]? := by
  have hc := h.cells hl hq
  obtain ⟨a, cap, vb, vo, e, h1, h2, h3, h4, h5⟩ := (h.bn.bs.stm.zip _ (List.getElem_mem hq)).2
  obtain ⟨ha, hA⟩ := h4 hp
  subst ha
  rw [e] at hc
  have he : ns[q].1.2.1 = some ⟨vb, vo, none⟩ := by
    have := e
    unfold sv at this
    injection this
  obtain ⟨n1, cs, T, n2⟩ := h.nf _ (List.getElem_mem hq) _ he
  have n1 : G < vb := n1
  have n2 : W.heap[vb]? = some (.cells cs T (0, 0)) := n2
  refine ⟨vb, vo, cap, hc, blk_lt n2, fun i hi => ⟨ns[q].2.2[i], ?_, by simp [World.frozen?, n2], fun c hc' => ?_⟩⟩
  · have := (rng_cell (h5 i hi)).2 0 (by decide)
    simpa [byteCs] using this
  · have hk : ¬ J vb := fun e => by have := h.lt vb (Or.inr e); omega
    obtain ⟨zs', k1, k2, k3⟩ := h.bn.byte (by rw [h.ps]; exact h.pk) (i := vo + i) n2 ⟨n1, blk_lt n2⟩ (by have := h.yl; omega) hk hc'
    have hs : ∀ g, g < G → (W.setCell ⟨vb, vo + i, none⟩ (.int .u8 c)).heap[g]? = W.heap[g]? := fun g hg => Below.heap_setCell _ _ _ _ (by show g ≠ vb; omega)
    have hwg : w.heap.size < G := by have := blk_lt h.bn.bs.stm.top; have := h.bn.bs.stm.sep G rfl; have := h.bn.bs.stm.own.block G rfl; omega
    refine ⟨zs'.map (·.2), BN.bj (t := { t with ps := zs'.map (·.2) }) (G := G) k1 rfl ⟨h.bel.1, h.bel.2, h.bel.3, by have := h.bel.size; simpa using this, fun g hg => (hs g (by omega)).trans (h.bel.block g hg)⟩ h.lt (fun b q => q.1) h.aw, k2, by rw [List.length_map, k3, h.len], fun g hg => hs g (h.lt g hg)⟩
/-- A record's bytes put away for others. -/
theorem DR.new (h : DR w W K J G Y x ns t) {q : Nat} (hq : q < ns.length) {W1 : World} (hb : Below W.heap.size W W1) {a : Option Addr} {n c : Nat} {bs : List Int} (hB : BytesAt W1 (W.heap.size ≤ ·) (.slice a n c) bs) (hl : ByteL bs) : (∃ cl, W1.cell? ⟨G, q * 2 + 1, none⟩ = some cl) ∧ W1.frozen? ⟨G, q * 2 + 1, none⟩ = false ∧ ∃ ps', BJ w (W1.setCell ⟨G, q * 2 + 1, none⟩ (.slice a n c)) K J { t with ps := ps' } ∧ PsOk ps' ∧ ps'.length = t.ps.length ∧ ∀ g, K g ∨ J g → (W1.setCell ⟨G, q * 2 + 1, none⟩ (.slice a n c)).heap[g]? = W.heap[g]? := by
  have hG := h.gz
  have y1 := blk_lt h.bn.bs.sys
  have y2 := blk_lt h.bn.bn
  have y3 := blk_lt h.bn.bs.lb
  have y4 := blk_lt h.bn.bs.stm.top
  obtain ⟨g, zs', ⟨cap, e⟩, e1, e2, e3, e4, e5⟩ := (h.bn.below hb).newval (by rw [h.ps]; exact h.pk) hq hB hl ⟨y2, y1, y4, y3, fun b e => by (have e : G = b := Option.some.inj e; omega), fun b e => (h.bn.bs.okl b e).1⟩
  injection e with e
  injection e with e
  injection e with e
  subst e
  have hwg : w.heap.size < G := by have := h.bn.bs.stm.sep G rfl; have := h.bn.bs.stm.own.block G rfl; omega
  have hs : ∀ g, g < G → (W1.setCell ⟨G, q * 2 + 1, none⟩ (.slice a n c)).heap[g]? = W.heap[g]? := fun g hg => (Below.heap_setCell _ _ _ _ (by show g ≠ G; omega)).trans (hb.block g (by omega))
  refine ⟨e1, e2, zs'.map (·.2), BN.bj (t := { t with ps := zs'.map (·.2) }) (G := G) e3 rfl ⟨hb.1.trans h.bel.1, hb.2.trans h.bel.2, hb.3.trans h.bel.3, by have := h.bel.size; have := hb.size; simp; omega, fun g hg => (hs g (by omega)).trans (h.bel.block g hg)⟩ h.lt (fun b q => q.elim (fun q => q.1) (fun q => by omega)) h.aw, e4, by rw [List.length_map, e5, h.len], fun g hg => hs g (h.lt g hg)⟩
end

/-- How often each kind of record was tried. -/
def TrB (V : World) (M n : Nat) : Prop := ∃ f, MapB V M n (.int .i64 0) f ∧ ∀ k, U8 k → ∃ i : Nat, (f k).getD (.int .i64 0) = .int .i64 i ∧ i ≤ n
theorem TrB.same {V V' : World} {M n : Nat} (h : TrB V M n) (hb : V'.heap[M]? = V.heap[M]?) : TrB V' M n := by
  obtain ⟨f, h1, h2⟩ := h
  exact ⟨f, h1.same hb, h2⟩
theorem TrB.made (V : World) : TrB (V.alloc (.map #[] 0)) V.heap.size 0 := ⟨_, MapB.made V _, fun _ _ => ⟨0, rfl, Nat.le_refl _⟩⟩
theorem Tryz.mapTried : Tryz.prog.underlying 175 = some (.map 5 3) := by kernel_rfl
theorem Tryz.zeroIntz (w : World) : (zeroValue 3).run Tryz.prog w = .ok (.int .i64 0) w := by kernel_rfl
theorem TrB.try {V : World} {M n : Nat} (h : TrB V M n) (hn : n < maxLen) {k : Int} (hk : U8 k) : ∃ i : Nat, i ≤ n ∧ (Instr.lookup 175 (.map (some M)) (.int .u8 k) false).run Tryz.prog V = .ok (.int .i64 i) V ∧ ∃ W, (Instr.mapUpdate 175 (.map (some M)) (.int .u8 k) (.int .i64 (i + 1))).run Tryz.prog V = .ok () W ∧ TrB W M (n + 1) ∧ (Instr.lookup 175 (.map (some M)) (.int .u8 k) false).run Tryz.prog W = .ok (.int .i64 (i + 1)) W ∧ V.grownBy W (some M) := by
  obtain ⟨f, h1, h2⟩ := h
  obtain ⟨i, e, hi⟩ := h2 k hk
  obtain ⟨W, q1, q2, q3⟩ := h1.put Tryz.mapTried hn hk (.int .i64 (i + 1))
  refine ⟨i, hi, by rw [h1.look Tryz.mapTried (Tryz.zeroIntz V) hk, e], W, q1, ⟨_, q2, fun j hj => ?_⟩, ?_, q3⟩
  · by_cases ej : j = k
    · subst ej
      exact ⟨i + 1, by simp [upd], by omega⟩
    · obtain ⟨i', e', hi'⟩ := h2 j hj
      exact ⟨i', by simp only [upd, if_neg ej]; exact e', by omega⟩
  · rw [q2.look Tryz.mapTried (Tryz.zeroIntz W) hk]
    simp [upd]

/-- The law's blocks. -/
def KL (N3 N5 D M : Nat) (E : Nat → Prop) (g : Nat) : Prop := (N3 ≤ g ∧ g < N5) ∨ g = D ∨ g = M ∨ E g
/-- The bench beside what the law keeps: its lists (blocks from N3 to W5's end), the layers' old blocks J, a step's copy D, the map M, and more E. -/
structure DL (w W5 V : World) (N3 : Nat) (J E : Nat → Prop) (D M : Nat) (oc : Array Value) (n : Nat) (t : ST) : Prop where
  bj : BJ w V (KL N3 W5.heap.size D M E) J t
  same : ∀ g, (N3 ≤ g ∧ g < W5.heap.size) ∨ J g → V.heap[g]? = W5.heap[g]?
  d : V.heap[D]? = some (.cells oc 61 (0, 0))
  mp : TrB V M n
section
variable {w W5 V W : World} {N3 : Nat} {J E E' : Nat → Prop} {D M : Nat} {oc : Array Value} {n : Nat} {t t' : ST}
theorem DL.next (h : DL w W5 V N3 J E D M oc n t) (hb : BJ w W (KL N3 W5.heap.size D M E) J t') (hs : ∀ g, KL N3 W5.heap.size D M E g ∨ J g → W.heap[g]? = V.heap[g]?) : DL w W5 W N3 J E D M oc n t' :=
  ⟨hb, fun g q => (hs g (q.elim (fun q => Or.inl (Or.inl q)) Or.inr)).trans (h.same g q), (hs D (Or.inl (Or.inr (Or.inl rfl)))).trans h.d, h.mp.same (hs M (Or.inl (Or.inr (Or.inr (Or.inl rfl)))))⟩
theorem DL.more (h : DL w W5 V N3 J E D M oc n t) (hb : Below V.heap.size V W) (hE : ∀ g, E' g → E g ∨ (V.heap.size ≤ g ∧ g < W.heap.size)) : DL w W5 W N3 J E' D M oc n t := by
  have hl : ∀ g, KL N3 W5.heap.size D M E g ∨ J g → W.heap[g]? = V.heap[g]? := fun g q => hb.block g (h.bj.lt q)
  refine ⟨h.bj.more hb (fun g q => ?_) (fun g q => Or.inl q), fun g q => (hl g (q.elim (fun q => Or.inl (Or.inl q)) Or.inr)).trans (h.same g q), (hl D (Or.inl (Or.inr (Or.inl rfl)))).trans h.d, h.mp.same (hl M (Or.inl (Or.inr (Or.inr (Or.inl rfl)))))⟩
  rcases q with q | q | q | q
  · exact Or.inl (Or.inl q)
  · exact Or.inl (Or.inr (Or.inl q))
  · exact Or.inl (Or.inr (Or.inr (Or.inl q)))
  · exact (hE g q).elim (fun q => Or.inl (Or.inr (Or.inr (Or.inr q)))) Or.inr
theorem DL.below (h : DL w W5 V N3 J E D M oc n t) (hb : Below V.heap.size V W) : DL w W5 W N3 J E D M oc n t := h.more hb (fun _ q => Or.inl q)
theorem DL.tried (h : DL w W5 V N3 J E D M oc n t) (hM : w.heap.size ≤ M) (hD : D ≠ M) (h5 : W5.heap.size ≤ M) (hJ : ∀ g, J g → g < W5.heap.size) (hg : V.grownBy W (some M)) (hm : TrB W M (n + 1)) : DL w W5 W N3 J E D M oc (n + 1) t := by
  have hl : ∀ g, g < V.heap.size → g ≠ M → W.heap[g]? = V.heap[g]? := fun g h1 h2 => hg.block g h1 (by simpa using h2)
  refine ⟨h.bj.mine (fun b h1 h2 => hl b h1 (fun e => h2 (Or.inr (Or.inr (Or.inl e))))) hg.size (h.bj.bx.blw.trans ((Below.refl _ _).grown hg h.bj.bx.blw.size (fun j hj => by cases hj; exact hM))), fun g q => (hl g (h.bj.lt (q.elim (fun q => Or.inl (Or.inl q)) Or.inr)) ?_).trans (h.same g q), (hl D (blk_lt h.d) hD).trans h.d, hm⟩
  rcases q with q | q
  · omega
  · have := hJ g q; omega
/-- A bare request as a step. -/
theorem DL.step {okg : Nat → Prop} {rn kn ft : Nat → ByteArray} (h : DL w W5 V N3 J E D M oc n t) (hp : PO t.ps t.low) {r : Req} (hr : QOk r) (hgl : Gl V w.heap.size rn kn ft okg) (hoff : 0 ≤ t.off ∧ t.off ≤ 1000000000000000) :
    Calls Tryz.prog 21 #[.pointer (some ⟨w.heap.size + 2, 0, none⟩), .agg (qCs r)] V fun e w' => ∃ ans, e = .returned (.agg (ansCs ans)) ∧ DL w W5 w' N3 J E D M oc n (stepR t (qOp r)) ∧ (∀ g, E g → w'.heap[g]? = V.heap[g]?) ∧ V.heap.size ≤ w'.heap.size := by
  refine (h.bj.step hp (hr.inn V) hgl hoff).mono ?_
  rintro e w' ⟨ans, he, h1, h2, h3⟩
  exact ⟨ans, he, h.next h1 h2, fun g q => h2 g (Or.inl (Or.inr (Or.inr (Or.inr q)))), h3⟩
end
/-- The same between the tries. -/
structure DK (w W5 V : World) (N3 : Nat) (J : Nat → Prop) (t : ST) : Prop where
  bj : BJ w V (fun g => N3 ≤ g ∧ g < W5.heap.size) J t
  same : ∀ g, (N3 ≤ g ∧ g < W5.heap.size) ∨ J g → V.heap[g]? = W5.heap[g]?
section
variable {w W5 V W : World} {N3 : Nat} {J E E' : Nat → Prop} {D M : Nat} {oc : Array Value} {n : Nat} {t t' : ST}
theorem DK.below (h : DK w W5 V N3 J t) (hb : Below V.heap.size V W) : DK w W5 W N3 J t := ⟨h.bj.below hb, fun g q => (hb.block g (h.bj.lt q)).trans (h.same g q)⟩
theorem DK.dl (h : DK w W5 V N3 J t) (hd : V.heap[D]? = some (.cells oc 61 (0, 0))) (hx : BJ w V (fun g => (N3 ≤ g ∧ g < W5.heap.size) ∨ g = D) J t) : DL w W5 (V.alloc (.map #[] 0)) N3 J (fun _ => False) D V.heap.size oc 0 t := by
  have hb : Below V.heap.size V (V.alloc (.map #[] 0)) := (Below.refl _ _).alloc (Nat.le_refl _) _
  refine ⟨hx.more hb (fun g q => ?_) (fun g q => Or.inl q), fun g q => (hb.block g (h.bj.lt q)).trans (h.same g q), (hb.block _ (blk_lt hd)).trans hd, TrB.made V⟩
  rcases q with q | q | q | q
  · exact Or.inl (Or.inl q)
  · exact Or.inl (Or.inr q)
  · exact Or.inr ⟨by omega, by rw [q]; simp⟩
  · exact q.elim
theorem DL.dk (h : DL w W5 V N3 J E D M oc n t) : DK w W5 V N3 J t := ⟨h.bj.more (Below.refl _ _) (fun _ q => Or.inl (Or.inl q)) (fun _ q => Or.inl q), h.same⟩
end

end Go.Proofs.Qxb6500666aGreatDoor
