/- The text of a trail, plain: its lines, their forms, what they tell. -/
import Derived.Test.Qxb6500666aGreatDoorXLst
import Derived.Test.Qxb6500666aGreatDoorAudP
namespace Go.Proofs.Qxb6500666aGreatDoor
open Go.RowKit

/-- The names differ, and bear no bar and no newline. -/
structure NmG (rn kn : Nat → ByteArray) : Prop where
  r : ∀ k, 1 ≤ k → k ≤ 6 → PartOk (strB (rn k))
  k : ∀ k, 1 ≤ k → k ≤ 20 → PartOk (strB (kn k))
  ri : ∀ j k, 1 ≤ j → j ≤ 6 → 1 ≤ k → k ≤ 6 → strB (rn j) = strB (rn k) → j = k
  ki : ∀ j k, 1 ≤ j → j ≤ 30 → 1 ≤ k → k ≤ 20 → strB (kn j) = strB (kn k) → j = k
  r0 : strB (rn 0) = []
  k0 : strB (kn 0) = []
theorem nm_of {f : Nat → ByteArray} {top : Nat} {x : Int} {k : Nat} (hp : PartOk (strB (f k))) (h0 : strB (f 0) = []) (hi : ∀ j, 1 ≤ j → j ≤ top → strB (f j) = strB (f k) → j = k) (hx : U8 x) (h : strB (nmOf f top x) = strB (f k)) : x = k := by
  obtain ⟨n, rfl⟩ : ∃ n : Nat, x = n := ⟨x.toNat, by have := hx.1; omega⟩
  unfold nmOf at h
  by_cases h1 : (top : Int) < n
  · rw [if_pos (by simpa using h1)] at h
    exact absurd h.symm hp.1
  · rw [if_neg (by simpa using h1)] at h
    have h : strB (f n) = strB (f k) := h
    by_cases h2 : n = 0
    · subst h2
      rw [h0] at h
      exact absurd h.symm hp.1
    · rw [hi n (by omega) (by omega) h]
theorem trailer_xx (w : World) (R n cap b off : Nat) (data : List Int) (pos : Nat) (ln cnt : Int)
    (hR : ReaderAt w R (.slice (some ⟨b, off, none⟩) n cap) pos ln) (hbR : b ≠ R) (hcap : n ≤ cap ∧ cap ≤ maxLen) (hbl : b < w.heap.size) (hd : ∀ t (h : t < data.length), w.cell? ⟨b, off + t, none⟩ = some (.int .u8 data[t]))
    (hn : data.length = n) (hn2 : n ≤ 140737488355328) (hpos : pos ≤ n) (hn0 : 0 < n) (hln : 0 ≤ ln ∧ ln ≤ 1000000000000) (hBy : ByteL data) (hcnt : U32 cnt) :
    Calls Tryz.prog 113 #[.pointer (some ⟨R, 0, none⟩), .int .u32 cnt] w fun e w' => ∃ v, e = .returned v ∧ Hid (ErrCase w w' R v) ∧ Hid (v = .nilIface ↔ data = trailText (data.take pos) cnt) := by
  by_cases hg : data = trailText (data.take pos) cnt
  · refine (rtrailer_y w R b off n cap data (data.take pos) ln cnt (by rw [List.length_take, Nat.min_eq_left (by omega)]; exact hR) hbR ⟨hbl, hcap, hn, hn2, hd⟩ hg hcnt hln).mono fun e w' ⟨h1, h2, h3⟩ => ⟨_, h1, .ok rfl ⟨h2, h3⟩, ⟨fun _ => hg, fun _ => rfl⟩⟩
  · refine (trailer_x w R n cap b off data pos ln cnt hR hbR hcap hbl hd hn hn2 hpos hn0 ⟨hln.1, by omega⟩ hBy).mono fun e w' h => ?_
    obtain ⟨v, h1, h2, h3⟩ := h.one
    exact ⟨v, h1, h2, ⟨h3, fun e => absurd e hg⟩⟩
/-- The fields of an entry's line, behind its letter. -/
def entParts (rn kn : Nat → ByteArray) (x : Ent) : List (List Int) := [dec x.seq, strB (nmOf rn 6 x.role), dec x.issued, strB (nmOf kn 30 x.req.kind), dec x.req.user, dec x.req.now, dec x.req.id, dec x.req.ref, dec x.req.kit, dec x.req.subject, dec x.req.visit, dec x.req.role, dec x.req.cls, dec x.req.time, dec x.req.till, dec x.req.value, dec x.req.l0, dec x.req.l1, dec x.req.l2, lsp x.req.list]
def entL (rn kn : Nat → ByteArray) (x : Ent) : List Int := [69] ++ tailT (entParts rn kn x)
def trhL (n : Int) : List Int := [72] ++ tailT [[65], dec n]
theorem trLine_parts (rn kn : Nat → ByteArray) (x : Ent) : trLine rn kn x = entL rn kn x ++ [10] := by
  unfold trLine entL entParts
  rw [lstText_lsp]
  simp [tailT, fld]
theorem trHead_parts (n : Int) : trHead n = trhL n ++ [10] := by
  unfold trHead trhL
  simp [tailT, fld]
theorem nmOf_in {f : Nat → ByteArray} {top : Int} {k : Nat} (h : (k : Int) ≤ top) : nmOf f top k = f k := by
  unfold nmOf
  rw [if_neg (by simp; omega)]
  rfl
theorem part_dec (x : Int) : PartOk (dec x) := ⟨fun h => by have := dec_pos x; rw [h] at this; simp at this, fun c hc => by have := dec_range x c hc; omega⟩
theorem lstC_range : ∀ ids : List Int, ∀ c ∈ lstC ids, 44 ≤ c ∧ c ≤ 57
  | [], c, hc => by cases hc
  | y :: r, c, hc => by
    have hc : c ∈ (dec y ++ [44]) ++ lstC r := hc
    rcases List.mem_append.1 hc with hc | hc
    · rcases List.mem_append.1 hc with hc | hc
      · have := dec_range y c hc; omega
      · rw [List.mem_singleton.1 hc]; omega
    · exact lstC_range r c hc
theorem part_lsp (ids : List Int) : PartOk (lsp ids) := by
  by_cases h : ids = []
  · subst h
    exact ⟨by decide, fun c hc => by rw [List.mem_singleton.1 (show c ∈ [(45 : Int)] from hc)]; omega⟩
  · obtain ⟨l, x, rfl⟩ : ∃ l x, ids = l ++ [x] := ⟨ids.dropLast, ids.getLast h, (List.dropLast_concat_getLast h).symm⟩
    unfold lsp
    rw [if_neg (by simp), lstT_C]
    refine ⟨fun e => ?_, fun c hc => ?_⟩
    · have := congrArg List.length e
      have h1 := dec_pos x
      simp at this
      simp [this] at h1
    · rcases List.mem_append.1 hc with hc | hc
      · have := lstC_range l c hc; omega
      · have := dec_range x c hc; omega
structure EntV (x : Ent) (n : Int) : Prop where
  seq : x.seq = n
  role : ∃ k : Nat, 1 ≤ k ∧ k ≤ 6 ∧ x.role = k
  kind : ∃ k : Nat, 1 ≤ k ∧ k ≤ 20 ∧ x.req.kind = k
  len : x.req.list.length ≤ 12
theorem entV {x : Ent} {n : Int} : entOk x n = true ↔ EntV x n := by
  unfold entOk roleOk isCmd
  constructor
  · intro h
    split at h
    · rename_i h1
      split at h
      · rename_i h2
        split at h
        · rename_i h3
          simp at h1 h2 h3 h
          exact ⟨h1, ⟨x.role.toNat, by omega, by omega, by omega⟩, ⟨x.req.kind.toNat, by omega, by omega, by omega⟩, h⟩
        · cases h
      · cases h
    · cases h
  · rintro ⟨h1, ⟨j, a1, a2, a3⟩, ⟨k, b1, b2, b3⟩, h4⟩
    rw [if_pos (by simpa using h1), if_pos (by simp; omega), if_pos (by simp; omega)]
    simpa using h4
theorem ent_parts_ok {rn kn : Nat → ByteArray} (hg : NmG rn kn) {x : Ent} {n : Int} (h : EntV x n) : ∀ p ∈ [69] :: entParts rn kn x, PartOk p := by
  obtain ⟨-, ⟨j, a1, a2, a3⟩, ⟨k, b1, b2, b3⟩, -⟩ := h
  intro p hp
  simp only [entParts, List.mem_cons, List.not_mem_nil, or_false, a3, b3, nmOf_in (f := rn) (top := 6) (k := j) (by omega), nmOf_in (f := kn) (top := 30) (k := k) (by omega)] at hp
  rcases hp with rfl | rfl | rfl | rfl | rfl | rfl | rfl | rfl | rfl | rfl | rfl | rfl | rfl | rfl | rfl | rfl | rfl | rfl | rfl | rfl | rfl
  · exact ⟨by simp, by simp⟩
  all_goals first | exact part_dec _ | exact part_lsp _ | exact hg.r _ a1 a2 | exact hg.k _ b1 b2
/-- The form of each field of an entry's line. -/
def entFm (rn kn : Nat → ByteArray) : Nat → List Int → Prop
  | 0, p => p = [69]
  | 2, p => ∃ r : Nat, 1 ≤ r ∧ r ≤ 6 ∧ p = strB (rn r)
  | 4, p => ∃ r : Nat, 1 ≤ r ∧ r ≤ 20 ∧ p = strB (kn r)
  | 12, p => IsU8 p
  | 13, p => IsU8 p
  | 6, p => IsNum p
  | 14, p => IsNum p
  | 15, p => IsNum p
  | 16, p => IsNum p
  | 17, p => IsNum p
  | 18, p => IsNum p
  | 19, p => IsNum p
  | 20, p => ∃ l : List Int, l.length ≤ 12 ∧ (∀ y ∈ l, U32 y) ∧ p = lsp l
  | _, p => IsU32 p
def hdFm : Nat → List Int → Prop
  | 0, p => p = [72]
  | 1, p => p = [65]
  | _, p => IsU32 p
theorem ent_form {rn kn : Nat → ByteArray} {x : Ent} {n : Int} (h : EntV x n) (hn : U32 n) (hok : x.Ok) : ∀ j p, ([69] :: entParts rn kn x)[j]? = some p → entFm rn kn j p := by
  obtain ⟨hsq, ⟨r, a1, a2, a3⟩, ⟨k, b1, b2, b3⟩, hl⟩ := h
  have q := hok.req
  intro j p hp
  simp only [entParts, a3, b3, nmOf_in (f := rn) (top := 6) (k := r) (by omega), nmOf_in (f := kn) (top := 30) (k := k) (by omega)] at hp
  match j, hp with
  | 0, hp => injection hp with hp; exact hp.symm
  | 1, hp => injection hp with hp; exact ⟨_, by rw [hsq]; exact hn, hp.symm⟩
  | 2, hp => injection hp with hp; exact ⟨r, a1, a2, hp.symm⟩
  | 3, hp => injection hp with hp; exact ⟨_, hok.issued, hp.symm⟩
  | 4, hp => injection hp with hp; exact ⟨k, b1, b2, hp.symm⟩
  | 5, hp => injection hp with hp; exact ⟨_, q.user, hp.symm⟩
  | 6, hp => injection hp with hp; exact ⟨_, q.now, hp.symm⟩
  | 7, hp => injection hp with hp; exact ⟨_, q.id, hp.symm⟩
  | 8, hp => injection hp with hp; exact ⟨_, q.ref, hp.symm⟩
  | 9, hp => injection hp with hp; exact ⟨_, q.kit, hp.symm⟩
  | 10, hp => injection hp with hp; exact ⟨_, q.subject, hp.symm⟩
  | 11, hp => injection hp with hp; exact ⟨_, q.visit, hp.symm⟩
  | 12, hp => injection hp with hp; exact ⟨_, ⟨q.role.1, q.role.2⟩, hp.symm⟩
  | 13, hp => injection hp with hp; exact ⟨_, ⟨q.cls.1, q.cls.2⟩, hp.symm⟩
  | 14, hp => injection hp with hp; exact ⟨_, q.time, hp.symm⟩
  | 15, hp => injection hp with hp; exact ⟨_, q.till, hp.symm⟩
  | 16, hp => injection hp with hp; exact ⟨_, q.value, hp.symm⟩
  | 17, hp => injection hp with hp; exact ⟨_, q.l0, hp.symm⟩
  | 18, hp => injection hp with hp; exact ⟨_, q.l1, hp.symm⟩
  | 19, hp => injection hp with hp; exact ⟨_, q.l2, hp.symm⟩
  | 20, hp => injection hp with hp; exact ⟨_, hl, hok.list, hp.symm⟩
  | j + 21, hp => simp at hp
theorem dec_not45 {y : Int} (h : U32 y) : dec y ≠ [45] := fun e => by
  unfold dec at e
  rw [if_neg (by have := h.1; omega)] at e
  have := digs_range y.natAbs 45 (by rw [e]; exact List.mem_singleton.2 rfl)
  omega
theorem map_dec_inj : ∀ {a b : List Int}, a.map dec = b.map dec → a = b
  | [], [], _ => rfl
  | [], y :: b, h => by simp at h
  | x :: a, [], h => by simp at h
  | x :: a, y :: b, h => by
    simp only [List.map_cons, List.cons.injEq] at h
    rw [dec_inj h.1, map_dec_inj h.2]
theorem lsp_inj {a b : List Int} (ha : ∀ y ∈ a, U32 y) (hb : ∀ y ∈ b, U32 y) (h : lsp a = lsp b) : a = b := by
  have key : ∀ {c : List Int}, (∀ y ∈ c, U32 y) → c ≠ [] → lsp c ≠ [45] := fun {c} hc hne e => by
    have h1 := split_lsp hne
    rw [e] at h1
    have h2 : splitB 44 [45] = [[45]] := by decide
    rw [h2] at h1
    cases c with
    | nil => exact hne rfl
    | cons y r =>
      cases r with
      | nil => exact dec_not45 (hc y (List.mem_singleton.2 rfl)) (by simpa using h1.symm)
      | cons z r => simp at h1
  by_cases h1 : a = []
  · subst h1
    by_cases h2 : b = []
    · exact h2.symm
    · exact absurd h.symm (key hb h2)
  · by_cases h2 : b = []
    · subst h2
      exact absurd h (key ha h1)
    · have h3 := congrArg (splitB 44) h
      rw [split_lsp h1, split_lsp h2] at h3
      exact map_dec_inj h3
theorem ent_inj {rn kn : Nat → ByteArray} (hg : NmG rn kn) {x y : Ent} {m : Int} (hx : U8 x.role) (hx2 : U8 x.req.kind) (hxl : ∀ z ∈ x.req.list, U32 z) (hy : EntV y m) (hyl : ∀ z ∈ y.req.list, U32 z) (h : entParts rn kn x = entParts rn kn y) : x = y := by
  obtain ⟨-, ⟨r', c1, c2, c3⟩, ⟨k', d1, d2, d3⟩, -⟩ := hy
  simp only [entParts, c3, d3, nmOf_in (f := rn) (top := 6) (k := r') (by omega), nmOf_in (f := kn) (top := 30) (k := k') (by omega), List.cons.injEq, and_true] at h
  obtain ⟨e0, e1, e2, e3, e4, e5, e6, e7, e8, e9, e10, e11, e12, e13, e14, e15, e16, e17, e18, e19⟩ := h
  have f1 := nm_of (top := 6) (hg.r r' c1 c2) hg.r0 (fun j h1 h2 => hg.ri j r' h1 h2 c1 c2) hx e1
  have f3 := nm_of (top := 30) (hg.k k' d1 d2) hg.k0 (fun j h1 h2 => hg.ki j k' h1 h2 d1 d2) hx2 e3
  obtain ⟨x0, x1, x2, ⟨y0, y1, y2, y3, y4, y5, y6, y7, y8, y9, y10, y11, y12, y13, y14, y15, y16⟩⟩ := x
  obtain ⟨u0, u1, u2, ⟨v0, v1, v2, v3, v4, v5, v6, v7, v8, v9, v10, v11, v12, v13, v14, v15, v16⟩⟩ := y
  simp only at *
  rw [dec_inj e0, dec_inj e2, dec_inj e4, dec_inj e5, dec_inj e6, dec_inj e7, dec_inj e8, dec_inj e9, dec_inj e10, dec_inj e11, dec_inj e12, dec_inj e13, dec_inj e14, dec_inj e15, dec_inj e16, dec_inj e17, dec_inj e18, lsp_inj hxl hyl e19, c3, d3, f1, f3]
/-- A trail that the text renders. -/
structure Tv (rn kn : Nat → ByteArray) (data : List Int) (xs : List Ent) : Prop where
  rt : rtB 0 xs = true
  ok : ∀ x ∈ xs, x.Ok
  tx : data = trText rn kn xs
theorem rtB_at : ∀ {xs : List Ent} {i : Nat}, rtB i xs = true → ∀ j (h : j < xs.length), EntV xs[j] ((i + j + 1 : Nat) : Int)
  | [], i, _, j, h => absurd h (Nat.not_lt_zero _)
  | x :: r, i, hr, j, h => by
    unfold rtB at hr
    split at hr
    · rename_i h1
      cases j with
      | zero => exact entV.1 h1
      | succ j =>
        have := rtB_at hr j (by simpa using h)
        rw [show i + (j + 1) + 1 = i + 1 + j + 1 by omega]
        exact this
    · cases hr
theorem rtB_snoc {x : Ent} : ∀ {xs : List Ent} {i : Nat}, rtB i xs = true → entOk x (i + xs.length + 1 : Nat) = true → rtB i (xs ++ [x]) = true
  | [], i, _, h => by
    show rtB i [x] = true
    unfold rtB
    rw [if_pos (by simpa using h)]
    rfl
  | y :: r, i, hr, h => by
    show rtB i (y :: (r ++ [x])) = true
    unfold rtB at hr ⊢
    split at hr
    · rename_i h1
      rw [if_pos h1]
      refine rtB_snoc hr ?_
      rw [show i + 1 + r.length + 1 = i + (r.length + 1) + 1 by omega]
      simpa using h
    · cases hr
section
variable {rn kn : Nat → ByteArray} {data : List Int} {xs ys : List Ent} {P q : Nat} {m : Int}
theorem Tv.head (h : Tv rn kn data xs) : ∃ rest, data = data.take 0 ++ (([72] ++ tailT [[65], dec xs.length]) ++ 10 :: rest) := by
  refine ⟨flatL (trLine rn kn) xs ++ trailL (trHead xs.length ++ flatL (trLine rn kn) xs) xs.length ++ [10], ?_⟩
  conv => lhs; rw [h.tx]
  unfold trText trailText trailL
  rw [trHead_parts]
  unfold trhL
  simp
theorem head_parts_ok (n : Int) : ∀ p ∈ [72] :: [[65], dec n], PartOk p := fun p hp => by
  simp only [List.mem_cons, List.not_mem_nil, or_false] at hp
  rcases hp with rfl | rfl | rfl
  · exact ⟨by simp, by simp⟩
  · exact ⟨by simp, by simp⟩
  · exact part_dec _
theorem head_form {n : Nat} (hn : n ≤ 4294967295) : ∀ j p, ([72] :: [[65], dec (n : Int)])[j]? = some p → hdFm j p := fun j p hp => by
  match j, hp with
  | 0, hp => injection hp with hp; exact hp.symm
  | 1, hp => injection hp with hp; exact hp.symm
  | 2, hp => injection hp with hp; exact ⟨_, ⟨by omega, by omega⟩, hp.symm⟩
  | j + 3, hp => simp at hp
theorem Tv.line (h : Tv rn kn data xs) (ht : data.take P = trHead m ++ flatL (trLine rn kn) ys) (hm : m = xs.length) (hy : ys = xs.take q) (hq : q < xs.length) : ∃ rest, data = data.take P ++ (([69] ++ tailT (entParts rn kn xs[q])) ++ 10 :: rest) := by
  refine ⟨flatL (trLine rn kn) (xs.drop (q + 1)) ++ trailL (trHead xs.length ++ flatL (trLine rn kn) xs) xs.length ++ [10], ?_⟩
  rw [ht, hm, hy]
  conv => lhs; rw [h.tx]
  have e : flatL (trLine rn kn) xs = flatL (trLine rn kn) (xs.take q) ++ (trLine rn kn xs[q] ++ flatL (trLine rn kn) (xs.drop (q + 1))) := by
    conv => lhs; rw [← List.take_append_drop q xs, List.drop_eq_getElem_cons hq, flatL_append]
    rfl
  unfold trText trailText trailL
  generalize crc (trHead ↑xs.length ++ flatL (trLine rn kn) xs) = c
  rw [e, trLine_parts]
  unfold entL
  simp
theorem Tv.trail (h : Tv rn kn data xs) (ht : data.take P = trHead m ++ flatL (trLine rn kn) ys) (hm : m = xs.length) (hy : ys = xs) : data = trailText (data.take P) m := by
  rw [ht, hm, hy]
  exact h.tx
theorem Tv.len (h : Tv rn kn data xs) : xs.length ≤ data.length := by
  have : ∀ l : List Ent, l.length ≤ (flatL (trLine rn kn) l).length := by
    intro l
    induction l with
    | nil => simp
    | cons x r ih =>
      show _ ≤ (trLine rn kn x ++ flatL (trLine rn kn) r).length
      rw [List.length_append, trLine_parts]
      simp
      omega
  have h1 := this xs
  rw [h.tx]
  unfold trText trailText
  simp
  omega
/-- What the line's fields are, if the text goes on with a line of such fields. -/
def HUn (data : List Int) (P want : Nat) (ps : List (List Int)) : Prop := ∀ p0 r rest, data = data.take P ++ ((p0 ++ tailT r) ++ 10 :: rest) → (∀ p ∈ p0 :: r, PartOk p) → r.length + 1 = want → ps = p0 :: r
/-- The lines read so far. -/
structure TI (rn kn : Nat → ByteArray) (data : List Int) (ys : List Ent) (P m : Nat) : Prop where
  tx : data.take P = trHead m ++ flatL (trLine rn kn) ys
  rt : rtB 0 ys = true
  ok : ∀ x ∈ ys, x.Ok
  un : ∀ xs, Tv rn kn data xs → m = xs.length ∧ ys = xs.take ys.length
end
section
variable {rn kn : Nat → ByteArray} {data : List Int} {ys : List Ent} {P P2 m : Nat} {ps : List (List Int)} {xe : Ent}
theorem no_head (h : NoLine data 0 3) (xs : List Ent) : ¬ Tv rn kn data xs := fun ht => by
  obtain ⟨rest, hr⟩ := ht.head
  exact h [72] [[65], dec xs.length] rest hr (head_parts_ok _) rfl
theorem no_hfield (hu : HUn data 0 3 ps) (hl : data.length ≤ 4294967295) (hn : ∃ j p, ps[j]? = some p ∧ ¬ hdFm j p) (xs : List Ent) : ¬ Tv rn kn data xs := fun ht => by
  obtain ⟨rest, hr⟩ := ht.head
  have h1 := hu [72] [[65], dec xs.length] rest hr (head_parts_ok _) rfl
  obtain ⟨j, p, h2, h3⟩ := hn
  rw [h1] at h2
  exact h3 (head_form (n := xs.length) (by have := ht.len; omega) j p h2)
theorem TI.start (hu : HUn data 0 3 ps) (hps : ps = [[72], [65], dec (m : Int)]) (hl : data.take P = data.take 0 ++ lineB ps) : TI rn kn data [] P m := by
  refine ⟨?_, rfl, fun x hx => (by cases hx), fun xs ht => ?_⟩
  · rw [hl, hps, trHead_parts]
    show _ = _
    rw [List.take_zero, lineB_tail]
    simp [trhL, flatL]
  · obtain ⟨rest, hr⟩ := ht.head
    have h1 := hu [72] [[65], dec xs.length] rest hr (head_parts_ok _) rfl
    rw [hps] at h1
    simp only [List.cons.injEq, true_and, and_true] at h1
    have := dec_inj h1
    exact ⟨by omega, rfl⟩
theorem TI.line (h : TI rn kn data ys P m) (hg : NmG rn kn) (hq : ys.length < m) {xs : List Ent} (ht : Tv rn kn data xs) : ∃ (hx : ys.length < xs.length) (rest : List Int), data = data.take P ++ (([69] ++ tailT (entParts rn kn xs[ys.length])) ++ 10 :: rest) ∧ EntV xs[ys.length] ((ys.length + 1 : Nat) : Int) ∧ (∀ p ∈ [69] :: entParts rn kn xs[ys.length], PartOk p) ∧ xs[ys.length].Ok := by
  obtain ⟨h1, h2⟩ := h.un xs ht
  have hx : ys.length < xs.length := by omega
  have hv := rtB_at ht.rt ys.length hx
  rw [Nat.zero_add] at hv
  obtain ⟨rest, hr⟩ := ht.line h.tx (by omega) h2 hx
  exact ⟨hx, rest, hr, hv, ent_parts_ok hg hv, ht.ok _ (List.getElem_mem hx)⟩
theorem TI.no_line (h : TI rn kn data ys P m) (hg : NmG rn kn) (hq : ys.length < m) (hn : NoLine data P 21) (xs : List Ent) : ¬ Tv rn kn data xs := fun ht => by
  obtain ⟨hx, rest, hr, -, hp, -⟩ := h.line hg hq ht
  exact hn [69] _ rest hr hp rfl
theorem TI.no_field (h : TI rn kn data ys P m) (hg : NmG rn kn) (hq : ys.length < m) (hm : m ≤ 4294967295) (hu : HUn data P 21 ps) (hn : ∃ j p, ps[j]? = some p ∧ ¬ entFm rn kn j p) (xs : List Ent) : ¬ Tv rn kn data xs := fun ht => by
  obtain ⟨hx, rest, hr, hv, hp, ho⟩ := h.line hg hq ht
  have h1 := hu [69] _ rest hr hp rfl
  obtain ⟨j, p, h2, h3⟩ := hn
  rw [h1] at h2
  exact h3 (ent_form hv ⟨by omega, by omega⟩ ho j p h2)
theorem TI.right (h : TI rn kn data ys P m) (hg : NmG rn kn) (hq : ys.length < m) (hu : HUn data P 21 ps) (hps : ps = [69] :: entParts rn kn xe) (he : xe.Ok) {xs : List Ent} (ht : Tv rn kn data xs) : ∃ hx : ys.length < xs.length, xe = xs[ys.length] ∧ EntV xe ((ys.length + 1 : Nat) : Int) := by
  obtain ⟨hx, rest, hr, hv, hp, ho⟩ := h.line hg hq ht
  have h1 := hu [69] _ rest hr hp rfl
  rw [hps] at h1
  injection h1 with _ h1
  have h2 := ent_inj hg he.role he.req.kind he.list hv ho.list h1
  exact ⟨hx, h2, by rw [h2]; exact hv⟩
theorem TI.no_check (h : TI rn kn data ys P m) (hg : NmG rn kn) (hq : ys.length < m) (hu : HUn data P 21 ps) (hps : ps = [69] :: entParts rn kn xe) (he : xe.Ok) (hc : entOk xe ((ys.length + 1 : Nat) : Int) = false) (xs : List Ent) : ¬ Tv rn kn data xs := fun ht => by
  obtain ⟨-, -, hv⟩ := h.right hg hq hu hps he ht
  rw [entV.2 hv] at hc
  cases hc
theorem TI.next (h : TI rn kn data ys P m) (hg : NmG rn kn) (hq : ys.length < m) (hu : HUn data P 21 ps) (hps : ps = [69] :: entParts rn kn xe) (he : xe.Ok) (hc : entOk xe ((ys.length + 1 : Nat) : Int) = true) (hl : data.take P2 = data.take P ++ lineB ps) : TI rn kn data (ys ++ [xe]) P2 m := by
  refine ⟨?_, rtB_snoc h.rt (by rw [Nat.zero_add]; exact hc), fun x hx => ?_, fun xs ht => ?_⟩
  · rw [hl, h.tx, hps, lineB_tail, flatL_snoc, trLine_parts]
    simp [entL]
  · rcases List.mem_append.1 hx with hx | hx
    · exact h.ok x hx
    · rw [List.mem_singleton.1 hx]; exact he
  · obtain ⟨hx, h1, -⟩ := h.right hg hq hu hps he ht
    obtain ⟨h2, h3⟩ := h.un xs ht
    refine ⟨h2, ?_⟩
    rw [List.length_append, List.length_singleton, List.take_succ_eq_append_getElem hx, ← h3, h1]
theorem TI.no_trail (h : TI rn kn data ys P m) (hq : ys.length = m) (hn : data ≠ trailText (data.take P) m) (xs : List Ent) : ¬ Tv rn kn data xs := fun ht => by
  obtain ⟨h1, h2⟩ := h.un xs ht
  refine hn (ht.trail h.tx (by omega) ?_)
  rw [h2, List.take_of_length_le (by omega)]
theorem TI.good (h : TI rn kn data ys P m) (hq : ys.length = m) (hn : data = trailText (data.take P) m) : Tv rn kn data ys := by
  refine ⟨h.rt, h.ok, ?_⟩
  rw [h.tx, ← hq] at hn
  exact hn
end
end Go.Proofs.Qxb6500666aGreatDoor
