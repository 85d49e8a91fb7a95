/- The size guard zzSmall1, codeOf, and what is read of a step. -/
import Derived.Test.Qxb6500666aGreatDoorScript
import Derived.WalkSpells
import Derived.WalkLawsBesides
namespace Go.Proofs.Qxb6500666aGreatDoor
open Go.RowKit

def sumOf {α : Type} (f : α → Nat) : List α → Nat
  | [] => 0
  | x :: r => f x + sumOf f r
def Op.weight (o : Op) : Nat := o.req.list.length + o.data.length + o.file.changes.length
def total (s : List Op) : Nat := s.length + sumOf Op.weight s

theorem sumOf_take_succ {α : Type} (f : α → Nat) (l : List α) (k : Nat) (h : k < l.length) : sumOf f (l.take (k + 1)) = sumOf f (l.take k) + f l[k] := by
  induction l generalizing k with
  | nil => simp at h
  | cons x r ih =>
    cases k with
    | zero => simp [sumOf]
    | succ k =>
      have := ih k (by simpa using h)
      simp only [List.take_succ_cons, sumOf, this, List.getElem_cons_succ]
      omega

theorem sumOf_take_le {α : Type} (f : α → Nat) (l : List α) (k : Nat) : sumOf f (l.take k) ≤ sumOf f l := by
  induction l generalizing k with
  | nil => simp [sumOf]
  | cons x r ih =>
    cases k with
    | zero => simp [sumOf]
    | succ k => have := ih k; simp only [List.take_succ_cons, sumOf]; omega

theorem sumOf_le {α : Type} (f : α → Nat) (l : List α) (k : Nat) (h : k < l.length) : f l[k] ≤ sumOf f l := by
  have := sumOf_take_le f l (k + 1)
  rw [sumOf_take_succ f l k h] at this
  omega

theorem total_le {s : List Op} {k : Nat} (h : k < s.length) (ht : total s ≤ 65536) : s[k].req.list.length ≤ 65536 ∧ s[k].data.length ≤ 65536 ∧ s[k].file.changes.length ≤ 65536 := by
  have := sumOf_le Op.weight s k h
  unfold total at ht
  simp only [Op.weight] at this
  have e : sumOf (fun o : Op => o.req.list.length + o.data.length + o.file.changes.length) s = sumOf Op.weight s := rfl
  omega

/-- What lies at a step of the script. -/
structure StepAt (w : World) (ok : Nat → Prop) (b o : Nat) (p : Op) : Prop where
  req : ∀ j, j < 16 → w.cell? ⟨b, o + (j + 1), none⟩ = (reqCs p.req)[j]?
  list : ∃ a cap, w.cell? ⟨b, o + 17, none⟩ = some (.slice a p.req.list.length cap) ∧ p.req.list.length ≤ 140737488355328
  data : ∃ a cap, w.cell? ⟨b, o + 21, none⟩ = some (.slice a p.data.length cap) ∧ p.data.length ≤ 140737488355328
  file : ∃ a cap, w.cell? ⟨b, o + 26, none⟩ = some (.slice a p.file.changes.length cap) ∧ rng w b (o + 22) 5 = some (fileCs p.file.kind p.file.seq p.file.issued p.file.base a p.file.changes.length cap) ∧ ChangesAt w ok (.slice a p.file.changes.length cap) p.file.changes
  changes : ∀ c ∈ p.file.changes, c.Ok

theorem changesAt_of {w : World} {ok : Nat → Prop} {v : Value} {cs : List Change} (h : Arr w ok 14 EChange v cs) : ChangesAt w ok v cs :=
  RArr.of_arr h (by decide) (fun _ _ _ h => h.1)

theorem changesOk {w : World} {ok : Nat → Prop} {v : Value} {cs : List Change} (h : Arr w ok 14 EChange v cs) : ∀ c ∈ cs, c.Ok := by
  intro c hc
  obtain ⟨i, hi, rfl⟩ := List.getElem_of_mem hc
  obtain ⟨_, _, _, _, _, _, _, _, _, hcs⟩ := h
  obtain ⟨_, _, h1, _⟩ := hcs i hi
  exact h1.2

theorem stepAt_of {w : World} {ok : Nat → Prop} {b o : Nat} {p : Op} {cs : List Value} (hE : EOp w ok cs p) (hc : ∀ j (hj : j < cs.length), w.cell? ⟨b, o + j, none⟩ = some cs[j]) : StepAt w ok b o p := by
  obtain ⟨rs, fs, dv, rfl, _, _, _, _, ⟨lv, rfl, _, hlist⟩, hdata, ⟨cv, rfl, _, hch⟩⟩ := hE
  refine ⟨fun j hj => ?_, ?_, ?_, ?_, changesOk hch⟩
  · have h1 := hc (j + 1) (by simp [reqCs, fileHd]; omega)
    have e : (reqCs p.req)[j]? = some ((reqCs p.req)[j]'(by simpa [reqCs] using hj)) := List.getElem?_eq_getElem _
    rw [h1, e]
    congr 1
    match j, hj with
    | 0, _ | 1, _ | 2, _ | 3, _ | 4, _ | 5, _ | 6, _ | 7, _ | 8, _ | 9, _ | 10, _ | 11, _ | 12, _ | 13, _ | 14, _ | 15, _ => rfl
    | j + 16, h => omega
  · have h1 := hc 17 (by simp [reqCs, fileHd])
    obtain ⟨a, cap, _, _, rfl, _, _, hr, _⟩ := hlist
    exact ⟨a, cap, h1, hr⟩
  · have h1 := hc 21 (by simp [reqCs, fileHd])
    obtain ⟨a, cap, _, _, rfl, _, _, hr, _⟩ := hdata
    exact ⟨a, cap, h1, hr⟩
  · have h1 := hc 26 (by simp [reqCs, fileHd])
    have hca := changesAt_of hch
    obtain ⟨a, cap, _, _, rfl, _⟩ := hch
    refine ⟨a, cap, h1, ?_, hca⟩
    have := rng_of_cells (w := w) (b := b) (off := o + 22) (cs := (fileCs p.file.kind p.file.seq p.file.issued p.file.base a p.file.changes.length cap).toList) (by simp [fileCs]) (fun j hj => by
      have h2 := hc (22 + j) (by simp [reqCs, fileHd, fileCs] at hj ⊢; omega)
      rw [← Nat.add_assoc] at h2
      rw [h2]
      congr 1
      simp [fileCs] at hj
      match j, hj with
      | 0, _ | 1, _ | 2, _ | 3, _ | 4, _ => rfl)
    simpa [fileCs] using this

theorem ret_bool' {a b : Bool} (h : a = b) : Ending.returned (.bool a) = .returned (.bool b) := by rw [h]

set_option maxRecDepth 100000 in
set_option maxHeartbeats 1000000 in
theorem small_calls (w : World) (ok : Nat → Prop) (v : Value) (s : List Op) (h : Script w ok v s) :
    Calls Tryz.prog 18 #[v] w fun e w' => e = .returned (.bool (decide (total s ≤ 65536))) ∧ w = w' := by
  obtain ⟨a, cap, b, off, rfl, hl, hm, hr, ha, hc⟩ := h
  obtain ⟨n, hn⟩ : ∃ n, n = s.length := ⟨_, rfl⟩
  have Hn : Hid (n = s.length) := hn
  rw [← hn] at hl hr ha ⊢
  have hi := run_indexAt_arr (P := Tryz.prog) (cap := cap) Tryz.underlying22 Tryz.size61 (fun h => (ha h).1)
  have HC : Hid (∀ k (h : k < s.length), StepAt w ok b (off + k * 27) s[k]) := fun k h => by
    obtain ⟨cs, _, hE, hcell⟩ := hc k h
    exact stepAt_of hE hcell
  clear ha hc hn
  by_cases hbig : 65536 < n
  · have e : Hid (decide (total s ≤ 65536) = false) := by
      show decide (total s ≤ 65536) = false
      have := Hn.out
      have ht : ¬ total s ≤ 65536 := by unfold total; omega
      simpa using ht
    clear HC
    go_enter Tryz.func18, Tryz.ntmps18
    go_wp2
    go_ret
    exact ⟨ret_bool' e.out.symm, rfl⟩
  go_enter Tryz.func18, Tryz.ntmps18
  go_wp2
  go_loop [3, 4] (fun x i => ∃ k m : Nat, k ≤ n ∧ m ≤ 65536 ∧ i = .int .i64 k ∧ x = .int .i64 m ∧ Hid (m = s.length + sumOf Op.weight (s.take k))) (fun _ i => n - (intOf i).toNat)
  case atStart => exact ⟨0, n, by omega, by omega, rfl, rfl, by show n = _; rw [Hn.out]; simp [sumOf]⟩
  case round =>
    obtain ⟨k, m, hk, hm1, rfl, rfl, HM⟩ := hrel
    by_cases hlt : k < n
    · have hks : k < s.length := by rw [← Hn.out]; exact hlt
      obtain ⟨-, ⟨la, lcap, c17, hr17⟩, ⟨da, dcap, c21, hr21⟩, ⟨fa, fcap, c26, -, hch⟩, -⟩ := HC.out k hks
      have hchl : s[k].file.changes.length ≤ 140737488355328 := by obtain ⟨_, _, _, _, _, _, _, h, _⟩ := hch; exact h
      clear hch
      have HW : Hid (s.length + sumOf Op.weight (s.take (k + 1)) = m + (s[k].req.list.length + s[k].data.length + s[k].file.changes.length)) := by
        show _ = _
        rw [sumOf_take_succ _ _ _ hks, HM.out]; simp [Op.weight]; omega
      have HT : Hid (s.length + sumOf Op.weight (s.take (k + 1)) ≤ total s) := by
        show _ ≤ _
        have := sumOf_take_le Op.weight s (k + 1); simp [total]; omega
      generalize s[k].req.list.length = n1 at *
      generalize s[k].data.length = n2 at *
      generalize s[k].file.changes.length = n3 at *
      by_cases h1 : m + n1 ≤ 65536
      · by_cases h2 : m + n1 + n2 ≤ 65536
        · by_cases h3 : m + n1 + n2 + n3 ≤ 65536
          · go_wp2
            go_round
            case rel => exact ⟨k + 1, m + n1 + n2 + n3, by omega, by omega, by go_num, by go_num, by have := HW.out; show _ = _; omega⟩
            case measure => simp [intOf]; omega
          · have e : Hid (decide (total s ≤ 65536) = false) := by
              show decide (total s ≤ 65536) = false
              have e1 := HW.out; have e2 := HT.out
              simp; omega
            go_wp2
            go_ret
            exact ⟨ret_bool' e.out.symm, rfl⟩
        · have e : Hid (decide (total s ≤ 65536) = false) := by
            show decide (total s ≤ 65536) = false
            have e1 := HW.out; have e2 := HT.out
            simp; omega
          go_wp2
          go_ret
          exact ⟨ret_bool' e.out.symm, rfl⟩
      · have e : Hid (decide (total s ≤ 65536) = false) := by
          show decide (total s ≤ 65536) = false
          have e1 := HW.out; have e2 := HT.out
          simp; omega
        go_wp2
        go_ret
        exact ⟨ret_bool' e.out.symm, rfl⟩
    · have e : Hid (decide (total s ≤ 65536) = true) := by
        show decide (total s ≤ 65536) = true
        have e1 := HM.out
        rw [List.take_of_length_le (by rw [← Hn.out]; omega)] at e1
        unfold total
        simp; omega
      go_wp2
      go_ret
      exact ⟨ret_bool' e.out.symm, rfl⟩

theorem codeOf_nil (w : World) :
    Calls Tryz.prog 49 #[.nilIface] w fun e w' => e = .returned (.int .u8 0) ∧ w = w' := by
  go_enter Tryz.func49, Tryz.ntmps49
  go_wp2
  go_ret
  exact ⟨rfl, rfl⟩

theorem codeOf_err (c : Int) (w : World) (hc : (c != 0) = true) :
    Calls Tryz.prog 49 #[.iface 63 (.int .u8 c)] w fun e w' => e = .returned (.int .u8 c) ∧ w = w' := by
  have hta : ∀ w : World, (Instr.typeAssert (.iface 63 (.int .u8 c)) 113 63 true).run Tryz.prog w = .ok (.tuple #[.int .u8 c, .bool true]) w := fun _ => by kernel_rfl
  go_enter Tryz.func49, Tryz.ntmps49
  go_wp2
  go_ret
  exact ⟨rfl, rfl⟩

end Go.Proofs.Qxb6500666aGreatDoor
