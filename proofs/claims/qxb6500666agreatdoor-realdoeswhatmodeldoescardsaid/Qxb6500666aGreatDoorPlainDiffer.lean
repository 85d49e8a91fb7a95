/- What pairUp, Differ and Reconcile compute, in plain terms. -/
import Derived.Test.Qxb6500666aGreatDoorApplySt
namespace Go.Proofs.Qxb6500666aGreatDoor

/-- The pairs that pairUp hands to its visitor, in order. -/
def pairs : Nat → List Row → List Row → List (Option Row × Option Row)
  | 0, _, _ => []
  | _ + 1, [], [] => []
  | f + 1, [], a :: ts => (none, some a) :: pairs f [] ts
  | f + 1, b :: bs, [] => (some b, none) :: pairs f bs []
  | f + 1, b :: bs, a :: ts =>
    if cmpK b a < 0 then (some b, none) :: pairs f bs (a :: ts)
    else if 0 < cmpK b a then (none, some a) :: pairs f (b :: bs) ts
    else (some b, some a) :: pairs f bs ts

/-- Differ's line for a pair; none where the two are the same. -/
def lineOf : Option Row × Option Row → List Change
  | (some b, none) => [⟨87, b⟩]
  | (none, some a) => [⟨78, a⟩]
  | (some b, some a) => if a.eqB b then [] else [⟨67, a⟩]
  | (none, none) => []

structure Diff where
  action : Int
  sample : Int
  analyte : Int
  before : Int
  after : Int

def diffCs (d : Diff) : Array Value := #[.int .u8 d.action, .int .u32 d.sample, .int .u32 d.analyte, .int .u32 d.before, .int .u32 d.after]

def diffOf : Option Row × Option Row → List Diff
  | (some b, none) => [⟨87, b.sample, b.analyte, b.version, 0⟩]
  | (none, some a) => [⟨78, a.sample, a.analyte, 0, a.version⟩]
  | (some b, some a) => if a.eqB b then [] else [⟨67, a.sample, a.analyte, b.version, a.version⟩]
  | (none, none) => []

def flatL {α β : Type} (f : α → List β) : List α → List β
  | [] => []
  | x :: r => f x ++ flatL f r

theorem flatL_append {α β : Type} (f : α → List β) (l m : List α) : flatL f (l ++ m) = flatL f l ++ flatL f m := by
  induction l with
  | nil => rfl
  | cons x r ih => simp [flatL, ih]

def pairsOf (bs ts : List Row) : List (Option Row × Option Row) := pairs (bs.length + ts.length) bs ts
def differ (bs ts : List Row) : List Change := flatL lineOf (pairsOf bs ts)
def reconcile (bs ts : List Row) : List Diff := flatL diffOf (pairsOf bs ts)

/-- More fuel than rows changes nothing. -/
theorem pairs_fuel : ∀ (f g : Nat) (bs ts : List Row), bs.length + ts.length ≤ f → bs.length + ts.length ≤ g → pairs f bs ts = pairs g bs ts := by
  intro f
  induction f with
  | zero =>
    intro g bs ts h1 h2
    have hb : bs = [] := by cases bs with | nil => rfl | cons _ _ => simp at h1
    have ha : ts = [] := by cases ts with | nil => rfl | cons _ _ => simp at h1
    subst hb ha
    cases g <;> rfl
  | succ f ih =>
    intro g bs ts h1 h2
    cases g with
    | zero =>
      have hb : bs = [] := by cases bs with | nil => rfl | cons _ _ => simp at h2
      have ha : ts = [] := by cases ts with | nil => rfl | cons _ _ => simp at h2
      subst hb ha
      rfl
    | succ g =>
      cases bs with
      | nil =>
        cases ts with
        | nil => rfl
        | cons a ts => simp only [pairs]; rw [ih g [] ts (by simp at h1 ⊢; omega) (by simp at h2 ⊢; omega)]
      | cons b bs =>
        cases ts with
        | nil => simp only [pairs]; rw [ih g bs [] (by simp at h1 ⊢; omega) (by simp at h2 ⊢; omega)]
        | cons a ts =>
          simp only [pairs]
          rw [ih g bs (a :: ts) (by simp at h1 ⊢; omega) (by simp at h2 ⊢; omega), ih g (b :: bs) ts (by simp at h1 ⊢; omega) (by simp at h2 ⊢; omega), ih g bs ts (by simp at h1 ⊢; omega) (by simp at h2 ⊢; omega)]

section
variable (f : Nat) (b a : Row) (bs ts : List Row)
theorem pairs_nil : pairs f [] [] = [] := by cases f <;> rfl
theorem pairs_left (h : bs.length + 1 ≤ f) : pairs f (b :: bs) [] = (some b, none) :: pairs f bs [] := by
  cases f with
  | zero => omega
  | succ f => rw [pairs_fuel (f + 1) f bs [] (by simp; omega) (by simp; omega)]; rfl
theorem pairs_right (h : ts.length + 1 ≤ f) : pairs f [] (a :: ts) = (none, some a) :: pairs f [] ts := by
  cases f with
  | zero => omega
  | succ f => rw [pairs_fuel (f + 1) f [] ts (by simp; omega) (by simp; omega)]; rfl
theorem pairs_less (h : bs.length + ts.length + 2 ≤ f) (hc : cmpK b a < 0) : pairs f (b :: bs) (a :: ts) = (some b, none) :: pairs f bs (a :: ts) := by
  cases f with
  | zero => omega
  | succ f => rw [pairs_fuel (f + 1) f bs (a :: ts) (by simp; omega) (by simp; omega)]; simp [pairs, hc]
theorem pairs_more (h : bs.length + ts.length + 2 ≤ f) (hc : 0 < cmpK b a) : pairs f (b :: bs) (a :: ts) = (none, some a) :: pairs f (b :: bs) ts := by
  cases f with
  | zero => omega
  | succ f =>
    rw [pairs_fuel (f + 1) f (b :: bs) ts (by simp; omega) (by simp; omega)]
    have : ¬ cmpK b a < 0 := by omega
    simp [pairs, hc, this]
theorem pairs_same (h : bs.length + ts.length + 2 ≤ f) (hc : cmpK b a = 0) : pairs f (b :: bs) (a :: ts) = (some b, some a) :: pairs f bs ts := by
  cases f with
  | zero => omega
  | succ f => rw [pairs_fuel (f + 1) f bs ts (by omega) (by omega)]; simp [pairs, hc]
end

end Go.Proofs.Qxb6500666aGreatDoor
