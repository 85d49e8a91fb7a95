/- Two answers to one reading read alike. -/
import Derived.Test.Qxb6500666aGreatDoorCraR
import Derived.Test.Qxb6500666aGreatDoorCraP
namespace Go.Proofs.Qxb6500666aGreatDoor
open Go.RowKit

theorem rtrue {α : Type} {w : World} {ok : Nat → Prop} {size : Nat} {f : α → Array Value} {v : Value} {xs : List α} (h : RArr w ok size f v xs) : RArr w (fun _ => True) size f v xs := RArr.mono h (Same.refl _ _) (fun _ _ => trivial)
set_option maxHeartbeats 1000000 in
/-- Two answers to one permitted reading. -/
theorem rs_of {rn kn : Nat → ByteArray} {w1 w1' w2 w2' W : World} {ps : List KV} {L : Low} {r : Req} {x y : Rsp} (hk : isRdg r.kind = true) (h1 : RV (rdX rn kn w1 w1' ps L r) x) (h2 : RV (rdX rn kn w2 w2' ps L r) y) (b1 : Below w1'.heap.size w1' W) (b2 : Below w2'.heap.size w2' W) : RS W x y := by
  have hnl : ∀ {α : Type} {size : Nat} {f : α → Array Value}, ∃ xs : List α, RWk W size f (sv noS) xs ∧ RWk W size f (sv noS) xs := ⟨[], RWk.nil, RWk.nil⟩
  have hel : RArr W (fun _ => True) 1 u32Cs (sv noS) ([] : List Int) ∧ RArr W (fun _ => True) 1 u32Cs (sv noS) ([] : List Int) := ⟨RArr.nil _ _ _ _, RArr.nil _ _ _ _⟩
  rcases kindRd hk with e | e | e | e | e | e | e | e | e | e
  · have e1 : ∀ w w', rdX rn kn w w' ps L r = rd21X ps r := fun w w' => by unfold rdX; simp [e]
    rw [e1] at h1 h2
    unfold rd21X at h1 h2
    cases hR : accR ps r.id with
    | error c =>
      rw [hR] at h1 h2
      rw [show x = { rsp0 with code := c } from h1, show y = { rsp0 with code := c } from h2]
      exact RS.code c 0
    | ok s =>
      rw [hR] at h1 h2
      rw [show x = { rsp0 with role := s.1, active := s.2 } from h1, show y = { rsp0 with role := s.1, active := s.2 } from h2]
      exact RS.bare rfl rfl rfl rfl rfl rfl
  · have e1 : ∀ w w', rdX rn kn w w' ps L r = rd22X ps := fun w w' => by unfold rdX; simp [e]
    rw [e1] at h1 h2
    unfold rd22X at h1 h2
    cases hR : statR ps with
    | error c =>
      rw [hR] at h1 h2
      rw [show x = { rsp0 with code := c } from h1, show y = { rsp0 with code := c } from h2]
      exact RS.code c 0
    | ok s =>
      rw [hR] at h1 h2
      rw [show x = { rsp0 with st := s } from h1, show y = { rsp0 with st := s } from h2]
      exact RS.bare rfl rfl rfl rfl rfl rfl
  · have e1 : ∀ w w', rdX rn kn w w' ps L r = rd23X w w' ps r := fun w w' => by unfold rdX; simp [e]
    rw [e1] at h1 h2
    unfold rd23X at h1 h2
    cases hR : entR ps r.id with
    | error c =>
      rw [hR] at h1 h2
      rw [show x = { rsp0 with code := c } from h1, show y = { rsp0 with code := c } from h2]
      exact RS.code c 0
    | ok s =>
      rw [hR] at h1 h2
      obtain ⟨a, n, c, rfl, g1⟩ := h1
      obtain ⟨a', n', c', rfl, g2⟩ := h2
      exact ⟨rfl, ⟨rtrue (RArr.below g1 b1), rtrue (RArr.below g2 b2)⟩, hnl, hnl, hnl, hnl⟩
  · have e1 : ∀ w w', rdX rn kn w w' ps L r = rd24X L r := fun w w' => by unfold rdX; simp [e]
    rw [e1] at h1 h2
    unfold rd24X eligX at h1 h2
    by_cases hR : (eligibR L r.id r.ref).2 = 0
    · rw [if_pos hR] at h1 h2
      rw [show x = { rsp0 with holds := (eligibR L r.id r.ref).1 } from h1, show y = { rsp0 with holds := (eligibR L r.id r.ref).1 } from h2]
      exact RS.bare rfl rfl rfl rfl rfl rfl
    · rw [if_neg hR] at h1 h2
      rw [show x = { rsp0 with code := (eligibR L r.id r.ref).2 } from h1, show y = { rsp0 with code := (eligibR L r.id r.ref).2 } from h2]
      exact RS.code _ 0
  · have e1 : ∀ w w', rdX rn kn w w' ps L r = rd25X w w' ps L := fun w w' => by unfold rdX; simp [e]
    rw [e1] at h1 h2
    unfold rd25X at h1 h2
    cases hR : optX (pendR ps L) with
    | error c =>
      rw [hR] at h1 h2
      rw [show x = { rsp0 with code := c } from h1, show y = { rsp0 with code := c } from h2]
      exact RS.code c 0
    | ok s =>
      rw [hR] at h1 h2
      obtain ⟨a, n, c, rfl, g1⟩ := h1
      obtain ⟨a', n', c', rfl, g2⟩ := h2
      exact ⟨rfl, hel, ⟨_, (RWk.own g1 changeCs_size (by decide)).below b1, (RWk.own g2 changeCs_size (by decide)).below b2⟩, hnl, hnl, hnl⟩
  · have e1 : ∀ w w', rdX rn kn w w' ps L r = rd26X ps r := fun w w' => by unfold rdX; simp [e]
    rw [e1] at h1 h2
    unfold rd26X at h1 h2
    cases hR : hdrR ps r.id with
    | error c =>
      rw [hR] at h1 h2
      rw [show x = { rsp0 with code := c } from h1, show y = { rsp0 with code := c } from h2]
      exact RS.code c 0
    | ok s =>
      rw [hR] at h1 h2
      rw [show x = { rsp0 with hd := s } from h1, show y = { rsp0 with hd := s } from h2]
      exact RS.bare rfl rfl rfl rfl rfl rfl
  · have e1 : ∀ w w', rdX rn kn w w' ps L r = rd27X w w' ps r := fun w w' => by unfold rdX; simp [e]
    rw [e1] at h1 h2
    unfold rd27X at h1 h2
    cases hR : fbR ps r.id with
    | error c =>
      rw [hR] at h1 h2
      rw [show x = { rsp0 with code := c } from h1, show y = { rsp0 with code := c } from h2]
      exact RS.code c 0
    | ok s =>
      rw [hR] at h1 h2
      obtain ⟨a, n, c, rfl, g1⟩ := h1
      obtain ⟨a', n', c', rfl, g2⟩ := h2
      exact ⟨rfl, hel, hnl, ⟨_, (RWk.own g1 byteCs_size (by decide)).below b1, (RWk.own g2 byteCs_size (by decide)).below b2⟩, hnl, hnl⟩
  · have e1 : ∀ w w', rdX rn kn w w' ps L r = reconX w w' ps r.id r.ref := fun w w' => by unfold rdX; simp [e, rd28X]
    rw [e1] at h1 h2
    unfold reconX at h1 h2
    cases hR : recR ps r.id r.ref with
    | error c =>
      rw [hR] at h1 h2
      rw [show x = { rsp0 with code := c } from h1, show y = { rsp0 with code := c } from h2]
      exact RS.code c 0
    | ok ds =>
      rw [hR] at h1 h2
      dsimp only at h1 h2
      cases hT : repR r.id r.ref ds with
      | error c =>
        rw [hT] at h1 h2
        rw [show x = { rsp0 with code := c } from h1, show y = { rsp0 with code := c } from h2]
        exact RS.code c 0
      | ok t =>
        rw [hT] at h1 h2
        obtain ⟨a, n, c, p, q, s, rfl, g1, k1⟩ := h1
        obtain ⟨a', n', c', p', q', s', rfl, g2, k2⟩ := h2
        exact ⟨rfl, hel, hnl, ⟨_, (RWk.own k1 byteCs_size (by decide)).below b1, (RWk.own k2 byteCs_size (by decide)).below b2⟩, ⟨_, (RWk.own g1 diffCs_size (by decide)).below b1, (RWk.own g2 diffCs_size (by decide)).below b2⟩, hnl⟩
  · have e1 : ∀ w w', rdX rn kn w w' ps L r = rd29X w w' L := fun w w' => by unfold rdX; simp [e]
    rw [e1] at h1 h2
    unfold rd29X at h1 h2
    cases hR : optX (heldRs L) with
    | error c =>
      rw [hR] at h1 h2
      rw [show x = { rsp0 with code := c } from h1, show y = { rsp0 with code := c } from h2]
      exact RS.code c 0
    | ok s =>
      rw [hR] at h1 h2
      obtain ⟨a, n, c, rfl, g1⟩ := h1
      obtain ⟨a', n', c', rfl, g2⟩ := h2
      exact ⟨rfl, hel, hnl, hnl, hnl, ⟨_, (RWk.own g1 heldCs_size (by decide)).below b1, (RWk.own g2 heldCs_size (by decide)).below b2⟩⟩
  · have e1 : ∀ w w', rdX rn kn w w' ps L r = trailX rn kn w w' ps := fun w w' => by unfold rdX; simp [e, rd30X]
    rw [e1] at h1 h2
    unfold trailX at h1 h2
    cases hR : trailR ps with
    | none =>
      rw [hR] at h1 h2
      rw [show x = { rsp0 with code := 28 } from h1, show y = { rsp0 with code := 28 } from h2]
      exact RS.code 28 0
    | some l =>
      rw [hR] at h1 h2
      dsimp only at h1 h2
      cases hT : rtR rn kn l with
      | error c =>
        rw [hT] at h1 h2
        rw [show x = { rsp0 with code := c } from h1, show y = { rsp0 with code := c } from h2]
        exact RS.code c 0
      | ok t =>
        rw [hT] at h1 h2
        obtain ⟨a, n, c, rfl, g1⟩ := h1
        obtain ⟨a', n', c', rfl, g2⟩ := h2
        exact ⟨rfl, hel, hnl, ⟨_, (RWk.own g1 byteCs_size (by decide)).below b1, (RWk.own g2 byteCs_size (by decide)).below b2⟩, hnl, hnl⟩
/-- Two answers to one reading, permitted or not, on stores that read alike. -/
theorem rsp_same {rn kn : Nat → ByteArray} {w1 w1' w2 w2' W : World} {ps ps' : List KV} {L : Low} {r : Req} {x y : Rsp} {full full' : Bool} {off off' lar lar' : Int} (hq : PsEq ps ps') (hk : isRdg r.kind = true) (h1 : RspP rn kn w1 w1' ps full off lar L r x) (h2 : RspP rn kn w2 w2' ps' full' off' lar' L r y) (b1 : Below w1'.heap.size w1' W) (b2 : Below w2'.heap.size w2' W) : RS W x y := by
  cases ha : authR ps r.user r.kind with
  | ok role =>
    have g1 := h1.1 hk role ha
    have g2 := h2.1 hk role (by rw [hq.auth]; exact ha)
    rw [hq.rdX] at g2
    exact rs_of hk g1 g2 b1 b2
  | error c =>
    have hx := h1.2 (Or.inr ⟨c, ha⟩)
    have hy := h2.2 (Or.inr ⟨c, by rw [hq.auth]; exact ha⟩)
    have e1 : exR ps full off lar L r = ⟨c, 0, ps, off, lar, L⟩ := by
      unfold exR
      rw [if_neg (by simp [hk]), ha]
    have e2 : exR ps' full' off' lar' L r = ⟨c, 0, ps', off', lar', L⟩ := by
      unfold exR
      rw [if_neg (by simp [hk]), hq.auth, ha]
    rw [e1] at hx
    rw [e2] at hy
    rw [hx, hy]
    exact RS.code c 0
end Go.Proofs.Qxb6500666aGreatDoor
