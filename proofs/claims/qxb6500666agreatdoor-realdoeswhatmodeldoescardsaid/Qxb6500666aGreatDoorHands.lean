/- The handlers, in one form. (Made by tools/mk_hands.py.) -/
import Derived.Test.Qxb6500666aGreatDoorHand2
import Derived.Test.Qxb6500666aGreatDoorHand3
import Derived.Test.Qxb6500666aGreatDoorHand4
import Derived.Test.Qxb6500666aGreatDoorHand5
import Derived.Test.Qxb6500666aGreatDoorUserWalk
import Derived.Test.Qxb6500666aGreatDoorIssueC
namespace Go.Proofs.Qxb6500666aGreatDoor
open Go.RowKit

/-- What a handler answers: its code, the counts, the file issued, the writes, the layers beneath. -/
structure HR where
  c : Int
  st : Stat
  iss : Int
  ws : List WR
  low : Low
structure HX (w w' : World) (D bd : Nat) (ok : Nat → Prop) (r : Req) (lv : Value) (e : Ending) (R : HR) : Prop where
  ret : e = .returned (errV R.c)
  ex : ∃ x' wv' B' zs', DrW w' D bd r lv R.st x' wv' R.iss B' zs' ∧ zs'.map (·.2) = R.ws ∧ LowAt w' (fun b => ok b ∧ wv'.ownBlock ≠ some b ∧ b < w'.heap.size) x' R.low ∧ (∀ b, B' b → w.heap.size ≤ b) ∧ (∀ b, wv'.ownBlock = some b → w.heap.size ≤ b)
  fr : ∀ b, b < w.heap.size → b ≠ D → w'.heap[b]? = w.heap[b]?
  bel : Below bd w w'
/-- What a handler finds. -/
structure HPre (w : World) (Y S LB D bd : Nat) (A ok okv : Nat → Prop) (ps : List KV) (full : Bool) (r : Req) (lv : Value) (s : Stat) (x : LV) (L : Low) : Prop where
  sys : SysAt w Y S LB
  st : StoreAt w S A ps full
  pk : PsOk ps
  plen : ps.length ≤ 4000000
  req : r.Ok
  stat : s.Ok
  dr : DrW w D bd r lv s x (.slice none 0 0) 0 (fun _ => False) []
  low : LowAt w ok x L
  small : L.Small
  times : L.Times
  okD : ∀ b, ok b → b ≠ D
  okn : ∀ b, w.heap.size ≤ b → ok b
  vis : RArr w okv 1 u32Cs lv r.list
  hco : ∀ cs, pendR ps L = some cs → ∀ c ∈ cs, c.Ok
  hcc : ∀ rows, relR ps = some rows → ∀ c ∈ rows, c.Ok
noncomputable def handR (ps : List KV) (L : Low) (s : Stat) (r : Req) : HR :=
  if r.kind = 1 then ⟨(addUserR ps r).1, s, 0, (addUserR ps r).2, L⟩
  else if r.kind = 2 then ⟨(revokeR ps r).1, s, 0, (revokeR ps r).2, L⟩
  else if r.kind = 3 then ⟨(defineP L.pr r.id r.l0 r.l1 r.l2).2, s, 0, [], { L with pr := (defineP L.pr r.id r.l0 r.l1 r.l2).1 }⟩
  else if r.kind = 4 then ⟨(amendP L.pr r.time r.list).2, s, 0, [], { L with pr := (amendP L.pr r.time r.list).1 }⟩
  else if r.kind = 5 then ⟨(addSiteP L.pr r.id).2, s, 0, [], { L with pr := (addSiteP L.pr r.id).1 }⟩
  else if r.kind = 6 then ⟨(enrolP L.pr r.id r.ref).2, s, 0, [], { L with pr := (enrolP L.pr r.id r.ref).1 }⟩
  else if r.kind = 7 then ⟨(buildP L.kit r.id).2, s, 0, [], { L with kit := (buildP L.kit r.id).1 }⟩
  else if r.kind = 8 then ⟨(shipK L r.id r.ref).2, s, 0, [], { L with kit := (shipK L r.id r.ref).1 }⟩
  else if r.kind = 9 then ⟨(accession L.sm ⟨r.id, r.kit, r.subject, r.visit, r.cls, r.time, r.till, false⟩).2, s, 0, [], { L with sm := (accession L.sm ⟨r.id, r.kit, r.subject, r.visit, r.cls, r.time, r.till, false⟩).1 }⟩
  else if r.kind = 10 then ⟨(excursion L.sm r.id).2, s, 0, [], { L with sm := (excursion L.sm r.id).1 }⟩
  else if r.kind = 11 then ⟨(collection L.sm r.id r.time).2, s, 0, [], { L with sm := (collection L.sm r.id r.time).1 }⟩
  else if r.kind = 12 then ⟨(enterR L.sm r.id r.ref r.value r.time).2, s, 0, [], { L with sm := (enterR L.sm r.id r.ref r.value r.time).1 }⟩
  else if r.kind = 13 then ⟨(correctR L.sm r.id r.ref r.value).2, s, 0, [], { L with sm := (correctR L.sm r.id r.ref r.value).1 }⟩
  else if r.kind = 14 then ⟨(withdrawR L.sm r.id r.ref).2, s, 0, [], { L with sm := (withdrawR L.sm r.id r.ref).1 }⟩
  else if r.kind = 15 then ⟨(raiseQ L.sm r.id r.ref).2, s, 0, [], { L with sm := (raiseQ L.sm r.id r.ref).1 }⟩
  else if r.kind = 16 then ⟨(moveQ L.sm r.id 1 2).2, s, 0, [], { L with sm := (moveQ L.sm r.id 1 2).1 }⟩
  else if r.kind = 17 then ⟨(moveQ L.sm r.id 2 3).2, s, 0, [], { L with sm := (moveQ L.sm r.id 2 3).1 }⟩
  else if r.kind = 18 then ⟨(moveQ L.sm r.id 2 1).2, s, 0, [], { L with sm := (moveQ L.sm r.id 2 1).1 }⟩
  else if r.kind = 19 then ⟨(incR ps L r.now s 0).1, (incR ps L r.now s 0).2.1, (incR ps L r.now s 0).2.2.1, (incR ps L r.now s 0).2.2.2, L⟩
  else ⟨(cumR ps L r.now s 0).1, (cumR ps L r.now s 0).2.1, (cumR ps L r.now s 0).2.2.1, (cumR ps L r.now s 0).2.2.2, L⟩

theorem HX.ofH {w w' : World} {D bd : Nat} {ok : Nat → Prop} {r : Req} {lv : Value} {s : Stat} {x : LV} {e : Ending} {L' : Low} {c : Int} (hd : DrW w D bd r lv s x (.slice none 0 0) 0 (fun _ => False) []) (h : HPost w w' D ok r lv s (.slice none 0 0) 0 e L' c) : HX w w' D bd ok r lv e ⟨c, s, 0, [], L'⟩ := by
  obtain ⟨x', h1, h2⟩ := h.low
  have hb := hd.baseD
  exact ⟨h.ret, ⟨x', _, fun _ => False, [], ⟨h1, OwnR.nil _ _ _ _ _, fun z hz => by (cases hz), fun _ e => (nomatch (show (none : Option Nat) = some _ from e)), fun e => e, fun _ e => e.elim, hb⟩, rfl, h2.lt.mono (Same.refl _ _) (fun _ q => ⟨q.1, fun e => (nomatch (show (none : Option Nat) = some _ from e)), q.2⟩), fun _ e => e.elim, fun _ e => (nomatch (show (none : Option Nat) = some _ from e))⟩, fun b h3 h4 => h.kept.same b ⟨h3, h4⟩, h.kept.below.mono hb⟩
theorem DrStep.toFr {w w' : World} {D bd : Nat} {wv' : Value} (h : DrStep w w' D bd (.slice none 0 0) wv') : (∀ b, b < w.heap.size → b ≠ D → w'.heap[b]? = w.heap[b]?) ∧ (∀ b, wv'.ownBlock = some b → w.heap.size ≤ b) := by
  refine ⟨fun b h1 h2 => h.fr b h1 h2 (fun e => (nomatch (show (none : Option Nat) = some _ from e))), fun b hb => ?_⟩
  rcases h.own with e | e
  · rw [e] at hb; exact (nomatch (show (none : Option Nat) = some _ from hb))
  · exact e b hb
theorem HX.ofU {w w' : World} {D bd : Nat} {ok : Nat → Prop} {r : Req} {lv : Value} {s : Stat} {x : LV} {e : Ending} {L : Low} {c : Int} {ws : List WR} (hl : LowAt w ok x L) (hokD : ∀ b, ok b → b ≠ D) (h : UPost w w' D bd r lv s x 0 e c ws) : HX w w' D bd ok r lv e ⟨c, s, 0, ws, L⟩ := by
  obtain ⟨wv', B', zs', h1, h2, h3, h4⟩ := h.ex
  exact ⟨h.ret, ⟨x, wv', B', zs', h1, h2, hl.lt.mono (fun b hb => h3.toFr.1 b hb.2 (hokD b hb.1)) (fun b hb => ⟨hb.1, fun e => by (have := h3.toFr.2 b e; have := hb.2; omega), Nat.lt_of_lt_of_le hb.2 h3.bel.size⟩), h4, h3.toFr.2⟩, h3.toFr.1, h3.bel⟩
theorem HX.ofI {w w' : World} {D bd : Nat} {ok : Nat → Prop} {r : Req} {lv : Value} {x : LV} {e : Ending} {L : Low} {R : Int × Stat × Int × List WR} (hl : LowAt w ok x L) (hokD : ∀ b, ok b → b ≠ D) (h : IPost w w' D bd r lv x e R) : HX w w' D bd ok r lv e ⟨R.1, R.2.1, R.2.2.1, R.2.2.2, L⟩ := by
  obtain ⟨wv', B', zs', h1, h2, h3, h4⟩ := h.ex
  exact ⟨h.ret, ⟨x, wv', B', zs', h1, h2, hl.lt.mono (fun b hb => h3.toFr.1 b hb.2 (hokD b hb.1)) (fun b hb => ⟨hb.1, fun e => by (have := h3.toFr.2 b e; have := hb.2; omega), Nat.lt_of_lt_of_le hb.2 h3.bel.size⟩), h4, h3.toFr.2⟩, h3.toFr.1, h3.bel⟩
section
variable {w : World} {Y S LB D bd : Nat} {A ok okv : Nat → Prop} {ps : List KV} {full : Bool} {r : Req} {lv : Value} {s : Stat} {x : LV} {L : Low}
theorem hand1 (h : HPre w Y S LB D bd A ok okv ps full r lv s x L) (hk : r.kind = 1) : Calls Tryz.prog 283 #[.pointer (some ⟨Y, 0, none⟩), .pointer (some ⟨D, 0, none⟩)] w fun e w' => HX w w' D bd ok r lv e (handR ps L s r) := by
  have e : handR ps L s r = ⟨(addUserR ps r).1, s, 0, (addUserR ps r).2, L⟩ := by unfold handR; simp [hk]
  rw [e]
  exact (addUser_calls w Y S LB D bd A ps full r lv s x 0 h.sys h.st h.pk h.req h.dr).mono fun _ _ q => HX.ofU h.low h.okD q
theorem hand2 (h : HPre w Y S LB D bd A ok okv ps full r lv s x L) (hk : r.kind = 2) : Calls Tryz.prog 284 #[.pointer (some ⟨Y, 0, none⟩), .pointer (some ⟨D, 0, none⟩)] w fun e w' => HX w w' D bd ok r lv e (handR ps L s r) := by
  have e : handR ps L s r = ⟨(revokeR ps r).1, s, 0, (revokeR ps r).2, L⟩ := by unfold handR; simp [hk]
  rw [e]
  exact (revoke_calls w Y S LB D bd A ps full r lv s x 0 h.sys h.st h.pk h.req h.dr).mono fun _ _ q => HX.ofU h.low h.okD q
theorem hand3 (h : HPre w Y S LB D bd A ok okv ps full r lv s x L) (hk : r.kind = 3) : Calls Tryz.prog 285 #[.pointer (some ⟨Y, 0, none⟩), .pointer (some ⟨D, 0, none⟩)] w fun e w' => HX w w' D bd ok r lv e (handR ps L s r) := by
  have e : handR ps L s r = ⟨(defineP L.pr r.id r.l0 r.l1 r.l2).2, s, 0, [], { L with pr := (defineP L.pr r.id r.l0 r.l1 r.l2).1 }⟩ := by unfold handR; simp [hk]
  rw [e]
  exact (hDefine_calls w Y D ok r lv s x (.slice none 0 0) 0 L h.dr.at' h.low h.small h.okD h.okn).mono fun _ _ q => HX.ofH h.dr q
theorem hand4 (h : HPre w Y S LB D bd A ok okv ps full r lv s x L) (hk : r.kind = 4) : Calls Tryz.prog 286 #[.pointer (some ⟨Y, 0, none⟩), .pointer (some ⟨D, 0, none⟩)] w fun e w' => HX w w' D bd ok r lv e (handR ps L s r) := by
  have e : handR ps L s r = ⟨(amendP L.pr r.time r.list).2, s, 0, [], { L with pr := (amendP L.pr r.time r.list).1 }⟩ := by unfold handR; simp [hk]
  rw [e]
  exact (hAmend_calls w Y D ok r lv s x (.slice none 0 0) 0 L okv h.vis h.dr.at' h.low h.small h.okD h.okn).mono fun _ _ q => HX.ofH h.dr q
theorem hand5 (h : HPre w Y S LB D bd A ok okv ps full r lv s x L) (hk : r.kind = 5) : Calls Tryz.prog 287 #[.pointer (some ⟨Y, 0, none⟩), .pointer (some ⟨D, 0, none⟩)] w fun e w' => HX w w' D bd ok r lv e (handR ps L s r) := by
  have e : handR ps L s r = ⟨(addSiteP L.pr r.id).2, s, 0, [], { L with pr := (addSiteP L.pr r.id).1 }⟩ := by unfold handR; simp [hk]
  rw [e]
  exact (hSite_calls w Y D ok r lv s x (.slice none 0 0) 0 L h.dr.at' h.low h.small h.okD h.okn).mono fun _ _ q => HX.ofH h.dr q
theorem hand6 (h : HPre w Y S LB D bd A ok okv ps full r lv s x L) (hk : r.kind = 6) : Calls Tryz.prog 288 #[.pointer (some ⟨Y, 0, none⟩), .pointer (some ⟨D, 0, none⟩)] w fun e w' => HX w w' D bd ok r lv e (handR ps L s r) := by
  have e : handR ps L s r = ⟨(enrolP L.pr r.id r.ref).2, s, 0, [], { L with pr := (enrolP L.pr r.id r.ref).1 }⟩ := by unfold handR; simp [hk]
  rw [e]
  exact (hEnrol_calls w Y D ok r lv s x (.slice none 0 0) 0 L h.dr.at' h.low h.small h.okD h.okn).mono fun _ _ q => HX.ofH h.dr q
theorem hand7 (h : HPre w Y S LB D bd A ok okv ps full r lv s x L) (hk : r.kind = 7) : Calls Tryz.prog 289 #[.pointer (some ⟨Y, 0, none⟩), .pointer (some ⟨D, 0, none⟩)] w fun e w' => HX w w' D bd ok r lv e (handR ps L s r) := by
  have e : handR ps L s r = ⟨(buildP L.kit r.id).2, s, 0, [], { L with kit := (buildP L.kit r.id).1 }⟩ := by unfold handR; simp [hk]
  rw [e]
  exact (hBuild_calls w Y D ok r lv s x (.slice none 0 0) 0 L h.dr.at' h.low h.small h.okD h.okn).mono fun _ _ q => HX.ofH h.dr q
theorem hand8 (h : HPre w Y S LB D bd A ok okv ps full r lv s x L) (hk : r.kind = 8) : Calls Tryz.prog 290 #[.pointer (some ⟨Y, 0, none⟩), .pointer (some ⟨D, 0, none⟩)] w fun e w' => HX w w' D bd ok r lv e (handR ps L s r) := by
  have e : handR ps L s r = ⟨(shipK L r.id r.ref).2, s, 0, [], { L with kit := (shipK L r.id r.ref).1 }⟩ := by unfold handR; simp [hk]
  rw [e]
  exact (hShip_calls w Y D ok r lv s x (.slice none 0 0) 0 L h.dr.at' h.low h.small h.okD h.okn).mono fun _ _ q => HX.ofH h.dr q
theorem hand9 (h : HPre w Y S LB D bd A ok okv ps full r lv s x L) (hk : r.kind = 9) : Calls Tryz.prog 291 #[.pointer (some ⟨Y, 0, none⟩), .pointer (some ⟨D, 0, none⟩)] w fun e w' => HX w w' D bd ok r lv e (handR ps L s r) := by
  have e : handR ps L s r = ⟨(accession L.sm ⟨r.id, r.kit, r.subject, r.visit, r.cls, r.time, r.till, false⟩).2, s, 0, [], { L with sm := (accession L.sm ⟨r.id, r.kit, r.subject, r.visit, r.cls, r.time, r.till, false⟩).1 }⟩ := by unfold handR; simp [hk]
  rw [e]
  exact (hAcc_calls w Y D ok r lv s x (.slice none 0 0) 0 L h.dr.at' h.low h.small h.okD h.okn).mono fun _ _ q => HX.ofH h.dr q
theorem hand10 (h : HPre w Y S LB D bd A ok okv ps full r lv s x L) (hk : r.kind = 10) : Calls Tryz.prog 292 #[.pointer (some ⟨Y, 0, none⟩), .pointer (some ⟨D, 0, none⟩)] w fun e w' => HX w w' D bd ok r lv e (handR ps L s r) := by
  have e : handR ps L s r = ⟨(excursion L.sm r.id).2, s, 0, [], { L with sm := (excursion L.sm r.id).1 }⟩ := by unfold handR; simp [hk]
  rw [e]
  exact (hExc_calls w Y D ok r lv s x (.slice none 0 0) 0 L h.dr.at' h.low h.small h.okD h.okn).mono fun _ _ q => HX.ofH h.dr q
theorem hand11 (h : HPre w Y S LB D bd A ok okv ps full r lv s x L) (hk : r.kind = 11) : Calls Tryz.prog 293 #[.pointer (some ⟨Y, 0, none⟩), .pointer (some ⟨D, 0, none⟩)] w fun e w' => HX w w' D bd ok r lv e (handR ps L s r) := by
  have e : handR ps L s r = ⟨(collection L.sm r.id r.time).2, s, 0, [], { L with sm := (collection L.sm r.id r.time).1 }⟩ := by unfold handR; simp [hk]
  rw [e]
  exact (hColl_calls w Y D ok r lv s x (.slice none 0 0) 0 L h.dr.at' h.low h.small h.okD h.okn).mono fun _ _ q => HX.ofH h.dr q
theorem hand12 (h : HPre w Y S LB D bd A ok okv ps full r lv s x L) (hk : r.kind = 12) : Calls Tryz.prog 294 #[.pointer (some ⟨Y, 0, none⟩), .pointer (some ⟨D, 0, none⟩)] w fun e w' => HX w w' D bd ok r lv e (handR ps L s r) := by
  have e : handR ps L s r = ⟨(enterR L.sm r.id r.ref r.value r.time).2, s, 0, [], { L with sm := (enterR L.sm r.id r.ref r.value r.time).1 }⟩ := by unfold handR; simp [hk]
  rw [e]
  exact (hEnter_calls w Y D ok r lv s x (.slice none 0 0) 0 L h.dr.at' h.low h.small h.okD h.okn).mono fun _ _ q => HX.ofH h.dr q
theorem hand13 (h : HPre w Y S LB D bd A ok okv ps full r lv s x L) (hk : r.kind = 13) : Calls Tryz.prog 295 #[.pointer (some ⟨Y, 0, none⟩), .pointer (some ⟨D, 0, none⟩)] w fun e w' => HX w w' D bd ok r lv e (handR ps L s r) := by
  have e : handR ps L s r = ⟨(correctR L.sm r.id r.ref r.value).2, s, 0, [], { L with sm := (correctR L.sm r.id r.ref r.value).1 }⟩ := by unfold handR; simp [hk]
  rw [e]
  exact (hCorr_calls w Y D ok r lv s x (.slice none 0 0) 0 L h.dr.at' h.low h.small h.okD h.okn).mono fun _ _ q => HX.ofH h.dr q
theorem hand14 (h : HPre w Y S LB D bd A ok okv ps full r lv s x L) (hk : r.kind = 14) : Calls Tryz.prog 296 #[.pointer (some ⟨Y, 0, none⟩), .pointer (some ⟨D, 0, none⟩)] w fun e w' => HX w w' D bd ok r lv e (handR ps L s r) := by
  have e : handR ps L s r = ⟨(withdrawR L.sm r.id r.ref).2, s, 0, [], { L with sm := (withdrawR L.sm r.id r.ref).1 }⟩ := by unfold handR; simp [hk]
  rw [e]
  exact (hWith_calls w Y D ok r lv s x (.slice none 0 0) 0 L h.dr.at' h.low h.small h.okD h.okn).mono fun _ _ q => HX.ofH h.dr q
theorem hand15 (h : HPre w Y S LB D bd A ok okv ps full r lv s x L) (hk : r.kind = 15) : Calls Tryz.prog 297 #[.pointer (some ⟨Y, 0, none⟩), .pointer (some ⟨D, 0, none⟩)] w fun e w' => HX w w' D bd ok r lv e (handR ps L s r) := by
  have e : handR ps L s r = ⟨(raiseQ L.sm r.id r.ref).2, s, 0, [], { L with sm := (raiseQ L.sm r.id r.ref).1 }⟩ := by unfold handR; simp [hk]
  rw [e]
  exact (hRaise_calls w Y D ok r lv s x (.slice none 0 0) 0 L h.dr.at' h.low h.small h.okD h.okn).mono fun _ _ q => HX.ofH h.dr q
theorem hand16 (h : HPre w Y S LB D bd A ok okv ps full r lv s x L) (hk : r.kind = 16) : Calls Tryz.prog 298 #[.pointer (some ⟨Y, 0, none⟩), .pointer (some ⟨D, 0, none⟩)] w fun e w' => HX w w' D bd ok r lv e (handR ps L s r) := by
  have e : handR ps L s r = ⟨(moveQ L.sm r.id 1 2).2, s, 0, [], { L with sm := (moveQ L.sm r.id 1 2).1 }⟩ := by unfold handR; simp [hk]
  rw [e]
  exact (hAns_calls w Y D ok r lv s x (.slice none 0 0) 0 L h.dr.at' h.low h.small h.okD h.okn).mono fun _ _ q => HX.ofH h.dr q
theorem hand17 (h : HPre w Y S LB D bd A ok okv ps full r lv s x L) (hk : r.kind = 17) : Calls Tryz.prog 299 #[.pointer (some ⟨Y, 0, none⟩), .pointer (some ⟨D, 0, none⟩)] w fun e w' => HX w w' D bd ok r lv e (handR ps L s r) := by
  have e : handR ps L s r = ⟨(moveQ L.sm r.id 2 3).2, s, 0, [], { L with sm := (moveQ L.sm r.id 2 3).1 }⟩ := by unfold handR; simp [hk]
  rw [e]
  exact (hClose_calls w Y D ok r lv s x (.slice none 0 0) 0 L h.dr.at' h.low h.small h.okD h.okn).mono fun _ _ q => HX.ofH h.dr q
theorem hand18 (h : HPre w Y S LB D bd A ok okv ps full r lv s x L) (hk : r.kind = 18) : Calls Tryz.prog 300 #[.pointer (some ⟨Y, 0, none⟩), .pointer (some ⟨D, 0, none⟩)] w fun e w' => HX w w' D bd ok r lv e (handR ps L s r) := by
  have e : handR ps L s r = ⟨(moveQ L.sm r.id 2 1).2, s, 0, [], { L with sm := (moveQ L.sm r.id 2 1).1 }⟩ := by unfold handR; simp [hk]
  rw [e]
  exact (hReop_calls w Y D ok r lv s x (.slice none 0 0) 0 L h.dr.at' h.low h.small h.okD h.okn).mono fun _ _ q => HX.ofH h.dr q
theorem hand19 (h : HPre w Y S LB D bd A ok okv ps full r lv s x L) (hk : r.kind = 19) : Calls Tryz.prog 301 #[.pointer (some ⟨Y, 0, none⟩), .pointer (some ⟨D, 0, none⟩)] w fun e w' => HX w w' D bd ok r lv e (handR ps L s r) := by
  have e : handR ps L s r = ⟨(incR ps L r.now s 0).1, (incR ps L r.now s 0).2.1, (incR ps L r.now s 0).2.2.1, (incR ps L r.now s 0).2.2.2, L⟩ := by unfold handR; simp [hk]
  rw [e]
  exact (issueInc_calls w Y S LB D bd A ok ps full r lv s x 0 L h.sys h.st h.pk (by have := h.plen; omega) h.req h.stat h.dr h.low h.small h.times (by have := h.small.sm.b; omega) h.hco).mono fun _ _ q => HX.ofI h.low h.okD q
theorem hand20 (h : HPre w Y S LB D bd A ok okv ps full r lv s x L) (hk : r.kind = 20) : Calls Tryz.prog 302 #[.pointer (some ⟨Y, 0, none⟩), .pointer (some ⟨D, 0, none⟩)] w fun e w' => HX w w' D bd ok r lv e (handR ps L s r) := by
  have e : handR ps L s r = ⟨(cumR ps L r.now s 0).1, (cumR ps L r.now s 0).2.1, (cumR ps L r.now s 0).2.2.1, (cumR ps L r.now s 0).2.2.2, L⟩ := by unfold handR; simp [hk]
  rw [e]
  exact (issueCum_calls w Y S LB D bd A ok ps full r lv s x 0 L h.sys h.st h.pk (by have := h.plen; omega) h.req h.stat h.dr h.low h.small h.times (by have := h.small.sm.b; omega) h.hcc).mono fun _ _ q => HX.ofI h.low h.okD q
end

end Go.Proofs.Qxb6500666aGreatDoor
