/- What justified answers. Plain. -/
import Derived.Test.Qxb6500666aGreatDoorAssess
namespace Go.Proofs.Qxb6500666aGreatDoor
open Go.RowKit
def shipJ (row : Row) (k : Kit) : Bool := (k.id == row.kit) && ((k.site == row.site) && (! (k.site == 0)))
def enrJ (row : Row) (x : Sbj) : Bool := (x.id == row.subject) && (x.site == row.site)
def recJ (row : Row) (s : Smp) : Bool := (s.id == row.sample) && ((s.kit == row.kit) && ((s.subject == row.subject) && ((s.visit == row.visit) && ((s.cls == row.cls) && ((s.collected == row.collected) && ((s.received == row.received) && (! s.exc)))))))
def tstJ (row : Row) (r : Res) : Bool := (r.sample == row.sample) && ((r.analyte == row.analyte) && ((r.version == row.version) && ((r.value == row.value) && ((r.tested == row.tested) && (! r.wd)))))
def visJ (L : Low) (row : Row) : Bool := (decide (0 < inForce L.pr.ver row.collected) && (inForce L.pr.ver row.collected == row.proto)) && (L.pr.ver[(inForce L.pr.ver row.collected - 1).toNat]?.getD (0, [])).2.any (fun y => y == row.visit)
def anaJ (row : Row) (x : Ana) : Bool := (x.id == row.analyte) && (decide (1 ≤ row.cls) && decide (row.cls ≤ 3))
def limJ (row : Row) (lim : Int) : Bool := decide (row.collected ≤ row.received) && (decide (row.received ≤ row.tested) && (decide (row.received - row.collected ≤ lim) && decide (row.tested - row.collected ≤ lim)))
def stabG (row : Row) (b : Bool) (x : Ana) : Bool := if anaJ row x then limJ row (anaLim x row.cls) else b
def qryJ (row : Row) (q : Qry) : Bool := (q.sample == row.sample) && (! (q.stage == 3))
/-- What justified answers. -/
def justB (L : Low) (row : Row) : Bool := if L.sm.qs.any (qryJ row) then false else (L.kit.any (shipJ row) && (L.pr.sub.any (enrJ row) && (L.sm.ss.any (recJ row) && (L.sm.rs.any (tstJ row) && (visJ L row && L.pr.ana.foldl (stabG row) false)))))
end Go.Proofs.Qxb6500666aGreatDoor
