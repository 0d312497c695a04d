/-
  Records as sets, in plain lists: sorted insertion, as package rrset does it. No program is in sight here.
-/
import Derived.Test.YtcelgjabccgnmaaDoorLaw5
namespace Go.Proofs.YtcelgjabccgnmaaDoor
set_option linter.unusedVariables false

/-- How many stand ahead. -/
def ahead {α : Type} (p : α → Bool) (l : List α) : Nat := (l.takeWhile p).length
theorem ahead_le {α : Type} (p : α → Bool) (l : List α) : ahead p l ≤ l.length := by
  unfold ahead
  induction l with
  | nil => simp
  | cons x l ih => rw [List.takeWhile_cons]; split <;> simp <;> omega
/-- A text more, in its place, once. -/
def insText (l : List Bs) (d : Bs) : List Bs :=
  if l.getD (ahead (fun x => bless x d) l) [] = d ∧ ahead (fun x => bless x d) l < l.length then l else l.take (ahead (fun x => bless x d) l) ++ d :: l.drop (ahead (fun x => bless x d) l)
def before (s x : RSet) : Bool := decide (scmp x s < 0)
/-- A set of one datum more. -/
def addSet (l : List RSet) (s : RSet) : List RSet :=
  if ahead (before s) l < l.length ∧ scmp (l.getD (ahead (before s) l) noSet) s = 0 then
    l.set (ahead (before s) l) { l.getD (ahead (before s) l) noSet with ttl := min (l.getD (ahead (before s) l) noSet).ttl s.ttl, data := insText (l.getD (ahead (before s) l) noSet).data (s.data.getD 0 []) }
  else l.take (ahead (before s) l) ++ s :: l.drop (ahead (before s) l)
def addRec (l : List RSet) (r : Rec) : List RSet := if rmay r then addSet l (setOf r) else l
def groupN (l : List Rec) : List RSet := l.foldl addRec []
end Go.Proofs.YtcelgjabccgnmaaDoor
