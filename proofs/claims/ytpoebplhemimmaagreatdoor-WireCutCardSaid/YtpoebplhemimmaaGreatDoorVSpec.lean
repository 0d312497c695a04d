/-
  Chains as plain functions on lists of sets. No program is in sight here.
  Verdicts as plain functions: what is not there (SOA sets), and for how long; a message's verdict; its key. No program is in sight here.
-/
import Derived.Test.YtpoebplhemimmaaGreatDoorSetL
namespace Go.Proofs.YtpoebplhemimmaaGreatDoor
set_option linter.unusedVariables false

/-- The name to which a CNAME set leads. -/
def targetS (s : RSet) : Option Bs := if s.data.length = 1 ∧ mayB (s.data.getD 0 []) = true then some (fold (s.data.getD 0 [])) else none
/-- An error's number, the chain, where it ends. -/
abbrev FRes := Nat × List RSet × Bs
def followG (l : List RSet) (kind cls : Nat) : Nat → Bs → List Bs → List RSet → FRes
  | 0, p, met, ch => if kind = 5 then (0, ch, p) else if (findS l p 5 cls).isSome = true then (5, [], []) else (0, ch, p)
  | f + 1, p, met, ch => if kind = 5 then (0, ch, p) else if (findS l p 5 cls).isSome = true then
      (if (targetS ((findS l p 5 cls).getD noSet)).isNone = true ∨ (findS l p kind cls).isSome = true then (3, [], [])
       else if (targetS ((findS l p 5 cls).getD noSet)).getD [] ∈ met then (8, [], [])
       else followG l kind cls f ((targetS ((findS l p 5 cls).getD noSet)).getD []) (met ++ [(targetS ((findS l p 5 cls).getD noSet)).getD []]) (ch ++ [(findS l p 5 cls).getD noSet]))
      else (0, ch, p)
def followC (nm : Bs) (kind cls : Nat) (l : List RSet) : FRes := if mayB nm = true then followG l kind cls 8 (fold nm) [fold nm] [] else (1, [], [])
def endsOf (r : FRes) (kind cls : Nat) (l : List RSet) : List RSet := if r.1 = 0 then (findS l r.2.2 kind cls).toList else []
theorem findS_mem {l : List RSet} {n : Bs} {kind cls : Nat} {s : RSet} (h : findS l n kind cls = some s) : s ∈ l ∧ isS n kind cls s = true := ⟨List.mem_of_find?_eq_some h, List.find?_some h⟩
theorem findS_all {p : RSet → Prop} {l : List RSet} {n : Bs} {kind cls : Nat} (h : ∀ s ∈ l, p s) (h0 : p noSet) : p ((findS l n kind cls).getD noSet) := by
  cases hf : findS l n kind cls with
  | none => exact h0
  | some s => exact h s (findS_mem hf).1
theorem targetS_le {s : RSet} : ((targetS s).getD []).length ≤ 255 := by
  unfold targetS; split
  · exact fold_le255 _
  · simp
theorem getD_mem' {o : Option RSet} (h : o.isSome = true) : o = some (o.getD noSet) := by
  cases o with
  | none => cases h
  | some s => rfl
theorem followG_mem {l : List RSet} {kind cls : Nat} : ∀ (f : Nat) (p : Bs) (met : List Bs) (ch : List RSet), (followG l kind cls f p met ch).2.1.length ≤ ch.length + f ∧ ∀ s ∈ (followG l kind cls f p met ch).2.1, s ∈ ch ∨ s ∈ l
  | 0, p, met, ch => by
    unfold followG
    split
    · exact ⟨by simp, fun s h => .inl h⟩
    · split
      · exact ⟨by simp, fun s h => by simp at h⟩
      · exact ⟨by simp, fun s h => .inl h⟩
  | f + 1, p, met, ch => by
    unfold followG
    split
    · exact ⟨by simp, fun s h => .inl h⟩
    · split
      · rename_i h1
        split
        · exact ⟨by simp, fun s h => by simp at h⟩
        · split
          · exact ⟨by simp, fun s h => by simp at h⟩
          · obtain ⟨h2, h3⟩ := followG_mem (l := l) (kind := kind) (cls := cls) f ((targetS ((findS l p 5 cls).getD noSet)).getD []) (met ++ [(targetS ((findS l p 5 cls).getD noSet)).getD []]) (ch ++ [(findS l p 5 cls).getD noSet])
            refine ⟨by rw [List.length_append, List.length_singleton] at h2; omega, fun s hs => ?_⟩
            rcases h3 s hs with h | h
            · rcases List.mem_append.1 h with h | h
              · exact .inl h
              · rw [List.mem_singleton.1 h]
                exact .inr (findS_mem (getD_mem' h1)).1
            · exact .inr h
      · exact ⟨by simp, fun s h => .inl h⟩
theorem followC_mem (nm : Bs) (kind cls : Nat) (l : List RSet) : (followC nm kind cls l).2.1.length ≤ 8 ∧ ∀ s ∈ (followC nm kind cls l).2.1, s ∈ l := by
  unfold followC
  split
  · have := followG_mem (l := l) (kind := kind) (cls := cls) 8 (fold nm) [fold nm] []
    refine ⟨by simpa using this.1, fun s hs => ?_⟩
    rcases this.2 s hs with h | h
    · simp at h
    · exact h
  · exact ⟨by simp, fun s h => by simp at h⟩
theorem endsOf_mem (r : FRes) (kind cls : Nat) (l : List RSet) : (endsOf r kind cls l).length ≤ 1 ∧ ∀ s ∈ endsOf r kind cls l, s ∈ l := by
  unfold endsOf
  split
  · cases h : findS l r.2.2 kind cls with
    | none => simp
    | some s => simpa using (findS_mem h).1
  · simp
end Go.Proofs.YtpoebplhemimmaaGreatDoor
namespace Go.Proofs.YtpoebplhemimmaaGreatDoor
set_option linter.unusedVariables false

/-! ### Within -/
def labs (n : Bs) : List Bs := ((split n).getD []).map low
def nlab (n : Bs) : Nat := ((split n).getD []).length
theorem labs_len (n : Bs) : (labs n).length = nlab n := by simp [labs, nlab]
def withinB (n z : Bs) : Bool := mayB n && (mayB z && (decide (nlab z ≤ nlab n) && decide ((labs n).drop (nlab n - nlab z) = labs z)))
theorem labs_some {n : Bs} {l : List Bs} (h : split n = some l) : labs n = l.map low ∧ nlab n = l.length := by unfold labs nlab; rw [h]; exact ⟨rfl, rfl⟩
theorem fold_labs {n : Bs} (h : mayB n = true) : fold n = joinL (labs n) ++ [0] := by
  obtain ⟨l, hl⟩ := may_iff.1 h
  rw [fold_some hl, (labs_some hl).1]
theorem labs_ok {n : Bs} (h : mayB n = true) : okL (labs n) := by
  obtain ⟨l, hl⟩ := may_iff.1 h
  rw [(labs_some hl).1]; exact okL_map low_len (split_some.1 hl).2.1
theorem sameB_labs {a b : Bs} (ha : mayB a = true) (hb : mayB b = true) : sameB a b = decide (labs a = labs b) := by
  unfold sameB
  rw [ha, hb, Bool.true_and, Bool.true_and, decide_eq_decide, fold_labs ha, fold_labs hb]
  exact ⟨join_inj (labs_ok ha) (labs_ok hb), fun h => by rw [h]⟩
/-- The name without its first label. -/
def parentN (n : Bs) : Bs := joinL (((split n).getD []).drop 1) ++ [0]
theorem joinL_drop : ∀ (l : List Bs) (k : Nat), (joinL (l.drop k)).length ≤ (joinL l).length
  | [], k => by simp
  | x :: l, 0 => Nat.le_refl _
  | x :: l, k + 1 => by have := joinL_drop l k; simp only [List.drop_succ_cons, joinL, List.cons_append, List.length_cons, List.length_append]; omega
theorem split_drop {n : Bs} {l : List Bs} (h : split n = some l) (k : Nat) : split (joinL (l.drop k) ++ [0]) = some (l.drop k) := by
  obtain ⟨h1, h2, h3⟩ := split_some.1 h
  exact split_some.2 ⟨rfl, fun x hx => h2 x (List.mem_of_mem_drop hx), by have := joinL_drop l k; omega⟩
theorem joinL_zero {n : Bs} {l : List Bs} (h : split n = some l) : joinL (l.drop 0) ++ [0] = n := by rw [List.drop_zero, ← (split_some.1 h).1]

/-! ### What is not there, and for how long -/
def fitS (nm : Bs) (cls : Nat) (s : RSet) : Bool := decide (s.kind = 6) && (decide (s.cls = cls) && withinB nm s.name)
/-- Has a set more labels than the best one so far? -/
def better (o : Option RSet) (s : RSet) : Bool := match o with
  | none => true
  | some t => decide (nlab t.name < nlab s.name)
def bestGo (nm : Bs) (cls : Nat) : List RSet → Option RSet → Option RSet
  | [], o => o
  | s :: l, o => bestGo nm cls l (if (fitS nm cls s && better o s) = true then some s else o)
theorem bestGo_mem {nm : Bs} {cls : Nat} : ∀ {l : List RSet} {o : Option RSet} {s : RSet}, bestGo nm cls l o = some s → s ∈ l ∨ o = some s
  | [], o, s, h => .inr h
  | x :: l, o, s, h => by
    rcases bestGo_mem (l := l) h with h | h
    · exact .inl (List.mem_cons_of_mem _ h)
    · split at h
      · cases h; exact .inl (List.mem_cons_self ..)
      · exact .inr h
def soaN (l : List RSet) (nm : Bs) (cls : Nat) : Nat × Option RSet := match bestGo nm cls l none with
  | none => (0, none)
  | some s => if s.data.length = 1 then (0, some s) else (3, none)
def numB (d : Bs) : Nat := d.foldl (fun n b => n * 256 + b.toNat) 0
def soaTime (s : RSet) : Nat := if s.kind = 6 ∧ s.data.length = 1 ∧ dmayB 6 (s.data.getD 0 []) = true then
    (if 2147483647 < numB ((s.data.getD 0 []).drop ((s.data.getD 0 []).length - 4)) ∨ 2147483647 < s.ttl then 0 else min (numB ((s.data.getD 0 []).drop ((s.data.getD 0 []).length - 4))) s.ttl) else 0

/-! ### Verdicts -/
def zeroT (s : RSet) : RSet := ⟨s.name, s.kind, s.cls, 0, s.data⟩
def leastT (l : List RSet) (t : Nat) : Nat := l.foldl (fun t s => min t s.ttl) t
structure Verd where
  code : Nat
  sets : List RSet
  soa : List RSet
deriving DecidableEq
def noVerd : Verd := ⟨0, [], []⟩
/-- An error's number, the verdict, its time. -/
def verdG (g h : List RSet) (nm : Bs) (kind cls code : Nat) : Nat × Verd × Nat :=
  if mayB nm = true ∧ (code = 0 ∨ code = 3) then
    if (followC nm kind cls g).1 ≠ 0 then ((followC nm kind cls g).1, noVerd, 0)
    else if code = 3 ∧ endsOf (followC nm kind cls g) kind cls g ≠ [] then (3, noVerd, 0)
    else if endsOf (followC nm kind cls g) kind cls g ≠ [] then
      (0, ⟨code, ((followC nm kind cls g).2.1 ++ endsOf (followC nm kind cls g) kind cls g).map zeroT, []⟩, leastT ((followC nm kind cls g).2.1 ++ endsOf (followC nm kind cls g) kind cls g) 2147483647)
    else if (soaN h (followC nm kind cls g).2.2 cls).1 ≠ 0 then ((soaN h (followC nm kind cls g).2.2 cls).1, noVerd, 0)
    else match (soaN h (followC nm kind cls g).2.2 cls).2 with
      | none => (0, ⟨code, (followC nm kind cls g).2.1.map zeroT, []⟩, 0)
      | some s => (0, ⟨code, (followC nm kind cls g).2.1.map zeroT, [zeroT s]⟩, min (leastT (followC nm kind cls g).2.1 2147483647) (soaTime s))
  else (1, noVerd, 0)
def verdN (nm : Bs) (kind cls code : Nat) (ans auth : List Rec) : Nat × Verd × Nat := verdG (groupN ans) (groupN auth) nm kind cls code

/-! ### Keys -/
def two8 (n : Nat) : Bs := [UInt8.ofNat (n / 256), UInt8.ofNat n]
def keyT (d : Bs) : Bs := two8 d.length ++ d
def keyS (s : RSet) : Bs := s.name ++ (two8 s.kind ++ (two8 s.cls ++ (two8 s.data.length ++ s.data.flatMap keyT)))
def keyB (n : Nat) : Bs := [UInt8.ofNat n]
def keyL (l : List RSet) : Bs := UInt8.ofNat l.length :: l.flatMap keyS
def keyV (v : Verd) : Bs := UInt8.ofNat v.code :: (keyL v.sets ++ keyL v.soa)
def sameV (a b : Verd) : Bool := decide (a = b)
/-- A verdict's end. -/
def endV (kind : Nat) (v : Verd) : Option RSet := match v.sets.getLast? with
  | none => none
  | some s => if s.kind = kind then some s else none
end Go.Proofs.YtpoebplhemimmaaGreatDoor
