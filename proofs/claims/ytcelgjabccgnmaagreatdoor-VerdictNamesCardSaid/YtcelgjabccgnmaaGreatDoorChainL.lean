/-
  Chains as plain functions on lists of sets. No program is in sight here.
-/
import Derived.Test.YtcelgjabccgnmaaGreatDoorSetL
namespace Go.Proofs.YtcelgjabccgnmaaGreatDoor
set_option linter.unusedVariables false

/-- The name to which a CNAME set leads. -/
def targetS (s : RSet) : Option Bs := if s.data.length = 1 ∧ mayB (s.data.getD 0 []) = true then some (fold (s.data.getD 0 [])) else none
/-- An error's number, the chain, where it ends. -/
abbrev FRes := Nat × List RSet × Bs
def followG (l : List RSet) (kind cls : Nat) : Nat → Bs → List Bs → List RSet → FRes
  | 0, p, met, ch => if kind = 5 then (0, ch, p) else if (findS l p 5 cls).isSome = true then (5, [], []) else (0, ch, p)
  | f + 1, p, met, ch => if kind = 5 then (0, ch, p) else if (findS l p 5 cls).isSome = true then
      (if (targetS ((findS l p 5 cls).getD noSet)).isNone = true ∨ (findS l p kind cls).isSome = true then (3, [], [])
       else if (targetS ((findS l p 5 cls).getD noSet)).getD [] ∈ met then (8, [], [])
       else followG l kind cls f ((targetS ((findS l p 5 cls).getD noSet)).getD []) (met ++ [(targetS ((findS l p 5 cls).getD noSet)).getD []]) (ch ++ [(findS l p 5 cls).getD noSet]))
      else (0, ch, p)
def followC (nm : Bs) (kind cls : Nat) (l : List RSet) : FRes := if mayB nm = true then followG l kind cls 8 (fold nm) [fold nm] [] else (1, [], [])
def endsOf (r : FRes) (kind cls : Nat) (l : List RSet) : List RSet := if r.1 = 0 then (findS l r.2.2 kind cls).toList else []
theorem findS_mem {l : List RSet} {n : Bs} {kind cls : Nat} {s : RSet} (h : findS l n kind cls = some s) : s ∈ l ∧ isS n kind cls s = true := ⟨List.mem_of_find?_eq_some h, List.find?_some h⟩
theorem findS_all {p : RSet → Prop} {l : List RSet} {n : Bs} {kind cls : Nat} (h : ∀ s ∈ l, p s) (h0 : p noSet) : p ((findS l n kind cls).getD noSet) := by
  cases hf : findS l n kind cls with
  | none => exact h0
  | some s => exact h s (findS_mem hf).1
theorem targetS_le {s : RSet} : ((targetS s).getD []).length ≤ 255 := by
  unfold targetS; split
  · exact fold_le255 _
  · simp
theorem getD_mem' {o : Option RSet} (h : o.isSome = true) : o = some (o.getD noSet) := by
  cases o with
  | none => cases h
  | some s => rfl
theorem followG_mem {l : List RSet} {kind cls : Nat} : ∀ (f : Nat) (p : Bs) (met : List Bs) (ch : List RSet), (followG l kind cls f p met ch).2.1.length ≤ ch.length + f ∧ ∀ s ∈ (followG l kind cls f p met ch).2.1, s ∈ ch ∨ s ∈ l
  | 0, p, met, ch => by
    unfold followG
    split
    · exact ⟨by simp, fun s h => .inl h⟩
    · split
      · exact ⟨by simp, fun s h => by simp at h⟩
      · exact ⟨by simp, fun s h => .inl h⟩
  | f + 1, p, met, ch => by
    unfold followG
    split
    · exact ⟨by simp, fun s h => .inl h⟩
    · split
      · rename_i h1
        split
        · exact ⟨by simp, fun s h => by simp at h⟩
        · split
          · exact ⟨by simp, fun s h => by simp at h⟩
          · obtain ⟨h2, h3⟩ := followG_mem (l := l) (kind := kind) (cls := cls) f ((targetS ((findS l p 5 cls).getD noSet)).getD []) (met ++ [(targetS ((findS l p 5 cls).getD noSet)).getD []]) (ch ++ [(findS l p 5 cls).getD noSet])
            refine ⟨by rw [List.length_append, List.length_singleton] at h2; omega, fun s hs => ?_⟩
            rcases h3 s hs with h | h
            · rcases List.mem_append.1 h with h | h
              · exact .inl h
              · rw [List.mem_singleton.1 h]
                exact .inr (findS_mem (getD_mem' h1)).1
            · exact .inr h
      · exact ⟨by simp, fun s h => .inl h⟩
theorem followC_mem (nm : Bs) (kind cls : Nat) (l : List RSet) : (followC nm kind cls l).2.1.length ≤ 8 ∧ ∀ s ∈ (followC nm kind cls l).2.1, s ∈ l := by
  unfold followC
  split
  · have := followG_mem (l := l) (kind := kind) (cls := cls) 8 (fold nm) [fold nm] []
    refine ⟨by simpa using this.1, fun s hs => ?_⟩
    rcases this.2 s hs with h | h
    · simp at h
    · exact h
  · exact ⟨by simp, fun s h => by simp at h⟩
theorem endsOf_mem (r : FRes) (kind cls : Nat) (l : List RSet) : (endsOf r kind cls l).length ≤ 1 ∧ ∀ s ∈ endsOf r kind cls l, s ∈ l := by
  unfold endsOf
  split
  · cases h : findS l r.2.2 kind cls with
    | none => simp
    | some s => simpa using (findS_mem h).1
  · simp
end Go.Proofs.YtcelgjabccgnmaaGreatDoor
