/-
  Records as sets, in plain lists: sorted insertion, as package rrset does it. No program is in sight here.
  The orders of texts, of rows of texts, of sets are orders. No program is in sight here.
  What stays true while records are put among sets. No program is in sight here.
-/
import Derived.Test.YtpoebplhemimmaaGreatDoorLaw5
namespace Go.Proofs.YtpoebplhemimmaaGreatDoor
set_option linter.unusedVariables false

/-- How many stand ahead. -/
def ahead {α : Type} (p : α → Bool) (l : List α) : Nat := (l.takeWhile p).length
theorem ahead_le {α : Type} (p : α → Bool) (l : List α) : ahead p l ≤ l.length := by
  unfold ahead
  induction l with
  | nil => simp
  | cons x l ih => rw [List.takeWhile_cons]; split <;> simp <;> omega
/-- A text more, in its place, once. -/
def insText (l : List Bs) (d : Bs) : List Bs :=
  if l.getD (ahead (fun x => bless x d) l) [] = d ∧ ahead (fun x => bless x d) l < l.length then l else l.take (ahead (fun x => bless x d) l) ++ d :: l.drop (ahead (fun x => bless x d) l)
def before (s x : RSet) : Bool := decide (scmp x s < 0)
/-- A set of one datum more. -/
def addSet (l : List RSet) (s : RSet) : List RSet :=
  if ahead (before s) l < l.length ∧ scmp (l.getD (ahead (before s) l) noSet) s = 0 then
    l.set (ahead (before s) l) { l.getD (ahead (before s) l) noSet with ttl := min (l.getD (ahead (before s) l) noSet).ttl s.ttl, data := insText (l.getD (ahead (before s) l) noSet).data (s.data.getD 0 []) }
  else l.take (ahead (before s) l) ++ s :: l.drop (ahead (before s) l)
def addRec (l : List RSet) (r : Rec) : List RSet := if rmay r then addSet l (setOf r) else l
def groupN (l : List Rec) : List RSet := l.foldl addRec []
end Go.Proofs.YtpoebplhemimmaaGreatDoor
namespace Go.Proofs.YtpoebplhemimmaaGreatDoor
set_option linter.unusedVariables false

theorem bcmp_neg {x y : Bs} : bcmp x y < 0 ↔ bless x y = true := by
  unfold bcmp; cases h : bless x y <;> cases h2 : bless y x <;> simp
theorem bcmp_zero {x y : Bs} : bcmp x y = 0 ↔ x = y := by
  unfold bcmp
  rcases bless_tri x y with h | h | h
  · have := bless_ne h; simp [h, this]
  · subst h; simp [bless_irr]
  · have := bless_asym h; have h3 := bless_ne h; simp [h, this]; exact fun e => h3 e.symm
theorem bcmp_anti (x y : Bs) : bcmp y x = - bcmp x y := by
  unfold bcmp
  rcases bless_tri x y with h | h | h
  · simp [h, bless_asym h]
  · subst h; simp [bless_irr]
  · simp [h, bless_asym h]
theorem lcmp_zero : ∀ {x y : List Bs}, lcmp x y = 0 ↔ x = y
  | [], [] => by simp [lcmp]
  | [], _ :: _ => by simp [lcmp]
  | _ :: _, [] => by simp [lcmp]
  | x :: xs, y :: ys => by
    unfold lcmp
    by_cases h : bcmp x y = 0
    · rw [if_pos h, lcmp_zero, bcmp_zero.1 h]; simp
    · rw [if_neg h]
      constructor
      · intro e; exact absurd e h
      · intro e; simp only [List.cons.injEq] at e; exact absurd (bcmp_zero.2 e.1) h
theorem lcmp_anti : ∀ (x y : List Bs), lcmp y x = - lcmp x y
  | [], [] => rfl
  | [], _ :: _ => rfl
  | _ :: _, [] => rfl
  | x :: xs, y :: ys => by
    unfold lcmp
    rw [bcmp_anti x y, lcmp_anti xs ys]
    by_cases h : bcmp x y = 0
    · simp [h]
    · rw [if_neg h, if_neg (by omega)]
theorem lcmp_trans : ∀ {x y z : List Bs}, lcmp x y < 0 → lcmp y z < 0 → lcmp x z < 0
  | [], [], _, h, _ => by simp [lcmp] at h
  | _ :: _, [], _, h, _ => by simp [lcmp] at h
  | _, _ :: _, [], _, h => by simp [lcmp] at h
  | [], _ :: _, _ :: _, _, _ => by simp [lcmp]
  | x :: xs, y :: ys, z :: zs, h1, h2 => by
    unfold lcmp at h1 h2 ⊢
    by_cases hxy : bcmp x y = 0
    · rw [if_pos hxy] at h1
      rw [bcmp_zero.1 hxy] at *
      by_cases hyz : bcmp y z = 0
      · rw [if_pos hyz] at h2 ⊢; exact lcmp_trans h1 h2
      · rw [if_neg hyz] at h2 ⊢; exact h2
    · rw [if_neg hxy] at h1
      by_cases hyz : bcmp y z = 0
      · rw [← bcmp_zero.1 hyz, if_neg hxy]; exact h1
      · rw [if_neg hyz] at h2
        have := bcmp_neg.2 (bless_trans (bcmp_neg.1 h1) (bcmp_neg.1 h2))
        rw [if_neg (by omega)]; exact this
theorem icmp_zero {a b : Nat} : icmp a b = 0 ↔ a = b := by
  unfold icmp; split
  · simp; omega
  · split
    · simp; omega
    · simp; omega
theorem icmp_neg {a b : Nat} : icmp a b < 0 ↔ a < b := by
  unfold icmp; split
  · simp; omega
  · split
    · simp; omega
    · simp; omega
/-- Names that may be, by their labels. -/
theorem ncmp_some {a b : Bs} {x y : List Bs} (ha : split a = some x) (hb : split b = some y) : ncmp a b = lcmp (x.map low).reverse (y.map low).reverse := by rw [ncmp, ha, hb]
theorem ncmp_trans {a b c : Bs} (ha : mayB a = true) (hb : mayB b = true) (hc : mayB c = true) (h1 : ncmp a b < 0) (h2 : ncmp b c < 0) : ncmp a c < 0 := by
  obtain ⟨x, hx⟩ := Option.isSome_iff_exists.1 ha
  obtain ⟨y, hy⟩ := Option.isSome_iff_exists.1 hb
  obtain ⟨z, hz⟩ := Option.isSome_iff_exists.1 hc
  rw [ncmp_some hx hy] at h1
  rw [ncmp_some hy hz] at h2
  rw [ncmp_some hx hz]
  exact lcmp_trans h1 h2
theorem ncmp_anti (a b : Bs) : ncmp b a = - ncmp a b := by
  unfold ncmp
  cases split a <;> cases split b <;> simp
  exact lcmp_anti _ _
theorem ncmp_zero_left {a b c : Bs} (ha : mayB a = true) (hb : mayB b = true) (h : ncmp a b = 0) : ncmp a c = ncmp b c := by
  obtain ⟨x, hx⟩ := Option.isSome_iff_exists.1 ha
  obtain ⟨y, hy⟩ := Option.isSome_iff_exists.1 hb
  rw [ncmp_some hx hy] at h
  have e := lcmp_zero.1 h
  unfold ncmp
  rw [hx, hy]
  cases split c with
  | none => rfl
  | some z => simp only; rw [e]
theorem ncmp_zero_right {a b c : Bs} (hb : mayB b = true) (hc : mayB c = true) (h : ncmp b c = 0) : ncmp a b = ncmp a c := by
  have := ncmp_zero_left (c := a) hb hc h
  rw [ncmp_anti a b, ncmp_anti a c] at this; omega
theorem scmp_eq (a b : RSet) : scmp a b = if ncmp a.name b.name ≠ 0 then ncmp a.name b.name else if icmp a.kind b.kind ≠ 0 then icmp a.kind b.kind else icmp a.cls b.cls := by
  unfold scmp; simp only [orI]
  split
  · rfl
  · split
    · rfl
    · split
      · rfl
      · rename_i h; exact (Classical.not_not.1 h).symm
theorem kc_neg {k l c d : Nat} : (if ¬ icmp k l = 0 then icmp k l else icmp c d) < 0 ↔ k < l ∨ (k = l ∧ c < d) := by
  by_cases h : icmp k l = 0
  · rw [if_neg (fun e => e h), icmp_neg]
    have := icmp_zero.1 h
    omega
  · rw [if_pos h, icmp_neg]
    have : ¬ k = l := fun e => h (icmp_zero.2 e)
    omega
theorem scmp_trans {a b c : RSet} (ha : mayB a.name = true) (hb : mayB b.name = true) (hc : mayB c.name = true) (h1 : scmp a b < 0) (h2 : scmp b c < 0) : scmp a c < 0 := by
  rw [scmp_eq] at h1 h2 ⊢
  by_cases n1 : ncmp a.name b.name = 0
  · rw [ncmp_zero_left ha hb n1]
    by_cases n2 : ncmp b.name c.name = 0
    · simp only [n1, n2, ne_eq, not_true_eq_false, if_false] at h1 h2 ⊢
      exact kc_neg.2 (by have := kc_neg.1 h1; have := kc_neg.1 h2; omega)
    · simp only [ne_eq, n2, not_false_eq_true, if_true] at h2 ⊢; exact h2
  · simp only [ne_eq, n1, not_false_eq_true, if_true] at h1
    by_cases n2 : ncmp b.name c.name = 0
    · rw [← ncmp_zero_right hb hc n2]
      simp only [ne_eq, n1, not_false_eq_true, if_true]; exact h1
    · simp only [ne_eq, n2, not_false_eq_true, if_true] at h2
      have := ncmp_trans ha hb hc h1 h2
      rw [if_pos (by omega)]; exact this
end Go.Proofs.YtpoebplhemimmaaGreatDoor
namespace Go.Proofs.YtpoebplhemimmaaGreatDoor
set_option linter.unusedVariables false

theorem ahead_lt {α : Type} {p : α → Bool} : ∀ {l : List α} {j : Nat} (h : j < ahead p l) (h2 : j < l.length), p l[j] = true
  | [], j, _, h2 => by simp at h2
  | x :: l, j, h, h2 => by
    unfold ahead at h
    rw [List.takeWhile_cons] at h
    split at h
    · rename_i hp
      cases j with
      | zero => exact hp
      | succ j => exact ahead_lt (l := l) (by simpa [ahead] using h) (by simpa using h2)
    · simp at h
theorem ahead_at {α : Type} {p : α → Bool} : ∀ {l : List α} (h : ahead p l < l.length), p (l[ahead p l]'h) = false
  | [], h => by simp at h
  | x :: l, h => by
    cases hp : p x with
    | true =>
      have e : ahead p (x :: l) = ahead p l + 1 := by unfold ahead; rw [List.takeWhile_cons, if_pos hp]; rfl
      have h' : ahead p l < l.length := by rw [e] at h; simpa using h
      have := ahead_at (l := l) h'
      simp only [e, List.getElem_cons_succ]
      exact this
    | false =>
      have e : ahead p (x :: l) = 0 := by unfold ahead; rw [List.takeWhile_cons, if_neg (by simp [hp])]; rfl
      simp only [e, List.getElem_cons_zero]
      exact hp
theorem ahead_eq {α : Type} {p : α → Bool} {l : List α} {k : Nat} (hk : k ≤ l.length) (h1 : ∀ j (h : j < k), p (l[j]'(by omega)) = true) (h2 : ∀ h : k < l.length, p l[k] = false) : ahead p l = k := by
  rcases Nat.lt_trichotomy (ahead p l) k with h | h | h
  · have := ahead_at (p := p) (l := l) (by omega)
    rw [h1 _ h] at this; cases this
  · exact h
  · have hle := ahead_le p l
    have := ahead_lt (p := p) (l := l) h (by omega)
    rw [h2 (by omega)] at this; cases this

/-! ### Texts that rise -/
def Rise (l : List Bs) : Prop := l.Pairwise fun a b => bless a b = true
theorem rise_mono {l : List Bs} (h : Rise l) {y : Bs} {a b : Nat} (hab : a ≤ b) (hb : b < l.length) (hy : bless (l.getD b []) y = true) : bless (l.getD a []) y = true := by
  have e : ∀ i, i < l.length → l.getD i [] = l[i]! := fun i hi => by simp [List.getD_eq_getElem?_getD, hi]
  rcases Nat.lt_or_ge a b with hlt | hge
  · have h1 := List.pairwise_iff_getElem.1 h a b (by omega) hb hlt
    have ea : l.getD a [] = l[a]'(by omega) := by simp [List.getD_eq_getElem?_getD, show a < l.length by omega]
    have eb : l.getD b [] = l[b] := by simp [List.getD_eq_getElem?_getD, hb]
    rw [eb] at hy
    rw [ea]
    exact bless_trans h1 hy
  · have : a = b := by omega
    subst this; exact hy
theorem insText_rise {l : List Bs} (h : Rise l) (d : Bs) : Rise (insText l d) := by
  unfold insText
  split
  · exact h
  · rename_i hn
    have hk := ahead_le (fun x => bless x d) l
    generalize hA : ahead (fun x => bless x d) l = k at *
    have h1 : ∀ x ∈ l.take k, bless x d = true := by
      intro x hx
      obtain ⟨i, hi, rfl⟩ := List.mem_iff_getElem.1 hx
      rw [List.length_take] at hi
      rw [List.getElem_take]
      exact ahead_lt (p := fun x => bless x d) (by omega) (by omega)
    have h2 : ∀ x ∈ l.drop k, bless d x = true := by
      intro x hx
      obtain ⟨i, hi, rfl⟩ := List.mem_iff_getElem.1 hx
      rw [List.length_drop] at hi
      rw [List.getElem_drop]
      have hkl : k < l.length := by omega
      have hfalse : bless l[k] d = false := by subst hA; exact ahead_at (p := fun x => bless x d) hkl
      have hne : l[k] ≠ d := fun e => hn ⟨by simp [List.getD_eq_getElem?_getD, hkl, e], hkl⟩
      have hd : bless d l[k] = true := by
        rcases bless_tri l[k] d with e | e | e
        · rw [hfalse] at e; cases e
        · exact absurd e hne
        · exact e
      rcases Nat.eq_zero_or_pos i with rfl | hp
      · simpa using hd
      · exact bless_trans hd (List.pairwise_iff_getElem.1 h k (k + i) hkl (by omega) (by omega))
    refine List.pairwise_append.2 ⟨h.sublist (List.take_sublist _ _), List.pairwise_cons.2 ⟨h2, h.sublist (List.drop_sublist _ _)⟩, fun a ha b hb => ?_⟩
    rcases List.mem_cons.1 hb with rfl | hb
    · exact h1 a ha
    · exact bless_trans (h1 a ha) (h2 b hb)
theorem insText_len (l : List Bs) (d : Bs) : (insText l d).length ≤ l.length + 1 ∧ 0 < (insText l d).length := by
  unfold insText
  have hk := ahead_le (fun x => bless x d) l
  split
  · rename_i h; omega
  · rw [List.length_append, List.length_cons, List.length_take, List.length_drop]; omega
end Go.Proofs.YtpoebplhemimmaaGreatDoor
