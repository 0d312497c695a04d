/-
  The orders of texts, of rows of texts, of sets are orders. No program is in sight here.
-/
import Derived.Test.YtcelgjabccgnmaaDoorGspec
namespace Go.Proofs.YtcelgjabccgnmaaDoor
set_option linter.unusedVariables false

theorem bcmp_neg {x y : Bs} : bcmp x y < 0 ↔ bless x y = true := by
  unfold bcmp; cases h : bless x y <;> cases h2 : bless y x <;> simp
theorem bcmp_zero {x y : Bs} : bcmp x y = 0 ↔ x = y := by
  unfold bcmp
  rcases bless_tri x y with h | h | h
  · have := bless_ne h; simp [h, this]
  · subst h; simp [bless_irr]
  · have := bless_asym h; have h3 := bless_ne h; simp [h, this]; exact fun e => h3 e.symm
theorem bcmp_anti (x y : Bs) : bcmp y x = - bcmp x y := by
  unfold bcmp
  rcases bless_tri x y with h | h | h
  · simp [h, bless_asym h]
  · subst h; simp [bless_irr]
  · simp [h, bless_asym h]
theorem lcmp_zero : ∀ {x y : List Bs}, lcmp x y = 0 ↔ x = y
  | [], [] => by simp [lcmp]
  | [], _ :: _ => by simp [lcmp]
  | _ :: _, [] => by simp [lcmp]
  | x :: xs, y :: ys => by
    unfold lcmp
    by_cases h : bcmp x y = 0
    · rw [if_pos h, lcmp_zero, bcmp_zero.1 h]; simp
    · rw [if_neg h]
      constructor
      · intro e; exact absurd e h
      · intro e; simp only [List.cons.injEq] at e; exact absurd (bcmp_zero.2 e.1) h
theorem lcmp_anti : ∀ (x y : List Bs), lcmp y x = - lcmp x y
  | [], [] => rfl
  | [], _ :: _ => rfl
  | _ :: _, [] => rfl
  | x :: xs, y :: ys => by
    unfold lcmp
    rw [bcmp_anti x y, lcmp_anti xs ys]
    by_cases h : bcmp x y = 0
    · simp [h]
    · rw [if_neg h, if_neg (by omega)]
theorem lcmp_trans : ∀ {x y z : List Bs}, lcmp x y < 0 → lcmp y z < 0 → lcmp x z < 0
  | [], [], _, h, _ => by simp [lcmp] at h
  | _ :: _, [], _, h, _ => by simp [lcmp] at h
  | _, _ :: _, [], _, h => by simp [lcmp] at h
  | [], _ :: _, _ :: _, _, _ => by simp [lcmp]
  | x :: xs, y :: ys, z :: zs, h1, h2 => by
    unfold lcmp at h1 h2 ⊢
    by_cases hxy : bcmp x y = 0
    · rw [if_pos hxy] at h1
      rw [bcmp_zero.1 hxy] at *
      by_cases hyz : bcmp y z = 0
      · rw [if_pos hyz] at h2 ⊢; exact lcmp_trans h1 h2
      · rw [if_neg hyz] at h2 ⊢; exact h2
    · rw [if_neg hxy] at h1
      by_cases hyz : bcmp y z = 0
      · rw [← bcmp_zero.1 hyz, if_neg hxy]; exact h1
      · rw [if_neg hyz] at h2
        have := bcmp_neg.2 (bless_trans (bcmp_neg.1 h1) (bcmp_neg.1 h2))
        rw [if_neg (by omega)]; exact this
theorem icmp_zero {a b : Nat} : icmp a b = 0 ↔ a = b := by
  unfold icmp; split
  · simp; omega
  · split
    · simp; omega
    · simp; omega
theorem icmp_neg {a b : Nat} : icmp a b < 0 ↔ a < b := by
  unfold icmp; split
  · simp; omega
  · split
    · simp; omega
    · simp; omega
/-- Names that may be, by their labels. -/
theorem ncmp_some {a b : Bs} {x y : List Bs} (ha : split a = some x) (hb : split b = some y) : ncmp a b = lcmp (x.map low).reverse (y.map low).reverse := by rw [ncmp, ha, hb]
theorem ncmp_trans {a b c : Bs} (ha : mayB a = true) (hb : mayB b = true) (hc : mayB c = true) (h1 : ncmp a b < 0) (h2 : ncmp b c < 0) : ncmp a c < 0 := by
  obtain ⟨x, hx⟩ := Option.isSome_iff_exists.1 ha
  obtain ⟨y, hy⟩ := Option.isSome_iff_exists.1 hb
  obtain ⟨z, hz⟩ := Option.isSome_iff_exists.1 hc
  rw [ncmp_some hx hy] at h1
  rw [ncmp_some hy hz] at h2
  rw [ncmp_some hx hz]
  exact lcmp_trans h1 h2
theorem ncmp_anti (a b : Bs) : ncmp b a = - ncmp a b := by
  unfold ncmp
  cases split a <;> cases split b <;> simp
  exact lcmp_anti _ _
theorem ncmp_zero_left {a b c : Bs} (ha : mayB a = true) (hb : mayB b = true) (h : ncmp a b = 0) : ncmp a c = ncmp b c := by
  obtain ⟨x, hx⟩ := Option.isSome_iff_exists.1 ha
  obtain ⟨y, hy⟩ := Option.isSome_iff_exists.1 hb
  rw [ncmp_some hx hy] at h
  have e := lcmp_zero.1 h
  unfold ncmp
  rw [hx, hy]
  cases split c with
  | none => rfl
  | some z => simp only; rw [e]
theorem ncmp_zero_right {a b c : Bs} (hb : mayB b = true) (hc : mayB c = true) (h : ncmp b c = 0) : ncmp a b = ncmp a c := by
  have := ncmp_zero_left (c := a) hb hc h
  rw [ncmp_anti a b, ncmp_anti a c] at this; omega
theorem scmp_eq (a b : RSet) : scmp a b = if ncmp a.name b.name ≠ 0 then ncmp a.name b.name else if icmp a.kind b.kind ≠ 0 then icmp a.kind b.kind else icmp a.cls b.cls := by
  unfold scmp; simp only [orI]
  split
  · rfl
  · split
    · rfl
    · split
      · rfl
      · rename_i h; exact (Classical.not_not.1 h).symm
theorem kc_neg {k l c d : Nat} : (if ¬ icmp k l = 0 then icmp k l else icmp c d) < 0 ↔ k < l ∨ (k = l ∧ c < d) := by
  by_cases h : icmp k l = 0
  · rw [if_neg (fun e => e h), icmp_neg]
    have := icmp_zero.1 h
    omega
  · rw [if_pos h, icmp_neg]
    have : ¬ k = l := fun e => h (icmp_zero.2 e)
    omega
theorem scmp_trans {a b c : RSet} (ha : mayB a.name = true) (hb : mayB b.name = true) (hc : mayB c.name = true) (h1 : scmp a b < 0) (h2 : scmp b c < 0) : scmp a c < 0 := by
  rw [scmp_eq] at h1 h2 ⊢
  by_cases n1 : ncmp a.name b.name = 0
  · rw [ncmp_zero_left ha hb n1]
    by_cases n2 : ncmp b.name c.name = 0
    · simp only [n1, n2, ne_eq, not_true_eq_false, if_false] at h1 h2 ⊢
      exact kc_neg.2 (by have := kc_neg.1 h1; have := kc_neg.1 h2; omega)
    · simp only [ne_eq, n2, not_false_eq_true, if_true] at h2 ⊢; exact h2
  · simp only [ne_eq, n1, not_false_eq_true, if_true] at h1
    by_cases n2 : ncmp b.name c.name = 0
    · rw [← ncmp_zero_right hb hc n2]
      simp only [ne_eq, n1, not_false_eq_true, if_true]; exact h1
    · simp only [ne_eq, n2, not_false_eq_true, if_true] at h2
      have := ncmp_trans ha hb hc h1 h2
      rw [if_pos (by omega)]; exact this
end Go.Proofs.YtcelgjabccgnmaaDoor
