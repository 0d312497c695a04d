/-
  What stays true while records are put among sets. No program is in sight here.
-/
import Derived.Test.YtcelgjabccgnmaaDoorTotal
namespace Go.Proofs.YtcelgjabccgnmaaDoor
set_option linter.unusedVariables false

theorem ahead_lt {α : Type} {p : α → Bool} : ∀ {l : List α} {j : Nat} (h : j < ahead p l) (h2 : j < l.length), p l[j] = true
  | [], j, _, h2 => by simp at h2
  | x :: l, j, h, h2 => by
    unfold ahead at h
    rw [List.takeWhile_cons] at h
    split at h
    · rename_i hp
      cases j with
      | zero => exact hp
      | succ j => exact ahead_lt (l := l) (by simpa [ahead] using h) (by simpa using h2)
    · simp at h
theorem ahead_at {α : Type} {p : α → Bool} : ∀ {l : List α} (h : ahead p l < l.length), p (l[ahead p l]'h) = false
  | [], h => by simp at h
  | x :: l, h => by
    cases hp : p x with
    | true =>
      have e : ahead p (x :: l) = ahead p l + 1 := by unfold ahead; rw [List.takeWhile_cons, if_pos hp]; rfl
      have h' : ahead p l < l.length := by rw [e] at h; simpa using h
      have := ahead_at (l := l) h'
      simp only [e, List.getElem_cons_succ]
      exact this
    | false =>
      have e : ahead p (x :: l) = 0 := by unfold ahead; rw [List.takeWhile_cons, if_neg (by simp [hp])]; rfl
      simp only [e, List.getElem_cons_zero]
      exact hp
theorem ahead_eq {α : Type} {p : α → Bool} {l : List α} {k : Nat} (hk : k ≤ l.length) (h1 : ∀ j (h : j < k), p (l[j]'(by omega)) = true) (h2 : ∀ h : k < l.length, p l[k] = false) : ahead p l = k := by
  rcases Nat.lt_trichotomy (ahead p l) k with h | h | h
  · have := ahead_at (p := p) (l := l) (by omega)
    rw [h1 _ h] at this; cases this
  · exact h
  · have hle := ahead_le p l
    have := ahead_lt (p := p) (l := l) h (by omega)
    rw [h2 (by omega)] at this; cases this

/-! ### Texts that rise -/
def Rise (l : List Bs) : Prop := l.Pairwise fun a b => bless a b = true
theorem rise_mono {l : List Bs} (h : Rise l) {y : Bs} {a b : Nat} (hab : a ≤ b) (hb : b < l.length) (hy : bless (l.getD b []) y = true) : bless (l.getD a []) y = true := by
  have e : ∀ i, i < l.length → l.getD i [] = l[i]! := fun i hi => by simp [List.getD_eq_getElem?_getD, hi]
  rcases Nat.lt_or_ge a b with hlt | hge
  · have h1 := List.pairwise_iff_getElem.1 h a b (by omega) hb hlt
    have ea : l.getD a [] = l[a]'(by omega) := by simp [List.getD_eq_getElem?_getD, show a < l.length by omega]
    have eb : l.getD b [] = l[b] := by simp [List.getD_eq_getElem?_getD, hb]
    rw [eb] at hy
    rw [ea]
    exact bless_trans h1 hy
  · have : a = b := by omega
    subst this; exact hy
theorem insText_rise {l : List Bs} (h : Rise l) (d : Bs) : Rise (insText l d) := by
  unfold insText
  split
  · exact h
  · rename_i hn
    have hk := ahead_le (fun x => bless x d) l
    generalize hA : ahead (fun x => bless x d) l = k at *
    have h1 : ∀ x ∈ l.take k, bless x d = true := by
      intro x hx
      obtain ⟨i, hi, rfl⟩ := List.mem_iff_getElem.1 hx
      rw [List.length_take] at hi
      rw [List.getElem_take]
      exact ahead_lt (p := fun x => bless x d) (by omega) (by omega)
    have h2 : ∀ x ∈ l.drop k, bless d x = true := by
      intro x hx
      obtain ⟨i, hi, rfl⟩ := List.mem_iff_getElem.1 hx
      rw [List.length_drop] at hi
      rw [List.getElem_drop]
      have hkl : k < l.length := by omega
      have hfalse : bless l[k] d = false := by subst hA; exact ahead_at (p := fun x => bless x d) hkl
      have hne : l[k] ≠ d := fun e => hn ⟨by simp [List.getD_eq_getElem?_getD, hkl, e], hkl⟩
      have hd : bless d l[k] = true := by
        rcases bless_tri l[k] d with e | e | e
        · rw [hfalse] at e; cases e
        · exact absurd e hne
        · exact e
      rcases Nat.eq_zero_or_pos i with rfl | hp
      · simpa using hd
      · exact bless_trans hd (List.pairwise_iff_getElem.1 h k (k + i) hkl (by omega) (by omega))
    refine List.pairwise_append.2 ⟨h.sublist (List.take_sublist _ _), List.pairwise_cons.2 ⟨h2, h.sublist (List.drop_sublist _ _)⟩, fun a ha b hb => ?_⟩
    rcases List.mem_cons.1 hb with rfl | hb
    · exact h1 a ha
    · exact bless_trans (h1 a ha) (h2 b hb)
theorem insText_len (l : List Bs) (d : Bs) : (insText l d).length ≤ l.length + 1 ∧ 0 < (insText l d).length := by
  unfold insText
  have hk := ahead_le (fun x => bless x d) l
  split
  · rename_i h; omega
  · rw [List.length_append, List.length_cons, List.length_take, List.length_drop]; omega
end Go.Proofs.YtcelgjabccgnmaaDoor
