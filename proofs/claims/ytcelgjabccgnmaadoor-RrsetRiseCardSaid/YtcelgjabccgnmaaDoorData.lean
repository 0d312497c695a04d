/-
  Data: the program's functions and the document's compute the same plain functions. Nothing is claimed here.
-/
import Derived.Test.YtcelgjabccgnmaaDoorRef5
import Derived.Test.YtcelgjabccgnmaaDoorLaw5
namespace Go.Proofs.YtcelgjabccgnmaaDoor
open Go.RowKit
set_option linter.unusedVariables false
set_option linter.unusedSimpArgs false
set_option maxHeartbeats 1000000

theorem doParts_le {msg : Bs} {whole : Bool} : ∀ (xs : List Part) (p : Nat) (q : Pieces), p ≤ msg.length → (doParts msg whole xs p q).1 = 0 → (doParts msg whole xs p q).2.2.length ≤ q.length + xs.length * (1 + msg.length)
  | [], p, q, _, _ => by simp [doParts]
  | x :: xs, p, q, hp, h => by
    rw [doParts_cons] at h ⊢
    split at h
    · rename_i h1
      rw [if_pos h1]
      obtain ⟨h2, h3⟩ := doPart_le (q := q) hp x h1
      have := doParts_le xs _ _ h2 h
      rw [List.length_cons, Nat.add_mul]; omega
    · rename_i h1; exact absurd h h1
theorem partsOf_len {kind : Nat} {l : List Part} (h : partsOf kind = some l) : l.length ≤ 3 := by
  unfold partsOf at h
  repeat' split at h
  all_goals first
    | (cases h; decide)
    | cases h
theorem readD_len (kind : Nat) (data : Bs) : (readD data 0 kind true).2.length ≤ 3 * (1 + data.length) := by
  rw [readD]
  cases h : partsOf kind with
  | none => simp
  | some l =>
    have hl := partsOf_len h
    simp only [readE]
    split
    · rename_i h0
      split
      · simp
      · have := doParts_le (whole := true) l 0 [] (Nat.zero_le _) h0
        have h2 : l.length * (1 + data.length) ≤ 3 * (1 + data.length) := Nat.mul_le_mul_right _ hl
        simp only [List.length_nil] at this ⊢; omega
    · simp
theorem readD_no {kind : Nat} {data : Bs} (h : dmayB kind data = false) : (readD data 0 kind true).2 = [] := by
  rw [dmayB] at h
  rw [readD] at h ⊢
  cases hp : partsOf kind with
  | none => rfl
  | some l =>
    simp only [hp, readE] at h ⊢
    split
    · rename_i h0
      rw [if_pos h0] at h
      split
      · rfl
      · rename_i h1; rw [if_neg h1] at h; simp at h
    · rfl
theorem readD_flat (kind : Nat) (data : Bs) : (flatP (readD data 0 kind true).2).length ≤ data.length := by
  cases h : dmayB kind data with
  | true => rw [show flatP (readD data 0 kind true).2 = data from (agree_all kind data).2.2 h]; exact Nat.le_refl _
  | false => rw [readD_no h]; simp [flatP]
theorem rNames_le {msg : Bs} : ∀ (k p : Nat) (q : Pieces), (rNames msg k p q).2.2.length ≤ q.length + k ∧ (flatP (rNames msg k p q).2.2).length ≤ (flatP q).length + k * 255
  | 0, p, q => by simp [rNames]
  | k + 1, p, q => by
    rw [rNames]
    split
    · simp [flatP]
    · obtain ⟨h1, h2⟩ := rNames_le (msg := msg) k (readAt msg p).2.2 (q ++ [((readAt msg p).2.1, true)])
      have h3 := readAt_255 msg p
      have h4 : (flatP (q ++ [((readAt msg p).2.1, true)])).length = (flatP q).length + (readAt msg p).2.1.length := by simp [flatP]
      rw [List.length_append, List.length_singleton] at h1
      rw [Nat.add_mul]
      omega
theorem refP_le (kind : Nat) (data : Bs) : (refP data 0 kind).2.length ≤ 5 ∧ (flatP (refP data 0 kind).2).length ≤ 2 * data.length + 1000 := by
  obtain ⟨h1, h2, h3⟩ := layoutF_le kind
  unfold refP
  split
  · simp [flatP]
  split
  · unfold rTexts; split
    · simp [flatP]
    · split
      · simp [flatP]; omega
      · simp [flatP]
  split
  · simp [flatP]; omega
  split
  · simp [flatP]
  obtain ⟨h4, h5⟩ := rNames_le (msg := data) (layoutF kind).2.1 (0 + (layoutF kind).1) [((data.take (0 + (layoutF kind).1)).drop 0, false)]
  have h6 : (flatP [((data.take (0 + (layoutF kind).1)).drop 0, false)]).length ≤ data.length := by simp [flatP]; omega
  have h7 : (layoutF kind).2.1 * 255 ≤ 2 * 255 := Nat.mul_le_mul_right _ h2
  split
  · simp [flatP]
  split
  · simp [flatP]
  split
  · simp [flatP]
  · simp only [List.length_append, List.length_singleton] at h4 ⊢
    refine ⟨by omega, ?_⟩
    have h8 : ∀ x : Bs, (flatP ((rNames data (layoutF kind).2.1 (0 + (layoutF kind).1) [((data.take (0 + (layoutF kind).1)).drop 0, false)]).2.2 ++ [(x, false)])).length = (flatP (rNames data (layoutF kind).2.1 (0 + (layoutF kind).1) [((data.take (0 + (layoutF kind).1)).drop 0, false)]).2.2).length + x.length := by
      intro x; simp [flatP]
    rw [h8, List.length_drop]
    omega
theorem refW_flat {kind : Nat} {data : Bs} : flatP ((refW kind data).getD []) = data ∨ (refW kind data).getD [] = [] := by
  rw [refW]; split
  · exact .inr rfl
  · rename_i h
    refine .inl ?_
    have := fun e => h (.inr e)
    exact Classical.not_not.1 this
theorem piece_le {l : Pieces} {p : Bs × Bool} (h : p ∈ l) : p.1.length ≤ (flatP l).length := by
  obtain ⟨i, hi, rfl⟩ := List.mem_iff_getElem.1 h
  have h1 := flatP_take hi
  have h2 := flatP_le l (i + 1)
  rw [h1, List.length_append] at h2; omega

theorem dataFold_spec (kind : Nat) (data : Bs) (hs : data.length < 1000000) (w0 : World) (hG : GW w0) : Rets Tryd.prog 26 [.int .u16 kind, .string (mk data)] w0 fun v w' => v = .string (mk (dfold kind data)) ∧ Ext w0 w' :=
  dfold_spec kind data hs (by have := readD_len kind data; omega) (by have := readD_flat kind data; omega) w0 hG
theorem refDataMay_spec (kind : Nat) (data : Bs) (hs : data.length < 1000000) (w0 : World) : Rets Tryd.prog 36 [.int .u16 kind, .string (mk data)] w0 fun v w' => v = .bool (dmayB kind data) ∧ Ext w0 w' := by
  obtain ⟨h1, h2⟩ := refP_le kind data
  have := refDMay_spec kind data hs (by omega) (by omega) w0
  rwa [(agree_all kind data).1] at this
theorem refDataFold_spec (kind : Nat) (data : Bs) (hs : data.length < 1000000) (w0 : World) : Rets Tryd.prog 38 [.int .u16 kind, .string (mk data)] w0 fun v w' => v = .string (mk (dfold kind data)) ∧ Ext w0 w' := by
  obtain ⟨h1, h2⟩ := refP_le kind data
  have hfl : (flatP ((refW kind data).getD [])).length ≤ data.length := by
    rcases refW_flat (kind := kind) (data := data) with h | h
    · rw [h]; exact Nat.le_refl _
    · rw [h]; simp [flatP]
  have hlen : ((refW kind data).getD []).length ≤ 5 := by
    rw [refW]; split
    · simp
    · simpa using h1
  have := refDFold_spec kind data hs (by omega) (by omega) (fun p hp => by have := piece_le hp; omega) (by omega) (by omega) w0
  rwa [(agree_all kind data).2.1] at this
end Go.Proofs.YtcelgjabccgnmaaDoor
