/-
  Verdicts, the plain laws: their parts. No program is in sight here.
-/
import Derived.Test.YtcelgjabccgnmaaGreatDoorVParts
namespace Go.Proofs.YtcelgjabccgnmaaGreatDoor
set_option linter.unusedVariables false

theorem isS_kind {n : Bs} {kind cls : Nat} {s : RSet} (h : isS n kind cls s = true) : s.kind = kind := by
  unfold isS at h; simp only [Bool.and_eq_true, decide_eq_true_eq] at h; first | exact h.1 | exact h.1.1 | exact h.1.2 | exact h.2.1
theorem followG_cname {l : List RSet} {kind cls : Nat} : ∀ (k : Nat) (p : Bs) (met : List Bs) (ch : List RSet), (∀ s ∈ ch, s.kind = 5 ∧ kind ≠ 5) → ∀ s ∈ (followG l kind cls k p met ch).2.1, s.kind = 5 ∧ kind ≠ 5
  | 0, p, met, ch, h => by
    unfold followG
    split
    · exact h
    · split
      · exact fun _ h => (List.not_mem_nil h).elim
      · exact h
  | k + 1, p, met, ch, h => by
    rw [followG]
    split
    · exact h
    · rename_i hk
      split
      · rename_i hs
        split
        · exact fun _ h => (List.not_mem_nil h).elim
        · split
          · exact fun _ h => (List.not_mem_nil h).elim
          · refine followG_cname k _ _ _ fun s hs2 => ?_
            rcases List.mem_append.1 hs2 with h2 | h2
            · exact h s h2
            · rw [List.mem_singleton.1 h2]
              obtain ⟨x, hx⟩ := Option.isSome_iff_exists.1 hs
              rw [hx]
              exact ⟨isS_kind (findS_mem hx).2, hk⟩
      · exact h
theorem followC_cname {l : List RSet} {nm : Bs} {kind cls : Nat} : ∀ s ∈ (followC nm kind cls l).2.1, s.kind = 5 ∧ kind ≠ 5 := by
  unfold followC
  split
  · exact followG_cname 8 _ _ [] fun _ h => (List.not_mem_nil h).elim
  · exact fun _ h => (List.not_mem_nil h).elim
theorem ends_kind {l : List RSet} {r : FRes} {kind cls : Nat} : ∀ s ∈ endsOf r kind cls l, s.kind = kind := by
  intro s hs
  unfold endsOf at hs
  split at hs
  · cases h : findS l r.2.2 kind cls with
    | none => rw [h] at hs; cases hs
    | some x =>
      rw [h] at hs
      rw [show s = x by simpa using hs]
      exact isS_kind (findS_mem h).2
  · cases hs
theorem flat_len {l : List RSet} {k : Nat} (h : ∀ s ∈ l, s.data.length ≤ k) : (l.flatMap recsOf).length ≤ l.length * k := by
  induction l with
  | nil => simp
  | cons s l ih =>
    rw [List.flatMap_cons, List.length_append, List.length_cons, Nat.succ_mul]
    have h1 := h s (List.mem_cons_self ..)
    have h2 := ih fun x hx => h x (List.mem_cons_of_mem _ hx)
    have h3 : (recsOf s).length = s.data.length := by simp [recsOf]
    omega
theorem flat_b {l : List RSet} (hl : l.length ≤ 10) (h : ∀ s ∈ l, s.data.length ≤ 4000 ∧ s.name.length < 1000000 ∧ ∀ d ∈ s.data, d.length < 1000000) : RecsB (l.flatMap recsOf) := by
  have h1 := flat_len (l := l) (k := 4000) fun s hs => (h s hs).1
  have h2 := Nat.mul_le_mul_right 4000 hl
  refine ⟨by omega, fun r hr => ?_⟩
  obtain ⟨s, hs, hr⟩ := List.mem_flatMap.1 hr
  obtain ⟨d, hd, rfl⟩ := List.mem_map.1 hr
  exact ⟨(h s hs).2.1, (h s hs).2.2 d hd⟩
/-- What a verdict's parts are. -/
structure PartsF (nm : Bs) (kind cls code : Nat) (ans : List Rec) (x : Verd) : Prop where
  err : (followC nm kind cls (groupN ans)).1 = 0
  code : x.code = code
  sets : x.sets = ((followC nm kind cls (groupN ans)).2.1 ++ endsOf (followC nm kind cls (groupN ans)) kind cls (groupN ans)).map zeroT
  soa : x.soa.length ≤ 1
  zero : x.soa.map zeroT = x.soa
  has : (endV kind x).isSome = decide ((endsOf (followC nm kind cls (groupN ans)) kind cls (groupN ans)).length = 1)
  none : (endV kind x).isSome = true → x.soa.length = 0 ∧ x.code = 0
  flat : RecsB (x.sets.flatMap recsOf) ∧ RecsB (x.soa.flatMap recsOf)
theorem parts_of {nm : Bs} {kind cls code : Nat} {ans auth : List Rec} {V : Nat × Verd × Nat} (h : verdN nm kind cls code ans auth = V) (h0 : V.1 = 0) (h1 : RecsS ans) (h2 : RecsS auth) : PartsF nm kind cls code ans V.2.1 := by
  subst h
  unfold verdN at h0 ⊢
  have hk := verdOk_of h1 h2 h0
  unfold verdN at hk
  obtain ⟨so, t, e, hm, hf, hc, -, hx, hn⟩ := verdG_cases h0
  have hlen := h1.len
  have hlen2 := h2.len
  have hg1 := group_len ans
  have hg2 := group_len auth
  have hb1 := group_bounds (l := ans) ⟨h1.recsB.1, h1.recsB.2⟩
  have hb2 := group_bounds (l := auth) ⟨h2.recsB.1, h2.recsB.2⟩
  have ham := all_mem (groupN ans) nm kind cls
  have hel := endsOf_mem (followC nm kind cls (groupN ans)) kind cls (groupN ans)
  have hfit : ∀ s, so = some s → s ∈ groupN auth := by
    intro s hs
    by_cases hne : endsOf (followC nm kind cls (groupN ans)) kind cls (groupN ans) = []
    · have := hn hne
      rw [hs] at this
      exact (soa_fit this).1
    · rw [(hx hne).2] at hs; cases hs
  rw [e] at hk ⊢
  simp only at hk ⊢
  have hend : endV kind ⟨code, (allOf (groupN ans) nm kind cls).map zeroT, (so.map zeroT).toList⟩ = (endsOf (followC nm kind cls (groupN ans)) kind cls (groupN ans)).head?.map zeroT := by
    unfold endV allOf
    simp only
    rw [List.getLast?_map, List.getLast?_append]
    cases hE : endsOf (followC nm kind cls (groupN ans)) kind cls (groupN ans) with
    | nil =>
      simp only [List.getLast?_nil, Option.none_or, List.head?_nil, Option.map_none]
      cases hC : (followC nm kind cls (groupN ans)).2.1.getLast? with
      | none => rfl
      | some s =>
        simp only [Option.map_some]
        have := followC_cname s (List.mem_of_getLast? hC)
        rw [if_neg]
        show ¬ s.kind = kind
        rw [this.1]; exact fun e => this.2 e.symm
    | cons s E =>
      have hl := hel.1
      rw [hE] at hl
      obtain rfl : E = [] := List.eq_nil_of_length_eq_zero (by simpa using hl)
      simp only [List.getLast?_singleton, Option.some_or, Option.map_some, List.head?_cons]
      rw [if_pos]
      exact ends_kind s (by rw [hE]; exact List.mem_cons_self ..)
  refine ⟨hf, rfl, rfl, by cases so <;> simp, by cases so <;> rfl, ?_, ?_, flat_b (by rw [List.length_map]; omega) fun s hs => ?_, flat_b (by cases so <;> simp) fun s hs => ?_⟩
  · rw [hend]
    have hl := hel.1
    cases hE : endsOf (followC nm kind cls (groupN ans)) kind cls (groupN ans) with
    | nil => rfl
    | cons s E =>
      rw [hE] at hl
      obtain rfl : E = [] := List.eq_nil_of_length_eq_zero (by simpa using hl)
      rfl
  · rw [hend]
    intro hs
    have hne : endsOf (followC nm kind cls (groupN ans)) kind cls (groupN ans) ≠ [] := fun e => by rw [e] at hs; cases hs
    obtain ⟨hc0, rfl⟩ := hx hne
    exact ⟨rfl, hc0⟩
  · obtain ⟨x, hx, rfl⟩ := List.mem_map.1 hs
    have hm := ham.2 x hx
    exact ⟨by have := hg1.2 x hm; show x.data.length ≤ 4000; omega, hb1.name x hm, hb1.each x hm⟩
  · cases so with
    | none => cases hs
    | some x =>
      rw [show s = zeroT x by simpa using hs]
      have hm := hfit x rfl
      exact ⟨by have := hg2.2 x hm; show x.data.length ≤ 4000; omega, hb2.name x hm, hb2.each x hm⟩
theorem parts_backV {nm : Bs} {kind cls code : Nat} {ans auth : List Rec} {V : Nat × Verd × Nat} (h : verdN nm kind cls code ans auth = V) (h0 : V.1 = 0) :
    (verdN nm kind cls code (V.2.1.sets.flatMap recsOf) (V.2.1.soa.flatMap recsOf)).1 = 0 ∧ (verdN nm kind cls code (V.2.1.sets.flatMap recsOf) (V.2.1.soa.flatMap recsOf)).2.1 = V.2.1 := by
  subst h; exact parts_back h0
end Go.Proofs.YtcelgjabccgnmaaGreatDoor
