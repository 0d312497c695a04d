/-
  Chains among the sets of records: the way, its end, sets more. No program is in sight here.
-/
import Derived.Test.YtcelgjabccgnmaaGreatDoorChainL
import Derived.Test.YtcelgjabccgnmaaGreatDoorRrL
namespace Go.Proofs.YtcelgjabccgnmaaGreatDoor
set_option linter.unusedVariables false

/-- A way along CNAMEs from a name. -/
def Way (u : List RSet) (cls : Nat) : Bs → List Bs → List RSet → Bs → Prop
  | p, _, [], q => q = p
  | p, met, s :: ch, q => findS u p 5 cls = some s ∧ s.data.length = 1 ∧ mayB (s.data.getD 0 []) = true ∧ fold (s.data.getD 0 []) ∉ met ∧ Way u cls (fold (s.data.getD 0 [])) (met ++ [fold (s.data.getD 0 [])]) ch q
theorem targetS_some {s : RSet} {t : Bs} (h : targetS s = some t) : s.data.length = 1 ∧ mayB (s.data.getD 0 []) = true ∧ t = fold (s.data.getD 0 []) := by
  unfold targetS at h
  split at h
  · rename_i h2; cases h; exact ⟨h2.1, h2.2, rfl⟩
  · cases h
theorem followG_way {u : List RSet} {kind cls : Nat} : ∀ (f : Nat) (p : Bs) (met : List Bs) (ch0 ch : List RSet) (q : Bs), followG u kind cls f p met ch0 = (0, ch, q) → ∃ ch1, ch = ch0 ++ ch1 ∧ Way u cls p met ch1 q ∧ (kind = 5 → ch1 = []) ∧ (kind = 5 ∨ findS u q 5 cls = none)
  | 0, p, met, ch0, ch, q, h => by
    unfold followG at h
    split at h
    · rename_i h5; cases h; exact ⟨[], by simp, rfl, fun _ => rfl, .inl h5⟩
    · split at h
      · simp at h
      · rename_i h1
        cases h
        exact ⟨[], by simp, rfl, fun _ => rfl, .inr (Option.not_isSome_iff_eq_none.1 h1)⟩
  | f + 1, p, met, ch0, ch, q, h => by
    unfold followG at h
    split at h
    · rename_i h5; cases h; exact ⟨[], by simp, rfl, fun _ => rfl, .inl h5⟩
    · rename_i h5
      split at h
      · rename_i h1
        split at h
        · simp at h
        · rename_i h2
          split at h
          · simp at h
          · rename_i h3
            obtain ⟨ch1, e, hw, hk, hn⟩ := followG_way f _ _ _ _ _ h
            have h2' := not_or.1 h2
            cases hT : targetS ((findS u p 5 cls).getD noSet) with
            | none => rw [hT] at h2'; exact absurd rfl h2'.1
            | some t =>
              obtain ⟨t1, t2, rfl⟩ := targetS_some hT
              rw [hT] at h3 hw
              simp only [Option.getD_some] at h3 hw
              exact ⟨(findS u p 5 cls).getD noSet :: ch1, by rw [e]; simp, ⟨getD_mem' h1, t1, t2, h3, hw⟩, fun h => absurd h h5, hn⟩
      · rename_i h1
        cases h
        exact ⟨[], by simp, rfl, fun _ => rfl, .inr (Option.not_isSome_iff_eq_none.1 h1)⟩
theorem followG_err {u : List RSet} {kind cls : Nat} : ∀ (f : Nat) (p : Bs) (met : List Bs) (ch0 : List RSet), (followG u kind cls f p met ch0).1 ≠ 0 → (followG u kind cls f p met ch0).2 = ([], []) ∧ kind ≠ 5
  | 0, p, met, ch0, h => by
    unfold followG at h ⊢
    split at h
    · simp at h
    · rename_i h5
      rw [if_neg h5]
      split at h
      · rename_i h1; rw [if_pos h1]; exact ⟨rfl, h5⟩
      · simp at h
  | f + 1, p, met, ch0, h => by
    unfold followG at h ⊢
    split at h
    · simp at h
    · rename_i h5
      rw [if_neg h5]
      split at h
      · rename_i h1
        rw [if_pos h1]
        split at h
        · rename_i h2; rw [if_pos h2]; exact ⟨rfl, h5⟩
        · rename_i h2
          rw [if_neg h2]
          split at h
          · rename_i h3; rw [if_pos h3]; exact ⟨rfl, h5⟩
          · rename_i h3
            rw [if_neg h3]
            exact followG_err f _ _ _ h
      · simp at h
theorem followC_err {nm : Bs} {u : List RSet} {kind cls : Nat} (h : (followC nm kind cls u).1 ≠ 0) : (followC nm kind cls u).2 = ([], []) ∧ endsOf (followC nm kind cls u) kind cls u = [] ∧ (kind = 5 → (followC nm kind cls u).1 = 1) := by
  refine ⟨?_, by rw [endsOf, if_neg h], ?_⟩
  · unfold followC at h ⊢
    split at h
    · rename_i hm; rw [if_pos hm]; exact (followG_err _ _ _ _ h).1
    · rename_i hm; rw [if_neg hm]
  · intro h5
    unfold followC at h ⊢
    split at h
    · exact absurd h5 (followG_err _ _ _ _ h).2
    · rename_i hm; rw [if_neg hm]
theorem followC_way {nm : Bs} {u : List RSet} {kind cls : Nat} (h : (followC nm kind cls u).1 = 0) : mayB nm = true ∧ Way u cls (fold nm) [fold nm] (followC nm kind cls u).2.1 (followC nm kind cls u).2.2 ∧ (kind = 5 → (followC nm kind cls u).2.1 = [] ∧ (followC nm kind cls u).2.2 = fold nm) ∧ (kind = 5 ∨ findS u (followC nm kind cls u).2.2 5 cls = none) := by
  unfold followC at h ⊢
  split at h
  · rename_i hm
    rw [if_pos hm]
    obtain ⟨ch1, e, hw, hk, hn⟩ := followG_way 8 (fold nm) [fold nm] [] _ _ (Prod.ext h (Prod.ext rfl rfl))
    rw [List.nil_append] at e
    rw [e]
    refine ⟨hm, hw, fun h5 => ?_, hn⟩
    have hk' := hk h5
    rw [hk'] at hw
    exact ⟨hk', hw⟩
  · simp at h

/-! ### Among the sets of records -/
theorem group_find {l : List Rec} {p : Bs} {k c : Nat} {s : RSet} (hp : fold p = p) (h : findS (groupN l) p k c = some s) : s.name = p ∧ s.kind = k ∧ s.cls = c ∧ s ∈ groupN l := by
  obtain ⟨h1, h2⟩ := findS_mem h
  have hg := ((group_holds l).1.is s h1).good
  unfold isS sameB at h2
  simp only [Bool.and_eq_true, decide_eq_true_eq] at h2
  exact ⟨by rw [← hg.fold, h2.2.2, hp], h2.1.1, h2.1.2, h1⟩
theorem group_datum {l : List Rec} {s : RSet} (h : s ∈ groupN l) (hk : s.kind = 5) (hd : s.data.length = 1) : fold (s.data.getD 0 []) = s.data.getD 0 [] := by
  have hm : s.data.getD 0 [] ∈ s.data := by rw [List.getD_eq_getElem?_getD, List.getElem?_eq_getElem (show 0 < s.data.length by omega)]; exact List.getElem_mem _
  have := (((group_holds l).1.is s h).fix hm).2
  rwa [hk, dfold_named rfl] at this
theorem way_len {u : List RSet} {cls : Nat} : ∀ {ch : List RSet} {p q : Bs} {met : List Bs}, fold p = p → Way u cls p met ch q → fold q = q
  | [], p, q, _, hp, h => by
    have : q = p := h
    rw [this]; exact hp
  | s :: ch, p, q, _, _, h => way_len (fold_fold _) h.2.2.2.2
/-- The first set of a name, a type and a class is the only one. -/
theorem group_isS {l : List Rec} {p : Bs} {k c : Nat} {s : RSet} (hs : s ∈ groupN l) (hi : isS p k c s = true) : findS (groupN l) p k c = some s := by
  have hsome : (findS (groupN l) p k c).isSome = true := by
    unfold findS; rw [List.find?_isSome]; exact ⟨s, hs, hi⟩
  obtain ⟨t, ht⟩ := Option.isSome_iff_exists.1 hsome
  rw [ht]
  obtain ⟨h1, h2⟩ := findS_mem ht
  have hh := (group_holds l).1
  have gs := (hh.is s hs).good
  have gt := (hh.is t h1).good
  unfold isS sameB at hi h2
  simp only [Bool.and_eq_true, decide_eq_true_eq] at hi h2
  congr 1
  exact (hh.is t h1).eq (hh.is s hs) ⟨by rw [← gs.fold, ← gt.fold, hi.2.2, h2.2.2], by rw [h2.1.1, hi.1.1], by rw [h2.1.2, hi.1.2]⟩
theorem find_more {l extra : List Rec} {p : Bs} {k c : Nat} (hx : ∀ r ∈ extra, sameB p r.name = false ∨ r.cls ≠ c) : findS (groupN (l ++ extra)) p k c = findS (groupN l) p k c := by
  have key : ∀ s, isS p k c s = true → (IsSet (l ++ extra) s ↔ IsSet l s) := by
    intro s hi
    unfold isS sameB at hi
    simp only [Bool.and_eq_true, decide_eq_true_eq] at hi
    have hno : ∀ r ∈ extra, ¬ hasKey r s := by
      intro r hr hk
      rcases hx r hr with h | h
      · have hg := hk.good
        have : sameB p r.name = true := by
          unfold sameB
          simp only [Bool.and_eq_true, decide_eq_true_eq]
          exact ⟨⟨hi.2.1.2, rmay_name hk.1⟩, by rw [hk.2.1, ← hi.2.2, hg.fold]⟩
        rw [h] at this; cases this
      · exact h (hk.2.2.2.trans hi.1.2)
    have e : ∀ r, (r ∈ l ++ extra ∧ hasKey r s) ↔ (r ∈ l ∧ hasKey r s) := fun r =>
      ⟨fun ⟨h1, h2⟩ => ⟨(List.mem_append.1 h1).resolve_right fun h => hno r h h2, h2⟩, fun ⟨h1, h2⟩ => ⟨List.mem_append_left _ h1, h2⟩⟩
    constructor
    · intro h
      refine ⟨fun x => ?_, h.rise, fun r hr hk => h.le r (List.mem_append_left _ hr) hk, ?_⟩
      · rw [h.data]
        exact ⟨fun ⟨r, h1, h2, h3⟩ => ⟨r, ((e r).1 ⟨h1, h2⟩).1, h2, h3⟩, fun ⟨r, h1, h2, h3⟩ => ⟨r, List.mem_append_left _ h1, h2, h3⟩⟩
      · obtain ⟨r, h1, h2, h3⟩ := h.at'
        exact ⟨r, ((e r).1 ⟨h1, h2⟩).1, h2, h3⟩
    · intro h
      refine ⟨fun x => ?_, h.rise, fun r hr hk => h.le r ((e r).1 ⟨hr, hk⟩).1 hk, ?_⟩
      · rw [h.data]
        exact ⟨fun ⟨r, h1, h2, h3⟩ => ⟨r, List.mem_append_left _ h1, h2, h3⟩, fun ⟨r, h1, h2, h3⟩ => ⟨r, ((e r).1 ⟨h1, h2⟩).1, h2, h3⟩⟩
      · obtain ⟨r, h1, h2, h3⟩ := h.at'
        exact ⟨r, List.mem_append_left _ h1, h2, h3⟩
  cases h : findS (groupN l) p k c with
  | some s =>
    obtain ⟨h1, h2⟩ := findS_mem h
    exact group_isS ((group_mem _ s).2 ((key s h2).2 ((group_mem l s).1 h1))) h2
  | none =>
    cases h' : findS (groupN (l ++ extra)) p k c with
    | none => rfl
    | some s =>
      obtain ⟨h1, h2⟩ := findS_mem h'
      have := group_isS ((group_mem l s).2 ((key s h2).1 ((group_mem _ s).1 h1))) h2
      rw [h] at this; cases this
/-- The way is the same among other sets that tell the same of each name that is come to. -/
theorem followG_congr {u v : List RSet} {kind cls : Nat} {bad : Bs → Prop} (hf : ∀ p, ¬ bad p → ∀ k, findS v p k cls = findS u p k cls) : ∀ (f : Nat) (p : Bs) (met : List Bs) (ch0 ch1 : List RSet) (q : Bs),
    followG u kind cls f p met ch0 = (0, ch0 ++ ch1, q) → ¬ bad q → (∀ s ∈ ch1, ¬ bad s.name) → (∀ s ∈ u, ∀ p, fold p = p → isS p 5 cls s = true → s.name = p) → fold p = p → followG v kind cls f p met ch0 = (0, ch0 ++ ch1, q)
  | f, p, met, ch0, ch1, q, h, hq, hs, hu, hp => by
    obtain ⟨ch2, e, hw, hk, hn⟩ := followG_way f p met ch0 _ q h
    have e2 : ch1 = ch2 := List.append_cancel_left e
    subst e2
    have hbp : ¬ bad p := by
      cases ch1 with
      | nil => have : q = p := hw; rw [← this]; exact hq
      | cons s t =>
        have h1 := hw.1
        obtain ⟨h2, h3⟩ := findS_mem h1
        rw [← hu s h2 p hp h3]; exact hs s (List.mem_cons_self ..)
    have hfp := hf p hbp
    cases f with
    | zero =>
      unfold followG at h ⊢
      rw [hfp]; exact h
    | succ f =>
      unfold followG at h ⊢
      rw [hfp 5, hfp kind]
      split at h
      · rename_i h5; rw [if_pos h5]; exact h
      · rename_i h5
        rw [if_neg h5]
        split at h
        · rename_i h1
          rw [if_pos h1]
          split at h
          · simp at h
          · rename_i h2
            rw [if_neg h2]
            split at h
            · simp at h
            · rename_i h3
              rw [if_neg h3]
              cases ch1 with
              | nil =>
                exfalso
                obtain ⟨c, e, -⟩ := followG_way f _ _ _ _ _ h
                have := congrArg List.length e
                simp at this
              | cons s t =>
                have hs1 := hw.1
                have e1 : (findS u p 5 cls).getD noSet = s := by rw [hs1]; rfl
                rw [e1] at h ⊢
                have ht : (targetS s).getD [] = fold (s.data.getD 0 []) := by
                  unfold targetS; rw [if_pos ⟨hw.2.1, hw.2.2.1⟩]; rfl
                have e3 : ch0 ++ s :: t = (ch0 ++ [s]) ++ t := by simp
                rw [e3] at h ⊢
                exact followG_congr hf f _ _ _ t q h hq (fun x hx => hs x (List.mem_cons_of_mem _ hx)) hu (by rw [ht]; exact fold_fold _)
        · rename_i h1
          rw [if_neg h1]; exact h
theorem chain_more {l extra : List Rec} {nm : Bs} {kind cls : Nat} (h : (followC nm kind cls (groupN l)).1 = 0)
    (hx : ∀ r ∈ extra, (∀ m ∈ (followC nm kind cls (groupN l)).2.2 :: (followC nm kind cls (groupN l)).2.1.map (·.name), sameB m r.name = false) ∨ r.cls ≠ cls) :
    followC nm kind cls (groupN (l ++ extra)) = followC nm kind cls (groupN l) ∧ endsOf (followC nm kind cls (groupN l)) kind cls (groupN (l ++ extra)) = endsOf (followC nm kind cls (groupN l)) kind cls (groupN l) := by
  obtain ⟨hm, hw, -, -⟩ := followC_way h
  have key : ∀ p, ¬ (p ∉ (followC nm kind cls (groupN l)).2.2 :: (followC nm kind cls (groupN l)).2.1.map (·.name)) → ∀ k, findS (groupN (l ++ extra)) p k cls = findS (groupN l) p k cls := fun p hp k =>
    find_more fun r hr => (hx r hr).imp (fun h => h p (Classical.not_not.1 hp)) id
  constructor
  · have hc : followG (groupN l) kind cls 8 (fold nm) [fold nm] [] = (0, [] ++ (followC nm kind cls (groupN l)).2.1, (followC nm kind cls (groupN l)).2.2) := by
      have e : followC nm kind cls (groupN l) = followG (groupN l) kind cls 8 (fold nm) [fold nm] [] := by unfold followC; rw [if_pos hm]
      rw [List.nil_append, ← e]
      exact Prod.ext h (Prod.ext rfl rfl)
    have := followG_congr (bad := fun p => p ∉ (followC nm kind cls (groupN l)).2.2 :: (followC nm kind cls (groupN l)).2.1.map (·.name)) key 8 (fold nm) [fold nm] [] _ _ hc
      (fun h => h (List.mem_cons_self ..)) (fun s hs h => h (List.mem_cons_of_mem _ (List.mem_map_of_mem hs)))
      (fun s hs p hp hi => (group_find hp (group_isS hs hi)).1) (fold_fold _)
    have e2 : followC nm kind cls (groupN (l ++ extra)) = followG (groupN (l ++ extra)) kind cls 8 (fold nm) [fold nm] [] := by unfold followC; rw [if_pos hm]
    rw [e2, this]
    exact (Prod.ext h.symm (Prod.ext (by simp) rfl))
  · unfold endsOf
    rw [if_pos h, if_pos h, key _ (fun h => h (List.mem_cons_self ..))]
theorem way_at {u : List RSet} {cls : Nat} : ∀ {ch : List RSet} {p q : Bs} {met : List Bs}, p.length ≤ 255 → Way u cls p met ch q → q.length ≤ 255
  | [], p, q, _, hp, h => by
    have : q = p := h
    rw [this]; exact hp
  | s :: ch, p, q, _, _, h => way_at (fold_le255 _) h.2.2.2.2
theorem chain_at_le (nm : Bs) (kind cls : Nat) (u : List RSet) : (followC nm kind cls u).2.2.length ≤ 255 := by
  by_cases h : (followC nm kind cls u).1 = 0
  · exact way_at (fold_le255 _) (followC_way h).2.1
  · rw [(followC_err h).1]; simp
end Go.Proofs.YtcelgjabccgnmaaGreatDoor
