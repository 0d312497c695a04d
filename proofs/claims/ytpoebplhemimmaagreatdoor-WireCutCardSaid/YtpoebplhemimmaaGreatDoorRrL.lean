/-
  What the sets of records are, in plain lists: rows, least TTLs, records of sets, letters. No program is in sight here.
-/
import Derived.Test.YtpoebplhemimmaaGreatDoorSetL
namespace Go.Proofs.YtpoebplhemimmaaGreatDoor
set_option linter.unusedVariables false

theorem timeN_le (t : Nat) : timeN t ≤ 2147483647 := by unfold timeN; split <;> omega
theorem timeN_fix {t : Nat} (h : t ≤ 2147483647) : timeN t = t := by unfold timeN; rw [if_neg (by omega)]
theorem IsSet.some {l : List Rec} {s : RSet} (h : IsSet l s) : s.data ≠ [] := by
  obtain ⟨r, hr, hk, -⟩ := h.at'
  intro e
  have := (h.data (dfold r.kind r.data)).2 ⟨r, hr, hk, rfl⟩
  rw [e] at this; simp at this
theorem IsSet.ttl_le {l : List Rec} {s : RSet} (h : IsSet l s) : s.ttl ≤ 2147483647 := by
  obtain ⟨r, -, -, e⟩ := h.at'; rw [e]; exact timeN_le _
theorem IsSet.fix {l : List Rec} {s : RSet} (h : IsSet l s) {d : Bs} (hd : d ∈ s.data) : dmayB s.kind d = true ∧ dfold s.kind d = d := by
  obtain ⟨r, -, hk, rfl⟩ := (h.data d).1 hd
  have := dfold_fix (rmay_data hk.1)
  rw [← hk.2.2.1]; exact this

/-! ### Turned -/
theorem mem_turned {l : List Rec} {d : Rec} (k : Nat) (r : Rec) : r ∈ (List.range l.length).map (fun i => l.getD ((i + k) % l.length) d) ↔ r ∈ l := by
  constructor
  · intro h
    obtain ⟨i, hi, rfl⟩ := List.mem_map.1 h
    have hn := List.mem_range.1 hi
    have : (i + k) % l.length < l.length := Nat.mod_lt _ (by omega)
    simp only [List.getD_eq_getElem?_getD, List.getElem?_eq_getElem this, Option.getD_some]
    exact List.getElem_mem _
  · intro h
    obtain ⟨j, hj, rfl⟩ := List.mem_iff_getElem.1 h
    have hk : k % l.length < l.length := Nat.mod_lt _ (by omega)
    refine List.mem_map.2 ⟨(j + (l.length - k % l.length)) % l.length, List.mem_range.2 (Nat.mod_lt _ (by omega)), ?_⟩
    have e : ((j + (l.length - k % l.length)) % l.length + k) % l.length = j := by
      rw [Nat.add_mod, Nat.mod_mod, ← Nat.add_mod]
      have h1 : j + (l.length - k % l.length) + k = j + l.length + l.length * (k / l.length) := by
        have := Nat.div_add_mod k l.length
        omega
      rw [h1, Nat.add_mul_mod_self_left, Nat.add_mod_right, Nat.mod_eq_of_lt hj]
    rw [e]; simp [List.getD_eq_getElem?_getD, hj]
theorem mem_back {l : List Rec} {d : Rec} (r : Rec) : r ∈ (List.range l.length).map (fun i => l.getD (l.length - 1 - i) d) ↔ r ∈ l := by
  constructor
  · intro h
    obtain ⟨i, hi, rfl⟩ := List.mem_map.1 h
    have hn := List.mem_range.1 hi
    simp only [List.getD_eq_getElem?_getD, List.getElem?_eq_getElem (show l.length - 1 - i < l.length by omega), Option.getD_some]
    exact List.getElem_mem _
  · intro h
    obtain ⟨j, hj, rfl⟩ := List.mem_iff_getElem.1 h
    refine List.mem_map.2 ⟨l.length - 1 - j, List.mem_range.2 (by omega), ?_⟩
    rw [show l.length - 1 - (l.length - 1 - j) = j by omega]; simp [List.getD_eq_getElem?_getD, hj]
theorem mem_twice {l : List Rec} (m : Nat) (r : Rec) : r ∈ l ++ l.take m ↔ r ∈ l :=
  ⟨fun h => (List.mem_append.1 h).elim id List.mem_of_mem_take, fun h => List.mem_append_left _ h⟩

/-! ### Least TTLs -/
instance (r : Rec) (s : RSet) : Decidable (hasKey r s) := by unfold hasKey; exact inferInstance
theorem has_iff {r : Rec} {s : RSet} (hg : Good s) : hasKey r s ↔ rmay r = true ∧ sameB r.name s.name = true ∧ r.kind = s.kind ∧ r.cls = s.cls := by
  unfold hasKey sameB
  constructor
  · rintro ⟨h1, h2, h3, h4⟩
    exact ⟨h1, by simp [rmay_name h1, hg.may, h2, hg.fold], h3, h4⟩
  · rintro ⟨h1, h2, h3, h4⟩
    simp only [Bool.and_eq_true, decide_eq_true_eq] at h2
    exact ⟨h1, by rw [h2.2, hg.fold], h3, h4⟩
def leastN (l : List Rec) (s : RSet) : Nat := l.foldl (fun m r => if hasKey r s then min m (timeN r.ttl) else m) 2147483647
theorem least_fold (s : RSet) : ∀ (l : List Rec) (m : Nat), (l.foldl (fun m r => if hasKey r s then min m (timeN r.ttl) else m) m ≤ m) ∧ (∀ r ∈ l, hasKey r s → l.foldl (fun m r => if hasKey r s then min m (timeN r.ttl) else m) m ≤ timeN r.ttl) ∧
    (l.foldl (fun m r => if hasKey r s then min m (timeN r.ttl) else m) m = m ∨ ∃ r ∈ l, hasKey r s ∧ l.foldl (fun m r => if hasKey r s then min m (timeN r.ttl) else m) m = timeN r.ttl)
  | [], m => by simp
  | q :: l, m => by
    rw [List.foldl_cons]
    obtain ⟨h1, h2, h3⟩ := least_fold s l (if hasKey q s then min m (timeN q.ttl) else m)
    refine ⟨?_, ?_, ?_⟩
    · by_cases hq : hasKey q s
      · rw [if_pos hq] at h1 ⊢; omega
      · rw [if_neg hq] at h1 ⊢; exact h1
    · intro r hr hk
      rcases List.mem_cons.1 hr with rfl | hr
      · rw [if_pos hk] at h1 ⊢; omega
      · exact h2 r hr hk
    · rcases h3 with h3 | ⟨r, hr, hk, e⟩
      · by_cases hq : hasKey q s
        · rw [if_pos hq] at h3 ⊢
          rcases Nat.le_total m (timeN q.ttl) with h | h
          · left; rw [h3]; omega
          · right; exact ⟨q, List.mem_cons_self .., hq, by rw [h3]; omega⟩
        · rw [if_neg hq] at h3 ⊢; exact .inl h3
      · exact .inr ⟨r, List.mem_cons_of_mem _ hr, hk, e⟩
theorem least_is {l : List Rec} {s : RSet} (h : IsSet l s) : leastN l s = s.ttl := by
  obtain ⟨h1, h2, h3⟩ := least_fold s l 2147483647
  obtain ⟨r, hr, hk, e⟩ := h.at'
  have h4 := h2 r hr hk
  have h5 := h.ttl_le
  unfold leastN
  rcases h3 with h3 | ⟨q, hq, hqk, hqe⟩
  · omega
  · have := h.le q hq hqk; omega
theorem least_take {l : List Rec} {s : RSet} {k : Nat} (h : k < l.length) : leastN (l.take (k + 1)) s = if hasKey l[k] s then min (leastN (l.take k) s) (timeN l[k].ttl) else leastN (l.take k) s := by
  unfold leastN
  rw [List.take_succ_eq_append_getElem h, List.foldl_append]; rfl
/-- A record with another TTL. -/
def reTtl (r : Rec) (t : Nat) : Rec := { r with ttl := t }
theorem reTtl_key (r : Rec) (t : Nat) (s : RSet) : hasKey (reTtl r t) s ↔ hasKey r s := Iff.rfl
theorem mem_set_iff {l : List Rec} {k : Nat} (hk : k < l.length) (t : Nat) (r : Rec) : r ∈ l.set k (reTtl l[k] t) ↔ r = reTtl l[k] t ∨ ∃ j, ∃ h : j < l.length, j ≠ k ∧ l[j] = r := by
  constructor
  · intro h
    obtain ⟨j, hj, rfl⟩ := List.mem_iff_getElem.1 h
    rw [List.length_set] at hj
    rw [List.getElem_set]
    split
    · exact .inl rfl
    · rename_i hne; exact .inr ⟨j, hj, fun e => hne e.symm, rfl⟩
  · rintro (rfl | ⟨j, hj, hne, rfl⟩)
    · exact List.mem_iff_getElem.2 ⟨k, by simpa using hk, by simp⟩
    · exact List.mem_iff_getElem.2 ⟨j, by simpa using hj, by rw [List.getElem_set, if_neg (fun e => hne e.symm)]⟩
theorem other_ex {l : List Rec} {k : Nat} (hk : k < l.length) (t : Nat) {p : Rec → Prop} (hp : ∀ r u, p (reTtl r u) ↔ p r) : (∃ r ∈ l.set k (reTtl l[k] t), p r) ↔ ∃ r ∈ l, p r := by
  constructor
  · rintro ⟨r, hr, h⟩
    rcases (mem_set_iff hk t r).1 hr with rfl | ⟨j, hj, -, rfl⟩
    · exact ⟨l[k], List.getElem_mem hk, (hp _ _).1 h⟩
    · exact ⟨l[j], List.getElem_mem hj, h⟩
  · rintro ⟨r, hr, h⟩
    obtain ⟨j, hj, rfl⟩ := List.mem_iff_getElem.1 hr
    by_cases e : j = k
    · subst e; exact ⟨_, (mem_set_iff hk t _).2 (.inl rfl), (hp _ _).2 h⟩
    · exact ⟨l[j], (mem_set_iff hk t _).2 (.inr ⟨j, hj, e, rfl⟩), h⟩
theorem isSet_least {l : List Rec} {s : RSet} (hd : ∀ x, x ∈ s.data ↔ ∃ r ∈ l, hasKey r s ∧ dfold r.kind r.data = x) (hr : Rise s.data) (he : ∃ r ∈ l, hasKey r s) : IsSet l { s with ttl := leastN l s } := by
  obtain ⟨h1, h2, h3⟩ := least_fold s l 2147483647
  refine ⟨hd, hr, fun r hr hk => h2 r hr hk, ?_⟩
  rcases h3 with h3 | ⟨r, hr, hk, e⟩
  · obtain ⟨r, hr, hk⟩ := he
    refine ⟨r, hr, hk, ?_⟩
    have := h2 r hr hk
    have h4 := timeN_le r.ttl
    show l.foldl _ _ = _
    omega
  · exact ⟨r, hr, hk, e⟩
theorem group_ttl {l : List Rec} {k : Nat} (hk : k < l.length) (t : Nat) : groupN (l.set k (reTtl l[k] t)) = (groupN l).map fun s => { s with ttl := leastN (l.set k (reTtl l[k] t)) s } := by
  obtain ⟨hs, hr⟩ := group_holds l
  refine (group_eq ⟨fun s hs' => ?_, fun r hr hm => ?_, ?_⟩ ?_).symm
  · obtain ⟨s0, h0, rfl⟩ := List.mem_map.1 hs'
    have h := hs.is s0 h0
    obtain ⟨r, hr, hk2, -⟩ := h.at'
    refine isSet_least (fun x => ?_) h.rise ((other_ex hk t (fun r u => reTtl_key r u s0)).2 ⟨r, hr, hk2⟩)
    rw [h.data, other_ex hk t (p := fun r => hasKey r s0 ∧ dfold r.kind r.data = x) (fun r u => Iff.rfl)]
  · obtain ⟨r', hr', e⟩ : ∃ r' ∈ l, r' = r ∨ ∃ u, r = reTtl r' u := by
      rcases (mem_set_iff hk t r).1 hr with rfl | ⟨j, hj, -, rfl⟩
      · exact ⟨_, List.getElem_mem hk, .inr ⟨t, rfl⟩⟩
      · exact ⟨_, List.getElem_mem hj, .inl rfl⟩
    have hm' : rmay r' = true := by
      rcases e with rfl | ⟨u, rfl⟩
      · exact hm
      · exact hm
    obtain ⟨s, h1, h2⟩ := hs.all r' hr' hm'
    refine ⟨_, List.mem_map_of_mem h1, ?_⟩
    rcases e with rfl | ⟨u, rfl⟩
    · exact h2
    · exact h2
  · exact List.pairwise_map.2 (hs.once.imp fun h h2 => h h2)
  · exact List.pairwise_map.2 (hr.imp fun h => h)
theorem least_apart {l : List Rec} {k : Nat} (hk : k < l.length) (t : Nat) {s : RSet} (h : ¬ hasKey l[k] s) : leastN (l.set k (reTtl l[k] t)) s = leastN l s := by
  unfold leastN
  have e : l = l.take k ++ l[k] :: l.drop (k + 1) := by rw [← List.drop_eq_getElem_cons hk, List.take_append_drop]
  rw [List.set_eq_take_append_cons_drop, if_pos hk]
  conv => rhs; rw [e]
  rw [List.foldl_append, List.foldl_append, List.foldl_cons, List.foldl_cons, if_neg h, if_neg (fun e => h ((reTtl_key _ _ _).1 e))]

/-! ### Records of sets -/
def recsOf (s : RSet) : List Rec := s.data.map fun d => ⟨s.name, s.kind, s.cls, s.ttl, d⟩
theorem recsOf_key {l : List Rec} {s : RSet} (h : IsSet l s) {r : Rec} (hr : r ∈ recsOf s) : hasKey r s ∧ dfold r.kind r.data = r.data ∧ r.data ∈ s.data ∧ timeN r.ttl = s.ttl := by
  obtain ⟨d, hd, rfl⟩ := List.mem_map.1 hr
  have hf := h.fix hd
  refine ⟨⟨?_, h.good.fold, rfl, rfl⟩, hf.2, hd, timeN_fix h.ttl_le⟩
  unfold rmay; simp only [Bool.and_eq_true]; exact ⟨h.good.may, hf.1⟩
theorem group_back (l : List Rec) : groupN ((groupN l).flatMap recsOf) = groupN l := by
  obtain ⟨hs, hr⟩ := group_holds l
  have key : ∀ s ∈ groupN l, ∀ r ∈ (groupN l).flatMap recsOf, hasKey r s → r ∈ recsOf s := by
    intro s h1 r hr hk
    obtain ⟨t, ht, hrt⟩ := List.mem_flatMap.1 hr
    have hkt := (recsOf_key (hs.is t ht) hrt).1
    have e : t = s := (hs.is t ht).eq (hs.is s h1) (hkt.same hk)
    rwa [← e]
  refine (group_eq ⟨fun s h1 => ?_, fun r hr hm => ?_, hs.once⟩ hr).symm
  · have h := hs.is s h1
    refine ⟨fun x => ⟨fun hx => ?_, fun ⟨r, hr, hk, e⟩ => ?_⟩, h.rise, fun r hr hk => ?_, ?_⟩
    · have hm : (⟨s.name, s.kind, s.cls, s.ttl, x⟩ : Rec) ∈ recsOf s := List.mem_map.2 ⟨x, hx, rfl⟩
      have := recsOf_key h hm
      exact ⟨_, List.mem_flatMap.2 ⟨s, h1, hm⟩, this.1, this.2.1⟩
    · have := recsOf_key h (key s h1 r hr hk)
      rw [← e, this.2.1]; exact this.2.2.1
    · have := recsOf_key h (key s h1 r hr hk)
      rw [this.2.2.2]; exact Nat.le_refl _
    · cases hd : s.data with
      | nil => exact absurd hd h.some
      | cons x t =>
        have hm : (⟨s.name, s.kind, s.cls, s.ttl, x⟩ : Rec) ∈ recsOf s := List.mem_map.2 ⟨x, by rw [hd]; exact List.mem_cons_self .., rfl⟩
        have := recsOf_key h hm
        exact ⟨_, List.mem_flatMap.2 ⟨s, h1, hm⟩, this.1, this.2.2.2.symm⟩
  · obtain ⟨s, h1, hrs⟩ := List.mem_flatMap.1 hr
    exact ⟨s, h1, (recsOf_key (hs.is s h1) hrs).1⟩

/-! ### Letters -/
theorem group_map (f : Rec → Rec) (l : List Rec) (h : ∀ r ∈ l, rmay (f r) = rmay r ∧ (rmay r = true → setOf (f r) = setOf r)) : groupN (l.map f) = groupN l := by
  have : ∀ (l : List Rec) (u : List RSet), (∀ r ∈ l, rmay (f r) = rmay r ∧ (rmay r = true → setOf (f r) = setOf r)) → (l.map f).foldl addRec u = l.foldl addRec u := by
    intro l
    induction l with
    | nil => intros; rfl
    | cons r l ih =>
      intro u h
      rw [List.map_cons, List.foldl_cons, List.foldl_cons]
      have hr := h r (List.mem_cons_self ..)
      have e : addRec u (f r) = addRec u r := by
        unfold addRec
        rw [hr.1]
        split
        · rename_i hm; rw [hr.2 hm]
        · rfl
      rw [e]
      exact ih _ fun q hq => h q (List.mem_cons_of_mem _ hq)
  exact this l [] h
end Go.Proofs.YtpoebplhemimmaaGreatDoor
