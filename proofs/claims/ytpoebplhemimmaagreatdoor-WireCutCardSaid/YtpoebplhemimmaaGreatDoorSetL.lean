/-
  The sets of records are told by what they hold: rows of sets that rise and hold the same are the same. No program is in sight here.
-/
import Derived.Test.YtpoebplhemimmaaGreatDoorGinv
import Derived.Test.YtpoebplhemimmaaGreatDoorFoldL
namespace Go.Proofs.YtpoebplhemimmaaGreatDoor
set_option linter.unusedVariables false

theorem ext_sorted {α : Type} {R : α → α → Prop} (irr : ∀ x, ¬ R x x) (asym : ∀ x y, R x y → ¬ R y x) : ∀ {a b : List α}, a.Pairwise R → b.Pairwise R → (∀ x, x ∈ a ↔ x ∈ b) → a = b
  | [], [], _, _, _ => rfl
  | [], y :: b, _, _, h => absurd ((h y).2 (List.mem_cons_self ..)) (by simp)
  | x :: a, [], _, _, h => absurd ((h x).1 (List.mem_cons_self ..)) (by simp)
  | x :: a, y :: b, ha, hb, h => by
    obtain ⟨ha1, ha2⟩ := List.pairwise_cons.1 ha
    obtain ⟨hb1, hb2⟩ := List.pairwise_cons.1 hb
    have e : x = y := by
      rcases List.mem_cons.1 ((h x).1 (List.mem_cons_self ..)) with e | hx
      · exact e
      · rcases List.mem_cons.1 ((h y).2 (List.mem_cons_self ..)) with e | hy
        · exact e.symm
        · exact absurd (ha1 _ hy) (asym _ _ (hb1 _ hx))
    subst e
    congr 1
    refine ext_sorted irr asym ha2 hb2 fun z => ⟨fun hz => ?_, fun hz => ?_⟩
    · rcases List.mem_cons.1 ((h z).1 (List.mem_cons_of_mem _ hz)) with e | hz'
      · subst e; exact absurd (ha1 _ hz) (irr _)
      · exact hz'
    · rcases List.mem_cons.1 ((h z).2 (List.mem_cons_of_mem _ hz)) with e | hz'
      · subst e; exact absurd (hb1 _ hz) (irr _)
      · exact hz'
theorem rise_ext {a b : List Bs} (ha : Rise a) (hb : Rise b) (h : ∀ x, x ∈ a ↔ x ∈ b) : a = b :=
  ext_sorted (R := fun a b => bless a b = true) (fun x h => by rw [bless_irr] at h; cases h) (fun x y h h2 => by rw [bless_asym h] at h2; cases h2) ha hb h

theorem ncmp_zero {a b : Bs} (ha : mayB a = true) (hb : mayB b = true) : ncmp a b = 0 ↔ fold a = fold b := by
  obtain ⟨x, hx⟩ := may_iff.1 ha
  obtain ⟨y, hy⟩ := may_iff.1 hb
  rw [ncmp_some hx hy, lcmp_zero, List.reverse_inj, fold_some hx, fold_some hy]
  constructor
  · intro h; rw [h]
  · intro h
    exact join_inj (okL_map low_len (split_some.1 hx).2.1) (okL_map low_len (split_some.1 hy).2.1) h
theorem icmp_anti (a b : Nat) : icmp b a = - icmp a b := by
  unfold icmp
  split <;> split <;> (try split) <;> omega
theorem scmp_anti (a b : RSet) : scmp b a = - scmp a b := by
  rw [scmp_eq, scmp_eq, ncmp_anti a.name b.name, icmp_anti a.kind b.kind, icmp_anti a.cls b.cls]
  split <;> split <;> (try split) <;> (try split) <;> omega

theorem sameS_eq {a b : RSet} (h : sameS a b = true) : a = b := by
  unfold sameS at h
  simp only [Bool.and_eq_true, decide_eq_true_eq] at h
  obtain ⟨⟨⟨⟨h1, h2⟩, h3⟩, h4⟩, h5⟩ := h
  cases a; cases b; simp_all
theorem sameS_self (a : RSet) : sameS a a = true := by simp [sameS]
instance : DecidableEq RSet := fun a b => if h : sameS a b = true then isTrue (sameS_eq h) else isFalse fun e => h (e ▸ sameS_self a)
structure Good (s : RSet) : Prop where
  may : mayB s.name = true
  fold : fold s.name = s.name
def sameK (a b : RSet) : Prop := a.name = b.name ∧ a.kind = b.kind ∧ a.cls = b.cls
instance (a b : RSet) : Decidable (sameK a b) := by unfold sameK; exact inferInstance
theorem sameK.symm {a b : RSet} (h : sameK a b) : sameK b a := ⟨h.1.symm, h.2.1.symm, h.2.2.symm⟩
theorem sameK.trans {a b c : RSet} (h : sameK a b) (h2 : sameK b c) : sameK a c := ⟨h.1.trans h2.1, h.2.1.trans h2.2.1, h.2.2.trans h2.2.2⟩
theorem scmp_zero {a b : RSet} (ha : Good a) (hb : Good b) : scmp a b = 0 ↔ sameK a b := by
  have hn := ncmp_zero ha.may hb.may
  rw [ha.fold, hb.fold] at hn
  rw [scmp_eq]
  unfold sameK
  by_cases h1 : ncmp a.name b.name = 0
  · by_cases h2 : icmp a.kind b.kind = 0
    · rw [if_neg (fun e => e h1), if_neg (fun e => e h2), icmp_zero]
      exact ⟨fun h3 => ⟨hn.1 h1, icmp_zero.1 h2, h3⟩, fun h3 => h3.2.2⟩
    · have h2' : ¬ a.kind = b.kind := fun e => h2 (icmp_zero.2 e)
      simp [h1, h2, h2']
  · have h1' : ¬ a.name = b.name := fun e => h1 (hn.2 e)
    simp [h1, h1']
theorem scmp_key {a a' b b' : RSet} (h1 : sameK a a') (h2 : sameK b b') : scmp a b = scmp a' b' := by
  unfold scmp; rw [h1.1, h1.2.1, h1.2.2, h2.1, h2.2.1, h2.2.2]
theorem scmp_irr (a : RSet) : ¬ scmp a a < 0 := by have := scmp_anti a a; omega

/-- A record that is of a set. -/
def hasKey (r : Rec) (s : RSet) : Prop := rmay r = true ∧ fold r.name = s.name ∧ r.kind = s.kind ∧ r.cls = s.cls
structure IsSet (l : List Rec) (s : RSet) : Prop where
  data : ∀ x, x ∈ s.data ↔ ∃ r ∈ l, hasKey r s ∧ dfold r.kind r.data = x
  rise : Rise s.data
  le : ∀ r ∈ l, hasKey r s → s.ttl ≤ timeN r.ttl
  at' : ∃ r ∈ l, hasKey r s ∧ s.ttl = timeN r.ttl
theorem hasKey.of {r : Rec} {s t : RSet} (h : hasKey r s) (hk : sameK s t) : hasKey r t := ⟨h.1, h.2.1.trans hk.1, h.2.2.1.trans hk.2.1, h.2.2.2.trans hk.2.2⟩
theorem hasKey.same {r : Rec} {s t : RSet} (h : hasKey r s) (h2 : hasKey r t) : sameK s t := ⟨h.2.1.symm.trans h2.2.1, h.2.2.1.symm.trans h2.2.2.1, h.2.2.2.symm.trans h2.2.2.2⟩
theorem rmay_name {r : Rec} (h : rmay r = true) : mayB r.name = true := by unfold rmay at h; simp only [Bool.and_eq_true] at h; exact h.1
theorem rmay_data {r : Rec} (h : rmay r = true) : dmayB r.kind r.data = true := by unfold rmay at h; simp only [Bool.and_eq_true] at h; exact h.2
theorem hasKey.good {r : Rec} {s : RSet} (h : hasKey r s) : Good s := ⟨by rw [← h.2.1]; exact may_fold (rmay_name h.1), by rw [← h.2.1]; exact fold_fold _⟩
theorem IsSet.good {l : List Rec} {s : RSet} (h : IsSet l s) : Good s := by obtain ⟨r, -, hr, -⟩ := h.at'; exact hr.good
theorem setOf_yes {r : Rec} (h : rmay r = true) : setOf r = ⟨fold r.name, r.kind, r.cls, timeN r.ttl, [dfold r.kind r.data]⟩ := by rw [setOf, if_pos h]
theorem setOf_key {r : Rec} (h : rmay r = true) : hasKey r (setOf r) := by rw [setOf_yes h]; exact ⟨h, rfl, rfl, rfl⟩
theorem IsSet.eq {l : List Rec} {s t : RSet} (hs : IsSet l s) (ht : IsSet l t) (hk : sameK s t) : s = t := by
  obtain ⟨r, hr, hrk, hrt⟩ := hs.at'
  obtain ⟨q, hq, hqk, hqt⟩ := ht.at'
  have h1 := hs.le q hq (hqk.of hk.symm)
  have h2 := ht.le r hr (hrk.of hk)
  have hd : s.data = t.data := rise_ext hs.rise ht.rise fun x => by
    rw [hs.data, ht.data]
    exact ⟨fun ⟨r, h1, h2, h3⟩ => ⟨r, h1, h2.of hk, h3⟩, fun ⟨r, h1, h2, h3⟩ => ⟨r, h1, h2.of hk.symm, h3⟩⟩
  have ht : s.ttl = t.ttl := by omega
  obtain ⟨k1, k2, k3⟩ := hk
  cases s; cases t; simp_all

/-- A row of sets that holds the records' sets. -/
structure SetsOf (l : List Rec) (u : List RSet) : Prop where
  is : ∀ s ∈ u, IsSet l s
  all : ∀ r ∈ l, rmay r = true → ∃ s ∈ u, hasKey r s
  once : u.Pairwise fun a b => ¬ sameK a b
theorem SetsOf.mem {l : List Rec} {u : List RSet} (h : SetsOf l u) (s : RSet) : s ∈ u ↔ IsSet l s := by
  refine ⟨h.is s, fun hs => ?_⟩
  obtain ⟨r, hr, hk, -⟩ := hs.at'
  obtain ⟨t, ht, htk⟩ := h.all r hr hk.1
  rwa [hs.eq (h.is t ht) (hk.same htk)]
theorem SetsOf.nil : SetsOf [] [] := ⟨fun _ h => (List.not_mem_nil h).elim, fun _ h => (List.not_mem_nil h).elim, List.Pairwise.nil⟩
theorem IsSet.skip {l : List Rec} {r : Rec} {s : RSet} (h : ¬ hasKey r s) (hs : IsSet l s) : IsSet (l ++ [r]) s := by
  have e : ∀ q, q ∈ l ++ [r] → hasKey q s → q ∈ l := by
    intro q hq hk
    rcases List.mem_append.1 hq with hq | hq
    · exact hq
    · rw [List.mem_singleton.1 hq] at hk; exact absurd hk h
  refine ⟨fun x => ?_, hs.rise, fun q hq hk => hs.le q (e q hq hk) hk, ?_⟩
  · rw [hs.data]
    exact ⟨fun ⟨q, h1, h2, h3⟩ => ⟨q, List.mem_append_left _ h1, h2, h3⟩, fun ⟨q, h1, h2, h3⟩ => ⟨q, e q h1 h2, h2, h3⟩⟩
  · obtain ⟨q, h1, h2⟩ := hs.at'
    exact ⟨q, List.mem_append_left _ h1, h2⟩
theorem SetsOf.skip {l : List Rec} {u : List RSet} {r : Rec} (h : SetsOf l u) (hr : rmay r = false) : SetsOf (l ++ [r]) u := by
  refine ⟨fun s hs => (h.is s hs).skip fun hk => (by rw [hk.1] at hr; cases hr), fun q hq hm => ?_, h.once⟩
  rcases List.mem_append.1 hq with hq | hq
  · exact h.all q hq hm
  · rw [List.mem_singleton.1 hq, hr] at hm; cases hm
/-- A set more. -/
theorem IsSet.fresh {l : List Rec} {r : Rec} (hr : rmay r = true) (h : ∀ q ∈ l, ¬ hasKey q (setOf r)) : IsSet (l ++ [r]) (setOf r) := by
  have hk := setOf_key hr
  have e : ∀ q, q ∈ l ++ [r] → hasKey q (setOf r) → q = r := by
    intro q hq hk
    rcases List.mem_append.1 hq with hq | hq
    · exact absurd hk (h q hq)
    · exact List.mem_singleton.1 hq
  refine ⟨fun x => ?_, ?_, fun q hq hqk => ?_, r, by simp, hk, by rw [setOf_yes hr]⟩
  · constructor
    · intro hx
      rw [setOf_yes hr] at hx
      exact ⟨r, by simp, hk, (List.mem_singleton.1 hx).symm⟩
    · rintro ⟨q, h1, h2, rfl⟩
      rw [e q h1 h2, setOf_yes hr]; simp
  · rw [setOf_yes hr]; exact List.pairwise_singleton _ _
  · rw [e q hq hqk, setOf_yes hr]; exact Nat.le_refl _
/-- A datum more in a set. -/
theorem IsSet.more {l : List Rec} {r : Rec} {s : RSet} (hs : IsSet l s) (hk : hasKey r s) {d : List Bs} (hd : Rise d) (hm : ∀ x, x ∈ d ↔ x = dfold r.kind r.data ∨ x ∈ s.data) : IsSet (l ++ [r]) ⟨s.name, s.kind, s.cls, min s.ttl (timeN r.ttl), d⟩ := by
  have hK : ∀ q, hasKey q ⟨s.name, s.kind, s.cls, min s.ttl (timeN r.ttl), d⟩ ↔ hasKey q s := fun q => Iff.rfl
  refine ⟨fun x => ?_, hd, fun q hq hqk => ?_, ?_⟩
  · simp only [hm, hs.data, hK, List.mem_append, List.mem_singleton]
    constructor
    · rintro (rfl | ⟨q, h1, h2, h3⟩)
      · exact ⟨r, .inr rfl, hk, rfl⟩
      · exact ⟨q, .inl h1, h2, h3⟩
    · rintro ⟨q, h1 | rfl, h2, h3⟩
      · exact .inr ⟨q, h1, h2, h3⟩
      · exact .inl h3.symm
  · simp only
    rcases List.mem_append.1 hq with hq | hq
    · have := hs.le q hq hqk; omega
    · rw [List.mem_singleton.1 hq]; omega
  · simp only [hK, List.mem_append, List.mem_singleton]
    rcases Nat.le_total s.ttl (timeN r.ttl) with h | h
    · obtain ⟨q, h1, h2, h3⟩ := hs.at'
      exact ⟨q, .inl h1, h2, by omega⟩
    · exact ⟨r, .inr rfl, hk, by omega⟩

theorem SetsOf.put {l : List Rec} {u v : List RSet} {r : Rec} (h : SetsOf l u) (hr : rmay r = true) (hno : ∀ s ∈ u, ¬ sameK s (setOf r)) (hp : v.Perm (setOf r :: u)) : SetsOf (l ++ [r]) v := by
  have hk := setOf_key hr
  have hf : ∀ q ∈ l, ¬ hasKey q (setOf r) := fun q hq hqk => by
    obtain ⟨s, hs, hsk⟩ := h.all q hq hqk.1
    exact hno s hs (hsk.same hqk)
  refine ⟨fun s hs => ?_, fun q hq hm => ?_, (hp.pairwise_iff (fun {a b} hab hba => hab hba.symm)).2 (List.pairwise_cons.2 ⟨fun s hs hk => hno s hs hk.symm, h.once⟩)⟩
  · rcases List.mem_cons.1 (hp.mem_iff.1 hs) with rfl | hs
    · exact IsSet.fresh hr hf
    · exact (h.is s hs).skip fun hk2 => hno s hs (hk2.same hk)
  · rcases List.mem_append.1 hq with hq | hq
    · obtain ⟨s, hs, hsk⟩ := h.all q hq hm
      exact ⟨s, hp.mem_iff.2 (List.mem_cons_of_mem _ hs), hsk⟩
    · rw [List.mem_singleton.1 hq]
      exact ⟨_, hp.mem_iff.2 (List.mem_cons_self ..), hk⟩
theorem once_at {u : List RSet} (h : u.Pairwise fun a b => ¬ sameK a b) {i j : Nat} (hi : i < u.length) (hj : j < u.length) (hk : sameK u[i] u[j]) : i = j := by
  rcases Nat.lt_trichotomy i j with hlt | he | hlt
  · exact absurd hk (List.pairwise_iff_getElem.1 h i j hi hj hlt)
  · exact he
  · exact absurd hk.symm (List.pairwise_iff_getElem.1 h j i hj hi hlt)
theorem pairwise_key {R : RSet → RSet → Prop} (hR : ∀ {a a' b b' : RSet}, sameK a a' → sameK b b' → R a b → R a' b') {u : List RSet} (h : u.Pairwise R) {k : Nat} (hk : k < u.length) {x : RSet} (hx : sameK u[k] x) : (u.set k x).Pairwise R := by
  refine List.pairwise_iff_getElem.2 fun i j hi hj hij => ?_
  rw [List.length_set] at hi hj
  have e : ∀ m (hm : m < u.length), sameK u[m] ((u.set k x)[m]'(by simpa using hm)) := by
    intro m hm
    rw [List.getElem_set]
    split
    · rename_i e; subst e; exact hx
    · exact ⟨rfl, rfl, rfl⟩
  exact hR (e i hi) (e j hj) (List.pairwise_iff_getElem.1 h i j hi hj hij)
theorem SetsOf.set {l : List Rec} {u : List RSet} {r : Rec} (h : SetsOf l u) (hr : rmay r = true) {k : Nat} (hk : k < u.length) (hs : sameK u[k] (setOf r)) {d : List Bs} (hd : Rise d) (hm : ∀ x, x ∈ d ↔ x = dfold r.kind r.data ∨ x ∈ u[k].data) :
    SetsOf (l ++ [r]) (u.set k ⟨u[k].name, u[k].kind, u[k].cls, min u[k].ttl (timeN r.ttl), d⟩) := by
  have hrk := setOf_key hr
  refine ⟨fun s hs' => ?_, fun q hq hqm => ?_, pairwise_key (fun h1 h2 h3 h4 => h3 (h1.trans (h4.trans h2.symm))) h.once hk ⟨rfl, rfl, rfl⟩⟩
  · obtain ⟨j, hj, rfl⟩ := List.mem_iff_getElem.1 hs'
    rw [List.length_set] at hj
    rw [List.getElem_set]
    split
    · exact (h.is _ (List.getElem_mem hk)).more (hrk.of hs.symm) hd hm
    · rename_i hne
      exact (h.is _ (List.getElem_mem hj)).skip fun hjk => hne (once_at h.once hk hj (hs.trans (hrk.same hjk)))
  · have hnew : (⟨u[k].name, u[k].kind, u[k].cls, min u[k].ttl (timeN r.ttl), d⟩ : RSet) ∈ u.set k ⟨u[k].name, u[k].kind, u[k].cls, min u[k].ttl (timeN r.ttl), d⟩ := List.mem_iff_getElem.2 ⟨k, by simpa using hk, by simp⟩
    rcases List.mem_append.1 hq with hq | hq
    · obtain ⟨s, hs', hsk⟩ := h.all q hq hqm
      obtain ⟨j, hj, rfl⟩ := List.mem_iff_getElem.1 hs'
      by_cases e : k = j
      · subst e; exact ⟨_, hnew, hsk⟩
      · exact ⟨u[j], List.mem_iff_getElem.2 ⟨j, by simpa using hj, by rw [List.getElem_set, if_neg e]⟩, hsk⟩
    · rw [List.mem_singleton.1 hq]
      exact ⟨_, hnew, hrk.of hs.symm⟩
def SRise (u : List RSet) : Prop := u.Pairwise fun a b => scmp a b < 0
theorem SetsOf.ext {l m : List Rec} {u v : List RSet} (hu : SetsOf l u) (hv : SetsOf m v) (su : SRise u) (sv : SRise v) (h : ∀ s, IsSet l s ↔ IsSet m s) : u = v :=
  ext_sorted (R := fun a b => scmp a b < 0) scmp_irr (fun x y h h2 => by have := scmp_anti x y; omega) su sv fun s => by rw [hu.mem, hv.mem, h]

/-! ### Package rrset's way -/
theorem insText_mem (l : List Bs) (d x : Bs) : x ∈ insText l d ↔ x = d ∨ x ∈ l := by
  unfold insText
  split
  · rename_i h
    constructor
    · exact .inr
    · rintro (rfl | h2)
      · have := List.getElem_mem h.2
        rw [List.getD_eq_getElem?_getD, List.getElem?_eq_getElem h.2, Option.getD_some] at h
        rw [h.1] at this; exact this
      · exact h2
  · rw [List.mem_append, List.mem_cons]
    have : x ∈ l ↔ x ∈ l.take (ahead (fun x => bless x d) l) ∨ x ∈ l.drop (ahead (fun x => bless x d) l) := by
      conv => lhs; rw [← List.take_append_drop (ahead (fun x => bless x d) l) l]
      exact List.mem_append
    rw [this]
    constructor
    · rintro (h | h | h)
      · exact .inr (.inl h)
      · exact .inl h
      · exact .inr (.inr h)
    · rintro (h | h | h)
      · exact .inr (.inl h)
      · exact .inl h
      · exact .inr (.inr h)
theorem getD_eq {l : List RSet} {i : Nat} (h : i < l.length) : l.getD i noSet = l[i] := by simp [List.getD_eq_getElem?_getD, h]
theorem addSet_step {l : List Rec} {u : List RSet} {r : Rec} (h : SetsOf l u) (su : SRise u) (hr : rmay r = true) : SetsOf (l ++ [r]) (addSet u (setOf r)) ∧ SRise (addSet u (setOf r)) := by
  have hg : Good (setOf r) := (setOf_key hr).good
  have hle := ahead_le (before (setOf r)) u
  unfold addSet
  generalize hA : ahead (before (setOf r)) u = k at *
  split
  · rename_i hf
    obtain ⟨hk, hz⟩ := hf
    rw [getD_eq hk] at hz ⊢
    have hs := (scmp_zero (h.is _ (List.getElem_mem hk)).good hg).1 hz
    have e1 : (setOf r).ttl = timeN r.ttl := by rw [setOf_yes hr]
    have e2 : (setOf r).data.getD 0 [] = dfold r.kind r.data := by rw [setOf_yes hr]; rfl
    rw [e1, e2]
    refine ⟨h.set hr hk hs (insText_rise (h.is _ (List.getElem_mem hk)).rise _) fun x => insText_mem _ _ _, ?_⟩
    exact pairwise_key (R := fun a b => scmp a b < 0) (fun h1 h2 h3 => by rw [← scmp_key h1 h2]; exact h3) su hk ⟨rfl, rfl, rfl⟩
  · rename_i hf
    have h1 : ∀ x ∈ u.take k, scmp x (setOf r) < 0 := by
      intro x hx
      obtain ⟨i, hi, rfl⟩ := List.mem_iff_getElem.1 hx
      rw [List.length_take] at hi
      rw [List.getElem_take]
      exact of_decide_eq_true (ahead_lt (p := before (setOf r)) (l := u) (j := i) (by omega) (by omega))
    have h2 : ∀ x ∈ u.drop k, scmp (setOf r) x < 0 := by
      intro x hx
      obtain ⟨i, hi, rfl⟩ := List.mem_iff_getElem.1 hx
      rw [List.length_drop] at hi
      rw [List.getElem_drop]
      have hkl : k < u.length := by omega
      have hb : ¬ scmp u[k] (setOf r) < 0 := by subst hA; exact of_decide_eq_false (ahead_at (p := before (setOf r)) hkl)
      have hz : ¬ scmp u[k] (setOf r) = 0 := fun e => hf ⟨hkl, by rw [getD_eq hkl]; exact e⟩
      have hd : scmp (setOf r) u[k] < 0 := by have := scmp_anti (setOf r) u[k]; omega
      rcases Nat.eq_zero_or_pos i with rfl | hp
      · simpa using hd
      · exact scmp_trans hg.may (h.is _ (List.getElem_mem hkl)).good.may (h.is _ (List.getElem_mem (show k + i < u.length by omega))).good.may hd (List.pairwise_iff_getElem.1 su k (k + i) hkl (by omega) (by omega))
    have hp : (u.take k ++ setOf r :: u.drop k).Perm (setOf r :: u) := by
      refine List.perm_middle.trans ?_
      rw [List.take_append_drop]
    refine ⟨h.put hr (fun s hs hk => ?_) hp, List.pairwise_append.2 ⟨su.sublist (List.take_sublist _ _), List.pairwise_cons.2 ⟨h2, su.sublist (List.drop_sublist _ _)⟩, fun a ha b hb => ?_⟩⟩
    · have e := scmp_key hk (show sameK (setOf r) (setOf r) from ⟨rfl, rfl, rfl⟩)
      have hi := scmp_anti (setOf r) (setOf r)
      rw [← List.take_append_drop k u] at hs
      rcases List.mem_append.1 hs with hs | hs
      · have := h1 _ hs; omega
      · have := h2 _ hs; have := scmp_anti s (setOf r); omega
    · rcases List.mem_cons.1 hb with rfl | hb
      · exact h1 a ha
      · have ma := (h.is a (List.mem_of_mem_take ha)).good.may
        exact scmp_trans ma hg.may (h.is b (List.mem_of_mem_drop hb)).good.may (h1 a ha) (h2 b hb)
theorem foldl_holds : ∀ (l m : List Rec) (u : List RSet), SetsOf m u → SRise u → SetsOf (m ++ l) (l.foldl addRec u) ∧ SRise (l.foldl addRec u)
  | [], m, u, h, s => by simpa using ⟨h, s⟩
  | r :: l, m, u, h, s => by
    have e : m ++ r :: l = (m ++ [r]) ++ l := by simp
    rw [e, List.foldl_cons]
    cases hr : rmay r with
    | true =>
      obtain ⟨h1, h2⟩ := addSet_step h s hr
      have : addRec u r = addSet u (setOf r) := by rw [addRec, if_pos hr]
      rw [this]
      exact foldl_holds l _ _ h1 h2
    | false =>
      have : addRec u r = u := by rw [addRec, if_neg (by simp [hr])]
      rw [this]
      exact foldl_holds l _ _ (h.skip hr) s
theorem group_holds (l : List Rec) : SetsOf l (groupN l) ∧ SRise (groupN l) := by
  have := foldl_holds l [] [] SetsOf.nil List.Pairwise.nil
  simpa [groupN] using this
theorem group_mem (l : List Rec) (s : RSet) : s ∈ groupN l ↔ IsSet l s := (group_holds l).1.mem s
theorem group_eq {l : List Rec} {u : List RSet} (h : SetsOf l u) (s : SRise u) : u = groupN l := h.ext (group_holds l).1 s (group_holds l).2 fun _ => Iff.rfl
theorem group_ext {l m : List Rec} (h : ∀ s, IsSet l s ↔ IsSet m s) : groupN l = groupN m := (group_holds l).1.ext (group_holds m).1 (group_holds l).2 (group_holds m).2 h
theorem isSet_mem {l m : List Rec} (h : ∀ r, r ∈ l ↔ r ∈ m) (s : RSet) (hs : IsSet l s) : IsSet m s := by
  refine ⟨fun x => ?_, hs.rise, fun r hr => hs.le r ((h r).2 hr), ?_⟩
  · rw [hs.data]
    exact ⟨fun ⟨r, h1, h2⟩ => ⟨r, (h r).1 h1, h2⟩, fun ⟨r, h1, h2⟩ => ⟨r, (h r).2 h1, h2⟩⟩
  · obtain ⟨r, h1, h2⟩ := hs.at'; exact ⟨r, (h r).1 h1, h2⟩
/-- The records' row does not matter, nor how often each is there. -/
theorem group_rows {l m : List Rec} (h : ∀ r, r ∈ l ↔ r ∈ m) : groupN l = groupN m := group_ext fun s => ⟨isSet_mem h s, isSet_mem (fun r => (h r).symm) s⟩

/-! ### The document's way -/
/-- A text more among texts, as the document puts it. -/
def putN (l : List Bs) (d : Bs) : List Bs := if d ∈ l then l else l.takeWhile (fun x => !bless d x) ++ d :: l.dropWhile (fun x => !bless d x)
theorem putN_mem (l : List Bs) (d x : Bs) : x ∈ putN l d ↔ x = d ∨ x ∈ l := by
  unfold putN
  split
  · rename_i h
    constructor
    · exact .inr
    · rintro (rfl | h2)
      · exact h
      · exact h2
  · rw [List.mem_append, List.mem_cons]
    have : x ∈ l ↔ x ∈ l.takeWhile (fun x => !bless d x) ∨ x ∈ l.dropWhile (fun x => !bless d x) := by
      conv => lhs; rw [← List.takeWhile_append_dropWhile (p := fun x => !bless d x) (l := l)]
      exact List.mem_append
    rw [this]
    constructor
    · rintro (h | h | h)
      · exact .inr (.inl h)
      · exact .inl h
      · exact .inr (.inr h)
    · rintro (h | h | h)
      · exact .inr (.inl h)
      · exact .inl h
      · exact .inr (.inr h)
theorem dropWhile_head {α : Type} {p : α → Bool} : ∀ {l : List α} {x : α} {t : List α}, l.dropWhile p = x :: t → p x = false
  | [], _, _, h => by simp at h
  | a :: l, x, t, h => by
    rw [List.dropWhile_cons] at h
    split at h
    · exact dropWhile_head h
    · rename_i hp; simp at h; rw [← h.1]; simpa using hp
theorem takeWhile_all {α : Type} {p : α → Bool} : ∀ {l : List α} {x : α}, x ∈ l.takeWhile p → p x = true
  | a :: l, x, h => by
    rw [List.takeWhile_cons] at h
    split at h
    · rename_i hp
      rcases List.mem_cons.1 h with rfl | h
      · exact hp
      · exact takeWhile_all h
    · simp at h
theorem putN_rise {l : List Bs} (h : Rise l) (d : Bs) : Rise (putN l d) := by
  unfold putN
  split
  · exact h
  · rename_i hn
    have h1 : ∀ x ∈ l.takeWhile (fun x => !bless d x), bless x d = true := by
      intro x hx
      have h2 := takeWhile_all hx
      have h3 : x ∈ l := (List.takeWhile_sublist _).subset hx
      rcases bless_tri x d with e | e | e
      · exact e
      · subst e; exact absurd h3 hn
      · simp [e] at h2
    have h2 : ∀ x ∈ l.dropWhile (fun x => !bless d x), bless d x = true := by
      intro x hx
      cases hc : l.dropWhile (fun x => !bless d x) with
      | nil => rw [hc] at hx; simp at hx
      | cons y t =>
        have hy := dropWhile_head hc
        have hy' : bless d y = true := by simpa using hy
        have hr : Rise (y :: t) := by rw [← hc]; exact h.sublist (List.dropWhile_sublist _)
        rw [hc] at hx
        rcases List.mem_cons.1 hx with rfl | hx
        · exact hy'
        · exact bless_trans hy' ((List.pairwise_cons.1 hr).1 x hx)
    refine List.pairwise_append.2 ⟨h.sublist (List.takeWhile_sublist _), List.pairwise_cons.2 ⟨h2, h.sublist (List.dropWhile_sublist _)⟩, fun a ha b hb => ?_⟩
    rcases List.mem_cons.1 hb with rfl | hb
    · exact h1 a ha
    · exact bless_trans (h1 a ha) (h2 b hb)
end Go.Proofs.YtpoebplhemimmaaGreatDoor
