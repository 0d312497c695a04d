/-
  Regions that draw their order: operations that read nothing of the world first, then those that leave what is there alone, in any order, each with what is known of its result, then those that write, in their row. Nothing is claimed here.
-/
import Derived.Test.YtpoebplhemimmaaGreatDoorHeap
namespace Go.Proofs.YtpoebplhemimmaaGreatDoor
variable {Ds : List Deferred}
open Go.RowKit
set_option linter.unusedSimpArgs false
set_option linter.unusedVariables false

abbrev VP := Value → World → Prop

/-- Q, at the plain end alone. -/
def Only (Q : Exit → Act → World → Prop) : Exit → Act → World → Prop := fun e a w => match e with
  | .normal => Q .normal a w
  | _ => False

section
variable {P : Program} {ops : Array Oper} {md : Region.Mode} {Q Q' : Exit → Act → World → Prop}

theorem wp_only {o : Oper} {a : Act} {w : World} {K K' : Act → World → Prop} (h : ∀ a w, K a w → K' a w) (hh : o.wp P a w K (Only Q)) : o.wp P a w K' Q' := by
  unfold Oper.wp at *
  generalize (execOp a.eval o).run P w = r at *
  cases r with
  | ok n w' =>
    cases n <;> simp only [Oper.upon] at hh ⊢
    case value u => exact h _ _ hh
    case skip => exact h _ _ hh
    case defer d => exact h _ _ hh
    case enter f args =>
      refine Calls.mono hh fun e w'' he => ?_
      cases e with
      | returned v => exact h _ _ he
      | panicked c => exact he.elim
      | outgrown => obtain ⟨_, _, he⟩ := he; exact he.elim
    case row r args => exact Rows.mono hh fun _ _ he => h _ _ he
  | halt x w' => cases x <;> simp only [Oper.upon] at hh ⊢; exact hh.elim

theorem not_letsOut : ¬ LetsOut (Only Q) := fun ⟨_, _, h⟩ => h

theorem wpOp_only {i : Nat} {a : Act} {w : World} {K K' : Act → World → Prop} (h : ∀ a w, K a w → K' a w) (hh : wpOp P ops (Only Q) i K a w) : wpOp P ops Q' i K' a w := by
  unfold wpOp at *
  split
  · rename_i ho; simp only [ho] at hh; exact h _ _ hh
  · rename_i o ho
    simp only [ho] at hh
    split
    · rename_i hw
      simp only [hw, if_true] at hh
      rcases hh with hh | ⟨_, hh⟩
      · exact .inl (wp_only h hh)
      · exact (not_letsOut hh).elim
    · rename_i hw
      simp only [hw] at hh
      exact h _ _ hh

theorem wpAny_only : ∀ (fuel : Nat) (listed : Array Bool) (a : Act) (w : World), wpAny P md ops (Only Q) fuel listed a w → wpAny P md ops Q fuel listed a w
  | 0, _, _, _, h => h
  | fuel + 1, _, _, _, h => ⟨h.1, fun i hi => wpOp_only (fun _ _ => wpAny_only fuel _ _ _) (h.2 i hi)⟩

/-! ### The end: one after the other -/

def pickL (l : List Oper) : List Nat → List Oper
  | [] => []
  | i :: is => match l[i]? with
    | some o => o :: pickL l is
    | none => pickL l is

def seqB (md : Region.Mode) (ops : Array Oper) : Array Bool → List Nat → Bool
  | _, [] => true
  | listed, i :: is => (Region.ready md ops listed == [i]) && (decide (i < ops.size)) && seqB md ops (listed.setIfInBounds i true) is

def mark : Array Bool → List Nat → Array Bool
  | listed, [] => listed
  | listed, i :: is => mark (listed.setIfInBounds i true) is

theorem wpAny_seq {Q2 : Exit → Act → World → Prop} {n : Nat} : ∀ (is : List Nat) (listed : Array Bool) (a : Act) (w : World), seqB md ops listed is = true →
    (∀ a w, Q2 .normal a w → wpAny P md ops (Only Q) n (mark listed is) a w) → wpList P ops (Only Q2) (pickL ops.toList is) a w → wpAny P md ops (Only Q) (is.length + n) listed a w
  | [], listed, a, w, hB, hk, h => by
    rw [List.length_nil, Nat.zero_add]
    exact hk _ _ h
  | i :: is, listed, a, w, hB, hk, h => by
    simp only [seqB, Bool.and_eq_true, beq_iff_eq, decide_eq_true_eq] at hB
    obtain ⟨⟨hr, hi⟩, hB⟩ := hB
    have ho : ops.toList[i]? = some ops[i] := by simp [hi]
    have ho' : ops[i]? = some ops[i] := by simp [hi]
    unfold pickL at h
    rw [ho] at h
    rw [show (i :: is).length + n = (is.length + n) + 1 by rw [List.length_cons]; omega]
    refine ⟨fun h0 => (by rw [h0] at hr; cases hr), fun j hj => ?_⟩
    rw [hr] at hj
    rw [List.mem_singleton.1 hj]
    unfold wpOp
    rw [ho']
    unfold wpList at h
    simp only at h ⊢
    split
    · rename_i hw
      rw [if_pos hw] at h
      rcases h with h | ⟨_, h⟩
      · exact .inl (wp_only (fun a w h => wpAny_seq is _ a w hB hk h) h)
      · exact (not_letsOut h).elim
    · rename_i hw
      rw [if_neg hw] at h
      exact wpAny_seq is _ _ _ hB hk h

/-! ### The start: what reads nothing of the world -/

def pullB (md : Region.Mode) (ops : Array Oper) : Array Bool → List Nat → Bool
  | _, [] => true
  | listed, i :: is => (Region.ready md ops listed).contains i && Region.free md ops listed i && pullB md ops (listed.setIfInBounds i true) is
/-- One operation, taken ahead. -/
theorem wpAny_pull {i : Nat} {o : Oper} {v : Value} {fuel : Nat} {listed : Array Bool} {a : Act} {w : World} (hs : Region.noSelect ops = true) (ho : ops[i]? = some o)
    (hB : ((Region.ready md ops listed).contains i && Region.free md ops listed i) = true) (hy : Yields P ops o v a)
    (h : wpAny P md ops (Only Q) fuel (listed.setIfInBounds i true) (a.put o.dst v) w) : wpAny P md ops (Only Q) (fuel + 1) listed a w := by
  simp only [Bool.and_eq_true] at hB
  exact wpAny_take ho hs hB.2 hB.1 (fun _ _ _ h => h) hy h

/-- A list of them. 'K' is what stands behind. -/
def wpPull (P : Program) (ops : Array Oper) (K : Act → Prop) : List Oper → Act → Prop
  | [], a => K a
  | o :: rest, a => ∃ v, Yields P ops o v a ∧ wpPull P ops K rest (a.put o.dst v)

theorem wpPull_mono : ∀ (os : List Oper) (a : Act) {K K' : Act → Prop}, (∀ a, K a → K' a) → wpPull P ops K os a → wpPull P ops K' os a
  | [], _, _, _, h, hk => h _ hk
  | _ :: os, _, _, _, h, ⟨v, hy, hk⟩ => ⟨v, hy, wpPull_mono os _ h hk⟩

theorem wpAny_pulls (hs : Region.noSelect ops = true) {fuel : Nat} {w : World} : ∀ (is : List Nat) (listed : Array Bool) (a : Act), pullB md ops listed is = true →
    wpPull P ops (fun a' => wpAny P md ops (Only Q) fuel (mark listed is) a' w) (pickL ops.toList is) a → wpAny P md ops (Only Q) (is.length + fuel) listed a w
  | [], _, _, _, h => by simpa [pickL, mark, wpPull] using h
  | i :: is, listed, a, hB, h => by
    simp only [pullB, Bool.and_eq_true] at hB
    obtain ⟨⟨h1, h2⟩, hB⟩ := hB
    have hm := mem_ready.1 (List.contains_iff_mem.1 h1)
    obtain ⟨_, o, ho, _⟩ := hm
    have ho' : ops.toList[i]? = some o := by simpa using ho
    unfold pickL at h
    rw [ho'] at h
    obtain ⟨v, hy, h⟩ := h
    rw [show (i :: is).length + fuel = (is.length + fuel) + 1 by simp [Nat.add_assoc, Nat.add_comm, Nat.add_left_comm]]
    exact wpAny_pull hs ho (by rw [h1, h2]; rfl) hy (wpAny_pulls hs is _ _ hB h)

/-! ### The middle: what leaves the world's blocks alone -/

def lkF : List (Nat × VP) → Nat → Option VP
  | [], _ => none
  | (j, p) :: F, k => bif j == k then some p else lkF F k

/-- What the slots of F hold. -/
def Holds (F : List (Nat × VP)) (a : Act) (w : World) : Prop := ∀ k p, lkF F k = some p → ∃ v, a.tmps[k]? = some v ∧ p v w

/-- All slots as they are. -/
def Same (Ds : List Deferred) (N : Nat) (d : Option Nat) (a a' : Act) : Prop := a'.tmps.size = N ∧ a'.defers = Ds ∧ ∀ k, d ≠ some k → a'.tmps[k]? = a.tmps[k]?

def FlQ (Ds : List Deferred) (N : Nat) (d : Nat) (a : Act) (w : World) (p : VP) : Exit → Act → World → Prop := Only fun _ a' w' => Same Ds N (some d) a a' ∧ Ext w w' ∧ ∃ v, a'.tmps[d]? = some v ∧ p v w'

/-- All slots are known. -/
structure FrC (Ds : List Deferred) (N : Nat) (L : List (Nat × Value)) (a : Act) : Prop where
  fr : FrD Ds N L a
  all : ∀ {k v}, a.tmps[k]? = some v → lk L k = some v
/-- One operation's step. -/
def FlStep (Ds : List Deferred) (P : Program) (ops : Array Oper) (N : Nat) (L : List (Nat × Value)) (w0 : World) (F : List (Nat × VP)) (o : Oper) (d : Nat) (p : VP) : Prop :=
  ∀ a w Lr, Ext w0 w → FrC Ds N (L ++ Lr) a → (∀ k ∈ o.looksAt ops, ∀ q, lkF F k = some q → ∃ v, a.tmps[k]? = some v ∧ q v w) → wpList P ops (FlQ Ds N d a w p) [o] a w

def wpFlow (Ds : List Deferred) (P : Program) (ops : Array Oper) (N : Nat) (L : List (Nat × Value)) (w0 : World) (K : List (Nat × VP) → Prop) : List Oper → List (Nat × VP) → Prop
  | [], F => K F
  | o :: rest, F => ∃ d p, o.dst = some d ∧ (∀ v w w', Ext w w' → p v w → p v w') ∧ FlStep Ds P ops N L w0 F o d p ∧ wpFlow Ds P ops N L w0 K rest ((d, p) :: F)

def dstAt (ops : Array Oper) (i : Nat) : Option Nat := (ops[i]?).bind (·.dst)
def waits (md : Region.Mode) (o : Oper) (j : Nat) : Bool := o.after.any fun e => Region.binds md e && e.on == j

def waitsAt (md : Region.Mode) (ops : Array Oper) (k j : Nat) : Bool := match ops[k]? with
  | some o => waits md o j
  | none => false

/-- May the operations 'fl' come in any row, each of them behind what it reads, and the others behind all of them? -/
def flowB (md : Region.Mode) (ops : Array Oper) (listed : Array Bool) (fl : List Nat) : Bool :=
  (fl.all fun i => (fl.all fun j => i == j || dstAt ops i != dstAt ops j) && match ops[i]? with
    | none => false
    | some o => o.dst.isSome && !listed.getD i true && ((o.looksAt ops).all fun k => fl.all fun j => dstAt ops j != some k || waits md o j) &&
      (o.after.all fun e => !Region.binds md e || listed.getD e.on false || (fl.contains e.on && decide (e.on < i)))) &&
  (List.range ops.size).all fun t => listed.getD t true || fl.contains t || match ops[t]? with
    | none => true
    | some o => (fl.all fun j => waits md o j || fl.any fun k => decide (j < k) && waitsAt md ops k j) || o.after.any fun e => Region.binds md e && !fl.contains e.on && !listed.getD e.on true

theorem mark_get : ∀ (is : List Nat) (listed : Array Bool) (k : Nat), (mark listed is)[k]? = if k ∈ is ∧ k < listed.size then some true else listed[k]?
  | [], listed, k => by simp [mark]
  | i :: is, listed, k => by
    unfold mark
    rw [mark_get is]
    simp only [Array.size_setIfInBounds, List.mem_cons, Array.getElem?_setIfInBounds]
    by_cases h1 : k ∈ is
    · by_cases h2 : k < listed.size
      · simp [h1, h2]
      · simp [h1, h2]; intro h; subst h; simp at h2; simp [h2]
    · by_cases h3 : k = i
      · subst h3
        by_cases h2 : k < listed.size <;> simp [h1, h2]
      · have : ¬ i = k := fun e => h3 e.symm
        simp [h1, h3, this]
theorem mark_perm {is js : List Nat} (listed : Array Bool) (h : is.Perm js) : mark listed is = mark listed js := by
  apply Array.ext_getElem?
  intro k
  rw [mark_get, mark_get]; simp only [h.mem_iff]
theorem mark_snoc (listed : Array Bool) : ∀ (is : List Nat) (i : Nat), mark listed (is ++ [i]) = (mark listed is).setIfInBounds i true := by
  intro is
  induction is generalizing listed with
  | nil => intro i; rfl
  | cons j is ih => intro i; simp only [List.cons_append, mark]; exact ih _ _

/-- What the walk of the middle shows. -/
theorem flow_facts {N : Nat} {L : List (Nat × Value)} {w0 : World} {K : List (Nat × VP) → Prop} : ∀ (is : List Nat) (F : List (Nat × VP)), (∀ i ∈ is, ∃ o, ops[i]? = some o) →
    (∀ i ∈ is, ∀ d, dstAt ops i = some d → lkF F d = none) → (is.Pairwise fun i j => dstAt ops i ≠ dstAt ops j) → wpFlow Ds P ops N L w0 K (pickL ops.toList is) F →
    ∃ G, K G ∧ (∀ k q, lkF F k = some q → lkF G k = some q) ∧ (∀ k q, lkF G k = some q → lkF F k = some q ∨ ∃ j ∈ is, dstAt ops j = some k) ∧
      ∀ i ∈ is, ∃ o d p F', ops[i]? = some o ∧ o.dst = some d ∧ (∀ v w w', Ext w w' → p v w → p v w') ∧ lkF G d = some p ∧ FlStep Ds P ops N L w0 F' o d p ∧ (∀ k q, lkF F' k = some q → lkF G k = some q)
  | [], F, _, _, _, h => ⟨F, by simpa [pickL, wpFlow] using h, fun _ _ h => h, fun _ _ h => .inl h, fun _ h => (List.not_mem_nil h).elim⟩
  | i :: is, F, ho, hd, hn, h => by
    obtain ⟨o, ho1⟩ := ho i (List.mem_cons_self ..)
    have ho2 : ops.toList[i]? = some o := by simpa using ho1
    unfold pickL at h
    rw [ho2] at h
    obtain ⟨d, p, hdst, hst, hstep, h⟩ := h
    have hda : dstAt ops i = some d := by simp [dstAt, ho1, hdst]
    obtain ⟨hn1, hn2⟩ := List.pairwise_cons.1 hn
    obtain ⟨G, hK, hG1, hG2, hG3⟩ := flow_facts is ((d, p) :: F) (fun j hj => ho j (List.mem_cons_of_mem _ hj)) (fun j hj e he => by
      have hne : d ≠ e := fun h => hn1 j hj (by rw [hda, he, h])
      simp only [lkF]
      rw [show (d == e) = false by simpa using hne]
      exact hd j (List.mem_cons_of_mem _ hj) e he) hn2 h
    have hFd : lkF F d = none := hd i (List.mem_cons_self ..) d hda
    have hsub : ∀ k q, lkF F k = some q → lkF G k = some q := fun k q hq => hG1 k q (by
      have hne : d ≠ k := fun e => by subst e; rw [hFd] at hq; cases hq
      simp only [lkF]; rw [show (d == k) = false by simpa using hne]; exact hq)
    have hGd : lkF G d = some p := hG1 d p (by simp [lkF])
    refine ⟨G, hK, hsub, fun k q hq => ?_, fun j hj => ?_⟩
    · rcases hG2 k q hq with h | ⟨j, hj, h⟩
      · by_cases hne : d = k
        · subst hne; exact .inr ⟨i, List.mem_cons_self .., hda⟩
        · simp only [lkF] at h; rw [show (d == k) = false by simpa using hne] at h; exact .inl h
      · exact .inr ⟨j, List.mem_cons_of_mem _ hj, h⟩
    · rcases List.mem_cons.1 hj with rfl | hj
      · exact ⟨o, d, p, F, ho1, hdst, hst, hGd, hstep, hsub⟩
      · exact hG3 j hj

theorem lk_append (L M : List (Nat × Value)) (k : Nat) : lk (L ++ M) k = (lk L k).or (lk M k) := by
  induction L with
  | nil => simp [lk]
  | cons x L ih =>
    obtain ⟨j, y⟩ := x
    simp only [List.cons_append, lk]
    cases j == k <;> simp [ih]

theorem exists_min : ∀ (l : List Nat), l ≠ [] → ∃ m ∈ l, ∀ x ∈ l, m ≤ x
  | [], h => (h rfl).elim
  | [x], _ => ⟨x, List.mem_cons_self .., fun y hy => by rw [List.mem_singleton.1 hy]; exact Nat.le_refl _⟩
  | x :: y :: l, _ => by
    obtain ⟨m, hm, h⟩ := exists_min (y :: l) (by simp)
    by_cases hx : x ≤ m
    · refine ⟨x, List.mem_cons_self .., fun z hz => ?_⟩
      rcases List.mem_cons.1 hz with rfl | hz
      · exact Nat.le_refl _
      · exact Nat.le_trans hx (h z hz)
    · refine ⟨m, List.mem_cons_of_mem _ hm, fun z hz => ?_⟩
      rcases List.mem_cons.1 hz with rfl | hz
      · omega
      · exact h z hz

theorem exists_max : ∀ (l : List Nat), l ≠ [] → ∃ m ∈ l, ∀ x ∈ l, x ≤ m
  | [], h => (h rfl).elim
  | [x], _ => ⟨x, List.mem_cons_self .., fun y hy => by rw [List.mem_singleton.1 hy]; exact Nat.le_refl _⟩
  | x :: y :: l, _ => by
    obtain ⟨m, hm, h⟩ := exists_max (y :: l) (by simp)
    by_cases hx : m ≤ x
    · refine ⟨x, List.mem_cons_self .., fun z hz => ?_⟩
      rcases List.mem_cons.1 hz with rfl | hz
      · exact Nat.le_refl _
      · exact Nat.le_trans (h z hz) hx
    · refine ⟨m, List.mem_cons_of_mem _ hm, fun z hz => ?_⟩
      rcases List.mem_cons.1 hz with rfl | hz
      · omega
      · exact h z hz

theorem waits_spec {o : Oper} {j : Nat} (h : waits md o j = true) : ∃ e ∈ o.after, Region.binds md e = true ∧ e.on = j := by
  obtain ⟨e, he, hb⟩ := Array.any_eq_true'.1 h
  simp only [Bool.and_eq_true, beq_iff_eq] at hb
  exact ⟨e, he, hb⟩

/-- **Whatever row the middle comes in**, each operation has what it knows of its operands, and the end has all. -/
theorem wpAny_flow {N : Nat} {L : List (Nat × Value)} {w0 w1 : World} {a1 : Act} {fuel : Nat} {listed : Array Bool} {fl : List Nat} (hB : flowB md ops listed fl = true)
    (hsz : listed.size = ops.size) (hdup : fl.Nodup) (hL : ∀ k ∈ fl.filterMap (dstAt ops), lk L k = none) (hF1 : FrD Ds N L a1) (hE1 : Ext w0 w1)
    (h : wpFlow Ds P ops N L w0 (fun F => ∀ a w, Ext w0 w → FrD Ds N L a → Holds F a w → wpAny P md ops (Only Q) fuel (mark listed fl) a w) (pickL ops.toList fl) []) :
    wpAny P md ops (Only Q) (fl.length + fuel) listed a1 w1 := by
  simp only [flowB, Bool.and_eq_true] at hB
  obtain ⟨hB1, hB2⟩ := hB
  have hB1' : ∀ i ∈ fl, (∀ j ∈ fl, i = j ∨ dstAt ops i ≠ dstAt ops j) ∧ ∃ o, ops[i]? = some o ∧ o.dst.isSome ∧ listed.getD i true = false ∧
      (∀ k ∈ o.looksAt ops, ∀ j ∈ fl, dstAt ops j ≠ some k ∨ waits md o j = true) ∧ ∀ e ∈ o.after, Region.binds md e = true → listed.getD e.on false = true ∨ (e.on ∈ fl ∧ e.on < i) := by
    intro i hi
    have := List.all_eq_true.1 hB1 i hi
    simp only [Bool.and_eq_true, List.all_eq_true, Bool.or_eq_true, beq_iff_eq, bne_iff_ne] at this
    obtain ⟨h1, h2⟩ := this
    refine ⟨h1, ?_⟩
    cases ho : ops[i]? with
    | none => simp [ho] at h2
    | some o =>
      simp only [ho, Bool.and_eq_true, List.all_eq_true, Bool.or_eq_true, bne_iff_ne, Bool.not_eq_true'] at h2
      obtain ⟨⟨⟨h3, h4⟩, h5⟩, h6⟩ := h2
      refine ⟨o, rfl, h3, h4, h5, fun e he hb => ?_⟩
      have h7 := Array.all_eq_true_iff_forall_mem.1 h6 e he
      simp only [hb, Bool.not_true, Bool.false_or, Bool.or_eq_true, Bool.and_eq_true, decide_eq_true_eq, List.contains_iff_mem] at h7
      exact h7
  have hpw : fl.Pairwise fun i j => dstAt ops i ≠ dstAt ops j := by
    refine List.Pairwise.imp_of_mem ?_ hdup
    intro i j hi hj hne
    exact ((hB1' i hi).1 j hj).resolve_left hne
  obtain ⟨G, hK, _, hG2, hG3⟩ := flow_facts fl [] (fun i hi => let ⟨_, o, ho, _⟩ := hB1' i hi; ⟨o, ho⟩) (fun _ _ _ _ => rfl) hpw h
  have hdst : ∀ i ∈ fl, ∀ d, dstAt ops i = some d → lk L d = none := fun i hi d hd => hL d (List.mem_filterMap.2 ⟨i, hi, hd⟩)
  -- the state: what is done, what is left
  have go : ∀ (n : Nat) (done rem : List Nat), rem.length = n → (done ++ rem).Perm fl → ∀ a w, Ext w0 w → FrD Ds N L a →
      (∀ j ∈ done, ∀ d, dstAt ops j = some d → ∀ q, lkF G d = some q → ∃ v, a.tmps[d]? = some v ∧ q v w) → (∀ k ∈ done, ∀ j ∈ fl, waitsAt md ops k j = true → j ∈ done) → wpAny P md ops (Only Q) (n + fuel) (mark listed done) a w := by
    intro n
    induction n with
    | zero =>
      intro done rem hr hp a w hE hF hd hcl
      have : rem = [] := List.eq_nil_of_length_eq_zero hr
      subst this
      rw [List.append_nil] at hp
      rw [Nat.zero_add, mark_perm listed hp]
      refine hK a w hE hF fun k q hq => ?_
      rcases hG2 k q hq with h | ⟨j, hj, h⟩
      · cases h
      · exact hd j (hp.mem_iff.2 hj) k h q hq
    | succ n ih =>
      intro done rem hr hp a w hE hF hd hcl
      have hnd : (done ++ rem).Nodup := hp.nodup_iff.2 hdup
      have hunl : ∀ i, i ∈ rem → (mark listed done).getD i true = false := by
        intro i hi
        have hf : i ∈ fl := hp.mem_iff.1 (List.mem_append_right _ hi)
        obtain ⟨_, o, ho, _, h4, _⟩ := hB1' i hf
        have hnot : i ∉ done := fun hx => (List.nodup_append.1 hnd).2.2 i hx i hi rfl
        rw [Array.getD_eq_getD_getElem?, mark_get, if_neg (fun hx => hnot hx.1), ← Array.getD_eq_getD_getElem?]; exact h4
      have hlis : ∀ j, listed.getD j false = true ∨ j ∈ done → j < ops.size → (mark listed done).getD j false = true := by
        intro j hj hlt
        rw [Array.getD_eq_getD_getElem?, mark_get]
        rcases hj with hj | hj
        · split
          · rfl
          · rwa [← Array.getD_eq_getD_getElem?]
        · rw [if_pos ⟨hj, by omega⟩]; rfl
      have hne : rem ≠ [] := fun e => by subst e; cases hr
      have step : ∀ i ∈ Region.ready md ops (mark listed done), i ∈ rem := by
        intro i hi
        obtain ⟨h1, o, ho, h2⟩ := mem_ready.1 hi
        have hlt : i < ops.size := (Array.getElem?_eq_some_iff.1 ho).1
        have h3 := List.all_eq_true.1 hB2 i (List.mem_range.2 hlt)
        simp only [ho, Bool.or_eq_true, List.contains_iff_mem, List.all_eq_true] at h3
        by_cases hfl : i ∈ fl
        · rcases List.mem_append.1 (hp.mem_iff.2 hfl) with hx | hx
          · have hs : i < listed.size := by omega
            rw [Array.getD_eq_getD_getElem?, mark_get, if_pos ⟨hx, hs⟩] at h1
            cases h1
          · exact hx
        · rcases h3 with (h3 | h3) | h3
          · have hnd' : i ∉ done := fun hx => hfl (hp.mem_iff.1 (List.mem_append_left _ hx))
            rw [Array.getD_eq_getD_getElem?, mark_get, if_neg (fun hx => hnd' hx.1), ← Array.getD_eq_getD_getElem?, h3] at h1
            cases h1
          · exact (hfl h3).elim
          rcases h3 with h3 | h3
          rotate_left
          · obtain ⟨e, he, hb⟩ := Array.any_eq_true'.1 h3
            simp only [Bool.and_eq_true, Bool.not_eq_true'] at hb
            obtain ⟨⟨hb1, hb2⟩, hb3⟩ := hb
            have h4 := h2 e he hb1
            have hnf : e.on ∉ fl := fun h => by rw [List.contains_iff_mem.2 h] at hb2; cases hb2
            have hnd' : e.on ∉ done := fun hx => hnf (hp.mem_iff.1 (List.mem_append_left _ hx))
            rw [Array.getD_eq_getD_getElem?, mark_get, if_neg (fun hx => hnd' hx.1), ← Array.getD_eq_getD_getElem?] at h4
            have hlt' : e.on < listed.size := by
              by_cases hx : e.on < listed.size
              · exact hx
              · simp [hx] at h4
            simp [hlt'] at hb3 h4
            rw [h4] at hb3; cases hb3
          · obtain ⟨m, hm, hmax⟩ := exists_max rem hne
            have hw : waits md o m = true := by
              rcases h3 m (hp.mem_iff.1 (List.mem_append_right _ hm)) with h | h
              · exact h
              · obtain ⟨k, hk, h⟩ := List.any_eq_true.1 h
                simp only [Bool.and_eq_true, decide_eq_true_eq] at h
                rcases List.mem_append.1 (hp.mem_iff.2 hk) with hx | hx
                · have := hcl k hx m (hp.mem_iff.1 (List.mem_append_right _ hm)) h.2
                  exact ((List.nodup_append.1 hnd).2.2 m this m hm rfl).elim
                · have := hmax k hx; omega
            obtain ⟨e, he, hb, rfl⟩ := waits_spec hw
            have h4 := h2 e he hb
            have h5 := hunl _ hm
            have h6 : e.on < (mark listed done).size := by
              by_cases hx : e.on < (mark listed done).size
              · exact hx
              · simp [hx] at h4
            simp [h6] at h4 h5
            rw [h4] at h5; cases h5
      rw [show n + 1 + fuel = (n + fuel) + 1 by omega]
      refine ⟨fun h0 => ?_, fun i hi => ?_⟩
      · obtain ⟨m, hm, hmin⟩ := exists_min rem hne
        have hf : m ∈ fl := hp.mem_iff.1 (List.mem_append_right _ hm)
        obtain ⟨_, o, ho, _, h4, _, h6⟩ := hB1' m hf
        have : m ∈ Region.ready md ops (mark listed done) := mem_ready.2 ⟨hunl m hm, o, ho, fun e he hb => by
          rcases h6 e he hb with h | ⟨h, hlt⟩
          · by_cases hx : e.on < ops.size
            · exact hlis _ (.inl h) hx
            · have : ¬ e.on < listed.size := by omega
              simp [this] at h
          · obtain ⟨_, o', ho', _⟩ := hB1' _ h
            have hx : e.on < ops.size := (Array.getElem?_eq_some_iff.1 ho').1
            rcases List.mem_append.1 (hp.mem_iff.2 h) with hy | hy
            · exact hlis _ (.inr hy) hx
            · have := hmin _ hy; omega⟩
        rw [h0] at this; exact (List.not_mem_nil this).elim
      · have hir := step i hi
        have hf : i ∈ fl := hp.mem_iff.1 (List.mem_append_right _ hir)
        obtain ⟨hdj, o, ho, _, _, hlook, hafter⟩ := hB1' i hf
        obtain ⟨o', d, p, F', ho', hd', hst, hGd, hstep, hsub⟩ := hG3 i hf
        rw [ho] at ho'; cases ho'
        have hdi : dstAt ops i = some d := by simp [dstAt, ho, hd']
        obtain ⟨_, o'', ho'', hrdy⟩ := mem_ready.1 hi
        rw [ho] at ho''; cases ho''
        have hwp := hstep a w (argsFrom 0 a.tmps.toList) hE ⟨?_, ?_⟩ ?_
        · -- the step's end
          have hlast : ∀ a' w', (Same Ds N (some d) a a' ∧ Ext w w' ∧ ∃ v, a'.tmps[d]? = some v ∧ p v w') → wpAny P md ops (Only Q) (n + fuel) ((mark listed done).setIfInBounds i true) a' w' := by
            rintro a' w' ⟨⟨hs1, hs2, hs3⟩, hE', v, hv, hpv⟩
            rw [← mark_snoc]
            have hperm : rem.Perm (i :: rem.erase i) := List.perm_cons_erase hir
            refine ih (done ++ [i]) (rem.erase i) (by rw [List.length_erase_of_mem hir]; omega) ?_ a' w' (hE.trans hE') ⟨hs1, hs2, fun {k u} hk => ?_⟩ ?_ ?_
            · refine List.Perm.trans ?_ hp
              rw [List.append_assoc]
              exact List.Perm.append_left _ hperm.symm
            · rw [hs3 k (fun e => by cases e; rw [hdst i hf d hdi] at hk; cases hk)]
              exact hF.lk hk
            · intro j hj e he q hq
              rcases List.mem_append.1 hj with hj1 | hj
              · have hj := hj1
                have hjf : j ∈ fl := hp.mem_iff.1 (List.mem_append_left _ hj)
                have hne : j ≠ i := fun e => (List.nodup_append.1 hnd).2.2 j hj1 i hir e
                have hde : e ≠ d := fun h => by
                  rcases (hB1' j hjf).1 i hf with h' | h'
                  · exact hne h'
                  · exact h' (by rw [he, hdi, h])
                obtain ⟨u, hu, hq'⟩ := hd j hj e he q hq
                obtain ⟨_, d2, p2, _, ho2, hd2, hst2, hG2', _⟩ := hG3 j hjf
                have : e = d2 := by
                  have : dstAt ops j = some d2 := by simp [dstAt, ho2, hd2]
                  rw [he] at this; exact Option.some.inj this
                subst this
                rw [hG2'] at hq; cases hq
                refine ⟨u, ?_, hst2 _ _ _ hE' hq'⟩
                rw [hs3 e (fun h => hde (Option.some.inj h).symm)]; exact hu
              · rw [List.mem_singleton.1 hj, hdi] at he
                cases he
                rw [hGd] at hq; cases hq
                exact ⟨v, hv, hpv⟩
            · intro k hk j hj hw
              rcases List.mem_append.1 hk with hk | hk
              · exact List.mem_append_left _ (hcl k hk j hj hw)
              · rw [List.mem_singleton.1 hk] at hw
                simp only [waitsAt, ho] at hw
                obtain ⟨e, he, hb, rfl⟩ := waits_spec hw
                have h1 := hrdy e he hb
                rcases List.mem_append.1 (hp.mem_iff.2 hj) with hx | hx
                · exact List.mem_append_left _ hx
                · have h5 := hunl _ hx
                  have h6 : e.on < (mark listed done).size := by
                    by_cases hx : e.on < (mark listed done).size
                    · exact hx
                    · simp [hx] at h1
                  simp [h6] at h1 h5
                  rw [h1] at h5; cases h5
          unfold wpOp
          rw [ho]
          unfold wpList at hwp
          simp only at hwp ⊢
          split
          · rename_i hw
            rw [if_pos hw] at hwp
            rcases hwp with hwp | ⟨_, hwp⟩
            · exact .inl (wp_only (fun a' w' hh => hlast a' w' hh) hwp)
            · exact (not_letsOut hwp).elim
          · rename_i hw
            rw [if_neg hw] at hwp
            exact hlast _ _ hwp
        · refine ⟨hF.size, hF.defers, fun {k u} hk => ?_⟩
          rw [lk_append] at hk
          cases hl : lk L k with
          | some y => rw [hl] at hk; cases hk; exact hF.lk hl
          | none =>
            rw [hl] at hk
            have := (lk_argsFrom (show lk (argsFrom 0 a.tmps.toList) k = some u by simpa using hk)).2
            simpa using this
        · intro k v hv
          rw [lk_append]
          cases hl : lk L k with
          | some y => have := hF.lk hl; rw [hv] at this; cases this; rfl
          | none =>
          rw [Option.none_or]
          have : ∀ (vs : List Value) (i : Nat), vs[k]? = some v → lk (argsFrom i vs) (i + k) = some v := by
            clear hv hl
            intro vs
            induction vs generalizing k with
            | nil => intro i h; simp at h
            | cons x vs ih =>
              intro i h
              cases k with
              | zero => simp at h; subst h; simp [argsFrom, lk]
              | succ k =>
                simp at h
                have := ih (i + 1) h
                simp only [argsFrom, lk]
                rw [show (i == i + (k + 1)) = false by simp, show i + (k + 1) = i + 1 + k by omega]
                exact this
          have := this a.tmps.toList 0 (by simpa using hv)
          rwa [Nat.zero_add] at this
        · intro k hk q hq
          have hGk := hsub k q hq
          rcases hG2 k q hGk with h' | ⟨j, hj, hdj'⟩
          · cases h'
          · rcases hlook k hk j hj with h' | h'
            · exact (h' hdj').elim
            · obtain ⟨e, he, hb, rfl⟩ := waits_spec h'
              have h1 := hrdy e he hb
              have hjd : e.on ∈ done := by
                rcases List.mem_append.1 (hp.mem_iff.2 hj) with hx | hx
                · exact hx
                · have h5 := hunl _ hx
                  have h6 : e.on < (mark listed done).size := by
                    by_cases hx : e.on < (mark listed done).size
                    · exact hx
                    · simp [hx] at h1
                  simp [h6] at h1 h5
                  rw [h1] at h5; cases h5
              exact hd _ hjd k hdj' q hGk
  exact go fl.length [] fl rfl (List.Perm.refl _) a1 w1 hE1 hF1 (fun _ h => (List.not_mem_nil h).elim) (fun _ h => (List.not_mem_nil h).elim)

/-! ### The rules of a walk -/

/-- The kinds of operations that are taken ahead. -/
def noSkip : Op → Bool
  | .move _ | .assign _ | .pick .. | .binOp .. | .unOp .. | .convert .. | .fieldAddr .. | .indexAddr .. | .index .. | .slice .. | .extract .. | .typeAssert .. => true
  | .call c => match c.callee with | .builtin .len | .builtin .cap => true | _ => false
  | _ => false

theorem bind_noSkip {s : Sem Value} {w w' : World} : (do pure (Next.value (← s)) : Sem Next).run P w ≠ .ok .skip w' := by
  intro h
  simp only [Sem.run_bind] at h
  cases hr : s.run P w with
  | ok v w1 => rw [hr] at h; simp [Result.andThen, Sem.run_pure] at h
  | halt x w1 => rw [hr] at h; simp [Result.andThen] at h
theorem noSkip_spec {ρ : Operand → Value} {o : Oper} (hn : noSkip o.op = true) {w w' : World} : (execOp ρ o).run P w ≠ .ok .skip w' := by
  unfold execOp
  cases ho : o.op
  case call c =>
    obtain ⟨ce, xs, ats⟩ := c
    rw [ho] at hn
    cases ce with
    | builtin b => cases b <;> first
      | exact bind_noSkip
      | (simp [noSkip] at hn; done)
    | _ => simp [noSkip] at hn
  all_goals simp only [ho, noSkip] at hn ⊢
  all_goals first
    | exact bind_noSkip
    | (cases hn; done)
    | (intro h; simp [Sem.run_pure] at h; done)
    | (intro h; simp only [Sem.run_bind] at h
       generalize hr : Sem.run P _ w = r at h
       cases r <;> simp [Result.andThen, Sem.run_pure] at h)
theorem yields_does {N dd : Nat} {o : Oper} {a : Act} {v : Value} (hg : o.guard = none) (hn : noSkip o.op = true) (h : ∀ w, Does P o a w v w) : Yields P ops o v a :=
  .inl ⟨by simp [Region.wanted, hg], fun w => (h w).resolve_right fun h => noSkip_spec hn h.1⟩

section
variable {N dd : Nat} {L : List (Nat × Value)} {o : Oper} {rest : List Oper} {a : Act} {w : World} {v : Value}
theorem ps {K : Act → Prop} (hF : FrD Ds N L a) (hg : o.guard = none) (hdst : o.dst = some dd) (hd : Nat.blt dd N = true) (hn : noSkip o.op = true) (hr : ∀ w, Does P o a w v w)
    (k : ∀ a', FrD Ds N ((dd, v) :: L) a' → wpPull P ops K rest a') : wpPull P ops K (o :: rest) a :=
  ⟨v, yields_does (N := N) (dd := dd) hg hn hr, k _ (by rw [hdst]; exact hF.put _ hd)⟩

theorem ps_nil {K : Act → Prop} {x : Operand} {ad : Addr} (hF : FrD Ds N L a) (hg : o.guard = none) (hdst : o.dst = some dd) (hd : Nat.blt dd N = true) (ho : o.op = .nilCheck x) (hx : ev L x = some (.pointer (some ad)))
    (k : ∀ a', FrD Ds N ((dd, .pointer (some ad)) :: L) a' → wpPull P ops K rest a') : wpPull P ops K (o :: rest) a :=
  ⟨.pointer (some ad), .inl ⟨by simp [Region.wanted, hg], fun w => by unfold execOp; simp [ho, hF.ev hx]⟩, k _ (by rw [hdst]; exact hF.put _ hd)⟩

def drawB (ops : Array Oper) (pl fl tl el : List Nat) : Bool :=
  Region.noSelect ops && pullB .any ops (Array.replicate ops.size false) pl && flowB .any ops (mark (Array.replicate ops.size false) pl) fl &&
  seqB .any ops (mark (mark (Array.replicate ops.size false) pl) fl) tl && decide fl.Nodup && decide (pl.length + fl.length + tl.length + el.length = ops.size) &&
  pullB .any ops (mark (mark (mark (Array.replicate ops.size false) pl) fl) tl) el && (Region.ready .any ops (mark (mark (mark (mark (Array.replicate ops.size false) pl) fl) tl) el)).isEmpty

theorem mark_size : ∀ (is : List Nat) (listed : Array Bool), (mark listed is).size = listed.size
  | [], _ => rfl
  | _ :: is, listed => by unfold mark; rw [mark_size is]; simp

/-- What is left to show once the start has been taken. -/
def FlGo (P : Program) (l : List Oper) (Q : Exit → Act → World → Prop) (w : World) (pl fl tl el : List Nat) (a : Act) : Prop :=
  wpAny P .any l.toArray (Only Q) (fl.length + (tl.length + el.length)) (mark (Array.replicate l.toArray.size false) pl) a { w with drawn := w.drawn + 1 }

/-- What is left to show once all that writes has been done. -/
def FlEnd (P : Program) (l : List Oper) (Q : Exit → Act → World → Prop) (el : List Nat) : Exit → Act → World → Prop := fun e a w => match e with
  | .normal => wpPull P l.toArray (fun a' => Q .normal a' w) (pickL l el) a
  | _ => False

/-- A region that draws its order. -/
theorem c_flow {id : Nat} {l : List Oper} (pl fl tl el : List Nat) (hm : P.follows .mixedOrders = true) (hB : drawB l.toArray pl fl tl el = true)
    (h : drawB l.toArray pl fl tl el = true → wpPull P l.toArray (FlGo P l Q w pl fl tl el) (pickL l pl) a) : (Code.region id l.toArray true).wp P Q a w := by
  replace h := h hB
  simp only [drawB, Bool.and_eq_true, decide_eq_true_eq] at hB
  obtain ⟨⟨⟨⟨⟨⟨⟨h1, h2⟩, h3⟩, h4⟩, h5⟩, h6⟩, h7⟩, h8⟩ := hB
  refine wp_region_any hm (wpAny_only _ _ _ _ ?_)
  rw [show l.toArray.size = pl.length + (fl.length + (tl.length + el.length)) by omega]
  have := wpAny_pulls (Q := Q) h1 (fuel := fl.length + (tl.length + el.length)) (w := { w with drawn := w.drawn + 1 }) pl (Array.replicate l.toArray.size false) a h2 h
  rwa [show l.toArray.size = pl.length + (fl.length + (tl.length + el.length)) by omega] at this

def hasN : List Nat → Nat → Bool
  | [], _ => false
  | j :: ds, k => bif j == k then true else hasN ds k
def wo (ds : List Nat) : List (Nat × Value) → List (Nat × Value)
  | [] => []
  | (k, v) :: L => bif hasN ds k then wo ds L else (k, v) :: wo ds L

theorem lk_wo {ds : List Nat} : ∀ {L : List (Nat × Value)} {k : Nat}, lk (wo ds L) k = if hasN ds k = true then none else lk L k
  | [], k => by simp [wo, lk]
  | (j, v) :: L, k => by
    simp only [wo]
    cases h : hasN ds j with
    | true =>
      simp only [cond_true, lk]
      rw [lk_wo]
      cases e : j == k with
      | true => have : j = k := by simpa using e
                subst this; simp [h]
      | false => simp
    | false =>
      simp only [cond_false, lk]
      rw [lk_wo]
      cases e : j == k with
      | true => have : j = k := by simpa using e
                subst this; simp [h]
      | false => simp
theorem FrD.wo {ds : List Nat} (h : FrD Ds N L a) : FrD Ds N (wo ds L) a := ⟨h.size, h.defers, fun {k v} hk => by
  rw [lk_wo] at hk
  split at hk
  · cases hk
  · exact h.slot hk⟩

/-- The middle. 'ds': the slots that it fills. -/
theorem fl_start {l : List Oper} {pl fl tl el : List Nat} (ds : List Nat) (hB : drawB l.toArray pl fl tl el = true) (hds : (fl.filterMap (dstAt l.toArray)).all (fun k => hasN ds k) = true) (hF : FrD Ds N L a)
    (h : wpFlow Ds P l.toArray N (wo ds L) w (fun F => ∀ a w', Ext w w' → FrD Ds N (wo ds L) a → Holds F a w' → wpList P l.toArray (Only (FlEnd P l Q el)) (pickL l tl) a w') (pickL l fl) []) : FlGo P l Q w pl fl tl el a := by
  simp only [drawB, Bool.and_eq_true, decide_eq_true_eq] at hB
  obtain ⟨⟨⟨⟨⟨⟨⟨h1, h2⟩, h3⟩, h4⟩, h5⟩, h6⟩, h7⟩, h8⟩ := hB
  have hx : Ext w { w with drawn := w.drawn + 1 } := ⟨rfl, rfl, rfl, Nat.le_refl _, fun _ _ => rfl⟩
  refine wpAny_flow (L := Proofs.YtpoebplhemimmaaGreatDoor.wo ds L) (w0 := w) h3 (by rw [mark_size]; simp) h5 (fun k hk => ?_) hF.wo hx ?_
  · rw [lk_wo, if_pos (List.all_eq_true.1 hds k hk)]
  · have mono : ∀ (os : List Oper) (F : List (Nat × VP)) (K K' : List (Nat × VP) → Prop), (∀ F, K F → K' F) → wpFlow Ds P l.toArray N (Proofs.YtpoebplhemimmaaGreatDoor.wo ds L) w K os F → wpFlow Ds P l.toArray N (Proofs.YtpoebplhemimmaaGreatDoor.wo ds L) w K' os F := by
      intro os
      induction os with
      | nil => intro F K K' hK h; exact hK _ h
      | cons o os ih =>
        intro F K K' hK h
        obtain ⟨d, p, h1, h2, h3, h4⟩ := h
        exact ⟨d, p, h1, h2, h3, ih _ _ _ hK h4⟩
    refine mono _ _ (fun F => ∀ a w', Ext w w' → FrD Ds N (Proofs.YtpoebplhemimmaaGreatDoor.wo ds L) a → Holds F a w' → wpList P l.toArray (Only (FlEnd P l Q el)) (pickL l tl) a w') _ (fun F hK a w' hE hF hH => wpAny_seq tl _ a w' h4 ?_ (hK a w' hE hF hH)) h
    intro a2 w2 hq
    have := wpAny_pulls (Q := Q) h1 (fuel := 0) (w := w2) el _ a2 h7 (by
      refine wpPull_mono _ _ (fun a' h => ?_) hq
      exact ⟨by simpa using h8, h⟩)
    simpa using this

/-- One operation of the middle, of one value, the same in each world. -/
theorem fs {F : List (Nat × VP)} {w0 : World} {K : List (Nat × VP) → Prop} (p : VP) (hdst : o.dst = some dd) (hst : ∀ v w w', Ext w w' → p v w → p v w') (hs : FlStep Ds P ops N L w0 F o dd p)
    (h : wpFlow Ds P ops N L w0 K rest ((dd, p) :: F)) : wpFlow Ds P ops N L w0 K (o :: rest) F := ⟨dd, p, hdst, hst, hs, h⟩
/-- The step's end. -/
theorem fl_end {d : Nat} {p : VP} {a' : Act} {w' : World} (hC : FrC Ds N L a) (hF : FrD Ds N ((d, v) :: L) a') (hE : Ext w w') (hp : p v w') : FlQ Ds N d a w p .normal a' w' := by
  refine ⟨⟨hF.size, hF.defers, fun k hk => ?_⟩, hE, v, hF.lk (by simp [lk]), hp⟩
  have hne : d ≠ k := fun e => hk (by rw [e])
  have hsz := hC.fr.size
  by_cases hlt : k < N
  · have hu : a.tmps[k]? = some a.tmps[k] := by simp [hsz, hlt]
    rw [hu]
    refine hF.lk ?_
    simp only [lk]
    rw [show (d == k) = false by simpa using hne, cond_false, hC.all hu]
  · have h1 : a.tmps[k]? = none := by simp; omega
    have h2 : a'.tmps[k]? = none := by simp [hF.size]; omega
    rw [h1, h2]
/-- What a slot holds joins what is known. -/
theorem FrD.more {k : Nat} (h : FrD Ds N L a) (hv : a.tmps[k]? = some v) : FrD Ds N ((k, v) :: L) a := ⟨h.size, h.defers, fun {j u} hj => by
  unfold Proofs.YtpoebplhemimmaaGreatDoor.lk at hj
  cases e : k == j with
  | true => have : k = j := by simpa using e
            rw [e] at hj; simp only [cond_true, Option.some.injEq] at hj; subst this hj; exact hv
  | false => rw [e] at hj; exact h.slot hj⟩
theorem FrC.more {k : Nat} (h : FrC Ds N L a) (hv : a.tmps[k]? = some v) : FrC Ds N ((k, v) :: L) a := ⟨h.fr.more hv, fun {j u} hj => by
  unfold Proofs.YtpoebplhemimmaaGreatDoor.lk
  cases e : k == j with
  | true => have : k = j := by simpa using e
            subst this; rw [hv] at hj; simpa using hj
  | false => exact h.all hj⟩

/-- Its one value is known. -/
theorem fs1 {x : Value} {F : List (Nat × VP)} {w0 : World} {K : List (Nat × VP) → Prop} (hdst : o.dst = some dd) (hs : FlStep Ds P ops N L w0 F o dd (fun v _ => v = x))
    (h : wpFlow Ds P ops N L w0 K rest ((dd, fun v _ => v = x) :: F)) : wpFlow Ds P ops N L w0 K (o :: rest) F := ⟨dd, _, hdst, fun _ _ _ _ h => h, hs, h⟩
/-- It is a slice that may be read. -/
theorem fsr {size n : Nat} {xs : List Value} {F : List (Nat × VP)} {w0 : World} {K : List (Nat × VP) → Prop} (hdst : o.dst = some dd) (hs : FlStep Ds P ops N L w0 F o dd (fun v w => RSl w size v n xs))
    (h : wpFlow Ds P ops N L w0 K rest ((dd, fun v w => RSl w size v n xs) :: F)) : wpFlow Ds P ops N L w0 K (o :: rest) F := ⟨dd, _, hdst, fun _ _ _ he h => h.ext he, hs, h⟩
end
end
end Go.Proofs.YtpoebplhemimmaaGreatDoor
