/-
  Regions that draw their order, and read what nobody writes: reads are taken ahead, what writes comes one after the other. Nothing is claimed here.
  Regions that draw their order, whose end may throw: what reads nothing is taken ahead, then what reads cells that nobody writes till they are read, the rest comes one after the other. Nothing is claimed here.
-/
import Derived.Test.YtpoebplhemimmaaGreatDoorFlow
import Derived.OrdersHeld
namespace Go.Proofs.YtpoebplhemimmaaGreatDoor
variable {Ds : List Deferred}
open Go.RowKit
set_option linter.unusedVariables false
set_option linter.unusedSimpArgs false

theorem Ext.below {w w' : World} (h : Ext w w') : Ext w w' := h
def noSkipL : Op → Bool
  | .load .. => true
  | op => noSkip op
theorem noSkipL_spec {P : Program} {ρ : Operand → Value} {o : Oper} (hn : noSkipL o.op = true) {w w' : World} : (execOp ρ o).run P w ≠ .ok .skip w' := by
  cases ho : o.op
  case load t x =>
    unfold execOp
    simp only [ho]
    exact bind_noSkip
  all_goals exact noSkip_spec (by rw [ho] at hn ⊢; exact hn)
section
variable {P : Program} {ops : Array Oper} {md : Region.Mode} {Q : Exit → Act → World → Prop} {wb : World}

/-- A step of a plan: a read that is taken ahead, what comes alone, two that come in any order. -/
inductive PStep where
  | p (i : Nat)
  | o (i : Nat)
  | t (i j : Nat)
inductive QStep where
  | p (o : Oper)
  | o (o : Oper)
  | t (x y : Oper)
def planB (md : Region.Mode) (ops : Array Oper) : Array Bool → List PStep → Bool
  | listed, [] => (Region.ready md ops listed).isEmpty
  | listed, .p i :: r => (Region.ready md ops listed).contains i && Region.free md ops listed i && planB md ops (listed.setIfInBounds i true) r
  | listed, .o i :: r => (Region.ready md ops listed == [i]) && (decide (i < ops.size)) && planB md ops (listed.setIfInBounds i true) r
  | listed, .t i j :: r => (Region.ready md ops listed == [i, j]) && (decide (i < ops.size) && decide (j < ops.size) && decide (i ≠ j)) && (Region.ready md ops (listed.setIfInBounds i true) == [j]) && (Region.ready md ops (listed.setIfInBounds j true) == [i]) &&
      planB md ops ((listed.setIfInBounds i true).setIfInBounds j true) r
def lenP : List PStep → Nat
  | [] => 0
  | .t _ _ :: r => lenP r + 1 + 1
  | _ :: r => lenP r + 1
def pickP (l : List Oper) : List PStep → List QStep
  | [] => []
  | .p i :: is => match l[i]? with
    | some o => .p o :: pickP l is
    | none => pickP l is
  | .o i :: is => match l[i]? with
    | some o => .o o :: pickP l is
    | none => pickP l is
  | .t i j :: is => match l[i]?, l[j]? with
    | some o, some u => .t o u :: pickP l is
    | _, _ => pickP l is
def HdK (wb : World) (K : Act → World → Prop) : Exit → Act → World → Prop := fun e a w => match e with
  | .normal => Ext wb w ∧ K a w
  | _ => False
def wpPlan (P : Program) (ops : Array Oper) (Q : Exit → Act → World → Prop) (wb : World) : List QStep → Act → World → Prop
  | [], a, w => Q .normal a w
  | .p o :: r, a, w => ∃ v, YieldsIf P ops (Ext wb) o v a ∧ wpPlan P ops Q wb r (a.put o.dst v) w
  | .o o :: r, a, w => wpList P ops (HdK wb (wpPlan P ops Q wb r)) [o] a w
  | .t x y :: r, a, w => wpList P ops (HdK wb fun a w => wpList P ops (HdK wb (wpPlan P ops Q wb r)) [y] a w) [x] a w ∧ wpList P ops (HdK wb fun a w => wpList P ops (HdK wb (wpPlan P ops Q wb r)) [x] a w) [y] a w

theorem wp_hdk {o : Oper} {a : Act} {w : World} {K : Act → World → Prop} {K' : Act → World → Prop} (h : ∀ a w, K' a w → Ext wb w ∧ K a w) (hh : o.wp P a w K' (HdK wb K)) : o.wp P a w (fun a w => Ext wb w ∧ K a w) (Only Q) := by
  unfold Oper.wp at *
  generalize (execOp a.eval o).run P w = r at *
  cases r with
  | ok n w' =>
    cases n <;> simp only [Oper.upon] at hh ⊢
    case value u => exact h _ _ hh
    case skip => exact h _ _ hh
    case defer d => exact h _ _ hh
    case enter f args =>
      refine Calls.mono hh fun e w'' he => ?_
      cases e with
      | returned v => exact h _ _ he
      | panicked c => exact he.elim
      | outgrown => obtain ⟨_, _, he⟩ := he; exact he.elim
    case row r args => exact Rows.mono hh fun _ _ he => h _ _ he
  | halt x w' => cases x <;> simp only [Oper.upon] at hh ⊢; exact hh.elim

theorem wpOp_hdk {i : Nat} {o : Oper} {a : Act} {w : World} {K K' : Act → World → Prop} (ho : ops[i]? = some o) (hk : ∀ a w, Ext wb w → K a w → K' a w) (h : wpList P ops (HdK wb K) [o] a w) :
    wpOp P ops (Only Q) i (fun a w => Ext wb w ∧ K' a w) a w := by
  unfold wpOp
  rw [ho]
  unfold wpList at h
  simp only at h ⊢
  split
  · rename_i hw
    rw [if_pos hw] at h
    rcases h with h | ⟨_, _, _, h⟩
    · exact .inl (Oper.wp_mono (fun a w h => ⟨h.1, hk a w h.1 h.2⟩) (wp_hdk (fun a w h => h) h))
    · exact h.elim
  · rename_i hw
    rw [if_neg hw] at h
    exact ⟨h.1, hk _ _ h.1 h.2⟩
theorem wpAnyH_plan (hs : Region.noSelect ops = true) : ∀ (is : List PStep) (listed : Array Bool) (a : Act) (w : World), planB md ops listed is = true → Ext wb w →
    wpPlan P ops Q wb (pickP ops.toList is) a w → wpAnyH P md ops (Only Q) (Ext wb) (lenP is) listed a w
  | [], listed, a, w, hB, _, h => ⟨by simpa [planB] using hB, h⟩
  | .p i :: is, listed, a, w, hB, hS, h => by
    simp only [planB, Bool.and_eq_true] at hB
    obtain ⟨⟨h1, h2⟩, hB⟩ := hB
    obtain ⟨_, o, ho, _⟩ := mem_ready.1 (List.contains_iff_mem.1 h1)
    have ho' : ops.toList[i]? = some o := by simpa using ho
    unfold pickP at h
    rw [ho'] at h
    obtain ⟨v, hy, h⟩ := h
    exact wpAnyH_take ho hs h2 h1 (fun _ _ _ h => h) hy hS (wpAnyH_plan hs is _ _ w hB hS h)
  | .o i :: is, listed, a, w, hB, hS, h => by
    simp only [planB, Bool.and_eq_true, beq_iff_eq, decide_eq_true_eq] at hB
    obtain ⟨⟨hr, hi⟩, hB⟩ := hB
    have ho : ops.toList[i]? = some ops[i] := by simp [hi]
    have ho' : ops[i]? = some ops[i] := by simp [hi]
    unfold pickP at h
    rw [ho] at h
    refine ⟨fun h0 => (by rw [hr] at h0; cases h0), fun j hj => ?_⟩
    rw [hr] at hj
    rw [List.mem_singleton.1 hj]
    exact wpOp_hdk ho' (fun a w he hh => wpAnyH_plan hs is _ a w hB he hh) h
  | .t i j :: is, listed, a, w, hB, hS, h => by
    simp only [planB, Bool.and_eq_true, beq_iff_eq, decide_eq_true_eq] at hB
    obtain ⟨⟨⟨⟨hr, ⟨hi, hj⟩, hij⟩, hr1⟩, hr2⟩, hB⟩ := hB
    have ho : ops.toList[i]? = some ops[i] := by simp [hi]
    have ho' : ops[i]? = some ops[i] := by simp [hi]
    have hu : ops.toList[j]? = some ops[j] := by simp [hj]
    have hu' : ops[j]? = some ops[j] := by simp [hj]
    unfold pickP at h
    rw [ho, hu] at h
    have two : ∀ (i j : Nat) (hi : i < ops.size) (hj : j < ops.size), Region.ready md ops (listed.setIfInBounds i true) = [j] → planB md ops ((listed.setIfInBounds i true).setIfInBounds j true) is = true →
        wpList P ops (HdK wb fun a w => wpList P ops (HdK wb (wpPlan P ops Q wb (pickP ops.toList is))) [ops[j]] a w) [ops[i]] a w →
        wpOp P ops (Only Q) i (fun a' w' => Ext wb w' ∧ wpAnyH P md ops (Only Q) (Ext wb) (lenP is + 1) (listed.setIfInBounds i true) a' w') a w := by
      intro i j hi hj hr1 hB h
      have ho' : ops[i]? = some ops[i] := by simp [hi]
      have hu' : ops[j]? = some ops[j] := by simp [hj]
      refine wpOp_hdk ho' (fun a w _ hh => ?_) h
      refine ⟨fun h0 => (by rw [hr1] at h0; cases h0), fun k hk => ?_⟩
      rw [hr1] at hk
      rw [List.mem_singleton.1 hk]
      exact wpOp_hdk hu' (fun a w he hh => wpAnyH_plan hs is _ a w hB he hh) hh
    refine ⟨fun h0 => (by rw [hr] at h0; cases h0), fun k hk => ?_⟩
    rw [hr] at hk
    rcases List.mem_cons.1 hk with rfl | hk
    · exact two k j hi hj hr1 hB h.1
    · rw [List.mem_singleton.1 hk]
      exact two j i hj hi hr2 (by rw [Array.setIfInBounds_comm _ _ (Ne.symm hij)]; exact hB) h.2
end

section
variable {P : Program} {Q : Exit → Act → World → Prop} {a : Act} {w wb : World} {N dd : Nat} {L : List (Nat × Value)} {ops : Array Oper} {rest : List QStep} {o : Oper} {v : Value}
theorem c_held {id : Nat} {l : List Oper} (plan : List PStep) (hm : P.follows .mixedOrders = true) (hB : (Region.noSelect l.toArray && planB .any l.toArray (Array.replicate l.length false) plan && decide (lenP plan = l.length)) = true) (hE : Ext wb w)
    (h : ∀ w', Ext w w' → wpPlan P l.toArray Q wb (pickP l plan) a w') : (Code.region id l.toArray true).wp P Q a w := by
  simp only [Bool.and_eq_true, decide_eq_true_eq] at hB
  obtain ⟨⟨h1, h2⟩, h3⟩ := hB
  have hx : Ext w { w with drawn := w.drawn + 1 } := ⟨rfl, rfl, rfl, Nat.le_refl _, fun _ _ => rfl⟩
  refine wp_region_any hm (wpAny_only _ _ _ _ (wpAny_of_held (S := Ext wb) _ _ _ _ ?_))
  have := wpAnyH_plan (Q := Q) h1 plan (Array.replicate l.toArray.size false) a { w with drawn := w.drawn + 1 } h2 (hE.trans hx) (h _ hx)
  rwa [h3] at this
/-- A read, taken ahead. -/
theorem hp (hF : FrD Ds N L a) (hg : o.guard = none) (hdst : o.dst = some dd) (hd : Nat.blt dd N = true) (hn : noSkipL o.op = true) (hr : ∀ w, Ext wb w → Does P o a w v w)
    (k : ∀ a', FrD Ds N ((dd, v) :: L) a' → wpPlan P ops Q wb rest a' w) : wpPlan P ops Q wb (.p o :: rest) a w :=
  ⟨v, .inl ⟨by simp [Region.wanted, hg], fun w hS => (hr w hS).resolve_right fun h => noSkipL_spec hn h.1⟩, k _ (by rw [hdst]; exact hF.put _ hd)⟩
theorem hp_nil {x : Operand} {ad : Addr} (hF : FrD Ds N L a) (hg : o.guard = none) (hdst : o.dst = some dd) (hd : Nat.blt dd N = true) (ho : o.op = .nilCheck x) (hx : ev L x = some (.pointer (some ad)))
    (k : ∀ a', FrD Ds N ((dd, .pointer (some ad)) :: L) a' → wpPlan P ops Q wb rest a' w) : wpPlan P ops Q wb (.p o :: rest) a w :=
  ⟨.pointer (some ad), .inl ⟨by simp [Region.wanted, hg], fun w _ => by unfold execOp; simp [ho, hF.ev hx]⟩, k _ (by rw [hdst]; exact hF.put _ hd)⟩
/-- What comes alone. -/
theorem hd (h : wpList P ops (HdK wb (wpPlan P ops Q wb rest)) [o] a w) : wpPlan P ops Q wb (.o o :: rest) a w := h
theorem hd_end {K : Act → World → Prop} (hS : Ext wb w) (h : K a w) : HdK wb K .normal a w := ⟨hS, h⟩
theorem FrD.swap {d e : Nat} {u : Value} (h : FrD Ds N ((d, v) :: (e, u) :: L) a) (hne : (d == e) = false) : FrD Ds N ((e, u) :: (d, v) :: L) a := ⟨h.size, h.defers, fun {k y} hk => h.slot (by
  unfold Proofs.YtpoebplhemimmaaGreatDoor.lk at hk ⊢
  cases e1 : e == k with
  | true =>
    have : e = k := by simpa using e1
    subst this
    rw [hne]
    simp only [beq_self_eq_true, cond_true, cond_false] at hk ⊢
    unfold Proofs.YtpoebplhemimmaaGreatDoor.lk; rw [beq_self_eq_true]; exact hk
  | false =>
    rw [e1] at hk
    simp only [cond_false] at hk
    unfold Proofs.YtpoebplhemimmaaGreatDoor.lk at hk
    cases e2 : d == k with
    | true => rw [e2] at hk; exact hk
    | false =>
      rw [e2] at hk
      simp only [cond_false] at hk ⊢
      unfold Proofs.YtpoebplhemimmaaGreatDoor.lk; rw [e1]; exact hk)⟩
/-- Two new variables, in any order. -/
theorem hd_alloc2 {x y : Oper} {d1 d2 : Nat} {t1 t2 : TypeId} {z1 z2 : Value} {H : List (Nat × Obj)} (hF : FrD Ds N L a) (hH : Hp wb w H) (hgx : x.guard = none) (hdx : x.dst = some d1) (hd1 : Nat.blt d1 N = true) (hox : x.op = .alloc t1) (hzx : ZV P t1 z1)
    (hgy : y.guard = none) (hdy : y.dst = some d2) (hd2 : Nat.blt d2 N = true) (hoy : y.op = .alloc t2) (hzy : ZV P t2 z2) (hne : (d1 == d2) = false)
    (k : ∀ a w' g1 g2, Hp wb w' ((g2, .cells z2.cells t2 (0, 0)) :: (g1, .cells z1.cells t1 (0, 0)) :: H) → Ext w w' → FrD Ds N ((d2, .pointer (some ⟨g2, 0, none⟩)) :: (d1, .pointer (some ⟨g1, 0, none⟩)) :: L) a → wpPlan P ops Q wb rest a w') :
    wpPlan P ops Q wb (.t x y :: rest) a w := by
  constructor
  · refine ls_alloc hF hH hgx hdx hd1 hox hzx fun a1 w1 g1 hH1 hE1 hF1 => wpList_nil ⟨hH1.below, ?_⟩
    exact ls_alloc hF1 hH1 hgy hdy hd2 hoy hzy fun a2 w2 g2 hH2 hE2 hF2 => wpList_nil ⟨hH2.below, k a2 w2 g1 g2 hH2 (hE1.trans hE2) hF2⟩
  · refine ls_alloc hF hH hgy hdy hd2 hoy hzy fun a1 w1 g2 hH1 hE1 hF1 => wpList_nil ⟨hH1.below, ?_⟩
    exact ls_alloc hF1 hH1 hgx hdx hd1 hox hzx fun a2 w2 g1 hH2 hE2 hF2 => wpList_nil ⟨hH2.below, k a2 w2 g1 g2 (hH2.perm (List.Perm.swap _ _ _)) (hE1.trans hE2) (hF2.swap hne)⟩
theorem hp_end (h : Q .normal a w) : wpPlan P ops Q wb [] a w := h
end
end Go.Proofs.YtpoebplhemimmaaGreatDoor
namespace Go.Proofs.YtpoebplhemimmaaGreatDoor
variable {Ds : List Deferred}
open Go.RowKit
set_option linter.unusedVariables false
set_option linter.unusedSimpArgs false

abbrev Hp.S {w0 w : World} {H : List (Nat × Obj)} (_ : Hp w0 w H) : World → Prop := fun w => Hp w0 w H
/-- What is thrown leaves some slots and the deferred calls as they were. -/
def OnlyP (Ds : List Deferred) (N : Nat) (Lp : List (Nat × Value)) (Q : Exit → Act → World → Prop) : Exit → Act → World → Prop := fun e a w => match e with
  | .normal => Q .normal a w
  | .panic c => FrD Ds N Lp a ∧ ∀ a', FrD Ds N Lp a' → Q (.panic c) a' w
  | _ => False
def HdP (Ds : List Deferred) (N : Nat) (Lp : List (Nat × Value)) (S : World → Prop) (Q : Exit → Act → World → Prop) (K : Act → World → Prop) : Exit → Act → World → Prop := fun e a w => match e with
  | .normal => S w ∧ K a w
  | .panic c => FrD Ds N Lp a ∧ ∀ a', FrD Ds N Lp a' → Q (.panic c) a' w
  | _ => False

section
variable {P : Program} {ops : Array Oper} {md : Region.Mode} {Q : Exit → Act → World → Prop} {S : World → Prop} {N : Nat} {Lp : List (Nat × Value)}

theorem not_letsOutP : ¬ LetsOut (OnlyP Ds N Lp Q) := fun ⟨_, _, h⟩ => h
theorem wp_onlyP {o : Oper} {a : Act} {w : World} {K K' : Act → World → Prop} (h : ∀ a w, K a w → K' a w) (hh : o.wp P a w K (OnlyP Ds N Lp Q)) : o.wp P a w K' Q := by
  unfold Oper.wp at *
  generalize (execOp a.eval o).run P w = r at *
  cases r with
  | ok n w' =>
    cases n <;> simp only [Oper.upon] at hh ⊢
    case value u => exact h _ _ hh
    case skip => exact h _ _ hh
    case defer d => exact h _ _ hh
    case enter f args =>
      refine Calls.mono hh fun e w'' he => ?_
      cases e with
      | returned v => exact h _ _ he
      | panicked c => exact he.2 _ he.1
      | outgrown => obtain ⟨_, _, he⟩ := he; exact he.elim
    case row r args => exact Rows.mono hh fun _ _ he => h _ _ he
  | halt x w' => cases x <;> simp only [Oper.upon] at hh ⊢; exact hh.2 _ hh.1
theorem wpOp_onlyP {i : Nat} {a : Act} {w : World} {K K' : Act → World → Prop} (h : ∀ a w, K a w → K' a w) (hh : wpOp P ops (OnlyP Ds N Lp Q) i K a w) : wpOp P ops Q i K' a w := by
  unfold wpOp at *
  split
  · rename_i ho; simp only [ho] at hh; exact h _ _ hh
  · rename_i o ho
    simp only [ho] at hh
    split
    · rename_i hw
      simp only [hw, if_true] at hh
      rcases hh with hh | ⟨_, hh⟩
      · exact .inl (wp_onlyP h hh)
      · exact (not_letsOutP hh).elim
    · rename_i hw
      simp only [hw] at hh
      exact h _ _ hh
theorem wpAny_onlyP : ∀ (fuel : Nat) (listed : Array Bool) (a : Act) (w : World), wpAny P md ops (OnlyP Ds N Lp Q) fuel listed a w → wpAny P md ops Q fuel listed a w
  | 0, _, _, _, h => h
  | fuel + 1, _, _, _, h => ⟨h.1, fun i hi => wpOp_onlyP (fun _ _ => wpAny_onlyP fuel _ _ _) (h.2 i hi)⟩

/-! ### The end: one after the other -/
theorem wpAny_seqP : ∀ (is : List Nat) (listed : Array Bool) (a : Act) (w : World), seqB md ops listed is = true → Region.ready md ops (mark listed is) = [] →
    wpList P ops (OnlyP Ds N Lp Q) (pickL ops.toList is) a w → wpAny P md ops (OnlyP Ds N Lp Q) is.length listed a w
  | [], listed, a, w, _, hr, h => ⟨hr, h⟩
  | i :: is, listed, a, w, hB, hr', h => by
    simp only [seqB, Bool.and_eq_true, beq_iff_eq, decide_eq_true_eq] at hB
    obtain ⟨⟨hr, hi⟩, hB⟩ := hB
    have ho : ops.toList[i]? = some ops[i] := by simp [hi]
    have ho' : ops[i]? = some ops[i] := by simp [hi]
    unfold pickL at h
    rw [ho] at h
    refine ⟨fun h0 => (by rw [h0] at hr; cases hr), fun j hj => ?_⟩
    rw [hr] at hj
    rw [List.mem_singleton.1 hj]
    unfold wpOp
    rw [ho']
    unfold wpList at h
    simp only at h ⊢
    split
    · rename_i hw
      rw [if_pos hw] at h
      rcases h with h | ⟨_, h⟩
      · exact .inl (Oper.wp_mono (fun a w h => wpAny_seqP is _ a w hB hr' h) h)
      · exact (not_letsOutP h).elim
    · rename_i hw
      rw [if_neg hw] at h
      exact wpAny_seqP is _ _ _ hB hr' h

/-! ### The middle: reads of cells that nobody writes till they are read -/
def closedL (md : Region.Mode) (ops : Array Oper) (listed : Array Bool) : Prop := ∀ k o, ops[k]? = some o → listed.getD k false = true → ∀ e ∈ o.after, Region.binds md e = true → listed.getD e.on false = true
theorem closedL.add {listed : Array Bool} {j : Nat} (h : closedL md ops listed) (hj : j ∈ Region.ready md ops listed) : closedL md ops (listed.setIfInBounds j true) := by
  intro k o ho hk e he hb
  obtain ⟨_, oj, hoj, hall⟩ := mem_ready.1 hj
  by_cases hkj : k = j
  · subst hkj
    obtain rfl : o = oj := Option.some.inj (ho.symm.trans hoj)
    exact getD_set_true (hall e he hb)
  · rw [getD_set_ne false (Ne.symm hkj)] at hk
    exact getD_set_true (h k o ho hk e he hb)
def wpAnyK (P : Program) (md : Region.Mode) (ops : Array Oper) (Q : Exit → Act → World → Prop) (S : World → Prop) (LA : Array Bool) (n : Nat) : Nat → Array Bool → Act → World → Prop
  | 0, listed, a, w => listed = LA ∧ wpAny P md ops Q n listed a w
  | fuel + 1, listed, a, w => Region.ready md ops listed ≠ [] ∧ ∀ i ∈ Region.ready md ops listed, wpOp P ops Q i (fun a' w' => S w' ∧ wpAnyK P md ops Q S LA n fuel (listed.setIfInBounds i true) a' w') a w
theorem wpAny_of_K {LA : Array Bool} {n : Nat} : ∀ (fuel : Nat) (listed : Array Bool) (a : Act) (w : World), wpAnyK P md ops Q S LA n fuel listed a w → wpAny P md ops Q (fuel + n) listed a w
  | 0, _, _, _, h => by rw [Nat.zero_add]; exact h.2
  | fuel + 1, _, _, _, h => by
    rw [show fuel + 1 + n = (fuel + n) + 1 by omega]
    exact ⟨fun h0 => absurd h0 h.1, fun i hi => wpOp_mono (fun a' w' h' => wpAny_of_K fuel _ a' w' h'.2) (h.2 i hi)⟩
/-- A read may be taken ahead: it is the last one that is missing, or something that is done waits for it. -/
def lastB (md : Region.Mode) (ops : Array Oper) (LA : Array Bool) (i : Nat) : Bool :=
  ((Region.ready md ops (LA.setIfInBounds i false)).all fun j => j == i) || (List.range ops.size).any fun k => k != i && LA.getD k false && waitsAt md ops k i
theorem wpAnyK_first {LA : Array Bool} {n : Nat} {i : Nat} {oi : Oper} {v : Value} (hi : ops[i]? = some oi) (hsel : ∀ (j : Nat) (o : Oper) cs b, ops[j]? = some o → o.op ≠ .select cs b)
    (hQ : ∀ c a w, Q (.panic c) (a.put oi.dst v) w → Q (.panic c) a w) (hC : lastB md ops LA i = true) :
    ∀ (fuel : Nat) (listed : Array Bool) (a : Act) (w : World),
      (∀ j oj, ops[j]? = some oj → j ≠ i → listed.getD j true = false → (∀ e ∈ oj.after, Region.binds md e = true → e.on ≠ i) → oi.apart ops oj = true) →
      i ∈ Region.ready md ops listed → closedL md ops listed → YieldsIf P ops S oi v a → S w →
      wpAnyK P md ops Q S LA n fuel (listed.setIfInBounds i true) (a.put oi.dst v) w → wpAnyK P md ops Q S LA n (fuel + 1) listed a w := by
  intro fuel
  induction fuel with
  | zero =>
    intro listed a w _ hr hcl hy hS H
    refine ⟨fun h => (by rw [h] at hr; cases hr), fun j hj => ?_⟩
    by_cases hji : j = i
    · subst hji; exact hy.wpOp hi hS ⟨hS, H⟩
    · exfalso
      have h0 := (mem_ready.1 hr).1
      have hlt : i < listed.size := by
        rcases Nat.lt_or_ge i listed.size with h' | h'
        · exact h'
        · simp [Array.getElem?_eq_none h'] at h0
      have hLA : LA = listed.setIfInBounds i true := H.1.symm
      unfold lastB at hC
      rw [Bool.or_eq_true] at hC
      rcases hC with hC | hC
      · have e1 : LA.setIfInBounds i false = listed := by
          rw [hLA]
          apply Array.ext_getElem?
          intro k
          simp only [Array.getElem?_setIfInBounds, Array.size_setIfInBounds]
          by_cases hk : i = k
          · subst hk
            simp [hlt] at h0 ⊢
            exact h0
          · simp [hk]
        rw [e1] at hC
        have := List.all_eq_true.1 hC j hj
        exact hji (by simpa using this)
      · obtain ⟨k, _, hk⟩ := List.any_eq_true.1 hC
        simp only [Bool.and_eq_true, bne_iff_ne] at hk
        obtain ⟨⟨hk1, hk2⟩, hk3⟩ := hk
        unfold waitsAt at hk3
        split at hk3
        · rename_i o ho
          obtain ⟨e, he, hb, heo⟩ := waits_spec hk3
          rw [hLA, getD_set_ne false (Ne.symm hk1)] at hk2
          have := hcl k o ho hk2 e he hb
          rw [heo] at this
          simp [hlt] at h0 this
          rw [h0] at this; cases this
        · cases hk3
  | succ fuel ih =>
    intro listed a w hfree hr hcl hy hS H
    refine ⟨fun h => (by rw [h] at hr; cases hr), fun j hj => ?_⟩
    by_cases hji : j = i
    · subst hji; exact hy.wpOp hi hS ⟨hS, H⟩
    · have h1 := H.2 j (ready_mono hj hji)
      obtain ⟨hjun, oj, hoj, hall⟩ := mem_ready.1 hj
      have hnot : ∀ e ∈ oj.after, Region.binds md e = true → e.on ≠ i := fun e he hb heq => by
        have h1 := hall e he hb
        have h0 := (mem_ready.1 hr).1
        rw [heq] at h1
        rcases Nat.lt_or_ge i listed.size with h' | h'
        · simp [h'] at h0 h1; rw [h0] at h1; cases h1
        · simp [Array.getElem?_eq_none h'] at h1
      have h2 := wpOp_putIf hoj (hfree j oj hoj hji hjun hnot) (fun cs b => hsel i oi cs b hi) (fun cs b => hsel j oj cs b hoj) hQ hy h1
      have hfree' : ∀ k ok, ops[k]? = some ok → k ≠ i → (listed.setIfInBounds j true).getD k true = false →
          (∀ e ∈ ok.after, Region.binds md e = true → e.on ≠ i) → oi.apart ops ok = true := fun k ok hk hki hun hno => by
        refine hfree k ok hk hki ?_ hno
        by_cases hjk : j = k
        · subst hjk; exact hjun
        · rw [getD_set_ne true hjk] at hun; exact hun
      refine wpOp_mono (fun a' w' h3 => ⟨h3.2.1, ih (listed.setIfInBounds j true) a' w' hfree' (ready_mono hr (Ne.symm hji)) (hcl.add hj) h3.1 h3.2.1 ?_⟩) h2
      rw [Array.setIfInBounds_comm _ _ hji]
      exact h3.2.2
def planK (md : Region.Mode) (ops : Array Oper) (LA : Array Bool) : Array Bool → List PStep → Bool
  | listed, [] => listed.toList == LA.toList
  | listed, .p i :: r => (Region.ready md ops listed).contains i && Region.free md ops listed i && lastB md ops LA i && planK md ops LA (listed.setIfInBounds i true) r
  | listed, .o i :: r => (Region.ready md ops listed == [i]) && (decide (i < ops.size)) && planK md ops LA (listed.setIfInBounds i true) r
  | _, .t _ _ :: _ => false
/-- What comes behind the reads: copies of what is known, in any row, and what comes alone. -/
def wpTl (P : Program) (ops : Array Oper) (Ds : List Deferred) (N : Nat) (Lp : List (Nat × Value)) (Q : Exit → Act → World → Prop) (tl : List Oper) : List QStep → Act → World → Prop
  | [], a, w => wpList P ops (OnlyP Ds N Lp Q) tl a w
  | .p o :: r, a, w => ∃ v, Yields P ops o v a ∧ wpTl P ops Ds N Lp Q tl r (a.put o.dst v) w
  | .o o :: r, a, w => wpList P ops (HdP Ds N Lp (fun _ => True) Q (wpTl P ops Ds N Lp Q tl r)) [o] a w
  | .t _ _ :: _, _, _ => False
def tlB (md : Region.Mode) (ops : Array Oper) (tl : List Nat) : Array Bool → List PStep → Bool
  | listed, [] => seqB md ops listed tl && (Region.ready md ops (mark listed tl)).isEmpty
  | listed, .p i :: r => (Region.ready md ops listed).contains i && Region.free md ops listed i && tlB md ops tl (listed.setIfInBounds i true) r
  | listed, .o i :: r => (Region.ready md ops listed == [i]) && (decide (i < ops.size)) && tlB md ops tl (listed.setIfInBounds i true) r
  | _, .t _ _ :: _ => false
def wpPlanS (P : Program) (ops : Array Oper) (Ds : List Deferred) (N : Nat) (Lp : List (Nat × Value)) (Q : Exit → Act → World → Prop) (S : World → Prop) (tl : Act → World → Prop) : List QStep → Act → World → Prop
  | [], a, w => tl a w
  | .p o :: r, a, w => ∃ v, YieldsIf P ops S o v a ∧ wpPlanS P ops Ds N Lp Q S tl r (a.put o.dst v) w
  | .o o :: r, a, w => wpList P ops (HdP Ds N Lp S Q (wpPlanS P ops Ds N Lp Q S tl r)) [o] a w
  | .t _ _ :: _, _, _ => False
theorem wp_hdp {o : Oper} {a : Act} {w : World} {K : Act → World → Prop} {K' : Act → World → Prop} (h : ∀ a w, K' a w → S w ∧ K a w) (hh : o.wp P a w K' (HdP Ds N Lp S Q K)) : o.wp P a w (fun a w => S w ∧ K a w) (OnlyP Ds N Lp Q) := by
  unfold Oper.wp at *
  generalize (execOp a.eval o).run P w = r at *
  cases r with
  | ok n w' =>
    cases n <;> simp only [Oper.upon] at hh ⊢
    case value u => exact h _ _ hh
    case skip => exact h _ _ hh
    case defer d => exact h _ _ hh
    case enter f args =>
      refine Calls.mono hh fun e w'' he => ?_
      cases e with
      | returned v => exact h _ _ he
      | panicked c => exact he
      | outgrown => obtain ⟨_, _, he⟩ := he; exact he.elim
    case row r args => exact Rows.mono hh fun _ _ he => h _ _ he
  | halt x w' => cases x <;> simp only [Oper.upon] at hh ⊢; exact hh
theorem wpOp_hdp {i : Nat} {o : Oper} {a : Act} {w : World} {K K' : Act → World → Prop} (ho : ops[i]? = some o) (hk : ∀ a w, S w → K a w → K' a w) (h : wpList P ops (HdP Ds N Lp S Q K) [o] a w) :
    wpOp P ops (OnlyP Ds N Lp Q) i (fun a w => S w ∧ K' a w) a w := by
  unfold wpOp
  rw [ho]
  unfold wpList at h
  simp only at h ⊢
  split
  · rename_i hw
    rw [if_pos hw] at h
    rcases h with h | ⟨_, _, _, h⟩
    · exact .inl (Oper.wp_mono (fun a w h => ⟨h.1, hk a w h.1 h.2⟩) (wp_hdp (fun a w h => h) h))
    · exact h.elim
  · rename_i hw
    rw [if_neg hw] at h
    exact ⟨h.1, hk _ _ h.1 h.2⟩
def keepsB (Lp : List (Nat × Value)) : List Oper → Bool
  | [] => true
  | o :: l => (match o.dst with
    | some d => (lk Lp d).isNone
    | none => true) && keepsB Lp l
theorem keepsB_get {Lp : List (Nat × Value)} : ∀ {l : List Oper} {i : Nat} {o : Oper}, keepsB Lp l = true → l[i]? = some o → ∀ d, o.dst = some d → lk Lp d = none
  | [], i, o, _, hi, _, _ => by simp at hi
  | x :: l, i, o, h, hi, d, hd => by
    simp only [keepsB, Bool.and_eq_true] at h
    cases i with
    | zero =>
      simp at hi; subst hi
      rw [hd] at h
      simpa using h.1
    | succ i => exact keepsB_get h.2 (by simpa using hi) d hd
theorem FrD.unput {a : Act} {d : Option Nat} {v : Value} (h : FrD Ds N Lp (a.put d v)) (hd : ∀ k, d = some k → Proofs.YtpoebplhemimmaaGreatDoor.lk Lp k = none) : FrD Ds N Lp a := by
  cases d with
  | none => exact h
  | some d =>
    refine ⟨by have := h.size; simpa [Act.put] using this, h.defers, fun {k u} hk => ?_⟩
    have hne : d ≠ k := fun e => by subst e; rw [hd d rfl] at hk; cases hk
    have := h.slot hk
    simp only [Act.put, Array.getElem?_setIfInBounds] at this
    rwa [if_neg hne] at this
theorem onlyP_put {o : Oper} {v : Value} (hd : ∀ k, o.dst = some k → lk Lp k = none) : ∀ c a w, OnlyP Ds N Lp Q (.panic c) (a.put o.dst v) w → OnlyP Ds N Lp Q (.panic c) a w := fun _ _ _ h => ⟨h.1.unput hd, h.2⟩
theorem wpAny_tlP (hs : Region.noSelect ops = true) (hL : keepsB Lp ops.toList = true) {tl : List Nat} : ∀ (is : List PStep) (listed : Array Bool) (a : Act) (w : World), tlB md ops tl listed is = true →
    wpTl P ops Ds N Lp Q (pickL ops.toList tl) (pickP ops.toList is) a w → wpAny P md ops (OnlyP Ds N Lp Q) (lenP is + tl.length) listed a w
  | [], listed, a, w, hB, h => by
    simp only [tlB, Bool.and_eq_true, List.isEmpty_iff] at hB
    rw [lenP, Nat.zero_add]
    exact wpAny_seqP tl listed a w hB.1 hB.2 h
  | .p i :: is, listed, a, w, hB, h => by
    simp only [tlB, Bool.and_eq_true] at hB
    obtain ⟨⟨h1, h2⟩, hB⟩ := hB
    obtain ⟨_, o, ho, _⟩ := mem_ready.1 (List.contains_iff_mem.1 h1)
    have ho' : ops.toList[i]? = some o := by simpa using ho
    unfold pickP at h
    rw [ho'] at h
    obtain ⟨v, hy, h⟩ := h
    rw [show lenP (PStep.p i :: is) + tl.length = (lenP is + tl.length) + 1 from by show lenP is + 1 + tl.length = _; omega]
    exact wpAny_take ho hs h2 h1 (onlyP_put (keepsB_get hL ho')) hy (wpAny_tlP hs hL is _ _ w hB h)
  | .o i :: is, listed, a, w, hB, h => by
    simp only [tlB, Bool.and_eq_true, beq_iff_eq, decide_eq_true_eq] at hB
    obtain ⟨⟨hr, hi⟩, hB⟩ := hB
    have ho : ops.toList[i]? = some ops[i] := by simp [hi]
    have ho' : ops[i]? = some ops[i] := by simp [hi]
    unfold pickP at h
    rw [ho] at h
    rw [show lenP (PStep.o i :: is) + tl.length = (lenP is + tl.length) + 1 from by show lenP is + 1 + tl.length = _; omega]
    refine ⟨fun h0 => (by rw [hr] at h0; cases h0), fun j hj => ?_⟩
    rw [hr] at hj
    rw [List.mem_singleton.1 hj]
    exact wpOp_mono (fun _ _ h => h.2) (wpOp_hdp ho' (fun a w _ hh => wpAny_tlP hs hL is _ a w hB hh) h)
theorem pickP_p {l : List Oper} {i : Nat} {o : Oper} {is : List PStep} (h : l[i]? = some o) : pickP l (.p i :: is) = .p o :: pickP l is := by rw [pickP, h]
theorem pickP_o {l : List Oper} {i : Nat} {o : Oper} {is : List PStep} (h : l[i]? = some o) : pickP l (.o i :: is) = .o o :: pickP l is := by rw [pickP, h]
theorem wpAnyK_plan (hs : Region.noSelect ops = true) (hL : keepsB Lp ops.toList = true) {LA : Array Bool} {md2 : List PStep} {tl : List Nat} (hT : tlB md ops tl LA md2 = true) : ∀ (is : List PStep) (listed : Array Bool) (a : Act) (w : World),
    planK md ops LA listed is = true → closedL md ops listed → S w → wpPlanS P ops Ds N Lp Q S (wpTl P ops Ds N Lp Q (pickL ops.toList tl) (pickP ops.toList md2)) (pickP ops.toList is) a w → wpAnyK P md ops (OnlyP Ds N Lp Q) S LA (lenP md2 + tl.length) (lenP is) listed a w
  | [], listed, a, w, hB, _, _, h => by
    have e : listed = LA := by
      have : listed.toList = LA.toList := by simpa [planK] using hB
      exact Array.ext' this
    subst e
    exact ⟨rfl, wpAny_tlP hs hL md2 listed a w hT h⟩
  | .p i :: is, listed, a, w, hB, hcl, hS, h => by
    simp only [planK, Bool.and_eq_true] at hB
    obtain ⟨⟨⟨h1, h2⟩, h3⟩, hB⟩ := hB
    have hri := List.contains_iff_mem.1 h1
    obtain ⟨_, o, ho, _⟩ := mem_ready.1 hri
    have ho' : ops.toList[i]? = some o := by simpa using ho
    rw [pickP_p ho'] at h
    obtain ⟨v, hy, h⟩ := h
    exact wpAnyK_first ho (Region.noSelect_spec hs) (onlyP_put (keepsB_get hL ho')) h3 _ listed a w (Region.free_spec ho h2) hri hcl hy hS (wpAnyK_plan hs hL hT is _ _ w hB (hcl.add hri) hS h)
  | .o i :: is, listed, a, w, hB, hcl, hS, h => by
    simp only [planK, Bool.and_eq_true, beq_iff_eq, decide_eq_true_eq] at hB
    obtain ⟨⟨hr, hi⟩, hB⟩ := hB
    have ho : ops.toList[i]? = some ops[i] := by simp [hi]
    have ho' : ops[i]? = some ops[i] := by simp [hi]
    rw [pickP_o ho] at h
    have hri : i ∈ Region.ready md ops listed := by rw [hr]; exact List.mem_singleton.2 rfl
    refine ⟨fun h0 => (by rw [hr] at h0; cases h0), fun j hj => ?_⟩
    rw [hr] at hj
    rw [List.mem_singleton.1 hj]
    exact wpOp_hdp ho' (fun a w he hh => wpAnyK_plan hs hL hT is _ a w hB (hcl.add hri) he hh) h
/-- What reads nothing of the world, taken ahead. -/
theorem wpAny_pullsP (hs : Region.noSelect ops = true) (hL : keepsB Lp ops.toList = true) {fuel : Nat} {w : World} : ∀ (is : List Nat) (listed : Array Bool) (a : Act), pullB md ops listed is = true → closedL md ops listed →
    wpPull P ops (fun a' => closedL md ops (mark listed is) → wpAny P md ops (OnlyP Ds N Lp Q) fuel (mark listed is) a' w) (pickL ops.toList is) a → wpAny P md ops (OnlyP Ds N Lp Q) (is.length + fuel) listed a w
  | [], _, _, _, hcl, h => by simpa [pickL, mark, wpPull] using h hcl
  | i :: is, listed, a, hB, hcl, h => by
    simp only [pullB, Bool.and_eq_true] at hB
    obtain ⟨⟨h1, h2⟩, hB⟩ := hB
    have hri := List.contains_iff_mem.1 h1
    obtain ⟨_, o, ho, _⟩ := mem_ready.1 hri
    have ho' : ops.toList[i]? = some o := by simpa using ho
    unfold pickL at h
    rw [ho'] at h
    obtain ⟨v, hy, h⟩ := h
    rw [show (i :: is).length + fuel = (is.length + fuel) + 1 by simp [Nat.add_assoc, Nat.add_comm, Nat.add_left_comm]]
    exact wpAny_take ho hs h2 h1 (onlyP_put (keepsB_get hL ho')) hy (wpAny_pullsP hs hL is _ _ hB (hcl.add hri) h)
theorem closedL_start (n : Nat) : closedL md ops (Array.replicate n false) := by
  intro k o _ hk
  exfalso
  rw [Array.getD_eq_getD_getElem?, Array.getElem?_replicate] at hk
  split at hk <;> simp at hk
end
def plansB (ops : Array Oper) (pl : List Nat) (plan md2 : List PStep) (tl : List Nat) (all : List Nat) : Bool :=
  Region.noSelect ops && pullB .any ops (Array.replicate ops.size false) pl && planK .any ops (mark (Array.replicate ops.size false) all) (mark (Array.replicate ops.size false) pl) plan &&
    tlB .any ops tl (mark (Array.replicate ops.size false) all) md2 && decide (pl.length + (lenP plan + (lenP md2 + tl.length)) = ops.size)

section
variable {P : Program} {Q : Exit → Act → World → Prop} {a : Act} {w : World} {N dd : Nat} {L Lp : List (Nat × Value)} {ops : Array Oper} {rest : List QStep} {o : Oper} {v : Value} {S : World → Prop} {tl : List Oper} {T : Act → World → Prop}
/-- Behind what reads nothing. -/
def PlGo (P : Program) (l : List Oper) (Ds : List Deferred) (N : Nat) (Lp : List (Nat × Value)) (Q : Exit → Act → World → Prop) (S : World → Prop) (plan md2 : List PStep) (tl : List Nat) (w : World) (a : Act) : Prop :=
  ∀ w', Ext w w' → S w' ∧ wpPlanS P l.toArray Ds N Lp Q S (wpTl P l.toArray Ds N Lp Q (pickL l tl) (pickP l md2)) (pickP l plan) a w'
theorem c_planF {id : Nat} {l : List Oper} (hF : FrD Ds N L a) (ks : List Nat) (pl : List Nat) (plan md2 : List PStep) (tl all : List Nat) (S : World → Prop) (hm : P.follows .mixedOrders = true) (hB : plansB l.toArray pl plan md2 tl all = true) (hL : keepsB (sel L ks) l = true)
    (h : wpPull P l.toArray (PlGo P l Ds N (sel L ks) Q S plan md2 tl w) (pickL l pl) a) : (Code.region id l.toArray true).wp P Q a w := by
  simp only [plansB, Bool.and_eq_true, decide_eq_true_eq] at hB
  obtain ⟨⟨⟨⟨h1, h2⟩, h3⟩, h4⟩, h6⟩ := hB
  have hx : Ext w { w with drawn := w.drawn + 1 } := ⟨rfl, rfl, rfl, Nat.le_refl _, fun _ _ => rfl⟩
  refine wp_region_any hm (wpAny_onlyP (Ds := Ds) (N := N) (Lp := sel L ks) _ _ _ _ ?_)
  have := wpAny_pullsP (Ds := Ds) (N := N) (Lp := sel L ks) (Q := Q) (P := P) (md := .any) h1 (by simpa using hL) (fuel := lenP plan + (lenP md2 + tl.length)) (w := { w with drawn := w.drawn + 1 }) pl (Array.replicate l.toArray.size false) a h2 (closedL_start _)
    (wpPull_mono (K := PlGo P l Ds N (sel L ks) Q S plan md2 tl w) _ _ (fun a' hg hcl => by
      obtain ⟨hS, hg⟩ := hg _ hx
      exact wpAny_of_K _ _ _ _ (wpAnyK_plan h1 (by simpa using hL) h4 plan _ _ _ h3 hcl hS (by simpa using hg))) (by simpa using h))
  rwa [h6] at this
/-- The start of what is read. -/
theorem pl_start {l : List Oper} {plan md2 : List PStep} {tl : List Nat} (h : ∀ w', Ext w w' → S w' ∧ wpPlanS P l.toArray Ds N Lp Q S (wpTl P l.toArray Ds N Lp Q (pickL l tl) (pickP l md2)) (pickP l plan) a w') : PlGo P l Ds N Lp Q S plan md2 tl w a := h
theorem pp {Lq : List (Nat × Value)} (hF : FrD Ds N L a) (hg : o.guard = none) (hdst : o.dst = some dd) (hd : Nat.blt dd N = true) (hn : noSkipL o.op = true) (hr : ∀ w, S w → Does P o a w v w)
    (k : ∀ a', FrD Ds N ((dd, v) :: L) a' → wpPlanS P ops Ds N Lq Q S T rest a' w) : wpPlanS P ops Ds N Lq Q S T (.p o :: rest) a w :=
  ⟨v, .inl ⟨by simp [Region.wanted, hg], fun w hS => (hr w hS).resolve_right fun h => noSkipL_spec hn h.1⟩, k _ (by rw [hdst]; exact hF.put _ hd)⟩
theorem pp_nil {Lq : List (Nat × Value)} {x : Operand} {ad : Addr} (hF : FrD Ds N L a) (hg : o.guard = none) (hdst : o.dst = some dd) (hd : Nat.blt dd N = true) (ho : o.op = .nilCheck x) (hx : ev L x = some (.pointer (some ad)))
    (k : ∀ a', FrD Ds N ((dd, .pointer (some ad)) :: L) a' → wpPlanS P ops Ds N Lq Q S T rest a' w) : wpPlanS P ops Ds N Lq Q S T (.p o :: rest) a w :=
  ⟨.pointer (some ad), .inl ⟨by simp [Region.wanted, hg], fun w _ => by unfold execOp; simp [ho, hF.ev hx]⟩, k _ (by rw [hdst]; exact hF.put _ hd)⟩
theorem po {Lq : List (Nat × Value)} (h : wpList P ops (HdP Ds N Lq S Q (wpPlanS P ops Ds N Lq Q S T rest)) [o] a w) : wpPlanS P ops Ds N Lq Q S T (.o o :: rest) a w := h
theorem po_end {Lq : List (Nat × Value)} {K : Act → World → Prop} (hS : S w) (h : K a w) : HdP Ds N Lq S Q K .normal a w := ⟨hS, h⟩
theorem pt {Lq : List (Nat × Value)} (h : T a w) : wpPlanS P ops Ds N Lq Q S T [] a w := h
theorem tp {Lq : List (Nat × Value)} (hF : FrD Ds N L a) (hg : o.guard = none) (hdst : o.dst = some dd) (hd : Nat.blt dd N = true) (hn : noSkip o.op = true) (hr : ∀ w, Does P o a w v w)
    (k : ∀ a', FrD Ds N ((dd, v) :: L) a' → wpTl P ops Ds N Lq Q tl rest a' w) : wpTl P ops Ds N Lq Q tl (.p o :: rest) a w :=
  ⟨v, .inl ⟨by simp [Region.wanted, hg], fun w => (hr w).resolve_right fun h => noSkip_spec hn h.1⟩, k _ (by rw [hdst]; exact hF.put _ hd)⟩
theorem tp_nil {Lq : List (Nat × Value)} {x : Operand} {ad : Addr} (hF : FrD Ds N L a) (hg : o.guard = none) (hdst : o.dst = some dd) (hd : Nat.blt dd N = true) (ho : o.op = .nilCheck x) (hx : ev L x = some (.pointer (some ad)))
    (k : ∀ a', FrD Ds N ((dd, .pointer (some ad)) :: L) a' → wpTl P ops Ds N Lq Q tl rest a' w) : wpTl P ops Ds N Lq Q tl (.p o :: rest) a w :=
  ⟨.pointer (some ad), .inl ⟨by simp [Region.wanted, hg], fun w => by unfold execOp; simp [ho, hF.ev hx]⟩, k _ (by rw [hdst]; exact hF.put _ hd)⟩
theorem to {Lq : List (Nat × Value)} (h : wpList P ops (HdP Ds N Lq (fun _ => True) Q (wpTl P ops Ds N Lq Q tl rest)) [o] a w) : wpTl P ops Ds N Lq Q tl (.o o :: rest) a w := h
theorem to_end {Lq : List (Nat × Value)} {K : Act → World → Prop} (h : K a w) : HdP Ds N Lq (fun _ => True) Q K .normal a w := ⟨trivial, h⟩
theorem tt {Lq : List (Nat × Value)} (h : wpList P ops (OnlyP Ds N Lq Q) tl a w) : wpTl P ops Ds N Lq Q tl [] a w := h
theorem pt_end {Lq : List (Nat × Value)} (h : Q .normal a w) : wpList P ops (OnlyP Ds N Lq Q) [] a w := wpList_nil h
end
end Go.Proofs.YtpoebplhemimmaaGreatDoor
