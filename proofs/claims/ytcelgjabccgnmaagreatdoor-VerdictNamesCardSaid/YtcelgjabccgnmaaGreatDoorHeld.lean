/-
  Regions that draw their order, and read what nobody writes: reads are taken ahead, what writes comes one after the other. Nothing is claimed here.
-/
import Derived.Test.YtcelgjabccgnmaaGreatDoorFlow
import Derived.OrdersHeld
namespace Go.Proofs.YtcelgjabccgnmaaGreatDoor
open Go.RowKit
set_option linter.unusedVariables false
set_option linter.unusedSimpArgs false

theorem Ext.below {w w' : World} (h : Ext w w') : Ext w w' := h
def noSkipL : Op → Bool
  | .load .. => true
  | op => noSkip op
theorem noSkipL_spec {P : Program} {ρ : Operand → Value} {o : Oper} (hn : noSkipL o.op = true) {w w' : World} : (execOp ρ o).run P w ≠ .ok .skip w' := by
  cases ho : o.op
  case load t x =>
    unfold execOp
    simp only [ho]
    exact bind_noSkip
  all_goals exact noSkip_spec (by rw [ho] at hn ⊢; exact hn)
section
variable {P : Program} {ops : Array Oper} {md : Region.Mode} {Q : Exit → Act → World → Prop} {wb : World}

/-- A step of a plan: a read that is taken ahead, what comes alone, two that come in any order. -/
inductive PStep where
  | p (i : Nat)
  | o (i : Nat)
  | t (i j : Nat)
inductive QStep where
  | p (o : Oper)
  | o (o : Oper)
  | t (x y : Oper)
def planB (md : Region.Mode) (ops : Array Oper) : Array Bool → List PStep → Bool
  | listed, [] => (Region.ready md ops listed).isEmpty
  | listed, .p i :: r => (Region.ready md ops listed).contains i && Region.free md ops listed i && planB md ops (listed.setIfInBounds i true) r
  | listed, .o i :: r => (Region.ready md ops listed == [i]) && (decide (i < ops.size)) && planB md ops (listed.setIfInBounds i true) r
  | listed, .t i j :: r => (Region.ready md ops listed == [i, j]) && (decide (i < ops.size) && decide (j < ops.size) && decide (i ≠ j)) && (Region.ready md ops (listed.setIfInBounds i true) == [j]) && (Region.ready md ops (listed.setIfInBounds j true) == [i]) &&
      planB md ops ((listed.setIfInBounds i true).setIfInBounds j true) r
def lenP : List PStep → Nat
  | [] => 0
  | .t _ _ :: r => lenP r + 1 + 1
  | _ :: r => lenP r + 1
def pickP (l : List Oper) : List PStep → List QStep
  | [] => []
  | .p i :: is => match l[i]? with
    | some o => .p o :: pickP l is
    | none => pickP l is
  | .o i :: is => match l[i]? with
    | some o => .o o :: pickP l is
    | none => pickP l is
  | .t i j :: is => match l[i]?, l[j]? with
    | some o, some u => .t o u :: pickP l is
    | _, _ => pickP l is
def HdK (wb : World) (K : Act → World → Prop) : Exit → Act → World → Prop := fun e a w => match e with
  | .normal => Ext wb w ∧ K a w
  | _ => False
def wpPlan (P : Program) (ops : Array Oper) (Q : Exit → Act → World → Prop) (wb : World) : List QStep → Act → World → Prop
  | [], a, w => Q .normal a w
  | .p o :: r, a, w => ∃ v, YieldsIf P ops (Ext wb) o v a ∧ wpPlan P ops Q wb r (a.put o.dst v) w
  | .o o :: r, a, w => wpList P ops (HdK wb (wpPlan P ops Q wb r)) [o] a w
  | .t x y :: r, a, w => wpList P ops (HdK wb fun a w => wpList P ops (HdK wb (wpPlan P ops Q wb r)) [y] a w) [x] a w ∧ wpList P ops (HdK wb fun a w => wpList P ops (HdK wb (wpPlan P ops Q wb r)) [x] a w) [y] a w

theorem wp_hdk {o : Oper} {a : Act} {w : World} {K : Act → World → Prop} {K' : Act → World → Prop} (h : ∀ a w, K' a w → Ext wb w ∧ K a w) (hh : o.wp P a w K' (HdK wb K)) : o.wp P a w (fun a w => Ext wb w ∧ K a w) (Only Q) := by
  unfold Oper.wp at *
  generalize (execOp a.eval o).run P w = r at *
  cases r with
  | ok n w' =>
    cases n <;> simp only [Oper.upon] at hh ⊢
    case value u => exact h _ _ hh
    case skip => exact h _ _ hh
    case defer d => exact h _ _ hh
    case enter f args =>
      refine Calls.mono hh fun e w'' he => ?_
      cases e with
      | returned v => exact h _ _ he
      | panicked c => exact he.elim
      | outgrown => obtain ⟨_, _, he⟩ := he; exact he.elim
    case row r args => exact Rows.mono hh fun _ _ he => h _ _ he
  | halt x w' => cases x <;> simp only [Oper.upon] at hh ⊢; exact hh.elim

theorem wpOp_hdk {i : Nat} {o : Oper} {a : Act} {w : World} {K K' : Act → World → Prop} (ho : ops[i]? = some o) (hk : ∀ a w, Ext wb w → K a w → K' a w) (h : wpList P ops (HdK wb K) [o] a w) :
    wpOp P ops (Only Q) i (fun a w => Ext wb w ∧ K' a w) a w := by
  unfold wpOp
  rw [ho]
  unfold wpList at h
  simp only at h ⊢
  split
  · rename_i hw
    rw [if_pos hw] at h
    rcases h with h | ⟨_, _, _, h⟩
    · exact .inl (Oper.wp_mono (fun a w h => ⟨h.1, hk a w h.1 h.2⟩) (wp_hdk (fun a w h => h) h))
    · exact h.elim
  · rename_i hw
    rw [if_neg hw] at h
    exact ⟨h.1, hk _ _ h.1 h.2⟩
theorem wpAnyH_plan (hs : Region.noSelect ops = true) : ∀ (is : List PStep) (listed : Array Bool) (a : Act) (w : World), planB md ops listed is = true → Ext wb w →
    wpPlan P ops Q wb (pickP ops.toList is) a w → wpAnyH P md ops (Only Q) (Ext wb) (lenP is) listed a w
  | [], listed, a, w, hB, _, h => ⟨by simpa [planB] using hB, h⟩
  | .p i :: is, listed, a, w, hB, hS, h => by
    simp only [planB, Bool.and_eq_true] at hB
    obtain ⟨⟨h1, h2⟩, hB⟩ := hB
    obtain ⟨_, o, ho, _⟩ := mem_ready.1 (List.contains_iff_mem.1 h1)
    have ho' : ops.toList[i]? = some o := by simpa using ho
    unfold pickP at h
    rw [ho'] at h
    obtain ⟨v, hy, h⟩ := h
    exact wpAnyH_take ho hs h2 h1 (fun _ _ _ h => h) hy hS (wpAnyH_plan hs is _ _ w hB hS h)
  | .o i :: is, listed, a, w, hB, hS, h => by
    simp only [planB, Bool.and_eq_true, beq_iff_eq, decide_eq_true_eq] at hB
    obtain ⟨⟨hr, hi⟩, hB⟩ := hB
    have ho : ops.toList[i]? = some ops[i] := by simp [hi]
    have ho' : ops[i]? = some ops[i] := by simp [hi]
    unfold pickP at h
    rw [ho] at h
    refine ⟨fun h0 => (by rw [hr] at h0; cases h0), fun j hj => ?_⟩
    rw [hr] at hj
    rw [List.mem_singleton.1 hj]
    exact wpOp_hdk ho' (fun a w he hh => wpAnyH_plan hs is _ a w hB he hh) h
  | .t i j :: is, listed, a, w, hB, hS, h => by
    simp only [planB, Bool.and_eq_true, beq_iff_eq, decide_eq_true_eq] at hB
    obtain ⟨⟨⟨⟨hr, ⟨hi, hj⟩, hij⟩, hr1⟩, hr2⟩, hB⟩ := hB
    have ho : ops.toList[i]? = some ops[i] := by simp [hi]
    have ho' : ops[i]? = some ops[i] := by simp [hi]
    have hu : ops.toList[j]? = some ops[j] := by simp [hj]
    have hu' : ops[j]? = some ops[j] := by simp [hj]
    unfold pickP at h
    rw [ho, hu] at h
    have two : ∀ (i j : Nat) (hi : i < ops.size) (hj : j < ops.size), Region.ready md ops (listed.setIfInBounds i true) = [j] → planB md ops ((listed.setIfInBounds i true).setIfInBounds j true) is = true →
        wpList P ops (HdK wb fun a w => wpList P ops (HdK wb (wpPlan P ops Q wb (pickP ops.toList is))) [ops[j]] a w) [ops[i]] a w →
        wpOp P ops (Only Q) i (fun a' w' => Ext wb w' ∧ wpAnyH P md ops (Only Q) (Ext wb) (lenP is + 1) (listed.setIfInBounds i true) a' w') a w := by
      intro i j hi hj hr1 hB h
      have ho' : ops[i]? = some ops[i] := by simp [hi]
      have hu' : ops[j]? = some ops[j] := by simp [hj]
      refine wpOp_hdk ho' (fun a w _ hh => ?_) h
      refine ⟨fun h0 => (by rw [hr1] at h0; cases h0), fun k hk => ?_⟩
      rw [hr1] at hk
      rw [List.mem_singleton.1 hk]
      exact wpOp_hdk hu' (fun a w he hh => wpAnyH_plan hs is _ a w hB he hh) hh
    refine ⟨fun h0 => (by rw [hr] at h0; cases h0), fun k hk => ?_⟩
    rw [hr] at hk
    rcases List.mem_cons.1 hk with rfl | hk
    · exact two k j hi hj hr1 hB h.1
    · rw [List.mem_singleton.1 hk]
      exact two j i hj hi hr2 (by rw [Array.setIfInBounds_comm _ _ (Ne.symm hij)]; exact hB) h.2
end

section
variable {P : Program} {Q : Exit → Act → World → Prop} {a : Act} {w wb : World} {N dd : Nat} {L : List (Nat × Value)} {ops : Array Oper} {rest : List QStep} {o : Oper} {v : Value}
theorem c_held {id : Nat} {l : List Oper} (plan : List PStep) (hm : P.follows .mixedOrders = true) (hB : (Region.noSelect l.toArray && planB .any l.toArray (Array.replicate l.length false) plan && decide (lenP plan = l.length)) = true) (hE : Ext wb w)
    (h : ∀ w', Ext w w' → wpPlan P l.toArray Q wb (pickP l plan) a w') : (Code.region id l.toArray true).wp P Q a w := by
  simp only [Bool.and_eq_true, decide_eq_true_eq] at hB
  obtain ⟨⟨h1, h2⟩, h3⟩ := hB
  have hx : Ext w { w with drawn := w.drawn + 1 } := ⟨rfl, rfl, rfl, Nat.le_refl _, fun _ _ => rfl⟩
  refine wp_region_any hm (wpAny_only _ _ _ _ (wpAny_of_held (S := Ext wb) _ _ _ _ ?_))
  have := wpAnyH_plan (Q := Q) h1 plan (Array.replicate l.toArray.size false) a { w with drawn := w.drawn + 1 } h2 (hE.trans hx) (h _ hx)
  rwa [h3] at this
/-- A read, taken ahead. -/
theorem hp (hF : Fr N L a) (hg : o.guard = none) (hdst : o.dst = some dd) (hd : Nat.blt dd N = true) (hn : noSkipL o.op = true) (hr : ∀ w, Ext wb w → Does P o a w v w)
    (k : ∀ a', Fr N ((dd, v) :: L) a' → wpPlan P ops Q wb rest a' w) : wpPlan P ops Q wb (.p o :: rest) a w :=
  ⟨v, .inl ⟨by simp [Region.wanted, hg], fun w hS => (hr w hS).resolve_right fun h => noSkipL_spec hn h.1⟩, k _ (by rw [hdst]; exact hF.put _ hd)⟩
theorem hp_nil {x : Operand} {ad : Addr} (hF : Fr N L a) (hg : o.guard = none) (hdst : o.dst = some dd) (hd : Nat.blt dd N = true) (ho : o.op = .nilCheck x) (hx : ev L x = some (.pointer (some ad)))
    (k : ∀ a', Fr N ((dd, .pointer (some ad)) :: L) a' → wpPlan P ops Q wb rest a' w) : wpPlan P ops Q wb (.p o :: rest) a w :=
  ⟨.pointer (some ad), .inl ⟨by simp [Region.wanted, hg], fun w _ => by unfold execOp; simp [ho, hF.ev hx]⟩, k _ (by rw [hdst]; exact hF.put _ hd)⟩
/-- What comes alone. -/
theorem hd (h : wpList P ops (HdK wb (wpPlan P ops Q wb rest)) [o] a w) : wpPlan P ops Q wb (.o o :: rest) a w := h
theorem hd_end {K : Act → World → Prop} (hS : Ext wb w) (h : K a w) : HdK wb K .normal a w := ⟨hS, h⟩
theorem Fr.swap {d e : Nat} {u : Value} (h : Fr N ((d, v) :: (e, u) :: L) a) (hne : (d == e) = false) : Fr N ((e, u) :: (d, v) :: L) a := ⟨h.size, h.defers, fun {k y} hk => h.slot (by
  unfold Proofs.YtcelgjabccgnmaaGreatDoor.lk at hk ⊢
  cases e1 : e == k with
  | true =>
    have : e = k := by simpa using e1
    subst this
    rw [hne]
    simp only [beq_self_eq_true, cond_true, cond_false] at hk ⊢
    unfold Proofs.YtcelgjabccgnmaaGreatDoor.lk; rw [beq_self_eq_true]; exact hk
  | false =>
    rw [e1] at hk
    simp only [cond_false] at hk
    unfold Proofs.YtcelgjabccgnmaaGreatDoor.lk at hk
    cases e2 : d == k with
    | true => rw [e2] at hk; exact hk
    | false =>
      rw [e2] at hk
      simp only [cond_false] at hk ⊢
      unfold Proofs.YtcelgjabccgnmaaGreatDoor.lk; rw [e1]; exact hk)⟩
/-- Two new variables, in any order. -/
theorem hd_alloc2 {x y : Oper} {d1 d2 : Nat} {t1 t2 : TypeId} {z1 z2 : Value} {H : List (Nat × Obj)} (hF : Fr N L a) (hH : Hp wb w H) (hgx : x.guard = none) (hdx : x.dst = some d1) (hd1 : Nat.blt d1 N = true) (hox : x.op = .alloc t1) (hzx : ZV P t1 z1)
    (hgy : y.guard = none) (hdy : y.dst = some d2) (hd2 : Nat.blt d2 N = true) (hoy : y.op = .alloc t2) (hzy : ZV P t2 z2) (hne : (d1 == d2) = false)
    (k : ∀ a w' g1 g2, Hp wb w' ((g2, .cells z2.cells t2 (0, 0)) :: (g1, .cells z1.cells t1 (0, 0)) :: H) → Ext w w' → Fr N ((d2, .pointer (some ⟨g2, 0, none⟩)) :: (d1, .pointer (some ⟨g1, 0, none⟩)) :: L) a → wpPlan P ops Q wb rest a w') :
    wpPlan P ops Q wb (.t x y :: rest) a w := by
  constructor
  · refine ls_alloc hF hH hgx hdx hd1 hox hzx fun a1 w1 g1 hH1 hE1 hF1 => wpList_nil ⟨hH1.below, ?_⟩
    exact ls_alloc hF1 hH1 hgy hdy hd2 hoy hzy fun a2 w2 g2 hH2 hE2 hF2 => wpList_nil ⟨hH2.below, k a2 w2 g1 g2 hH2 (hE1.trans hE2) hF2⟩
  · refine ls_alloc hF hH hgy hdy hd2 hoy hzy fun a1 w1 g2 hH1 hE1 hF1 => wpList_nil ⟨hH1.below, ?_⟩
    exact ls_alloc hF1 hH1 hgx hdx hd1 hox hzx fun a2 w2 g1 hH2 hE2 hF2 => wpList_nil ⟨hH2.below, k a2 w2 g1 g2 (hH2.perm (List.Perm.swap _ _ _)) (hE1.trans hE2) (hF2.swap hne)⟩
theorem hp_end (h : Q .normal a w) : wpPlan P ops Q wb [] a w := h
end
end Go.Proofs.YtcelgjabccgnmaaGreatDoor
