/-
  Regions that draw their order, and read what nobody writes: reads are taken ahead, what writes comes one after the other. Nothing is claimed here.
-/
import Derived.Test.YtcelgjabccgnmaaGreatDoorFlow
import Derived.OrdersHeld
namespace Go.Proofs.YtcelgjabccgnmaaGreatDoor
open Go.RowKit
set_option linter.unusedVariables false
set_option linter.unusedSimpArgs false

theorem Ext.below {w w' : World} (h : Ext w w') : Ext w w' := h
def noSkipL : Op → Bool
  | .load .. => true
  | op => noSkip op
theorem noSkipL_spec {P : Program} {ρ : Operand → Value} {o : Oper} (hn : noSkipL o.op = true) {w w' : World} : (execOp ρ o).run P w ≠ .ok .skip w' := by
  cases ho : o.op
  case load t x =>
    unfold execOp
    simp only [ho]
    exact bind_noSkip
  all_goals exact noSkip_spec (by rw [ho] at hn ⊢; exact hn)
section
variable {P : Program} {ops : Array Oper} {md : Region.Mode} {Q : Exit → Act → World → Prop} {wb : World}

def planB (md : Region.Mode) (ops : Array Oper) : Array Bool → List (Bool × Nat) → Bool
  | listed, [] => (Region.ready md ops listed).isEmpty
  | listed, (true, i) :: r => (Region.ready md ops listed).contains i && Region.free md ops listed i && planB md ops (listed.setIfInBounds i true) r
  | listed, (false, i) :: r => (Region.ready md ops listed == [i]) && (decide (i < ops.size)) && planB md ops (listed.setIfInBounds i true) r
def pickP (l : List Oper) : List (Bool × Nat) → List (Bool × Oper)
  | [] => []
  | (b, i) :: is => match l[i]? with
    | some o => (b, o) :: pickP l is
    | none => pickP l is
def HdK (wb : World) (K : Act → World → Prop) : Exit → Act → World → Prop := fun e a w => match e with
  | .normal => Ext wb w ∧ K a w
  | _ => False
def wpPlan (P : Program) (ops : Array Oper) (Q : Exit → Act → World → Prop) (wb : World) : List (Bool × Oper) → Act → World → Prop
  | [], a, w => Q .normal a w
  | (true, o) :: r, a, w => ∃ v, YieldsIf P ops (Ext wb) o v a ∧ wpPlan P ops Q wb r (a.put o.dst v) w
  | (false, o) :: r, a, w => wpList P ops (HdK wb (wpPlan P ops Q wb r)) [o] a w

theorem wp_hdk {o : Oper} {a : Act} {w : World} {K : Act → World → Prop} {K' : Act → World → Prop} (h : ∀ a w, K' a w → Ext wb w ∧ K a w) (hh : o.wp P a w K' (HdK wb K)) : o.wp P a w (fun a w => Ext wb w ∧ K a w) (Only Q) := by
  unfold Oper.wp at *
  generalize (execOp a.eval o).run P w = r at *
  cases r with
  | ok n w' =>
    cases n <;> simp only [Oper.upon] at hh ⊢
    case value u => exact h _ _ hh
    case skip => exact h _ _ hh
    case defer d => exact h _ _ hh
    case enter f args =>
      refine Calls.mono hh fun e w'' he => ?_
      cases e with
      | returned v => exact h _ _ he
      | panicked c => exact he.elim
      | outgrown => obtain ⟨_, _, he⟩ := he; exact he.elim
    case row r args => exact Rows.mono hh fun _ _ he => h _ _ he
  | halt x w' => cases x <;> simp only [Oper.upon] at hh ⊢; exact hh.elim

theorem wpAnyH_plan (hs : Region.noSelect ops = true) : ∀ (is : List (Bool × Nat)) (listed : Array Bool) (a : Act) (w : World), planB md ops listed is = true → Ext wb w →
    wpPlan P ops Q wb (pickP ops.toList is) a w → wpAnyH P md ops (Only Q) (Ext wb) is.length listed a w
  | [], listed, a, w, hB, _, h => ⟨by simpa [planB] using hB, h⟩
  | (true, i) :: is, listed, a, w, hB, hS, h => by
    simp only [planB, Bool.and_eq_true] at hB
    obtain ⟨⟨h1, h2⟩, hB⟩ := hB
    obtain ⟨_, o, ho, _⟩ := mem_ready.1 (List.contains_iff_mem.1 h1)
    have ho' : ops.toList[i]? = some o := by simpa using ho
    unfold pickP at h
    rw [ho'] at h
    obtain ⟨v, hy, h⟩ := h
    exact wpAnyH_take ho hs h2 h1 (fun _ _ _ h => h) hy hS (wpAnyH_plan hs is _ _ w hB hS h)
  | (false, i) :: is, listed, a, w, hB, hS, h => by
    simp only [planB, Bool.and_eq_true, beq_iff_eq, decide_eq_true_eq] at hB
    obtain ⟨⟨hr, hi⟩, hB⟩ := hB
    have ho : ops.toList[i]? = some ops[i] := by simp [hi]
    have ho' : ops[i]? = some ops[i] := by simp [hi]
    unfold pickP at h
    rw [ho] at h
    refine wpAnyH_all hr (by simp) fun j hj => ?_
    rw [List.mem_singleton.1 hj]
    have hk : ∀ a' w', (Ext wb w' ∧ wpPlan P ops Q wb (pickP ops.toList is) a' w') → Ext wb w' ∧ wpAnyH P md ops (Only Q) (Ext wb) is.length (listed.setIfInBounds i true) a' w' := fun a' w' hh => ⟨hh.1, wpAnyH_plan hs is _ a' w' hB hh.1 hh.2⟩
    unfold wpOp
    rw [ho']
    have h' : wpList P ops (HdK wb (wpPlan P ops Q wb (pickP ops.toList is))) [ops[i]] a w := h
    unfold wpList at h'
    simp only at h' ⊢
    split
    · rename_i hw
      rw [if_pos hw] at h'
      rcases h' with h' | ⟨_, _, _, h'⟩
      · exact .inl (Oper.wp_mono hk (wp_hdk (fun a w h => h) h'))
      · exact h'.elim
    · rename_i hw
      rw [if_neg hw] at h'
      exact hk _ _ h'
end

section
variable {P : Program} {Q : Exit → Act → World → Prop} {a : Act} {w wb : World} {N dd : Nat} {L : List (Nat × Value)} {ops : Array Oper} {rest : List (Bool × Oper)} {o : Oper} {v : Value}
theorem c_held {id : Nat} {l : List Oper} (plan : List (Bool × Nat)) (hm : P.follows .mixedOrders = true) (hB : (Region.noSelect l.toArray && planB .any l.toArray (Array.replicate l.length false) plan && decide (plan.length = l.length)) = true) (hE : Ext wb w)
    (h : ∀ w', Ext w w' → wpPlan P l.toArray Q wb (pickP l plan) a w') : (Code.region id l.toArray true).wp P Q a w := by
  simp only [Bool.and_eq_true, decide_eq_true_eq] at hB
  obtain ⟨⟨h1, h2⟩, h3⟩ := hB
  have hx : Ext w { w with drawn := w.drawn + 1 } := ⟨rfl, rfl, rfl, Nat.le_refl _, fun _ _ => rfl⟩
  refine wp_region_any hm (wpAny_only _ _ _ _ (wpAny_of_held (S := Ext wb) _ _ _ _ ?_))
  have := wpAnyH_plan (Q := Q) h1 plan (Array.replicate l.toArray.size false) a { w with drawn := w.drawn + 1 } h2 (hE.trans hx) (h _ hx)
  rwa [h3] at this
/-- A read, taken ahead. -/
theorem hp (hF : Fr N L a) (hg : o.guard = none) (hdst : o.dst = some dd) (hd : Nat.blt dd N = true) (hn : noSkipL o.op = true) (hr : ∀ w, Ext wb w → Does P o a w v w)
    (k : ∀ a', Fr N ((dd, v) :: L) a' → wpPlan P ops Q wb rest a' w) : wpPlan P ops Q wb ((true, o) :: rest) a w :=
  ⟨v, .inl ⟨by simp [Region.wanted, hg], fun w hS => (hr w hS).resolve_right fun h => noSkipL_spec hn h.1⟩, k _ (by rw [hdst]; exact hF.put _ hd)⟩
theorem hp_nil {x : Operand} {ad : Addr} (hF : Fr N L a) (hg : o.guard = none) (hdst : o.dst = some dd) (hd : Nat.blt dd N = true) (ho : o.op = .nilCheck x) (hx : ev L x = some (.pointer (some ad)))
    (k : ∀ a', Fr N ((dd, .pointer (some ad)) :: L) a' → wpPlan P ops Q wb rest a' w) : wpPlan P ops Q wb ((true, o) :: rest) a w :=
  ⟨.pointer (some ad), .inl ⟨by simp [Region.wanted, hg], fun w _ => by unfold execOp; simp [ho, hF.ev hx]⟩, k _ (by rw [hdst]; exact hF.put _ hd)⟩
/-- What comes alone. -/
theorem hd (h : wpList P ops (HdK wb (wpPlan P ops Q wb rest)) [o] a w) : wpPlan P ops Q wb ((false, o) :: rest) a w := h
theorem hd_end {K : Act → World → Prop} (hS : Ext wb w) (h : K a w) : HdK wb K .normal a w := ⟨hS, h⟩
theorem hp_end (h : Q .normal a w) : wpPlan P ops Q wb [] a w := h
end
end Go.Proofs.YtcelgjabccgnmaaGreatDoor
