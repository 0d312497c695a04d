/-
  Small plain facts for the walks: strings as lists of bytes, and rules by which the walk speaks of them. Nothing is claimed here.
  Rules for stepping through a function's operations, one by one, with a partial knowledge of the frame. Nothing is claimed here.
-/
import Derived.Test.YtpoebplhemimmaaGreatDoorProg
import Derived.WalkKit
import Derived.WalkSpells
import Derived.WalkLawsBesides
import Derived.BigQuiet
import Derived.Deep.QuietTactic
import Derived.Handy
import Derived.Lib.Hide
import Derived.Deep.LoopGhost
import Derived.Deep.Quiet
namespace Go.Proofs.YtpoebplhemimmaaGreatDoor
variable {Ds : List Deferred}
open Go.RowKit

/-- The string of a list of bytes. -/
def mk (l : List UInt8) : ByteArray := ⟨l.toArray⟩

theorem mk_eta (s : ByteArray) : s = mk s.data.toList := rfl

@[simp, go_sem] theorem size_mk (l : List UInt8) : (mk l).size = l.length := rfl
theorem data_mk (l : List UInt8) : (mk l).data.toList = l := rfl
theorem byteArray_toList (s : ByteArray) : s.toList = s.data.toList := ByteArray.toList_eq s
@[simp, go_sem] theorem toList_mk (l : List UInt8) : (mk l).toList = l := by rw [byteArray_toList]; rfl
@[simp, go_sem] theorem getElem_mk (l : List UInt8) (i : Nat) (h : i < (mk l).size) : (mk l)[i]'h = l[i]'h := rfl
@[simp, go_sem] theorem fold_mk (l : List UInt8) : (ByteArray.mk l.toArray) = mk l := rfl
@[simp, go_sem] theorem extract_mk (l : List UInt8) (a b : Nat) : (mk l).extract a b = mk ((l.take b).drop a) := by
  apply ByteArray.ext
  apply Array.ext'
  show ((mk l).extract a b).data.toList = _
  rw [ByteArray.data_extract, Array.toList_extract]
  simp only [List.extract_eq_take_drop, mk]
  rw [List.drop_take]
@[simp, go_sem] theorem append_mk (a b : List UInt8) : mk a ++ mk b = mk (a ++ b) := ByteArray.ext (by rw [ByteArray.data_append]; show a.toArray ++ b.toArray = (a ++ b).toArray; simp only [List.append_toArray])
theorem mk_inj {a b : List UInt8} : mk a = mk b ↔ a = b := by
  constructor
  · intro h; exact congrArg (fun s : ByteArray => s.data.toList) h
  · rintro rfl; rfl
end Go.Proofs.YtpoebplhemimmaaGreatDoor
namespace Go.Proofs.YtpoebplhemimmaaGreatDoor
variable {Ds : List Deferred}
open Go.RowKit
set_option linter.unusedSimpArgs false
set_option linter.unusedVariables false

theorem q1 {p : Prop} [Decidable p] : (decide p = true) = p := decide_eq_true_eq
theorem q2 {p : Prop} [Decidable p] : decide p = false ↔ ¬p := decide_eq_false_iff_not
theorem q3 {a b : Bool} : ((!a) = b) ↔ (a = !b) := Bool.not_eq_eq_eq_not
theorem q4 : (!true) = false := Bool.not_true
theorem q5 : (!false) = true := Bool.not_false
theorem q6 (a b : Bool) : ((a && b) = true) = (a = true ∧ b = true) := Bool.and_eq_true a b
theorem q7 (a b : Bool) : ((a || b) = true) = (a = true ∨ b = true) := Bool.or_eq_true a b
theorem q8 (a b : Bool) : (a && b) = false ↔ a = false ∨ b = false := Bool.and_eq_false_iff
theorem q9 (a b : Bool) : (a || b) = false ↔ a = false ∧ b = false := Bool.or_eq_false_iff
theorem qa {a b : Int} : ¬a < b ↔ b ≤ a := Int.not_lt
theorem qb {a b : Int} : ¬a ≤ b ↔ b < a := Int.not_le

/-! ### The frame: what some slots hold -/

def lk : List (Nat × Value) → Nat → Option Value
  | [], _ => none
  | (j, v) :: L, k => bif j == k then some v else lk L k

def ev (L : List (Nat × Value)) : Operand → Option Value
  | .tmp t => lk L t
  | .const v => some v
  | .global g => some (.pointer (some ⟨g, 0, none⟩))
  | .func f => some (.func (.func f) #[] #[])

def evl (L : List (Nat × Value)) : List Operand → Option (List Value)
  | [] => some []
  | x :: xs => match ev L x with
    | some v => match evl L xs with
      | some vs => some (v :: vs)
      | none => none
    | none => none

def sel (L : List (Nat × Value)) : List Nat → List (Nat × Value)
  | [] => []
  | k :: ks => match lk L k with
    | some v => (k, v) :: sel L ks
    | none => sel L ks

structure FrD (Ds : List Deferred) (N : Nat) (L : List (Nat × Value)) (a : Act) : Prop where
  size : a.tmps.size = N
  defers : a.defers = Ds
  slot : ∀ {k v}, lk L k = some v → a.tmps[k]? = some v
/-- Nothing is deferred. -/
abbrev Fr (N : Nat) (L : List (Nat × Value)) (a : Act) : Prop := FrD [] N L a

theorem FrD.lk {N : Nat} {L : List (Nat × Value)} {a : Act} (h : FrD Ds N L a) {k : Nat} {v : Value} (hk : lk L k = some v) : a.tmps[k]? = some v := h.slot hk

theorem FrD.ev {N : Nat} {L : List (Nat × Value)} {a : Act} (h : FrD Ds N L a) {x : Operand} {v : Value} (hx : ev L x = some v) : a.eval x = v := by
  cases x with
  | tmp t => have := h.lk hx; simp [Act.eval, Array.getD_eq_getD_getElem?, this]
  | const u => exact Option.some.inj hx
  | global g => exact Option.some.inj hx
  | func f => exact Option.some.inj hx

theorem FrD.evl {N : Nat} {L : List (Nat × Value)} {a : Act} (h : FrD Ds N L a) : ∀ {xs : List Operand} {vs : List Value}, evl L xs = some vs → xs.map a.eval = vs
  | [], vs, hx => by simpa [Proofs.YtpoebplhemimmaaGreatDoor.evl] using hx
  | x :: xs, vs, hx => by
    unfold Proofs.YtpoebplhemimmaaGreatDoor.evl at hx
    split at hx
    · rename_i v hv
      split at hx
      · rename_i us hus
        cases hx
        rw [List.map_cons, h.ev hv, h.evl hus]
      · cases hx
    · cases hx

theorem FrD.put {N : Nat} {L : List (Nat × Value)} {a : Act} (h : FrD Ds N L a) {d : Nat} (v : Value) (hd : Nat.blt d N = true) : FrD Ds N ((d, v) :: L) (a.put (some d) v) := by
  have hd' : d < a.tmps.size := by rw [h.size]; simpa [Nat.blt_eq] using hd
  refine ⟨by simp [Act.put, h.size], h.defers, fun {k u} hk => ?_⟩
  unfold Proofs.YtpoebplhemimmaaGreatDoor.lk at hk
  simp only [Act.put, Array.getElem?_setIfInBounds]
  cases e : d == k with
  | true =>
    have : d = k := by simpa using e
    simp only [e, cond_true, Option.some.injEq] at hk
    subst this hk
    simp [hd']
  | false =>
    have : d ≠ k := by simpa using e
    simp only [e, cond_false] at hk
    rw [if_neg this]; exact h.slot hk

theorem lk_sel {L : List (Nat × Value)} : ∀ {ks : List Nat} {k : Nat} {v : Value}, lk (sel L ks) k = some v → lk L k = some v
  | [], k, v, h => by simp [sel, lk] at h
  | j :: ks, k, v, h => by
    unfold sel at h
    split at h
    · rename_i u hu
      unfold lk at h
      cases e : j == k with
      | true =>
        have : j = k := by simpa using e
        simp only [e, cond_true, Option.some.injEq] at h
        subst this h; exact hu
      | false =>
        simp only [e, cond_false] at h
        exact lk_sel h
    · exact lk_sel h

theorem FrD.sel {N : Nat} {L : List (Nat × Value)} {a : Act} (h : FrD Ds N L a) (ks : List Nat) : FrD Ds N (sel L ks) a := ⟨h.size, h.defers, fun hk => h.slot (lk_sel hk)⟩

/-- The same slots, of other values that are equal. -/
theorem FrD.keep {N : Nat} {L L' : List (Nat × Value)} {a : Act} (h : FrD Ds N L a) (ks : List Nat) (he : Proofs.YtpoebplhemimmaaGreatDoor.sel L ks = L') : FrD Ds N L' a := he ▸ h.sel ks

def argsFrom : Nat → List Value → List (Nat × Value)
  | _, [] => []
  | i, v :: vs => (i, v) :: argsFrom (i + 1) vs

theorem lk_argsFrom : ∀ {vs : List Value} {i k : Nat} {v : Value}, lk (argsFrom i vs) k = some v → i ≤ k ∧ vs[k - i]? = some v
  | [], i, k, v, h => by simp [argsFrom, lk] at h
  | u :: vs, i, k, v, h => by
    unfold argsFrom lk at h
    cases e : i == k with
    | true =>
      have : i = k := by simpa using e
      simp only [e, cond_true, Option.some.injEq] at h
      subst this h; simp
    | false =>
      have hne : i ≠ k := by simpa using e
      simp only [e, cond_false] at h
      obtain ⟨h1, h2⟩ := lk_argsFrom h
      refine ⟨by omega, ?_⟩
      rw [show k - i = (k - (i + 1)) + 1 by omega]; simpa using h2

theorem FrD.start (args : List Value) (N : Nat) (_hn : args.length ≤ N) : FrD [] N (argsFrom 0 args) { tmps := args.toArray ++ Array.replicate (N - args.toArray.size) undef, defers := [] } := by
  refine ⟨by simp; omega, rfl, fun {k v} hk => ?_⟩
  obtain ⟨_, h2⟩ := lk_argsFrom hk
  have hlt : k < args.length := (List.getElem?_eq_some_iff.1 h2).1
  simp only [Array.getElem?_append, List.size_toArray]
  rw [if_pos hlt]
  simpa using h2

def lget : List Value → Nat → Option Value
  | [], _ => none
  | v :: _, 0 => some v
  | _ :: vs, i + 1 => lget vs i

/-! ### A call's answer -/

def Rets (P : Program) (f : FuncId) (args : List Value) (w : World) (R : Value → World → Prop) : Prop :=
  Calls P f args.toArray w fun e w' => ∃ v, e = .returned v ∧ R v w'

theorem Rets.mono {P : Program} {f : FuncId} {args : List Value} {w : World} {R R' : Value → World → Prop} (h : Rets P f args w R) (hr : ∀ v w', R v w' → R' v w') : Rets P f args w R' :=
  Calls.mono h fun _ _ ⟨v, e, r⟩ => ⟨v, e, hr _ _ r⟩

/-- The function's own start. -/
theorem rets_start {P : Program} {f : FuncId} {fn : Func} {c : Code} {args : List Value} {w : World} {R : Value → World → Prop} {N : Nat}
    (hf : P.funcs[f]? = some fn) (hb : fn.body = some c) (hN : fn.ntmps = N) (hn : decide (args.length ≤ N) = true)
    (h : ∀ a (Q : Exit → Act → World → Prop), Fr N (argsFrom 0 args) a → (∀ {a w}, bodyPost P fn (fun e w' => ∃ v, e = .returned v ∧ R v w') .ret a w → Q .ret a w) →
      (∀ {a w}, bodyPost P fn (fun e w' => ∃ v, e = .returned v ∧ R v w') .normal a w → Q .normal a w) → c.wp P Q a w) : Rets P f args w R := by
  subst hN
  exact calls_of_wp hf hb (h _ _ (FrD.start args fn.ntmps (by simpa using hn)) (fun h => h) (fun h => h))

/-! ### One operation -/

/-- The operation comes to v and the world w'. -/
def Does (P : Program) (o : Oper) (a : Act) (w : World) (v : Value) (w' : World) : Prop :=
  (execOp a.eval o).run P w = .ok (.value v) w' ∨ ((execOp a.eval o).run P w = .ok .skip w' ∧ v = undef)

section
variable {P : Program} {ops : Array Oper} {Q : Exit → Act → World → Prop} {rest : List Oper} {o : Oper} {a : Act} {w w' : World} {N dd : Nat} {L : List (Nat × Value)} {v : Value}

theorem wp_of_does {K : Act → World → Prop} (h : Does P o a w v w') (hk : K (a.put o.dst v) w') : o.wp P a w K Q := by
  unfold Oper.wp
  rcases h with h | ⟨h, rfl⟩
  · rw [h]; exact hk
  · rw [h]; exact hk

/-- An operation without a guard. -/
theorem ls (hF : FrD Ds N L a) (hg : o.guard = none) (hdst : o.dst = some dd) (hd : Nat.blt dd N = true) (hr : Does P o a w v w')
    (k : ∀ a', FrD Ds N ((dd, v) :: L) a' → wpList P ops Q rest a' w') : wpList P ops Q (o :: rest) a w :=
  wpList_plain hg fun _ hK => wp_of_does hr (hK _ _ (k _ (by rw [hdst]; exact hF.put _ hd)))

/-- An operation that leaves nothing in a slot. -/
theorem ls0 (hF : FrD Ds N L a) (hg : o.guard = none) (hdst : o.dst = none) (hr : Does P o a w v w')
    (k : wpList P ops Q rest a w') : wpList P ops Q (o :: rest) a w :=
  wpList_plain hg fun _ hK => wp_of_does hr (hK _ _ (by rw [hdst]; exact k))

theorem yielded_of {j d : Nat} {b : Bool} (hF : FrD Ds N L a) (hj : (ops[j]?).bind (·.dst) = some d) (hd : lk L d = some (.bool b)) : yielded ops a.tmps j = some b := by
  unfold yielded
  rw [hj]
  simp [hF.lk hd]

/-- An operation whose guard says yes. -/
theorem lsy {j d : Nat} {b want : Bool} (hF : FrD Ds N L a) (hg : o.guard = some (j, want)) (hj : (ops[j]?).bind (·.dst) = some d) (hb : lk L d = some (.bool b)) (hw : b = want) (hdst : o.dst = some dd) (hd : Nat.blt dd N = true)
    (hr : Does P o a w v w') (k : ∀ a', FrD Ds N ((dd, v) :: L) a' → wpList P ops Q rest a' w') : wpList P ops Q (o :: rest) a w :=
  wpList_step fun K hK => by
    have hy := yielded_of hF hj hb
    simp only [Region.wanted, hg, hy, hw, beq_self_eq_true, if_true]
    exact wp_of_does hr (hK _ _ (k _ (by rw [hdst]; exact hF.put _ hd)))

/-- An operation whose guard says no. -/
theorem lsn {j d : Nat} {b want : Bool} (hF : FrD Ds N L a) (hg : o.guard = some (j, want)) (hj : (ops[j]?).bind (·.dst) = some d) (hb : lk L d = some (.bool b)) (hw : b = !want) (hdst : o.dst = some dd) (hd : Nat.blt dd N = true)
    (k : ∀ a', FrD Ds N ((dd, undef) :: L) a' → wpList P ops Q rest a' w) : wpList P ops Q (o :: rest) a w :=
  wpList_step fun K hK => by
    have hy := yielded_of hF hj hb
    have : (some (!want) == some want) = false := by cases want <;> rfl
    simp only [Region.wanted, hg, hy, hw, this]
    exact hK _ _ (k _ (by rw [hdst]; exact hF.put _ hd))

theorem yielded_undef {j d : Nat} (hF : FrD Ds N L a) (hj : (ops[j]?).bind (·.dst) = some d) (hd : lk L d = some undef) : yielded ops a.tmps j = none := by
  unfold yielded
  rw [hj]
  simp [hF.lk hd, undef]
/-- An operation whose guard was not asked itself. -/
theorem lsu {j d : Nat} {want : Bool} (hF : FrD Ds N L a) (hg : o.guard = some (j, want)) (hj : (ops[j]?).bind (·.dst) = some d) (hb : lk L d = some undef) (hdst : o.dst = some dd) (hd : Nat.blt dd N = true)
    (k : ∀ a', FrD Ds N ((dd, undef) :: L) a' → wpList P ops Q rest a' w) : wpList P ops Q (o :: rest) a w :=
  wpList_step fun K hK => by
    have hy := yielded_undef hF hj hb
    have : (none == some want) = false := by cases want <;> rfl
    simp only [Region.wanted, hg, hy, this]
    exact hK _ _ (k _ (by rw [hdst]; exact hF.put _ hd))

/-- The guard, asked. -/
theorem ls_ask {d : Nat} {b : Bool} (_hF : FrD Ds N L a) (_hb : lk L d = some (.bool b)) (ht : b = true → wpList P ops Q rest a w) (hf : b = false → wpList P ops Q rest a w) : wpList P ops Q rest a w := by
  cases b
  · exact hf rfl
  · exact ht rfl

end

/-! ### Code: what stands behind is a variable -/

/-- What leaves Q1 otherwise than by its end leaves Q so. -/
structure Thru (Q Q1 : Exit → Act → World → Prop) : Prop where
  ret : ∀ {a w}, Q .ret a w → Q1 .ret a w
  exit : ∀ {i a w}, Q (.exit i) a w → Q1 (.exit i) a w
  panic : ∀ {c a w}, Q (.panic c) a w → Q1 (.panic c) a w
structure ThruB (id : Nat) (Q Q1 : Exit → Act → World → Prop) : Prop where
  norm : ∀ {a w}, Q .normal a w → Q1 .normal a w
  here : ∀ {a w}, Q .normal a w → Q1 (.exit id) a w
  ret : ∀ {a w}, Q .ret a w → Q1 .ret a w
  exit : ∀ {i a w}, (i == id) = false → Q (.exit i) a w → Q1 (.exit i) a w
  panic : ∀ {c a w}, Q (.panic c) a w → Q1 (.panic c) a w

section
variable {P : Program} {Q : Exit → Act → World → Prop} {a : Act} {w : World} {N : Nat} {L : List (Nat × Value)}

theorem c_reg {id : Nat} {l : List Oper} (h : ∀ ops, wpList P ops Q l a w) : (Code.region id l.toArray false).wp P Q a w := wp_region_lit (h _)
theorem c_regg {id : Nat} {l : List Oper} (h : wpList P l.toArray Q l a w) : (Code.region id l.toArray false).wp P Q a w := wp_region_lit h

theorem c_seq {x y : Code} (h : ∀ Q1 : Exit → Act → World → Prop, (∀ {a w}, y.wp P Q a w → Q1 .normal a w) → Thru Q Q1 → x.wp P Q1 a w) : (Code.seq x y).wp P Q a w :=
  wp_seq (h _ (fun h => h) ⟨fun h => h, fun h => h, fun h => h⟩)

/-- Two ways meet again behind x. -/
theorem c_cut {x y : Code} (R : Act → World → Prop) (h : ∀ Q1 : Exit → Act → World → Prop, (∀ {a w}, R a w → Q1 .normal a w) → Thru Q Q1 → x.wp P Q1 a w) (k : ∀ a w, R a w → y.wp P Q a w) : (Code.seq x y).wp P Q a w :=
  wp_seq (wp_mono (h (Exit.then R Q) (fun h => h) ⟨fun h => h, fun h => h, fun h => h⟩) fun e a w q => by cases e <;> first | exact k _ _ q | exact q)

theorem c_block {id : Nat} {c : Code} (h : ∀ Q1 : Exit → Act → World → Prop, ThruB id Q Q1 → c.wp P Q1 a w) : (Code.block id c).wp P Q a w :=
  wp_block (h _ ⟨fun h => h, fun h => by simpa [Exit.inBlock] using h, fun h => h, fun hi h => by
    simp only [Exit.inBlock]; rw [if_neg (by simpa using hi)]; exact h, fun h => h⟩)

theorem c_if {c : Operand} {x y : Code} {b : Bool} (hF : FrD Ds N L a) (hc : ev L c = some (.bool b)) (ht : b = true → x.wp P Q a w) (hf : b = false → y.wp P Q a w) : (Code.cond c x y).wp P Q a w :=
  wp_cond_split (hF.ev hc) ht hf

theorem c_yes {c : Operand} {x y : Code} {b : Bool} (hF : FrD Ds N L a) (hc : ev L c = some (.bool b)) (hb : b = true) (ht : x.wp P Q a w) : (Code.cond c x y).wp P Q a w :=
  wp_cond (by rw [hF.ev hc, hb]) (by simpa using ht)
theorem c_no {c : Operand} {x y : Code} {b : Bool} (hF : FrD Ds N L a) (hc : ev L c = some (.bool b)) (hb : b = false) (ht : y.wp P Q a w) : (Code.cond c x y).wp P Q a w :=
  wp_cond (t := false) (by rw [hF.ev hc, hb]) (by simpa using ht)

theorem c_loop {c : Code} (I : Nat → Act → World → Prop) (h₀ : ∃ n, I n a w)
    (round : ∀ n a w, I n a w → ∀ Q1 : Exit → Act → World → Prop, (∀ {a w}, (∃ m, m < n ∧ I m a w) → Q1 .normal a w) → Thru Q Q1 → c.wp P Q1 a w) : (Code.loop c).wp P Q a w :=
  let ⟨n₀, h₀⟩ := h₀
  wp_loop_ghost I n₀ h₀ fun n a w h => round n a w h _ (fun h => h) ⟨fun h => h, fun h => h, fun h => h⟩

/-- The end, one result in a slot. -/
theorem ret1 {fn : Func} {R : Value → World → Prop} {t : Nat} {v : Value} (hF : Fr N L a) (hr : fn.results = #[.tmp t]) (hv : lk L t = some v) (h : R v w) :
    bodyPost P fn (fun e w' => ∃ v, e = .returned v ∧ R v w') .ret a w := by
  have := hF.lk hv
  refine bodyPost_ret (results_tmp hr _ _ _) hF.defers ⟨_, rfl, ?_⟩
  simpa [Array.getD_eq_getD_getElem?, this] using h
theorem ret0 {fn : Func} {R : Value → World → Prop} (hF : Fr N L a) (hr : fn.results = #[]) (h : R (.tuple #[]) w) :
    bodyPost P fn (fun e w' => ∃ v, e = .returned v ∧ R v w') .ret a w :=
  bodyPost_ret (results_none hr _ _ _) hF.defers ⟨_, rfl, h⟩
theorem fall0 {fn : Func} {R : Value → World → Prop} (hF : Fr N L a) (hr : fn.results = #[]) (h : R (.tuple #[]) w) :
    bodyPost P fn (fun e w' => ∃ v, e = .returned v ∧ R v w') .normal a w :=
  bodyPost_end (results_none hr _ _ _) hF.defers ⟨_, rfl, h⟩

def tmpsOf : List Nat → List ResultVar
  | [] => []
  | t :: ts => .tmp t :: tmpsOf ts
def lks (L : List (Nat × Value)) : List Nat → Option (List Value)
  | [] => some []
  | t :: ts => match lk L t with
    | some v => match lks L ts with
      | some vs => some (v :: vs)
      | none => none
    | none => none

theorem ret2 {fn : Func} {R : Value → World → Prop} {t u : Nat} {v1 v2 : Value} (hF : Fr N L a) (hr : fn.results = #[.tmp t, .tmp u]) (h1 : lk L t = some v1) (h2 : lk L u = some v2) (h : R (.tuple #[v1, v2]) w) :
    bodyPost P fn (fun e w' => ∃ v, e = .returned v ∧ R v w') .ret a w := by
  have e1 := hF.lk h1; have e2 := hF.lk h2
  refine bodyPost_ret (results_tmp2 hr _ _ _) hF.defers ⟨_, rfl, ?_⟩
  simpa [Array.getD_eq_getD_getElem?, e1, e2] using h
theorem ret3 {fn : Func} {R : Value → World → Prop} {t u s : Nat} {v1 v2 v3 : Value} (hF : Fr N L a) (hr : fn.results = #[.tmp t, .tmp u, .tmp s]) (h1 : lk L t = some v1) (h2 : lk L u = some v2) (h3 : lk L s = some v3)
    (h : R (.tuple #[v1, v2, v3]) w) : bodyPost P fn (fun e w' => ∃ v, e = .returned v ∧ R v w') .ret a w := by
  have e1 := hF.lk h1; have e2 := hF.lk h2; have e3 := hF.lk h3
  refine bodyPost_ret (results_tmp3 hr _ _ _) hF.defers ⟨_, rfl, ?_⟩
  simpa [Array.getD_eq_getD_getElem?, e1, e2, e3] using h
theorem ret4 {fn : Func} {R : Value → World → Prop} {t u s r : Nat} {v1 v2 v3 v4 : Value} (hF : Fr N L a) (hr : fn.results = #[.tmp t, .tmp u, .tmp s, .tmp r]) (h1 : lk L t = some v1) (h2 : lk L u = some v2) (h3 : lk L s = some v3) (h4 : lk L r = some v4)
    (h : R (.tuple #[v1, v2, v3, v4]) w) : bodyPost P fn (fun e w' => ∃ v, e = .returned v ∧ R v w') .ret a w := by
  have e1 := hF.lk h1; have e2 := hF.lk h2; have e3 := hF.lk h3; have e4 := hF.lk h4
  refine bodyPost_ret (v := .tuple #[v1, v2, v3, v4]) ?_ hF.defers ⟨_, rfl, h⟩
  simp [results, hr, Array.getD_eq_getD_getElem?, e1, e2, e3, e4]
end

/-! ### The operations -/
section
variable {P : Program} {o : Oper} {a : Act} {w w' : World} {N dd : Nat} {L : List (Nat × Value)} {v : Value}

theorem r_move (hF : FrD Ds N L a) {x : Operand} (ho : o.op = .move x) (hx : ev L x = some v) : Does P o a w v w := by
  left; unfold execOp; simp only [ho, hF.ev hx]; rfl
theorem r_assign (hF : FrD Ds N L a) {x : Operand} (ho : o.op = .assign x) (hx : ev L x = some v) : Does P o a w v w := by
  left; unfold execOp; simp only [ho, hF.ev hx]; rfl
theorem r_pick (hF : FrD Ds N L a) {c x y : Operand} {b : Bool} {u : Value} (ho : o.op = .pick c x y) (hc : ev L c = some (.bool b)) (hx : ev L x = some v) (hy : ev L y = some u) :
    Does P o a w (if b then v else u) w := by
  left; unfold execOp; simp only [ho, hF.ev hc, hF.ev hx, hF.ev hy]; cases b <;> rfl
theorem r_pickt (hF : FrD Ds N L a) {c x y : Operand} {b : Bool} (ho : o.op = .pick c x y) (hc : ev L c = some (.bool b)) (hb : b = true) (hx : ev L x = some v) :
    Does P o a w v w := by
  left; unfold execOp; simp only [ho, hF.ev hc, hF.ev hx, hb]; rfl
theorem r_pickf (hF : FrD Ds N L a) {c x y : Operand} {b : Bool} (ho : o.op = .pick c x y) (hc : ev L c = some (.bool b)) (hb : b = false) (hy : ev L y = some v) :
    Does P o a w v w := by
  left; unfold execOp; simp only [ho, hF.ev hc, hF.ev hy, hb]; rfl
theorem lget_spec : ∀ {vs : List Value} {i : Nat} {v : Value}, lget vs i = some v → vs[i]? = some v
  | [], i, v, h => by simp [lget] at h
  | u :: vs, 0, v, h => by simpa [lget] using h
  | u :: vs, i + 1, v, h => by simpa using lget_spec (vs := vs) h
theorem r_extract (hF : FrD Ds N L a) {x : Operand} {i : Nat} {vs : List Value} (ho : o.op = .extract x i) (hx : ev L x = some (.tuple vs.toArray)) (hi : lget vs i = some v) : Does P o a w v w := by
  have := lget_spec hi
  left; unfold execOp; simp [ho, hF.ev hx, Instr.extract, this]
theorem r_not (hF : FrD Ds N L a) {x : Operand} {t : TypeId} {b : Bool} (ho : o.op = .unOp .not t x) (hx : ev L x = some (.bool b)) : Does P o a w (.bool (!b)) w := by
  left; unfold execOp; simp [ho, hF.ev hx, Op.unary]

/-- An operation on two numbers, two texts, two Bools, that is one value in every world. -/
theorem r_bin (hF : FrD Ds N L a) {x y : Operand} {op : BinOp} {t ty : TypeId} {u1 u2 : Value} (ho : o.op = .binOp op t x y ty) (hx : ev L x = some u1) (hy : ev L y = some u2)
    (hg : eqGuard op t x y u1 u2 = pure ()) (hr : (binOp op t u1 u2).run P w = .ok v w) : Does P o a w v w := by
  left; unfold execOp; simp [ho, hF.ev hx, hF.ev hy, hg, hr]

theorem beq_eq_decide (x y : List UInt8) : (x == y) = decide (x = y) := by
  rw [Bool.eq_iff_iff]; simp
theorem b_eq (t : TypeId) (k : IntKind) (n m : Int) : (binOp .eql t (.int k n) (.int k m)).run P w = .ok (.bool (decide (n = m))) w := by
  simp [go_sem]; rfl
theorem b_ne (t : TypeId) (k : IntKind) (n m : Int) : (binOp .neq t (.int k n) (.int k m)).run P w = .ok (.bool (!decide (n = m))) w := by
  simp [go_sem, bne]; rfl
theorem b_lt (t : TypeId) (k : IntKind) (n m : Int) : (binOp .lss t (.int k n) (.int k m)).run P w = .ok (.bool (decide (n < m))) w := by simp [go_sem]
theorem b_le (t : TypeId) (k : IntKind) (n m : Int) : (binOp .leq t (.int k n) (.int k m)).run P w = .ok (.bool (decide (n ≤ m))) w := by simp [go_sem]
theorem b_gt (t : TypeId) (k : IntKind) (n m : Int) : (binOp .gtr t (.int k n) (.int k m)).run P w = .ok (.bool (decide (m < n))) w := by simp [go_sem]
theorem b_ge (t : TypeId) (k : IntKind) (n m : Int) : (binOp .geq t (.int k n) (.int k m)).run P w = .ok (.bool (decide (m ≤ n))) w := by simp [go_sem]
theorem b_seq (t : TypeId) (x y : List UInt8) : (binOp .eql t (.string (mk x)) (.string (mk y))).run P w = .ok (.bool (decide (x = y))) w := by
  simp [go_sem]; exact beq_eq_decide x y
theorem b_sne (t : TypeId) (x y : List UInt8) : (binOp .neq t (.string (mk x)) (.string (mk y))).run P w = .ok (.bool (!decide (x = y))) w := by
  simp [go_sem]; exact beq_eq_decide x y
theorem b_add (t : TypeId) (k : IntKind) (n m : Int) : (binOp .add t (.int k n) (.int k m)).run P w = .ok (.int k (k.wrap (n + m))) w := by simp [go_sem]
theorem b_sub (t : TypeId) (k : IntKind) (n m : Int) : (binOp .sub t (.int k n) (.int k m)).run P w = .ok (.int k (k.wrap (n - m))) w := by simp [go_sem]
theorem b_addi (t : TypeId) (n m : Int) (h : -9223372036854775808 ≤ n + m ∧ n + m ≤ 9223372036854775807) : (binOp .add t (.int .i64 n) (.int .i64 m)).run P w = .ok (.int .i64 (n + m)) w := by
  rw [b_add, IntWalk.i64_in _ (by omega)]
theorem b_subi (t : TypeId) (n m : Int) (h : -9223372036854775808 ≤ n - m ∧ n - m ≤ 9223372036854775807) : (binOp .sub t (.int .i64 n) (.int .i64 m)).run P w = .ok (.int .i64 (n - m)) w := by
  rw [b_sub, IntWalk.i64_in _ (by omega)]

theorem exec_builtin (hF : FrD Ds N L a) {b : Builtin} {xs : Array Operand} {ats : Array TypeId} {vs : List Value} (ho : o.op = .call { callee := .builtin b, args := xs, argTypes := ats }) (hxs : evl L xs.toList = some vs) :
    execOp a.eval o = builtin b ats o.type (xs.map fun | .const _ => true | _ => false) vs.toArray := by
  have hm : xs.map a.eval = vs.toArray := by
    apply Array.ext'; simpa using hF.evl hxs
  unfold execOp; rw [ho]; rw [← hm]; rfl
theorem ev1 {x : Operand} (hx : ev L x = some v) : evl L [x] = some [v] := by simp [evl, hx]
theorem ev2 {x y : Operand} {u : Value} (hx : ev L x = some v) (hy : ev L y = some u) : evl L [x, y] = some [v, u] := by simp [evl, hx, hy]

theorem b_eqn (t : TypeId) (k : IntKind) (n m : Nat) : (binOp .eql t (.int k (n : Int)) (.int k (m : Int))).run P w = .ok (.bool (decide (n = m))) w := by
  rw [b_eq]; congr 2; rw [decide_eq_decide]; omega
theorem b_nen (t : TypeId) (k : IntKind) (n m : Nat) : (binOp .neq t (.int k (n : Int)) (.int k (m : Int))).run P w = .ok (.bool (!decide (n = m))) w := by
  rw [b_ne]; congr 3; rw [decide_eq_decide]; omega
theorem b_ltn (t : TypeId) (k : IntKind) (n m : Nat) : (binOp .lss t (.int k (n : Int)) (.int k (m : Int))).run P w = .ok (.bool (decide (n < m))) w := by
  rw [b_lt]; congr 2; rw [decide_eq_decide]; omega
theorem b_len (t : TypeId) (k : IntKind) (n m : Nat) : (binOp .leq t (.int k (n : Int)) (.int k (m : Int))).run P w = .ok (.bool (decide (n ≤ m))) w := by
  rw [b_le]; congr 2; rw [decide_eq_decide]; omega
theorem b_gtn (t : TypeId) (k : IntKind) (n m : Nat) : (binOp .gtr t (.int k (n : Int)) (.int k (m : Int))).run P w = .ok (.bool (decide (m < n))) w := by
  rw [b_gt]; congr 2; rw [decide_eq_decide]; omega
theorem b_gen (t : TypeId) (k : IntKind) (n m : Nat) : (binOp .geq t (.int k (n : Int)) (.int k (m : Int))).run P w = .ok (.bool (decide (m ≤ n))) w := by
  rw [b_ge]; congr 2; rw [decide_eq_decide]; omega
theorem b_addn (t : TypeId) (n m : Nat) (h : n + m ≤ 9223372036854775807) : (binOp .add t (.int .i64 (n : Int)) (.int .i64 (m : Int))).run P w = .ok (.int .i64 ((n + m : Nat) : Int)) w := by
  rw [b_addi _ _ _ (by omega), Int.natCast_add]
theorem b_subn (t : TypeId) (n m : Nat) (h : m ≤ n ∧ n ≤ 9223372036854775807) : (binOp .sub t (.int .i64 (n : Int)) (.int .i64 (m : Int))).run P w = .ok (.int .i64 ((n - m : Nat) : Int)) w := by
  rw [b_subi _ _ _ (by omega), Int.natCast_sub h.1]

theorem r_len_str (hF : FrD Ds N L a) {x : Operand} {t : TypeId} {l : List UInt8} (ho : o.op = .call { callee := .builtin .len, args := #[x], argTypes := #[t] }) (hx : ev L x = some (.string (mk l))) (hu : P.underlying t = some .string) :
    Does P o a w (.int .i64 l.length) w := by
  left; rw [exec_builtin hF ho (ev1 hx)]; simp [go_sem, hu]
theorem r_len_sl (hF : FrD Ds N L a) {x : Operand} {t e : TypeId} {ad : Option Addr} {n c : Nat} (ho : o.op = .call { callee := .builtin .len, args := #[x], argTypes := #[t] }) (hx : ev L x = some (.slice ad n c)) (hu : P.underlying t = some (.slice e)) :
    Does P o a w (.int .i64 n) w := by
  have he : P.elem t = e := by simp [Program.elem, hu]
  left; rw [exec_builtin hF ho (ev1 hx)]; simp [go_sem, hu, he]

theorem r_index (hF : FrD Ds N L a) {x i : Operand} {t : TypeId} {l : List UInt8} {k : IntKind} {n : Int} (ho : o.op = .index t x i) (hx : ev L x = some (.string (mk l))) (hi : ev L i = some (.int k n)) (hu : P.underlying t = some .string)
    (h : 0 ≤ n ∧ n < l.length) : Does P o a w (.int .u8 (l.getD n.toNat 0).toNat) w := by
  left; unfold execOp
  have h2 : n.toNat < l.length := by omega
  have h3 : (mk l)[n.toNat]? = some (l.getD n.toNat 0) := by
    rw [getElem?_pos (mk l) n.toNat (by simpa using h2)]; simp [h2]; rfl
  simp [ho, hF.ev hx, hF.ev hi, Instr.index, asIntOf, underlying, hu, h.1, h3]

theorem r_slice_str (hF : FrD Ds N L a) {x : Operand} {t : TypeId} {lo hi : Option Operand} {l : List UInt8} {i j : Int} (ho : o.op = .slice t x lo hi none) (hx : ev L x = some (.string (mk l))) (hu : P.underlying t = some .string)
    (hlo : match lo with | none => i = 0 | some y => ∃ k, ev L y = some (.int k i)) (hhi : match hi with | none => j = l.length | some y => ∃ k, ev L y = some (.int k j))
    (h : 0 ≤ i ∧ i ≤ j ∧ j ≤ l.length) : Does P o a w (.string (mk ((l.take j.toNat).drop i.toNat))) w := by
  have h1 : i ≤ (j.toNat : Int) := by omega
  have e1 := extract_mk l i.toNat j.toNat
  left; unfold execOp
  rcases lo with _ | lo <;> rcases hi with _ | hi
  all_goals simp only at hlo hhi
  · subst hlo hhi
    simp [ho, hF.ev hx, Instr.sliceAt, Instr.slice, Instr.sliceBounds, underlying, hu]
  · obtain ⟨k, hk⟩ := hhi; subst hlo
    simp [ho, hF.ev hx, hF.ev hk, Instr.sliceAt, Instr.slice, Instr.sliceBounds, Instr.sliceBound, asIntOf, underlying, hu, h]
  · obtain ⟨k, hk⟩ := hlo; subst hhi
    simp [ho, hF.ev hx, hF.ev hk, Instr.sliceAt, Instr.slice, Instr.sliceBounds, Instr.sliceBound, asIntOf, underlying, hu, h]
  · obtain ⟨k, hk⟩ := hlo; obtain ⟨k', hk'⟩ := hhi
    have h4 : 0 ≤ j := by omega
    have h5 : max j 0 = j := by omega
    have h6 : ¬ j < i := by omega
    simp [h5, h6, ho, hF.ev hx, hF.ev hk, hF.ev hk', Instr.sliceAt, Instr.slice, Instr.sliceBounds, Instr.sliceBound, asIntOf, underlying, hu, h, h1, h4]

theorem r_slice_from (hF : FrD Ds N L a) {x y : Operand} {t : TypeId} {l : List UInt8} {i : Int} (ho : o.op = .slice t x (some y) none none) (hx : ev L x = some (.string (mk l))) (hu : P.underlying t = some .string)
    (hlo : ∃ k, ev L y = some (.int k i)) (h : 0 ≤ i ∧ i ≤ l.length) : Does P o a w (.string (mk (l.drop i.toNat))) w := by
  have := r_slice_str (w := w) (i := i) (j := l.length) hF ho hx hu hlo rfl ⟨h.1, h.2, Int.le_refl _⟩
  simpa using this
theorem r_slice_to (hF : FrD Ds N L a) {x y : Operand} {t : TypeId} {l : List UInt8} {j : Int} (ho : o.op = .slice t x none (some y) none) (hx : ev L x = some (.string (mk l))) (hu : P.underlying t = some .string)
    (hhi : ∃ k, ev L y = some (.int k j)) (h : 0 ≤ j ∧ j ≤ l.length) : Does P o a w (.string (mk (l.take j.toNat))) w := by
  have := r_slice_str (w := w) (i := 0) (j := j) hF ho hx hu rfl hhi ⟨Int.le_refl _, h.1, h.2⟩
  simpa using this

theorem r_indexn (hF : FrD Ds N L a) {x i : Operand} {t : TypeId} {l : List UInt8} {k : IntKind} (m : Nat) (ho : o.op = .index t x i) (hx : ev L x = some (.string (mk l))) (hi : ev L i = some (.int k (m : Int))) (hu : P.underlying t = some .string)
    (h : m < l.length) : Does P o a w (.int .u8 ((l.getD m 0).toNat : Int)) w := r_index hF ho hx hi hu ⟨by omega, by omega⟩
theorem r_slicen (hF : FrD Ds N L a) {x y z : Operand} {t : TypeId} {l : List UInt8} (i j : Nat) (ho : o.op = .slice t x (some y) (some z) none) (hx : ev L x = some (.string (mk l))) (hu : P.underlying t = some .string)
    (hlo : ∃ k, ev L y = some (.int k (i : Int))) (hhi : ∃ k, ev L z = some (.int k (j : Int))) (h : i ≤ j ∧ j ≤ l.length) : Does P o a w (.string (mk ((l.take j).drop i))) w :=
  r_slice_str (i := i) (j := j) hF ho hx hu hlo hhi ⟨by omega, by omega, by omega⟩
theorem r_slicefn (hF : FrD Ds N L a) {x y : Operand} {t : TypeId} {l : List UInt8} (i : Nat) (ho : o.op = .slice t x (some y) none none) (hx : ev L x = some (.string (mk l))) (hu : P.underlying t = some .string)
    (hlo : ∃ k, ev L y = some (.int k (i : Int))) (h : i ≤ l.length) : Does P o a w (.string (mk (l.drop i))) w :=
  r_slice_from (i := i) hF ho hx hu hlo ⟨by omega, by omega⟩
theorem r_slicetn (hF : FrD Ds N L a) {x y : Operand} {t : TypeId} {l : List UInt8} (j : Nat) (ho : o.op = .slice t x none (some y) none) (hx : ev L x = some (.string (mk l))) (hu : P.underlying t = some .string)
    (hhi : ∃ k, ev L y = some (.int k (j : Int))) (h : j ≤ l.length) : Does P o a w (.string (mk (l.take j))) w :=
  r_slice_to (j := j) hF ho hx hu hhi ⟨by omega, by omega⟩

theorem r_conv (hF : FrD Ds N L a) {x : Operand} {s d : TypeId} {k k' : IntKind} {n : Int} (ho : o.op = .convert s d x) (hx : ev L x = some (.int k n)) (hs : (P.underlying s).isSome = true) (hd : P.underlying d = some (.int k')) :
    Does P o a w (.int k' (k'.wrap n)) w := by
  left; unfold execOp
  have hk : P.intKind d = k' := by simp [Program.intKind, hd]
  have := run_convert_int (P := P) (w := w) s d k n hs
  rw [hk] at this
  simp [ho, hF.ev hx, this hd]

theorem mn_i8 : IntKind.i8.min = -128 := by decide +kernel
theorem mx_i8 : IntKind.i8.max = 127 := by decide +kernel
theorem mn_i16 : IntKind.i16.min = -32768 := by decide +kernel
theorem mx_i16 : IntKind.i16.max = 32767 := by decide +kernel
theorem mn_i32 : IntKind.i32.min = -2147483648 := by decide +kernel
theorem mx_i32 : IntKind.i32.max = 2147483647 := by decide +kernel
theorem mn_i64 : IntKind.i64.min = -9223372036854775808 := by decide +kernel
theorem mx_i64 : IntKind.i64.max = 9223372036854775807 := by decide +kernel
theorem mn_u8 : IntKind.u8.min = 0 := by decide +kernel
theorem mx_u8 : IntKind.u8.max = 255 := by decide +kernel
theorem mn_u16 : IntKind.u16.min = 0 := by decide +kernel
theorem mx_u16 : IntKind.u16.max = 65535 := by decide +kernel
theorem mn_u32 : IntKind.u32.min = 0 := by decide +kernel
theorem mx_u32 : IntKind.u32.max = 4294967295 := by decide +kernel
theorem mn_u64 : IntKind.u64.min = 0 := by decide +kernel
theorem mx_u64 : IntKind.u64.max = 18446744073709551615 := by decide +kernel
theorem r_convin (hF : FrD Ds N L a) {x : Operand} {s d : TypeId} {k k' : IntKind} {n : Int} (ho : o.op = .convert s d x) (hx : ev L x = some (.int k n)) (hs : (P.underlying s).isSome = true) (hd : P.underlying d = some (.int k'))
    (lo hi : Int) (hlo : k'.min = lo) (hhi : k'.max = hi) (h : lo ≤ n ∧ n ≤ hi) : Does P o a w (.int k' n) w := by
  have := r_conv (w := w) hF ho hx hs hd
  subst hlo hhi
  have e : k'.wrap n = n := by
    cases k' <;> simp [IntKind.wrap, IntKind.bits, IntKind.signed, IntKind.min, IntKind.max] at h ⊢ <;> omega
  rwa [e] at this

/-- A function with a body. -/
def FnOk (P : Program) (f : FuncId) : Prop := ∃ fn, P.funcs[f]? = some fn ∧ (fn.name == "runtime.NumGoroutine") = false ∧ fn.body.isNone = false

theorem run_enter {f : FuncId} (hok : FnOk P f) (args : Array Value) (w : World) : (callFunc f args).run P w = .ok (.enter f args) w := by
  obtain ⟨fn, hf, hn, hb⟩ := hok
  unfold callFunc
  show Sem.run P ((match P.funcs[f]? with | none => stuck "call: no such function" | some fn => _) : Sem Next) w = _
  rw [hf]
  simp [hn, hb]

theorem exec_call {f : FuncId} {xs : Array Operand} {ats : Array TypeId} {vs : List Value} (hF : FrD Ds N L a)
    (ho : o.op = .call { callee := .value (.func f), args := xs, argTypes := ats }) (hxs : evl L xs.toList = some vs) (hok : FnOk P f) (w : World) :
    (execOp a.eval o).run P w = .ok (.enter f vs.toArray) w := by
  have hm : xs.map a.eval = vs.toArray := by
    apply Array.ext'; simpa using hF.evl hxs
  have h1 := run_enter hok vs.toArray w
  unfold execOp
  simp [ho, resolve, Act.eval, Deferred.ofValue, hm, invoke, h1]

section
variable {ops : Array Oper} {Q : Exit → Act → World → Prop} {rest : List Oper} {f : FuncId} {xs : Array Operand} {ats : Array TypeId} {vs : List Value} {R : Value → World → Prop}
theorem wp_call {K : Act → World → Prop} (hF : FrD Ds N L a) (ho : o.op = .call { callee := .value (.func f), args := xs, argTypes := ats }) (hxs : evl L xs.toList = some vs) (hok : FnOk P f)
    (hc : Rets P f vs w R) (hk : ∀ v w', R v w' → K (a.put o.dst v) w') : o.wp P a w K Q := by
  unfold Oper.wp
  rw [exec_call hF ho hxs hok w]
  refine Calls.mono hc ?_
  rintro e w' ⟨v, rfl, hr⟩
  exact hk v w' hr

theorem ls_call (hF : FrD Ds N L a) (hg : o.guard = none) (hdst : o.dst = some dd) (hd : Nat.blt dd N = true) (ho : o.op = .call { callee := .value (.func f), args := xs, argTypes := ats }) (hxs : evl L xs.toList = some vs) (hok : FnOk P f)
    (hc : Rets P f vs w R) (k : ∀ v w', R v w' → ∀ a', FrD Ds N ((dd, v) :: L) a' → wpList P ops Q rest a' w') : wpList P ops Q (o :: rest) a w :=
  wpList_plain hg fun K hK => wp_call hF ho hxs hok hc fun v w' hr => hK _ _ (k v w' hr _ (by rw [hdst]; exact hF.put _ hd))

theorem lsy_call {j d : Nat} {b want : Bool} (hF : FrD Ds N L a) (hg : o.guard = some (j, want)) (hj : (ops[j]?).bind (·.dst) = some d) (hb : lk L d = some (.bool b)) (hw : b = want) (hdst : o.dst = some dd) (hd : Nat.blt dd N = true)
    (ho : o.op = .call { callee := .value (.func f), args := xs, argTypes := ats }) (hxs : evl L xs.toList = some vs) (hok : FnOk P f)
    (hc : Rets P f vs w R) (k : ∀ v w', R v w' → ∀ a', FrD Ds N ((dd, v) :: L) a' → wpList P ops Q rest a' w') : wpList P ops Q (o :: rest) a w :=
  wpList_step fun K hK => by
    have hy := yielded_of hF hj hb
    simp only [Region.wanted, hg, hy, hw, beq_self_eq_true, if_true]
    exact wp_call hF ho hxs hok hc fun v w' hr => hK _ _ (k v w' hr _ (by rw [hdst]; exact hF.put _ hd))
end
end

/-! ### Memory: what is newer than a world, and blocks of one's own -/

/-- w' is w, and new blocks. -/
abbrev Ext (w w' : World) : Prop := Below w.heap.size w w'

theorem Ext.refl (w : World) : Ext w w := Below.refl _ _
theorem Ext.trans {a b c : World} (h : Ext a b) (k : Ext b c) : Ext a c := Below.trans h (k.mono h.size)
theorem Ext.cell {w w' : World} (h : Ext w w') {p : Addr} {v : Value} (hp : w.cell? p = some v) : w'.cell? p = some v :=
  (Below.cell h (World.block_lt_of_cell? w p hp)).trans hp
theorem Ext.block {w w' : World} (h : Ext w w') {b : Nat} {o : Obj} (hp : w.heap[b]? = some o) : w'.heap[b]? = some o :=
  (Below.block h b (Array.getElem?_eq_some_iff.1 hp).1).trans hp

structure Hp (w0 w : World) (H : List (Nat × Obj)) : Prop where
  below : Ext w0 w
  own : ∀ p ∈ H, w.heap[p.1]? = some p.2 ∧ w0.heap.size ≤ p.1
  nodup : (H.map (·.1)).Nodup

theorem Hp.refl (w : World) : Hp w w [] := ⟨Ext.refl w, fun _ h => (List.not_mem_nil h).elim, List.nodup_nil⟩
theorem Hp.ext {w0 w w' : World} {H : List (Nat × Obj)} (h : Hp w0 w H) (he : Ext w w') : Hp w0 w' H :=
  ⟨h.below.trans he, fun p hp => ⟨he.block (h.own p hp).1, (h.own p hp).2⟩, h.nodup⟩
theorem Hp.cell {w0 w : World} {H : List (Nat × Obj)} (h : Hp w0 w H) {p : Addr} {v : Value} (hp : w0.cell? p = some v) : w.cell? p = some v := h.below.cell hp
theorem Hp.drop {w0 w : World} {H : List (Nat × Obj)} {x : Nat × Obj} (h : Hp w0 w (x :: H)) : Hp w0 w H :=
  ⟨h.below, fun p hp => h.own p (List.mem_cons_of_mem _ hp), (List.nodup_cons.1 h.nodup).2⟩

/-! ### Regions that draw their order and only read -/
section
variable {P : Program} {ops : Array Oper} {rest : List Oper} {o : Oper} {a : Act} {w : World} {N dd : Nat} {L : List (Nat × Value)} {v : Value} {K : Act → Prop}
variable {f : FuncId} {xs : Array Operand} {ats : Array TypeId} {vs : List Value}

theorem q_reg {id : Nat} {Q : Exit → Act → World → Prop} {l : List Oper} (hm : P.follows .mixedOrders = true) (hB : Region.lexB .any l.toArray = true)
    (h : wpQuiet P l.toArray (fun w' => Ext w w') (fun a' => ∀ w', Ext w w' → Q .normal a' w') l a) : (Code.region id l.toArray true).wp P Q a w :=
  wp_region_quiet (C := fun w' => Ext w w') hm hB ⟨rfl, rfl, rfl, Nat.le_refl _, fun _ _ => rfl⟩ (by simpa using h)

theorem quietAt_of_does {C : World → Prop} {w' : World} (h : Does P o a w' v w') : o.quietAt P a C w' v := by
  unfold Oper.quietAt
  rcases h with h | ⟨h, rfl⟩
  · rw [h]; exact ⟨rfl, rfl⟩
  · rw [h]; exact ⟨rfl, rfl⟩

theorem qs {C : World → Prop} (hF : FrD Ds N L a) (hg : o.guard = none) (hdst : o.dst = some dd) (hd : Nat.blt dd N = true) (hr : ∀ w, C w → Does P o a w v w)
    (k : ∀ a', FrD Ds N ((dd, v) :: L) a' → wpQuiet P ops C K rest a') : wpQuiet P ops C K (o :: rest) a := by
  unfold wpQuiet
  rw [if_pos (by simp [Region.wanted, hg])]
  exact ⟨v, fun w hw => quietAt_of_does (hr w hw), k _ (by rw [hdst]; exact hF.put _ hd)⟩
theorem qsy {C : World → Prop} {j d : Nat} {b want : Bool} (hF : FrD Ds N L a) (hg : o.guard = some (j, want)) (hj : (ops[j]?).bind (·.dst) = some d) (hb : lk L d = some (.bool b)) (hw : b = want) (hdst : o.dst = some dd) (hd : Nat.blt dd N = true)
    (hr : ∀ w, C w → Does P o a w v w) (k : ∀ a', FrD Ds N ((dd, v) :: L) a' → wpQuiet P ops C K rest a') : wpQuiet P ops C K (o :: rest) a := by
  have hy := yielded_of hF hj hb
  unfold wpQuiet
  rw [if_pos (by simp [Region.wanted, hg, hy, hw])]
  exact ⟨v, fun w hw => quietAt_of_does (hr w hw), k _ (by rw [hdst]; exact hF.put _ hd)⟩
theorem qsn {C : World → Prop} {j d : Nat} {b want : Bool} (hF : FrD Ds N L a) (hg : o.guard = some (j, want)) (hj : (ops[j]?).bind (·.dst) = some d) (hb : lk L d = some (.bool b)) (hw : b = !want) (hdst : o.dst = some dd) (hd : Nat.blt dd N = true)
    (k : ∀ a', FrD Ds N ((dd, undef) :: L) a' → wpQuiet P ops C K rest a') : wpQuiet P ops C K (o :: rest) a := by
  have hy := yielded_of hF hj hb
  have : (some (!want) == some want) = false := by cases want <;> rfl
  unfold wpQuiet
  rw [if_neg (by simp [Region.wanted, hg, hy, hw, this])]
  exact k _ (by rw [hdst]; exact hF.put _ hd)
theorem qsu {C : World → Prop} {j d : Nat} {want : Bool} (hF : FrD Ds N L a) (hg : o.guard = some (j, want)) (hj : (ops[j]?).bind (·.dst) = some d) (hb : lk L d = some undef) (hdst : o.dst = some dd) (hd : Nat.blt dd N = true)
    (k : ∀ a', FrD Ds N ((dd, undef) :: L) a' → wpQuiet P ops C K rest a') : wpQuiet P ops C K (o :: rest) a := by
  have hy := yielded_undef hF hj hb
  have : (none == some want) = false := by cases want <;> rfl
  unfold wpQuiet
  rw [if_neg (by simp [Region.wanted, hg, hy, this])]
  exact k _ (by rw [hdst]; exact hF.put _ hd)
theorem q_ask {C : World → Prop} {d : Nat} {b : Bool} (_hF : FrD Ds N L a) (_hb : lk L d = some (.bool b)) (ht : b = true → wpQuiet P ops C K rest a) (hf : b = false → wpQuiet P ops C K rest a) : wpQuiet P ops C K rest a := by
  cases b
  · exact hf rfl
  · exact ht rfl
theorem q_nil {C : World → Prop} {Q : Act → World → Prop} (h : ∀ w', C w' → Q a w') : wpQuiet P ops C (fun a' => ∀ w', C w' → Q a' w') [] a := h

theorem quietAt_of_call {w' : World} (hF : FrD Ds N L a) (hw : Ext w w') (ho : o.op = .call { callee := .value (.func f), args := xs, argTypes := ats }) (hxs : evl L xs.toList = some vs) (hok : FnOk P f)
    (hc : Rets P f vs w' fun u w'' => u = v ∧ Ext w' w'') : o.quietAt P a (fun w' => Ext w w') w' v := by
  unfold Oper.quietAt
  rw [exec_call hF ho hxs hok w']
  refine ⟨rfl, Calls.mono hc ?_⟩
  rintro e w'' ⟨u, rfl, rfl, he⟩
  exact ⟨rfl, hw.trans he⟩

theorem qs_call (hF : FrD Ds N L a) (hg : o.guard = none) (hdst : o.dst = some dd) (hd : Nat.blt dd N = true) (ho : o.op = .call { callee := .value (.func f), args := xs, argTypes := ats }) (hxs : evl L xs.toList = some vs) (hok : FnOk P f)
    (hc : ∀ w', Ext w w' → Rets P f vs w' fun u w'' => u = v ∧ Ext w' w'') (k : ∀ a', FrD Ds N ((dd, v) :: L) a' → wpQuiet P ops (fun w' => Ext w w') K rest a') : wpQuiet P ops (fun w' => Ext w w') K (o :: rest) a := by
  unfold wpQuiet
  rw [if_pos (by simp [Region.wanted, hg])]
  exact ⟨v, fun w' hw => quietAt_of_call hF hw ho hxs hok (hc w' hw), k _ (by rw [hdst]; exact hF.put _ hd)⟩
theorem qsy_call {j d : Nat} {b want : Bool} (hF : FrD Ds N L a) (hg : o.guard = some (j, want)) (hj : (ops[j]?).bind (·.dst) = some d) (hb : lk L d = some (.bool b)) (hw : b = want) (hdst : o.dst = some dd) (hd : Nat.blt dd N = true)
    (ho : o.op = .call { callee := .value (.func f), args := xs, argTypes := ats }) (hxs : evl L xs.toList = some vs) (hok : FnOk P f)
    (hc : ∀ w', Ext w w' → Rets P f vs w' fun u w'' => u = v ∧ Ext w' w'') (k : ∀ a', FrD Ds N ((dd, v) :: L) a' → wpQuiet P ops (fun w' => Ext w w') K rest a') : wpQuiet P ops (fun w' => Ext w w') K (o :: rest) a := by
  have hy := yielded_of hF hj hb
  unfold wpQuiet
  rw [if_pos (by simp [Region.wanted, hg, hy, hw])]
  exact ⟨v, fun w' hw => quietAt_of_call hF hw ho hxs hok (hc w' hw), k _ (by rw [hdst]; exact hF.put _ hd)⟩
end

section
end

/-! ### Short forms of the same rules -/

theorem qq : (∀ (p : Prop) [Decidable p], (decide p = true) = p) ∧ (∀ (p : Prop) [Decidable p], decide p = false ↔ ¬p) ∧ (∀ a b : Bool, ((!a) = b) ↔ (a = !b)) ∧ ((!true) = false) ∧ ((!false) = true) ∧
    (∀ a b : Bool, ((a && b) = true) = (a = true ∧ b = true)) ∧ (∀ a b : Bool, ((a || b) = true) = (a = true ∨ b = true)) ∧ (∀ a b : Bool, (a && b) = false ↔ a = false ∨ b = false) ∧
    (∀ a b : Bool, (a || b) = false ↔ a = false ∧ b = false) ∧ (∀ a b : Int, ¬a < b ↔ b ≤ a) ∧ (∀ a b : Int, ¬a ≤ b ↔ b < a) :=
  ⟨fun _ _ => q1, fun _ _ => q2, fun _ _ => q3, q4, q5, q6, q7, q8, q9, fun _ _ => qa, fun _ _ => qb⟩
def selc (k : Nat) (l : List (Nat × Value)) : Option Value → List (Nat × Value)
  | none => l
  | some v => (k, v) :: l
theorem ss : (∀ L, sel L [] = []) ∧ (∀ L k ks, sel L (k :: ks) = selc k (sel L ks) (lk L k)) ∧ (∀ k l v, selc k l (some v) = (k, v) :: l) ∧ (∀ k l, selc k l none = l) ∧
    (∀ k, lk [] k = none) ∧ (∀ j v L k, lk ((j, v) :: L) k = bif j == k then some v else lk L k) ∧ (∀ a b : Option Value, (bif true then a else b) = a) ∧ (∀ a b : Option Value, (bif false then a else b) = b) :=
  ⟨fun _ => rfl, fun L k ks => by rw [sel]; cases lk L k <;> rfl, fun _ _ _ => rfl, fun _ _ => rfl, fun _ => rfl, fun _ _ _ _ => rfl, fun _ _ => rfl, fun _ _ => rfl⟩
section
variable {P : Program} {ops : Array Oper} {Q : Exit → Act → World → Prop} {rest : List Oper} {o : Oper} {a : Act} {w w' : World} {N dd : Nat} {L : List (Nat × Value)} {v : Value}
/-- Where an operation without a guard leaves its value. -/
def pl (N : Nat) (o : Oper) : Option Nat :=
  match o.guard, o.dst with
  | none, some d => bif Nat.blt d N then some d else none
  | _, _ => none
theorem pl_is (h : pl N o = some dd) : o.guard = none ∧ o.dst = some dd ∧ Nat.blt dd N = true := by
  unfold pl at h
  split at h
  · rename_i d h1 h2
    cases e : Nat.blt d N
    · rw [e] at h; cases h
    · rw [e] at h; cases h; exact ⟨h1, h2, e⟩
  · cases h
theorem zl (hF : FrD Ds N L a) (h : pl N o = some dd) (hr : Does P o a w v w') (k : ∀ a', FrD Ds N ((dd, v) :: L) a' → wpList P ops Q rest a' w') : wpList P ops Q (o :: rest) a w :=
  ls hF (pl_is h).1 (pl_is h).2.1 (pl_is h).2.2 hr k
/-- What an operation's guard asks, and where it leaves its value. -/
def gd (ops : Array Oper) (L : List (Nat × Value)) (N : Nat) (o : Oper) : Option (Bool × Bool × Nat) :=
  match o.guard, o.dst with
  | some (j, want), some dd => match (ops[j]?).bind (·.dst) with
    | some d => match lk L d with
      | some (.bool b) => bif Nat.blt dd N then some (b, want, dd) else none
      | _ => none
    | none => none
  | _, _ => none
theorem gd_is {b want : Bool} (h : gd ops L N o = some (b, want, dd)) : ∃ j d, o.guard = some (j, want) ∧ (ops[j]?).bind (·.dst) = some d ∧ lk L d = some (.bool b) ∧ o.dst = some dd ∧ Nat.blt dd N = true := by
  unfold gd at h
  split at h
  · rename_i j want d' h1 h2
    split at h
    · rename_i d h3
      split at h
      · rename_i b h4
        cases e : Nat.blt d' N
        · rw [e] at h; cases h
        · rw [e] at h; cases h; exact ⟨j, d, h1, h3, h4, h2, e⟩
      · cases h
    · cases h
  · cases h
theorem zy {b want : Bool} (hF : FrD Ds N L a) (h : gd ops L N o = some (b, want, dd)) (hw : b = want) (hr : Does P o a w v w') (k : ∀ a', FrD Ds N ((dd, v) :: L) a' → wpList P ops Q rest a' w') : wpList P ops Q (o :: rest) a w :=
  let ⟨_, _, h1, h2, h3, h4, h5⟩ := gd_is h
  lsy hF h1 h2 h3 hw h4 h5 hr k
theorem zn {b want : Bool} (hF : FrD Ds N L a) (h : gd ops L N o = some (b, want, dd)) (hw : b = !want) (k : ∀ a', FrD Ds N ((dd, undef) :: L) a' → wpList P ops Q rest a' w) : wpList P ops Q (o :: rest) a w :=
  let ⟨_, _, h1, h2, h3, h4, h5⟩ := gd_is h
  lsn hF h1 h2 h3 hw h4 h5 k
/-- A call of a function of the program: which, and of what. -/
def cl (L : List (Nat × Value)) (o : Oper) : Option (FuncId × List Value) :=
  match o.op with
  | .call ⟨.value (.func f), xs, _⟩ => match evl L xs.toList with
    | some vs => some (f, vs)
    | none => none
  | _ => none
theorem cl_is {f : FuncId} {vs : List Value} (h : cl L o = some (f, vs)) : ∃ xs ats, o.op = .call { callee := .value (.func f), args := xs, argTypes := ats } ∧ evl L xs.toList = some vs := by
  unfold cl at h
  split at h
  · rename_i f' xs ats ho
    split at h
    · rename_i us hus
      cases h
      exact ⟨xs, ats, ho, hus⟩
    · cases h
  · cases h
theorem zc {f : FuncId} {vs : List Value} {R : Value → World → Prop} (hF : FrD Ds N L a) (h : pl N o = some dd) (hc : cl L o = some (f, vs)) (hok : FnOk P f) (hr : Rets P f vs w R)
    (k : ∀ v w', R v w' → ∀ a', FrD Ds N ((dd, v) :: L) a' → wpList P ops Q rest a' w') : wpList P ops Q (o :: rest) a w :=
  let ⟨_, _, h1, h2⟩ := cl_is hc
  ls_call hF (pl_is h).1 (pl_is h).2.1 (pl_is h).2.2 h1 h2 hok hr k
theorem zyc {b want : Bool} {f : FuncId} {vs : List Value} {R : Value → World → Prop} (hF : FrD Ds N L a) (h : gd ops L N o = some (b, want, dd)) (hw : b = want) (hc : cl L o = some (f, vs)) (hok : FnOk P f) (hr : Rets P f vs w R)
    (k : ∀ v w', R v w' → ∀ a', FrD Ds N ((dd, v) :: L) a' → wpList P ops Q rest a' w') : wpList P ops Q (o :: rest) a w :=
  let ⟨_, _, h1, h2⟩ := cl_is hc
  let ⟨_, _, g1, g2, g3, g4, g5⟩ := gd_is h
  lsy_call hF g1 g2 g3 hw g4 g5 h1 h2 hok hr k
/-- An operation on two values. -/
def bo (L : List (Nat × Value)) (o : Oper) : Option (BinOp × TypeId × Operand × Operand × Value × Value) :=
  match o.op with
  | .binOp op t x y _ => match ev L x, ev L y with
    | some u, some v => some (op, t, x, y, u, v)
    | _, _ => none
  | _ => none
theorem zr {x y : Operand} {op : BinOp} {t : TypeId} {u1 u2 : Value} (hF : FrD Ds N L a) (h : bo L o = some (op, t, x, y, u1, u2)) (hg : eqGuard op t x y u1 u2 = pure ()) (hr : (binOp op t u1 u2).run P w = .ok v w) : Does P o a w v w := by
  unfold bo at h
  split at h
  · rename_i op' t' x' y' ty ho
    split at h
    · rename_i u v h1 h2
      cases h
      exact r_bin hF ho h1 h2 hg hr
    · cases h
  · cases h
theorem zb {x y : Operand} {op : BinOp} {t : TypeId} {u1 u2 : Value} (hF : FrD Ds N L a) (h : pl N o = some dd) (hb : bo L o = some (op, t, x, y, u1, u2)) (hg : eqGuard op t x y u1 u2 = pure ()) (hr : (binOp op t u1 u2).run P w = .ok v w)
    (k : ∀ a', FrD Ds N ((dd, v) :: L) a' → wpList P ops Q rest a' w) : wpList P ops Q (o :: rest) a w :=
  zl hF h (zr hF hb hg hr) k
/-- What is moved, and needs nothing else. -/
def mvOf (L : List (Nat × Value)) (o : Oper) : Option Value :=
  match o.op with
  | .move x => ev L x
  | .assign x => ev L x
  | .extract x i => match ev L x with
    | some (.tuple vs) => lget vs.toList i
    | _ => none
  | _ => none
theorem mvOf_does (hF : FrD Ds N L a) (h : mvOf L o = some v) : Does P o a w v w := by
  unfold mvOf at h
  split at h
  · exact r_move hF (by assumption) h
  · exact r_assign hF (by assumption) h
  · rename_i x i ho
    split at h
    · rename_i vs hv
      exact r_extract hF (vs := vs.toList) ho (by simpa using hv) h
    · cases h
  · cases h
def mvRun (N : Nat) : Nat → List (Nat × Value) → List Oper → Option (List (Nat × Value) × List Oper)
  | 0, L, os => some (L, os)
  | _ + 1, _, [] => none
  | n + 1, L, o :: os => match pl N o, mvOf L o with
    | some d, some v => mvRun N n ((d, v) :: L) os
    | _, _ => none
theorem zm (n : Nat) {L L' : List (Nat × Value)} {a : Act} {os os' : List Oper} (hF : FrD Ds N L a) (h : mvRun N n L os = some (L', os')) (k : ∀ a', FrD Ds N L' a' → wpList P ops Q os' a' w) : wpList P ops Q os a w := by
  induction n generalizing L a os with
  | zero => cases h; exact k _ hF
  | succ n ih =>
    cases os with
    | nil => cases h
    | cons o os =>
      unfold mvRun at h
      split at h
      · rename_i d v h1 h2
        exact zl hF h1 (mvOf_does hF h2) fun a' hF' => ih hF' h
      · cases h
theorem c_n {R : Act → World → Prop} (h : R a w) : wpList P ops (Exit.then R Q) [] a w := wpList_nil h
end
section
variable {P : Program} {Q : Exit → Act → World → Prop} {a : Act} {w : World} {N : Nat} {L : List (Nat × Value)}
theorem c_sr {id : Nat} {l : List Oper} {y : Code} (h : ∀ ops, wpList P ops (Exit.then (fun a w => y.wp P Q a w) Q) l a w) : (Code.seq (.region id l.toArray false) y).wp P Q a w := wp_seq (c_reg h)
theorem c_sg {id : Nat} {l : List Oper} {y : Code} (h : wpList P l.toArray (Exit.then (fun a w => y.wp P Q a w) Q) l a w) : (Code.seq (.region id l.toArray false) y).wp P Q a w := wp_seq (c_regg h)
theorem c_fi {c : Operand} {x y : Code} {b : Bool} (hF : FrD Ds N L a) (hc : ev L c = some (.bool b)) (hf : b = false → y.wp P Q a w) (ht : b = true → x.wp P Q a w) : (Code.cond c x y).wp P Q a w :=
  c_if hF hc ht hf
theorem l_ask {ops : Array Oper} {rest : List Oper} {d : Nat} {b : Bool} (hF : FrD Ds N L a) (hb : lk L d = some (.bool b)) (hf : b = false → wpList P ops Q rest a w) (ht : b = true → wpList P ops Q rest a w) : wpList P ops Q rest a w :=
  ls_ask hF hb ht hf
end
theorem b_bne {P : Program} {w : World} (t : TypeId) (x y : Bool) (h : P.underlying t = some .bool) : (binOp .neq t (.bool x) (.bool y)).run P w = .ok (.bool (x != y)) w := by
  simp only [binOp]
  simp [Op.equal, Op.maxDepth, run_equalIn_bool w 9999 t x y h]; cases x <;> cases y <;> rfl
theorem b_beq {P : Program} {w : World} (t : TypeId) (x y : Bool) (h : P.underlying t = some .bool) : (binOp .eql t (.bool x) (.bool y)).run P w = .ok (.bool (x == y)) w := run_eql_bool w t x y h
end Go.Proofs.YtpoebplhemimmaaGreatDoor
