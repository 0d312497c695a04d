/-
  Functions that may throw, and those that catch what is thrown. Nothing is claimed here.
-/
import Derived.Test.YtpoebplhemimmaaGreatDoorHeld
import Derived.Test.YtpoebplhemimmaaGreatDoorTab
import Derived.Test.YtpoebplhemimmaaGreatDoorPart
import Derived.Recover
namespace Go.Proofs.YtpoebplhemimmaaGreatDoor
variable {Ds : List Deferred}
open Go.RowKit
set_option linter.unusedVariables false
set_option linter.unusedSimpArgs false
set_option maxHeartbeats 1000000

def chV (v : Value) : List PanicEntry := [{ v := v, recovered := false }]
/-- What package wire throws. -/
def faultV (e : Nat) : Value := .iface 110 (.agg #[.int .i64 (e : Int)])
/-- A call that comes back, or throws. -/
def RetsT (P : Program) (f : FuncId) (args : List Value) (w : World) (R : Value → World → Prop) (E : Nat → World → Prop) : Prop :=
  Calls P f args.toArray w fun e w' => (∃ v, e = .returned v ∧ R v w') ∨ ∃ n, e = .panicked (chV (faultV n)) ∧ E n w'
section
variable {P : Program} {f : FuncId} {args : List Value} {w : World} {R R' : Value → World → Prop} {E E' : Nat → World → Prop}
theorem RetsT.mono (h : RetsT P f args w R E) (hr : ∀ v w', R v w' → R' v w') (he : ∀ n w', E n w' → E' n w') : RetsT P f args w R' E' :=
  Calls.mono h fun _ _ h => h.imp (fun ⟨v, e, r⟩ => ⟨v, e, hr _ _ r⟩) fun ⟨n, e, r⟩ => ⟨n, e, he _ _ r⟩
theorem RetsT.rets (h : RetsT P f args w R E) (he : ∀ n w', ¬ E n w') : Rets P f args w R :=
  Calls.mono h fun _ _ h => h.resolve_right fun ⟨n, _, r⟩ => he _ _ r
theorem Rets.thr (h : Rets P f args w R) : RetsT P f args w R E := Calls.mono h fun _ _ h => .inl h
theorem bodyPost_mono {fn : Func} {A B : Ending → World → Prop} (h : ∀ e w, A e w → B e w) {x : Exit} {a : Act} (hb : bodyPost P fn A x a w) : bodyPost P fn B x a w := by
  cases x <;> simp only [bodyPost] at hb ⊢
  · exact ⟨hb.1, hb.2.imp fun _ h' => ⟨h'.1, h _ _ h'.2⟩⟩
  · exact ⟨hb.1, hb.2.imp fun _ h' => ⟨h'.1, h _ _ h'.2⟩⟩
  · exact ⟨hb.1, h _ _ hb.2⟩
  · exact h _ _ hb
/-- The start of a function that may throw. -/
theorem rets_startT {fn : Func} {c : Code} {N : Nat} (hf : P.funcs[f]? = some fn) (hb : fn.body = some c) (hN : fn.ntmps = N) (hn : decide (args.length ≤ N) = true)
    (h : ∀ a (Q : Exit → Act → World → Prop), Fr N (argsFrom 0 args) a → (∀ {a w}, bodyPost P fn (fun e w' => ∃ v, e = .returned v ∧ R v w') .ret a w → Q .ret a w) →
      (∀ {a w}, bodyPost P fn (fun e w' => ∃ v, e = .returned v ∧ R v w') .normal a w → Q .normal a w) → (∀ {L n a w}, Fr N L a → E n w → Q (.panic (chV (faultV n))) a w) → c.wp P Q a w) : RetsT P f args w R E := by
  subst hN
  refine calls_of_wp hf hb (h _ _ (FrD.start args fn.ntmps (by simpa using hn)) (fun h => bodyPost_mono (fun _ _ h => .inl h) h) (fun h => bodyPost_mono (fun _ _ h => .inl h) h) fun hF hE => ?_)
  exact ⟨hF.defers, .inr ⟨_, rfl, hE⟩⟩
/-- The start of a function that defers. -/
theorem rets_startD {fn : Func} {c : Code} {N : Nat} (hf : P.funcs[f]? = some fn) (hb : fn.body = some c) (hN : fn.ntmps = N) (hn : decide (args.length ≤ N) = true)
    (h : ∀ a (Q : Exit → Act → World → Prop), Fr N (argsFrom 0 args) a → (∀ {a w}, Leaves P fn a.tmps (fun e w' => ∃ v, e = .returned v ∧ R v w') a.defers .returning w → Q .ret a w) →
      (∀ {a w}, Leaves P fn a.tmps (fun e w' => ∃ v, e = .returned v ∧ R v w') a.defers .returning w → Q .normal a w) →
      (∀ {c a w}, Leaves P fn a.tmps (fun e w' => ∃ v, e = .returned v ∧ R v w') a.defers (.panicking c) w → Q (.panic c) a w) → c.wp P Q a w) : Rets P f args w R := by
  subst hN
  exact calls_of_wp_defers hf hb (h _ _ (FrD.start args fn.ntmps (by simpa using hn)) (fun h => h) (fun h => h) (fun h => h))
end
section
variable {P : Program} {ops : Array Oper} {Q : Exit → Act → World → Prop} {rest : List Oper} {o : Oper} {a : Act} {w w' : World} {N dd : Nat} {L : List (Nat × Value)} {v : Value}
variable {f : FuncId} {xs : Array Operand} {ats : Array TypeId} {vs : List Value} {R : Value → World → Prop} {E : Nat → World → Prop}
theorem wp_callT {K : Act → World → Prop} (hF : FrD Ds N L a) (ho : o.op = .call { callee := .value (.func f), args := xs, argTypes := ats }) (hxs : evl L xs.toList = some vs) (hok : FnOk P f)
    (hc : RetsT P f vs w R E) (kp : ∀ n w', E n w' → Q (.panic (chV (faultV n))) a w') (hk : ∀ v w', R v w' → K (a.put o.dst v) w') : o.wp P a w K Q := by
  unfold Oper.wp
  rw [exec_call hF ho hxs hok w]
  refine Calls.mono hc ?_
  rintro e w' (⟨v, rfl, hr⟩ | ⟨n, rfl, he⟩)
  · exact hk v w' hr
  · exact kp n w' he
/-- A call that may throw. -/
theorem ls_callT (hF : FrD Ds N L a) (hg : o.guard = none) (hdst : o.dst = some dd) (hd : Nat.blt dd N = true) (ho : o.op = .call { callee := .value (.func f), args := xs, argTypes := ats }) (hxs : evl L xs.toList = some vs) (hok : FnOk P f)
    (hc : RetsT P f vs w R E) (kp : ∀ n w', E n w' → Q (.panic (chV (faultV n))) a w') (k : ∀ v w', R v w' → ∀ a', FrD Ds N ((dd, v) :: L) a' → wpList P ops Q rest a' w') : wpList P ops Q (o :: rest) a w :=
  wpList_plain hg fun K hK => wp_callT hF ho hxs hok hc kp fun v w' hr => hK _ _ (k v w' hr _ (by rw [hdst]; exact hF.put _ hd))
/-- What is thrown. -/
theorem ls_panic {x : Operand} {t : TypeId} {u : Value} (hF : FrD Ds N L a) (hg : o.guard = none) (ho : o.op = .panic x) (hx : ev L x = some (.iface t u)) (kp : Q (.panic (chV (.iface t u))) a w) : wpList P ops Q (o :: rest) a w :=
  wpList_plain hg fun K hK => by
    unfold Oper.wp
    have : (execOp a.eval o).run P w = .halt (.panic (.iface t u)) w := by
      unfold execOp; simp [ho, hF.ev hx, run_panic_iface]
    rw [this]; exact kp
theorem FrD.defer {d : Deferred} (h : FrD Ds N L a) : FrD (d :: Ds) N L { a with defers := d :: a.defers } := ⟨h.size, by show d :: a.defers = _; rw [h.defers], h.slot⟩
/-- A call is deferred. -/
theorem ls_defer (hF : FrD Ds N L a) (hg : o.guard = none) (hdst : o.dst = none) (ho : o.op = .defer { callee := .value (.func f), args := xs, argTypes := ats }) (hxs : evl L xs.toList = some vs)
    (k : ∀ a', FrD ({ target := .fn (.func f) #[], args := vs.toArray } :: Ds) N L a' → wpList P ops Q rest a' w) : wpList P ops Q (o :: rest) a w :=
  wpList_plain hg fun K hK => by
    have hm : xs.map a.eval = vs.toArray := by
      apply Array.ext'; simpa using hF.evl hxs
    unfold Oper.wp
    have : (execOp a.eval o).run P w = .ok (.defer { target := .fn (.func f) #[], args := vs.toArray }) w := by
      unfold execOp
      simp [ho, resolve, Act.eval, Deferred.ofValue, hm]
    rw [this]
    exact hK _ _ (by rw [hdst]; exact k _ hF.defer)
/-- Is it of that type? -/
theorem r_typeassert (hF : FrD Ds N L a) {x : Operand} {xT T : TypeId} {u : Value} {fs : Array Field} (ho : o.op = .typeAssert x xT T true) (hx : ev L x = some (.iface T u)) (ht : P.underlying T = some (.struct fs)) : Does P o a w (.tuple #[u, .bool true]) w := by
  left; unfold execOp
  simp [ho, hF.ev hx, Instr.typeAssert, run_underlying ht]
end
theorem results_cc {P : Program} {fn : Func} {w : World} {t u : Nat} {ty tz : TypeId} {g k : Nat} {tmps : Array Value} {v1 v2 : Value} (h : fn.results = #[.cell t ty, .cell u tz]) (h1 : tmps[t]? = some (.pointer (some ⟨g, 0, none⟩))) (h2 : tmps[u]? = some (.pointer (some ⟨k, 0, none⟩)))
    (hl : (loadVar ty ⟨g, 0, none⟩).run P w = .ok v1 w) (hm : (loadVar tz ⟨k, 0, none⟩).run P w = .ok v2 w) : (results fn tmps).run P w = .ok (.tuple #[v1, v2]) w := by
  simp [results, h, Array.getD_eq_getD_getElem?, h1, h2, asAddr, hl, hm]
theorem run_loadVar_flat {P : Program} {t : TypeId} {b q : Nat} {w : World} {v : Value} (ht : flat P t = true) (hc : w.cell? ⟨b, q, none⟩ = some v) : (loadVar t ⟨b, q, none⟩).run P w = .ok v w := by
  simp [loadVar, run_isAgg_flat ht, hc]

/-! ### Package wire: what throws -/
theorem must_spec (e : Nat) (w0 : World) : RetsT Tryz.prog 21 [.int .i64 e] w0 (fun v w' => v = .tuple #[] ∧ e = 0 ∧ Ext w0 w') fun n w' => n = e ∧ e ≠ 0 ∧ Ext w0 w' := by
  have hH := Hp.refl w0
  refine rets_startT Tryz.func21 rfl Tryz.ntmps21 rfl fun a Q0 hF hret hend hpan => ?_
  simp only [argsFrom, Nat.zero_add, Nat.reduceAdd] at hF
  refine c_sr fun ops => ?_
  refine zm 1 hF rfl fun a hF => ?_
  refine zb hF rfl rfl rfl (b_nen _ _ _ 0) fun a hF => ?_
  refine c_n ?_
  replace hF := hF.sel [0, 3]
  simp only [ss, Nat.reduceBEq] at hF
  refine c_fi hF rfl (fun h3 => ?_) (fun h3 => ?_)
  ·
   try simp only [qq] at h3
   refine wp_skip ?_
   refine hend (fall0 (fn := Tryz.f21) hF Tryz.results21 ?_)
   exact ⟨rfl, h3, hH.below⟩
  try simp only [qq] at h3
  refine c_reg fun ops => ?_
  refine zm 1 hF rfl fun a hF => ?_
  refine zl hF rfl (r_build hF rfl rfl (bd110_0 _ _ (rfl))) fun a hF => ?_
  refine zl hF rfl (r_makeiface hF rfl rfl (by kernel_rfl)) fun a hF => ?_
  exact ls_panic hF rfl rfl rfl (hpan hF (⟨rfl, h3, hH.below⟩))
theorem that_spec (so : Bool) (e : Nat) (w0 : World) : RetsT Tryz.prog 28 [.bool so, .int .i64 e] w0 (fun v w' => v = .tuple #[] ∧ so = false ∧ Ext w0 w') fun n w' => n = e ∧ so = true ∧ Ext w0 w' := by
  have hH := Hp.refl w0
  refine rets_startT Tryz.func28 rfl Tryz.ntmps28 rfl fun a Q0 hF hret hend hpan => ?_
  simp only [argsFrom, Nat.zero_add, Nat.reduceAdd] at hF
  refine c_sr fun ops => ?_
  refine zm 1 hF rfl fun a hF => ?_
  refine c_n ?_
  replace hF := hF.sel [1, 4]
  simp only [ss, Nat.reduceBEq] at hF
  refine c_fi hF rfl (fun h4 => ?_) (fun h4 => ?_)
  ·
   try simp only [qq] at h4
   refine wp_skip ?_
   refine hend (fall0 (fn := Tryz.f28) hF Tryz.results28 ?_)
   exact ⟨rfl, h4, hH.below⟩
  try simp only [qq] at h4
  refine c_reg fun ops => ?_
  refine zm 1 hF rfl fun a hF => ?_
  refine zl hF rfl (r_build hF rfl rfl (bd110_0 _ _ (rfl))) fun a hF => ?_
  refine zl hF rfl (r_makeiface hF rfl rfl (by kernel_rfl)) fun a hF => ?_
  exact ls_panic hF rfl rfl rfl (hpan hF (⟨rfl, h4, hH.below⟩))
theorem gotb_spec (v : Value) (e : Nat) (w0 : World) : RetsT Tryz.prog 66 [v, .int .i64 e] w0 (fun u w' => u = v ∧ e = 0 ∧ Ext w0 w') fun n w' => n = e ∧ e ≠ 0 ∧ Ext w0 w' := by
  have hH := Hp.refl w0
  refine rets_startT Tryz.func66 rfl Tryz.ntmps66 rfl fun a Q0 hF hret hend hpan => ?_
  simp only [argsFrom, Nat.zero_add, Nat.reduceAdd] at hF
  refine c_sr fun ops => ?_
  refine zm 1 hF rfl fun a hF => ?_
  refine c_n ?_
  replace hF := hF.sel [0, 1]
  simp only [ss, Nat.reduceBEq] at hF
  refine c_sr fun ops => ?_
  refine zm 1 hF rfl fun a hF => ?_
  refine ls_callT hF rfl rfl rfl rfl rfl fn21 (must_spec e _) (fun n w hE => hpan hF (⟨hE.1, hE.2.1, hH.below.trans hE.2.2⟩)) ?_
  rintro _ w ⟨rfl, he, hE⟩ a hF
  replace hH := hH.ext hE
  refine c_n ?_
  replace hF := hF.sel [0]
  simp only [ss, Nat.reduceBEq] at hF
  refine c_sr fun ops => ?_
  refine zm 2 hF rfl fun a hF => ?_
  refine c_n ?_
  replace hF := hF.sel [4]
  simp only [ss, Nat.reduceBEq] at hF
  refine wp_ret (hret (ret1 hF Tryz.results66 rfl ?_))
  exact ⟨rfl, he, hH.below⟩
end Go.Proofs.YtpoebplhemimmaaGreatDoor
