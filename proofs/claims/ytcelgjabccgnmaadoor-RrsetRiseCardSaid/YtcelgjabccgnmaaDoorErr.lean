/-
  The walks of errors.As, at a nil error and at the one error that package cursor makes, and of cursor.told. Nothing is claimed here.
-/
import Derived.Test.YtcelgjabccgnmaaDoorAs
namespace Go.Proofs.YtcelgjabccgnmaaDoor
open Go.RowKit Go.Extern
set_option linter.unusedVariables false
set_option linter.unusedSimpArgs false
set_option maxHeartbeats 1000000

section
variable {P : Program} {ops : Array Oper} {Q : Exit → Act → World → Prop} {rest : List Oper} {o : Oper} {a : Act} {w w0 w' : World} {N dd : Nat} {L : List (Nat × Value)} {H B : List (Nat × Obj)} {v : Value}
/-- A method of what an interface holds, without a body. -/
theorem ls_inv {x : Operand} {name : String} {xs : Array Operand} {ats : Array TypeId} {t : TypeId} {h u recv : Value} {vs : List Value} {f : FuncId} {fn : Func} {ex : Array Value → Sem Value} (hF : Fr N L a) (hg : o.guard = none) (hdst : o.dst = some dd) (hd : Nat.blt dd N = true)
    (ho : o.op = .call { callee := .invoke x name, args := xs, argTypes := ats }) (hx : ev L x = some (.iface t h)) (hxs : evl L xs.toList = some vs) (hm : (Go.method (P.types.size + Made.depth) t h name).run P w = .ok (f, recv) w)
    (hf : P.funcs[f]? = some fn) (hn : (fn.name == "runtime.NumGoroutine") = false) (hb : fn.body.isNone = true) (h1 : Extern.findNext fn = none) (h2 : Extern.find fn = some ex) (hr : (ex (recv :: vs).toArray).run P w = .ok u w')
    (k : ∀ a', Fr N ((dd, u) :: L) a' → wpList P ops Q rest a' w') : wpList P ops Q (o :: rest) a w := by
  refine ls hF hg hdst hd (v := u) (w' := w') (.inl ?_) k
  have hx2 := hF.ev hx
  have hms : xs.map a.eval = vs.toArray := by
    apply Array.ext'; simpa using hF.evl hxs
  have hc := run_callFunc_extern hf hn hb h1 h2 (#[recv] ++ vs.toArray) w
  have e : #[recv] ++ vs.toArray = (recv :: vs).toArray := by simp
  rw [e, hr] at hc
  unfold execOp
  simp [ho, resolve, hx2, hms, invoke, callMethod, hm, hc, Result.andThen]
theorem lsy_inv {x : Operand} {name : String} {xs : Array Operand} {ats : Array TypeId} {t : TypeId} {h u recv : Value} {vs : List Value} {f : FuncId} {fn : Func} {ex : Array Value → Sem Value} {j d : Nat} {b want : Bool} (hF : Fr N L a) (hg : o.guard = some (j, want)) (hj : (ops[j]?).bind (·.dst) = some d) (hb' : lk L d = some (.bool b)) (hw : b = want) (hdst : o.dst = some dd) (hd : Nat.blt dd N = true)
    (ho : o.op = .call { callee := .invoke x name, args := xs, argTypes := ats }) (hx : ev L x = some (.iface t h)) (hxs : evl L xs.toList = some vs) (hm : (Go.method (P.types.size + Made.depth) t h name).run P w = .ok (f, recv) w)
    (hf : P.funcs[f]? = some fn) (hn : (fn.name == "runtime.NumGoroutine") = false) (hb : fn.body.isNone = true) (h1 : Extern.findNext fn = none) (h2 : Extern.find fn = some ex) (hr : (ex (recv :: vs).toArray).run P w = .ok u w')
    (k : ∀ a', Fr N ((dd, u) :: L) a' → wpList P ops Q rest a' w') : wpList P ops Q (o :: rest) a w := by
  refine lsy hF hg hj hb' hw hdst hd (v := u) (w' := w') (.inl ?_) k
  have hx2 := hF.ev hx
  have hms : xs.map a.eval = vs.toArray := by
    apply Array.ext'; simpa using hF.evl hxs
  have hc := run_callFunc_extern hf hn hb h1 h2 (#[recv] ++ vs.toArray) w
  have e : #[recv] ++ vs.toArray = (recv :: vs).toArray := by simp
  rw [e, hr] at hc
  unfold execOp
  simp [ho, resolve, hx2, hms, invoke, callMethod, hm, hc, Result.andThen]
theorem lsy_ext {f : FuncId} {fn : Func} {ex : Array Value → Sem Value} {xs : Array Operand} {ats : Array TypeId} {vs : List Value} {u : Value} {j d : Nat} {b want : Bool} (hF : Fr N L a) (hg : o.guard = some (j, want)) (hj : (ops[j]?).bind (·.dst) = some d) (hb' : lk L d = some (.bool b)) (hw : b = want) (hdst : o.dst = some dd) (hd : Nat.blt dd N = true)
    (ho : o.op = .call { callee := .value (.func f), args := xs, argTypes := ats }) (hxs : evl L xs.toList = some vs) (hf : P.funcs[f]? = some fn) (hn : (fn.name == "runtime.NumGoroutine") = false) (hb : fn.body.isNone = true)
    (h1 : Extern.findNext fn = none) (h2 : Extern.find fn = some ex) (hr : (ex vs.toArray).run P w = .ok u w')
    (k : ∀ a', Fr N ((dd, u) :: L) a' → wpList P ops Q rest a' w') : wpList P ops Q (o :: rest) a w := by
  refine lsy hF hg hj hb' hw hdst hd (v := u) (w' := w') (.inl ?_) k
  have hm : xs.map a.eval = vs.toArray := by
    apply Array.ext'; simpa using hF.evl hxs
  have hc := run_callFunc_extern hf hn hb h1 h2 vs.toArray w
  rw [hr] at hc
  unfold execOp
  simp [ho, resolve, Act.eval, Deferred.ofValue, hm, invoke, hc, Result.andThen]
theorem b_ieq {t u : TypeId} {x : Value} {ms : Array (String × TypeId)} (h : P.underlying t = some (.interface ms)) : (binOp .eql t (.iface u x) .nilIface).run P w = .ok (.bool false) w :=
  run_eql_held_nil w t u x (by rw [h]; simp [Program.methodsAt, h])
theorem b_inn {t : TypeId} {ms : Array (String × TypeId)} (h : P.underlying t = some (.interface ms)) : (binOp .eql t .nilIface .nilIface).run P w = .ok (.bool true) w :=
  run_eql_nil_nil w t (by rw [h]; simp [Program.methodsAt, h])
theorem r_makeiface (hF : Fr N L a) {x : Operand} {t : TypeId} {u : Value} (ho : o.op = .makeInterface t x) (hx : ev L x = some u) (hc : P.concrete t = true) : Does P o a w (.iface t u) w := by
  left; unfold execOp; simp [ho, hF.ev hx, run_makeInterface w t u hc]
end
theorem own_agg {w0 w : World} {H : List (Nat × Obj)} {i g : Nat} {cs : Array Value} {e : TypeId} {fr : Nat × Nat} (hH : Hp w0 w H) (hi : H[i]? = some (g, .cells cs e fr)) : ∀ j u, cs.toList[j]? = some u → w.cell? ⟨g, 0 + j, none⟩ = some u := fun j u hu => by
  rw [Nat.zero_add]; exact own_cell hH hi (by simpa using hu)

/-- An error of package cursor. -/
def errV (e : Nat) : Value := if e = 0 then .nilIface else .iface 154 (.agg #[.int .i64 e])

theorem as_nil (t : Value) (w0 : World) : Rets Tryd.prog 120 [.nilIface, t] w0 fun v w' => v = .bool false ∧ Ext w0 w' := by
  have hH := Hp.refl w0
  refine rets_start Tryd.func120 rfl Tryd.ntmps120 rfl fun a Q0 hF hret hend => ?_
  simp only [argsFrom, Nat.zero_add, Nat.reduceAdd] at hF
  refine c_seq fun Q1 k1 t1 => ?_
  refine c_reg fun ops => ?_
  refine ls hF rfl rfl rfl (r_assign hF rfl rfl) fun a hF => ?_
  refine wpList_nil ?_
  replace hF := hF.sel [0, 1]
  simp only [sel, lk, Nat.reduceBEq, cond_true, cond_false] at hF
  refine k1 ?_
  refine c_seq fun Q2 k2 t2 => ?_
  refine c_seq fun Q3 k3 t3 => ?_
  refine c_reg fun ops => ?_
  refine ls hF rfl rfl rfl (r_move hF rfl rfl) fun a hF => ?_
  refine ls hF rfl rfl rfl (r_bin hF rfl rfl rfl rfl (b_inn Tryd.underlying106)) fun a hF => ?_
  refine wpList_nil ?_
  replace hF := hF.sel [0, 1, 9]
  simp only [sel, lk, Nat.reduceBEq, cond_true, cond_false] at hF
  refine k3 ?_
  refine c_yes hF rfl (rfl) ?_
  refine c_seq fun Q4 k4 t4 => ?_
  refine c_reg fun ops => ?_
  refine ls hF rfl rfl rfl (r_assign hF rfl rfl) fun a hF => ?_
  refine wpList_nil ?_
  replace hF := hF.sel [4]
  simp only [sel, lk, Nat.reduceBEq, cond_true, cond_false] at hF
  refine k4 ?_
  refine wp_ret ?_
  refine t2.ret (hret (ret1 (fn := Tryd.f120) (t := 4) hF Tryd.results120 rfl ?_))
  exact ⟨rfl, hH.below⟩
theorem as2_hit {w0 w : World} {H : List (Nat × Obj)} {t b : Nat} {e : Nat} {old : Value} (hH : Hp w0 w ((t, .cells #[old] 154 (0, 0)) :: H)) (hb : w.cell? ⟨b, 0, none⟩ = some (.pointer (some ⟨t, 0, none⟩))) (x : Value) :
    Rets Tryd.prog 124 [.iface 154 (.agg #[.int .i64 e]), x, .agg #[.pointer (some ⟨1, 156, none⟩), .pointer (some ⟨b, 0, none⟩), .int .u64 150], .iface 169 (.agg #[.pointer (some ⟨1, 154, none⟩)])] w
      fun v w' => v = .bool true ∧ Hp w0 w' ((t, .cells #[.int .i64 e] 154 (0, 0)) :: H) := by
  refine rets_start Tryd.func124 rfl Tryd.ntmps124 rfl fun a Q0 hF hret hend => ?_
  simp only [argsFrom, Nat.zero_add, Nat.reduceAdd] at hF
  refine c_seq fun Q1 k1 t1 => ?_
  refine c_reg fun ops => ?_
  refine ls_box hF hH rfl rfl rfl rfl rfl ?_
  intro a w g0_0 hH hE hF
  replace hb := hE.cell hb
  refine ls hF rfl rfl rfl (r_assign hF rfl rfl) fun a hF => ?_
  refine wpList_nil ?_
  replace hF := hF.sel [0, 1, 3, 6]
  simp only [sel, lk, Nat.reduceBEq, cond_true, cond_false] at hF
  refine k1 ?_
  refine c_block fun Q2 t2 => ?_
  refine c_loop (fun n a w => n = 0 ∧ Fr 62 [(0, .iface 154 (.agg #[.int .i64 e])), (3, .iface 169 (.agg #[.pointer (some ⟨1, 154, none⟩)])), (6, .pointer (some ⟨g0_0, 0, none⟩))] a ∧ w.cell? ⟨b, 0, none⟩ = some (.pointer (some ⟨t, 0, none⟩)) ∧ Hp w0 w ((g0_0, .cells #[.pointer (some ⟨1, 156, none⟩), .pointer (some ⟨b, 0, none⟩), .int .u64 150] 159 (0, 0)) :: (t, .cells #[old] 154 (0, 0)) :: H)) ?_ ?_
  ·
   exact ⟨0, rfl, hF.keep [0, 3, 6] rfl, hb, hH⟩
  ·
   clear hb hH hF
   intro n a w hI Q3 k3 t3
   obtain ⟨_, hF, hb, hH⟩ := hI
   refine c_block fun Q4 t4 => ?_
   refine c_seq fun Q5 k5 t5 => ?_
   refine c_seq fun Q6 k6 t6 => ?_
   refine c_reg fun ops => ?_
   refine ls hF rfl rfl rfl (r_move hF rfl rfl) fun a hF => ?_
   refine ls_ext (ex := ReflectliteType.typeOf) hF rfl rfl rfl rfl rfl Tryd.func125 (by kernel_rfl) (by kernel_rfl) (by kernel_rfl) (by kernel_rfl) (rl_typeOfS _ _) fun a hF => ?_
   refine ls hF rfl rfl rfl (r_move hF rfl rfl) fun a hF => ?_
   refine ls_inv (ex := ReflectliteType.relation "AssignableTo" ReflectliteType.assignableTo) hF rfl rfl rfl rfl rfl rfl (rl_mAssign _ _) Tryd.func151 (by kernel_rfl) (by kernel_rfl) (by kernel_rfl) (by kernel_rfl) (rl_assignS _) fun a hF => ?_
   refine wpList_nil ?_
   refine k6 ?_
   refine c_yes hF rfl (rfl) ?_
   refine c_seq fun Q7 k7 t7 => ?_
   refine c_reg fun ops => ?_
   refine ls hF rfl rfl rfl (r_loadagg hF rfl rfl Tryd.underlying159 ti159 rfl (own_agg (i := 0) hH rfl)) fun a hF => ?_
   refine ls_ext (ex := ReflectliteValue.method (ReflectliteValue.valueError "reflectlite.Value.Elem" 0) ReflectliteValue.elem) hF rfl rfl rfl rfl rfl Tryd.func126 (by kernel_rfl) (by kernel_rfl) (by kernel_rfl) (by kernel_rfl) (rl_elemV _ _ _ hb) fun a hF => ?_
   refine ls hF rfl rfl rfl (r_move hF rfl rfl) fun a hF => ?_
   refine ls_ext (ex := fun args => ReflectliteValue.unpack (args.getD 0 (.tuple #[]))) hF rfl rfl rfl rfl rfl Tryd.func121 (by kernel_rfl) (by kernel_rfl) (by kernel_rfl) (by kernel_rfl) (rl_valueS _ _) fun a hF => ?_
   replace hH := hH.alloc (.cells #[.int .i64 e] 154 (0, 0))
   refine ls_ext (ex := ReflectliteValue.set) hF rfl rfl rfl rfl rfl Tryd.func127 (by kernel_rfl) (by kernel_rfl) (by kernel_rfl) (by kernel_rfl) (rl_set _ _ _ old _ rfl (own_cell (i := 0) hH rfl rfl) (own_cell (i := 2) hH rfl rfl) (by simp [World.frozen?, (hH.own _ (List.mem_of_getElem? (show _[2]? = some _ from rfl))).1])) fun a hF => ?_
   replace hH := hH.setCell (i := 2) (off := 0) (v := .int .i64 e) rfl
   refine wpList_nil ?_
   refine k7 ?_
   refine c_seq fun Q8 k8 t8 => ?_
   refine c_reg fun ops => ?_
   refine ls hF rfl rfl rfl (r_assign hF rfl rfl) fun a hF => ?_
   refine wpList_nil ?_
   refine k8 ?_
   refine wp_ret ?_
   refine t5.ret (t4.ret (t3.ret (t2.ret (hret (ret1 (fn := Tryd.f124) (t := 8) hF Tryd.results124 rfl ?_)))))
   exact ⟨rfl, hH.sub (.cons _ (.cons _ (List.Sublist.refl _)))⟩

theorem as_hit {w0 w : World} {H : List (Nat × Obj)} {t : Nat} {e : Nat} {old : Value} (hG : GW w0) (hH : Hp w0 w ((t, .cells #[old] 154 (0, 0)) :: H)) :
    Rets Tryd.prog 120 [.iface 154 (.agg #[.int .i64 e]), .iface 156 (.pointer (some ⟨t, 0, none⟩))] w
      fun v w' => v = .bool true ∧ Hp w0 w' ((t, .cells #[.int .i64 e] 154 (0, 0)) :: H) := by
  refine rets_start Tryd.func120 rfl Tryd.ntmps120 rfl fun a Q0 hF hret hend => ?_
  simp only [argsFrom, Nat.zero_add, Nat.reduceAdd] at hF
  refine c_seq fun Q1 k1 t1 => ?_
  refine c_reg fun ops => ?_
  refine ls hF rfl rfl rfl (r_assign hF rfl rfl) fun a hF => ?_
  refine wpList_nil ?_
  replace hF := hF.sel [0, 1]
  simp only [sel, lk, Nat.reduceBEq, cond_true, cond_false] at hF
  refine k1 ?_
  refine c_seq fun Q2 k2 t2 => ?_
  refine c_seq fun Q3 k3 t3 => ?_
  refine c_reg fun ops => ?_
  refine ls hF rfl rfl rfl (r_move hF rfl rfl) fun a hF => ?_
  refine ls hF rfl rfl rfl (r_bin hF rfl rfl rfl rfl (b_ieq Tryd.underlying106)) fun a hF => ?_
  refine wpList_nil ?_
  replace hF := hF.sel [0, 1, 9]
  simp only [sel, lk, Nat.reduceBEq, cond_true, cond_false] at hF
  refine k3 ?_
  refine c_no hF rfl (rfl) ?_
  refine wp_skip ?_
  refine k2 ?_
  refine c_seq fun Q4 k4 t4 => ?_
  refine c_seq fun Q5 k5 t5 => ?_
  refine c_reg fun ops => ?_
  refine ls hF rfl rfl rfl (r_move hF rfl rfl) fun a hF => ?_
  refine ls hF rfl rfl rfl (r_bin hF rfl rfl rfl rfl (b_ieq Tryd.underlying20)) fun a hF => ?_
  refine wpList_nil ?_
  replace hF := hF.sel [0, 1, 11]
  simp only [sel, lk, Nat.reduceBEq, cond_true, cond_false] at hF
  refine k5 ?_
  refine c_no hF rfl (rfl) ?_
  refine wp_skip ?_
  refine k4 ?_
  refine c_seq fun Q6 k6 t6 => ?_
  refine c_reg fun ops => ?_
  refine ls hF rfl rfl rfl (r_move hF rfl rfl) fun a hF => ?_
  refine ls_ext (ex := fun args => ReflectliteValue.unpack (args.getD 0 (.tuple #[]))) hF rfl rfl rfl rfl rfl Tryd.func121 (by kernel_rfl) (by kernel_rfl) (by kernel_rfl) (by kernel_rfl) (rl_valueP _ _) fun a hF => ?_
  replace hH := hH.alloc (.cells #[.pointer (some ⟨t, 0, none⟩)] 156 (0, 0))
  generalize w.alloc (.cells #[.pointer (some ⟨t, 0, none⟩)] 156) = w1 at *
  generalize w.heap.size = b at *
  refine ls_alloc hF hH rfl rfl rfl rfl zv159 ?_
  intro a w g5_2 hH hE hF
  refine ls_storeagg 0 hF hH rfl rfl rfl rfl rfl ti159 rfl (rfl) (rfl) (by simp [Value.oneCell']) ?_
  intro w hH
  refine wpList_nil ?_
  replace hF := hF.sel [0, 1, 5]
  simp only [sel, lk, Nat.reduceBEq, cond_true, cond_false] at hF
  refine k6 ?_
  refine c_seq fun Q7 k7 t7 => ?_
  refine c_reg fun ops => ?_
  refine ls hF rfl rfl rfl (r_loadagg hF rfl rfl Tryd.underlying159 ti159 rfl (own_agg (i := 0) hH rfl)) fun a hF => ?_
  refine ls_ext (ex := ReflectliteValue.methodAny (ReflectliteValue.valueError "reflectlite.Value.Type" 0) (fun t _ _ _ => ReflectliteType.toType t)) hF rfl rfl rfl rfl rfl Tryd.func122 (by kernel_rfl) (by kernel_rfl) (by kernel_rfl) (by kernel_rfl) (rl_typeP _ _) fun a hF => ?_
  refine ls hF rfl rfl rfl (r_assign hF rfl rfl) fun a hF => ?_
  refine wpList_nil ?_
  replace hF := hF.sel [0, 1, 5, 6]
  simp only [sel, lk, Nat.reduceBEq, cond_true, cond_false] at hF
  refine k7 ?_
  refine c_seq fun Q8 k8 t8 => ?_
  refine c_seq fun Q9 k9 t9 => ?_
  refine c_regg ?_
  refine ls hF rfl rfl rfl (r_move hF rfl rfl) fun a hF => ?_
  refine ls_inv (ex := ReflectliteType.abiMethod fun t => do pure (.int .u8 (← Rtype.kind t))) hF rfl rfl rfl rfl rfl rfl (rl_mKind _ _) Tryd.func142 (by kernel_rfl) (by kernel_rfl) (by kernel_rfl) (by kernel_rfl) (rl_kindP _) fun a hF => ?_
  refine ls hF rfl rfl rfl (r_bin hF rfl rfl rfl rfl (b_ne _ _ _ _)) fun a hF => ?_
  refine ls hF rfl rfl rfl (r_move hF rfl rfl) fun a hF => ?_
  refine ls_ask (d := 20) hF rfl (fun g7_3 => ?_) (fun g7_3 => ?_)
  ·
   have g7_3' := g7_3; try simp only [q1, q2, q3, q4, q5, q6, q7, q8, q9, qa, qb] at g7_3'
   exact absurd g7_3 (by decide)
  ·
   have g7_3' := g7_3; try simp only [q1, q2, q3, q4, q5, q6, q7, q8, q9, qa, qb] at g7_3'
   refine lsy hF rfl rfl rfl g7_3 rfl rfl (r_loadagg hF rfl rfl Tryd.underlying159 ti159 rfl (own_agg (i := 0) hH rfl)) fun a hF => ?_
   refine lsy_ext (ex := ReflectliteValue.method (ReflectliteValue.valueError "reflectlite.Value.IsNil" 0) ReflectliteValue.isNil) hF rfl rfl rfl g7_3 rfl rfl rfl rfl Tryd.func123 (by kernel_rfl) (by kernel_rfl) (by kernel_rfl) (by kernel_rfl) (rl_isNilP _ ⟨t, 0, none⟩ _ (own_cell (i := 1) hH rfl rfl)) fun a hF => ?_
   refine ls hF rfl rfl rfl (r_pickf hF rfl rfl g7_3 rfl) fun a hF => ?_
   refine wpList_nil ?_
   replace hF := hF.sel [0, 1, 5, 6, 23]
   simp only [sel, lk, Nat.reduceBEq, cond_true, cond_false] at hF
   refine k9 ?_
   refine c_no hF rfl (rfl) ?_
   refine wp_skip ?_
   refine k8 ?_
   refine c_seq fun Q10 k10 t10 => ?_
   refine c_reg fun ops => ?_
   refine ls hF rfl rfl rfl (r_move hF rfl rfl) fun a hF => ?_
   refine ls_inv (ex := ReflectliteType.method ReflectliteType.elem) hF rfl rfl rfl rfl rfl rfl (rl_mElem _ _) Tryd.func153 (by kernel_rfl) (by kernel_rfl) (by kernel_rfl) (by kernel_rfl) (rl_elemP _) fun a hF => ?_
   refine ls hF rfl rfl rfl (r_assign hF rfl rfl) fun a hF => ?_
   refine wpList_nil ?_
   replace hF := hF.sel [0, 1, 5, 7]
   simp only [sel, lk, Nat.reduceBEq, cond_true, cond_false] at hF
   refine k10 ?_
   refine c_seq fun Q11 k11 t11 => ?_
   refine c_seq fun Q12 k12 t12 => ?_
   refine c_regg ?_
   refine ls hF rfl rfl rfl (r_move hF rfl rfl) fun a hF => ?_
   refine ls_inv (ex := ReflectliteType.abiMethod fun t => do pure (.int .u8 (← Rtype.kind t))) hF rfl rfl rfl rfl rfl rfl (rl_mKind _ _) Tryd.func142 (by kernel_rfl) (by kernel_rfl) (by kernel_rfl) (by kernel_rfl) (rl_kindS _) fun a hF => ?_
   refine ls hF rfl rfl rfl (r_bin hF rfl rfl rfl rfl (b_ne _ _ _ _)) fun a hF => ?_
   refine ls hF rfl rfl rfl (r_move hF rfl rfl) fun a hF => ?_
   refine ls_ask (d := 30) hF rfl (fun g10_3 => ?_) (fun g10_3 => ?_)
   ·
    have g10_3' := g10_3; try simp only [q1, q2, q3, q4, q5, q6, q7, q8, q9, qa, qb] at g10_3'
    refine lsy hF rfl rfl rfl g10_3 rfl rfl (r_move hF rfl rfl) fun a hF => ?_
    refine lsy hF rfl rfl rfl g10_3 rfl rfl (r_load hF rfl rfl fl162 (hH.cell hG)) fun a hF => ?_
    refine lsy_inv (ex := ReflectliteType.relation "Implements" ReflectliteType.implements_) hF rfl rfl rfl g10_3 rfl rfl rfl rfl rfl (rl_mImpl _ _) Tryd.func154 (by kernel_rfl) (by kernel_rfl) (by kernel_rfl) (by kernel_rfl) (rl_implS _) fun a hF => ?_
    refine lsy hF rfl rfl rfl g10_3 rfl rfl (r_not hF rfl rfl) fun a hF => ?_
    refine ls hF rfl rfl rfl (r_pickt hF rfl rfl g10_3 rfl) fun a hF => ?_
    refine wpList_nil ?_
    replace hF := hF.sel [0, 1, 5, 7, 35]
    simp only [sel, lk, Nat.reduceBEq, cond_true, cond_false] at hF
    refine k12 ?_
    refine c_no hF rfl (rfl) ?_
    refine wp_skip ?_
    refine k11 ?_
    refine c_seq fun Q13 k13 t13 => ?_
    refine c_reg fun ops => ?_
    refine ls hF rfl rfl rfl (r_move hF rfl rfl) fun a hF => ?_
    refine ls hF rfl rfl rfl (r_move hF rfl rfl) fun a hF => ?_
    refine ls hF rfl rfl rfl (r_loadagg hF rfl rfl Tryd.underlying159 ti159 rfl (own_agg (i := 0) hH rfl)) fun a hF => ?_
    refine ls hF rfl rfl rfl (r_move hF rfl rfl) fun a hF => ?_
    replace hH := hH.perm (H' := (t, .cells #[old] 154 (0, 0)) :: (_ :: _ :: H)) (List.Perm.trans (List.Perm.swap _ _ _) (List.Perm.cons _ (List.Perm.swap _ _ _)))
    have hb := own_cell (i := 2) (j := 0) (v := .pointer (some ⟨t, 0, none⟩)) hH rfl rfl
    refine ls_call hF rfl rfl rfl rfl rfl fn124 (as2_hit hH hb _) ?_
    rintro _ w ⟨rfl, hH⟩ a hF
    refine ls hF rfl rfl rfl (r_assign hF rfl rfl) fun a hF => ?_
    refine wpList_nil ?_
    replace hF := hF.sel [4]
    simp only [sel, lk, Nat.reduceBEq, cond_true, cond_false] at hF
    refine k13 ?_
    refine wp_ret ?_
    refine hret (ret1 (fn := Tryd.f120) (t := 4) hF Tryd.results120 rfl ?_)
    exact ⟨rfl, hH.sub (.cons_cons _ (.cons _ (.cons _ (List.Sublist.refl _))))⟩
   ·
    have g10_3' := g10_3; try simp only [q1, q2, q3, q4, q5, q6, q7, q8, q9, qa, qb] at g10_3'
    exact absurd g10_3 (by decide)
end Go.Proofs.YtcelgjabccgnmaaDoor
