/-
  The walk of errors.As at the one error that package cursor makes, and at nil: after the guide's worked example of errors.As. Nothing is claimed here.
  The walks of errors.As, at a nil error and at the one error that package cursor makes, and of cursor.told. Nothing is claimed here.
-/
import Derived.Test.YtpoebplhemimmaaGreatDoorCmp
import Derived.LaidEql
import Derived.Stop.Asserts
import Derived.RowKitTokens
namespace Go.Proofs.YtpoebplhemimmaaGreatDoor
variable {Ds : List Deferred}
open Go.RowKit Go.Extern.Stop Go.Stop Go.Extern
set_option linter.unusedVariables false
set_option linter.unusedSimpArgs false
set_option maxHeartbeats 1000000

/-- What package errors keeps. -/
def GW (w : World) : Prop := w.cell? ⟨2, 0, none⟩ = some (.iface 213 (.agg #[.pointer (some ⟨3, 154, none⟩)]))
theorem GW.ext {w w' : World} (h : GW w) (he : Ext w w') : GW w' := he.cell h

theorem rl_valueP (t : Addr) (w : World) : (ReflectliteValue.unpack (.iface 184 (.pointer (some t)))).run Tryz.prog w
    = .ok (.agg #[.pointer (some ⟨3, 184, none⟩), .pointer (some ⟨w.heap.size, 0, none⟩), .int .u64 150]) (w.alloc (.cells #[.pointer (some t)] 184)) := by kernel_rfl
theorem rl_typeP (a : Addr) (w : World) : (ReflectliteValue.methodAny (ReflectliteValue.valueError "reflectlite.Value.Type" 0) (fun t _ _ _ => ReflectliteType.toType t) #[.agg #[.pointer (some ⟨3, 184, none⟩), .pointer (some a), .int .u64 150]]).run Tryz.prog w
    = .ok (.iface 213 (.agg #[.pointer (some ⟨3, 184, none⟩)])) w := by kernel_rfl
theorem rl_mKind (h : Value) (w : World) : (Go.method (Tryz.prog.types.size + Made.depth) 213 (.agg #[h]) "Kind").run Tryz.prog w = .ok (130, h) w := by kernel_rfl
theorem rl_kindP (w : World) : ((ReflectliteType.abiMethod fun t => (fun a : Nat => Value.int IntKind.u8 (a : Int)) <$> Rtype.kind t) #[.pointer (some ⟨3, 184, none⟩)]).run Tryz.prog w = .ok (.int .u8 22) w := by kernel_rfl
theorem rl_kindS (w : World) : ((ReflectliteType.abiMethod fun t => (fun a : Nat => Value.int IntKind.u8 (a : Int)) <$> Rtype.kind t) #[.pointer (some ⟨3, 182, none⟩)]).run Tryz.prog w = .ok (.int .u8 25) w := by kernel_rfl
theorem rlm (z : Sem Value) (f : TypeId → Addr → Nat → Nat → Sem Value) (v : Value) :
    ReflectliteValue.method z f #[v] = (do match ← ReflectliteValue.parts v with | none => z | some (t, a, fl) => f t a fl (fl % 32)) := rfl
theorem rl_partsP (a : Addr) (w : World) : (ReflectliteValue.parts (.agg #[.pointer (some ⟨3, 184, none⟩), .pointer (some a), .int .u64 150])).run Tryz.prog w = .ok (some (184, a, 150)) w := by kernel_rfl
theorem rl_isNilP (a p : Addr) (W : World) (ha : W.cell? a = some (.pointer (some p))) :
    (ReflectliteValue.method (ReflectliteValue.valueError "reflectlite.Value.IsNil" 0) ReflectliteValue.isNil #[.agg #[.pointer (some ⟨3, 184, none⟩), .pointer (some a), .int .u64 150]]).run Tryz.prog W = .ok (.bool false) W := by
  rw [rlm]
  simp only [Sem.run_bind, rl_partsP, Result.andThen]
  simp [ReflectliteValue.isNil, loadVar, isAgg, underlying, Tryz.underlying184, ha, Result.andThen]
theorem rl_mElem (h : Value) (w : World) : (Go.method (Tryz.prog.types.size + Made.depth) 213 (.agg #[h]) "Elem").run Tryz.prog w = .ok (141, .agg #[h]) w := by kernel_rfl
theorem rl_mImpl (h : Value) (w : World) : (Go.method (Tryz.prog.types.size + Made.depth) 213 (.agg #[h]) "Implements").run Tryz.prog w = .ok (142, .agg #[h]) w := by kernel_rfl
theorem rl_mAssign (h : Value) (w : World) : (Go.method (Tryz.prog.types.size + Made.depth) 213 (.agg #[h]) "AssignableTo").run Tryz.prog w = .ok (139, .agg #[h]) w := by kernel_rfl
theorem rl_elemP (w : World) : (ReflectliteType.method ReflectliteType.elem #[.agg #[.pointer (some ⟨3, 184, none⟩)]]).run Tryz.prog w = .ok (.iface 213 (.agg #[.pointer (some ⟨3, 182, none⟩)])) w := by kernel_rfl
theorem rl_implS (w : World) : (ReflectliteType.relation "Implements" ReflectliteType.implements_ #[.agg #[.pointer (some ⟨3, 182, none⟩)], .iface 213 (.agg #[.pointer (some ⟨3, 154, none⟩)])]).run Tryz.prog w = .ok (.bool true) w := by kernel_rfl
theorem rl_typeOfS (v : Value) (w : World) : (ReflectliteType.typeOf #[.iface 182 v]).run Tryz.prog w = .ok (.iface 213 (.agg #[.pointer (some ⟨3, 182, none⟩)])) w := by kernel_rfl
theorem rl_assignS (w : World) : (ReflectliteType.relation "AssignableTo" ReflectliteType.assignableTo #[.agg #[.pointer (some ⟨3, 182, none⟩)], .iface 213 (.agg #[.pointer (some ⟨3, 182, none⟩)])]).run Tryz.prog w = .ok (.bool true) w := by kernel_rfl
theorem rl_valueS (v : Value) (w : World) : (ReflectliteValue.unpack (.iface 182 (.agg #[v]))).run Tryz.prog w
    = .ok (.agg #[.pointer (some ⟨3, 182, none⟩), .pointer (some ⟨w.heap.size, 0, none⟩), .int .u64 153]) (w.alloc (.cells #[v] 182)) := by kernel_rfl
theorem rl_elemOfP (w : World) : (Rtype.elem? 184).run Tryz.prog w = .ok (some 182) w := by kernel_rfl
theorem rl_mkS (p : Addr) (w : World) : (ReflectliteValue.mk 182 p ReflectliteValue.flagAddr).run Tryz.prog w = .ok (.agg #[.pointer (some ⟨3, 182, none⟩), .pointer (some p), .int .u64 409]) w := by kernel_rfl
theorem rl_elemV (a p : Addr) (W : World) (ha : W.cell? a = some (.pointer (some p))) :
    (ReflectliteValue.method (ReflectliteValue.valueError "reflectlite.Value.Elem" 0) ReflectliteValue.elem #[.agg #[.pointer (some ⟨3, 184, none⟩), .pointer (some a), .int .u64 150]]).run Tryz.prog W
      = .ok (.agg #[.pointer (some ⟨3, 182, none⟩), .pointer (some p), .int .u64 409]) W := by
  rw [rlm]
  simp only [Sem.run_bind, rl_partsP, Result.andThen]
  simp [ReflectliteValue.elem, loadVar, isAgg, underlying, Tryz.underlying184, ha, Result.andThen, rl_elemOfP, rl_mkS]
theorem rls (v x : Value) : ReflectliteValue.set #[v, x] = (do
    let (some (dst, a, fl), some (src, b, _)) := (← ReflectliteValue.parts v, ← ReflectliteValue.parts x)
      | unsupported (.noEntry "extern/(internal/reflectlite.Value).Set.zeroValue")
    if fl / ReflectliteValue.flagAddr % 2 == 0 then unsupported (.noEntry "extern/(internal/reflectlite.Value).Set.unaddressable")
    let val ← loadVar src b
    if ← Rtype.directlyAssignable dst src then storeVar dst a val
    else if ← Rtype.implements dst src then
      if (← Rtype.kind src) == 20 then
        match val with
        | .nilIface => unsupported (.noEntry "extern/reflectlite: a nil value of one interface type handed on as a value of another")
        | _ => storeVar dst a val
      else storeVar dst a (.iface src val)
    else panicString ("reflectlite.Set: value of type " ++ (← Rtype.spelt src) ++ " is not assignable to type " ++ (← Rtype.spelt dst))
    pure (.tuple #[])) := rfl
theorem rl_partsSa (a : Addr) (w : World) : (ReflectliteValue.parts (.agg #[.pointer (some ⟨3, 182, none⟩), .pointer (some a), .int .u64 409])).run Tryz.prog w = .ok (some (182, a, 409)) w := by kernel_rfl
theorem rl_partsS (a : Addr) (w : World) : (ReflectliteValue.parts (.agg #[.pointer (some ⟨3, 182, none⟩), .pointer (some a), .int .u64 153])).run Tryz.prog w = .ok (some (182, a, 153)) w := by kernel_rfl
theorem rl_directS (w : World) : (Rtype.directlyAssignable 182 182).run Tryz.prog w = .ok true w := by kernel_rfl
theorem rl_set (g b : Nat) (v old : Value) (W : World) (h1 : v.oneCell' = true) (hb : W.cell? ⟨b, 0, none⟩ = some v) (ht : W.cell? ⟨g, 0, none⟩ = some old) (hf : W.frozen? ⟨g, 0, none⟩ = false) :
    (ReflectliteValue.set #[.agg #[.pointer (some ⟨3, 182, none⟩), .pointer (some ⟨g, 0, none⟩), .int .u64 409], .agg #[.pointer (some ⟨3, 182, none⟩), .pointer (some ⟨b, 0, none⟩), .int .u64 153]]).run Tryz.prog W
      = .ok (.tuple #[]) (W.setCell ⟨g, 0, none⟩ v) := by
  rw [rls]
  have hl := run_loadCells_list (P := Tryz.prog) W ⟨b, 0, none⟩ [v] (fun j u hu => by
    cases j with
    | zero => simp at hu; subst hu; rw [Addr.add_lit]; exact hb
    | succ j => simp at hu)
  simp only [Sem.run_bind, rl_partsSa, rl_partsS, Result.andThen]
  simp [ReflectliteValue.flagAddr, loadVar, isAgg, underlying, Tryz.underlying182, Result.andThen, rl_directS, storeVar, storeCells, Addr.add, SZ1_of (P := Tryz.prog) (ti_of (e := 182) (size := 1) (bytes := 8) (by kernel_rfl)), cells_agg]
  rw [show loadCells ⟨b, 0, none⟩ 1 = loadCells ⟨b, 0, none⟩ [v].length from rfl, hl]
  simp [storeCells, Addr.add]
  rw [run_store Tryz.prog W ⟨g, 0, none⟩ v _ h1]
  simp [ht, hf]
end Go.Proofs.YtpoebplhemimmaaGreatDoor
namespace Go.Proofs.YtpoebplhemimmaaGreatDoor
variable {Ds : List Deferred}
open Go.RowKit Go.Extern
set_option linter.unusedVariables false
set_option linter.unusedSimpArgs false
set_option maxHeartbeats 1000000

section
variable {P : Program} {ops : Array Oper} {Q : Exit → Act → World → Prop} {rest : List Oper} {o : Oper} {a : Act} {w w0 w' : World} {N dd : Nat} {L : List (Nat × Value)} {H B : List (Nat × Obj)} {v : Value}
/-- A method of what an interface holds, without a body. -/
theorem ls_inv {x : Operand} {name : String} {xs : Array Operand} {ats : Array TypeId} {t : TypeId} {h u recv : Value} {vs : List Value} {f : FuncId} {fn : Func} {ex : Array Value → Sem Value} (hF : FrD Ds N L a) (hg : o.guard = none) (hdst : o.dst = some dd) (hd : Nat.blt dd N = true)
    (ho : o.op = .call { callee := .invoke x name, args := xs, argTypes := ats }) (hx : ev L x = some (.iface t h)) (hxs : evl L xs.toList = some vs) (hm : (Go.method (P.types.size + Made.depth) t h name).run P w = .ok (f, recv) w)
    (hf : P.funcs[f]? = some fn) (hn : (fn.name == "runtime.NumGoroutine") = false) (hb : fn.body.isNone = true) (h1 : Extern.findNext fn = none) (h2 : Extern.find fn = some ex) (hr : (ex (recv :: vs).toArray).run P w = .ok u w')
    (k : ∀ a', FrD Ds N ((dd, u) :: L) a' → wpList P ops Q rest a' w') : wpList P ops Q (o :: rest) a w := by
  refine ls hF hg hdst hd (v := u) (w' := w') (.inl ?_) k
  have hx2 := hF.ev hx
  have hms : xs.map a.eval = vs.toArray := by
    apply Array.ext'; simpa using hF.evl hxs
  have hc := run_callFunc_extern hf hn hb h1 h2 (#[recv] ++ vs.toArray) w
  have e : #[recv] ++ vs.toArray = (recv :: vs).toArray := by simp
  rw [e, hr] at hc
  unfold execOp
  simp [ho, resolve, hx2, hms, invoke, callMethod, hm, hc, Result.andThen]
theorem lsy_inv {x : Operand} {name : String} {xs : Array Operand} {ats : Array TypeId} {t : TypeId} {h u recv : Value} {vs : List Value} {f : FuncId} {fn : Func} {ex : Array Value → Sem Value} {j d : Nat} {b want : Bool} (hF : FrD Ds N L a) (hg : o.guard = some (j, want)) (hj : (ops[j]?).bind (·.dst) = some d) (hb' : lk L d = some (.bool b)) (hw : b = want) (hdst : o.dst = some dd) (hd : Nat.blt dd N = true)
    (ho : o.op = .call { callee := .invoke x name, args := xs, argTypes := ats }) (hx : ev L x = some (.iface t h)) (hxs : evl L xs.toList = some vs) (hm : (Go.method (P.types.size + Made.depth) t h name).run P w = .ok (f, recv) w)
    (hf : P.funcs[f]? = some fn) (hn : (fn.name == "runtime.NumGoroutine") = false) (hb : fn.body.isNone = true) (h1 : Extern.findNext fn = none) (h2 : Extern.find fn = some ex) (hr : (ex (recv :: vs).toArray).run P w = .ok u w')
    (k : ∀ a', FrD Ds N ((dd, u) :: L) a' → wpList P ops Q rest a' w') : wpList P ops Q (o :: rest) a w := by
  refine lsy hF hg hj hb' hw hdst hd (v := u) (w' := w') (.inl ?_) k
  have hx2 := hF.ev hx
  have hms : xs.map a.eval = vs.toArray := by
    apply Array.ext'; simpa using hF.evl hxs
  have hc := run_callFunc_extern hf hn hb h1 h2 (#[recv] ++ vs.toArray) w
  have e : #[recv] ++ vs.toArray = (recv :: vs).toArray := by simp
  rw [e, hr] at hc
  unfold execOp
  simp [ho, resolve, hx2, hms, invoke, callMethod, hm, hc, Result.andThen]
theorem lsy_ext {f : FuncId} {fn : Func} {ex : Array Value → Sem Value} {xs : Array Operand} {ats : Array TypeId} {vs : List Value} {u : Value} {j d : Nat} {b want : Bool} (hF : FrD Ds N L a) (hg : o.guard = some (j, want)) (hj : (ops[j]?).bind (·.dst) = some d) (hb' : lk L d = some (.bool b)) (hw : b = want) (hdst : o.dst = some dd) (hd : Nat.blt dd N = true)
    (ho : o.op = .call { callee := .value (.func f), args := xs, argTypes := ats }) (hxs : evl L xs.toList = some vs) (hf : P.funcs[f]? = some fn) (hn : (fn.name == "runtime.NumGoroutine") = false) (hb : fn.body.isNone = true)
    (h1 : Extern.findNext fn = none) (h2 : Extern.find fn = some ex) (hr : (ex vs.toArray).run P w = .ok u w')
    (k : ∀ a', FrD Ds N ((dd, u) :: L) a' → wpList P ops Q rest a' w') : wpList P ops Q (o :: rest) a w := by
  refine lsy hF hg hj hb' hw hdst hd (v := u) (w' := w') (.inl ?_) k
  have hm : xs.map a.eval = vs.toArray := by
    apply Array.ext'; simpa using hF.evl hxs
  have hc := run_callFunc_extern hf hn hb h1 h2 vs.toArray w
  rw [hr] at hc
  unfold execOp
  simp [ho, resolve, Act.eval, Deferred.ofValue, hm, invoke, hc, Result.andThen]
theorem b_ieq {t u : TypeId} {x : Value} {ms : Array (String × TypeId)} (h : P.underlying t = some (.interface ms)) : (binOp .eql t (.iface u x) .nilIface).run P w = .ok (.bool false) w :=
  run_eql_held_nil w t u x (by rw [h]; simp [Program.methodsAt, h])
theorem b_inn {t : TypeId} {ms : Array (String × TypeId)} (h : P.underlying t = some (.interface ms)) : (binOp .eql t .nilIface .nilIface).run P w = .ok (.bool true) w :=
  run_eql_nil_nil w t (by rw [h]; simp [Program.methodsAt, h])
theorem r_makeiface (hF : FrD Ds N L a) {x : Operand} {t : TypeId} {u : Value} (ho : o.op = .makeInterface t x) (hx : ev L x = some u) (hc : P.concrete t = true) : Does P o a w (.iface t u) w := by
  left; unfold execOp; simp [ho, hF.ev hx, run_makeInterface w t u hc]
end
theorem own_agg {w0 w : World} {H : List (Nat × Obj)} {i g : Nat} {cs : Array Value} {e : TypeId} {fr : Nat × Nat} (hH : Hp w0 w H) (hi : H[i]? = some (g, .cells cs e fr)) : ∀ j u, cs.toList[j]? = some u → w.cell? ⟨g, 0 + j, none⟩ = some u := fun j u hu => by
  rw [Nat.zero_add]; exact own_cell hH hi (by simpa using hu)

/-- An error of package cursor. -/
def errV (e : Nat) : Value := if e = 0 then .nilIface else .iface 182 (.agg #[.int .i64 e])

theorem as_nil (t : Value) (w0 : World) : Rets Tryz.prog 92 [.nilIface, t] w0 fun v w' => v = .bool false ∧ Ext w0 w' := by
  have hH := Hp.refl w0
  refine rets_start Tryz.func92 rfl Tryz.ntmps92 rfl fun a Q0 hF hret hend => ?_
  simp only [argsFrom, Nat.zero_add, Nat.reduceAdd] at hF
  refine c_sr fun ops => ?_
  refine zm 1 hF rfl fun a hF => ?_
  refine c_n ?_
  replace hF := hF.sel [0, 1]
  simp only [ss, Nat.reduceBEq] at hF
  refine c_seq fun Q1 k1 t1 => ?_
  refine c_sr fun ops => ?_
  refine zm 1 hF rfl fun a hF => ?_
  refine zb hF rfl rfl rfl (b_inn Tryz.underlying154) fun a hF => ?_
  refine c_n ?_
  replace hF := hF.sel [0, 1, 9]
  simp only [ss, Nat.reduceBEq] at hF
  refine c_yes hF rfl (rfl) ?_
  refine c_sr fun ops => ?_
  refine zm 1 hF rfl fun a hF => ?_
  refine c_n ?_
  replace hF := hF.sel [4]
  simp only [ss, Nat.reduceBEq] at hF
  refine wp_ret (t1.ret (hret (ret1 hF Tryz.results92 rfl ?_)))
  exact ⟨rfl, hH.below⟩
theorem as2_hit {w0 w : World} {H : List (Nat × Obj)} {t b : Nat} {e : Nat} {old : Value} (hH : Hp w0 w ((t, .cells #[old] 182 (0, 0)) :: H)) (hb : w.cell? ⟨b, 0, none⟩ = some (.pointer (some ⟨t, 0, none⟩))) (x : Value) :
    Rets Tryz.prog 104 [.iface 182 (.agg #[.int .i64 e]), x, .agg #[.pointer (some ⟨3, 184, none⟩), .pointer (some ⟨b, 0, none⟩), .int .u64 150], .iface 213 (.agg #[.pointer (some ⟨3, 182, none⟩)])] w
      fun v w' => v = .bool true ∧ Hp w0 w' ((t, .cells #[.int .i64 e] 182 (0, 0)) :: H) := by
  refine rets_start Tryz.func104 rfl Tryz.ntmps104 rfl fun a Q0 hF hret hend => ?_
  simp only [argsFrom, Nat.zero_add, Nat.reduceAdd] at hF
  refine c_sr fun ops => ?_
  refine ls_box hF hH rfl rfl rfl rfl rfl ?_
  intro a w g0_0 hH hE hF
  replace hb := hE.cell hb
  refine zm 1 hF rfl fun a hF => ?_
  refine c_n ?_
  replace hF := hF.sel [0, 1, 3, 6]
  simp only [ss, Nat.reduceBEq] at hF
  refine c_block fun Q1 t1 => ?_
  refine c_loop (fun n a w => n = 0 ∧ Fr 62 [(0, .iface 182 (.agg #[.int .i64 e])), (3, .iface 213 (.agg #[.pointer (some ⟨3, 182, none⟩)])), (6, .pointer (some ⟨g0_0, 0, none⟩))] a ∧ w.cell? ⟨b, 0, none⟩ = some (.pointer (some ⟨t, 0, none⟩)) ∧ Hp w0 w ((g0_0, .cells #[.pointer (some ⟨3, 184, none⟩), .pointer (some ⟨b, 0, none⟩), .int .u64 150] 199 (0, 0)) :: (t, .cells #[old] 182 (0, 0)) :: H)) ?_ ?_
  ·
   exact ⟨0, rfl, hF.keep [0, 3, 6] rfl, hb, hH⟩
  clear hb hH hF
  intro n a w hI Q2 k2 t2
  obtain ⟨_, hF, hb, hH⟩ := hI
  refine c_block fun Q3 t3 => ?_
  refine c_seq fun Q4 k4 t4 => ?_
  refine c_sr fun ops => ?_
  refine zm 1 hF rfl fun a hF => ?_
  refine ls_ext (ex := ReflectliteType.typeOf) hF rfl rfl rfl rfl rfl Tryz.func112 (by kernel_rfl) (by kernel_rfl) (by kernel_rfl) (by kernel_rfl) (rl_typeOfS _ _) fun a hF => ?_
  refine zm 1 hF rfl fun a hF => ?_
  refine ls_inv (ex := ReflectliteType.relation "AssignableTo" ReflectliteType.assignableTo) hF rfl rfl rfl rfl rfl rfl (rl_mAssign _ _) Tryz.func139 (by kernel_rfl) (by kernel_rfl) (by kernel_rfl) (by kernel_rfl) (rl_assignS _) fun a hF => ?_
  refine c_n ?_
  refine c_yes hF rfl (rfl) ?_
  refine c_sr fun ops => ?_
  refine zl hF rfl (r_loadagg hF rfl rfl Tryz.underlying199 ti199 rfl (own_agg (i := 0) hH rfl)) fun a hF => ?_
  refine ls_ext (ex := ReflectliteValue.method (ReflectliteValue.valueError "reflectlite.Value.Elem" 0) ReflectliteValue.elem) hF rfl rfl rfl rfl rfl Tryz.func113 (by kernel_rfl) (by kernel_rfl) (by kernel_rfl) (by kernel_rfl) (rl_elemV _ _ _ hb) fun a hF => ?_
  refine zm 1 hF rfl fun a hF => ?_
  refine ls_ext (ex := fun args => ReflectliteValue.unpack (args.getD 0 (.tuple #[]))) hF rfl rfl rfl rfl rfl Tryz.func101 (by kernel_rfl) (by kernel_rfl) (by kernel_rfl) (by kernel_rfl) (rl_valueS _ _) fun a hF => ?_
  replace hH := hH.alloc (.cells #[.int .i64 e] 182 (0, 0))
  refine ls_ext (ex := ReflectliteValue.set) hF rfl rfl rfl rfl rfl Tryz.func114 (by kernel_rfl) (by kernel_rfl) (by kernel_rfl) (by kernel_rfl) (rl_set _ _ _ old _ rfl (own_cell (i := 0) hH rfl rfl) (own_cell (i := 2) hH rfl rfl) (by simp [World.frozen?, (hH.own _ (List.mem_of_getElem? (show _[2]? = some _ from rfl))).1])) fun a hF => ?_
  replace hH := hH.setCell (i := 2) (off := 0) (v := .int .i64 e) rfl
  refine c_n ?_
  refine c_sr fun ops => ?_
  refine zm 1 hF rfl fun a hF => ?_
  refine c_n ?_
  refine wp_ret (t4.ret (t3.ret (t2.ret (t1.ret (hret (ret1 hF Tryz.results104 rfl ?_))))))
  exact ⟨rfl, hH.sub (.cons _ (.cons _ (List.Sublist.refl _)))⟩

theorem as_hit {w0 w : World} {H : List (Nat × Obj)} {t : Nat} {e : Nat} {old : Value} (hG : GW w0) (hH : Hp w0 w ((t, .cells #[old] 182 (0, 0)) :: H)) :
    Rets Tryz.prog 92 [.iface 182 (.agg #[.int .i64 e]), .iface 184 (.pointer (some ⟨t, 0, none⟩))] w
      fun v w' => v = .bool true ∧ Hp w0 w' ((t, .cells #[.int .i64 e] 182 (0, 0)) :: H) := by
  refine rets_start Tryz.func92 rfl Tryz.ntmps92 rfl fun a Q0 hF hret hend => ?_
  simp only [argsFrom, Nat.zero_add, Nat.reduceAdd] at hF
  refine c_sr fun ops => ?_
  refine zm 1 hF rfl fun a hF => ?_
  refine c_n ?_
  replace hF := hF.sel [0, 1]
  simp only [ss, Nat.reduceBEq] at hF
  refine c_seq fun Q1 k1 t1 => ?_
  refine c_sr fun ops => ?_
  refine zm 1 hF rfl fun a hF => ?_
  refine zb hF rfl rfl rfl (b_ieq Tryz.underlying154) fun a hF => ?_
  refine c_n ?_
  replace hF := hF.sel [0, 1, 9]
  simp only [ss, Nat.reduceBEq] at hF
  refine c_no hF rfl (rfl) ?_
  refine wp_skip ?_
  refine k1 ?_
  refine c_seq fun Q2 k2 t2 => ?_
  refine c_sr fun ops => ?_
  refine zm 1 hF rfl fun a hF => ?_
  refine zb hF rfl rfl rfl (b_ieq Tryz.underlying20) fun a hF => ?_
  refine c_n ?_
  replace hF := hF.sel [0, 1, 11]
  simp only [ss, Nat.reduceBEq] at hF
  refine c_no hF rfl (rfl) ?_
  refine wp_skip ?_
  refine k2 ?_
  refine c_sr fun ops => ?_
  refine zm 1 hF rfl fun a hF => ?_
  refine ls_ext (ex := fun args => ReflectliteValue.unpack (args.getD 0 (.tuple #[]))) hF rfl rfl rfl rfl rfl Tryz.func101 (by kernel_rfl) (by kernel_rfl) (by kernel_rfl) (by kernel_rfl) (rl_valueP _ _) fun a hF => ?_
  replace hH := hH.alloc (.cells #[.pointer (some ⟨t, 0, none⟩)] 184 (0, 0))
  generalize w.alloc (.cells #[.pointer (some ⟨t, 0, none⟩)] 184) = w1 at *
  generalize w.heap.size = b at *
  refine ls_alloc hF hH rfl rfl rfl rfl zv199 ?_
  intro a w g5_2 hH hE hF
  refine ls_storeagg 0 hF hH rfl rfl rfl rfl rfl ti199 rfl (rfl) (rfl) (by simp [Value.oneCell']) ?_
  intro w hH
  refine c_n ?_
  replace hF := hF.sel [0, 1, 5]
  simp only [ss, Nat.reduceBEq] at hF
  refine c_sr fun ops => ?_
  refine zl hF rfl (r_loadagg hF rfl rfl Tryz.underlying199 ti199 rfl (own_agg (i := 0) hH rfl)) fun a hF => ?_
  refine ls_ext (ex := ReflectliteValue.methodAny (ReflectliteValue.valueError "reflectlite.Value.Type" 0) (fun t _ _ _ => ReflectliteType.toType t)) hF rfl rfl rfl rfl rfl Tryz.func102 (by kernel_rfl) (by kernel_rfl) (by kernel_rfl) (by kernel_rfl) (rl_typeP _ _) fun a hF => ?_
  refine zm 1 hF rfl fun a hF => ?_
  refine c_n ?_
  replace hF := hF.sel [0, 1, 5, 6]
  simp only [ss, Nat.reduceBEq] at hF
  refine c_seq fun Q3 k3 t3 => ?_
  refine c_sg ?_
  refine zm 1 hF rfl fun a hF => ?_
  refine ls_inv (ex := ReflectliteType.abiMethod fun t => do pure (.int .u8 (← Rtype.kind t))) hF rfl rfl rfl rfl rfl rfl (rl_mKind _ _) Tryz.func130 (by kernel_rfl) (by kernel_rfl) (by kernel_rfl) (by kernel_rfl) (rl_kindP _) fun a hF => ?_
  refine zb hF rfl rfl rfl (b_ne _ _ _ _) fun a hF => ?_
  refine zm 1 hF rfl fun a hF => ?_
  refine ls_ask (d := 20) hF rfl (fun g7_3 => ?_) (fun g7_3 => ?_)
  ·
   have g7_3' := g7_3; try simp only [qq] at g7_3'
   exact absurd g7_3 (by decide)
  have g7_3' := g7_3; try simp only [qq] at g7_3'
  refine zy hF rfl g7_3 (r_loadagg hF rfl rfl Tryz.underlying199 ti199 rfl (own_agg (i := 0) hH rfl)) fun a hF => ?_
  refine lsy_ext (ex := ReflectliteValue.method (ReflectliteValue.valueError "reflectlite.Value.IsNil" 0) ReflectliteValue.isNil) hF rfl rfl rfl g7_3 rfl rfl rfl rfl Tryz.func103 (by kernel_rfl) (by kernel_rfl) (by kernel_rfl) (by kernel_rfl) (rl_isNilP _ ⟨t, 0, none⟩ _ (own_cell (i := 1) hH rfl rfl)) fun a hF => ?_
  refine zl hF rfl (r_pickf hF rfl rfl g7_3 rfl) fun a hF => ?_
  refine c_n ?_
  replace hF := hF.sel [0, 1, 5, 6, 23]
  simp only [ss, Nat.reduceBEq] at hF
  refine c_no hF rfl (rfl) ?_
  refine wp_skip ?_
  refine k3 ?_
  refine c_sr fun ops => ?_
  refine zm 1 hF rfl fun a hF => ?_
  refine ls_inv (ex := ReflectliteType.method ReflectliteType.elem) hF rfl rfl rfl rfl rfl rfl (rl_mElem _ _) Tryz.func141 (by kernel_rfl) (by kernel_rfl) (by kernel_rfl) (by kernel_rfl) (rl_elemP _) fun a hF => ?_
  refine zm 1 hF rfl fun a hF => ?_
  refine c_n ?_
  replace hF := hF.sel [0, 1, 5, 7]
  simp only [ss, Nat.reduceBEq] at hF
  refine c_seq fun Q4 k4 t4 => ?_
  refine c_sg ?_
  refine zm 1 hF rfl fun a hF => ?_
  refine ls_inv (ex := ReflectliteType.abiMethod fun t => do pure (.int .u8 (← Rtype.kind t))) hF rfl rfl rfl rfl rfl rfl (rl_mKind _ _) Tryz.func130 (by kernel_rfl) (by kernel_rfl) (by kernel_rfl) (by kernel_rfl) (rl_kindS _) fun a hF => ?_
  refine zb hF rfl rfl rfl (b_ne _ _ _ _) fun a hF => ?_
  refine zm 1 hF rfl fun a hF => ?_
  refine l_ask (d := 30) hF rfl (fun g10_3 => ?_) (fun g10_3 => ?_)
  ·
   have g10_3' := g10_3; try simp only [qq] at g10_3'
   exact absurd g10_3 (by decide)
  have g10_3' := g10_3; try simp only [qq] at g10_3'
  refine zy hF rfl g10_3 (r_move hF rfl rfl) fun a hF => ?_
  refine zy hF rfl g10_3 (r_load hF rfl rfl fl202 (hH.cell hG)) fun a hF => ?_
  refine lsy_inv (ex := ReflectliteType.relation "Implements" ReflectliteType.implements_) hF rfl rfl rfl g10_3 rfl rfl rfl rfl rfl (rl_mImpl _ _) Tryz.func142 (by kernel_rfl) (by kernel_rfl) (by kernel_rfl) (by kernel_rfl) (rl_implS _) fun a hF => ?_
  refine zy hF rfl g10_3 (r_not hF rfl rfl) fun a hF => ?_
  refine zl hF rfl (r_pickt hF rfl rfl g10_3 rfl) fun a hF => ?_
  refine c_n ?_
  replace hF := hF.sel [0, 1, 5, 7, 35]
  simp only [ss, Nat.reduceBEq] at hF
  refine c_no hF rfl (rfl) ?_
  refine wp_skip ?_
  refine k4 ?_
  refine c_sr fun ops => ?_
  refine zm 2 hF rfl fun a hF => ?_
  refine zl hF rfl (r_loadagg hF rfl rfl Tryz.underlying199 ti199 rfl (own_agg (i := 0) hH rfl)) fun a hF => ?_
  refine zm 1 hF rfl fun a hF => ?_
  replace hH := hH.perm (H' := (t, .cells #[old] 182 (0, 0)) :: (_ :: _ :: H)) (List.Perm.trans (List.Perm.swap _ _ _) (List.Perm.cons _ (List.Perm.swap _ _ _)))
  have hb := own_cell (i := 2) (j := 0) (v := .pointer (some ⟨t, 0, none⟩)) hH rfl rfl
  refine zc hF rfl rfl fn104 (as2_hit hH hb _) ?_
  rintro _ w ⟨rfl, hH⟩ a hF
  refine zm 1 hF rfl fun a hF => ?_
  refine c_n ?_
  replace hF := hF.sel [4]
  simp only [ss, Nat.reduceBEq] at hF
  refine wp_ret (hret (ret1 hF Tryz.results92 rfl ?_))
  exact ⟨rfl, hH.sub (.cons_cons _ (.cons _ (.cons _ (List.Sublist.refl _))))⟩
end Go.Proofs.YtpoebplhemimmaaGreatDoor
