/-
  The walk of errors.As at the one error that package cursor makes, and at nil: after the guide's worked example of errors.As. Nothing is claimed here.
-/
import Derived.Test.YtcelgjabccgnmaaDoorSearch
import Derived.LaidEql
import Derived.Stop.Asserts
import Derived.RowKitTokens
namespace Go.Proofs.YtcelgjabccgnmaaDoor
open Go.RowKit Go.Extern.Stop Go.Stop Go.Extern
set_option linter.unusedVariables false
set_option linter.unusedSimpArgs false
set_option maxHeartbeats 1000000

/-- What package errors keeps. -/
def GW (w : World) : Prop := w.cell? ⟨0, 0, none⟩ = some (.iface 169 (.agg #[.pointer (some ⟨1, 106, none⟩)]))
theorem GW.ext {w w' : World} (h : GW w) (he : Ext w w') : GW w' := he.cell h

theorem rl_valueP (t : Addr) (w : World) : (ReflectliteValue.unpack (.iface 156 (.pointer (some t)))).run Tryd.prog w
    = .ok (.agg #[.pointer (some ⟨1, 156, none⟩), .pointer (some ⟨w.heap.size, 0, none⟩), .int .u64 150]) (w.alloc (.cells #[.pointer (some t)] 156)) := by kernel_rfl
theorem rl_typeP (a : Addr) (w : World) : (ReflectliteValue.methodAny (ReflectliteValue.valueError "reflectlite.Value.Type" 0) (fun t _ _ _ => ReflectliteType.toType t) #[.agg #[.pointer (some ⟨1, 156, none⟩), .pointer (some a), .int .u64 150]]).run Tryd.prog w
    = .ok (.iface 169 (.agg #[.pointer (some ⟨1, 156, none⟩)])) w := by kernel_rfl
theorem rl_mKind (h : Value) (w : World) : (Go.method (Tryd.prog.types.size + Made.depth) 169 (.agg #[h]) "Kind").run Tryd.prog w = .ok (142, h) w := by kernel_rfl
theorem rl_kindP (w : World) : ((ReflectliteType.abiMethod fun t => (fun a : Nat => Value.int IntKind.u8 (a : Int)) <$> Rtype.kind t) #[.pointer (some ⟨1, 156, none⟩)]).run Tryd.prog w = .ok (.int .u8 22) w := by kernel_rfl
theorem rl_kindS (w : World) : ((ReflectliteType.abiMethod fun t => (fun a : Nat => Value.int IntKind.u8 (a : Int)) <$> Rtype.kind t) #[.pointer (some ⟨1, 154, none⟩)]).run Tryd.prog w = .ok (.int .u8 25) w := by kernel_rfl
theorem rlm (z : Sem Value) (f : TypeId → Addr → Nat → Nat → Sem Value) (v : Value) :
    ReflectliteValue.method z f #[v] = (do match ← ReflectliteValue.parts v with | none => z | some (t, a, fl) => f t a fl (fl % 32)) := rfl
theorem rl_partsP (a : Addr) (w : World) : (ReflectliteValue.parts (.agg #[.pointer (some ⟨1, 156, none⟩), .pointer (some a), .int .u64 150])).run Tryd.prog w = .ok (some (156, a, 150)) w := by kernel_rfl
theorem rl_isNilP (a p : Addr) (W : World) (ha : W.cell? a = some (.pointer (some p))) :
    (ReflectliteValue.method (ReflectliteValue.valueError "reflectlite.Value.IsNil" 0) ReflectliteValue.isNil #[.agg #[.pointer (some ⟨1, 156, none⟩), .pointer (some a), .int .u64 150]]).run Tryd.prog W = .ok (.bool false) W := by
  rw [rlm]
  simp only [Sem.run_bind, rl_partsP, Result.andThen]
  simp [ReflectliteValue.isNil, loadVar, isAgg, underlying, Tryd.underlying156, ha, Result.andThen]
theorem rl_mElem (h : Value) (w : World) : (Go.method (Tryd.prog.types.size + Made.depth) 169 (.agg #[h]) "Elem").run Tryd.prog w = .ok (153, .agg #[h]) w := by kernel_rfl
theorem rl_mImpl (h : Value) (w : World) : (Go.method (Tryd.prog.types.size + Made.depth) 169 (.agg #[h]) "Implements").run Tryd.prog w = .ok (154, .agg #[h]) w := by kernel_rfl
theorem rl_mAssign (h : Value) (w : World) : (Go.method (Tryd.prog.types.size + Made.depth) 169 (.agg #[h]) "AssignableTo").run Tryd.prog w = .ok (151, .agg #[h]) w := by kernel_rfl
theorem rl_elemP (w : World) : (ReflectliteType.method ReflectliteType.elem #[.agg #[.pointer (some ⟨1, 156, none⟩)]]).run Tryd.prog w = .ok (.iface 169 (.agg #[.pointer (some ⟨1, 154, none⟩)])) w := by kernel_rfl
theorem rl_implS (w : World) : (ReflectliteType.relation "Implements" ReflectliteType.implements_ #[.agg #[.pointer (some ⟨1, 154, none⟩)], .iface 169 (.agg #[.pointer (some ⟨1, 106, none⟩)])]).run Tryd.prog w = .ok (.bool true) w := by kernel_rfl
theorem rl_typeOfS (v : Value) (w : World) : (ReflectliteType.typeOf #[.iface 154 v]).run Tryd.prog w = .ok (.iface 169 (.agg #[.pointer (some ⟨1, 154, none⟩)])) w := by kernel_rfl
theorem rl_assignS (w : World) : (ReflectliteType.relation "AssignableTo" ReflectliteType.assignableTo #[.agg #[.pointer (some ⟨1, 154, none⟩)], .iface 169 (.agg #[.pointer (some ⟨1, 154, none⟩)])]).run Tryd.prog w = .ok (.bool true) w := by kernel_rfl
theorem rl_valueS (v : Value) (w : World) : (ReflectliteValue.unpack (.iface 154 (.agg #[v]))).run Tryd.prog w
    = .ok (.agg #[.pointer (some ⟨1, 154, none⟩), .pointer (some ⟨w.heap.size, 0, none⟩), .int .u64 153]) (w.alloc (.cells #[v] 154)) := by kernel_rfl
theorem rl_elemOfP (w : World) : (Rtype.elem? 156).run Tryd.prog w = .ok (some 154) w := by kernel_rfl
theorem rl_mkS (p : Addr) (w : World) : (ReflectliteValue.mk 154 p ReflectliteValue.flagAddr).run Tryd.prog w = .ok (.agg #[.pointer (some ⟨1, 154, none⟩), .pointer (some p), .int .u64 409]) w := by kernel_rfl
theorem rl_elemV (a p : Addr) (W : World) (ha : W.cell? a = some (.pointer (some p))) :
    (ReflectliteValue.method (ReflectliteValue.valueError "reflectlite.Value.Elem" 0) ReflectliteValue.elem #[.agg #[.pointer (some ⟨1, 156, none⟩), .pointer (some a), .int .u64 150]]).run Tryd.prog W
      = .ok (.agg #[.pointer (some ⟨1, 154, none⟩), .pointer (some p), .int .u64 409]) W := by
  rw [rlm]
  simp only [Sem.run_bind, rl_partsP, Result.andThen]
  simp [ReflectliteValue.elem, loadVar, isAgg, underlying, Tryd.underlying156, ha, Result.andThen, rl_elemOfP, rl_mkS]
theorem rls (v x : Value) : ReflectliteValue.set #[v, x] = (do
    let (some (dst, a, fl), some (src, b, _)) := (← ReflectliteValue.parts v, ← ReflectliteValue.parts x)
      | unsupported (.noEntry "extern/(internal/reflectlite.Value).Set.zeroValue")
    if fl / ReflectliteValue.flagAddr % 2 == 0 then unsupported (.noEntry "extern/(internal/reflectlite.Value).Set.unaddressable")
    let val ← loadVar src b
    if ← Rtype.directlyAssignable dst src then storeVar dst a val
    else if ← Rtype.implements dst src then
      if (← Rtype.kind src) == 20 then
        match val with
        | .nilIface => unsupported (.noEntry "extern/reflectlite: a nil value of one interface type handed on as a value of another")
        | _ => storeVar dst a val
      else storeVar dst a (.iface src val)
    else panicString ("reflectlite.Set: value of type " ++ (← Rtype.spelt src) ++ " is not assignable to type " ++ (← Rtype.spelt dst))
    pure (.tuple #[])) := rfl
theorem rl_partsSa (a : Addr) (w : World) : (ReflectliteValue.parts (.agg #[.pointer (some ⟨1, 154, none⟩), .pointer (some a), .int .u64 409])).run Tryd.prog w = .ok (some (154, a, 409)) w := by kernel_rfl
theorem rl_partsS (a : Addr) (w : World) : (ReflectliteValue.parts (.agg #[.pointer (some ⟨1, 154, none⟩), .pointer (some a), .int .u64 153])).run Tryd.prog w = .ok (some (154, a, 153)) w := by kernel_rfl
theorem rl_directS (w : World) : (Rtype.directlyAssignable 154 154).run Tryd.prog w = .ok true w := by kernel_rfl
theorem rl_set (g b : Nat) (v old : Value) (W : World) (h1 : v.oneCell' = true) (hb : W.cell? ⟨b, 0, none⟩ = some v) (ht : W.cell? ⟨g, 0, none⟩ = some old) (hf : W.frozen? ⟨g, 0, none⟩ = false) :
    (ReflectliteValue.set #[.agg #[.pointer (some ⟨1, 154, none⟩), .pointer (some ⟨g, 0, none⟩), .int .u64 409], .agg #[.pointer (some ⟨1, 154, none⟩), .pointer (some ⟨b, 0, none⟩), .int .u64 153]]).run Tryd.prog W
      = .ok (.tuple #[]) (W.setCell ⟨g, 0, none⟩ v) := by
  rw [rls]
  have hl := run_loadCells_list (P := Tryd.prog) W ⟨b, 0, none⟩ [v] (fun j u hu => by
    cases j with
    | zero => simp at hu; subst hu; rw [Addr.add_lit]; exact hb
    | succ j => simp at hu)
  simp only [Sem.run_bind, rl_partsSa, rl_partsS, Result.andThen]
  simp [ReflectliteValue.flagAddr, loadVar, isAgg, underlying, Tryd.underlying154, Result.andThen, rl_directS, storeVar, storeCells, Addr.add, SZ1_of (P := Tryd.prog) (ti_of (e := 154) (size := 1) (bytes := 8) (by kernel_rfl)), cells_agg]
  rw [show loadCells ⟨b, 0, none⟩ 1 = loadCells ⟨b, 0, none⟩ [v].length from rfl, hl]
  simp [storeCells, Addr.add]
  rw [run_store Tryd.prog W ⟨g, 0, none⟩ v _ h1]
  simp [ht, hf]
end Go.Proofs.YtcelgjabccgnmaaDoor
