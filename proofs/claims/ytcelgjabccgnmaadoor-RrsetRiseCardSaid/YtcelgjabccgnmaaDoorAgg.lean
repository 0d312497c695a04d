/-
  Results in cells, arrays, function values against nil. Nothing is claimed here.
-/
import Derived.Test.YtcelgjabccgnmaaDoorPart
namespace Go.Proofs.YtcelgjabccgnmaaDoor
open Go.RowKit
set_option linter.unusedVariables false
set_option linter.unusedSimpArgs false
set_option maxHeartbeats 1000000
section
variable {P : Program} {ops : Array Oper} {Q : Exit → Act → World → Prop} {rest : List Oper} {o : Oper} {a : Act} {w w0 w' : World} {N dd : Nat} {L : List (Nat × Value)} {H B : List (Nat × Obj)} {v : Value}
def aggT (P : Program) (t : TypeId) : Bool := match P.underlying t with
  | some (.struct _) | some (.array _ _) => true
  | _ => false
theorem run_isAgg_T {t : TypeId} (h : aggT P t = true) : (isAgg t).run P w = .ok true w := by
  unfold aggT at h
  split at h
  · rename_i hs; simp [isAgg, run_underlying hs]
  · rename_i hs; simp [isAgg, run_underlying hs]
  · cases h
theorem run_loadVar_T {t : TypeId} {b q size bytes : Nat} {cs : List Value} (ht : aggT P t = true) (hti : TI P t size bytes) (hs : cs.length = size) (hc : ∀ j u, cs[j]? = some u → w.cell? ⟨b, q + j, none⟩ = some u) :
    (loadVar t ⟨b, q, none⟩).run P w = .ok (.agg cs.toArray) w := by
  obtain ⟨inf, z, h1, _, rfl, _, _⟩ := hti
  have hl := run_loadCells_list (P := P) w ⟨b, q, none⟩ cs (fun j u hu => by rw [Addr.add_lit]; exact hc j u hu)
  rw [hs] at hl
  simp [loadVar, run_isAgg_T ht, sizeOf, typeInfo, h1, hl]
theorem r_loadT (hF : Fr N L a) {x : Operand} {t : TypeId} {b q size bytes : Nat} {cs : List Value} (ho : o.op = .load t x) (hx : ev L x = some (.pointer (some ⟨b, q, none⟩))) (ht : aggT P t = true)
    (hti : TI P t size bytes) (hs : cs.length = size) (hc : ∀ j u, cs[j]? = some u → w.cell? ⟨b, q + j, none⟩ = some u) : Does P o a w (.agg cs.toArray) w := by
  left; unfold execOp
  simp [ho, hF.ev hx, Instr.loadAt, Instr.sureAddr, run_loadVar_T ht hti hs hc]
theorem r_indexarr (hF : Fr N L a) {x y : Operand} {t e : TypeId} {n bytes : Nat} {cs : Array Value} {k : IntKind} {u : Value} (i : Nat) (ho : o.op = .index t x y) (hx : ev L x = some (.agg cs)) (hy : ev L y = some (.int k (i : Int))) (ht : P.underlying t = some (.array n e)) (hti : TI P e 1 bytes) (hfl : flat P e = true)
    (hi : i < n) (hc : cs[i]? = some u) : Does P o a w u w := by
  obtain ⟨inf, z, h1, _, h2, _, _⟩ := hti
  left; unfold execOp
  simp [ho, hF.ev hx, hF.ev hy, Instr.index, asIntOf, run_underlying ht, hi, sizeOf, typeInfo, h1, h2, part, run_isAgg_flat hfl, hc]
theorem eqIn_fnil (d : Nat) {t : TypeId} {ps rs : Array TypeId} {vr : Bool} (h : P.underlying t = some (.func ps rs vr)) : (Op.equalIn (d + 1) t .nilFunc .nilFunc).run P w = .ok true w := by
  simp [Op.equalIn, run_underlying h]
theorem eqIn_fsome (d : Nat) {t : TypeId} {ps rs : Array TypeId} {vr : Bool} {fn : Fn} {x y : Array Value} (h : P.underlying t = some (.func ps rs vr)) : (Op.equalIn (d + 1) t (.func fn x y) .nilFunc).run P w = .ok false w := by
  simp [Op.equalIn, run_underlying h]
theorem b_fnil {t : TypeId} {ps rs : Array TypeId} {vr : Bool} (h : P.underlying t = some (.func ps rs vr)) : (binOp .eql t .nilFunc .nilFunc).run P w = .ok (.bool true) w := by
  simp only [binOp]
  simp [Op.equal, Op.maxDepth, eqIn_fnil 9999 h]
theorem b_fsome {t : TypeId} {ps rs : Array TypeId} {vr : Bool} {fn : Fn} {x y : Array Value} (h : P.underlying t = some (.func ps rs vr)) : (binOp .eql t (.func fn x y) .nilFunc).run P w = .ok (.bool false) w := by
  simp only [binOp]
  simp [Op.equal, Op.maxDepth, eqIn_fsome 9999 h]
theorem results_c2 {fn : Func} {t u : Nat} {ty : TypeId} {g : Nat} {cs : List Value} {tmps : Array Value} {v2 : Value} (h : fn.results = #[.cell t ty, .tmp u]) (h1 : tmps[t]? = some (.pointer (some ⟨g, 0, none⟩))) (h2 : tmps[u]? = some v2)
    (hl : (loadVar ty ⟨g, 0, none⟩).run P w = .ok (.agg cs.toArray) w) : (results fn tmps).run P w = .ok (.tuple #[.agg cs.toArray, v2]) w := by
  simp [results, h, Array.getD_eq_getD_getElem?, h1, h2, asAddr, hl]
theorem retc2 {fn : Func} {R : Value → World → Prop} {t u g i : Nat} {ty : TypeId} {size bytes : Nat} {cs : Array Value} {v2 : Value} {e : TypeId} {fr : Nat × Nat} (hF : Fr N L a) (hH : Hp w0 w H) (hr : fn.results = #[.cell t ty, .tmp u]) (h1 : lk L t = some (.pointer (some ⟨g, 0, none⟩))) (h2 : lk L u = some v2)
    (ht : aggT P ty = true) (hti : TI P ty size bytes) (hi : H[i]? = some (g, .cells cs e fr)) (hs : cs.size = size) (h : R (.tuple #[.agg cs, v2]) w) :
    bodyPost P fn (fun e w' => ∃ v, e = .returned v ∧ R v w') .ret a w := by
  have hl := run_loadVar_T (w := w) (cs := cs.toList) ht hti (by simpa using hs) (own_agg hH hi)
  exact bodyPost_ret (results_c2 hr (hF.lk h1) (hF.lk h2) hl) hF.defers ⟨_, rfl, by simpa using h⟩
end
end Go.Proofs.YtcelgjabccgnmaaDoor
