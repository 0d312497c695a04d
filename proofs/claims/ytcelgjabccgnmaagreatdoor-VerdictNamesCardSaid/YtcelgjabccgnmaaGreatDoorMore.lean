/-
  More rules: slices of slices, copies, literals of several elements, structures and arrays, comparisons with nil, calls of function values. Nothing is claimed here.
-/
import Derived.Test.YtcelgjabccgnmaaGreatDoorSlices
import Derived.Lib.AppendZerosOnto
import Derived.Lib.Overlaps
import Derived.Laws.CopyRow
namespace Go.Proofs.YtcelgjabccgnmaaGreatDoor
open Go.RowKit
set_option linter.unusedVariables false
set_option linter.unusedSimpArgs false
set_option maxHeartbeats 1000000

/-- Where a part of a slice begins. -/
def subA (ad : Option Addr) (size l m : Nat) : Option Addr := if m = l then ad else ad.map (·.add (l * size))
theorem subA_lt {b off size l m : Nat} (h : l < m) : subA (some ⟨b, off, none⟩) size l m = some ⟨b, off + l * size, none⟩ := by
  unfold subA; rw [if_neg (by omega)]; simp [Addr.add_lit]
theorem subA_zero {ad : Option Addr} {size m : Nat} (h : ∀ a, ad = some a → ∃ b off, a = ⟨b, off, none⟩) : subA ad size 0 m = ad := by
  unfold subA
  split
  · rfl
  · cases ad with
    | none => rfl
    | some a => obtain ⟨b, off, rfl⟩ := h a rfl; simp [Addr.add_lit]

section
variable {P : Program} {ops : Array Oper} {Q : Exit → Act → World → Prop} {rest : List Oper} {o : Oper} {a : Act} {w w0 : World} {N dd : Nat} {L : List (Nat × Value)} {H B : List (Nat × Obj)} {v : Value}

theorem r_slice_sl (hF : Fr N L a) {x : Operand} {lo hi : Option Operand} {t e : TypeId} {size bytes n cap : Nat} {ad : Option Addr} (l h : Nat) (ho : o.op = .slice t x lo hi none) (hx : ev L x = some (.slice ad n cap)) (ht : P.underlying t = some (.slice e)) (hti : TI P e size bytes)
    (hlo : match lo with | none => l = 0 | some y => ∃ k, ev L y = some (.int k (l : Int))) (hhi : match hi with | none => h = n | some y => ∃ k, ev L y = some (.int k (h : Int)))
    (hb : l ≤ h ∧ h ≤ cap) : Does P o a w (.slice (subA ad size l cap) (h - l) (cap - l)) w := by
  obtain ⟨inf, z, h1, _, rfl, _, _⟩ := hti
  obtain ⟨hb1, hb2⟩ := hb
  have e1 : (l : Int) ≤ (h : Int) := by omega
  have e2 : (h : Int) ≤ (cap : Int) := by omega
  left; unfold execOp
  rcases lo with _ | lo <;> rcases hi with _ | hi <;> simp only at hlo hhi
  · subst hlo hhi
    simp [ho, hF.ev hx, Instr.sliceAt, Instr.slice, Instr.sliceBounds, run_underlying ht, sizeOf, typeInfo, h1, subA]
  · obtain ⟨k, hk⟩ := hhi; subst hlo
    simp [ho, hF.ev hx, hF.ev hk, Instr.sliceAt, Instr.slice, Instr.sliceBounds, Instr.sliceBound, asIntOf, run_underlying ht, sizeOf, typeInfo, h1, subA, hb2]
  · obtain ⟨k, hk⟩ := hlo; subst hhi
    simp [ho, hF.ev hx, hF.ev hk, Instr.sliceAt, Instr.slice, Instr.sliceBounds, Instr.sliceBound, asIntOf, run_underlying ht, sizeOf, typeInfo, h1, subA, hb1]
  · obtain ⟨k, hk⟩ := hlo; obtain ⟨k', hk'⟩ := hhi
    simp [ho, hF.ev hx, hF.ev hk, hF.ev hk', Instr.sliceAt, Instr.slice, Instr.sliceBounds, Instr.sliceBound, asIntOf, run_underlying ht, sizeOf, typeInfo, h1, subA, hb1, hb2]

theorem r_cap_sl (hF : Fr N L a) {x : Operand} {t e : TypeId} {ad : Option Addr} {n cap : Nat} (ho : o.op = .call { callee := .builtin .cap, args := #[x], argTypes := #[t] }) (hx : ev L x = some (.slice ad n cap)) (ht : P.underlying t = some (.slice e)) :
    Does P o a w (.int .i64 cap) w := by
  left; rw [exec_builtin hF ho (ev1 hx)]; simp [go_sem, Builtin.cap_, run_underlying ht]

theorem b_slnil {t e : TypeId} {ad : Option Addr} {n c : Nat} (h : P.underlying t = some (.slice e)) : (binOp .eql t (.slice ad n c) (.slice none 0 0)).run P w = .ok (.bool ad.isNone) w :=
  Lib.run_eql_slice_nil w t e ad n c 0 0 h

/-- A row, written over from a place on. -/
def wr (cur : Array Value) (off : Nat) (xs : List Value) : Array Value := (cur.toList.take off ++ xs ++ cur.toList.drop (off + xs.length)).toArray
theorem wr_size {cur : Array Value} {off : Nat} {xs : List Value} (h : off + xs.length ≤ cur.size) : (wr cur off xs).size = cur.size := by
  simp [wr]; omega
theorem wr_toList (cur : Array Value) (off : Nat) (xs : List Value) : (wr cur off xs).toList = cur.toList.take off ++ xs ++ cur.toList.drop (off + xs.length) := rfl

/-- copy into a row of one's own. -/
theorem ls_copy {x y : Operand} {t t' e : TypeId} {size bytes g off dn dc sn sc : Nat} {cur : Array Value} {sa : Option Addr} {xs : List Value} (i : Nat) (hF : Fr N L a) (hH : Hp w0 w H) (hg : o.guard = none) (hdst : o.dst = some dd) (hd : Nat.blt dd N = true)
    (ho : o.op = .call { callee := .builtin .copy, args := #[x, y], argTypes := #[t, t'] }) (hx : ev L x = some (.slice (some ⟨g, off, none⟩) dn dc)) (hy : ev L y = some (.slice sa sn sc))
    (ht : P.underlying t = some (.slice e)) (hti : TI P e size bytes) (hi : H[i]? = some (g, .cells cur e (0, 0))) (hl : xs.length = Nat.min sn dn * size)
    (hsrc : xs = [] ∧ Nat.min sn dn = 0 ∨ ∃ b q, sa = some ⟨b, q, none⟩ ∧ ∀ j u, xs[j]? = some u → w.cell? ⟨b, q + j, none⟩ = some u) (hfit : off + xs.length ≤ cur.size) (h1 : ∀ u ∈ xs, u.oneCell' = true)
    (k : ∀ a' w', Hp w0 w' (H.set i (g, .cells (wr cur off xs) e (0, 0))) → Fr N ((dd, .int .i64 (Nat.min sn dn : Nat)) :: L) a' → wpList P ops Q rest a' w') : wpList P ops Q (o :: rest) a w := by
  obtain ⟨inf, z, hinf, _, rfl, _, _⟩ := hti
  have hgc := (hH.own _ (List.mem_of_getElem? hi)).1
  simp only at hgc
  have hst := run_storeCells_at (P := P) g off e xs 0 cur w hgc (by simpa using hfit) h1
  simp only [Nat.add_zero] at hst
  refine ls hF hg hdst hd (v := .int .i64 (Nat.min sn dn : Nat)) (w' := w.setRow g (wr cur off xs)) (.inl ?_) fun a' hF' => k a' _ (hH.setRow hi) hF'
  rw [exec_builtin hF ho (ev2 hx hy)]
  have hc : (Builtin.copy_ #[t, t'] o.type #[.slice (some ⟨g, off, none⟩) dn dc, .slice sa sn sc]).run P w = .ok (goInt (Nat.min sn dn : Nat)) (w.setRow g (wr cur off xs)) := by
    rcases hsrc with ⟨rfl, h0⟩ | ⟨b, q, rfl, hc⟩
    · rw [h0]
      cases sa with
      | none => simp [Builtin.copy_, run_underlying ht, Builtin.lenOf, Builtin.firstCells, sizeOf, typeInfo, hinf, h0, hst]; simp [wr]
      | some p => simp [Builtin.copy_, run_underlying ht, Builtin.lenOf, Builtin.firstCells, sizeOf, typeInfo, hinf, h0, loadCells, loadCellsFrom, hst]; simp [wr]
    · have hld := run_loadCells_list (P := P) w ⟨b, q, none⟩ xs (fun j u hu => by rw [Addr.add_lit]; exact hc j u hu)
      rw [hl] at hld
      simp [Builtin.copy_, run_underlying ht, Builtin.lenOf, Builtin.firstCells, sizeOf, typeInfo, hinf, hld, hst, wr]
  simp [builtin, hc, Result.andThen, goInt]

/-- append of so many zero values, where there is no room. -/
theorem ls_appendz {x y : Operand} {t tn e : TypeId} {size bytes n cap k : Nat} {ad : Option Addr} {olds : List Value} {kq kn : IntKind} {z : Value} (hF : Fr N L a) (hH : Hp w0 w H) (hg : o.guard = none) (hdst : o.dst = some dd) (hd : Nat.blt dd N = true)
    (ho : o.op = .call { callee := .builtin .append, args := #[x, y], argTypes := #[t, tn] }) (hx : ev L x = some (.slice ad n cap)) (hy : ev L y = some (.int kq (k : Int)))
    (ht : P.underlying t = some (.slice e)) (htn : P.underlying tn = some (.int kn)) (hti : TI P e size bytes) (hz : ZV P e z) (ho' : olds.length = n * size)
    (hsrc : ad = none ∧ n = 0 ∨ ∃ b q, ad = some ⟨b, q, none⟩ ∧ ∀ j u, olds[j]? = some u → w.cell? ⟨b, q + j, none⟩ = some u) (h0 : 0 < k) (hs : 0 < size) (hgr : cap < n + k) (h48 : (n + k) * bytes ≤ 140737488355328) (hbp : 0 < bytes)
    (kk : ∀ a' w' g cap', Hp w0 w' ((g, .cells (olds.toArray ++ Builtin.zeroCells z.cells k ++ Builtin.zeroCells z.cells (cap' - (n + k))) e (0, 0)) :: H) → Ext w w' → n + k ≤ cap' → cap' ≤ maxLen → Fr N ((dd, .slice (some ⟨g, 0, none⟩) (n + k) cap') :: L) a' → wpList P ops Q rest a' w') :
    wpList P ops Q (o :: rest) a w := by
  obtain ⟨inf, z', hinf, hz1, rfl, rfl, hzs⟩ := hti
  obtain ⟨inf', hi', hz'⟩ := hz
  rw [hinf] at hi'; cases hi'
  rw [hz1] at hz'; cases hz'
  have hold : (Builtin.firstCells inf.size n (.slice ad n cap)).run P w.drew = .ok olds.toArray w.drew := by
    rcases hsrc with ⟨rfl, rfl⟩ | ⟨b, q, rfl, hc⟩
    · have : olds = [] := List.eq_nil_of_length_eq_zero (by simpa using ho')
      subst this
      simp [Builtin.firstCells]
    · have hl := run_loadCells_list (P := P) w.drew ⟨b, q, none⟩ olds (fun j u hu => by rw [Addr.add_lit]; exact hc j u hu)
      rw [ho'] at hl
      simp [Builtin.firstCells, hl]
  have hle : n + k ≤ (n + k) * inf.bytes := Nat.le_mul_of_pos_right _ hbp
  have hkb : k * inf.bytes ≤ (n + k) * inf.bytes := Nat.mul_le_mul_right _ (by omega)
  have hr := Lib.run_append_grow_zeros w t tn o.type e inf _ kq kn ht htn hinf hz1 ad n cap olds hold k h0 hs hgr (by omega) (by omega) (growslice_fits hgr h48)
  have hge := grownCap_ge w (n + k) cap e
  have hmx := grownCap_le_maxLen w (n + k) cap e (by unfold maxLen; omega)
  refine ls hF hg hdst hd (.inl ?_) fun a' hF' => kk a' _ _ _ (hH.drew.alloc _) ((Ext.drew w).trans (Ext.alloc _ _)) hge hmx hF'
  rw [exec_builtin hF ho (ev2 hx hy), BigFrame.builtin_append]
  simp [hr]

/-- slices.overlaps of two rows of one's own. -/
theorem ls_overlaps {f : FuncId} {fn : Func} {xs : Array Operand} {ats : Array TypeId} {t tb e : TypeId} {size bytes g1 g2 o1 o2 n1 c1 n2 c2 i j : Nat} {cs1 cs2 : Array Value} {e1 e2 : TypeId} (hF : Fr N L a) (hH : Hp w0 w H) (hg : o.guard = none) (hdst : o.dst = some dd) (hd : Nat.blt dd N = true)
    (ho : o.op = .call { callee := .value (.func f), args := xs, argTypes := ats }) (hxs : evl L xs.toList = some [.slice (some ⟨g1, o1, none⟩) n1 c1, .slice (some ⟨g2, o2, none⟩) n2 c2])
    (hf : P.funcs[f]? = some fn) (hn : (fn.name == "runtime.NumGoroutine") = false) (hb : fn.body.isNone = true) (hE1 : Extern.findNext fn = none) (hE2 : Extern.find fn = some (Extern.SlicesOverlaps.overlaps #[t, t] #[tb]))
    (ht : P.underlying t = some (.slice e)) (hti : TI P e size bytes) (hi : H[i]? = some (g1, .cells cs1 e1 (0, 0))) (hj : H[j]? = some (g2, .cells cs2 e2 (0, 0))) (hij : i ≠ j) (h2 : 0 < cs2.size)
    (k : ∀ a', Fr N ((dd, .bool false) :: L) a' → wpList P ops Q rest a' w) : wpList P ops Q (o :: rest) a w := by
  have hg1 := (hH.own _ (List.mem_of_getElem? hi)).1
  have hg2 := (hH.own _ (List.mem_of_getElem? hj)).1
  simp only at hg1 hg2
  have hne : g1 ≠ g2 := by
    have hl1 : i < (H.map (·.1)).length := by simpa using (List.getElem?_eq_some_iff.1 hi).1
    have hl2 : j < (H.map (·.1)).length := by simpa using (List.getElem?_eq_some_iff.1 hj).1
    have e1 : (H.map (·.1))[i] = g1 := by rw [List.getElem_map, (List.getElem?_eq_some_iff.1 hi).2]
    have e2 : (H.map (·.1))[j] = g2 := by rw [List.getElem_map, (List.getElem?_eq_some_iff.1 hj).2]
    intro he
    rw [← e1, ← e2] at he
    have hp := List.pairwise_iff_getElem.1 hH.nodup
    rcases Nat.lt_or_gt_of_ne hij with hlt | hlt
    · exact hp i j hl1 hl2 hlt he
    · exact hp j i hl2 hl1 hlt he.symm
  obtain ⟨inf, z, hinf, _, rfl, _, _⟩ := hti
  refine ls_ext hF hg hdst hd ho hxs hf hn hb hE1 hE2 (Lib.run_overlaps_apart w t tb e ht inf.size (fun w => by simp [sizeOf, typeInfo, hinf]) ⟨g1, o1, none⟩ ⟨g2, o2, none⟩ n1 c1 n2 c2 hne e1 e2 cs1.size cs2.size (by simp [World.shape?, hg1]) (by simp [World.shape?, hg2]) (by omega) (by simp [World.frozen?, hg1]) (by simp [World.frozen?, hg1])) k

/-- A call of a function value. -/
theorem ls_callv {f : FuncId} {x : Operand} {xs : Array Operand} {ats : Array TypeId} {vs : List Value} {R : Value → World → Prop} {cap : Array Value} (hF : Fr N L a) (hg : o.guard = none) (hdst : o.dst = some dd) (hd : Nat.blt dd N = true)
    (ho : o.op = .call { callee := .value x, args := xs, argTypes := ats }) (hx : ev L x = some (.func (.func f) #[] cap)) (hxs : evl L xs.toList = some vs) (hok : FnOk P f)
    (hc : Rets P f (vs ++ cap.toList) w R) (k : ∀ v w', R v w' → ∀ a', Fr N ((dd, v) :: L) a' → wpList P ops Q rest a' w') : wpList P ops Q (o :: rest) a w :=
  wpList_plain hg fun K hK => by
    have hm : xs.map a.eval = vs.toArray := by
      apply Array.ext'; simpa using hF.evl hxs
    have h1 := run_enter hok (vs.toArray ++ cap) w
    have h2 := hF.ev hx
    unfold Oper.wp
    have he : (execOp a.eval o).run P w = .ok (.enter f (vs.toArray ++ cap)) w := by
      unfold execOp
      simp [ho, resolve, h2, Deferred.ofValue, hm, invoke, h1]
    rw [he]
    have hc' : Calls P f (vs.toArray ++ cap) w fun e w' => ∃ v, e = .returned v ∧ R v w' := by
      have : (vs ++ cap.toList).toArray = vs.toArray ++ cap := by apply Array.ext'; simp
      rw [← this]; exact hc
    refine Calls.mono hc' ?_
    rintro e w' ⟨v, rfl, hr⟩
    exact hK _ _ (k v w' hr _ (by rw [hdst]; exact hF.put _ hd))
theorem lsy_callv {f : FuncId} {x : Operand} {xs : Array Operand} {ats : Array TypeId} {vs : List Value} {R : Value → World → Prop} {cap : Array Value} {j d : Nat} {b want : Bool} (hF : Fr N L a) (hg : o.guard = some (j, want)) (hj : (ops[j]?).bind (·.dst) = some d) (hb : lk L d = some (.bool b)) (hw : b = want) (hdst : o.dst = some dd) (hd : Nat.blt dd N = true)
    (ho : o.op = .call { callee := .value x, args := xs, argTypes := ats }) (hx : ev L x = some (.func (.func f) #[] cap)) (hxs : evl L xs.toList = some vs) (hok : FnOk P f)
    (hc : Rets P f (vs ++ cap.toList) w R) (k : ∀ v w', R v w' → ∀ a', Fr N ((dd, v) :: L) a' → wpList P ops Q rest a' w') : wpList P ops Q (o :: rest) a w :=
  wpList_step fun K hK => by
    have hy := yielded_of hF hj hb
    simp only [Region.wanted, hg, hy, hw, beq_self_eq_true, if_true]
    have hm : xs.map a.eval = vs.toArray := by
      apply Array.ext'; simpa using hF.evl hxs
    have h1 := run_enter hok (vs.toArray ++ cap) w
    have h2 := hF.ev hx
    unfold Oper.wp
    have he : (execOp a.eval o).run P w = .ok (.enter f (vs.toArray ++ cap)) w := by
      unfold execOp
      simp [ho, resolve, h2, Deferred.ofValue, hm, invoke, h1]
    rw [he]
    have hc' : Calls P f (vs.toArray ++ cap) w fun e w' => ∃ v, e = .returned v ∧ R v w' := by
      have : (vs ++ cap.toList).toArray = vs.toArray ++ cap := by apply Array.ext'; simp
      rw [← this]; exact hc
    refine Calls.mono hc' ?_
    rintro e w' ⟨v, rfl, hr⟩
    exact hK _ _ (k v w' hr _ (by rw [hdst]; exact hF.put _ hd))
end
end Go.Proofs.YtcelgjabccgnmaaGreatDoor
