/-
  The order of texts, as a plain function, and the operations that ask for it; comparisons of numbers. Nothing is claimed here.
  The walks of package slices on rows of texts: reversal, comparison, search, copies. Nothing is claimed here.
  More rules: slices of slices, copies, literals of several elements, structures and arrays, comparisons with nil, calls of function values. Nothing is claimed here.
  The walk of slices.Insert of one element into a row of one's own, of texts and of sets. Nothing is claimed here.
  The walks of the document's layer 1: labels, folding, order of names. They compute what package name computes.
  The walk of name.Compare; copies of rows of texts; the first number that is not 0; where a text stands in a rising row. Nothing is claimed here.
  Operations on numbers' bits, at the numbers that the program asks them of. Nothing is claimed here.
  The walk of slices.BinarySearch. Nothing is claimed here.
-/
import Derived.Test.YtpoebplhemimmaaGreatDoorFlow
import Derived.Test.YtpoebplhemimmaaGreatDoorSpec
import Derived.Test.YtpoebplhemimmaaGreatDoorFns
import Derived.Lib.AppendZerosOnto
import Derived.Lib.Overlaps
import Derived.Laws.CopyRow
import Derived.Test.YtpoebplhemimmaaGreatDoorName
import Derived.Laws.BitsLemmas
namespace Go.Proofs.YtpoebplhemimmaaGreatDoor
open Go.RowKit
set_option linter.unusedVariables false
set_option linter.unusedSimpArgs false
set_option maxHeartbeats 1000000

theorem bless_eq : ∀ (x y : Bs), Op.bytesLess x y = bless x y
  | [], [] => rfl
  | _ :: _, [] => rfl
  | [], _ :: _ => rfl
  | a :: x, b :: y => by
    rw [Op.bytesLess, bless_eq x y, bless]
    by_cases h : a.toNat < b.toNat
    · have : a < b := UInt8.lt_iff_toNat_lt.2 h
      simp [h, this]
    · have h1 : ¬ a < b := fun e => h (UInt8.lt_iff_toNat_lt.1 e)
      by_cases h2 : a = b
      · subst h2; simp
      · have : ¬ a.toNat = b.toNat := fun e => h2 (UInt8.toNat_inj.1 e)
        simp [h, h1, h2, this]

section
variable {P : Program} {w : World}
theorem b_slt (t : TypeId) (x y : List UInt8) : (binOp .lss t (.string (mk x)) (.string (mk y))).run P w = .ok (.bool (bless x y)) w := by
  simp [go_sem]; exact bless_eq x y
theorem b_sgt (t : TypeId) (x y : List UInt8) : (binOp .gtr t (.string (mk x)) (.string (mk y))).run P w = .ok (.bool (bless y x)) w := by
  simp [go_sem]; rw [bless_eq, bless_gt]
theorem b_sle (t : TypeId) (x y : List UInt8) : (binOp .leq t (.string (mk x)) (.string (mk y))).run P w = .ok (.bool (!bless y x)) w := by
  simp [go_sem]; rw [bless_eq, bless_le]
theorem b_sge (t : TypeId) (x y : List UInt8) : (binOp .geq t (.string (mk x)) (.string (mk y))).run P w = .ok (.bool (!bless x y)) w := by
  simp [go_sem]; rw [bless_eq]
end

end Go.Proofs.YtpoebplhemimmaaGreatDoor
namespace Go.Proofs.YtpoebplhemimmaaGreatDoor
open Go.RowKit
set_option linter.unusedVariables false
set_option linter.unusedSimpArgs false
set_option maxHeartbeats 1000000

/-- The cells are turned about from both ends, i of them each. -/
def Turned (xs ys : List Value) (i : Nat) : Prop := ys.length = xs.length ∧ ∀ k, ys[k]? = if k < i ∨ xs.length ≤ k + i then xs.reverse[k]? else xs[k]?
theorem Turned.zero (xs : List Value) : Turned xs xs 0 := ⟨rfl, fun k => by
  split
  · rename_i h
    have : xs.length ≤ k := by omega
    rw [List.getElem?_eq_none this, List.getElem?_eq_none (by simpa using this)]
  · rfl⟩
theorem Turned.done {xs ys : List Value} {i : Nat} (h : Turned xs ys i) (hi : xs.length ≤ 2 * i + 1) : ys = xs.reverse := by
  refine List.ext_getElem? fun k => ?_
  rw [h.2 k]
  split
  · rfl
  · rename_i hk
    have hlt : k < xs.length := by omega
    rw [List.getElem?_reverse hlt]
    congr 1; omega
theorem Turned.step {xs ys : List Value} {i j : Nat} {u v : Value} (h : Turned xs ys i) (hj : i + j + 1 = xs.length) (hij : i < j) (hu : ys[j]? = some u) (hv : ys[i]? = some v) : Turned xs ((ys.set i u).set j v) (i + 1) := by
  refine ⟨by simpa using h.1, fun k => ?_⟩
  have hl := h.1
  have e1 : xs.reverse[i]? = some u := by
    rw [List.getElem?_reverse (by omega), show xs.length - 1 - i = j by omega, ← hu, h.2 j, if_neg (by omega)]
  have e2 : xs.reverse[j]? = some v := by
    rw [List.getElem?_reverse (by omega), show xs.length - 1 - j = i by omega, ← hv, h.2 i, if_neg (by omega)]
  rw [List.getElem?_set, List.getElem?_set]
  by_cases hk1 : j = k
  · subst hk1; rw [if_pos rfl, if_pos (by simp; omega), if_pos (by omega), e2]
  · rw [if_neg hk1]
    by_cases hk2 : i = k
    · subst hk2; rw [if_pos rfl, if_pos (by omega), if_pos (by omega), e1]
    · rw [if_neg hk2, h.2 k]
      have : (k < i ∨ xs.length ≤ k + i) ↔ (k < i + 1 ∨ xs.length ≤ k + (i + 1)) := by omega
      simp only [this]


/-- Reading a row of texts. -/
theorem RSl.at {w : World} {ad : Option Addr} {cap n : Nat} {xs : List Bs} (h : RSl w 1 (.slice ad n cap) n (strV xs)) {i : Nat} (hi : i < xs.length) :
    ∃ b off, ad = some ⟨b, off, none⟩ ∧ w.cell? ⟨b, off + i, none⟩ = some (.string (mk (xs.getD i []))) := by
  obtain ⟨h1, ad', cap', hv, _, _, h3⟩ := h
  cases hv
  rw [strV_length] at h1
  rcases h3 with ⟨_, _, h0⟩ | ⟨b, off, rfl, hc⟩
  · omega
  · exact ⟨b, off, rfl, hc i _ (strV_get hi)⟩
theorem RSl.shape {w : World} {size n : Nat} {v : Value} {xs : List Value} (h : RSl w size v n xs) : ∃ ad cap, v = .slice ad n cap := by
  obtain ⟨_, ad, cap, hv, _⟩ := h; exact ⟨ad, cap, hv⟩
theorem RSl.nlen {w : World} {v : Value} {n : Nat} {xs : List Bs} (h : RSl w 1 v n (strV xs)) : n = xs.length := by
  have := h.1; rw [strV_length] at this; omega

theorem lcmp_drop {xs ys : List Bs} {i : Nat} (h1 : i < xs.length) (h2 : i < ys.length) : lcmp (xs.drop i) (ys.drop i) = if bcmp (xs.getD i []) (ys.getD i []) = 0 then lcmp (xs.drop (i + 1)) (ys.drop (i + 1)) else bcmp (xs.getD i []) (ys.getD i []) := by
  have e1 : xs.getD i [] = xs[i] := by simp [List.getD_eq_getElem?_getD, h1]
  have e2 : ys.getD i [] = ys[i] := by simp [List.getD_eq_getElem?_getD, h2]
  rw [e1, e2, List.drop_eq_getElem_cons h1, List.drop_eq_getElem_cons h2, lcmp]


/-- Where a text stands first. -/
def ixOf : List Bs → Bs → Nat → Int
  | [], _, _ => -1
  | x :: xs, y, i => if y = x then i else ixOf xs y (i + 1)
theorem ixOf_drop {xs : List Bs} {y : Bs} {i : Nat} (h1 : i < xs.length) : ixOf (xs.drop i) y i = if y = xs.getD i [] then (i : Int) else ixOf (xs.drop (i + 1)) y (i + 1) := by
  have e1 : xs.getD i [] = xs[i] := by simp [List.getD_eq_getElem?_getD, h1]
  rw [e1, List.drop_eq_getElem_cons h1, ixOf]
theorem ixOf_mem : ∀ (xs : List Bs) (y : Bs) (i : Nat), decide (0 ≤ ixOf xs y i) = decide (y ∈ xs)
  | [], y, i => by simp [ixOf]
  | x :: xs, y, i => by
    unfold ixOf
    by_cases h : y = x
    · subst h; simp
    · rw [if_neg h, ixOf_mem xs y (i + 1)]; simp [h]


end Go.Proofs.YtpoebplhemimmaaGreatDoor
namespace Go.Proofs.YtpoebplhemimmaaGreatDoor
variable {Ds : List Deferred}
open Go.RowKit
set_option linter.unusedVariables false
set_option linter.unusedSimpArgs false
set_option maxHeartbeats 1000000

/-- Where a part of a slice begins. -/
def subA (ad : Option Addr) (size l m : Nat) : Option Addr := if m = l then ad else ad.map (·.add (l * size))
theorem subA_lt {b off size l m : Nat} (h : l < m) : subA (some ⟨b, off, none⟩) size l m = some ⟨b, off + l * size, none⟩ := by
  unfold subA; rw [if_neg (by omega)]; simp [Addr.add_lit]
theorem subA_zero {ad : Option Addr} {size m : Nat} (h : ∀ a, ad = some a → ∃ b off, a = ⟨b, off, none⟩) : subA ad size 0 m = ad := by
  unfold subA
  split
  · rfl
  · cases ad with
    | none => rfl
    | some a => obtain ⟨b, off, rfl⟩ := h a rfl; simp [Addr.add_lit]

section
variable {P : Program} {ops : Array Oper} {Q : Exit → Act → World → Prop} {rest : List Oper} {o : Oper} {a : Act} {w w0 : World} {N dd : Nat} {L : List (Nat × Value)} {H B : List (Nat × Obj)} {v : Value}

theorem r_slice_sl (hF : FrD Ds N L a) {x : Operand} {lo hi : Option Operand} {t e : TypeId} {size bytes n cap : Nat} {ad : Option Addr} (l h : Nat) (ho : o.op = .slice t x lo hi none) (hx : ev L x = some (.slice ad n cap)) (ht : P.underlying t = some (.slice e)) (hti : TI P e size bytes)
    (hlo : match lo with | none => l = 0 | some y => ∃ k, ev L y = some (.int k (l : Int))) (hhi : match hi with | none => h = n | some y => ∃ k, ev L y = some (.int k (h : Int)))
    (hb : l ≤ h ∧ h ≤ cap) : Does P o a w (.slice (subA ad size l cap) (h - l) (cap - l)) w := by
  obtain ⟨inf, z, h1, _, rfl, _, _⟩ := hti
  obtain ⟨hb1, hb2⟩ := hb
  have e1 : (l : Int) ≤ (h : Int) := by omega
  have e2 : (h : Int) ≤ (cap : Int) := by omega
  left; unfold execOp
  rcases lo with _ | lo <;> rcases hi with _ | hi <;> simp only at hlo hhi
  · subst hlo hhi
    simp [ho, hF.ev hx, Instr.sliceAt, Instr.slice, Instr.sliceBounds, run_underlying ht, sizeOf, typeInfo, h1, subA]
  · obtain ⟨k, hk⟩ := hhi; subst hlo
    simp [ho, hF.ev hx, hF.ev hk, Instr.sliceAt, Instr.slice, Instr.sliceBounds, Instr.sliceBound, asIntOf, run_underlying ht, sizeOf, typeInfo, h1, subA, hb2]
  · obtain ⟨k, hk⟩ := hlo; subst hhi
    simp [ho, hF.ev hx, hF.ev hk, Instr.sliceAt, Instr.slice, Instr.sliceBounds, Instr.sliceBound, asIntOf, run_underlying ht, sizeOf, typeInfo, h1, subA, hb1]
  · obtain ⟨k, hk⟩ := hlo; obtain ⟨k', hk'⟩ := hhi
    simp [ho, hF.ev hx, hF.ev hk, hF.ev hk', Instr.sliceAt, Instr.slice, Instr.sliceBounds, Instr.sliceBound, asIntOf, run_underlying ht, sizeOf, typeInfo, h1, subA, hb1, hb2]

theorem r_cap_sl (hF : FrD Ds N L a) {x : Operand} {t e : TypeId} {ad : Option Addr} {n cap : Nat} (ho : o.op = .call { callee := .builtin .cap, args := #[x], argTypes := #[t] }) (hx : ev L x = some (.slice ad n cap)) (ht : P.underlying t = some (.slice e)) :
    Does P o a w (.int .i64 cap) w := by
  left; rw [exec_builtin hF ho (ev1 hx)]; simp [go_sem, Builtin.cap_, run_underlying ht]

theorem b_slnil {t e : TypeId} {ad : Option Addr} {n c : Nat} (h : P.underlying t = some (.slice e)) : (binOp .eql t (.slice ad n c) (.slice none 0 0)).run P w = .ok (.bool ad.isNone) w :=
  Lib.run_eql_slice_nil w t e ad n c 0 0 h

/-- A row, written over from a place on. -/
def wr (cur : Array Value) (off : Nat) (xs : List Value) : Array Value := (cur.toList.take off ++ xs ++ cur.toList.drop (off + xs.length)).toArray
theorem wr_size {cur : Array Value} {off : Nat} {xs : List Value} (h : off + xs.length ≤ cur.size) : (wr cur off xs).size = cur.size := by
  simp [wr]; omega
theorem wr_toList (cur : Array Value) (off : Nat) (xs : List Value) : (wr cur off xs).toList = cur.toList.take off ++ xs ++ cur.toList.drop (off + xs.length) := rfl

/-- copy into a row of one's own. -/
theorem ls_copy {x y : Operand} {t t' e : TypeId} {size bytes g off dn dc sn sc : Nat} {cur : Array Value} {sa : Option Addr} {xs : List Value} (i : Nat) (hF : FrD Ds N L a) (hH : Hp w0 w H) (hg : o.guard = none) (hdst : o.dst = some dd) (hd : Nat.blt dd N = true)
    (ho : o.op = .call { callee := .builtin .copy, args := #[x, y], argTypes := #[t, t'] }) (hx : ev L x = some (.slice (some ⟨g, off, none⟩) dn dc)) (hy : ev L y = some (.slice sa sn sc))
    (ht : P.underlying t = some (.slice e)) (hti : TI P e size bytes) (hi : H[i]? = some (g, .cells cur e (0, 0))) (hl : xs.length = Nat.min sn dn * size)
    (hsrc : xs = [] ∧ Nat.min sn dn = 0 ∨ ∃ b q, sa = some ⟨b, q, none⟩ ∧ ∀ j u, xs[j]? = some u → w.cell? ⟨b, q + j, none⟩ = some u) (hfit : off + xs.length ≤ cur.size) (h1 : ∀ u ∈ xs, u.oneCell' = true)
    (k : ∀ a' w', Hp w0 w' (H.set i (g, .cells (wr cur off xs) e (0, 0))) → FrD Ds N ((dd, .int .i64 (Nat.min sn dn : Nat)) :: L) a' → wpList P ops Q rest a' w') : wpList P ops Q (o :: rest) a w := by
  obtain ⟨inf, z, hinf, _, rfl, _, _⟩ := hti
  have hgc := (hH.own _ (List.mem_of_getElem? hi)).1
  simp only at hgc
  have hst := run_storeCells_at (P := P) g off e xs 0 cur w hgc (by simpa using hfit) h1
  simp only [Nat.add_zero] at hst
  refine ls hF hg hdst hd (v := .int .i64 (Nat.min sn dn : Nat)) (w' := w.setRow g (wr cur off xs)) (.inl ?_) fun a' hF' => k a' _ (hH.setRow hi) hF'
  rw [exec_builtin hF ho (ev2 hx hy)]
  have hc : (Builtin.copy_ #[t, t'] o.type #[.slice (some ⟨g, off, none⟩) dn dc, .slice sa sn sc]).run P w = .ok (goInt (Nat.min sn dn : Nat)) (w.setRow g (wr cur off xs)) := by
    rcases hsrc with ⟨rfl, h0⟩ | ⟨b, q, rfl, hc⟩
    · rw [h0]
      cases sa with
      | none => simp [Builtin.copy_, run_underlying ht, Builtin.lenOf, Builtin.firstCells, sizeOf, typeInfo, hinf, h0, hst]; simp [wr]
      | some p => simp [Builtin.copy_, run_underlying ht, Builtin.lenOf, Builtin.firstCells, sizeOf, typeInfo, hinf, h0, loadCells, loadCellsFrom, hst]; simp [wr]
    · have hld := run_loadCells_list (P := P) w ⟨b, q, none⟩ xs (fun j u hu => by rw [Addr.add_lit]; exact hc j u hu)
      rw [hl] at hld
      simp [Builtin.copy_, run_underlying ht, Builtin.lenOf, Builtin.firstCells, sizeOf, typeInfo, hinf, hld, hst, wr]
  simp [builtin, hc, Result.andThen, goInt]

/-- append of so many zero values, where there is no room. -/
theorem ls_appendz {x y : Operand} {t tn e : TypeId} {size bytes n cap k : Nat} {ad : Option Addr} {olds : List Value} {kq kn : IntKind} {z : Value} (hF : FrD Ds N L a) (hH : Hp w0 w H) (hg : o.guard = none) (hdst : o.dst = some dd) (hd : Nat.blt dd N = true)
    (ho : o.op = .call { callee := .builtin .append, args := #[x, y], argTypes := #[t, tn] }) (hx : ev L x = some (.slice ad n cap)) (hy : ev L y = some (.int kq (k : Int)))
    (ht : P.underlying t = some (.slice e)) (htn : P.underlying tn = some (.int kn)) (hti : TI P e size bytes) (hz : ZV P e z) (ho' : olds.length = n * size)
    (hsrc : ad = none ∧ n = 0 ∨ ∃ b q, ad = some ⟨b, q, none⟩ ∧ ∀ j u, olds[j]? = some u → w.cell? ⟨b, q + j, none⟩ = some u) (h0 : 0 < k) (hs : 0 < size) (hgr : cap < n + k) (h48 : (n + k) * bytes ≤ 140737488355328) (hbp : 0 < bytes)
    (kk : ∀ a' w' g cap', Hp w0 w' ((g, .cells (olds.toArray ++ Builtin.zeroCells z.cells k ++ Builtin.zeroCells z.cells (cap' - (n + k))) e (0, 0)) :: H) → Ext w w' → n + k ≤ cap' → cap' ≤ maxLen → FrD Ds N ((dd, .slice (some ⟨g, 0, none⟩) (n + k) cap') :: L) a' → wpList P ops Q rest a' w') :
    wpList P ops Q (o :: rest) a w := by
  obtain ⟨inf, z', hinf, hz1, rfl, rfl, hzs⟩ := hti
  obtain ⟨inf', hi', hz'⟩ := hz
  rw [hinf] at hi'; cases hi'
  rw [hz1] at hz'; cases hz'
  have hold : (Builtin.firstCells inf.size n (.slice ad n cap)).run P w.drew = .ok olds.toArray w.drew := by
    rcases hsrc with ⟨rfl, rfl⟩ | ⟨b, q, rfl, hc⟩
    · have : olds = [] := List.eq_nil_of_length_eq_zero (by simpa using ho')
      subst this
      simp [Builtin.firstCells]
    · have hl := run_loadCells_list (P := P) w.drew ⟨b, q, none⟩ olds (fun j u hu => by rw [Addr.add_lit]; exact hc j u hu)
      rw [ho'] at hl
      simp [Builtin.firstCells, hl]
  have hle : n + k ≤ (n + k) * inf.bytes := Nat.le_mul_of_pos_right _ hbp
  have hkb : k * inf.bytes ≤ (n + k) * inf.bytes := Nat.mul_le_mul_right _ (by omega)
  have hr := Lib.run_append_grow_zeros w t tn o.type e inf _ kq kn ht htn hinf hz1 ad n cap olds hold k h0 hs hgr (by omega) (by omega) (growslice_fits hgr h48)
  have hge := grownCap_ge w (n + k) cap e
  have hmx := grownCap_le_maxLen w (n + k) cap e (by unfold maxLen; omega)
  refine ls hF hg hdst hd (.inl ?_) fun a' hF' => kk a' _ _ _ (hH.drew.alloc _) ((Ext.drew w).trans (Ext.alloc _ _)) hge hmx hF'
  rw [exec_builtin hF ho (ev2 hx hy), BigFrame.builtin_append]
  simp [hr]

/-- slices.overlaps of two rows of one's own. -/
theorem ls_overlaps {f : FuncId} {fn : Func} {xs : Array Operand} {ats : Array TypeId} {t tb e : TypeId} {size bytes g1 g2 o1 o2 n1 c1 n2 c2 i j : Nat} {cs1 cs2 : Array Value} {e1 e2 : TypeId} (hF : FrD Ds N L a) (hH : Hp w0 w H) (hg : o.guard = none) (hdst : o.dst = some dd) (hd : Nat.blt dd N = true)
    (ho : o.op = .call { callee := .value (.func f), args := xs, argTypes := ats }) (hxs : evl L xs.toList = some [.slice (some ⟨g1, o1, none⟩) n1 c1, .slice (some ⟨g2, o2, none⟩) n2 c2])
    (hf : P.funcs[f]? = some fn) (hn : (fn.name == "runtime.NumGoroutine") = false) (hb : fn.body.isNone = true) (hE1 : Extern.findNext fn = none) (hE2 : Extern.find fn = some (Extern.SlicesOverlaps.overlaps #[t, t] #[tb]))
    (ht : P.underlying t = some (.slice e)) (hti : TI P e size bytes) (hi : H[i]? = some (g1, .cells cs1 e1 (0, 0))) (hj : H[j]? = some (g2, .cells cs2 e2 (0, 0))) (hij : i ≠ j) (h2 : 0 < cs2.size)
    (k : ∀ a', FrD Ds N ((dd, .bool false) :: L) a' → wpList P ops Q rest a' w) : wpList P ops Q (o :: rest) a w := by
  have hg1 := (hH.own _ (List.mem_of_getElem? hi)).1
  have hg2 := (hH.own _ (List.mem_of_getElem? hj)).1
  simp only at hg1 hg2
  have hne : g1 ≠ g2 := by
    have hl1 : i < (H.map (·.1)).length := by simpa using (List.getElem?_eq_some_iff.1 hi).1
    have hl2 : j < (H.map (·.1)).length := by simpa using (List.getElem?_eq_some_iff.1 hj).1
    have e1 : (H.map (·.1))[i] = g1 := by rw [List.getElem_map, (List.getElem?_eq_some_iff.1 hi).2]
    have e2 : (H.map (·.1))[j] = g2 := by rw [List.getElem_map, (List.getElem?_eq_some_iff.1 hj).2]
    intro he
    rw [← e1, ← e2] at he
    have hp := List.pairwise_iff_getElem.1 hH.nodup
    rcases Nat.lt_or_gt_of_ne hij with hlt | hlt
    · exact hp i j hl1 hl2 hlt he
    · exact hp j i hl2 hl1 hlt he.symm
  obtain ⟨inf, z, hinf, _, rfl, _, _⟩ := hti
  refine ls_ext hF hg hdst hd ho hxs hf hn hb hE1 hE2 (Lib.run_overlaps_apart w t tb e ht inf.size (fun w => by simp [sizeOf, typeInfo, hinf]) ⟨g1, o1, none⟩ ⟨g2, o2, none⟩ n1 c1 n2 c2 hne e1 e2 cs1.size cs2.size (by simp [World.shape?, hg1]) (by simp [World.shape?, hg2]) (by omega) (by simp [World.frozen?, hg1]) (by simp [World.frozen?, hg1])) k

/-- A call of a function value. -/
theorem ls_callv {f : FuncId} {x : Operand} {xs : Array Operand} {ats : Array TypeId} {vs : List Value} {R : Value → World → Prop} {cap : Array Value} (hF : FrD Ds N L a) (hg : o.guard = none) (hdst : o.dst = some dd) (hd : Nat.blt dd N = true)
    (ho : o.op = .call { callee := .value x, args := xs, argTypes := ats }) (hx : ev L x = some (.func (.func f) #[] cap)) (hxs : evl L xs.toList = some vs) (hok : FnOk P f)
    (hc : Rets P f (vs ++ cap.toList) w R) (k : ∀ v w', R v w' → ∀ a', FrD Ds N ((dd, v) :: L) a' → wpList P ops Q rest a' w') : wpList P ops Q (o :: rest) a w :=
  wpList_plain hg fun K hK => by
    have hm : xs.map a.eval = vs.toArray := by
      apply Array.ext'; simpa using hF.evl hxs
    have h1 := run_enter hok (vs.toArray ++ cap) w
    have h2 := hF.ev hx
    unfold Oper.wp
    have he : (execOp a.eval o).run P w = .ok (.enter f (vs.toArray ++ cap)) w := by
      unfold execOp
      simp [ho, resolve, h2, Deferred.ofValue, hm, invoke, h1]
    rw [he]
    have hc' : Calls P f (vs.toArray ++ cap) w fun e w' => ∃ v, e = .returned v ∧ R v w' := by
      have : (vs ++ cap.toList).toArray = vs.toArray ++ cap := by apply Array.ext'; simp
      rw [← this]; exact hc
    refine Calls.mono hc' ?_
    rintro e w' ⟨v, rfl, hr⟩
    exact hK _ _ (k v w' hr _ (by rw [hdst]; exact hF.put _ hd))
theorem lsy_callv {f : FuncId} {x : Operand} {xs : Array Operand} {ats : Array TypeId} {vs : List Value} {R : Value → World → Prop} {cap : Array Value} {j d : Nat} {b want : Bool} (hF : FrD Ds N L a) (hg : o.guard = some (j, want)) (hj : (ops[j]?).bind (·.dst) = some d) (hb : lk L d = some (.bool b)) (hw : b = want) (hdst : o.dst = some dd) (hd : Nat.blt dd N = true)
    (ho : o.op = .call { callee := .value x, args := xs, argTypes := ats }) (hx : ev L x = some (.func (.func f) #[] cap)) (hxs : evl L xs.toList = some vs) (hok : FnOk P f)
    (hc : Rets P f (vs ++ cap.toList) w R) (k : ∀ v w', R v w' → ∀ a', FrD Ds N ((dd, v) :: L) a' → wpList P ops Q rest a' w') : wpList P ops Q (o :: rest) a w :=
  wpList_step fun K hK => by
    have hy := yielded_of hF hj hb
    simp only [Region.wanted, hg, hy, hw, beq_self_eq_true, if_true]
    have hm : xs.map a.eval = vs.toArray := by
      apply Array.ext'; simpa using hF.evl hxs
    have h1 := run_enter hok (vs.toArray ++ cap) w
    have h2 := hF.ev hx
    unfold Oper.wp
    have he : (execOp a.eval o).run P w = .ok (.enter f (vs.toArray ++ cap)) w := by
      unfold execOp
      simp [ho, resolve, h2, Deferred.ofValue, hm, invoke, h1]
    rw [he]
    have hc' : Calls P f (vs.toArray ++ cap) w fun e w' => ∃ v, e = .returned v ∧ R v w' := by
      have : (vs ++ cap.toList).toArray = vs.toArray ++ cap := by apply Array.ext'; simp
      rw [← this]; exact hc
    refine Calls.mono hc' ?_
    rintro e w' ⟨v, rfl, hr⟩
    exact hK _ _ (k v w' hr _ (by rw [hdst]; exact hF.put _ hd))
end
end Go.Proofs.YtpoebplhemimmaaGreatDoor
namespace Go.Proofs.YtpoebplhemimmaaGreatDoor
open Go.RowKit
set_option linter.unusedVariables false
set_option linter.unusedSimpArgs false
set_option maxHeartbeats 1000000

theorem ins_new {cur : Array Value} {xs news : List Value} {n i S cap : Nat} {zs1 zs2 : Array Value} (hx : xs.length = n * S) (hn : news.length = S) (hi : i < n) (h1 : zs1.size = (n + 1 - i) * S) (hc : n + 1 ≤ cap) (h2 : zs2.size = (cap - (n + 1)) * S) :
    (wr (wr ((xs.take (i * S)).toArray ++ zs1 ++ zs2) (i * S) news) ((i + 1) * S) (xs.drop (i * S))).size = cap * S ∧
    (wr (wr ((xs.take (i * S)).toArray ++ zs1 ++ zs2) (i * S) news) ((i + 1) * S) (xs.drop (i * S))).toList.take ((n + 1) * S) = xs.take (i * S) ++ news ++ xs.drop (i * S) := by
  have e1 : (i + 1) * S = i * S + S := by rw [Nat.add_mul, Nat.one_mul]
  have e2 : (n + 1) * S = n * S + S := by rw [Nat.add_mul, Nat.one_mul]
  have e3 : i * S ≤ n * S := Nat.mul_le_mul_right _ (by omega)
  have e4 : (n + 1 - i) * S = (n + 1) * S - i * S := Nat.sub_mul ..
  have e5 : (cap - (n + 1)) * S = cap * S - (n + 1) * S := Nat.sub_mul ..
  have e6 : (n + 1) * S ≤ cap * S := Nat.mul_le_mul_right _ hc
  have hsz : ((xs.take (i * S)).toArray ++ zs1 ++ zs2).size = cap * S := by simp [h1, h2]; omega
  have hA : (wr ((xs.take (i * S)).toArray ++ zs1 ++ zs2) (i * S) news).size = cap * S := by rw [wr_size (by omega), hsz]
  have hB : (xs.take (i * S)).length = i * S := by simp; omega
  refine ⟨by rw [wr_size (by rw [hA, List.length_drop]; omega), hA], ?_⟩
  have hl : (wr ((xs.take (i * S)).toArray ++ zs1 ++ zs2) (i * S) news).toList.take ((i + 1) * S) = xs.take (i * S) ++ news := by
    rw [wr_toList]
    have : (((xs.take (i * S)).toArray ++ zs1 ++ zs2).toList.take (i * S)) = xs.take (i * S) := by
      simp only [Array.toList_append, List.append_assoc]
      exact List.take_left' hB
    rw [this]
    exact List.take_left' (by simp only [List.length_append]; omega)
  rw [wr_toList, hl]
  exact List.take_left' (by simp only [List.length_append, List.length_drop]; omega)

theorem ins_old {cur : Array Value} {xs news : List Value} {n i S cap : Nat} (hx : xs.length = n * S) (hn : news.length = S) (hi : i < n) (hc : n + 1 ≤ cap) (hs : cur.size = cap * S) (ht : cur.toList.take (n * S) = xs) :
    (wr (wr cur ((i + 1) * S) (xs.drop (i * S))) (i * S) news).size = cap * S ∧
    (wr (wr cur ((i + 1) * S) (xs.drop (i * S))) (i * S) news).toList.take ((n + 1) * S) = xs.take (i * S) ++ news ++ xs.drop (i * S) := by
  have e1 : (i + 1) * S = i * S + S := by rw [Nat.add_mul, Nat.one_mul]
  have e2 : (n + 1) * S = n * S + S := by rw [Nat.add_mul, Nat.one_mul]
  have e3 : i * S ≤ n * S := Nat.mul_le_mul_right _ (by omega)
  have e6 : (n + 1) * S ≤ cap * S := Nat.mul_le_mul_right _ hc
  have hA : (wr cur ((i + 1) * S) (xs.drop (i * S))).size = cap * S := by rw [wr_size (by rw [List.length_drop]; omega), hs]
  refine ⟨by rw [wr_size (by rw [hA]; omega), hA], ?_⟩
  have hB : (xs.take (i * S)).length = i * S := by simp; omega
  have hC : (cur.toList.take ((i + 1) * S)).length = (i + 1) * S := by simp; omega
  have h1 : (wr cur ((i + 1) * S) (xs.drop (i * S))).toList.take (i * S) = xs.take (i * S) := by
    rw [wr_toList, List.append_assoc, List.take_append_of_le_length (by omega), List.take_take, Nat.min_eq_left (by omega), ← ht, List.take_take, Nat.min_eq_left (by omega)]
  have h2 : (wr cur ((i + 1) * S) (xs.drop (i * S))).toList.drop (i * S + news.length) = xs.drop (i * S) ++ cur.toList.drop ((i + 1) * S + (xs.drop (i * S)).length) := by
    rw [wr_toList, List.append_assoc, hn, ← e1, List.drop_left' hC]
  rw [wr_toList, h1, h2, ← List.append_assoc]
  exact List.take_left' (by simp only [List.length_append, List.length_drop]; omega)


end Go.Proofs.YtpoebplhemimmaaGreatDoor
namespace Go.Proofs.YtpoebplhemimmaaGreatDoor
open Go.RowKit
set_option linter.unusedVariables false
set_option linter.unusedSimpArgs false
set_option maxHeartbeats 1000000

theorem labelsOf_step {m : Bs} {k : Nat} (hk : (m.getD 0 0).toNat = k) (h0 : k ≠ 0) (h63 : k ≤ 63) (h : k + 1 ≤ m.length) : labelsOf m = (labelsOf (m.drop (k + 1))).map ((m.take (k + 1)).drop 1 :: ·) := by
  have hm : m ≠ [0] := by rintro rfl; simp at hk; exact h0 hk.symm
  by_cases h2 : k + 2 ≤ m.length
  · have hf : firstB m = true := firstB_iff.2 ⟨by omega, by omega, by omega, by omega⟩
    rw [labelsOf_cons hm hf, firstLabel, firstRest, if_pos hf, if_pos hf, hk]
  · have hf : firstB m = false := firstB_no (by omega)
    have hd : m.drop (k + 1) = [] := List.drop_eq_nil_of_le (by omega)
    rw [labelsOf_no hm hf, hd, labelsOf_no (by simp) (by rfl)]; rfl
theorem labelsOf_end {l : Bs} {i : Nat} (hi : i ≤ l.length) (h : l.length ≤ i ∨ (l.getD i 0).toNat = 0) : (labelsOf (l.drop i)) = if i + 1 = l.length then some [] else none := by
  by_cases h1 : i + 1 = l.length
  · rw [if_pos h1]
    have h0 : l.getD i 0 = 0 := by rcases h with h | h; omega; exact UInt8.toNat_inj.1 h
    have : l.drop i = [0] := by
      have hlt : i < l.length := by omega
      rw [List.drop_eq_getElem_cons hlt, List.drop_eq_nil_of_le (by omega)]
      rw [List.getD_eq_getElem?_getD, List.getElem?_eq_getElem hlt] at h0
      simpa using h0
    rw [this]; rfl
  · rw [if_neg h1]
    have hg : ((l.drop i).getD 0 0).toNat = 0 ∨ (l.drop i) = [] := by
      rcases h with h | h
      · exact .inr (List.drop_eq_nil_of_le h)
      · left; simpa [List.getD_eq_getElem?_getD] using h
    refine labelsOf_no ?_ (firstB_no ?_)
    · intro e; have := congrArg List.length e; simp at this; omega
    · rintro ⟨h2, h3, _⟩
      rcases hg with hg | hg
      · exact h3 hg
      · rw [hg] at h2; simp at h2



theorem low_take {l : Bs} {i : Nat} (h : i < l.length) : low (l.take (i + 1)) = low (l.take i) ++ [lowB (l.getD i 0)] := by
  rw [List.take_succ_eq_append_getElem h, show ∀ a b : Bs, low (a ++ b) = low a ++ low b from fun a b => List.map_append, show l.getD i 0 = l[i] by simp [List.getD_eq_getElem?_getD, h]]
  rfl
theorem low_length (l : Bs) : (low l).length = l.length := by simp [low]


theorem rsl_byte {w0 w : World} {H : List (Nat × Obj)} {g n : Nat} {e : TypeId} (hH : Hp w0 w ((g, .cells (Value.int .u8 (n : Int)).cells e (0, 0)) :: H)) (hn : n < 256) : RSl w 1 (.slice (some ⟨g, 0, none⟩) 1 1) 1 (bytV [UInt8.ofNat n]) := by
  have h := rsl_lit (n := 1) (size := 1) hH rfl (by decide)
  have e : (Value.int .u8 (n : Int)).cells.toList = bytV [UInt8.ofNat n] := by
    have : (UInt8.ofNat n).toNat = n := UInt8.toNat_ofNat_of_lt' (by simp [UInt8.size]; omega)
    simp only [bytV, List.map_cons, List.map_nil, this]; rfl
  rwa [e] at h


theorem strV_append (a b : List Bs) : strV a ++ strV b = strV (a ++ b) := by simp [strV]



theorem lcmp_rev {xs ys : List Bs} {k : Nat} (h1 : k + 1 ≤ xs.length) (h2 : k + 1 ≤ ys.length) :
    lcmp ((xs.map low).reverse.drop k) ((ys.map low).reverse.drop k) = if bcmp (low (xs.getD (xs.length - (k + 1)) [])) (low (ys.getD (ys.length - (k + 1)) [])) = 0 then lcmp ((xs.map low).reverse.drop (k + 1)) ((ys.map low).reverse.drop (k + 1)) else bcmp (low (xs.getD (xs.length - (k + 1)) [])) (low (ys.getD (ys.length - (k + 1)) [])) := by
  have e : ∀ zs : List Bs, k + 1 ≤ zs.length → (zs.map low).reverse.getD k [] = low (zs.getD (zs.length - (k + 1)) []) := by
    intro zs h
    rw [List.getD_eq_getElem?_getD, List.getD_eq_getElem?_getD, List.getElem?_reverse (by simp; omega)]
    simp only [List.length_map, List.getElem?_map]
    rw [show zs.length - 1 - k = zs.length - (k + 1) by omega, List.getElem?_eq_getElem (by omega)]
    rfl
  rw [lcmp_drop (by simp; omega) (by simp; omega), e xs h1, e ys h2]
theorem lcmp_end {xs ys : List Bs} {k : Nat} (hk1 : k ≤ xs.length) (hk2 : k ≤ ys.length) (h : xs.length = k ∨ ys.length = k) :
    lcmp ((xs.map low).reverse.drop k) ((ys.map low).reverse.drop k) = icmp xs.length ys.length := by
  have e : ∀ zs : List Bs, ((zs.map low).reverse.drop k).length = zs.length - k := fun zs => by simp
  have e1 := e xs
  have e2 := e ys
  generalize (xs.map low).reverse.drop k = a at *
  generalize (ys.map low).reverse.drop k = b at *
  unfold icmp
  cases a with
  | nil => cases b with
    | nil => simp at e1 e2; rw [if_neg (by omega), if_neg (by omega)]; rfl
    | cons y b => simp at e1 e2; rw [if_pos (by omega)]; rfl
  | cons x a => cases b with
    | nil => simp at e1 e2; rw [if_neg (by omega), if_pos (by omega)]; rfl
    | cons y b => simp at e1 e2; omega
theorem ncmp_no {l m : Bs} (h : mayB l = false ∨ mayB m = false) : ncmp l m = 0 := by
  unfold ncmp
  rcases h with h | h
  · rw [show split l = none by simpa [mayB] using h]
  · rw [show split m = none by simpa [mayB] using h]; cases split l <;> rfl

end Go.Proofs.YtpoebplhemimmaaGreatDoor
namespace Go.Proofs.YtpoebplhemimmaaGreatDoor
open Go.RowKit
set_option linter.unusedVariables false
set_option linter.unusedSimpArgs false
set_option maxHeartbeats 1000000

/-- What a call has made joins what is one's own. -/
theorem Hp.join {w0 w w' : World} {H B : List (Nat × Obj)} (h : Hp w0 w H) (hB : Hp w w' B) : Hp w0 w' (B ++ H) := by
  have h' := h.ext hB.below
  refine ⟨h'.below, fun p hp => ?_, ?_⟩
  · rcases List.mem_append.1 hp with hp | hp
    · have := hB.own p hp
      exact ⟨this.1, Nat.le_trans h.below.size this.2⟩
    · exact h'.own p hp
  · rw [List.map_append, List.nodup_append]
    refine ⟨hB.nodup, h.nodup, fun a ha b hb e => ?_⟩
    obtain ⟨p, hp, rfl⟩ := List.mem_map.1 ha
    obtain ⟨q, hq, rfl⟩ := List.mem_map.1 hb
    have h1 := (hB.own p hp).2
    have h2 := (Array.getElem?_eq_some_iff.1 (h.own q hq).1).1
    omega

theorem bcmp_cases (x y : Bs) : bcmp x y = -1 ∨ bcmp x y = 0 ∨ bcmp x y = 1 := by
  unfold bcmp; split
  · exact .inl rfl
  · split
    · exact .inr (.inr rfl)
    · exact .inr (.inl rfl)
theorem lcmp_cases : ∀ (x y : List Bs), lcmp x y = -1 ∨ lcmp x y = 0 ∨ lcmp x y = 1
  | [], [] => .inr (.inl rfl)
  | [], _ :: _ => .inl rfl
  | _ :: _, [] => .inr (.inr rfl)
  | x :: xs, y :: ys => by
    unfold lcmp; split
    · exact lcmp_cases xs ys
    · exact bcmp_cases x y
theorem icmp_lcmp (x y : List Bs) : icmp (lcmp x y) 0 = lcmp x y := by
  rcases lcmp_cases x y with h | h | h <;> rw [h] <;> rfl



theorem orI_drop {xs : List Int} {i : Nat} (h : i < xs.length) : orI (xs.drop i) = if xs.getD i 0 ≠ 0 then xs.getD i 0 else orI (xs.drop (i + 1)) := by
  have e : xs.getD i 0 = xs[i] := by simp [List.getD_eq_getElem?_getD, h]
  rw [e, List.drop_eq_getElem_cons h, orI]

/-- Data that rise. -/
def Rising : List Bs → Prop
  | [] => True
  | [_] => True
  | x :: y :: xs => bless x y = true ∧ Rising (y :: xs)
/-- How many stand ahead of a text. -/
def below (xs : List Bs) (y : Bs) : Nat := (xs.takeWhile fun x => bless x y).length
end Go.Proofs.YtpoebplhemimmaaGreatDoor
namespace Go.Proofs.YtpoebplhemimmaaGreatDoor
open Go.RowKit
set_option linter.unusedVariables false
set_option linter.unusedSimpArgs false
set_option maxHeartbeats 1000000
section
variable {P : Program} {w : World}
theorem b_shr1 (t : TypeId) (n : Nat) : (binOp .shr t (.int .u64 (n : Int)) (.int .u64 1)).run P w = .ok (.int .u64 ((n / 2 : Nat) : Int)) w := by
  simp [go_sem]
theorem b_shl8 (t : TypeId) (n : Nat) (h : n < 1000000000) : (binOp .shl t (.int .i64 (n : Int)) (.int .u64 8)).run P w = .ok (.int .i64 ((n * 256 : Nat) : Int)) w := by
  simp [go_sem]; rw [IntWalk.i64_in _ (by omega)]
theorem b_shl8u (t : TypeId) (n : Nat) (h : n < 16777216) : (binOp .shl t (.int .u32 (n : Int)) (.int .u64 8)).run P w = .ok (.int .u32 ((n * 256 : Nat) : Int)) w := by
  simp [go_sem]; rw [IntWalk.u32_in _ (by omega)]
theorem and192 : ∀ n : Fin 256, bits .and .u8 ((n.val : Nat) : Int) 192 = ((n.val / 64 * 64 : Nat) : Int) := by decide +kernel
theorem andNot192 : ∀ n : Fin 256, bits .andNot .u8 ((n.val : Nat) : Int) 192 = ((n.val % 64 : Nat) : Int) := by decide +kernel
theorem b_and192 (t : TypeId) (n : Nat) (h : n < 256) : (binOp .and t (.int .u8 (n : Int)) (.int .u8 192)).run P w = .ok (.int .u8 ((n / 64 * 64 : Nat) : Int)) w := by
  simp [go_sem]; exact and192 ⟨n, h⟩
theorem b_andNot192 (t : TypeId) (n : Nat) (h : n < 256) : (binOp .andNot t (.int .u8 (n : Int)) (.int .u8 192)).run P w = .ok (.int .u8 ((n % 64 : Nat) : Int)) w := by
  have := andNot192 ⟨n, h⟩
  simp only at this
  simp [go_sem, this]
theorem b_orj (t : TypeId) (n m : Nat) (h : n < 1000000) (hm : m < 256) : (binOp .or t (.int .i64 ((n * 256 : Nat) : Int)) (.int .i64 (m : Int))).run P w = .ok (.int .i64 ((n * 256 + m : Nat) : Int)) w := by
  have := bits_join .i64 40 (by decide) (fun n h1 h2 => IntWalk.i64_in n (by omega)) 8 (x := ((n * 256 : Nat) : Int)) (y := (m : Int)) (by omega) (by omega) (by omega) (by omega) (by omega) (by omega)
  simp [go_sem]; simpa using this
theorem b_orju (t : TypeId) (n m : Nat) (h : n < 16777216) (hm : m < 256) : (binOp .or t (.int .u32 ((n * 256 : Nat) : Int)) (.int .u32 (m : Int))).run P w = .ok (.int .u32 ((n * 256 + m : Nat) : Int)) w := by
  have := bits_join .u32 32 (by decide) (fun n h1 h2 => IntWalk.u32_in n (by omega)) 8 (x := ((n * 256 : Nat) : Int)) (y := (m : Int)) (by omega) (by omega) (by omega) (by omega) (by omega) (by omega)
  simp [go_sem]; simpa using this
theorem b_mulk (t : TypeId) (n m : Nat) (h : n * m < 1000000000) : (binOp .mul t (.int .i64 (n : Int)) (.int .i64 (m : Int))).run P w = .ok (.int .i64 ((n * m : Nat) : Int)) w := by
  have : (n : Int) * m = ((n * m : Nat) : Int) := by simp
  simp [go_sem]; rw [this, IntWalk.i64_in _ (by omega)]
theorem b_remk (t : TypeId) (n m : Nat) (h : 0 < m) : (binOp .rem t (.int .i64 (n : Int)) (.int .i64 (m : Int))).run P w = .ok (.int .i64 ((n % m : Nat) : Int)) w := by
  have : ¬ m = 0 := by omega
  simp [go_sem, this]; exact Int.ofNat_tmod n m
theorem b_remu (t : TypeId) (n m : Nat) (h : 0 < m) : (binOp .rem t (.int .u64 (n : Int)) (.int .u64 (m : Int))).run P w = .ok (.int .u64 ((n % m : Nat) : Int)) w := by
  have : ¬ m = 0 := by omega
  simp [go_sem, this]; exact Int.ofNat_tmod n m
end
end Go.Proofs.YtpoebplhemimmaaGreatDoor
namespace Go.Proofs.YtpoebplhemimmaaGreatDoor
open Go.RowKit
set_option linter.unusedVariables false
set_option linter.unusedSimpArgs false
set_option maxHeartbeats 1000000

end Go.Proofs.YtpoebplhemimmaaGreatDoor
