/-
  Tables of names: maps of one's own, from texts to numbers. Nothing is claimed here.
  The walks of slices.Grow, Concat and Clone at bytes, and of cursor.Put2 and Put4. Nothing is claimed here.
-/
import Derived.Test.YtpoebplhemimmaaGreatDoorCur
import Derived.Test.YtpoebplhemimmaaGreatDoorWLaw
namespace Go.Proofs.YtpoebplhemimmaaGreatDoor
variable {Ds : List Deferred}
open Go.RowKit
set_option linter.unusedVariables false
set_option linter.unusedSimpArgs false

/-- A map's entries are a table's. -/
def MapE (es : Array MapEntry) (t : Tab) : Prop := es.toList.map (fun e => (e.key, e.val)) = t.map fun p => (Value.string (mk p.1), Value.int .i64 (p.2 : Nat))
theorem MapE.push {es : Array MapEntry} {t : Tab} (h : MapE es t) (n : Bs) (q c : Nat) : MapE (es.push { key := .string (mk n), val := .int .i64 (q : Nat), born := c }) (t ++ [(n, q)]) := by
  unfold MapE at *
  rw [Array.toList_push, List.map_append, List.map_append, h]; rfl
theorem same_mk (a b : Bs) : (mk a == mk b) = decide (a = b) := by
  have : (mk a == mk b) = (a.toArray == b.toArray) := rfl
  rw [this, Bool.eq_iff_iff]; simp
theorem find_tab (n : Bs) : ∀ (es : List MapEntry) (t : Tab) (i : Nat), es.map (fun e => (e.key, e.val)) = t.map (fun p => (Value.string (mk p.1), Value.int .i64 (p.2 : Nat))) →
    ∃ j, Instr.findNow .string (.string (mk n)) es i = some ((tabAt t n).map fun q => (j, .int .i64 (q : Nat)))
  | [], [], i, _ => ⟨0, rfl⟩
  | [], _ :: _, _, h => by simp at h
  | _ :: _, [], _, h => by simp at h
  | e :: es, p :: t, i, h => by
    simp only [List.map_cons, List.cons.injEq, Prod.mk.injEq] at h
    obtain ⟨⟨h1, h2⟩, h3⟩ := h
    have hs : Instr.sameNow .string (.string (mk n)) e.key = some (decide (n = p.1)) := by
      rw [h1]; show some (mk n == mk p.1) = _; rw [same_mk]
    unfold Instr.findNow
    rw [hs]
    by_cases hn : n = p.1
    · refine ⟨i, ?_⟩
      have : tabAt (p :: t) n = some p.2 := by unfold tabAt; rw [List.find?_cons_of_pos (by simpa using hn.symm)]; rfl
      rw [this, decide_eq_true hn, h2]; rfl
    · obtain ⟨j, hj⟩ := find_tab n es t (i + 1) h3
      refine ⟨j, ?_⟩
      have : tabAt (p :: t) n = tabAt t n := by unfold tabAt; rw [List.find?_cons_of_neg (by simpa using fun e => hn e.symm)]
      rw [this, decide_eq_false hn]; exact hj
theorem ck_string {P : Program} {w : World} {key : TypeId} {s : ByteArray} (b : Bool) (n : Nat) (hk : P.underlying key = some .string) : (Instr.checkKey b (n + 1) key (.string s)).run P w = .ok () w := by
  unfold Instr.checkKey
  simp [run_underlying hk]
theorem run_lookup_tab {P : Program} {w : World} {t key e : TypeId} {mv : Value} {tb : Tab} {n : Bs} (ht : P.underlying t = some (.map key e)) (hk : P.underlying key = some .string) (hz : ZV P e (.int .i64 0))
    (hm : (mv = .map none ∧ tb = []) ∨ ∃ r es c, mv = .map (some r) ∧ w.heap[r]? = some (.map es c) ∧ MapE es tb) :
    (Instr.lookup t mv (.string (mk n)) true).run P w = .ok (.tuple #[.int .i64 (((tabAt tb n).getD 0 : Nat) : Int), .bool (tabAt tb n).isSome]) w := by
  obtain ⟨i, hi, hz'⟩ := hz
  have hzv : (zeroValue e).run P w = .ok (.int .i64 0) w := by simp [zeroValue, typeInfo, hi, hz']
  unfold Instr.lookup
  simp only [Sem.run_bind, run_underlying ht, Result.andThen]
  rcases hm with ⟨rfl, rfl⟩ | ⟨r, es, c, rfl, hr, he⟩
  · simp only [Sem.run_bind, Sem.run_pure, Result.andThen, ck_string (P := P) (w := w) (s := mk n) _ 9999 hk]
    simp [Instr.findKey, run_underlying hk, Instr.findNow, hzv, tabAt]
  · obtain ⟨j, hj⟩ := find_tab n es.toList tb 0 he
    have hg : (getObj r).run P w = .ok (.map es c) w := by simp [getObj, Sem.run, hr]
    simp only [Sem.run_bind, hg, Sem.run_pure, Result.andThen, ck_string (P := P) (w := w) (s := mk n) _ 9999 hk, Instr.findKey, run_underlying hk, hj]
    cases hq : tabAt tb n with
    | none => simp [hzv]
    | some q => simp
section
variable {P : Program} {ops : Array Oper} {Q : Exit → Act → World → Prop} {rest : List Oper} {o : Oper} {a : Act} {w w0 : World} {N dd : Nat} {L : List (Nat × Value)} {H : List (Nat × Obj)}
theorem ls_makemap {t : TypeId} (hF : FrD Ds N L a) (hH : Hp w0 w H) (hg : o.guard = none) (hdst : o.dst = some dd) (hd : Nat.blt dd N = true) (ho : o.op = .makeMap t none)
    (k : ∀ a' w' g, Hp w0 w' ((g, .map #[] 0) :: H) → Ext w w' → FrD Ds N ((dd, .map (some g)) :: L) a' → wpList P ops Q rest a' w') : wpList P ops Q (o :: rest) a w := by
  refine ls hF hg hdst hd (v := .map (some w.heap.size)) (w' := w.alloc (.map #[] 0)) (.inl ?_) fun a' hF' => k a' _ _ (hH.alloc _) (Ext.alloc _ _) hF'
  unfold execOp
  simp [ho, Instr.makeMap]
/-- A table's place, asked. -/
theorem r_lookup {x y : Operand} {t key e : TypeId} {mv : Value} {tb : Tab} {n : Bs} (hF : FrD Ds N L a) (ho : o.op = .lookup t x y true) (hx : ev L x = some mv) (hy : ev L y = some (.string (mk n))) (ht : P.underlying t = some (.map key e))
    (hk : P.underlying key = some .string) (hz : ZV P e (.int .i64 0)) (hm : (mv = .map none ∧ tb = []) ∨ ∃ r es c, mv = .map (some r) ∧ w.heap[r]? = some (.map es c) ∧ MapE es tb) :
    Does P o a w (.tuple #[.int .i64 (((tabAt tb n).getD 0 : Nat) : Int), .bool (tabAt tb n).isSome]) w := by
  left; unfold execOp
  simp only [ho, hF.ev hx, hF.ev hy]
  rw [Sem.run_bind, run_lookup_tab ht hk hz hm]; rfl
/-- A new name, kept. -/
theorem ls_mapnew {x y z : Operand} {t key e : TypeId} {r i q c : Nat} {es : Array MapEntry} {tb : Tab} {n : Bs} (hF : FrD Ds N L a) (hH : Hp w0 w H) (hg : o.guard = none) (hdst : o.dst = none) (ho : o.op = .mapUpdate t x y z) (hx : ev L x = some (.map (some r)))
    (hy : ev L y = some (.string (mk n))) (hz : ev L z = some (.int .i64 (q : Nat))) (ht : P.underlying t = some (.map key e)) (hk : P.underlying key = some .string) (hi : H[i]? = some (r, .map es c)) (he : MapE es tb) (hn : tabAt tb n = none)
    (k : ∀ w' es' c', Hp w0 w' (H.set i (r, .map es' c')) → MapE es' (tb ++ [(n, q)]) → wpList P ops Q rest a w') : wpList P ops Q (o :: rest) a w := by
  have hr := (hH.own _ (List.mem_of_getElem? hi)).1
  simp only at hr
  obtain ⟨j, hj⟩ := find_tab n es.toList tb 0 he
  rw [hn] at hj
  have hlt : r < w.heap.size := (Array.getElem?_eq_some_iff.1 hr).1
  have hg' : (getObj r).run P w = .ok (.map es c) w := by simp [getObj, Sem.run, hr]
  refine ls0 (v := undef) (w' := { w with heap := w.heap.setIfInBounds r (.map (es.push { key := .string (mk n), val := .int .i64 (q : Nat), born := c }) (c + 1)) }) hF hg hdst (.inr ⟨?_, rfl⟩)
    (k _ _ _ (hH.writeAt (o2 := .map (es.push { key := .string (mk n), val := .int .i64 (q : Nat), born := c }) (c + 1)) hi ?_ ?_ ⟨rfl, rfl, rfl⟩ fun k hk => ?_) (he.push n q c))
  · unfold execOp
    simp only [ho, hF.ev hx, hF.ev hy, hF.ev hz]
    have : (Instr.mapUpdate t (.map (some r)) (.string (mk n)) (.int .i64 (q : Nat))).run P w = .ok () { w with heap := w.heap.setIfInBounds r (.map (es.push { key := .string (mk n), val := .int .i64 (q : Nat), born := c }) (c + 1)) } := by
      unfold Instr.mapUpdate
      simp only [Sem.run_bind, run_underlying ht, Result.andThen, hg', ck_string (P := P) (w := w) (s := mk n) _ 9999 hk, Instr.findKey, run_underlying hk, hj, Option.map_none, Sem.run_pure]
      simp [setObj, Sem.run, hr]
    rw [Sem.run_bind, this]; rfl
  · simp [hlt]
  · simp
  · simp [Array.getElem?_setIfInBounds]; intro e; exact absurd e.symm hk
end
end Go.Proofs.YtpoebplhemimmaaGreatDoor
namespace Go.Proofs.YtpoebplhemimmaaGreatDoor
variable {Ds : List Deferred}
open Go.RowKit
set_option linter.unusedVariables false
set_option linter.unusedSimpArgs false
set_option maxHeartbeats 1000000

theorem growz_spec (n : Nat) (hn : n < 100000000) (w0 : World) : Rets Tryz.prog 106 [.slice none 0 0, .int .i64 (n : Nat)] w0 fun r w' => ∃ B, Hp w0 w' B ∧ Sl 5 1 B r 0 [] := by
  have hH := Hp.refl w0
  refine rets_start Tryz.func106 rfl Tryz.ntmps106 rfl fun a Q0 hF hret hend => ?_
  simp only [argsFrom, Nat.zero_add, Nat.reduceAdd] at hF
  refine c_sr fun ops => ?_
  refine zm 1 hF rfl fun a hF => ?_
  refine c_n ?_
  replace hF := hF.sel [0, 1]
  simp only [ss, Nat.reduceBEq] at hF
  refine c_seq fun Q1 k1 t1 => ?_
  refine c_sr fun ops => ?_
  refine zm 1 hF rfl fun a hF => ?_
  refine zb hF rfl rfl rfl (b_ltn _ _ _ 0) fun a hF => ?_
  refine c_n ?_
  replace hF := hF.sel [0, 1, 6]
  simp only [ss, Nat.reduceBEq] at hF
  refine c_if hF rfl (fun h6 => ?_) (fun h6 => ?_)
  ·
   try simp only [qq] at h6
   exact absurd h6 (by omega)
  try simp only [qq] at h6
  refine wp_skip ?_
  refine k1 ?_
  refine c_seq fun Q2 k2 t2 => ?_
  refine c_sr fun ops => ?_
  refine zm 2 hF rfl fun a hF => ?_
  refine zl hF rfl (r_cap_sl hF rfl rfl Tryz.underlying26) fun a hF => ?_
  refine zm 1 hF rfl fun a hF => ?_
  refine zl hF rfl (r_len_sl hF rfl rfl Tryz.underlying26) fun a hF => ?_
  refine zb hF rfl rfl rfl (b_subn _ _ _ (by omega)) fun a hF => ?_
  refine zb hF rfl rfl rfl (b_subn _ _ _ (by omega)) fun a hF => ?_
  refine zm 1 hF rfl fun a hF => ?_
  refine c_n ?_
  replace hF := hF.sel [0, 1]
  simp only [ss, Nat.reduceBEq] at hF
  simp only [Nat.sub_zero] at hF
  refine c_sr fun ops => ?_
  refine zm 1 hF rfl fun a hF => ?_
  refine zb hF rfl rfl rfl (b_gtn _ _ _ 0) fun a hF => ?_
  refine c_n ?_
  replace hF := hF.sel [0, 1, 16]
  simp only [ss, Nat.reduceBEq] at hF
  refine c_fi hF rfl (fun h16 => ?_) (fun h16 => ?_)
  ·
   try simp only [qq] at h16
   refine wp_skip ?_
   refine k2 ?_
   refine c_sr fun ops => ?_
   refine zm 2 hF rfl fun a hF => ?_
   refine c_n ?_
   replace hF := hF.sel [4]
   simp only [ss, Nat.reduceBEq] at hF
   refine wp_ret (hret (ret1 hF Tryz.results106 rfl ?_))
   first
     | exact ⟨[], hH, Sl.nil _ _⟩
     | exact ⟨_, hH, rfl, .inr ⟨_, _, _, rfl, rfl, by omega, by assumption, by simp [size_zeroCells, show (Value.int IntKind.u8 0).cells.size = 1 from rfl]; omega, by simp⟩⟩
  try simp only [qq] at h16
  refine c_reg fun ops => ?_
  refine zm 2 hF rfl fun a hF => ?_
  refine zl hF rfl (r_cap_sl hF rfl rfl Tryz.underlying26) fun a hF => ?_
  refine zl hF rfl (r_slice_sl hF 0 _ rfl rfl Tryz.underlying26 ti5 rfl ⟨_, rfl⟩ (⟨by omega, by omega⟩)) fun a hF => ?_
  refine zm 1 hF rfl fun a hF => ?_
  refine ls_appendz hF hH rfl rfl rfl rfl rfl rfl Tryz.underlying26 Tryz.underlying3 ti5 zv5 ((show ([] : List Value).length = (0 - 0) * 1 by simp)) (.inl ⟨rfl, rfl⟩) (by omega) (by decide) (by omega) (by omega) (by decide) ?_
  intro a w g5_5 cap5_5 hH hE hcap5_5 hmx5_5 hF
  refine zm 1 hF rfl fun a hF => ?_
  refine zl hF rfl (r_len_sl hF rfl rfl Tryz.underlying26) fun a hF => ?_
  refine zl hF rfl (r_slice_sl hF 0 _ rfl rfl Tryz.underlying26 ti5 rfl ⟨_, rfl⟩ (⟨by omega, by omega⟩)) fun a hF => ?_
  rw [subA_zero (fun a e => ⟨_, _, (Option.some.inj e).symm⟩), Nat.sub_zero, Nat.sub_zero] at hF
  refine zm 1 hF rfl fun a hF => ?_
  refine wpList_nil ?_
  replace hF := hF.sel [0]
  simp only [ss, Nat.reduceBEq] at hF
  refine k2 ?_
  refine c_sr fun ops => ?_
  refine zm 2 hF rfl fun a hF => ?_
  refine c_n ?_
  replace hF := hF.sel [4]
  simp only [ss, Nat.reduceBEq] at hF
  refine wp_ret (hret (ret1 hF Tryz.results106 rfl ?_))
  first
    | exact ⟨[], hH, Sl.nil _ _⟩
    | exact ⟨_, hH, rfl, .inr ⟨_, _, _, rfl, rfl, by omega, by assumption, by simp [size_zeroCells, show (Value.int IntKind.u8 0).cells.size = 1 from rfl]; omega, by simp⟩⟩
/-- Texts, and the bytes' slices that hold them. -/
def flatB (l : List (Value × Bs)) : Bs := (l.map (·.2)).flatten
theorem flatB_take {l : List (Value × Bs)} {i : Nat} (h : i < l.length) : flatB (l.take (i + 1)) = flatB (l.take i) ++ l[i].2 := by
  unfold flatB; rw [List.take_succ_eq_append_getElem h, List.map_append, List.flatten_append]; simp
theorem flatB_le (l : List (Value × Bs)) (i : Nat) : (flatB (l.take i)).length ≤ (flatB l).length := by
  have h : flatB l = flatB (l.take i) ++ flatB (l.drop i) := by unfold flatB; rw [← List.flatten_append, ← List.map_append, List.take_append_drop]
  rw [h, List.length_append]; omega
theorem concat_spec (l : List (Value × Bs)) (v : Value) (w0 : World) (hv : RSl w0 1 v l.length (l.map (·.1))) (hl : ∀ p ∈ l, RSl w0 1 p.1 p.2.length (bytV p.2)) (hn : l.length < 1000) (hs : (flatB l).length < 10000000) :
    Rets Tryz.prog 95 [v] w0 fun r w' => ∃ B, Hp w0 w' B ∧ Sl 5 1 B r (flatB l).length (bytV (flatB l)) := by
  have hH := Hp.refl w0
  obtain ⟨hx, ad, cp, rfl, hnc, hcm, had⟩ := hv
  have hat : ∀ i (h : i < l.length), ∃ b off, ad = some ⟨b, off, none⟩ ∧ w0.cell? ⟨b, off + i, none⟩ = some l[i].1 := by
    intro i h
    rcases had with ⟨_, _, h0⟩ | ⟨b, off, e, hc⟩
    · omega
    · exact ⟨b, off, e, hc i _ (by simp [h])⟩
  refine rets_start Tryz.func95 rfl Tryz.ntmps95 rfl fun a Q0 hF hret hend => ?_
  simp only [argsFrom, Nat.zero_add, Nat.reduceAdd] at hF
  refine c_sr fun ops => ?_
  refine zm 1 hF rfl fun a hF => ?_
  refine c_n ?_
  replace hF := hF.sel [0]
  simp only [ss, Nat.reduceBEq] at hF
  refine c_sr fun ops => ?_
  refine zm 1 hF rfl fun a hF => ?_
  refine c_n ?_
  replace hF := hF.sel [0, 3]
  simp only [ss, Nat.reduceBEq] at hF
  refine c_seq fun Q1 k1 t1 => ?_
  refine c_sr fun ops => ?_
  refine zm 1 hF rfl fun a hF => ?_
  refine zl hF rfl (r_len_sl hF rfl rfl Tryz.underlying209) fun a hF => ?_
  refine zm 1 hF rfl fun a hF => ?_
  refine c_n ?_
  replace hF := hF.sel [0, 3, 9, 10, 11]
  simp only [ss, Nat.reduceBEq] at hF
  refine c_block fun Q2 t2 => ?_
  refine c_loop (fun n a w => ∃ i, n = l.length - i ∧ i ≤ l.length ∧ Fr 36 [(0, .slice ad l.length cp), (3, .int .i64 ((flatB (l.take i)).length : Nat)), (9, .slice ad l.length cp), (10, .int .i64 (l.length : Nat)), (11, .int .i64 (i : Nat))] a ∧ Hp w0 w []) ?_ ?_
  ·
   exact ⟨_, 0, rfl, Nat.zero_le _, hF.keep [0, 3, 9, 10, 11] rfl, hH⟩
  clear hH hF
  intro n a w hI Q3 k3 t3
  obtain ⟨i, hm, hi, hF, hH⟩ := hI
  refine c_sr fun ops => ?_
  refine zb hF rfl rfl rfl (b_ltn _ _ _ _) fun a hF => ?_
  refine c_n ?_
  refine c_seq fun Q4 k4 t4 => ?_
  refine c_if hF rfl (fun h12 => ?_) (fun h12 => ?_)
  ·
   try simp only [qq] at h12
   obtain ⟨b, off, e1, hc⟩ := hat i h12
   have hpi := hl _ (List.getElem_mem h12)
   obtain ⟨pad, pcp, hpv⟩ := hpi.shape
   rw [hpv] at hc
   rw [e1] at hF
   have hfi := flatB_take h12
   have hfl := flatB_le l (i + 1)
   rw [hfi, List.length_append] at hfl
   refine wp_skip ?_
   refine k4 ?_
   refine c_seq fun Q5 k5 t5 => ?_
   refine c_block fun Q6 t6 => ?_
   refine c_sr fun ops => ?_
   refine zl hF rfl (r_ix1 hF _ rfl rfl rfl Tryz.underlying209 ti26 (by omega)) fun a hF => ?_
   refine zl hF rfl (r_load hF rfl rfl fl26 (hH.cell hc)) fun a hF => ?_
   refine zm 1 hF rfl fun a hF => ?_
   refine c_n ?_
   refine c_sr fun ops => ?_
   refine zm 2 hF rfl fun a hF => ?_
   refine zl hF rfl (r_len_sl hF rfl rfl Tryz.underlying26) fun a hF => ?_
   refine zb hF rfl rfl rfl (b_addn _ _ _ (by omega)) fun a hF => ?_
   refine zm 1 hF rfl fun a hF => ?_
   refine c_n ?_
   refine c_sr fun ops => ?_
   refine zm 1 hF rfl fun a hF => ?_
   refine zb hF rfl rfl rfl (b_ltn _ _ _ 0) fun a hF => ?_
   refine c_n ?_
   refine c_if hF rfl (fun h20 => ?_) (fun h20 => ?_)
   ·
    try simp only [qq] at h20
    exact absurd h20 (by omega)
   try simp only [qq] at h20
   refine wp_skip ?_
   refine t6.norm ?_
   refine k5 ?_
   refine c_reg fun ops => ?_
   refine zb hF rfl rfl rfl (b_addn _ _ 1 (by omega)) fun a hF => ?_
   refine zm 1 hF rfl fun a hF => ?_
   refine wpList_nil ?_
   refine k3 ?_
   rw [← e1] at hF
   refine ⟨l.length - (i + 1), by omega, i + 1, rfl, h12, ?_, hH⟩
   rw [hfi, List.length_append]
   exact hF.keep [0, 3, 9, 10, 11] rfl
  try simp only [qq] at h12
  obtain rfl : i = l.length := by omega
  rw [List.take_of_length_le (Nat.le_refl _)] at hF
  refine wp_exit (t4.exit (t3.exit (t2.here (?_))))
  refine k1 ?_
  refine c_sr fun ops => ?_
  refine zm 1 hF rfl fun a hF => ?_
  refine zc hF rfl rfl fn106 (growz_spec (flatB l).length (by omega) _) ?_
  rintro v24 w ⟨B, hB, hS⟩ a hF
  replace hH := hH.join hB
  refine zm 1 hF rfl fun a hF => ?_
  refine c_n ?_
  replace hF := hF.sel [0, 6]
  simp only [ss, Nat.reduceBEq] at hF
  rw [List.append_nil] at hH
  refine c_seq fun Q7 k7 t7 => ?_
  refine c_sr fun ops => ?_
  refine zm 1 hF rfl fun a hF => ?_
  refine zl hF rfl (r_len_sl hF rfl rfl Tryz.underlying209) fun a hF => ?_
  refine zm 1 hF rfl fun a hF => ?_
  refine c_n ?_
  replace hF := hF.sel [6, 25, 26, 27]
  simp only [ss, Nat.reduceBEq] at hF
  refine c_block fun Q8 t8 => ?_
  refine c_loop (fun n a w => ∃ i v6 B, n = l.length - i ∧ i ≤ l.length ∧ Fr 36 [(6, v6), (25, .slice ad l.length cp), (26, .int .i64 (l.length : Nat)), (27, .int .i64 (i : Nat))] a ∧ Hp w0 w B ∧ Sl 5 1 B v6 (flatB (l.take i)).length (bytV (flatB (l.take i)))) ?_ ?_
  ·
   exact ⟨_, 0, _, B, rfl, Nat.zero_le _, hF.keep [6, 25, 26, 27] rfl, hH, hS⟩
  clear hH hF hS
  intro n a w hI Q9 k9 t9
  obtain ⟨i, v6, B, hm, hi, hF, hH, hS⟩ := hI
  refine c_sr fun ops => ?_
  refine zb hF rfl rfl rfl (b_ltn _ _ _ _) fun a hF => ?_
  refine c_n ?_
  refine c_seq fun Q10 k10 t10 => ?_
  refine c_fi hF rfl (fun h28 => ?_) (fun h28 => ?_)
  ·
   try simp only [qq] at h28
   obtain rfl : i = l.length := by omega
   rw [List.take_of_length_le (Nat.le_refl _)] at hS
   refine wp_exit (t10.exit (t9.exit (t8.here (?_))))
   refine k7 ?_
   refine c_sr fun ops => ?_
   refine zm 2 hF rfl fun a hF => ?_
   refine c_n ?_
   replace hF := hF.sel [2]
   simp only [ss, Nat.reduceBEq] at hF
   refine wp_ret (hret (ret1 hF Tryz.results95 rfl ?_))
   exact ⟨B, hH, hS⟩
  try simp only [qq] at h28
  obtain ⟨b, off, e1, hc⟩ := hat i h28
  have hpi := hl _ (List.getElem_mem h28)
  rw [e1] at hF
  have hfi := flatB_take h28
  have hfl := flatB_le l (i + 1)
  rw [hfi, List.length_append] at hfl
  refine wp_skip ?_
  refine k10 ?_
  refine c_seq fun Q11 k11 t11 => ?_
  refine c_block fun Q12 t12 => ?_
  refine c_sr fun ops => ?_
  refine zl hF rfl (r_ix1 hF _ rfl rfl rfl Tryz.underlying209 ti26 (by omega)) fun a hF => ?_
  refine zl hF rfl (r_load hF rfl rfl fl26 (hH.cell hc)) fun a hF => ?_
  refine zm 1 hF rfl fun a hF => ?_
  refine c_n ?_
  refine c_reg fun ops => ?_
  refine zm 2 hF rfl fun a hF => ?_
  refine ls_append0 hF hH rfl rfl rfl rfl rfl rfl Tryz.underlying26 ti5 hS (hpi.ext hH.below) (bytV_one _) (by decide) (by omega) ?_
  intro a v13_2 w B13_2 hH hS hF
  refine zm 1 hF rfl fun a hF => ?_
  refine wpList_nil ?_
  refine t12.norm ?_
  refine k11 ?_
  refine c_reg fun ops => ?_
  refine zb hF rfl rfl rfl (b_addn _ _ 1 (by omega)) fun a hF => ?_
  refine zm 1 hF rfl fun a hF => ?_
  refine wpList_nil ?_
  refine k9 ?_
  rw [← e1] at hF
  refine ⟨l.length - (i + 1), by omega, i + 1, _, _, rfl, h28, hF.keep [6, 25, 26, 27] rfl, hH, ?_⟩
  rw [hfi, List.length_append, bytV_append]; exact hS
theorem put_spec (b c : Bs) (v u : Value) (w0 : World) (hv : RSl w0 1 v b.length (bytV b)) (hu : RSl w0 1 u c.length (bytV c)) (hs : (b ++ c).length < 10000000) :
    Rets Tryz.prog 83 [v, u] w0 fun r w' => ∃ B, Hp w0 w' B ∧ Sl 5 1 B r (b ++ c).length (bytV (b ++ c)) := by
  have hH := Hp.refl w0
  obtain ⟨vad, vcp, rfl⟩ := hv.shape
  obtain ⟨uad, ucp, rfl⟩ := hu.shape
  refine rets_start Tryz.func83 rfl Tryz.ntmps83 rfl fun a Q0 hF hret hend => ?_
  simp only [argsFrom, Nat.zero_add, Nat.reduceAdd] at hF
  refine c_sr fun ops => ?_
  refine zm 1 hF rfl fun a hF => ?_
  refine c_n ?_
  replace hF := hF.sel [0, 1]
  simp only [ss, Nat.reduceBEq] at hF
  refine c_sr fun ops => ?_
  refine zm 2 hF rfl fun a hF => ?_
  refine ls_buildN (us := [_, _]) hF hH rfl rfl rfl rfl rfl rfl Tryz.underlying209 ti26 (by intro u hu; simp only [List.mem_cons, List.not_mem_nil, or_false] at hu; rcases hu with rfl | rfl <;> rfl) (by decide) ?_
  intro a w g1_2 hH hE hF
  have hl := rsl_lit (n := 2) (size := 1) hH rfl (by decide)
  refine zc hF rfl rfl fn95 (concat_spec [(.slice vad b.length vcp, b), (.slice uad c.length ucp, c)] _ _ hl (by intro p hp; rcases List.mem_cons.1 hp with rfl | hp; exact hv.ext hH.below; rw [List.mem_singleton.1 hp]; exact hu.ext hH.below) (by simp) (by simpa [flatB] using hs)) ?_
  rintro v8 w ⟨B, hB, hS⟩ a hF
  replace hH := hH.join hB
  refine zm 1 hF rfl fun a hF => ?_
  refine c_n ?_
  replace hF := hF.sel [4]
  simp only [ss, Nat.reduceBEq] at hF
  refine wp_ret (hret (ret1 hF Tryz.results83 rfl ?_))
  exact ⟨B, hH.sub (List.sublist_append_left _ _), by simpa [flatB] using hS⟩
theorem wrap8_of (n : Nat) : IntKind.u8.wrap (n : Int) = (((UInt8.ofNat n).toNat : Nat) : Int) := by
  rw [UInt8.toNat_ofNat']
  have : IntKind.u8.wrap (n : Int) = (n : Int) % 256 := by simp [IntKind.wrap, IntKind.bits, IntKind.signed]
  rw [this]; omega
section
variable {P : Program} {w : World}
theorem b_shr2 (t : TypeId) (n : Nat) : (binOp .shr t (.int .u16 (n : Int)) (.int .u64 8)).run P w = .ok (.int .u16 ((n / 256 : Nat) : Int)) w := by simp [go_sem]
theorem b_shr4a (t : TypeId) (n : Nat) : (binOp .shr t (.int .u32 (n : Int)) (.int .u64 8)).run P w = .ok (.int .u32 ((n / 256 : Nat) : Int)) w := by simp [go_sem]
theorem b_shr4b (t : TypeId) (n : Nat) : (binOp .shr t (.int .u32 (n : Int)) (.int .u64 16)).run P w = .ok (.int .u32 ((n / 65536 : Nat) : Int)) w := by simp [go_sem]
theorem b_shr4c (t : TypeId) (n : Nat) : (binOp .shr t (.int .u32 (n : Int)) (.int .u64 24)).run P w = .ok (.int .u32 ((n / 16777216 : Nat) : Int)) w := by simp [go_sem]
end
theorem r_conv8 {P : Program} {o : Oper} {a : Act} {w : World} {N : Nat} {L : List (Nat × Value)} {x : Operand} {s d : TypeId} {k : IntKind} {n : Nat} (hF : FrD Ds N L a) (ho : o.op = .convert s d x) (hx : ev L x = some (.int k (n : Int))) (hs : (P.underlying s).isSome = true) (hd : P.underlying d = some (.int .u8)) :
    Does P o a w (.int .u8 (((UInt8.ofNat n).toNat : Nat) : Int)) w := by
  have := r_conv (w := w) hF ho hx hs hd
  rwa [wrap8_of] at this
theorem put2_spec (b : Bs) (k : Nat) (v : Value) (w0 : World) (hv : RSl w0 1 v b.length (bytV b)) (hs : b.length < 9000000) (hk : k < 65536) :
    Rets Tryz.prog 65 [v, .int .u16 (k : Nat)] w0 fun r w' => ∃ B, Hp w0 w' B ∧ Sl 5 1 B r (b.length + 2) (bytV (b ++ be2 k)) := by
  have hH := Hp.refl w0
  refine rets_start Tryz.func65 rfl Tryz.ntmps65 rfl fun a Q0 hF hret hend => ?_
  simp only [argsFrom, Nat.zero_add, Nat.reduceAdd] at hF
  refine c_sr fun ops => ?_
  refine zm 1 hF rfl fun a hF => ?_
  refine c_n ?_
  replace hF := hF.sel [0, 1]
  simp only [ss, Nat.reduceBEq] at hF
  refine c_sr fun ops => ?_
  refine zm 2 hF rfl fun a hF => ?_
  refine zb hF rfl rfl rfl (b_shr2 _ k) fun a hF => ?_
  refine zl hF rfl (r_conv8 hF rfl rfl (by rw [Tryz.underlying28]; rfl) Tryz.underlying5) fun a hF => ?_
  refine zm 1 hF rfl fun a hF => ?_
  refine zl hF rfl (r_conv8 hF rfl rfl (by rw [Tryz.underlying28]; rfl) Tryz.underlying5) fun a hF => ?_
  refine ls_buildN (us := [_, _]) hF hH rfl rfl rfl rfl rfl rfl Tryz.underlying26 ti5 (by intro u hu; simp only [List.mem_cons, List.not_mem_nil, or_false] at hu; rcases hu with rfl | rfl <;> rfl) (by decide) ?_
  intro a w g1_6 hH hE hF
  have hl : RSl w 1 (.slice (some ⟨g1_6, 0, none⟩) 2 2) (be2 k).length (bytV (be2 k)) := rsl_lit (n := 2) (size := 1) hH rfl (by decide)
  refine zc hF rfl rfl fn83 (put_spec b (be2 k) _ _ _ (hv.ext hH.below) hl (by rw [List.length_append, be2_len]; omega)) ?_
  rintro v12 w ⟨B, hB, hS⟩ a hF
  replace hH := hH.join hB
  refine zm 1 hF rfl fun a hF => ?_
  refine c_n ?_
  replace hF := hF.sel [4]
  simp only [ss, Nat.reduceBEq] at hF
  refine wp_ret (hret (ret1 hF Tryz.results65 rfl ?_))
  exact ⟨B, hH.sub (List.sublist_append_left _ _), by rw [List.length_append, be2_len] at hS; exact hS⟩
theorem put4_spec (b : Bs) (k : Nat) (v : Value) (w0 : World) (hv : RSl w0 1 v b.length (bytV b)) (hs : b.length < 9000000) (hk : k < 4294967296) :
    Rets Tryz.prog 86 [v, .int .u32 (k : Nat)] w0 fun r w' => ∃ B, Hp w0 w' B ∧ Sl 5 1 B r (b.length + 4) (bytV (b ++ be4 k)) := by
  have hH := Hp.refl w0
  refine rets_start Tryz.func86 rfl Tryz.ntmps86 rfl fun a Q0 hF hret hend => ?_
  simp only [argsFrom, Nat.zero_add, Nat.reduceAdd] at hF
  refine c_sr fun ops => ?_
  refine zm 1 hF rfl fun a hF => ?_
  refine c_n ?_
  replace hF := hF.sel [0, 1]
  simp only [ss, Nat.reduceBEq] at hF
  refine c_sr fun ops => ?_
  refine zm 2 hF rfl fun a hF => ?_
  refine zb hF rfl rfl rfl (b_shr4c _ k) fun a hF => ?_
  refine zl hF rfl (r_conv8 hF rfl rfl (by rw [Tryz.underlying54]; rfl) Tryz.underlying5) fun a hF => ?_
  refine zm 1 hF rfl fun a hF => ?_
  refine zb hF rfl rfl rfl (b_shr4b _ k) fun a hF => ?_
  refine zl hF rfl (r_conv8 hF rfl rfl (by rw [Tryz.underlying54]; rfl) Tryz.underlying5) fun a hF => ?_
  refine zm 1 hF rfl fun a hF => ?_
  refine zb hF rfl rfl rfl (b_shr4a _ k) fun a hF => ?_
  refine zl hF rfl (r_conv8 hF rfl rfl (by rw [Tryz.underlying54]; rfl) Tryz.underlying5) fun a hF => ?_
  refine zm 1 hF rfl fun a hF => ?_
  refine zl hF rfl (r_conv8 hF rfl rfl (by rw [Tryz.underlying54]; rfl) Tryz.underlying5) fun a hF => ?_
  refine ls_buildN (us := [_, _, _, _]) hF hH rfl rfl rfl rfl rfl rfl Tryz.underlying26 ti5 (by intro u hu; simp only [List.mem_cons, List.not_mem_nil, or_false] at hu; rcases hu with rfl | rfl | rfl | rfl <;> rfl) (by decide) ?_
  intro a w g1_12 hH hE hF
  have hl : RSl w 1 (.slice (some ⟨g1_12, 0, none⟩) 4 4) (be4 k).length (bytV (be4 k)) := rsl_lit (n := 4) (size := 1) hH rfl (by decide)
  refine zc hF rfl rfl fn83 (put_spec b (be4 k) _ _ _ (hv.ext hH.below) hl (by rw [List.length_append, be4_len]; omega)) ?_
  rintro v18 w ⟨B, hB, hS⟩ a hF
  replace hH := hH.join hB
  refine zm 1 hF rfl fun a hF => ?_
  refine c_n ?_
  replace hF := hF.sel [4]
  simp only [ss, Nat.reduceBEq] at hF
  refine wp_ret (hret (ret1 hF Tryz.results86 rfl ?_))
  exact ⟨B, hH.sub (List.sublist_append_left _ _), by rw [List.length_append, be4_len] at hS; exact hS⟩
theorem cloneB_spec {w0 : World} {v : Value} {n : Nat} {xs : List Value} (hv : RSl w0 1 v n xs) (h1 : ∀ u ∈ xs, u.oneCell' = true) (hn : n < 10000000) :
    Rets Tryz.prog 87 [v] w0 fun r w' => ∃ B, Hp w0 w' B ∧ Sl 5 1 B r n xs := by
  have hH := Hp.refl w0
  have hv' := hv
  obtain ⟨hx, ad, cp, rfl, hnc, hcm, had⟩ := hv
  refine rets_start Tryz.func87 rfl Tryz.ntmps87 rfl fun a Q0 hF hret hend => ?_
  simp only [argsFrom, Nat.zero_add, Nat.reduceAdd] at hF
  refine c_sr fun ops => ?_
  refine zm 1 hF rfl fun a hF => ?_
  refine c_n ?_
  replace hF := hF.sel [0]
  simp only [ss, Nat.reduceBEq] at hF
  refine c_seq fun Q1 k1 t1 => ?_
  refine c_sr fun ops => ?_
  refine zm 1 hF rfl fun a hF => ?_
  refine zb hF rfl rfl rfl (b_slnil Tryz.underlying26) fun a hF => ?_
  refine c_n ?_
  replace hF := hF.sel [0, 4]
  simp only [ss, Nat.reduceBEq] at hF
  refine c_if hF rfl (fun h4 => ?_) (fun h4 => ?_)
  ·
   try simp only [qq] at h4
   have hd : ad = none := by simpa using h4
   subst hd
   refine c_sr fun ops => ?_
   refine zm 1 hF rfl fun a hF => ?_
   refine c_n ?_
   replace hF := hF.sel [2]
   simp only [ss, Nat.reduceBEq] at hF
   refine wp_ret (t1.ret (hret (ret1 hF Tryz.results87 rfl ?_)))
   rcases had with ⟨_, _, rfl⟩ | ⟨b, off, h, _⟩
   · have : xs = [] := List.eq_nil_of_length_eq_zero (by simpa using hx)
     subst this
     exact ⟨[], hH, Sl.nil _ _⟩
   · cases h
  try simp only [qq] at h4
  refine wp_skip ?_
  refine k1 ?_
  refine c_sr fun ops => ?_
  refine ls_buildN (us := []) hF hH rfl rfl rfl rfl rfl rfl Tryz.underlying26 ti5 (fun _ h => (List.not_mem_nil h).elim) (by decide) ?_
  intro a w g3_0 hH hE hF
  have hS : Sl 5 1 [(g3_0, .cells #[] 5 (0, 0))] (.slice (some ⟨g3_0, 0, none⟩) 0 0) 0 [] := ⟨rfl, .inr ⟨g3_0, 0, _, rfl, rfl, Nat.le_refl _, Nat.zero_le _, rfl, rfl⟩⟩
  refine zm 1 hF rfl fun a hF => ?_
  refine ls_append0 hF hH rfl rfl rfl rfl rfl rfl Tryz.underlying26 ti5 hS (hv'.ext hH.below) (h1) (by decide) (by omega) ?_
  intro a v3_2 w B3_2 hH hS hF
  refine zm 1 hF rfl fun a hF => ?_
  refine c_n ?_
  replace hF := hF.sel [2]
  simp only [ss, Nat.reduceBEq] at hF
  refine wp_ret (hret (ret1 hF Tryz.results87 rfl ?_))
  rw [Nat.zero_add, List.nil_append] at hS
  exact ⟨_, hH, hS⟩
end Go.Proofs.YtpoebplhemimmaaGreatDoor
