/-
  Sets of one's own, in memory: a row of sets, each with data of its own. Nothing is claimed here.
  The walk of slices.BinarySearchFunc at sets, with package rrset's order. Nothing is claimed here.
-/
import Derived.Test.YtcelgjabccgnmaaGreatDoorRr
namespace Go.Proofs.YtcelgjabccgnmaaGreatDoor
open Go.RowKit
set_option linter.unusedVariables false
set_option linter.unusedSimpArgs false
set_option maxHeartbeats 1000000

theorem setsV_split : ∀ (l : List RSet) (dvs : List Value) (k : Nat), dvs.length = l.length → (setsV l dvs).take (k * 5) = setsV (l.take k) (dvs.take k) ∧ (setsV l dvs).drop (k * 5) = setsV (l.drop k) (dvs.drop k)
  | l, dvs, 0, _ => by simp [setsV]
  | [], [], k + 1, _ => by simp [setsV]
  | [], _ :: _, _, h => by simp at h
  | _ :: _, [], _, h => by simp at h
  | s :: l, d :: ds, k + 1, h => by
    obtain ⟨h1, h2⟩ := setsV_split l ds k (by simpa using h)
    rw [setsV_cons, show (k + 1) * 5 = (setV s d).length + k * 5 by simp [setV]; omega, List.take_length_add_append, List.drop_length_add_append, h1, h2]
    exact ⟨rfl, rfl⟩
theorem setsV_append : ∀ (l m : List RSet) (d e : List Value), d.length = l.length → setsV (l ++ m) (d ++ e) = setsV l d ++ setsV m e
  | [], m, [], e, _ => rfl
  | [], _, _ :: _, _, h => by simp at h
  | _ :: _, _, [], _, h => by simp at h
  | s :: l, m, x :: d, e, h => by
    have := setsV_append l m d e (by simpa using h)
    rw [List.cons_append, List.cons_append, setsV_cons, this, setsV_cons, List.append_assoc]
theorem setsV_insert {l : List RSet} {dvs : List Value} {k : Nat} (s : RSet) (d : Value) (h : dvs.length = l.length) : (setsV l dvs).take (k * 5) ++ setV s d ++ (setsV l dvs).drop (k * 5) = setsV (l.take k ++ s :: l.drop k) (dvs.take k ++ d :: dvs.drop k) := by
  obtain ⟨h1, h2⟩ := setsV_split l dvs k h
  rw [h1, h2, setsV_append _ _ _ _ (by simp [h]), setsV_cons, List.append_assoc]
theorem setsV_ttl : ∀ {l : List RSet} {dvs : List Value} {k : Nat} (hk : k < l.length) (h : dvs.length = l.length) (t : Nat), (setsV l dvs).set (k * 5 + 3) (.int .u32 t) = setsV (l.set k { l[k] with ttl := t }) dvs
  | [], _, _, hk, _, _ => by simp at hk
  | _ :: _, [], _, _, h, _ => by simp at h
  | s :: l, d :: ds, 0, _, _, t => by simp [setsV_cons, setV]
  | s :: l, d :: ds, k + 1, hk, h, t => by
    rw [setsV_cons, show (k + 1) * 5 + 3 = (k * 5 + 3) + 5 by omega]
    have e : (setV s d).length = 5 := rfl
    rw [List.set_append_right _ _ (by omega), e, Nat.add_sub_cancel, setsV_ttl (l := l) (dvs := ds) (by simpa using hk) (by simpa using h) t]
    simp [setsV_cons]
theorem setsV_data : ∀ {l : List RSet} {dvs : List Value} {k : Nat} (hk : k < l.length) (h : dvs.length = l.length) (x : List Bs) (v : Value), (setsV l dvs).set (k * 5 + 4) v = setsV (l.set k { l[k] with data := x }) (dvs.set k v)
  | [], _, _, hk, _, _, _ => by simp at hk
  | _ :: _, [], _, _, h, _, _ => by simp at h
  | s :: l, d :: ds, 0, _, _, x, v => by simp [setsV_cons, setV]
  | s :: l, d :: ds, k + 1, hk, h, x, v => by
    rw [setsV_cons, show (k + 1) * 5 + 4 = (k * 5 + 4) + 5 by omega]
    have e : (setV s d).length = 5 := rfl
    rw [List.set_append_right _ _ (by omega), e, Nat.add_sub_cancel, setsV_data (l := l) (dvs := ds) (by simpa using hk) (by simpa using h) x v]
    simp [setsV_cons]

theorem r_minn {P : Program} {o : Oper} {a : Act} {w : World} {N : Nat} {L : List (Nat × Value)} (hF : Fr N L a) {x y : Operand} {ats : Array TypeId} {k : IntKind} {n m : Nat} (ho : o.op = .call { callee := .builtin .min, args := #[x, y], argTypes := ats }) (hx : ev L x = some (.int k (n : Int))) (hy : ev L y = some (.int k (m : Int))) : Does P o a w (.int k ((min n m : Nat) : Int)) w := by
  left
  rw [exec_builtin hF ho (ev2 hx hy)]
  have e : (if m < n then (m : Int) else (n : Int)) = ((min n m : Nat) : Int) := by split <;> omega
  simp [builtin, Builtin.min_, Builtin.min2]
  exact e

/-- A set, its data's slice, and the blocks of these. -/
abbrev Ent := RSet × Value × List (Nat × Obj)
def entV (es : List Ent) : List Value := (es.map fun e => setV e.1 e.2.1).flatten
def entB (es : List Ent) : List (Nat × Obj) := (es.map fun e => e.2.2).flatten
theorem entV_append (a b : List Ent) : entV (a ++ b) = entV a ++ entV b := by simp [entV]
theorem entV_cons (e : Ent) (b : List Ent) : entV (e :: b) = setV e.1 e.2.1 ++ entV b := rfl
theorem entB_append (a b : List Ent) : entB (a ++ b) = entB a ++ entB b := by simp [entB]
theorem entB_cons (e : Ent) (b : List Ent) : entB (e :: b) = e.2.2 ++ entB b := rfl
theorem entV_length : ∀ (es : List Ent), (entV es).length = es.length * 5
  | [] => rfl
  | e :: es => by rw [entV_cons, List.length_append, entV_length es, List.length_cons]; simp [setV]; omega
theorem entV_take (es : List Ent) (k : Nat) (hk : k ≤ es.length) : (entV es).take (k * 5) = entV (es.take k) ∧ (entV es).drop (k * 5) = entV (es.drop k) := by
  have h : entV es = entV (es.take k) ++ entV (es.drop k) := by rw [← entV_append, List.take_append_drop]
  have hl : (entV (es.take k)).length = k * 5 := by rw [entV_length, List.length_take, Nat.min_eq_left hk]
  rw [h]
  exact ⟨List.take_left' hl, List.drop_left' hl⟩
theorem entV_insert {es : List Ent} {k : Nat} (e : Ent) (hk : k ≤ es.length) : (entV es).take (k * 5) ++ setV e.1 e.2.1 ++ (entV es).drop (k * 5) = entV (es.take k ++ e :: es.drop k) := by
  obtain ⟨h1, h2⟩ := entV_take es k hk
  rw [h1, h2, entV_append, entV_cons, List.append_assoc]
theorem entV_get {es : List Ent} {k : Nat} (hk : k < es.length) (j : Nat) (u : Value) (hu : (setV es[k].1 es[k].2.1)[j]? = some u) : (entV es)[k * 5 + j]? = some u := by
  have h : entV es = entV (es.take k) ++ (setV es[k].1 es[k].2.1 ++ entV (es.drop (k + 1))) := by rw [← entV_cons, ← List.drop_eq_getElem_cons hk, ← entV_append, List.take_append_drop]
  have hl : (entV (es.take k)).length = k * 5 := by rw [entV_length, List.length_take, Nat.min_eq_left (by omega)]
  rw [h, List.getElem?_append_right (by omega), hl, Nat.add_sub_cancel_left, List.getElem?_append_left (List.getElem?_eq_some_iff.1 hu).1]
  exact hu

/-- Sets of one's own: the row and each set's data. -/
def OwnS (H : List (Nat × Obj)) (v : Value) (es : List Ent) : Prop := ∃ B, Sl 27 5 B v es.length (entV es) ∧ H.Perm (B ++ entB es) ∧ ∀ e ∈ es, Sl 9 1 e.2.2 e.2.1 e.1.data.length (strV e.1.data)
theorem OwnS.nil : OwnS [] (.slice none 0 0) [] := ⟨[], Sl.nil _ _, List.Perm.refl _, fun _ h => (List.not_mem_nil h).elim⟩
end Go.Proofs.YtcelgjabccgnmaaGreatDoor
namespace Go.Proofs.YtcelgjabccgnmaaGreatDoor
open Go.RowKit
set_option linter.unusedVariables false
set_option linter.unusedSimpArgs false
set_option maxHeartbeats 1000000

theorem searchF_spec {w0 : World} {v dx : Value} {l : List RSet} (x : RSet) (hR : SetsR w0 v l) (hl : l.length < 1000000) (hnm : ∀ s ∈ l, s.name.length < 1000000) (hx : x.name.length < 1000000)
    (hmono : ∀ a b, a ≤ b → b < l.length → scmp (l.getD b noSet) x < 0 → scmp (l.getD a noSet) x < 0) :
    Rets Tryz.prog 59 [v, .agg (setV x dx).toArray, .func (.func 60) #[] #[]] w0
      fun r w' => (∃ i : Nat, r = .tuple #[.int .i64 i, .bool (decide (i < l.length) && decide (scmp (l.getD i noSet) x = 0))] ∧ i ≤ l.length ∧ (∀ k < i, scmp (l.getD k noSet) x < 0) ∧ (∀ k, i ≤ k → k < l.length → ¬ scmp (l.getD k noSet) x < 0)) ∧ Ext w0 w' := by
  have hH := Hp.refl w0
  obtain ⟨ad, cp, rfl⟩ : ∃ ad cap, v = .slice ad l.length cap := by
    obtain ⟨_, _, h, _⟩ := hR; exact h.shape
  refine rets_start Tryz.func59 rfl Tryz.ntmps59 rfl fun a Q0 hF hret hend => ?_
  simp only [argsFrom, Nat.zero_add, Nat.reduceAdd] at hF
  refine c_sr fun ops => ?_
  refine ls_box hF hH rfl rfl rfl rfl rfl ?_
  intro a w g0_0 hH hE hF
  refine zm 2 hF rfl fun a hF => ?_
  refine c_n ?_
  replace hF := hF.sel [0, 2, 4]
  simp only [ss, Nat.reduceBEq] at hF
  refine c_sr fun ops => ?_
  refine zm 1 hF rfl fun a hF => ?_
  refine zl hF rfl (r_len_sl hF rfl rfl Tryz.underlying22) fun a hF => ?_
  refine zm 1 hF rfl fun a hF => ?_
  refine c_n ?_
  replace hF := hF.sel [0, 2, 4, 8]
  simp only [ss, Nat.reduceBEq] at hF
  refine c_sr fun ops => ?_
  refine zm 3 hF rfl fun a hF => ?_
  refine c_n ?_
  replace hF := hF.sel [0, 2, 4, 8, 9, 10]
  simp only [ss, Nat.reduceBEq] at hF
  refine c_seq fun Q1 k1 t1 => ?_
  refine c_block fun Q2 t2 => ?_
  refine c_loop (fun n a w => ∃ i j, n = j - i ∧ i ≤ j ∧ j ≤ l.length ∧ (∀ k < i, scmp (l.getD k noSet) x < 0) ∧ (∀ k, j ≤ k → k < l.length → ¬ scmp (l.getD k noSet) x < 0) ∧ Fr 49 [(0, .slice ad l.length cp), (2, .func (.func 60) #[] #[]), (4, ptr g0_0), (8, .int .i64 l.length), (9, .int .i64 (i : Nat)), (10, .int .i64 (j : Nat))] a ∧ Hp w0 w [(g0_0, .cells (setV x dx).toArray 27 (0, 0))]) ?_ ?_
  ·
   exact ⟨_, 0, l.length, rfl, Nat.zero_le _, Nat.le_refl _, fun _ h => (Nat.not_lt_zero _ h).elim, fun k h1 h2 => by omega, hF.keep [0, 2, 4, 8, 9, 10] rfl, hH⟩
  clear hH hF
  intro n a w hI Q3 k3 t3
  obtain ⟨i, j, hn', hij, hj, hlo, hhi, hF, hH⟩ := hI
  refine c_seq fun Q4 k4 t4 => ?_
  refine c_sr fun ops => ?_
  refine zm 2 hF rfl fun a hF => ?_
  refine zb hF rfl rfl rfl (b_ltn _ _ _ _) fun a hF => ?_
  refine c_n ?_
  refine c_if hF rfl (fun h17 => ?_) (fun h17 => ?_)
  ·
   try simp only [qq] at h17
   obtain ⟨b, off, dv, rfl, hset, hdv⟩ := hR.at (i := (i + j) / 2) (by omega)
   have hge : l.getD ((i + j) / 2) noSet = l[(i + j) / 2]'(by omega) := by simp [List.getD_eq_getElem?_getD, show (i + j) / 2 < l.length by omega]
   rw [← hge] at hset
   have hnl := hnm _ (List.getElem_mem (show (i + j) / 2 < l.length by omega))
   rw [← hge] at hnl
   refine wp_skip ?_
   refine k4 ?_
   refine c_block fun Q5 t5 => ?_
   refine c_sr fun ops => ?_
   refine zm 2 hF rfl fun a hF => ?_
   refine zb hF rfl rfl rfl (b_addn _ _ _ (by omega)) fun a hF => ?_
   refine zl hF rfl (r_convin hF rfl rfl (by rw [Tryz.underlying3]; rfl) Tryz.underlying78 (0) 18446744073709551615 mn_u64 mx_u64 (by omega)) fun a hF => ?_
   refine zb hF rfl rfl rfl (b_shr1 _ _) fun a hF => ?_
   refine zl hF rfl (r_convin hF rfl rfl (by rw [Tryz.underlying78]; rfl) Tryz.underlying3 (-9223372036854775808) 9223372036854775807 mn_i64 mx_i64 (by omega)) fun a hF => ?_
   refine zm 1 hF rfl fun a hF => ?_
   refine c_n ?_
   refine c_seq fun Q6 k6 t6 => ?_
   refine c_flow [0, 1, 2, 3] [4, 5, 6, 7] [] [] (by kernel_rfl) (by kernel_rfl) fun hB => ?_
   refine ps hF rfl rfl rfl rfl (fun w => r_move hF rfl rfl) fun a hF => ?_
   refine ps hF rfl rfl rfl rfl (fun w => r_move hF rfl rfl) fun a hF => ?_
   refine ps hF rfl rfl rfl rfl (fun w => r_move hF rfl rfl) fun a hF => ?_
   refine ps hF rfl rfl rfl rfl (fun w => r_indexaddr hF _ rfl rfl rfl Tryz.underlying22 ti27 (by omega)) fun a hF => ?_
   refine fl_start [28, 29, 30, 31] hB (by kernel_rfl) hF ?_
   simp only [wo, hasN, Nat.reduceBEq, cond_true, cond_false] at hF ⊢
   refine fs1 rfl (by
    intro a w Lr hE hC hl
    replace hH := hH.ext hE
    have hF := hC.fr
    exact zl hF rfl (r_loadagg hF rfl rfl Tryz.underlying27 ti27 rfl (fun j u hu => hH.cell (hset j u hu))) fun a' hF' => wpList_nil (fl_end hC hF' (Ext.refl _) rfl)) ?_
   refine fs1 rfl (by
    intro a w Lr hE hC hl
    replace hH := hH.ext hE
    have hF := hC.fr
    exact zl hF rfl (r_loadagg hF rfl rfl Tryz.underlying27 ti27 rfl (own_agg (i := 0) hH rfl)) fun a' hF' => wpList_nil (fl_end hC hF' (Ext.refl _) rfl)) ?_
   refine fs1 rfl (by
    intro a w Lr hE hC hl
    replace hH := hH.ext hE
    obtain ⟨_, s28, rfl⟩ := hl 28 (by decide) _ rfl
    replace hC := hC.more s28
    obtain ⟨_, s29, rfl⟩ := hl 29 (by decide) _ rfl
    replace hC := hC.more s29
    have hF := hC.fr
    refine ls_callv hF rfl rfl rfl rfl rfl rfl fn60 (order_spec _ _ _ _ hnl hx _) ?_
    rintro _ w' ⟨rfl, hE'⟩ a' hF'
    exact wpList_nil (fl_end hC hF' hE' rfl)) ?_
   refine fs1 rfl (by
    intro a w Lr hE hC hl
    replace hH := hH.ext hE
    obtain ⟨_, s30, rfl⟩ := hl 30 (by decide) _ rfl
    replace hC := hC.more s30
    have hF := hC.fr
    exact zl hF rfl (zr hF rfl rfl (b_lt _ _ _ _)) fun a' hF' => wpList_nil (fl_end hC hF' (Ext.refl _) rfl)) ?_
   intro a w hE hF hall
   replace hH := hH.ext hE
   obtain ⟨_, s28, rfl⟩ := hall 28 _ rfl
   replace hF := hF.more s28
   obtain ⟨_, s29, rfl⟩ := hall 29 _ rfl
   replace hF := hF.more s29
   obtain ⟨_, s30, rfl⟩ := hall 30 _ rfl
   replace hF := hF.more s30
   obtain ⟨_, s31, rfl⟩ := hall 31 _ rfl
   replace hF := hF.more s31
   clear hall
   refine wpList_nil ?_
   refine k6 ?_
   refine c_fi hF rfl (fun h31 => ?_) (fun h31 => ?_)
   ·
    try simp only [qq] at h31
    refine c_reg fun ops => ?_
    refine zm 2 hF rfl fun a hF => ?_
    refine wpList_nil ?_
    refine t5.norm ?_
    refine k3 ?_
    first
      | exact ⟨j - ((i + j) / 2 + 1), by omega, (i + j) / 2 + 1, j, rfl, by omega, hj, fun k hk => hmono k ((i + j) / 2) (by omega) (by omega) h31, hhi, hF.keep [0, 2, 4, 8, 9, 10] rfl, hH⟩
      | exact ⟨(i + j) / 2 - i, by omega, i, (i + j) / 2, rfl, by omega, by omega, hlo, fun k hk1 hk2 hb => absurd (hmono ((i + j) / 2) k hk1 hk2 hb) (by omega), hF.keep [0, 2, 4, 8, 9, 10] rfl, hH⟩
   try simp only [qq] at h31
   refine c_reg fun ops => ?_
   refine zm 1 hF rfl fun a hF => ?_
   refine zb hF rfl rfl rfl (b_addn _ _ 1 (by omega)) fun a hF => ?_
   refine zm 1 hF rfl fun a hF => ?_
   refine wpList_nil ?_
   refine t5.norm ?_
   refine k3 ?_
   first
     | exact ⟨j - ((i + j) / 2 + 1), by omega, (i + j) / 2 + 1, j, rfl, by omega, hj, fun k hk => hmono k ((i + j) / 2) (by omega) (by omega) h31, hhi, hF.keep [0, 2, 4, 8, 9, 10] rfl, hH⟩
     | exact ⟨(i + j) / 2 - i, by omega, i, (i + j) / 2, rfl, by omega, by omega, hlo, fun k hk1 hk2 hb => absurd (hmono ((i + j) / 2) k hk1 hk2 hb) (by omega), hF.keep [0, 2, 4, 8, 9, 10] rfl, hH⟩
  try simp only [qq] at h17
  refine wp_exit (t4.exit (t3.exit (t2.here (?_))))
  refine k1 ?_
  refine c_seq fun Q7 k7 t7 => ?_
  have hij' : i = j := by omega
  subst hij'
  by_cases hs8 : i < l.length
  ·
   obtain ⟨b, off, dv, rfl, hset, hdv⟩ := hR.at (i := i) (by omega)
   have hge : l.getD i noSet = l[i]'(by omega) := by simp [List.getD_eq_getElem?_getD, show i < l.length by omega]
   rw [← hge] at hset
   have hnl := hnm _ (List.getElem_mem (show i < l.length by omega))
   rw [← hge] at hnl
   refine c_flow [0, 1, 2, 3, 4] [5, 6, 7, 8, 9, 10, 11, 12, 13, 14, 15] [] [] (by kernel_rfl) (by kernel_rfl) fun hB => ?_
   refine ps hF rfl rfl rfl rfl (fun w => r_move hF rfl rfl) fun a hF => ?_
   refine ps hF rfl rfl rfl rfl (fun w => r_move hF rfl rfl) fun a hF => ?_
   refine ps hF rfl rfl rfl rfl (fun w => r_move hF rfl rfl) fun a hF => ?_
   refine ps hF rfl rfl rfl rfl (fun w => zr hF rfl rfl (b_ltn _ _ _ _)) fun a hF => ?_
   refine ps hF rfl rfl rfl rfl (fun w => r_move hF rfl rfl) fun a hF => ?_
   refine fl_start [40, 41, 42, 43, 44, 45, 46, 47, 48, 6, 7] hB (by kernel_rfl) hF ?_
   simp only [wo, hasN, Nat.reduceBEq, cond_true, cond_false] at hF ⊢
   refine fs1 rfl (by
    intro a w Lr hE hC hl
    replace hH := hH.ext hE
    have hF := hC.fr
    exact zy hF rfl (decide_eq_true hs8) (r_move hF rfl rfl) fun a' hF' => wpList_nil (fl_end hC hF' (Ext.refl _) rfl)) ?_
   refine fs1 rfl (by
    intro a w Lr hE hC hl
    replace hH := hH.ext hE
    have hF := hC.fr
    exact zy hF rfl (decide_eq_true hs8) (r_move hF rfl rfl) fun a' hF' => wpList_nil (fl_end hC hF' (Ext.refl _) rfl)) ?_
   refine fs1 rfl (by
    intro a w Lr hE hC hl
    replace hH := hH.ext hE
    have hF := hC.fr
    exact zy hF rfl (decide_eq_true hs8) (r_move hF rfl rfl) fun a' hF' => wpList_nil (fl_end hC hF' (Ext.refl _) rfl)) ?_
   refine fs1 rfl (by
    intro a w Lr hE hC hl
    replace hH := hH.ext hE
    obtain ⟨_, s41, rfl⟩ := hl 41 (by decide) _ rfl
    replace hC := hC.more s41
    obtain ⟨_, s42, rfl⟩ := hl 42 (by decide) _ rfl
    replace hC := hC.more s42
    have hF := hC.fr
    exact zy hF rfl (decide_eq_true hs8) (r_indexaddr hF _ rfl rfl rfl Tryz.underlying22 ti27 (by omega)) fun a' hF' => wpList_nil (fl_end hC hF' (Ext.refl _) rfl)) ?_
   refine fs1 rfl (by
    intro a w Lr hE hC hl
    replace hH := hH.ext hE
    obtain ⟨_, s43, rfl⟩ := hl 43 (by decide) _ rfl
    replace hC := hC.more s43
    have hF := hC.fr
    exact zy hF rfl (decide_eq_true hs8) (r_loadagg hF rfl rfl Tryz.underlying27 ti27 rfl (fun j u hu => hH.cell (hset j u hu))) fun a' hF' => wpList_nil (fl_end hC hF' (Ext.refl _) rfl)) ?_
   refine fs1 rfl (by
    intro a w Lr hE hC hl
    replace hH := hH.ext hE
    have hF := hC.fr
    exact zy hF rfl (decide_eq_true hs8) (r_loadagg hF rfl rfl Tryz.underlying27 ti27 rfl (own_agg (i := 0) hH rfl)) fun a' hF' => wpList_nil (fl_end hC hF' (Ext.refl _) rfl)) ?_
   refine fs1 rfl (by
    intro a w Lr hE hC hl
    replace hH := hH.ext hE
    obtain ⟨_, s40, rfl⟩ := hl 40 (by decide) _ rfl
    replace hC := hC.more s40
    obtain ⟨_, s44, rfl⟩ := hl 44 (by decide) _ rfl
    replace hC := hC.more s44
    obtain ⟨_, s45, rfl⟩ := hl 45 (by decide) _ rfl
    replace hC := hC.more s45
    have hF := hC.fr
    refine lsy_callv hF rfl rfl rfl (decide_eq_true hs8) rfl rfl rfl rfl rfl fn60 (order_spec _ _ _ _ hnl hx _) ?_
    rintro _ w' ⟨rfl, hE'⟩ a' hF'
    exact wpList_nil (fl_end hC hF' hE' rfl)) ?_
   refine fs1 rfl (by
    intro a w Lr hE hC hl
    replace hH := hH.ext hE
    obtain ⟨_, s46, rfl⟩ := hl 46 (by decide) _ rfl
    replace hC := hC.more s46
    have hF := hC.fr
    exact zy hF rfl (decide_eq_true hs8) (zr hF rfl rfl (b_eq _ _ _ _)) fun a' hF' => wpList_nil (fl_end hC hF' (Ext.refl _) rfl)) ?_
   refine fs1 rfl (by
    intro a w Lr hE hC hl
    replace hH := hH.ext hE
    obtain ⟨_, s47, rfl⟩ := hl 47 (by decide) _ rfl
    replace hC := hC.more s47
    have hF := hC.fr
    exact zl hF rfl (r_pickt hF rfl rfl (decide_eq_true hs8) rfl) fun a' hF' => wpList_nil (fl_end hC hF' (Ext.refl _) rfl)) ?_
   refine fs1 rfl (by
    intro a w Lr hE hC hl
    replace hH := hH.ext hE
    have hF := hC.fr
    exact zl hF rfl (r_assign hF rfl rfl) fun a' hF' => wpList_nil (fl_end hC hF' (Ext.refl _) rfl)) ?_
   refine fs1 rfl (by
    intro a w Lr hE hC hl
    replace hH := hH.ext hE
    obtain ⟨_, s48, rfl⟩ := hl 48 (by decide) _ rfl
    replace hC := hC.more s48
    have hF := hC.fr
    exact zl hF rfl (r_assign hF rfl rfl) fun a' hF' => wpList_nil (fl_end hC hF' (Ext.refl _) rfl)) ?_
   intro a w hE hF hall
   replace hH := hH.ext hE
   obtain ⟨_, s6, rfl⟩ := hall 6 _ rfl
   replace hF := hF.more s6
   obtain ⟨_, s7, rfl⟩ := hall 7 _ rfl
   replace hF := hF.more s7
   clear hall
   refine wpList_nil ?_
   replace hF := hF.sel [6, 7]
   simp only [ss, Nat.reduceBEq] at hF
   refine k7 ?_
   refine wp_ret (hret (ret2 hF Tryz.results59 rfl rfl ?_))
   exact ⟨⟨i, by first | (rw [decide_eq_false (show ¬ i < l.length by omega)]; rfl) | (rw [decide_eq_true (show i < l.length by omega)]; rfl), by omega, hlo, hhi⟩, hH.below⟩
  ·
   refine c_flow [0, 1, 2, 3, 4] [5, 6, 7, 8, 9, 10, 11, 12, 13, 14, 15] [] [] (by kernel_rfl) (by kernel_rfl) fun hB => ?_
   refine ps hF rfl rfl rfl rfl (fun w => r_move hF rfl rfl) fun a hF => ?_
   refine ps hF rfl rfl rfl rfl (fun w => r_move hF rfl rfl) fun a hF => ?_
   refine ps hF rfl rfl rfl rfl (fun w => r_move hF rfl rfl) fun a hF => ?_
   refine ps hF rfl rfl rfl rfl (fun w => zr hF rfl rfl (b_ltn _ _ _ _)) fun a hF => ?_
   refine ps hF rfl rfl rfl rfl (fun w => r_move hF rfl rfl) fun a hF => ?_
   refine fl_start [40, 41, 42, 43, 44, 45, 46, 47, 48, 6, 7] hB (by kernel_rfl) hF ?_
   simp only [wo, hasN, Nat.reduceBEq, cond_true, cond_false] at hF ⊢
   refine fs1 rfl (by
    intro a w Lr hE hC hl
    replace hH := hH.ext hE
    have hF := hC.fr
    exact zn hF rfl (decide_eq_false hs8) fun a' hF' => wpList_nil (fl_end hC hF' (Ext.refl _) rfl)) ?_
   refine fs1 rfl (by
    intro a w Lr hE hC hl
    replace hH := hH.ext hE
    have hF := hC.fr
    exact zn hF rfl (decide_eq_false hs8) fun a' hF' => wpList_nil (fl_end hC hF' (Ext.refl _) rfl)) ?_
   refine fs1 rfl (by
    intro a w Lr hE hC hl
    replace hH := hH.ext hE
    have hF := hC.fr
    exact zn hF rfl (decide_eq_false hs8) fun a' hF' => wpList_nil (fl_end hC hF' (Ext.refl _) rfl)) ?_
   refine fs1 rfl (by
    intro a w Lr hE hC hl
    replace hH := hH.ext hE
    obtain ⟨_, s41, rfl⟩ := hl 41 (by decide) _ rfl
    replace hC := hC.more s41
    obtain ⟨_, s42, rfl⟩ := hl 42 (by decide) _ rfl
    replace hC := hC.more s42
    have hF := hC.fr
    exact zn hF rfl (decide_eq_false hs8) fun a' hF' => wpList_nil (fl_end hC hF' (Ext.refl _) rfl)) ?_
   refine fs1 rfl (by
    intro a w Lr hE hC hl
    replace hH := hH.ext hE
    obtain ⟨_, s43, rfl⟩ := hl 43 (by decide) _ rfl
    replace hC := hC.more s43
    have hF := hC.fr
    exact zn hF rfl (decide_eq_false hs8) fun a' hF' => wpList_nil (fl_end hC hF' (Ext.refl _) rfl)) ?_
   refine fs1 rfl (by
    intro a w Lr hE hC hl
    replace hH := hH.ext hE
    have hF := hC.fr
    exact zn hF rfl (decide_eq_false hs8) fun a' hF' => wpList_nil (fl_end hC hF' (Ext.refl _) rfl)) ?_
   refine fs1 rfl (by
    intro a w Lr hE hC hl
    replace hH := hH.ext hE
    obtain ⟨_, s40, rfl⟩ := hl 40 (by decide) _ rfl
    replace hC := hC.more s40
    obtain ⟨_, s44, rfl⟩ := hl 44 (by decide) _ rfl
    replace hC := hC.more s44
    obtain ⟨_, s45, rfl⟩ := hl 45 (by decide) _ rfl
    replace hC := hC.more s45
    have hF := hC.fr
    exact zn hF rfl (decide_eq_false hs8) fun a' hF' => wpList_nil (fl_end hC hF' (Ext.refl _) rfl)) ?_
   refine fs1 rfl (by
    intro a w Lr hE hC hl
    replace hH := hH.ext hE
    obtain ⟨_, s46, rfl⟩ := hl 46 (by decide) _ rfl
    replace hC := hC.more s46
    have hF := hC.fr
    exact zn hF rfl (decide_eq_false hs8) fun a' hF' => wpList_nil (fl_end hC hF' (Ext.refl _) rfl)) ?_
   refine fs1 rfl (by
    intro a w Lr hE hC hl
    replace hH := hH.ext hE
    obtain ⟨_, s47, rfl⟩ := hl 47 (by decide) _ rfl
    replace hC := hC.more s47
    have hF := hC.fr
    exact zl hF rfl (r_pickf hF rfl rfl (decide_eq_false hs8) rfl) fun a' hF' => wpList_nil (fl_end hC hF' (Ext.refl _) rfl)) ?_
   refine fs1 rfl (by
    intro a w Lr hE hC hl
    replace hH := hH.ext hE
    have hF := hC.fr
    exact zl hF rfl (r_assign hF rfl rfl) fun a' hF' => wpList_nil (fl_end hC hF' (Ext.refl _) rfl)) ?_
   refine fs1 rfl (by
    intro a w Lr hE hC hl
    replace hH := hH.ext hE
    obtain ⟨_, s48, rfl⟩ := hl 48 (by decide) _ rfl
    replace hC := hC.more s48
    have hF := hC.fr
    exact zl hF rfl (r_assign hF rfl rfl) fun a' hF' => wpList_nil (fl_end hC hF' (Ext.refl _) rfl)) ?_
   intro a w hE hF hall
   replace hH := hH.ext hE
   obtain ⟨_, s6, rfl⟩ := hall 6 _ rfl
   replace hF := hF.more s6
   obtain ⟨_, s7, rfl⟩ := hall 7 _ rfl
   replace hF := hF.more s7
   clear hall
   refine wpList_nil ?_
   replace hF := hF.sel [6, 7]
   simp only [ss, Nat.reduceBEq] at hF
   refine k7 ?_
   refine wp_ret (hret (ret2 hF Tryz.results59 rfl rfl ?_))
   exact ⟨⟨i, by first | (rw [decide_eq_false (show ¬ i < l.length by omega)]; rfl) | (rw [decide_eq_true (show i < l.length by omega)]; rfl), by omega, hlo, hhi⟩, hH.below⟩
end Go.Proofs.YtcelgjabccgnmaaGreatDoor
