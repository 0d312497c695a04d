/-
  The walks of package hustingsref08, but for Group. Nothing is claimed here.
-/
import Derived.Test.YtcelgjabccgnmaaDoorGroup
namespace Go.Proofs.YtcelgjabccgnmaaDoor
open Go.RowKit
set_option linter.unusedVariables false
set_option linter.unusedSimpArgs false
set_option maxHeartbeats 1000000

theorem time8_spec (n : Nat) (w0 : World) : Rets Tryd.prog 39 [.int .u32 n] w0 fun v w' => v = .int .u32 (timeN n) ∧ Ext w0 w' := by
  have hH := Hp.refl w0
  refine rets_start Tryd.func39 rfl Tryd.ntmps39 rfl fun a Q0 hF hret hend => ?_
  simp only [argsFrom, Nat.zero_add, Nat.reduceAdd] at hF
  refine c_seq fun Q1 k1 t1 => ?_
  refine c_reg fun ops => ?_
  refine ls hF rfl rfl rfl (r_assign hF rfl rfl) fun a hF => ?_
  refine wpList_nil ?_
  replace hF := hF.sel [0]
  simp only [sel, lk, Nat.reduceBEq, cond_true, cond_false] at hF
  refine k1 ?_
  refine c_seq fun Q2 k2 t2 => ?_
  refine c_seq fun Q3 k3 t3 => ?_
  refine c_reg fun ops => ?_
  refine ls hF rfl rfl rfl (r_move hF rfl rfl) fun a hF => ?_
  refine ls hF rfl rfl rfl (r_bin hF rfl rfl rfl rfl (b_gtn _ _ _ 2147483647)) fun a hF => ?_
  refine wpList_nil ?_
  replace hF := hF.sel [0, 4]
  simp only [sel, lk, Nat.reduceBEq, cond_true, cond_false] at hF
  refine k3 ?_
  refine c_if hF rfl (fun h4 => ?_) (fun h4 => ?_)
  ·
   try simp only [q1, q2, q3, q4, q5, q6, q7, q8, q9, qa, qb] at h4
   refine c_seq fun Q4 k4 t4 => ?_
   refine c_reg fun ops => ?_
   refine ls hF rfl rfl rfl (r_assign hF rfl rfl) fun a hF => ?_
   refine wpList_nil ?_
   replace hF := hF.sel [2]
   simp only [sel, lk, Nat.reduceBEq, cond_true, cond_false] at hF
   refine k4 ?_
   refine wp_ret ?_
   refine t2.ret (hret (ret1 (fn := Tryd.f39) (t := 2) hF Tryd.results39 rfl ?_))
   exact ⟨by rw [timeN, if_pos (by omega)]; rfl, hH.below⟩
  ·
   try simp only [q1, q2, q3, q4, q5, q6, q7, q8, q9, qa, qb] at h4
   refine wp_skip ?_
   refine k2 ?_
   refine c_seq fun Q5 k5 t5 => ?_
   refine c_reg fun ops => ?_
   refine ls hF rfl rfl rfl (r_move hF rfl rfl) fun a hF => ?_
   refine ls hF rfl rfl rfl (r_assign hF rfl rfl) fun a hF => ?_
   refine wpList_nil ?_
   replace hF := hF.sel [2]
   simp only [sel, lk, Nat.reduceBEq, cond_true, cond_false] at hF
   refine k5 ?_
   refine wp_ret ?_
   refine hret (ret1 (fn := Tryd.f39) (t := 2) hF Tryd.results39 rfl ?_)
   exact ⟨by rw [timeN, if_neg (by omega)], hH.below⟩

theorem scmp_before (x y : RSet) : scmp x y < 0 ↔ (ncmp x.name y.name ≠ 0 ∧ ncmp x.name y.name < 0) ∨ (ncmp x.name y.name = 0 ∧ (x.kind < y.kind ∨ x.kind = y.kind ∧ x.cls < y.cls)) := by
  rw [scmp_eq]
  by_cases h : ncmp x.name y.name = 0
  · rw [if_neg (fun e => e h), kc_neg]
    simp [h]
  · rw [if_pos h]; simp [h]
theorem before8_spec (x y : RSet) (da db : Value) (h1 : x.name.length < 1000000) (h2 : y.name.length < 1000000) (w0 : World) : Rets Tryd.prog 41 [.agg (setV x da).toArray, .agg (setV y db).toArray] w0 fun v w' => v = .bool (decide (scmp x y < 0)) ∧ Ext w0 w' := by
  have hH := Hp.refl w0
  have hb := scmp_before x y
  refine rets_start Tryd.func41 rfl Tryd.ntmps41 rfl fun a Q0 hF hret hend => ?_
  simp only [argsFrom, Nat.zero_add, Nat.reduceAdd] at hF
  refine c_seq fun Q1 k1 t1 => ?_
  refine c_reg fun ops => ?_
  refine ls_box hF hH rfl rfl rfl rfl rfl ?_
  intro a w g0_0 hH hE hF
  refine ls_box hF hH rfl rfl rfl rfl rfl ?_
  intro a w g0_1 hH hE hF
  refine ls hF rfl rfl rfl (r_assign hF rfl rfl) fun a hF => ?_
  refine wpList_nil ?_
  replace hF := hF.sel [2, 3]
  simp only [sel, lk, Nat.reduceBEq, cond_true, cond_false] at hF
  refine k1 ?_
  refine c_seq fun Q2 k2 t2 => ?_
  refine c_reg fun ops => ?_
  refine ls hF rfl rfl rfl (r_fieldaddr0 hF rfl rfl fd49_0) fun a hF => ?_
  refine ls hF rfl rfl rfl (r_load hF rfl rfl fl9 (own_cell (i := 1) hH rfl rfl)) fun a hF => ?_
  refine ls hF rfl rfl rfl (r_fieldaddr0 hF rfl rfl fd49_0) fun a hF => ?_
  refine ls hF rfl rfl rfl (r_load hF rfl rfl fl9 (own_cell (i := 0) hH rfl rfl)) fun a hF => ?_
  refine ls_call hF rfl rfl rfl rfl rfl fn68 (refCompare_spec _ _ h1 h2 _) ?_
  rintro _ w ⟨rfl, hE⟩ a hF
  replace hH := hH.ext hE
  refine ls hF rfl rfl rfl (r_assign hF rfl rfl) fun a hF => ?_
  refine wpList_nil ?_
  replace hF := hF.sel [2, 3, 5]
  simp only [sel, lk, Nat.reduceBEq, cond_true, cond_false] at hF
  refine k2 ?_
  refine c_seq fun Q3 k3 t3 => ?_
  refine c_seq fun Q4 k4 t4 => ?_
  refine c_reg fun ops => ?_
  refine ls hF rfl rfl rfl (r_move hF rfl rfl) fun a hF => ?_
  refine ls hF rfl rfl rfl (r_bin hF rfl rfl rfl rfl (b_ne _ _ _ _)) fun a hF => ?_
  refine wpList_nil ?_
  replace hF := hF.sel [2, 3, 5, 12]
  simp only [sel, lk, Nat.reduceBEq, cond_true, cond_false] at hF
  refine k4 ?_
  refine c_if hF rfl (fun h12 => ?_) (fun h12 => ?_)
  ·
   try simp only [q1, q2, q3, q4, q5, q6, q7, q8, q9, qa, qb] at h12
   refine c_seq fun Q5 k5 t5 => ?_
   refine c_reg fun ops => ?_
   refine ls hF rfl rfl rfl (r_move hF rfl rfl) fun a hF => ?_
   refine ls hF rfl rfl rfl (r_bin hF rfl rfl rfl rfl (b_lt _ _ _ _)) fun a hF => ?_
   refine ls hF rfl rfl rfl (r_assign hF rfl rfl) fun a hF => ?_
   refine wpList_nil ?_
   replace hF := hF.sel [4]
   simp only [sel, lk, Nat.reduceBEq, cond_true, cond_false] at hF
   refine k5 ?_
   refine wp_ret ?_
   refine t3.ret (hret (ret1 (fn := Tryd.f41) (t := 4) hF Tryd.results41 rfl ?_))
   exact ⟨by congr 1; rw [decide_eq_decide, hb]; omega, hH.below⟩
  ·
   try simp only [q1, q2, q3, q4, q5, q6, q7, q8, q9, qa, qb] at h12
   refine wp_skip ?_
   refine k3 ?_
   refine c_seq fun Q6 k6 t6 => ?_
   refine c_seq fun Q7 k7 t7 => ?_
   refine c_reg fun ops => ?_
   refine ls hF rfl rfl rfl (r_fieldaddr0 hF rfl rfl fd49_1) fun a hF => ?_
   refine ls hF rfl rfl rfl (r_load hF rfl rfl fl24 (own_cell (i := 1) hH rfl rfl)) fun a hF => ?_
   refine ls hF rfl rfl rfl (r_fieldaddr0 hF rfl rfl fd49_1) fun a hF => ?_
   refine ls hF rfl rfl rfl (r_load hF rfl rfl fl24 (own_cell (i := 0) hH rfl rfl)) fun a hF => ?_
   refine ls hF rfl rfl rfl (r_bin hF rfl rfl rfl rfl (b_nen _ _ _ _)) fun a hF => ?_
   refine wpList_nil ?_
   replace hF := hF.sel [2, 3, 19]
   simp only [sel, lk, Nat.reduceBEq, cond_true, cond_false] at hF
   refine k7 ?_
   refine c_if hF rfl (fun h19 => ?_) (fun h19 => ?_)
   ·
    try simp only [q1, q2, q3, q4, q5, q6, q7, q8, q9, qa, qb] at h19
    refine c_seq fun Q8 k8 t8 => ?_
    refine c_reg fun ops => ?_
    refine ls hF rfl rfl rfl (r_fieldaddr0 hF rfl rfl fd49_1) fun a hF => ?_
    refine ls hF rfl rfl rfl (r_load hF rfl rfl fl24 (own_cell (i := 1) hH rfl rfl)) fun a hF => ?_
    refine ls hF rfl rfl rfl (r_fieldaddr0 hF rfl rfl fd49_1) fun a hF => ?_
    refine ls hF rfl rfl rfl (r_load hF rfl rfl fl24 (own_cell (i := 0) hH rfl rfl)) fun a hF => ?_
    refine ls hF rfl rfl rfl (r_bin hF rfl rfl rfl rfl (b_ltn _ _ _ _)) fun a hF => ?_
    refine ls hF rfl rfl rfl (r_assign hF rfl rfl) fun a hF => ?_
    refine wpList_nil ?_
    replace hF := hF.sel [4]
    simp only [sel, lk, Nat.reduceBEq, cond_true, cond_false] at hF
    refine k8 ?_
    refine wp_ret ?_
    refine t6.ret (hret (ret1 (fn := Tryd.f41) (t := 4) hF Tryd.results41 rfl ?_))
    exact ⟨by congr 1; rw [decide_eq_decide, hb]; omega, hH.below⟩
   ·
    try simp only [q1, q2, q3, q4, q5, q6, q7, q8, q9, qa, qb] at h19
    refine wp_skip ?_
    refine k6 ?_
    refine c_seq fun Q9 k9 t9 => ?_
    refine c_reg fun ops => ?_
    refine ls hF rfl rfl rfl (r_fieldaddr0 hF rfl rfl fd49_2) fun a hF => ?_
    refine ls hF rfl rfl rfl (r_load hF rfl rfl fl24 (own_cell (i := 1) hH rfl rfl)) fun a hF => ?_
    refine ls hF rfl rfl rfl (r_fieldaddr0 hF rfl rfl fd49_2) fun a hF => ?_
    refine ls hF rfl rfl rfl (r_load hF rfl rfl fl24 (own_cell (i := 0) hH rfl rfl)) fun a hF => ?_
    refine ls hF rfl rfl rfl (r_bin hF rfl rfl rfl rfl (b_ltn _ _ _ _)) fun a hF => ?_
    refine ls hF rfl rfl rfl (r_assign hF rfl rfl) fun a hF => ?_
    refine wpList_nil ?_
    replace hF := hF.sel [4]
    simp only [sel, lk, Nat.reduceBEq, cond_true, cond_false] at hF
    refine k9 ?_
    refine wp_ret ?_
    refine hret (ret1 (fn := Tryd.f41) (t := 4) hF Tryd.results41 rfl ?_)
    exact ⟨by congr 1; rw [decide_eq_decide, hb]; omega, hH.below⟩

theorem take_more {xs ys : List Bs} {i : Nat} (h : xs.take i = ys.take i) (h1 : i < xs.length) (h2 : i < ys.length) (he : xs.getD i [] = ys.getD i []) : xs.take (i + 1) = ys.take (i + 1) := by
  have e1 : xs.getD i [] = xs[i] := by simp [List.getD_eq_getElem?_getD, h1]
  have e2 : ys.getD i [] = ys[i] := by simp [List.getD_eq_getElem?_getD, h2]
  rw [List.take_succ_eq_append_getElem h1, List.take_succ_eq_append_getElem h2, h, ← e1, ← e2, he]
theorem same8_spec (x y : RSet) (da db : Value) (w0 : World) (ha : RSl w0 1 da x.data.length (strV x.data)) (hb : RSl w0 1 db y.data.length (strV y.data)) (hx : x.data.length < 1000000) (hy : y.data.length < 1000000) :
    Rets Tryd.prog 47 [.agg (setV x da).toArray, .agg (setV y db).toArray] w0 fun v w' => v = .bool (sameS x y) ∧ Ext w0 w' := by
  have hH := Hp.refl w0
  obtain ⟨ad, ca, rfl⟩ := ha.shape
  obtain ⟨bd, cb, rfl⟩ := hb.shape
  refine rets_start Tryd.func47 rfl Tryd.ntmps47 rfl fun a Q0 hF hret hend => ?_
  simp only [argsFrom, Nat.zero_add, Nat.reduceAdd] at hF
  refine c_seq fun Q1 k1 t1 => ?_
  refine c_reg fun ops => ?_
  refine ls_box hF hH rfl rfl rfl rfl rfl ?_
  intro a w g0_0 hH hE hF
  refine ls_box hF hH rfl rfl rfl rfl rfl ?_
  intro a w g0_1 hH hE hF
  refine ls hF rfl rfl rfl (r_assign hF rfl rfl) fun a hF => ?_
  refine wpList_nil ?_
  replace hF := hF.sel [2, 3]
  simp only [sel, lk, Nat.reduceBEq, cond_true, cond_false] at hF
  refine k1 ?_
  refine c_seq fun Q2 k2 t2 => ?_
  refine c_seq fun Q3 k3 t3 => ?_
  refine c_regg ?_
  refine ls hF rfl rfl rfl (r_fieldaddr0 hF rfl rfl fd49_0) fun a hF => ?_
  refine ls hF rfl rfl rfl (r_load hF rfl rfl fl9 (own_cell (i := 1) hH rfl rfl)) fun a hF => ?_
  refine ls hF rfl rfl rfl (r_fieldaddr0 hF rfl rfl fd49_0) fun a hF => ?_
  refine ls hF rfl rfl rfl (r_load hF rfl rfl fl9 (own_cell (i := 0) hH rfl rfl)) fun a hF => ?_
  refine ls hF rfl rfl rfl (r_bin hF rfl rfl rfl rfl (b_sne _ _ _)) fun a hF => ?_
  refine ls hF rfl rfl rfl (r_move hF rfl rfl) fun a hF => ?_
  refine ls_ask (d := 11) hF rfl (fun g1_5 => ?_) (fun g1_5 => ?_)
  ·
   have g1_5' := g1_5; try simp only [q1, q2, q3, q4, q5, q6, q7, q8, q9, qa, qb] at g1_5'
   refine lsn hF rfl rfl rfl g1_5 rfl rfl fun a hF => ?_
   refine lsn hF rfl rfl rfl g1_5 rfl rfl fun a hF => ?_
   refine lsn hF rfl rfl rfl g1_5 rfl rfl fun a hF => ?_
   refine lsn hF rfl rfl rfl g1_5 rfl rfl fun a hF => ?_
   refine lsn hF rfl rfl rfl g1_5 rfl rfl fun a hF => ?_
   refine ls hF rfl rfl rfl (r_pickt hF rfl rfl g1_5 rfl) fun a hF => ?_
   refine ls hF rfl rfl rfl (r_move hF rfl rfl) fun a hF => ?_
   refine lsn hF rfl rfl rfl rfl rfl rfl fun a hF => ?_
   refine lsn hF rfl rfl rfl rfl rfl rfl fun a hF => ?_
   refine lsn hF rfl rfl rfl rfl rfl rfl fun a hF => ?_
   refine lsn hF rfl rfl rfl rfl rfl rfl fun a hF => ?_
   refine lsn hF rfl rfl rfl rfl rfl rfl fun a hF => ?_
   refine ls hF rfl rfl rfl (r_pickt hF rfl rfl rfl rfl) fun a hF => ?_
   refine ls hF rfl rfl rfl (r_move hF rfl rfl) fun a hF => ?_
   refine lsn hF rfl rfl rfl rfl rfl rfl fun a hF => ?_
   refine lsn hF rfl rfl rfl rfl rfl rfl fun a hF => ?_
   refine lsn hF rfl rfl rfl rfl rfl rfl fun a hF => ?_
   refine lsn hF rfl rfl rfl rfl rfl rfl fun a hF => ?_
   refine lsn hF rfl rfl rfl rfl rfl rfl fun a hF => ?_
   refine ls hF rfl rfl rfl (r_pickt hF rfl rfl rfl rfl) fun a hF => ?_
   refine ls hF rfl rfl rfl (r_move hF rfl rfl) fun a hF => ?_
   refine lsn hF rfl rfl rfl rfl rfl rfl fun a hF => ?_
   refine lsn hF rfl rfl rfl rfl rfl rfl fun a hF => ?_
   refine lsn hF rfl rfl rfl rfl rfl rfl fun a hF => ?_
   refine lsn hF rfl rfl rfl rfl rfl rfl fun a hF => ?_
   refine lsn hF rfl rfl rfl rfl rfl rfl fun a hF => ?_
   refine lsn hF rfl rfl rfl rfl rfl rfl fun a hF => ?_
   refine lsn hF rfl rfl rfl rfl rfl rfl fun a hF => ?_
   refine ls hF rfl rfl rfl (r_pickt hF rfl rfl rfl rfl) fun a hF => ?_
   refine wpList_nil ?_
   replace hF := hF.sel [2, 3, 40]
   simp only [sel, lk, Nat.reduceBEq, cond_true, cond_false] at hF
   refine k3 ?_
   refine c_yes hF rfl rfl ?_
   refine c_seq fun Q4 k4 t4 => ?_
   refine c_reg fun ops => ?_
   refine ls hF rfl rfl rfl (r_assign hF rfl rfl) fun a hF => ?_
   refine wpList_nil ?_
   replace hF := hF.sel [4]
   simp only [sel, lk, Nat.reduceBEq, cond_true, cond_false] at hF
   refine k4 ?_
   refine wp_ret ?_
   refine t2.ret (hret (ret1 (fn := Tryd.f47) (t := 4) hF Tryd.results47 rfl ?_))
   exact ⟨by first | (rw [hne]; done) | (congr 1; symm; unfold sameS; simp_all), hH.below⟩
  ·
   have g1_5' := g1_5; try simp only [q1, q2, q3, q4, q5, q6, q7, q8, q9, qa, qb] at g1_5'
   refine lsy hF rfl rfl rfl g1_5 rfl rfl (r_fieldaddr0 hF rfl rfl fd49_1) fun a hF => ?_
   refine lsy hF rfl rfl rfl g1_5 rfl rfl (r_load hF rfl rfl fl24 (own_cell (i := 1) hH rfl rfl)) fun a hF => ?_
   refine lsy hF rfl rfl rfl g1_5 rfl rfl (r_fieldaddr0 hF rfl rfl fd49_1) fun a hF => ?_
   refine lsy hF rfl rfl rfl g1_5 rfl rfl (r_load hF rfl rfl fl24 (own_cell (i := 0) hH rfl rfl)) fun a hF => ?_
   refine lsy hF rfl rfl rfl g1_5 rfl rfl (r_bin hF rfl rfl rfl rfl (b_nen _ _ _ _)) fun a hF => ?_
   refine ls hF rfl rfl rfl (r_pickf hF rfl rfl g1_5 rfl) fun a hF => ?_
   refine ls hF rfl rfl rfl (r_move hF rfl rfl) fun a hF => ?_
   refine ls_ask (d := 18) hF rfl (fun g1_12 => ?_) (fun g1_12 => ?_)
   ·
    have g1_12' := g1_12; try simp only [q1, q2, q3, q4, q5, q6, q7, q8, q9, qa, qb] at g1_12'
    refine lsn hF rfl rfl rfl g1_12 rfl rfl fun a hF => ?_
    refine lsn hF rfl rfl rfl g1_12 rfl rfl fun a hF => ?_
    refine lsn hF rfl rfl rfl g1_12 rfl rfl fun a hF => ?_
    refine lsn hF rfl rfl rfl g1_12 rfl rfl fun a hF => ?_
    refine lsn hF rfl rfl rfl g1_12 rfl rfl fun a hF => ?_
    refine ls hF rfl rfl rfl (r_pickt hF rfl rfl g1_12 rfl) fun a hF => ?_
    refine ls hF rfl rfl rfl (r_move hF rfl rfl) fun a hF => ?_
    refine lsn hF rfl rfl rfl rfl rfl rfl fun a hF => ?_
    refine lsn hF rfl rfl rfl rfl rfl rfl fun a hF => ?_
    refine lsn hF rfl rfl rfl rfl rfl rfl fun a hF => ?_
    refine lsn hF rfl rfl rfl rfl rfl rfl fun a hF => ?_
    refine lsn hF rfl rfl rfl rfl rfl rfl fun a hF => ?_
    refine ls hF rfl rfl rfl (r_pickt hF rfl rfl rfl rfl) fun a hF => ?_
    refine ls hF rfl rfl rfl (r_move hF rfl rfl) fun a hF => ?_
    refine lsn hF rfl rfl rfl rfl rfl rfl fun a hF => ?_
    refine lsn hF rfl rfl rfl rfl rfl rfl fun a hF => ?_
    refine lsn hF rfl rfl rfl rfl rfl rfl fun a hF => ?_
    refine lsn hF rfl rfl rfl rfl rfl rfl fun a hF => ?_
    refine lsn hF rfl rfl rfl rfl rfl rfl fun a hF => ?_
    refine lsn hF rfl rfl rfl rfl rfl rfl fun a hF => ?_
    refine lsn hF rfl rfl rfl rfl rfl rfl fun a hF => ?_
    refine ls hF rfl rfl rfl (r_pickt hF rfl rfl rfl rfl) fun a hF => ?_
    refine wpList_nil ?_
    replace hF := hF.sel [2, 3, 40]
    simp only [sel, lk, Nat.reduceBEq, cond_true, cond_false] at hF
    refine k3 ?_
    refine c_yes hF rfl rfl ?_
    refine c_seq fun Q5 k5 t5 => ?_
    refine c_reg fun ops => ?_
    refine ls hF rfl rfl rfl (r_assign hF rfl rfl) fun a hF => ?_
    refine wpList_nil ?_
    replace hF := hF.sel [4]
    simp only [sel, lk, Nat.reduceBEq, cond_true, cond_false] at hF
    refine k5 ?_
    refine wp_ret ?_
    refine t2.ret (hret (ret1 (fn := Tryd.f47) (t := 4) hF Tryd.results47 rfl ?_))
    exact ⟨by first | (rw [hne]; done) | (congr 1; symm; unfold sameS; simp_all), hH.below⟩
   ·
    have g1_12' := g1_12; try simp only [q1, q2, q3, q4, q5, q6, q7, q8, q9, qa, qb] at g1_12'
    refine lsy hF rfl rfl rfl g1_12 rfl rfl (r_fieldaddr0 hF rfl rfl fd49_2) fun a hF => ?_
    refine lsy hF rfl rfl rfl g1_12 rfl rfl (r_load hF rfl rfl fl24 (own_cell (i := 1) hH rfl rfl)) fun a hF => ?_
    refine lsy hF rfl rfl rfl g1_12 rfl rfl (r_fieldaddr0 hF rfl rfl fd49_2) fun a hF => ?_
    refine lsy hF rfl rfl rfl g1_12 rfl rfl (r_load hF rfl rfl fl24 (own_cell (i := 0) hH rfl rfl)) fun a hF => ?_
    refine lsy hF rfl rfl rfl g1_12 rfl rfl (r_bin hF rfl rfl rfl rfl (b_nen _ _ _ _)) fun a hF => ?_
    refine ls hF rfl rfl rfl (r_pickf hF rfl rfl g1_12 rfl) fun a hF => ?_
    refine ls hF rfl rfl rfl (r_move hF rfl rfl) fun a hF => ?_
    refine ls_ask (d := 25) hF rfl (fun g1_19 => ?_) (fun g1_19 => ?_)
    ·
     have g1_19' := g1_19; try simp only [q1, q2, q3, q4, q5, q6, q7, q8, q9, qa, qb] at g1_19'
     refine lsn hF rfl rfl rfl g1_19 rfl rfl fun a hF => ?_
     refine lsn hF rfl rfl rfl g1_19 rfl rfl fun a hF => ?_
     refine lsn hF rfl rfl rfl g1_19 rfl rfl fun a hF => ?_
     refine lsn hF rfl rfl rfl g1_19 rfl rfl fun a hF => ?_
     refine lsn hF rfl rfl rfl g1_19 rfl rfl fun a hF => ?_
     refine ls hF rfl rfl rfl (r_pickt hF rfl rfl g1_19 rfl) fun a hF => ?_
     refine ls hF rfl rfl rfl (r_move hF rfl rfl) fun a hF => ?_
     refine lsn hF rfl rfl rfl rfl rfl rfl fun a hF => ?_
     refine lsn hF rfl rfl rfl rfl rfl rfl fun a hF => ?_
     refine lsn hF rfl rfl rfl rfl rfl rfl fun a hF => ?_
     refine lsn hF rfl rfl rfl rfl rfl rfl fun a hF => ?_
     refine lsn hF rfl rfl rfl rfl rfl rfl fun a hF => ?_
     refine lsn hF rfl rfl rfl rfl rfl rfl fun a hF => ?_
     refine lsn hF rfl rfl rfl rfl rfl rfl fun a hF => ?_
     refine ls hF rfl rfl rfl (r_pickt hF rfl rfl rfl rfl) fun a hF => ?_
     refine wpList_nil ?_
     replace hF := hF.sel [2, 3, 40]
     simp only [sel, lk, Nat.reduceBEq, cond_true, cond_false] at hF
     refine k3 ?_
     refine c_yes hF rfl rfl ?_
     refine c_seq fun Q6 k6 t6 => ?_
     refine c_reg fun ops => ?_
     refine ls hF rfl rfl rfl (r_assign hF rfl rfl) fun a hF => ?_
     refine wpList_nil ?_
     replace hF := hF.sel [4]
     simp only [sel, lk, Nat.reduceBEq, cond_true, cond_false] at hF
     refine k6 ?_
     refine wp_ret ?_
     refine t2.ret (hret (ret1 (fn := Tryd.f47) (t := 4) hF Tryd.results47 rfl ?_))
     exact ⟨by first | (rw [hne]; done) | (congr 1; symm; unfold sameS; simp_all), hH.below⟩
    ·
     have g1_19' := g1_19; try simp only [q1, q2, q3, q4, q5, q6, q7, q8, q9, qa, qb] at g1_19'
     refine lsy hF rfl rfl rfl g1_19 rfl rfl (r_fieldaddr0 hF rfl rfl fd49_3) fun a hF => ?_
     refine lsy hF rfl rfl rfl g1_19 rfl rfl (r_load hF rfl rfl fl25 (own_cell (i := 1) hH rfl rfl)) fun a hF => ?_
     refine lsy hF rfl rfl rfl g1_19 rfl rfl (r_fieldaddr0 hF rfl rfl fd49_3) fun a hF => ?_
     refine lsy hF rfl rfl rfl g1_19 rfl rfl (r_load hF rfl rfl fl25 (own_cell (i := 0) hH rfl rfl)) fun a hF => ?_
     refine lsy hF rfl rfl rfl g1_19 rfl rfl (r_bin hF rfl rfl rfl rfl (b_nen _ _ _ _)) fun a hF => ?_
     refine ls hF rfl rfl rfl (r_pickf hF rfl rfl g1_19 rfl) fun a hF => ?_
     refine ls hF rfl rfl rfl (r_move hF rfl rfl) fun a hF => ?_
     refine ls_ask (d := 32) hF rfl (fun g1_26 => ?_) (fun g1_26 => ?_)
     ·
      have g1_26' := g1_26; try simp only [q1, q2, q3, q4, q5, q6, q7, q8, q9, qa, qb] at g1_26'
      refine lsn hF rfl rfl rfl g1_26 rfl rfl fun a hF => ?_
      refine lsn hF rfl rfl rfl g1_26 rfl rfl fun a hF => ?_
      refine lsn hF rfl rfl rfl g1_26 rfl rfl fun a hF => ?_
      refine lsn hF rfl rfl rfl g1_26 rfl rfl fun a hF => ?_
      refine lsn hF rfl rfl rfl g1_26 rfl rfl fun a hF => ?_
      refine lsn hF rfl rfl rfl g1_26 rfl rfl fun a hF => ?_
      refine lsn hF rfl rfl rfl g1_26 rfl rfl fun a hF => ?_
      refine ls hF rfl rfl rfl (r_pickt hF rfl rfl g1_26 rfl) fun a hF => ?_
      refine wpList_nil ?_
      replace hF := hF.sel [2, 3, 40]
      simp only [sel, lk, Nat.reduceBEq, cond_true, cond_false] at hF
      refine k3 ?_
      refine c_yes hF rfl rfl ?_
      refine c_seq fun Q7 k7 t7 => ?_
      refine c_reg fun ops => ?_
      refine ls hF rfl rfl rfl (r_assign hF rfl rfl) fun a hF => ?_
      refine wpList_nil ?_
      replace hF := hF.sel [4]
      simp only [sel, lk, Nat.reduceBEq, cond_true, cond_false] at hF
      refine k7 ?_
      refine wp_ret ?_
      refine t2.ret (hret (ret1 (fn := Tryd.f47) (t := 4) hF Tryd.results47 rfl ?_))
      exact ⟨by first | (rw [hne]; done) | (congr 1; symm; unfold sameS; simp_all), hH.below⟩
     ·
      have g1_26' := g1_26; try simp only [q1, q2, q3, q4, q5, q6, q7, q8, q9, qa, qb] at g1_26'
      refine lsy hF rfl rfl rfl g1_26 rfl rfl (r_fieldaddr0 hF rfl rfl fd49_4) fun a hF => ?_
      refine lsy hF rfl rfl rfl g1_26 rfl rfl (r_load hF rfl rfl fl47 (own_cell (i := 1) hH rfl rfl)) fun a hF => ?_
      refine lsy hF rfl rfl rfl g1_26 rfl rfl (r_len_sl hF rfl rfl Tryd.underlying47) fun a hF => ?_
      refine lsy hF rfl rfl rfl g1_26 rfl rfl (r_fieldaddr0 hF rfl rfl fd49_4) fun a hF => ?_
      refine lsy hF rfl rfl rfl g1_26 rfl rfl (r_load hF rfl rfl fl47 (own_cell (i := 0) hH rfl rfl)) fun a hF => ?_
      refine lsy hF rfl rfl rfl g1_26 rfl rfl (r_len_sl hF rfl rfl Tryd.underlying47) fun a hF => ?_
      refine lsy hF rfl rfl rfl g1_26 rfl rfl (r_bin hF rfl rfl rfl rfl (b_nen _ _ _ _)) fun a hF => ?_
      refine ls hF rfl rfl rfl (r_pickf hF rfl rfl g1_26 rfl) fun a hF => ?_
      refine wpList_nil ?_
      replace hF := hF.sel [2, 3, 40]
      simp only [sel, lk, Nat.reduceBEq, cond_true, cond_false] at hF
      refine k3 ?_
      refine c_if hF rfl (fun h40 => ?_) (fun h40 => ?_)
      ·
       try simp only [q1, q2, q3, q4, q5, q6, q7, q8, q9, qa, qb] at h40
       have hne : sameS x y = false := by
         cases hs : sameS x y with
         | false => rfl
         | true => simp only [sameS, Bool.and_eq_true, decide_eq_true_eq] at hs; exact absurd (congrArg List.length hs.2) h40
       refine c_seq fun Q8 k8 t8 => ?_
       refine c_reg fun ops => ?_
       refine ls hF rfl rfl rfl (r_assign hF rfl rfl) fun a hF => ?_
       refine wpList_nil ?_
       replace hF := hF.sel [4]
       simp only [sel, lk, Nat.reduceBEq, cond_true, cond_false] at hF
       refine k8 ?_
       refine wp_ret ?_
       refine t2.ret (hret (ret1 (fn := Tryd.f47) (t := 4) hF Tryd.results47 rfl ?_))
       exact ⟨by first | (rw [hne]; done) | (congr 1; symm; unfold sameS; simp_all), hH.below⟩
      ·
       try simp only [q1, q2, q3, q4, q5, q6, q7, q8, q9, qa, qb] at h40
       skip
       refine wp_skip ?_
       refine k2 ?_
       refine c_seq fun Q9 k9 t9 => ?_
       refine c_seq fun Q10 k10 t10 => ?_
       refine c_reg fun ops => ?_
       refine ls hF rfl rfl rfl (r_assign hF rfl rfl) fun a hF => ?_
       refine wpList_nil ?_
       replace hF := hF.sel [2, 3, 5]
       simp only [sel, lk, Nat.reduceBEq, cond_true, cond_false] at hF
       refine k10 ?_
       refine c_block fun Q11 t11 => ?_
       refine c_loop (fun n a w => ∃ i, n = x.data.length - i ∧ i ≤ x.data.length ∧ x.data.take i = y.data.take i ∧ Fr 59 [(2, ptr g0_0), (3, ptr g0_1), (5, .int .i64 i)] a ∧ Hp w0 w [(g0_1, .cells (setV y (.slice bd y.data.length cb)).toArray 49 (0, 0)), (g0_0, .cells (setV x (.slice ad x.data.length ca)).toArray 49 (0, 0))]) ?_ ?_
       ·
        exact ⟨_, 0, rfl, Nat.zero_le _, rfl, hF.keep [2, 3, 5] rfl, hH⟩
       ·
        clear hH hF
        intro n a w hI Q12 k12 t12
        obtain ⟨i, hm, hi, he, hF, hH⟩ := hI
        refine c_seq fun Q13 k13 t13 => ?_
        refine c_seq fun Q14 k14 t14 => ?_
        refine c_reg fun ops => ?_
        refine ls hF rfl rfl rfl (r_move hF rfl rfl) fun a hF => ?_
        refine ls hF rfl rfl rfl (r_fieldaddr0 hF rfl rfl fd49_4) fun a hF => ?_
        refine ls hF rfl rfl rfl (r_load hF rfl rfl fl47 (own_cell (i := 1) hH rfl rfl)) fun a hF => ?_
        refine ls hF rfl rfl rfl (r_len_sl hF rfl rfl Tryd.underlying47) fun a hF => ?_
        refine ls hF rfl rfl rfl (r_bin hF rfl rfl rfl rfl (b_ltn _ _ _ _)) fun a hF => ?_
        refine wpList_nil ?_
        refine k14 ?_
        refine c_if hF rfl (fun h45 => ?_) (fun h45 => ?_)
        ·
         try simp only [q1, q2, q3, q4, q5, q6, q7, q8, q9, qa, qb] at h45
         obtain ⟨b, off, had, hc⟩ := ha.at h45
         obtain ⟨b', off', hbd, hc'⟩ := hb.at (i := i) (by omega)
         rw [had, hbd] at hH
         refine wp_skip ?_
         refine k13 ?_
         refine c_seq fun Q15 k15 t15 => ?_
         refine c_block fun Q16 t16 => ?_
         refine c_seq fun Q17 k17 t17 => ?_
         refine c_flow [0, 2, 5, 7] [1, 3, 4, 6, 8, 9, 10] [] [] (by kernel_rfl) (by kernel_rfl) fun hB => ?_
         refine ps hF rfl rfl rfl rfl (fun w => r_fieldaddr0 hF rfl rfl fd49_4) fun a hF => ?_
         refine ps hF rfl rfl rfl rfl (fun w => r_move hF rfl rfl) fun a hF => ?_
         refine ps hF rfl rfl rfl rfl (fun w => r_fieldaddr0 hF rfl rfl fd49_4) fun a hF => ?_
         refine ps hF rfl rfl rfl rfl (fun w => r_move hF rfl rfl) fun a hF => ?_
         refine fl_start [49, 51, 52, 54, 56, 57, 58] hB (by kernel_rfl) hF ?_
         simp only [wo, hasN, Nat.reduceBEq, cond_true, cond_false] at hF ⊢
         refine fs1 rfl (by
          intro a w Lr hE hC hl
          replace hH := hH.ext hE
          have hF := hC.fr
          exact ls hF rfl rfl rfl (r_load hF rfl rfl fl47 (own_cell (i := 1) hH rfl rfl)) fun a' hF' => wpList_nil (fl_end hC hF' (Ext.refl _) rfl)) ?_
         refine fs1 rfl (by
          intro a w Lr hE hC hl
          replace hH := hH.ext hE
          obtain ⟨_, s49, rfl⟩ := hl 49 (by decide) _ rfl
          replace hC := hC.more s49
          have hF := hC.fr
          exact ls hF rfl rfl rfl (r_ix1 hF _ rfl rfl rfl Tryd.underlying47 ti9 (by omega)) fun a' hF' => wpList_nil (fl_end hC hF' (Ext.refl _) rfl)) ?_
         refine fs1 rfl (by
          intro a w Lr hE hC hl
          replace hH := hH.ext hE
          obtain ⟨_, s51, rfl⟩ := hl 51 (by decide) _ rfl
          replace hC := hC.more s51
          have hF := hC.fr
          exact ls hF rfl rfl rfl (r_load hF rfl rfl fl9 (hH.cell hc)) fun a' hF' => wpList_nil (fl_end hC hF' (Ext.refl _) rfl)) ?_
         refine fs1 rfl (by
          intro a w Lr hE hC hl
          replace hH := hH.ext hE
          have hF := hC.fr
          exact ls hF rfl rfl rfl (r_load hF rfl rfl fl47 (own_cell (i := 0) hH rfl rfl)) fun a' hF' => wpList_nil (fl_end hC hF' (Ext.refl _) rfl)) ?_
         refine fs1 rfl (by
          intro a w Lr hE hC hl
          replace hH := hH.ext hE
          obtain ⟨_, s54, rfl⟩ := hl 54 (by decide) _ rfl
          replace hC := hC.more s54
          have hF := hC.fr
          exact ls hF rfl rfl rfl (r_ix1 hF _ rfl rfl rfl Tryd.underlying47 ti9 (by omega)) fun a' hF' => wpList_nil (fl_end hC hF' (Ext.refl _) rfl)) ?_
         refine fs1 rfl (by
          intro a w Lr hE hC hl
          replace hH := hH.ext hE
          obtain ⟨_, s56, rfl⟩ := hl 56 (by decide) _ rfl
          replace hC := hC.more s56
          have hF := hC.fr
          exact ls hF rfl rfl rfl (r_load hF rfl rfl fl9 (hH.cell hc')) fun a' hF' => wpList_nil (fl_end hC hF' (Ext.refl _) rfl)) ?_
         refine fs1 rfl (by
          intro a w Lr hE hC hl
          replace hH := hH.ext hE
          obtain ⟨_, s52, rfl⟩ := hl 52 (by decide) _ rfl
          replace hC := hC.more s52
          obtain ⟨_, s57, rfl⟩ := hl 57 (by decide) _ rfl
          replace hC := hC.more s57
          have hF := hC.fr
          exact ls hF rfl rfl rfl (r_bin hF rfl rfl rfl rfl (b_sne _ _ _)) fun a' hF' => wpList_nil (fl_end hC hF' (Ext.refl _) rfl)) ?_
         intro a w hE hF hall
         replace hH := hH.ext hE
         obtain ⟨_, s49, rfl⟩ := hall 49 _ rfl
         replace hF := hF.more s49
         obtain ⟨_, s51, rfl⟩ := hall 51 _ rfl
         replace hF := hF.more s51
         obtain ⟨_, s52, rfl⟩ := hall 52 _ rfl
         replace hF := hF.more s52
         obtain ⟨_, s54, rfl⟩ := hall 54 _ rfl
         replace hF := hF.more s54
         obtain ⟨_, s56, rfl⟩ := hall 56 _ rfl
         replace hF := hF.more s56
         obtain ⟨_, s57, rfl⟩ := hall 57 _ rfl
         replace hF := hF.more s57
         obtain ⟨_, s58, rfl⟩ := hall 58 _ rfl
         replace hF := hF.more s58
         clear hall
         refine wpList_nil ?_
         refine k17 ?_
         refine c_if hF rfl (fun h58 => ?_) (fun h58 => ?_)
         ·
          try simp only [q1, q2, q3, q4, q5, q6, q7, q8, q9, qa, qb] at h58
          refine c_seq fun Q18 k18 t18 => ?_
          refine c_reg fun ops => ?_
          refine ls hF rfl rfl rfl (r_assign hF rfl rfl) fun a hF => ?_
          refine wpList_nil ?_
          refine k18 ?_
          refine wp_ret ?_
          refine t16.ret (t15.ret (t12.ret (t11.ret (t9.ret (hret (ret1 (fn := Tryd.f47) (t := 4) hF Tryd.results47 rfl ?_))))))
          exact ⟨by congr 1; symm; unfold sameS; rw [decide_eq_false (show ¬ x.data = y.data from fun e => h58 (by rw [e]))]; simp, hH.below⟩
         ·
          try simp only [q1, q2, q3, q4, q5, q6, q7, q8, q9, qa, qb] at h58
          refine wp_skip ?_
          refine t16.norm ?_
          refine k15 ?_
          refine c_reg fun ops => ?_
          refine ls hF rfl rfl rfl (r_move hF rfl rfl) fun a hF => ?_
          refine ls hF rfl rfl rfl (r_bin hF rfl rfl rfl rfl (b_addn _ _ 1 (by omega))) fun a hF => ?_
          refine ls hF rfl rfl rfl (r_assign hF rfl rfl) fun a hF => ?_
          refine wpList_nil ?_
          refine k12 ?_
          rw [← had, ← hbd] at hH
          exact ⟨x.data.length - (i + 1), by omega, i + 1, rfl, by omega, take_more he h45 (by omega) h58, hF.keep [2, 3, 5] rfl, hH⟩
        ·
         try simp only [q1, q2, q3, q4, q5, q6, q7, q8, q9, qa, qb] at h45
         refine wp_exit (t13.exit (t12.exit (t11.here (?_))))
         refine k9 ?_
         refine c_seq fun Q19 k19 t19 => ?_
         refine c_reg fun ops => ?_
         refine ls hF rfl rfl rfl (r_assign hF rfl rfl) fun a hF => ?_
         refine wpList_nil ?_
         replace hF := hF.sel [4]
         simp only [sel, lk, Nat.reduceBEq, cond_true, cond_false] at hF
         refine k19 ?_
         refine wp_ret ?_
         refine hret (ret1 (fn := Tryd.f47) (t := 4) hF Tryd.results47 rfl ?_)
         rw [List.take_of_length_le (by omega), List.take_of_length_le (by omega)] at he
         exact ⟨by congr 1; symm; unfold sameS; simp_all, hH.below⟩

theorem find8_spec (l : List RSet) (v : Value) (nm : Bs) (kind cls : Nat) {w00 : World} (w0 : World) (hR : SetsR w00 v l) (he0 : Ext w00 w0) (hl : l.length < 1000000) (hn : nm.length < 1000000) (hnm : ∀ s ∈ l, s.name.length < 1000000) :
    Rets Tryd.prog 42 [v, .string (mk nm), .int .u16 kind, .int .u16 cls] w0
      fun r w' => ∃ dv, r = .tuple #[.agg (setV ((findS l nm kind cls).getD noSet) dv).toArray, .bool (findS l nm kind cls).isSome] ∧ Ext w0 w' ∧ RSl w00 1 dv ((findS l nm kind cls).getD noSet).data.length (strV ((findS l nm kind cls).getD noSet).data) := by
  have hH := Hp.refl w0
  obtain ⟨ad, cap, rfl⟩ : ∃ ad cap, v = .slice ad l.length cap := by
    obtain ⟨_, _, h, _⟩ := hR; exact h.shape
  refine rets_start Tryd.func42 rfl Tryd.ntmps42 rfl fun a Q0 hF hret hend => ?_
  simp only [argsFrom, Nat.zero_add, Nat.reduceAdd] at hF
  refine c_seq fun Q1 k1 t1 => ?_
  refine c_reg fun ops => ?_
  refine ls_alloc hF hH rfl rfl rfl rfl zv49 ?_
  intro a w g0_0 hH hE hF
  refine ls hF rfl rfl rfl (r_assign hF rfl rfl) fun a hF => ?_
  refine wpList_nil ?_
  replace hF := hF.sel [0, 1, 2, 3, 8]
  simp only [sel, lk, Nat.reduceBEq, cond_true, cond_false] at hF
  refine k1 ?_
  refine c_seq fun Q2 k2 t2 => ?_
  refine c_seq fun Q3 k3 t3 => ?_
  refine c_reg fun ops => ?_
  refine ls hF rfl rfl rfl (r_assign hF rfl rfl) fun a hF => ?_
  refine wpList_nil ?_
  replace hF := hF.sel [0, 1, 2, 3, 8, 10]
  simp only [sel, lk, Nat.reduceBEq, cond_true, cond_false] at hF
  refine k3 ?_
  refine c_block fun Q4 t4 => ?_
  refine c_loop (fun n a w => ∃ i, n = l.length - i ∧ i ≤ l.length ∧ findS l nm kind cls = findS (l.drop i) nm kind cls ∧ Fr 47 [(0, .slice ad l.length cap), (1, .string (mk nm)), (2, .int .u16 kind), (3, .int .u16 cls), (8, ptr g0_0), (10, .int .i64 i)] a ∧ Hp w0 w [(g0_0, .cells #[.string (mk []), .int .u16 0, .int .u16 0, .int .u32 0, .slice none 0 0] 49 (0, 0))]) ?_ ?_
  ·
   exact ⟨_, 0, rfl, Nat.zero_le _, rfl, hF.keep [0, 1, 2, 3, 8, 10] rfl, hH⟩
  ·
   clear hH hF
   intro n a w hI Q5 k5 t5
   obtain ⟨i, hm, hi, he, hF, hH⟩ := hI
   refine c_seq fun Q6 k6 t6 => ?_
   refine c_seq fun Q7 k7 t7 => ?_
   refine c_reg fun ops => ?_
   refine ls hF rfl rfl rfl (r_move hF rfl rfl) fun a hF => ?_
   refine ls hF rfl rfl rfl (r_move hF rfl rfl) fun a hF => ?_
   refine ls hF rfl rfl rfl (r_len_sl hF rfl rfl Tryd.underlying38) fun a hF => ?_
   refine ls hF rfl rfl rfl (r_bin hF rfl rfl rfl rfl (b_ltn _ _ _ _)) fun a hF => ?_
   refine wpList_nil ?_
   refine k7 ?_
   refine c_if hF rfl (fun h14 => ?_) (fun h14 => ?_)
   ·
    try simp only [q1, q2, q3, q4, q5, q6, q7, q8, q9, qa, qb] at h14
    obtain ⟨b, off, dv, rfl, hset, hdv⟩ := hR.at h14
    have hmem := List.getElem_mem h14
    have hnl := hnm _ hmem
    have hdr : l.drop i = l[i] :: l.drop (i + 1) := List.drop_eq_getElem_cons h14
    rw [hdr, findS_cons] at he
    refine wp_skip ?_
    refine k6 ?_
    refine c_seq fun Q8 k8 t8 => ?_
    refine c_block fun Q9 t9 => ?_
    refine c_seq fun Q10 k10 t10 => ?_
    refine c_regg ?_
    refine ls hF rfl rfl rfl (r_move hF rfl rfl) fun a hF => ?_
    refine ls hF rfl rfl rfl (r_move hF rfl rfl) fun a hF => ?_
    refine ls hF rfl rfl rfl (r_indexaddr hF _ rfl rfl rfl Tryd.underlying38 ti49 (by omega)) fun a hF => ?_
    refine ls hF rfl rfl rfl (r_fieldaddr hF rfl rfl fd49_0) fun a hF => ?_
    refine ls hF rfl rfl rfl (r_load hF rfl rfl fl9 (hH.cell (he0.cell (hset 0 _ rfl)))) fun a hF => ?_
    refine ls hF rfl rfl rfl (r_move hF rfl rfl) fun a hF => ?_
    refine ls_call hF rfl rfl rfl rfl rfl fn69 (refSame_spec _ _ (by omega) (by omega) _) ?_
    rintro _ w ⟨rfl, hE⟩ a hF
    replace hH := hH.ext hE
    refine ls hF rfl rfl rfl (r_move hF rfl rfl) fun a hF => ?_
    refine ls_ask (d := 24) hF rfl (fun g4_7 => ?_) (fun g4_7 => ?_)
    ·
     have g4_7' := g4_7; try simp only [q1, q2, q3, q4, q5, q6, q7, q8, q9, qa, qb] at g4_7'
     refine lsy hF rfl rfl rfl g4_7 rfl rfl (r_move hF rfl rfl) fun a hF => ?_
     refine lsy hF rfl rfl rfl g4_7 rfl rfl (r_move hF rfl rfl) fun a hF => ?_
     refine lsy hF rfl rfl rfl g4_7 rfl rfl (r_indexaddr hF _ rfl rfl rfl Tryd.underlying38 ti49 (by omega)) fun a hF => ?_
     refine lsy hF rfl rfl rfl g4_7 rfl rfl (r_fieldaddr hF rfl rfl fd49_1) fun a hF => ?_
     refine lsy hF rfl rfl rfl g4_7 rfl rfl (r_load hF rfl rfl fl24 (hH.cell (he0.cell (hset 1 _ rfl)))) fun a hF => ?_
     refine lsy hF rfl rfl rfl g4_7 rfl rfl (r_move hF rfl rfl) fun a hF => ?_
     refine lsy hF rfl rfl rfl g4_7 rfl rfl (r_bin hF rfl rfl rfl rfl (b_eqn _ _ _ _)) fun a hF => ?_
     refine ls hF rfl rfl rfl (r_pickt hF rfl rfl g4_7 rfl) fun a hF => ?_
     refine ls hF rfl rfl rfl (r_move hF rfl rfl) fun a hF => ?_
     refine ls_ask (d := 33) hF rfl (fun g4_16 => ?_) (fun g4_16 => ?_)
     ·
      have g4_16' := g4_16; try simp only [q1, q2, q3, q4, q5, q6, q7, q8, q9, qa, qb] at g4_16'
      refine lsy hF rfl rfl rfl g4_16 rfl rfl (r_move hF rfl rfl) fun a hF => ?_
      refine lsy hF rfl rfl rfl g4_16 rfl rfl (r_move hF rfl rfl) fun a hF => ?_
      refine lsy hF rfl rfl rfl g4_16 rfl rfl (r_indexaddr hF _ rfl rfl rfl Tryd.underlying38 ti49 (by omega)) fun a hF => ?_
      refine lsy hF rfl rfl rfl g4_16 rfl rfl (r_fieldaddr hF rfl rfl fd49_2) fun a hF => ?_
      refine lsy hF rfl rfl rfl g4_16 rfl rfl (r_load hF rfl rfl fl24 (hH.cell (he0.cell (hset 2 _ rfl)))) fun a hF => ?_
      refine lsy hF rfl rfl rfl g4_16 rfl rfl (r_move hF rfl rfl) fun a hF => ?_
      refine lsy hF rfl rfl rfl g4_16 rfl rfl (r_bin hF rfl rfl rfl rfl (b_eqn _ _ _ _)) fun a hF => ?_
      refine ls hF rfl rfl rfl (r_pickt hF rfl rfl g4_16 rfl) fun a hF => ?_
      refine wpList_nil ?_
      refine k10 ?_
      refine c_if hF rfl (fun h41 => ?_) (fun h41 => ?_)
      ·
       try simp only [q1, q2, q3, q4, q5, q6, q7, q8, q9, qa, qb] at h41
       have hi1 : isS nm kind cls l[i] = true := by simp_all [isS]
       rw [if_pos hi1] at he
       refine c_seq fun Q11 k11 t11 => ?_
       refine c_reg fun ops => ?_
       refine ls hF rfl rfl rfl (r_move hF rfl rfl) fun a hF => ?_
       refine ls hF rfl rfl rfl (r_move hF rfl rfl) fun a hF => ?_
       refine ls hF rfl rfl rfl (r_indexaddr hF _ rfl rfl rfl Tryd.underlying38 ti49 (by omega)) fun a hF => ?_
       refine ls hF rfl rfl rfl (r_loadagg hF rfl rfl Tryd.underlying49 ti49 rfl (fun j u hu => hH.cell (he0.cell (hset j u hu)))) fun a hF => ?_
       refine ls_storeagg 0 hF hH rfl rfl rfl rfl rfl ti49 rfl (rfl) (rfl) (by have := hdv.shape; obtain ⟨_, _, rfl⟩ := this; simp [setV, Value.oneCell']) ?_
       intro w hH
       refine ls hF rfl rfl rfl (r_assign hF rfl rfl) fun a hF => ?_
       refine wpList_nil ?_
       refine k11 ?_
       refine wp_ret ?_
       refine t9.ret (t8.ret (t5.ret (t4.ret (t2.ret (hret (retc2 (fn := Tryd.f42) (t := 8) (u := 9) (i := 0) hF hH Tryd.results42 rfl rfl (by kernel_rfl) ti49 rfl rfl ?_))))))
       exact ⟨dv, by rw [he]; rfl, hH.below, by rw [he]; exact hdv⟩
      ·
       try simp only [q1, q2, q3, q4, q5, q6, q7, q8, q9, qa, qb] at h41
       refine wp_skip ?_
       refine t9.norm ?_
       refine k8 ?_
       refine c_reg fun ops => ?_
       refine ls hF rfl rfl rfl (r_move hF rfl rfl) fun a hF => ?_
       refine ls hF rfl rfl rfl (r_bin hF rfl rfl rfl rfl (b_addn _ _ 1 (by omega))) fun a hF => ?_
       refine ls hF rfl rfl rfl (r_assign hF rfl rfl) fun a hF => ?_
       refine wpList_nil ?_
       refine k5 ?_
       have hi1 : isS nm kind cls l[i] = false := by simp_all [isS]
       rw [if_neg (by simp [hi1])] at he
       exact ⟨l.length - (i + 1), by omega, i + 1, rfl, by omega, he, hF.keep [0, 1, 2, 3, 8, 10] rfl, hH⟩
     ·
      have g4_16' := g4_16; try simp only [q1, q2, q3, q4, q5, q6, q7, q8, q9, qa, qb] at g4_16'
      refine lsn hF rfl rfl rfl g4_16 rfl rfl fun a hF => ?_
      refine lsn hF rfl rfl rfl g4_16 rfl rfl fun a hF => ?_
      refine lsn hF rfl rfl rfl g4_16 rfl rfl fun a hF => ?_
      refine lsn hF rfl rfl rfl g4_16 rfl rfl fun a hF => ?_
      refine lsn hF rfl rfl rfl g4_16 rfl rfl fun a hF => ?_
      refine lsn hF rfl rfl rfl g4_16 rfl rfl fun a hF => ?_
      refine lsn hF rfl rfl rfl g4_16 rfl rfl fun a hF => ?_
      refine ls hF rfl rfl rfl (r_pickf hF rfl rfl g4_16 rfl) fun a hF => ?_
      refine wpList_nil ?_
      refine k10 ?_
      refine c_no hF rfl rfl ?_
      refine wp_skip ?_
      refine t9.norm ?_
      refine k8 ?_
      refine c_reg fun ops => ?_
      refine ls hF rfl rfl rfl (r_move hF rfl rfl) fun a hF => ?_
      refine ls hF rfl rfl rfl (r_bin hF rfl rfl rfl rfl (b_addn _ _ 1 (by omega))) fun a hF => ?_
      refine ls hF rfl rfl rfl (r_assign hF rfl rfl) fun a hF => ?_
      refine wpList_nil ?_
      refine k5 ?_
      have hi1 : isS nm kind cls l[i] = false := by simp_all [isS]
      rw [if_neg (by simp [hi1])] at he
      exact ⟨l.length - (i + 1), by omega, i + 1, rfl, by omega, he, hF.keep [0, 1, 2, 3, 8, 10] rfl, hH⟩
    ·
     have g4_7' := g4_7; try simp only [q1, q2, q3, q4, q5, q6, q7, q8, q9, qa, qb] at g4_7'
     refine lsn hF rfl rfl rfl g4_7 rfl rfl fun a hF => ?_
     refine lsn hF rfl rfl rfl g4_7 rfl rfl fun a hF => ?_
     refine lsn hF rfl rfl rfl g4_7 rfl rfl fun a hF => ?_
     refine lsn hF rfl rfl rfl g4_7 rfl rfl fun a hF => ?_
     refine lsn hF rfl rfl rfl g4_7 rfl rfl fun a hF => ?_
     refine lsn hF rfl rfl rfl g4_7 rfl rfl fun a hF => ?_
     refine lsn hF rfl rfl rfl g4_7 rfl rfl fun a hF => ?_
     refine ls hF rfl rfl rfl (r_pickf hF rfl rfl g4_7 rfl) fun a hF => ?_
     refine ls hF rfl rfl rfl (r_move hF rfl rfl) fun a hF => ?_
     refine lsn hF rfl rfl rfl rfl rfl rfl fun a hF => ?_
     refine lsn hF rfl rfl rfl rfl rfl rfl fun a hF => ?_
     refine lsn hF rfl rfl rfl rfl rfl rfl fun a hF => ?_
     refine lsn hF rfl rfl rfl rfl rfl rfl fun a hF => ?_
     refine lsn hF rfl rfl rfl rfl rfl rfl fun a hF => ?_
     refine lsn hF rfl rfl rfl rfl rfl rfl fun a hF => ?_
     refine lsn hF rfl rfl rfl rfl rfl rfl fun a hF => ?_
     refine ls hF rfl rfl rfl (r_pickf hF rfl rfl rfl rfl) fun a hF => ?_
     refine wpList_nil ?_
     refine k10 ?_
     refine c_no hF rfl rfl ?_
     refine wp_skip ?_
     refine t9.norm ?_
     refine k8 ?_
     refine c_reg fun ops => ?_
     refine ls hF rfl rfl rfl (r_move hF rfl rfl) fun a hF => ?_
     refine ls hF rfl rfl rfl (r_bin hF rfl rfl rfl rfl (b_addn _ _ 1 (by omega))) fun a hF => ?_
     refine ls hF rfl rfl rfl (r_assign hF rfl rfl) fun a hF => ?_
     refine wpList_nil ?_
     refine k5 ?_
     have hi1 : isS nm kind cls l[i] = false := by simp_all [isS]
     rw [if_neg (by simp [hi1])] at he
     exact ⟨l.length - (i + 1), by omega, i + 1, rfl, by omega, he, hF.keep [0, 1, 2, 3, 8, 10] rfl, hH⟩
   ·
    try simp only [q1, q2, q3, q4, q5, q6, q7, q8, q9, qa, qb] at h14
    rw [List.drop_eq_nil_of_le (by omega)] at he
    refine wp_exit (t6.exit (t5.exit (t4.here (?_))))
    refine k2 ?_
    refine c_seq fun Q12 k12 t12 => ?_
    refine c_reg fun ops => ?_
    refine ls hF rfl rfl rfl (r_build hF rfl rfl (bd49 _)) fun a hF => ?_
    refine ls_storeagg 0 hF hH rfl rfl rfl rfl rfl ti49 rfl (rfl) (rfl) (by simp [Value.oneCell']) ?_
    intro w hH
    refine ls hF rfl rfl rfl (r_assign hF rfl rfl) fun a hF => ?_
    refine wpList_nil ?_
    replace hF := hF.sel [8, 9]
    simp only [sel, lk, Nat.reduceBEq, cond_true, cond_false] at hF
    refine k12 ?_
    refine wp_ret ?_
    refine hret (retc2 (fn := Tryd.f42) (t := 8) (u := 9) (i := 0) hF hH Tryd.results42 rfl rfl (by kernel_rfl) ti49 rfl rfl ?_)
    exact ⟨.slice none 0 0, by rw [he]; rfl, hH.below, by rw [he]; exact RSl.nil _ _⟩

theorem sameAll_spec (l m : List RSet) (v u : Value) (w0 : World) (ha : SetsR w0 v l) (hb : SetsR w0 u m) (hl : l.length < 1000000) (hm : m.length < 1000000) (hdl : ∀ s ∈ l, s.data.length < 1000000) (hdm : ∀ s ∈ m, s.data.length < 1000000) :
    Rets Tryd.prog 20 [v, u] w0 fun r w' => r = .bool (decide (l = m)) ∧ Ext w0 w' := by
  have hH := Hp.refl w0
  obtain ⟨ad, ca, rfl⟩ : ∃ ad cap, v = .slice ad l.length cap := by
    obtain ⟨_, _, h, _⟩ := ha; exact h.shape
  obtain ⟨bd, cb, rfl⟩ : ∃ ad cap, u = .slice ad m.length cap := by
    obtain ⟨_, _, h, _⟩ := hb; exact h.shape
  refine rets_start Tryd.func20 rfl Tryd.ntmps20 rfl fun a Q0 hF hret hend => ?_
  simp only [argsFrom, Nat.zero_add, Nat.reduceAdd] at hF
  refine c_seq fun Q1 k1 t1 => ?_
  refine c_reg fun ops => ?_
  refine ls hF rfl rfl rfl (r_assign hF rfl rfl) fun a hF => ?_
  refine wpList_nil ?_
  replace hF := hF.sel [0, 1]
  simp only [sel, lk, Nat.reduceBEq, cond_true, cond_false] at hF
  refine k1 ?_
  refine c_seq fun Q2 k2 t2 => ?_
  refine c_seq fun Q3 k3 t3 => ?_
  refine c_reg fun ops => ?_
  refine ls hF rfl rfl rfl (r_move hF rfl rfl) fun a hF => ?_
  refine ls hF rfl rfl rfl (r_len_sl hF rfl rfl Tryd.underlying38) fun a hF => ?_
  refine ls hF rfl rfl rfl (r_move hF rfl rfl) fun a hF => ?_
  refine ls hF rfl rfl rfl (r_len_sl hF rfl rfl Tryd.underlying38) fun a hF => ?_
  refine ls hF rfl rfl rfl (r_bin hF rfl rfl rfl rfl (b_nen _ _ _ _)) fun a hF => ?_
  refine wpList_nil ?_
  replace hF := hF.sel [0, 1, 10]
  simp only [sel, lk, Nat.reduceBEq, cond_true, cond_false] at hF
  refine k3 ?_
  refine c_if hF rfl (fun h10 => ?_) (fun h10 => ?_)
  ·
   try simp only [q1, q2, q3, q4, q5, q6, q7, q8, q9, qa, qb] at h10
   refine c_seq fun Q4 k4 t4 => ?_
   refine c_reg fun ops => ?_
   refine ls hF rfl rfl rfl (r_assign hF rfl rfl) fun a hF => ?_
   refine wpList_nil ?_
   replace hF := hF.sel [4]
   simp only [sel, lk, Nat.reduceBEq, cond_true, cond_false] at hF
   refine k4 ?_
   refine wp_ret ?_
   refine t2.ret (hret (ret1 (fn := Tryd.f20) (t := 4) hF Tryd.results20 rfl ?_))
   exact ⟨by rw [decide_eq_false (fun e => h10 (by rw [e]))], hH.below⟩
  ·
   try simp only [q1, q2, q3, q4, q5, q6, q7, q8, q9, qa, qb] at h10
   refine wp_skip ?_
   refine k2 ?_
   refine c_seq fun Q5 k5 t5 => ?_
   refine c_seq fun Q6 k6 t6 => ?_
   refine c_reg fun ops => ?_
   refine ls hF rfl rfl rfl (r_assign hF rfl rfl) fun a hF => ?_
   refine wpList_nil ?_
   replace hF := hF.sel [0, 1, 5]
   simp only [sel, lk, Nat.reduceBEq, cond_true, cond_false] at hF
   refine k6 ?_
   refine c_block fun Q7 t7 => ?_
   refine c_loop (fun n a w => ∃ i, n = l.length - i ∧ i ≤ l.length ∧ l.take i = m.take i ∧ Fr 27 [(0, .slice ad l.length ca), (1, .slice bd m.length cb), (5, .int .i64 i)] a ∧ Hp w0 w []) ?_ ?_
   ·
    exact ⟨_, 0, rfl, Nat.zero_le _, rfl, hF.keep [0, 1, 5] rfl, hH⟩
   ·
    intro n a w hI Q8 k8 t8
    obtain ⟨i, hn', hi, he, hF, hH⟩ := hI
    refine c_seq fun Q9 k9 t9 => ?_
    refine c_seq fun Q10 k10 t10 => ?_
    refine c_reg fun ops => ?_
    refine ls hF rfl rfl rfl (r_move hF rfl rfl) fun a hF => ?_
    refine ls hF rfl rfl rfl (r_move hF rfl rfl) fun a hF => ?_
    refine ls hF rfl rfl rfl (r_len_sl hF rfl rfl Tryd.underlying38) fun a hF => ?_
    refine ls hF rfl rfl rfl (r_bin hF rfl rfl rfl rfl (b_ltn _ _ _ _)) fun a hF => ?_
    refine wpList_nil ?_
    refine k10 ?_
    refine c_if hF rfl (fun h14 => ?_) (fun h14 => ?_)
    ·
     try simp only [q1, q2, q3, q4, q5, q6, q7, q8, q9, qa, qb] at h14
     obtain ⟨b, off, dv, rfl, hset, hdv⟩ := ha.at h14
     obtain ⟨b', off', dv', rfl, hset', hdv'⟩ := hb.at (i := i) (by omega)
     have hd1 := hdl _ (List.getElem_mem h14)
     have hd2 := hdm _ (List.getElem_mem (show i < m.length by omega))
     refine wp_skip ?_
     refine k9 ?_
     refine c_seq fun Q11 k11 t11 => ?_
     refine c_block fun Q12 t12 => ?_
     refine c_seq fun Q13 k13 t13 => ?_
     refine c_flow [0, 1, 2, 4, 5, 6] [3, 7, 8, 9] [] [] (by kernel_rfl) (by kernel_rfl) fun hB => ?_
     refine ps hF rfl rfl rfl rfl (fun w => r_move hF rfl rfl) fun a hF => ?_
     refine ps hF rfl rfl rfl rfl (fun w => r_move hF rfl rfl) fun a hF => ?_
     refine ps hF rfl rfl rfl rfl (fun w => r_indexaddr hF _ rfl rfl rfl Tryd.underlying38 ti49 (by omega)) fun a hF => ?_
     refine ps hF rfl rfl rfl rfl (fun w => r_move hF rfl rfl) fun a hF => ?_
     refine ps hF rfl rfl rfl rfl (fun w => r_move hF rfl rfl) fun a hF => ?_
     refine ps hF rfl rfl rfl rfl (fun w => r_indexaddr hF _ rfl rfl rfl Tryd.underlying38 ti49 (by omega)) fun a hF => ?_
     refine fl_start [20, 24, 25, 26] hB (by kernel_rfl) hF ?_
     simp only [wo, hasN, Nat.reduceBEq, cond_true, cond_false] at hF ⊢
     refine fs1 rfl (by
      intro a w Lr hE hC hl
      replace hH := hH.ext hE
      have hF := hC.fr
      exact ls hF rfl rfl rfl (r_loadagg hF rfl rfl Tryd.underlying49 ti49 rfl (fun j u hu => hH.cell (hset j u hu))) fun a' hF' => wpList_nil (fl_end hC hF' (Ext.refl _) rfl)) ?_
     refine fs1 rfl (by
      intro a w Lr hE hC hl
      replace hH := hH.ext hE
      have hF := hC.fr
      exact ls hF rfl rfl rfl (r_loadagg hF rfl rfl Tryd.underlying49 ti49 rfl (fun j u hu => hH.cell (hset' j u hu))) fun a' hF' => wpList_nil (fl_end hC hF' (Ext.refl _) rfl)) ?_
     refine fs1 rfl (by
      intro a w Lr hE hC hl
      replace hH := hH.ext hE
      obtain ⟨_, s20, rfl⟩ := hl 20 (by decide) _ rfl
      replace hC := hC.more s20
      obtain ⟨_, s24, rfl⟩ := hl 24 (by decide) _ rfl
      replace hC := hC.more s24
      have hF := hC.fr
      refine ls_call hF rfl rfl rfl rfl rfl fn47 (same8_spec l[i] (m[i]'(by omega)) dv dv' _ (hdv.ext hH.below) (hdv'.ext hH.below) hd1 hd2) ?_
      rintro _ w' ⟨rfl, hE'⟩ a' hF'
      exact wpList_nil (fl_end hC hF' hE' rfl)) ?_
     refine fs1 rfl (by
      intro a w Lr hE hC hl
      replace hH := hH.ext hE
      obtain ⟨_, s25, rfl⟩ := hl 25 (by decide) _ rfl
      replace hC := hC.more s25
      have hF := hC.fr
      exact ls hF rfl rfl rfl (r_not hF rfl rfl) fun a' hF' => wpList_nil (fl_end hC hF' (Ext.refl _) rfl)) ?_
     intro a w hE hF hall
     replace hH := hH.ext hE
     obtain ⟨_, s20, rfl⟩ := hall 20 _ rfl
     replace hF := hF.more s20
     obtain ⟨_, s24, rfl⟩ := hall 24 _ rfl
     replace hF := hF.more s24
     obtain ⟨_, s25, rfl⟩ := hall 25 _ rfl
     replace hF := hF.more s25
     obtain ⟨_, s26, rfl⟩ := hall 26 _ rfl
     replace hF := hF.more s26
     clear hall
     refine wpList_nil ?_
     refine k13 ?_
     refine c_if hF rfl (fun h26 => ?_) (fun h26 => ?_)
     ·
      try simp only [q1, q2, q3, q4, q5, q6, q7, q8, q9, qa, qb] at h26
      refine c_seq fun Q14 k14 t14 => ?_
      refine c_reg fun ops => ?_
      refine ls hF rfl rfl rfl (r_assign hF rfl rfl) fun a hF => ?_
      refine wpList_nil ?_
      refine k14 ?_
      refine wp_ret ?_
      refine t12.ret (t11.ret (t8.ret (t7.ret (t5.ret (hret (ret1 (fn := Tryd.f20) (t := 4) hF Tryd.results20 rfl ?_))))))
      exact ⟨by rw [decide_eq_false (fun e => by subst e; rw [sameS_self] at h26; cases h26)], hH.below⟩
     ·
      try simp only [q1, q2, q3, q4, q5, q6, q7, q8, q9, qa, qb] at h26
      refine wp_skip ?_
      refine t12.norm ?_
      refine k11 ?_
      refine c_reg fun ops => ?_
      refine ls hF rfl rfl rfl (r_move hF rfl rfl) fun a hF => ?_
      refine ls hF rfl rfl rfl (r_bin hF rfl rfl rfl rfl (b_addn _ _ 1 (by omega))) fun a hF => ?_
      refine ls hF rfl rfl rfl (r_assign hF rfl rfl) fun a hF => ?_
      refine wpList_nil ?_
      refine k8 ?_
      refine ⟨l.length - (i + 1), by omega, i + 1, rfl, by omega, ?_, hF.keep [0, 1, 5] rfl, hH⟩
      rw [List.take_succ_eq_append_getElem h14, List.take_succ_eq_append_getElem (by omega), he, sameS_eq h26]
    ·
     try simp only [q1, q2, q3, q4, q5, q6, q7, q8, q9, qa, qb] at h14
     refine wp_exit (t9.exit (t8.exit (t7.here (?_))))
     refine k5 ?_
     refine c_seq fun Q15 k15 t15 => ?_
     refine c_reg fun ops => ?_
     refine ls hF rfl rfl rfl (r_assign hF rfl rfl) fun a hF => ?_
     refine wpList_nil ?_
     replace hF := hF.sel [4]
     simp only [sel, lk, Nat.reduceBEq, cond_true, cond_false] at hF
     refine k15 ?_
     refine wp_ret ?_
     refine hret (ret1 (fn := Tryd.f20) (t := 4) hF Tryd.results20 rfl ?_)
     rw [List.take_of_length_le (by omega), List.take_of_length_le (by omega)] at he
     exact ⟨by rw [decide_eq_true he], hH.below⟩
end Go.Proofs.YtcelgjabccgnmaaDoor
