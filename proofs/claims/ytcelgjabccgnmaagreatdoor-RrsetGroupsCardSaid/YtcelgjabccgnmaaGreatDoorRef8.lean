/-
  The walks of package hustingsref08, but for Group. Nothing is claimed here.
  The walk of hustingsref08.put; parts of rows. Nothing is claimed here.
-/
import Derived.Test.YtcelgjabccgnmaaGreatDoorGroup
namespace Go.Proofs.YtcelgjabccgnmaaGreatDoor
open Go.RowKit
set_option linter.unusedVariables false
set_option linter.unusedSimpArgs false
set_option maxHeartbeats 1000000

theorem time8_spec (n : Nat) (w0 : World) : Rets Tryz.prog 70 [.int .u32 n] w0 fun v w' => v = .int .u32 (timeN n) ∧ Ext w0 w' := by
  have hH := Hp.refl w0
  refine rets_start Tryz.func70 rfl Tryz.ntmps70 rfl fun a Q0 hF hret hend => ?_
  simp only [argsFrom, Nat.zero_add, Nat.reduceAdd] at hF
  refine c_sr fun ops => ?_
  refine zm 1 hF rfl fun a hF => ?_
  refine c_n ?_
  replace hF := hF.sel [0]
  simp only [ss, Nat.reduceBEq] at hF
  refine c_seq fun Q1 k1 t1 => ?_
  refine c_sr fun ops => ?_
  refine zm 1 hF rfl fun a hF => ?_
  refine zb hF rfl rfl rfl (b_gtn _ _ _ 2147483647) fun a hF => ?_
  refine c_n ?_
  replace hF := hF.sel [0, 4]
  simp only [ss, Nat.reduceBEq] at hF
  refine c_if hF rfl (fun h4 => ?_) (fun h4 => ?_)
  ·
   try simp only [qq] at h4
   refine c_sr fun ops => ?_
   refine zm 1 hF rfl fun a hF => ?_
   refine c_n ?_
   replace hF := hF.sel [2]
   simp only [ss, Nat.reduceBEq] at hF
   refine wp_ret (t1.ret (hret (ret1 hF Tryz.results70 rfl ?_)))
   exact ⟨by rw [timeN, if_pos (by omega)]; rfl, hH.below⟩
  try simp only [qq] at h4
  refine wp_skip ?_
  refine k1 ?_
  refine c_sr fun ops => ?_
  refine zm 2 hF rfl fun a hF => ?_
  refine c_n ?_
  replace hF := hF.sel [2]
  simp only [ss, Nat.reduceBEq] at hF
  refine wp_ret (hret (ret1 hF Tryz.results70 rfl ?_))
  exact ⟨by rw [timeN, if_neg (by omega)], hH.below⟩

theorem scmp_before (x y : RSet) : scmp x y < 0 ↔ (ncmp x.name y.name ≠ 0 ∧ ncmp x.name y.name < 0) ∨ (ncmp x.name y.name = 0 ∧ (x.kind < y.kind ∨ x.kind = y.kind ∧ x.cls < y.cls)) := by
  rw [scmp_eq]
  by_cases h : ncmp x.name y.name = 0
  · rw [if_neg (fun e => e h), kc_neg]
    simp [h]
  · rw [if_pos h]; simp [h]
theorem before8_spec (x y : RSet) (da db : Value) (h1 : x.name.length < 1000000) (h2 : y.name.length < 1000000) (w0 : World) : Rets Tryz.prog 72 [.agg (setV x da).toArray, .agg (setV y db).toArray] w0 fun v w' => v = .bool (decide (scmp x y < 0)) ∧ Ext w0 w' := by
  have hH := Hp.refl w0
  have hb := scmp_before x y
  refine rets_start Tryz.func72 rfl Tryz.ntmps72 rfl fun a Q0 hF hret hend => ?_
  simp only [argsFrom, Nat.zero_add, Nat.reduceAdd] at hF
  refine c_sr fun ops => ?_
  refine ls_box hF hH rfl rfl rfl rfl rfl ?_
  intro a w g0_0 hH hE hF
  refine ls_box hF hH rfl rfl rfl rfl rfl ?_
  intro a w g0_1 hH hE hF
  refine zm 1 hF rfl fun a hF => ?_
  refine c_n ?_
  replace hF := hF.sel [2, 3]
  simp only [ss, Nat.reduceBEq] at hF
  refine c_sr fun ops => ?_
  refine zl hF rfl (r_fieldaddr0 hF rfl rfl fd27_0) fun a hF => ?_
  refine zl hF rfl (r_load hF rfl rfl fl9 (own_cell (i := 1) hH rfl rfl)) fun a hF => ?_
  refine zl hF rfl (r_fieldaddr0 hF rfl rfl fd27_0) fun a hF => ?_
  refine zl hF rfl (r_load hF rfl rfl fl9 (own_cell (i := 0) hH rfl rfl)) fun a hF => ?_
  refine zc hF rfl rfl fn112 (refCompare_spec _ _ h1 h2 _) ?_
  rintro _ w ⟨rfl, hE⟩ a hF
  replace hH := hH.ext hE
  refine zm 1 hF rfl fun a hF => ?_
  refine c_n ?_
  replace hF := hF.sel [2, 3, 5]
  simp only [ss, Nat.reduceBEq] at hF
  refine c_seq fun Q1 k1 t1 => ?_
  refine c_sr fun ops => ?_
  refine zm 1 hF rfl fun a hF => ?_
  refine zb hF rfl rfl rfl (b_ne _ _ _ _) fun a hF => ?_
  refine c_n ?_
  replace hF := hF.sel [2, 3, 5, 12]
  simp only [ss, Nat.reduceBEq] at hF
  refine c_if hF rfl (fun h12 => ?_) (fun h12 => ?_)
  ·
   try simp only [qq] at h12
   refine c_sr fun ops => ?_
   refine zm 1 hF rfl fun a hF => ?_
   refine zb hF rfl rfl rfl (b_lt _ _ _ _) fun a hF => ?_
   refine zm 1 hF rfl fun a hF => ?_
   refine c_n ?_
   replace hF := hF.sel [4]
   simp only [ss, Nat.reduceBEq] at hF
   refine wp_ret (t1.ret (hret (ret1 hF Tryz.results72 rfl ?_)))
   exact ⟨by congr 1; rw [decide_eq_decide, hb]; omega, hH.below⟩
  try simp only [qq] at h12
  refine wp_skip ?_
  refine k1 ?_
  refine c_seq fun Q2 k2 t2 => ?_
  refine c_sr fun ops => ?_
  refine zl hF rfl (r_fieldaddr0 hF rfl rfl fd27_1) fun a hF => ?_
  refine zl hF rfl (r_load hF rfl rfl fl23 (own_cell (i := 1) hH rfl rfl)) fun a hF => ?_
  refine zl hF rfl (r_fieldaddr0 hF rfl rfl fd27_1) fun a hF => ?_
  refine zl hF rfl (r_load hF rfl rfl fl23 (own_cell (i := 0) hH rfl rfl)) fun a hF => ?_
  refine zb hF rfl rfl rfl (b_nen _ _ _ _) fun a hF => ?_
  refine c_n ?_
  replace hF := hF.sel [2, 3, 19]
  simp only [ss, Nat.reduceBEq] at hF
  refine c_if hF rfl (fun h19 => ?_) (fun h19 => ?_)
  ·
   try simp only [qq] at h19
   refine c_sr fun ops => ?_
   refine zl hF rfl (r_fieldaddr0 hF rfl rfl fd27_1) fun a hF => ?_
   refine zl hF rfl (r_load hF rfl rfl fl23 (own_cell (i := 1) hH rfl rfl)) fun a hF => ?_
   refine zl hF rfl (r_fieldaddr0 hF rfl rfl fd27_1) fun a hF => ?_
   refine zl hF rfl (r_load hF rfl rfl fl23 (own_cell (i := 0) hH rfl rfl)) fun a hF => ?_
   refine zb hF rfl rfl rfl (b_ltn _ _ _ _) fun a hF => ?_
   refine zm 1 hF rfl fun a hF => ?_
   refine c_n ?_
   replace hF := hF.sel [4]
   simp only [ss, Nat.reduceBEq] at hF
   refine wp_ret (t2.ret (hret (ret1 hF Tryz.results72 rfl ?_)))
   exact ⟨by congr 1; rw [decide_eq_decide, hb]; omega, hH.below⟩
  try simp only [qq] at h19
  refine wp_skip ?_
  refine k2 ?_
  refine c_sr fun ops => ?_
  refine zl hF rfl (r_fieldaddr0 hF rfl rfl fd27_2) fun a hF => ?_
  refine zl hF rfl (r_load hF rfl rfl fl23 (own_cell (i := 1) hH rfl rfl)) fun a hF => ?_
  refine zl hF rfl (r_fieldaddr0 hF rfl rfl fd27_2) fun a hF => ?_
  refine zl hF rfl (r_load hF rfl rfl fl23 (own_cell (i := 0) hH rfl rfl)) fun a hF => ?_
  refine zb hF rfl rfl rfl (b_ltn _ _ _ _) fun a hF => ?_
  refine zm 1 hF rfl fun a hF => ?_
  refine c_n ?_
  replace hF := hF.sel [4]
  simp only [ss, Nat.reduceBEq] at hF
  refine wp_ret (hret (ret1 hF Tryz.results72 rfl ?_))
  exact ⟨by congr 1; rw [decide_eq_decide, hb]; omega, hH.below⟩

theorem take_more {xs ys : List Bs} {i : Nat} (h : xs.take i = ys.take i) (h1 : i < xs.length) (h2 : i < ys.length) (he : xs.getD i [] = ys.getD i []) : xs.take (i + 1) = ys.take (i + 1) := by
  have e1 : xs.getD i [] = xs[i] := by simp [List.getD_eq_getElem?_getD, h1]
  have e2 : ys.getD i [] = ys[i] := by simp [List.getD_eq_getElem?_getD, h2]
  rw [List.take_succ_eq_append_getElem h1, List.take_succ_eq_append_getElem h2, h, ← e1, ← e2, he]
theorem same8_spec (x y : RSet) (da db : Value) (w0 : World) (ha : RSl w0 1 da x.data.length (strV x.data)) (hb : RSl w0 1 db y.data.length (strV y.data)) (hx : x.data.length < 1000000) (hy : y.data.length < 1000000) :
    Rets Tryz.prog 20 [.agg (setV x da).toArray, .agg (setV y db).toArray] w0 fun v w' => v = .bool (sameS x y) ∧ Ext w0 w' := by
  have hH := Hp.refl w0
  obtain ⟨ad, ca, rfl⟩ := ha.shape
  obtain ⟨bd, cb, rfl⟩ := hb.shape
  refine rets_start Tryz.func20 rfl Tryz.ntmps20 rfl fun a Q0 hF hret hend => ?_
  simp only [argsFrom, Nat.zero_add, Nat.reduceAdd] at hF
  refine c_sr fun ops => ?_
  refine ls_box hF hH rfl rfl rfl rfl rfl ?_
  intro a w g0_0 hH hE hF
  refine ls_box hF hH rfl rfl rfl rfl rfl ?_
  intro a w g0_1 hH hE hF
  refine zm 1 hF rfl fun a hF => ?_
  refine c_n ?_
  replace hF := hF.sel [2, 3]
  simp only [ss, Nat.reduceBEq] at hF
  refine c_seq fun Q1 k1 t1 => ?_
  refine c_sg ?_
  refine zl hF rfl (r_fieldaddr0 hF rfl rfl fd27_0) fun a hF => ?_
  refine zl hF rfl (r_load hF rfl rfl fl9 (own_cell (i := 1) hH rfl rfl)) fun a hF => ?_
  refine zl hF rfl (r_fieldaddr0 hF rfl rfl fd27_0) fun a hF => ?_
  refine zl hF rfl (r_load hF rfl rfl fl9 (own_cell (i := 0) hH rfl rfl)) fun a hF => ?_
  refine zb hF rfl rfl rfl (b_sne _ _ _) fun a hF => ?_
  refine zm 1 hF rfl fun a hF => ?_
  refine ls_ask (d := 11) hF rfl (fun g1_5 => ?_) (fun g1_5 => ?_)
  ·
   have g1_5' := g1_5; try simp only [qq] at g1_5'
   refine zn hF rfl g1_5 fun a hF => ?_
   refine zn hF rfl g1_5 fun a hF => ?_
   refine zn hF rfl g1_5 fun a hF => ?_
   refine zn hF rfl g1_5 fun a hF => ?_
   refine zn hF rfl g1_5 fun a hF => ?_
   refine zl hF rfl (r_pickt hF rfl rfl g1_5 rfl) fun a hF => ?_
   refine zm 1 hF rfl fun a hF => ?_
   refine zn hF rfl rfl fun a hF => ?_
   refine zn hF rfl rfl fun a hF => ?_
   refine zn hF rfl rfl fun a hF => ?_
   refine zn hF rfl rfl fun a hF => ?_
   refine zn hF rfl rfl fun a hF => ?_
   refine zl hF rfl (r_pickt hF rfl rfl rfl rfl) fun a hF => ?_
   refine zm 1 hF rfl fun a hF => ?_
   refine zn hF rfl rfl fun a hF => ?_
   refine zn hF rfl rfl fun a hF => ?_
   refine zn hF rfl rfl fun a hF => ?_
   refine zn hF rfl rfl fun a hF => ?_
   refine zn hF rfl rfl fun a hF => ?_
   refine zl hF rfl (r_pickt hF rfl rfl rfl rfl) fun a hF => ?_
   refine zm 1 hF rfl fun a hF => ?_
   refine zn hF rfl rfl fun a hF => ?_
   refine zn hF rfl rfl fun a hF => ?_
   refine zn hF rfl rfl fun a hF => ?_
   refine zn hF rfl rfl fun a hF => ?_
   refine zn hF rfl rfl fun a hF => ?_
   refine zn hF rfl rfl fun a hF => ?_
   refine zn hF rfl rfl fun a hF => ?_
   refine zl hF rfl (r_pickt hF rfl rfl rfl rfl) fun a hF => ?_
   refine c_n ?_
   replace hF := hF.sel [2, 3, 40]
   simp only [ss, Nat.reduceBEq] at hF
   refine c_yes hF rfl rfl ?_
   refine c_sr fun ops => ?_
   refine zm 1 hF rfl fun a hF => ?_
   refine c_n ?_
   replace hF := hF.sel [4]
   simp only [ss, Nat.reduceBEq] at hF
   refine wp_ret (t1.ret (hret (ret1 hF Tryz.results20 rfl ?_)))
   exact ⟨by first | (rw [hne]; done) | (congr 1; symm; unfold sameS; simp_all), hH.below⟩
  have g1_5' := g1_5; try simp only [qq] at g1_5'
  refine zy hF rfl g1_5 (r_fieldaddr0 hF rfl rfl fd27_1) fun a hF => ?_
  refine zy hF rfl g1_5 (r_load hF rfl rfl fl23 (own_cell (i := 1) hH rfl rfl)) fun a hF => ?_
  refine zy hF rfl g1_5 (r_fieldaddr0 hF rfl rfl fd27_1) fun a hF => ?_
  refine zy hF rfl g1_5 (r_load hF rfl rfl fl23 (own_cell (i := 0) hH rfl rfl)) fun a hF => ?_
  refine zy hF rfl g1_5 (zr hF rfl rfl (b_nen _ _ _ _)) fun a hF => ?_
  refine zl hF rfl (r_pickf hF rfl rfl g1_5 rfl) fun a hF => ?_
  refine zm 1 hF rfl fun a hF => ?_
  refine ls_ask (d := 18) hF rfl (fun g1_12 => ?_) (fun g1_12 => ?_)
  ·
   have g1_12' := g1_12; try simp only [qq] at g1_12'
   refine zn hF rfl g1_12 fun a hF => ?_
   refine zn hF rfl g1_12 fun a hF => ?_
   refine zn hF rfl g1_12 fun a hF => ?_
   refine zn hF rfl g1_12 fun a hF => ?_
   refine zn hF rfl g1_12 fun a hF => ?_
   refine zl hF rfl (r_pickt hF rfl rfl g1_12 rfl) fun a hF => ?_
   refine zm 1 hF rfl fun a hF => ?_
   refine zn hF rfl rfl fun a hF => ?_
   refine zn hF rfl rfl fun a hF => ?_
   refine zn hF rfl rfl fun a hF => ?_
   refine zn hF rfl rfl fun a hF => ?_
   refine zn hF rfl rfl fun a hF => ?_
   refine zl hF rfl (r_pickt hF rfl rfl rfl rfl) fun a hF => ?_
   refine zm 1 hF rfl fun a hF => ?_
   refine zn hF rfl rfl fun a hF => ?_
   refine zn hF rfl rfl fun a hF => ?_
   refine zn hF rfl rfl fun a hF => ?_
   refine zn hF rfl rfl fun a hF => ?_
   refine zn hF rfl rfl fun a hF => ?_
   refine zn hF rfl rfl fun a hF => ?_
   refine zn hF rfl rfl fun a hF => ?_
   refine zl hF rfl (r_pickt hF rfl rfl rfl rfl) fun a hF => ?_
   refine c_n ?_
   replace hF := hF.sel [2, 3, 40]
   simp only [ss, Nat.reduceBEq] at hF
   refine c_yes hF rfl rfl ?_
   refine c_sr fun ops => ?_
   refine zm 1 hF rfl fun a hF => ?_
   refine c_n ?_
   replace hF := hF.sel [4]
   simp only [ss, Nat.reduceBEq] at hF
   refine wp_ret (t1.ret (hret (ret1 hF Tryz.results20 rfl ?_)))
   exact ⟨by first | (rw [hne]; done) | (congr 1; symm; unfold sameS; simp_all), hH.below⟩
  have g1_12' := g1_12; try simp only [qq] at g1_12'
  refine zy hF rfl g1_12 (r_fieldaddr0 hF rfl rfl fd27_2) fun a hF => ?_
  refine zy hF rfl g1_12 (r_load hF rfl rfl fl23 (own_cell (i := 1) hH rfl rfl)) fun a hF => ?_
  refine zy hF rfl g1_12 (r_fieldaddr0 hF rfl rfl fd27_2) fun a hF => ?_
  refine zy hF rfl g1_12 (r_load hF rfl rfl fl23 (own_cell (i := 0) hH rfl rfl)) fun a hF => ?_
  refine zy hF rfl g1_12 (zr hF rfl rfl (b_nen _ _ _ _)) fun a hF => ?_
  refine zl hF rfl (r_pickf hF rfl rfl g1_12 rfl) fun a hF => ?_
  refine zm 1 hF rfl fun a hF => ?_
  refine ls_ask (d := 25) hF rfl (fun g1_19 => ?_) (fun g1_19 => ?_)
  ·
   have g1_19' := g1_19; try simp only [qq] at g1_19'
   refine zn hF rfl g1_19 fun a hF => ?_
   refine zn hF rfl g1_19 fun a hF => ?_
   refine zn hF rfl g1_19 fun a hF => ?_
   refine zn hF rfl g1_19 fun a hF => ?_
   refine zn hF rfl g1_19 fun a hF => ?_
   refine zl hF rfl (r_pickt hF rfl rfl g1_19 rfl) fun a hF => ?_
   refine zm 1 hF rfl fun a hF => ?_
   refine zn hF rfl rfl fun a hF => ?_
   refine zn hF rfl rfl fun a hF => ?_
   refine zn hF rfl rfl fun a hF => ?_
   refine zn hF rfl rfl fun a hF => ?_
   refine zn hF rfl rfl fun a hF => ?_
   refine zn hF rfl rfl fun a hF => ?_
   refine zn hF rfl rfl fun a hF => ?_
   refine zl hF rfl (r_pickt hF rfl rfl rfl rfl) fun a hF => ?_
   refine c_n ?_
   replace hF := hF.sel [2, 3, 40]
   simp only [ss, Nat.reduceBEq] at hF
   refine c_yes hF rfl rfl ?_
   refine c_sr fun ops => ?_
   refine zm 1 hF rfl fun a hF => ?_
   refine c_n ?_
   replace hF := hF.sel [4]
   simp only [ss, Nat.reduceBEq] at hF
   refine wp_ret (t1.ret (hret (ret1 hF Tryz.results20 rfl ?_)))
   exact ⟨by first | (rw [hne]; done) | (congr 1; symm; unfold sameS; simp_all), hH.below⟩
  have g1_19' := g1_19; try simp only [qq] at g1_19'
  refine zy hF rfl g1_19 (r_fieldaddr0 hF rfl rfl fd27_3) fun a hF => ?_
  refine zy hF rfl g1_19 (r_load hF rfl rfl fl24 (own_cell (i := 1) hH rfl rfl)) fun a hF => ?_
  refine zy hF rfl g1_19 (r_fieldaddr0 hF rfl rfl fd27_3) fun a hF => ?_
  refine zy hF rfl g1_19 (r_load hF rfl rfl fl24 (own_cell (i := 0) hH rfl rfl)) fun a hF => ?_
  refine zy hF rfl g1_19 (zr hF rfl rfl (b_nen _ _ _ _)) fun a hF => ?_
  refine zl hF rfl (r_pickf hF rfl rfl g1_19 rfl) fun a hF => ?_
  refine zm 1 hF rfl fun a hF => ?_
  refine ls_ask (d := 32) hF rfl (fun g1_26 => ?_) (fun g1_26 => ?_)
  ·
   have g1_26' := g1_26; try simp only [qq] at g1_26'
   refine zn hF rfl g1_26 fun a hF => ?_
   refine zn hF rfl g1_26 fun a hF => ?_
   refine zn hF rfl g1_26 fun a hF => ?_
   refine zn hF rfl g1_26 fun a hF => ?_
   refine zn hF rfl g1_26 fun a hF => ?_
   refine zn hF rfl g1_26 fun a hF => ?_
   refine zn hF rfl g1_26 fun a hF => ?_
   refine zl hF rfl (r_pickt hF rfl rfl g1_26 rfl) fun a hF => ?_
   refine c_n ?_
   replace hF := hF.sel [2, 3, 40]
   simp only [ss, Nat.reduceBEq] at hF
   refine c_yes hF rfl rfl ?_
   refine c_sr fun ops => ?_
   refine zm 1 hF rfl fun a hF => ?_
   refine c_n ?_
   replace hF := hF.sel [4]
   simp only [ss, Nat.reduceBEq] at hF
   refine wp_ret (t1.ret (hret (ret1 hF Tryz.results20 rfl ?_)))
   exact ⟨by first | (rw [hne]; done) | (congr 1; symm; unfold sameS; simp_all), hH.below⟩
  have g1_26' := g1_26; try simp only [qq] at g1_26'
  refine zy hF rfl g1_26 (r_fieldaddr0 hF rfl rfl fd27_4) fun a hF => ?_
  refine zy hF rfl g1_26 (r_load hF rfl rfl fl25 (own_cell (i := 1) hH rfl rfl)) fun a hF => ?_
  refine zy hF rfl g1_26 (r_len_sl hF rfl rfl Tryz.underlying25) fun a hF => ?_
  refine zy hF rfl g1_26 (r_fieldaddr0 hF rfl rfl fd27_4) fun a hF => ?_
  refine zy hF rfl g1_26 (r_load hF rfl rfl fl25 (own_cell (i := 0) hH rfl rfl)) fun a hF => ?_
  refine zy hF rfl g1_26 (r_len_sl hF rfl rfl Tryz.underlying25) fun a hF => ?_
  refine zy hF rfl g1_26 (zr hF rfl rfl (b_nen _ _ _ _)) fun a hF => ?_
  refine zl hF rfl (r_pickf hF rfl rfl g1_26 rfl) fun a hF => ?_
  refine c_n ?_
  replace hF := hF.sel [2, 3, 40]
  simp only [ss, Nat.reduceBEq] at hF
  refine c_if hF rfl (fun h40 => ?_) (fun h40 => ?_)
  ·
   try simp only [qq] at h40
   have hne : sameS x y = false := by
     cases hs : sameS x y with
     | false => rfl
     | true => simp only [sameS, Bool.and_eq_true, decide_eq_true_eq] at hs; exact absurd (congrArg List.length hs.2) h40
   refine c_sr fun ops => ?_
   refine zm 1 hF rfl fun a hF => ?_
   refine c_n ?_
   replace hF := hF.sel [4]
   simp only [ss, Nat.reduceBEq] at hF
   refine wp_ret (t1.ret (hret (ret1 hF Tryz.results20 rfl ?_)))
   exact ⟨by first | (rw [hne]; done) | (congr 1; symm; unfold sameS; simp_all), hH.below⟩
  try simp only [qq] at h40
  skip
  refine wp_skip ?_
  refine k1 ?_
  refine c_seq fun Q2 k2 t2 => ?_
  refine c_sr fun ops => ?_
  refine zm 1 hF rfl fun a hF => ?_
  refine c_n ?_
  replace hF := hF.sel [2, 3, 5]
  simp only [ss, Nat.reduceBEq] at hF
  refine c_block fun Q3 t3 => ?_
  refine c_loop (fun n a w => ∃ i, n = x.data.length - i ∧ i ≤ x.data.length ∧ x.data.take i = y.data.take i ∧ Fr 59 [(2, ptr g0_0), (3, ptr g0_1), (5, .int .i64 i)] a ∧ Hp w0 w [(g0_1, .cells (setV y (.slice bd y.data.length cb)).toArray 27 (0, 0)), (g0_0, .cells (setV x (.slice ad x.data.length ca)).toArray 27 (0, 0))]) ?_ ?_
  ·
   exact ⟨_, 0, rfl, Nat.zero_le _, rfl, hF.keep [2, 3, 5] rfl, hH⟩
  clear hH hF
  intro n a w hI Q4 k4 t4
  obtain ⟨i, hm, hi, he, hF, hH⟩ := hI
  refine c_seq fun Q5 k5 t5 => ?_
  refine c_sr fun ops => ?_
  refine zm 1 hF rfl fun a hF => ?_
  refine zl hF rfl (r_fieldaddr0 hF rfl rfl fd27_4) fun a hF => ?_
  refine zl hF rfl (r_load hF rfl rfl fl25 (own_cell (i := 1) hH rfl rfl)) fun a hF => ?_
  refine zl hF rfl (r_len_sl hF rfl rfl Tryz.underlying25) fun a hF => ?_
  refine zb hF rfl rfl rfl (b_ltn _ _ _ _) fun a hF => ?_
  refine c_n ?_
  refine c_fi hF rfl (fun h45 => ?_) (fun h45 => ?_)
  ·
   try simp only [qq] at h45
   refine wp_exit (t5.exit (t4.exit (t3.here (?_))))
   refine k2 ?_
   refine c_sr fun ops => ?_
   refine zm 1 hF rfl fun a hF => ?_
   refine c_n ?_
   replace hF := hF.sel [4]
   simp only [ss, Nat.reduceBEq] at hF
   refine wp_ret (hret (ret1 hF Tryz.results20 rfl ?_))
   rw [List.take_of_length_le (by omega), List.take_of_length_le (by omega)] at he
   exact ⟨by congr 1; symm; unfold sameS; simp_all, hH.below⟩
  try simp only [qq] at h45
  obtain ⟨b, off, had, hc⟩ := ha.at h45
  obtain ⟨b', off', hbd, hc'⟩ := hb.at (i := i) (by omega)
  rw [had, hbd] at hH
  refine wp_skip ?_
  refine k5 ?_
  refine c_seq fun Q6 k6 t6 => ?_
  refine c_block fun Q7 t7 => ?_
  refine c_seq fun Q8 k8 t8 => ?_
  refine c_flow [0, 2, 5, 7] [1, 3, 4, 6, 8, 9, 10] [] [] (by kernel_rfl) (by kernel_rfl) fun hB => ?_
  refine ps hF rfl rfl rfl rfl (fun w => r_fieldaddr0 hF rfl rfl fd27_4) fun a hF => ?_
  refine ps hF rfl rfl rfl rfl (fun w => r_move hF rfl rfl) fun a hF => ?_
  refine ps hF rfl rfl rfl rfl (fun w => r_fieldaddr0 hF rfl rfl fd27_4) fun a hF => ?_
  refine ps hF rfl rfl rfl rfl (fun w => r_move hF rfl rfl) fun a hF => ?_
  refine fl_start [49, 51, 52, 54, 56, 57, 58] hB (by kernel_rfl) hF ?_
  simp only [wo, hasN, Nat.reduceBEq, cond_true, cond_false] at hF ⊢
  refine fs1 rfl (by
   intro a w Lr hE hC hl
   replace hH := hH.ext hE
   have hF := hC.fr
   exact zl hF rfl (r_load hF rfl rfl fl25 (own_cell (i := 1) hH rfl rfl)) fun a' hF' => wpList_nil (fl_end hC hF' (Ext.refl _) rfl)) ?_
  refine fs1 rfl (by
   intro a w Lr hE hC hl
   replace hH := hH.ext hE
   obtain ⟨_, s49, rfl⟩ := hl 49 (by decide) _ rfl
   replace hC := hC.more s49
   have hF := hC.fr
   exact zl hF rfl (r_ix1 hF _ rfl rfl rfl Tryz.underlying25 ti9 (by omega)) fun a' hF' => wpList_nil (fl_end hC hF' (Ext.refl _) rfl)) ?_
  refine fs1 rfl (by
   intro a w Lr hE hC hl
   replace hH := hH.ext hE
   obtain ⟨_, s51, rfl⟩ := hl 51 (by decide) _ rfl
   replace hC := hC.more s51
   have hF := hC.fr
   exact zl hF rfl (r_load hF rfl rfl fl9 (hH.cell hc)) fun a' hF' => wpList_nil (fl_end hC hF' (Ext.refl _) rfl)) ?_
  refine fs1 rfl (by
   intro a w Lr hE hC hl
   replace hH := hH.ext hE
   have hF := hC.fr
   exact zl hF rfl (r_load hF rfl rfl fl25 (own_cell (i := 0) hH rfl rfl)) fun a' hF' => wpList_nil (fl_end hC hF' (Ext.refl _) rfl)) ?_
  refine fs1 rfl (by
   intro a w Lr hE hC hl
   replace hH := hH.ext hE
   obtain ⟨_, s54, rfl⟩ := hl 54 (by decide) _ rfl
   replace hC := hC.more s54
   have hF := hC.fr
   exact zl hF rfl (r_ix1 hF _ rfl rfl rfl Tryz.underlying25 ti9 (by omega)) fun a' hF' => wpList_nil (fl_end hC hF' (Ext.refl _) rfl)) ?_
  refine fs1 rfl (by
   intro a w Lr hE hC hl
   replace hH := hH.ext hE
   obtain ⟨_, s56, rfl⟩ := hl 56 (by decide) _ rfl
   replace hC := hC.more s56
   have hF := hC.fr
   exact zl hF rfl (r_load hF rfl rfl fl9 (hH.cell hc')) fun a' hF' => wpList_nil (fl_end hC hF' (Ext.refl _) rfl)) ?_
  refine fs1 rfl (by
   intro a w Lr hE hC hl
   replace hH := hH.ext hE
   obtain ⟨_, s52, rfl⟩ := hl 52 (by decide) _ rfl
   replace hC := hC.more s52
   obtain ⟨_, s57, rfl⟩ := hl 57 (by decide) _ rfl
   replace hC := hC.more s57
   have hF := hC.fr
   exact zl hF rfl (zr hF rfl rfl (b_sne _ _ _)) fun a' hF' => wpList_nil (fl_end hC hF' (Ext.refl _) rfl)) ?_
  intro a w hE hF hall
  replace hH := hH.ext hE
  obtain ⟨_, s49, rfl⟩ := hall 49 _ rfl
  replace hF := hF.more s49
  obtain ⟨_, s51, rfl⟩ := hall 51 _ rfl
  replace hF := hF.more s51
  obtain ⟨_, s52, rfl⟩ := hall 52 _ rfl
  replace hF := hF.more s52
  obtain ⟨_, s54, rfl⟩ := hall 54 _ rfl
  replace hF := hF.more s54
  obtain ⟨_, s56, rfl⟩ := hall 56 _ rfl
  replace hF := hF.more s56
  obtain ⟨_, s57, rfl⟩ := hall 57 _ rfl
  replace hF := hF.more s57
  obtain ⟨_, s58, rfl⟩ := hall 58 _ rfl
  replace hF := hF.more s58
  clear hall
  refine wpList_nil ?_
  refine k8 ?_
  refine c_if hF rfl (fun h58 => ?_) (fun h58 => ?_)
  ·
   try simp only [qq] at h58
   refine c_sr fun ops => ?_
   refine zm 1 hF rfl fun a hF => ?_
   refine c_n ?_
   refine wp_ret (t7.ret (t6.ret (t4.ret (t3.ret (t2.ret (hret (ret1 hF Tryz.results20 rfl ?_)))))))
   exact ⟨by congr 1; symm; unfold sameS; rw [decide_eq_false (show ¬ x.data = y.data from fun e => h58 (by rw [e]))]; simp, hH.below⟩
  try simp only [qq] at h58
  refine wp_skip ?_
  refine t7.norm ?_
  refine k6 ?_
  refine c_reg fun ops => ?_
  refine zm 1 hF rfl fun a hF => ?_
  refine zb hF rfl rfl rfl (b_addn _ _ 1 (by omega)) fun a hF => ?_
  refine zm 1 hF rfl fun a hF => ?_
  refine wpList_nil ?_
  refine k4 ?_
  rw [← had, ← hbd] at hH
  exact ⟨x.data.length - (i + 1), by omega, i + 1, rfl, by omega, take_more he h45 (by omega) h58, hF.keep [2, 3, 5] rfl, hH⟩

theorem find8_spec (l : List RSet) (v : Value) (nm : Bs) (kind cls : Nat) {w00 : World} (w0 : World) (hR : SetsR w00 v l) (he0 : Ext w00 w0) (hl : l.length < 1000000) (hn : nm.length < 1000000) (hnm : ∀ s ∈ l, s.name.length < 1000000) :
    Rets Tryz.prog 19 [v, .string (mk nm), .int .u16 kind, .int .u16 cls] w0
      fun r w' => ∃ dv, r = .tuple #[.agg (setV ((findS l nm kind cls).getD noSet) dv).toArray, .bool (findS l nm kind cls).isSome] ∧ Ext w0 w' ∧ RSl w00 1 dv ((findS l nm kind cls).getD noSet).data.length (strV ((findS l nm kind cls).getD noSet).data) := by
  have hH := Hp.refl w0
  obtain ⟨ad, cap, rfl⟩ : ∃ ad cap, v = .slice ad l.length cap := by
    obtain ⟨_, _, h, _⟩ := hR; exact h.shape
  refine rets_start Tryz.func19 rfl Tryz.ntmps19 rfl fun a Q0 hF hret hend => ?_
  simp only [argsFrom, Nat.zero_add, Nat.reduceAdd] at hF
  refine c_sr fun ops => ?_
  refine ls_alloc hF hH rfl rfl rfl rfl zv27 ?_
  intro a w g0_0 hH hE hF
  refine zm 1 hF rfl fun a hF => ?_
  refine c_n ?_
  replace hF := hF.sel [0, 1, 2, 3, 8]
  simp only [ss, Nat.reduceBEq] at hF
  refine c_seq fun Q1 k1 t1 => ?_
  refine c_sr fun ops => ?_
  refine zm 1 hF rfl fun a hF => ?_
  refine c_n ?_
  replace hF := hF.sel [0, 1, 2, 3, 8, 10]
  simp only [ss, Nat.reduceBEq] at hF
  refine c_block fun Q2 t2 => ?_
  refine c_loop (fun n a w => ∃ i, n = l.length - i ∧ i ≤ l.length ∧ findS l nm kind cls = findS (l.drop i) nm kind cls ∧ Fr 47 [(0, .slice ad l.length cap), (1, .string (mk nm)), (2, .int .u16 kind), (3, .int .u16 cls), (8, ptr g0_0), (10, .int .i64 i)] a ∧ Hp w0 w [(g0_0, .cells #[.string (mk []), .int .u16 0, .int .u16 0, .int .u32 0, .slice none 0 0] 27 (0, 0))]) ?_ ?_
  ·
   exact ⟨_, 0, rfl, Nat.zero_le _, rfl, hF.keep [0, 1, 2, 3, 8, 10] rfl, hH⟩
  clear hH hF
  intro n a w hI Q3 k3 t3
  obtain ⟨i, hm, hi, he, hF, hH⟩ := hI
  refine c_seq fun Q4 k4 t4 => ?_
  refine c_sr fun ops => ?_
  refine zm 2 hF rfl fun a hF => ?_
  refine zl hF rfl (r_len_sl hF rfl rfl Tryz.underlying22) fun a hF => ?_
  refine zb hF rfl rfl rfl (b_ltn _ _ _ _) fun a hF => ?_
  refine c_n ?_
  refine c_fi hF rfl (fun h14 => ?_) (fun h14 => ?_)
  ·
   try simp only [qq] at h14
   rw [List.drop_eq_nil_of_le (by omega)] at he
   refine wp_exit (t4.exit (t3.exit (t2.here (?_))))
   refine k1 ?_
   refine c_sr fun ops => ?_
   refine zl hF rfl (r_build hF rfl rfl (bd27 _)) fun a hF => ?_
   refine ls_storeagg 0 hF hH rfl rfl rfl rfl rfl ti27 rfl (rfl) (rfl) (by simp [Value.oneCell']) ?_
   intro w hH
   refine zm 1 hF rfl fun a hF => ?_
   refine c_n ?_
   replace hF := hF.sel [8, 9]
   simp only [ss, Nat.reduceBEq] at hF
   refine wp_ret (hret (retc2 (fn := Tryz.f19) (t := 8) (u := 9) (i := 0) hF hH Tryz.results19 rfl rfl (by kernel_rfl) ti27 rfl rfl ?_))
   exact ⟨.slice none 0 0, by rw [he]; rfl, hH.below, by rw [he]; exact RSl.nil _ _⟩
  try simp only [qq] at h14
  obtain ⟨b, off, dv, rfl, hset, hdv⟩ := hR.at h14
  have hmem := List.getElem_mem h14
  have hnl := hnm _ hmem
  have hdr : l.drop i = l[i] :: l.drop (i + 1) := List.drop_eq_getElem_cons h14
  rw [hdr, findS_cons] at he
  refine wp_skip ?_
  refine k4 ?_
  refine c_seq fun Q5 k5 t5 => ?_
  refine c_block fun Q6 t6 => ?_
  refine c_sg ?_
  refine zm 2 hF rfl fun a hF => ?_
  refine zl hF rfl (r_indexaddr hF _ rfl rfl rfl Tryz.underlying22 ti27 (by omega)) fun a hF => ?_
  refine zl hF rfl (r_fieldaddr hF rfl rfl fd27_0) fun a hF => ?_
  refine zl hF rfl (r_load hF rfl rfl fl9 (hH.cell (he0.cell (hset 0 _ rfl)))) fun a hF => ?_
  refine zm 1 hF rfl fun a hF => ?_
  refine zc hF rfl rfl fn54 (refSame_spec _ _ (by omega) (by omega) _) ?_
  rintro _ w ⟨rfl, hE⟩ a hF
  replace hH := hH.ext hE
  refine zm 1 hF rfl fun a hF => ?_
  refine l_ask (d := 24) hF rfl (fun g4_7 => ?_) (fun g4_7 => ?_)
  ·
   have g4_7' := g4_7; try simp only [qq] at g4_7'
   refine zn hF rfl g4_7 fun a hF => ?_
   refine zn hF rfl g4_7 fun a hF => ?_
   refine zn hF rfl g4_7 fun a hF => ?_
   refine zn hF rfl g4_7 fun a hF => ?_
   refine zn hF rfl g4_7 fun a hF => ?_
   refine zn hF rfl g4_7 fun a hF => ?_
   refine zn hF rfl g4_7 fun a hF => ?_
   refine zl hF rfl (r_pickf hF rfl rfl g4_7 rfl) fun a hF => ?_
   refine zm 1 hF rfl fun a hF => ?_
   refine zn hF rfl rfl fun a hF => ?_
   refine zn hF rfl rfl fun a hF => ?_
   refine zn hF rfl rfl fun a hF => ?_
   refine zn hF rfl rfl fun a hF => ?_
   refine zn hF rfl rfl fun a hF => ?_
   refine zn hF rfl rfl fun a hF => ?_
   refine zn hF rfl rfl fun a hF => ?_
   refine zl hF rfl (r_pickf hF rfl rfl rfl rfl) fun a hF => ?_
   refine c_n ?_
   refine c_no hF rfl rfl ?_
   refine wp_skip ?_
   refine t6.norm ?_
   refine k5 ?_
   refine c_reg fun ops => ?_
   refine zm 1 hF rfl fun a hF => ?_
   refine zb hF rfl rfl rfl (b_addn _ _ 1 (by omega)) fun a hF => ?_
   refine zm 1 hF rfl fun a hF => ?_
   refine wpList_nil ?_
   refine k3 ?_
   have hi1 : isS nm kind cls l[i] = false := by simp_all [isS]
   rw [if_neg (by simp [hi1])] at he
   exact ⟨l.length - (i + 1), by omega, i + 1, rfl, by omega, he, hF.keep [0, 1, 2, 3, 8, 10] rfl, hH⟩
  have g4_7' := g4_7; try simp only [qq] at g4_7'
  refine zy hF rfl g4_7 (r_move hF rfl rfl) fun a hF => ?_
  refine zy hF rfl g4_7 (r_move hF rfl rfl) fun a hF => ?_
  refine zy hF rfl g4_7 (r_indexaddr hF _ rfl rfl rfl Tryz.underlying22 ti27 (by omega)) fun a hF => ?_
  refine zy hF rfl g4_7 (r_fieldaddr hF rfl rfl fd27_1) fun a hF => ?_
  refine zy hF rfl g4_7 (r_load hF rfl rfl fl23 (hH.cell (he0.cell (hset 1 _ rfl)))) fun a hF => ?_
  refine zy hF rfl g4_7 (r_move hF rfl rfl) fun a hF => ?_
  refine zy hF rfl g4_7 (zr hF rfl rfl (b_eqn _ _ _ _)) fun a hF => ?_
  refine zl hF rfl (r_pickt hF rfl rfl g4_7 rfl) fun a hF => ?_
  refine zm 1 hF rfl fun a hF => ?_
  refine l_ask (d := 33) hF rfl (fun g4_16 => ?_) (fun g4_16 => ?_)
  ·
   have g4_16' := g4_16; try simp only [qq] at g4_16'
   refine zn hF rfl g4_16 fun a hF => ?_
   refine zn hF rfl g4_16 fun a hF => ?_
   refine zn hF rfl g4_16 fun a hF => ?_
   refine zn hF rfl g4_16 fun a hF => ?_
   refine zn hF rfl g4_16 fun a hF => ?_
   refine zn hF rfl g4_16 fun a hF => ?_
   refine zn hF rfl g4_16 fun a hF => ?_
   refine zl hF rfl (r_pickf hF rfl rfl g4_16 rfl) fun a hF => ?_
   refine c_n ?_
   refine c_no hF rfl rfl ?_
   refine wp_skip ?_
   refine t6.norm ?_
   refine k5 ?_
   refine c_reg fun ops => ?_
   refine zm 1 hF rfl fun a hF => ?_
   refine zb hF rfl rfl rfl (b_addn _ _ 1 (by omega)) fun a hF => ?_
   refine zm 1 hF rfl fun a hF => ?_
   refine wpList_nil ?_
   refine k3 ?_
   have hi1 : isS nm kind cls l[i] = false := by simp_all [isS]
   rw [if_neg (by simp [hi1])] at he
   exact ⟨l.length - (i + 1), by omega, i + 1, rfl, by omega, he, hF.keep [0, 1, 2, 3, 8, 10] rfl, hH⟩
  have g4_16' := g4_16; try simp only [qq] at g4_16'
  refine zy hF rfl g4_16 (r_move hF rfl rfl) fun a hF => ?_
  refine zy hF rfl g4_16 (r_move hF rfl rfl) fun a hF => ?_
  refine zy hF rfl g4_16 (r_indexaddr hF _ rfl rfl rfl Tryz.underlying22 ti27 (by omega)) fun a hF => ?_
  refine zy hF rfl g4_16 (r_fieldaddr hF rfl rfl fd27_2) fun a hF => ?_
  refine zy hF rfl g4_16 (r_load hF rfl rfl fl23 (hH.cell (he0.cell (hset 2 _ rfl)))) fun a hF => ?_
  refine zy hF rfl g4_16 (r_move hF rfl rfl) fun a hF => ?_
  refine zy hF rfl g4_16 (zr hF rfl rfl (b_eqn _ _ _ _)) fun a hF => ?_
  refine zl hF rfl (r_pickt hF rfl rfl g4_16 rfl) fun a hF => ?_
  refine c_n ?_
  refine c_fi hF rfl (fun h41 => ?_) (fun h41 => ?_)
  ·
   try simp only [qq] at h41
   refine wp_skip ?_
   refine t6.norm ?_
   refine k5 ?_
   refine c_reg fun ops => ?_
   refine zm 1 hF rfl fun a hF => ?_
   refine zb hF rfl rfl rfl (b_addn _ _ 1 (by omega)) fun a hF => ?_
   refine zm 1 hF rfl fun a hF => ?_
   refine wpList_nil ?_
   refine k3 ?_
   have hi1 : isS nm kind cls l[i] = false := by simp_all [isS]
   rw [if_neg (by simp [hi1])] at he
   exact ⟨l.length - (i + 1), by omega, i + 1, rfl, by omega, he, hF.keep [0, 1, 2, 3, 8, 10] rfl, hH⟩
  try simp only [qq] at h41
  have hi1 : isS nm kind cls l[i] = true := by simp_all [isS]
  rw [if_pos hi1] at he
  refine c_sr fun ops => ?_
  refine zm 2 hF rfl fun a hF => ?_
  refine zl hF rfl (r_indexaddr hF _ rfl rfl rfl Tryz.underlying22 ti27 (by omega)) fun a hF => ?_
  refine zl hF rfl (r_loadagg hF rfl rfl Tryz.underlying27 ti27 rfl (fun j u hu => hH.cell (he0.cell (hset j u hu)))) fun a hF => ?_
  refine ls_storeagg 0 hF hH rfl rfl rfl rfl rfl ti27 rfl (rfl) (rfl) (by have := hdv.shape; obtain ⟨_, _, rfl⟩ := this; simp [setV, Value.oneCell']) ?_
  intro w hH
  refine zm 1 hF rfl fun a hF => ?_
  refine c_n ?_
  refine wp_ret (t6.ret (t5.ret (t3.ret (t2.ret (t1.ret (hret (retc2 (fn := Tryz.f19) (t := 8) (u := 9) (i := 0) hF hH Tryz.results19 rfl rfl (by kernel_rfl) ti27 rfl rfl ?_)))))))
  exact ⟨dv, by rw [he]; rfl, hH.below, by rw [he]; exact hdv⟩

theorem sameAll_spec (l m : List RSet) (v u : Value) (w0 : World) (ha : SetsR w0 v l) (hb : SetsR w0 u m) (hl : l.length < 1000000) (hm : m.length < 1000000) (hdl : ∀ s ∈ l, s.data.length < 1000000) (hdm : ∀ s ∈ m, s.data.length < 1000000) :
    Rets Tryz.prog 25 [v, u] w0 fun r w' => r = .bool (decide (l = m)) ∧ Ext w0 w' := by
  have hH := Hp.refl w0
  obtain ⟨ad, ca, rfl⟩ : ∃ ad cap, v = .slice ad l.length cap := by
    obtain ⟨_, _, h, _⟩ := ha; exact h.shape
  obtain ⟨bd, cb, rfl⟩ : ∃ ad cap, u = .slice ad m.length cap := by
    obtain ⟨_, _, h, _⟩ := hb; exact h.shape
  refine rets_start Tryz.func25 rfl Tryz.ntmps25 rfl fun a Q0 hF hret hend => ?_
  simp only [argsFrom, Nat.zero_add, Nat.reduceAdd] at hF
  refine c_sr fun ops => ?_
  refine zm 1 hF rfl fun a hF => ?_
  refine c_n ?_
  replace hF := hF.sel [0, 1]
  simp only [ss, Nat.reduceBEq] at hF
  refine c_seq fun Q1 k1 t1 => ?_
  refine c_sr fun ops => ?_
  refine zm 1 hF rfl fun a hF => ?_
  refine zl hF rfl (r_len_sl hF rfl rfl Tryz.underlying22) fun a hF => ?_
  refine zm 1 hF rfl fun a hF => ?_
  refine zl hF rfl (r_len_sl hF rfl rfl Tryz.underlying22) fun a hF => ?_
  refine zb hF rfl rfl rfl (b_nen _ _ _ _) fun a hF => ?_
  refine c_n ?_
  replace hF := hF.sel [0, 1, 10]
  simp only [ss, Nat.reduceBEq] at hF
  refine c_if hF rfl (fun h10 => ?_) (fun h10 => ?_)
  ·
   try simp only [qq] at h10
   refine c_sr fun ops => ?_
   refine zm 1 hF rfl fun a hF => ?_
   refine c_n ?_
   replace hF := hF.sel [4]
   simp only [ss, Nat.reduceBEq] at hF
   refine wp_ret (t1.ret (hret (ret1 hF Tryz.results25 rfl ?_)))
   exact ⟨by rw [decide_eq_false (fun e => h10 (by rw [e]))], hH.below⟩
  try simp only [qq] at h10
  refine wp_skip ?_
  refine k1 ?_
  refine c_seq fun Q2 k2 t2 => ?_
  refine c_sr fun ops => ?_
  refine zm 1 hF rfl fun a hF => ?_
  refine c_n ?_
  replace hF := hF.sel [0, 1, 5]
  simp only [ss, Nat.reduceBEq] at hF
  refine c_block fun Q3 t3 => ?_
  refine c_loop (fun n a w => ∃ i, n = l.length - i ∧ i ≤ l.length ∧ l.take i = m.take i ∧ Fr 27 [(0, .slice ad l.length ca), (1, .slice bd m.length cb), (5, .int .i64 i)] a ∧ Hp w0 w []) ?_ ?_
  ·
   exact ⟨_, 0, rfl, Nat.zero_le _, rfl, hF.keep [0, 1, 5] rfl, hH⟩
  intro n a w hI Q4 k4 t4
  obtain ⟨i, hn', hi, he, hF, hH⟩ := hI
  refine c_seq fun Q5 k5 t5 => ?_
  refine c_sr fun ops => ?_
  refine zm 2 hF rfl fun a hF => ?_
  refine zl hF rfl (r_len_sl hF rfl rfl Tryz.underlying22) fun a hF => ?_
  refine zb hF rfl rfl rfl (b_ltn _ _ _ _) fun a hF => ?_
  refine c_n ?_
  refine c_fi hF rfl (fun h14 => ?_) (fun h14 => ?_)
  ·
   try simp only [qq] at h14
   refine wp_exit (t5.exit (t4.exit (t3.here (?_))))
   refine k2 ?_
   refine c_sr fun ops => ?_
   refine zm 1 hF rfl fun a hF => ?_
   refine c_n ?_
   replace hF := hF.sel [4]
   simp only [ss, Nat.reduceBEq] at hF
   refine wp_ret (hret (ret1 hF Tryz.results25 rfl ?_))
   rw [List.take_of_length_le (by omega), List.take_of_length_le (by omega)] at he
   exact ⟨by rw [decide_eq_true he], hH.below⟩
  try simp only [qq] at h14
  obtain ⟨b, off, dv, rfl, hset, hdv⟩ := ha.at h14
  obtain ⟨b', off', dv', rfl, hset', hdv'⟩ := hb.at (i := i) (by omega)
  have hd1 := hdl _ (List.getElem_mem h14)
  have hd2 := hdm _ (List.getElem_mem (show i < m.length by omega))
  refine wp_skip ?_
  refine k5 ?_
  refine c_seq fun Q6 k6 t6 => ?_
  refine c_block fun Q7 t7 => ?_
  refine c_seq fun Q8 k8 t8 => ?_
  refine c_flow [0, 1, 2, 4, 5, 6] [3, 7, 8, 9] [] [] (by kernel_rfl) (by kernel_rfl) fun hB => ?_
  refine ps hF rfl rfl rfl rfl (fun w => r_move hF rfl rfl) fun a hF => ?_
  refine ps hF rfl rfl rfl rfl (fun w => r_move hF rfl rfl) fun a hF => ?_
  refine ps hF rfl rfl rfl rfl (fun w => r_indexaddr hF _ rfl rfl rfl Tryz.underlying22 ti27 (by omega)) fun a hF => ?_
  refine ps hF rfl rfl rfl rfl (fun w => r_move hF rfl rfl) fun a hF => ?_
  refine ps hF rfl rfl rfl rfl (fun w => r_move hF rfl rfl) fun a hF => ?_
  refine ps hF rfl rfl rfl rfl (fun w => r_indexaddr hF _ rfl rfl rfl Tryz.underlying22 ti27 (by omega)) fun a hF => ?_
  refine fl_start [20, 24, 25, 26] hB (by kernel_rfl) hF ?_
  simp only [wo, hasN, Nat.reduceBEq, cond_true, cond_false] at hF ⊢
  refine fs1 rfl (by
   intro a w Lr hE hC hl
   replace hH := hH.ext hE
   have hF := hC.fr
   exact zl hF rfl (r_loadagg hF rfl rfl Tryz.underlying27 ti27 rfl (fun j u hu => hH.cell (hset j u hu))) fun a' hF' => wpList_nil (fl_end hC hF' (Ext.refl _) rfl)) ?_
  refine fs1 rfl (by
   intro a w Lr hE hC hl
   replace hH := hH.ext hE
   have hF := hC.fr
   exact zl hF rfl (r_loadagg hF rfl rfl Tryz.underlying27 ti27 rfl (fun j u hu => hH.cell (hset' j u hu))) fun a' hF' => wpList_nil (fl_end hC hF' (Ext.refl _) rfl)) ?_
  refine fs1 rfl (by
   intro a w Lr hE hC hl
   replace hH := hH.ext hE
   obtain ⟨_, s20, rfl⟩ := hl 20 (by decide) _ rfl
   replace hC := hC.more s20
   obtain ⟨_, s24, rfl⟩ := hl 24 (by decide) _ rfl
   replace hC := hC.more s24
   have hF := hC.fr
   refine zc hF rfl rfl fn20 (same8_spec l[i] (m[i]'(by omega)) dv dv' _ (hdv.ext hH.below) (hdv'.ext hH.below) hd1 hd2) ?_
   rintro _ w' ⟨rfl, hE'⟩ a' hF'
   exact wpList_nil (fl_end hC hF' hE' rfl)) ?_
  refine fs1 rfl (by
   intro a w Lr hE hC hl
   replace hH := hH.ext hE
   obtain ⟨_, s25, rfl⟩ := hl 25 (by decide) _ rfl
   replace hC := hC.more s25
   have hF := hC.fr
   exact zl hF rfl (r_not hF rfl rfl) fun a' hF' => wpList_nil (fl_end hC hF' (Ext.refl _) rfl)) ?_
  intro a w hE hF hall
  replace hH := hH.ext hE
  obtain ⟨_, s20, rfl⟩ := hall 20 _ rfl
  replace hF := hF.more s20
  obtain ⟨_, s24, rfl⟩ := hall 24 _ rfl
  replace hF := hF.more s24
  obtain ⟨_, s25, rfl⟩ := hall 25 _ rfl
  replace hF := hF.more s25
  obtain ⟨_, s26, rfl⟩ := hall 26 _ rfl
  replace hF := hF.more s26
  clear hall
  refine wpList_nil ?_
  refine k8 ?_
  refine c_if hF rfl (fun h26 => ?_) (fun h26 => ?_)
  ·
   try simp only [qq] at h26
   refine c_sr fun ops => ?_
   refine zm 1 hF rfl fun a hF => ?_
   refine c_n ?_
   refine wp_ret (t7.ret (t6.ret (t4.ret (t3.ret (t2.ret (hret (ret1 hF Tryz.results25 rfl ?_)))))))
   exact ⟨by rw [decide_eq_false (fun e => by subst e; rw [sameS_self] at h26; cases h26)], hH.below⟩
  try simp only [qq] at h26
  refine wp_skip ?_
  refine t7.norm ?_
  refine k6 ?_
  refine c_reg fun ops => ?_
  refine zm 1 hF rfl fun a hF => ?_
  refine zb hF rfl rfl rfl (b_addn _ _ 1 (by omega)) fun a hF => ?_
  refine zm 1 hF rfl fun a hF => ?_
  refine wpList_nil ?_
  refine k4 ?_
  refine ⟨l.length - (i + 1), by omega, i + 1, rfl, by omega, ?_, hF.keep [0, 1, 5] rfl, hH⟩
  rw [List.take_succ_eq_append_getElem h14, List.take_succ_eq_append_getElem (by omega), he, sameS_eq h26]
end Go.Proofs.YtcelgjabccgnmaaGreatDoor
namespace Go.Proofs.YtcelgjabccgnmaaGreatDoor
open Go.RowKit
set_option linter.unusedVariables false
set_option linter.unusedSimpArgs false
set_option maxHeartbeats 1000000

/-- One step of the document's way. -/
def putStep (y : Bs) (r : List Bs × Bool) (x : Bs) : List Bs × Bool := if !r.2 && bless y x then (r.1 ++ [y, x], true) else (r.1 ++ [x], r.2)
theorem putStep_done (y : Bs) : ∀ (xs acc : List Bs), xs.foldl (putStep y) (acc, true) = (acc ++ xs, true)
  | [], acc => by simp
  | x :: xs, acc => by
    have : putStep y (acc, true) x = (acc ++ [x], true) := by simp [putStep]
    rw [List.foldl_cons, this, putStep_done y xs]; simp
theorem putStep_all (y : Bs) : ∀ (xs acc : List Bs), (if (xs.foldl (putStep y) (acc, false)).2 = true then (xs.foldl (putStep y) (acc, false)).1 else (xs.foldl (putStep y) (acc, false)).1 ++ [y]) = acc ++ (xs.takeWhile (fun x => !bless y x) ++ y :: xs.dropWhile (fun x => !bless y x))
  | [], acc => by simp
  | x :: xs, acc => by
    cases hb : bless y x with
    | true =>
      have : putStep y (acc, false) x = (acc ++ [y, x], true) := by simp [putStep, hb]
      rw [List.foldl_cons, this, putStep_done, if_pos rfl, List.takeWhile_cons, if_neg (by simp [hb]), List.dropWhile_cons, if_neg (by simp [hb])]
      simp
    | false =>
      have : putStep y (acc, false) x = (acc ++ [x], false) := by simp [putStep, hb]
      rw [List.foldl_cons, this, putStep_all y xs, List.takeWhile_cons, if_pos (by simp [hb]), List.dropWhile_cons, if_pos (by simp [hb])]
      simp
theorem putStep_len (y : Bs) : ∀ (xs : List Bs) (r : List Bs × Bool), (xs.foldl (putStep y) r).1.length ≤ r.1.length + 2 * xs.length
  | [], r => by simp
  | x :: xs, r => by
    rw [List.foldl_cons]
    have h1 := putStep_len y xs (putStep y r x)
    have h2 : (putStep y r x).1.length ≤ r.1.length + 2 := by unfold putStep; split <;> simp
    rw [List.length_cons]; omega
theorem putStep_take {y : Bs} {xs : List Bs} {i : Nat} (h : i < xs.length) : (xs.take (i + 1)).foldl (putStep y) ([], false) = putStep y ((xs.take i).foldl (putStep y) ([], false)) (xs.getD i []) := by
  rw [List.take_succ_eq_append_getElem h, List.foldl_append]
  simp [List.getD_eq_getElem?_getD, h]

theorem put8_spec {w0 w1 : World} {Bx H : List (Nat × Obj)} {v : Value} {xs : List Bs} (y : Bs) (hH0 : Hp w0 w1 (Bx ++ H)) (hS0 : Sl 9 1 Bx v xs.length (strV xs)) (hl : xs.length < 1000000) :
    Rets Tryz.prog 71 [v, .string (mk y)] w1 fun r w' => ∃ B', Hp w0 w' (B' ++ H) ∧ Sl 9 1 B' r (putN xs y).length (strV (putN xs y)) := by
  have hR := hS0.rsl hH0 fun p hp => List.mem_append_left _ hp
  obtain ⟨ad, cp, rfl⟩ := hR.shape
  have hH := Hp.refl w1
  refine rets_start Tryz.func71 rfl Tryz.ntmps71 rfl fun a Q0 hF hret hend => ?_
  simp only [argsFrom, Nat.zero_add, Nat.reduceAdd] at hF
  refine c_sr fun ops => ?_
  refine zm 1 hF rfl fun a hF => ?_
  refine c_n ?_
  replace hF := hF.sel [0, 1]
  simp only [ss, Nat.reduceBEq] at hF
  refine c_sr fun ops => ?_
  refine zm 1 hF rfl fun a hF => ?_
  refine c_n ?_
  replace hF := hF.sel [0, 1, 5]
  simp only [ss, Nat.reduceBEq] at hF
  refine c_sr fun ops => ?_
  refine zm 1 hF rfl fun a hF => ?_
  refine c_n ?_
  replace hF := hF.sel [0, 1, 5, 6]
  simp only [ss, Nat.reduceBEq] at hF
  refine c_seq fun Q1 k1 t1 => ?_
  refine c_sr fun ops => ?_
  refine zm 1 hF rfl fun a hF => ?_
  refine c_n ?_
  replace hF := hF.sel [0, 1, 5, 6, 7]
  simp only [ss, Nat.reduceBEq] at hF
  refine c_block fun Q2 t2 => ?_
  refine c_loop (fun n a w => ∃ i B rv acc dn, n = xs.length - i ∧ i ≤ xs.length ∧ (acc, dn) = (xs.take i).foldl (putStep y) ([], false) ∧ (∀ j < i, xs.getD j [] ≠ y) ∧ Fr 49 [(0, .slice ad xs.length cp), (1, .string (mk y)), (5, rv), (6, .bool dn), (7, .int .i64 i)] a ∧ Hp w1 w B ∧ Sl 9 1 B rv acc.length (strV acc)) ?_ ?_
  ·
   exact ⟨_, 0, [], _, [], false, rfl, Nat.zero_le _, rfl, fun _ h => (Nat.not_lt_zero _ h).elim, hF.keep [0, 1, 5, 6, 7] rfl, hH, Sl.nil _ _⟩
  clear hH hF
  intro n a w hI Q3 k3 t3
  obtain ⟨i, B, rv, acc, dn, hm, hi, hacc, hno, hF, hH, hS⟩ := hI
  refine c_seq fun Q4 k4 t4 => ?_
  refine c_sr fun ops => ?_
  refine zm 2 hF rfl fun a hF => ?_
  refine zl hF rfl (r_len_sl hF rfl rfl Tryz.underlying25) fun a hF => ?_
  refine zb hF rfl rfl rfl (b_ltn _ _ _ _) fun a hF => ?_
  refine c_n ?_
  refine c_fi hF rfl (fun h11 => ?_) (fun h11 => ?_)
  ·
   try simp only [qq] at h11
   have hil : i = xs.length := by omega
   have hal := putStep_len y (xs.take i) ([], false)
   rw [← hacc, List.length_take] at hal
   simp only [List.length_nil] at hal
   have hnm : y ∉ xs := fun hm => by
     obtain ⟨j, hj, e⟩ := List.mem_iff_getElem.1 hm
     exact hno j (by omega) (by rw [← e]; simp [List.getD_eq_getElem?_getD, hj])
   have hall := putStep_all y xs []
   rw [hil, List.take_length] at hacc
   rw [← hacc] at hall
   have hpn : putN xs y = xs.takeWhile (fun x => !bless y x) ++ y :: xs.dropWhile (fun x => !bless y x) := by unfold putN; rw [if_neg hnm]
   simp only [List.nil_append] at hall
   rw [← hpn] at hall
   refine wp_exit (t4.exit (t3.exit (t2.here (?_))))
   refine k1 ?_
   refine c_cut (fun a w => ∃ B rv, Fr 49 [(5, rv)] a ∧ Hp w1 w B ∧ Sl 9 1 B rv (putN xs y).length (strV (putN xs y))) (fun Q9 k9 t9 => ?_) ?_
   ·
    refine c_sr fun ops => ?_
    refine zm 1 hF rfl fun a hF => ?_
    refine zl hF rfl (r_not hF rfl rfl) fun a hF => ?_
    refine c_n ?_
    refine c_fi hF rfl (fun h43 => ?_) (fun h43 => ?_)
    ·
     try simp only [qq] at h43
     rw [h43, if_pos rfl] at hall
     refine wp_skip ?_
     refine k9 ?_
     exact ⟨_, _, hF.keep [5] rfl, hH, by rw [← hall]; simpa using hS⟩
    try simp only [qq] at h43
    rw [h43, if_neg (by simp)] at hall
    refine c_reg fun ops => ?_
    refine zm 2 hF rfl fun a hF => ?_
    refine ls_build1 hF hH rfl rfl rfl rfl rfl Tryz.underlying25 ti9 rfl (by decide) ?_
    intro a w g13_2 hH hE hF
    have hR := rsl_lit (n := 1) (size := 1) hH rfl (by decide)
    replace hH := hH.drop
    refine ls_append0 hF hH rfl rfl rfl rfl rfl rfl Tryz.underlying25 ti9 hS hR (one_of rfl) (by decide) (by omega) ?_
    intro a v13_3 w B13_3 hH hS hF
    refine zm 1 hF rfl fun a hF => ?_
    refine wpList_nil ?_
    replace hS := (show Sl 9 1 _ _ (acc.length + 1) (strV acc ++ [.string (mk y)]) from hS)
    rw [strV_snoc] at hS
    refine k9 ?_
    exact ⟨_, _, hF.keep [5] rfl, hH, by rw [← hall]; simpa using hS⟩
   clear hH hF hS
   rintro a w ⟨B2, rv2, hF, hH, hS⟩
   refine c_sr fun ops => ?_
   refine zm 2 hF rfl fun a hF => ?_
   refine c_n ?_
   replace hF := hF.sel [4]
   simp only [ss, Nat.reduceBEq] at hF
   refine wp_ret (hret (ret1 hF Tryz.results71 rfl ?_))
   exact ⟨B2, ((hH0.join hH).sub (List.Sublist.append_left (List.sublist_append_right _ _) _)), hS⟩
  try simp only [qq] at h11
  obtain ⟨b, off, had, hc⟩ := hR.at h11
  have hal := putStep_len y (xs.take i) ([], false)
  rw [← hacc, List.length_take] at hal
  simp only [List.length_nil] at hal
  have hst := putStep_take (y := y) h11
  rw [← hacc] at hst
  subst had
  refine wp_skip ?_
  refine k4 ?_
  refine c_seq fun Q5 k5 t5 => ?_
  refine c_block fun Q6 t6 => ?_
  refine c_seq fun Q7 k7 t7 => ?_
  refine c_sr fun ops => ?_
  refine zm 2 hF rfl fun a hF => ?_
  refine zl hF rfl (r_ix1 hF _ rfl rfl rfl Tryz.underlying25 ti9 (by omega)) fun a hF => ?_
  refine zl hF rfl (r_load hF rfl rfl fl9 (hH.cell hc)) fun a hF => ?_
  refine zm 1 hF rfl fun a hF => ?_
  refine zb hF rfl rfl rfl (b_seq _ _ _) fun a hF => ?_
  refine c_n ?_
  refine c_if hF rfl (fun h19 => ?_) (fun h19 => ?_)
  ·
   try simp only [qq] at h19
   refine c_sr fun ops => ?_
   refine zm 2 hF rfl fun a hF => ?_
   refine c_n ?_
   refine wp_ret (t7.ret (t6.ret (t5.ret (t3.ret (t2.ret (t1.ret (hret (ret1 hF Tryz.results71 rfl ?_))))))))
   have hm : y ∈ xs := by rw [← h19, List.getD_eq_getElem?_getD, List.getElem?_eq_getElem h11]; exact List.getElem_mem h11
   have hp : putN xs y = xs := by unfold putN; rw [if_pos hm]
   exact ⟨Bx, (hH0.join hH).sub (List.sublist_append_right _ _), by rw [hp]; exact hS0⟩
  try simp only [qq] at h19
  refine wp_skip ?_
  refine k7 ?_
  refine c_cut (fun a w => ∃ B rv acc2 dn2, (acc2 ++ [xs.getD i []], dn2) = putStep y (acc, dn) (xs.getD i []) ∧ Fr 49 [(0, .slice (some ⟨b, off, none⟩) xs.length cp), (1, .string (mk y)), (5, rv), (6, .bool dn2), (7, .int .i64 i)] a ∧ Hp w1 w B ∧ Sl 9 1 B rv acc2.length (strV acc2) ∧ acc2.length ≤ acc.length + 1) (fun Q8 k8 t8 => ?_) ?_
  ·
   refine c_sg ?_
   refine zm 1 hF rfl fun a hF => ?_
   refine zl hF rfl (r_not hF rfl rfl) fun a hF => ?_
   refine zm 1 hF rfl fun a hF => ?_
   refine l_ask (d := 23) hF rfl (fun g8_2 => ?_) (fun g8_2 => ?_)
   ·
    have g8_2' := g8_2; try simp only [qq] at g8_2'
    have hps : putStep y (acc, dn) (xs.getD i []) = (acc ++ [xs.getD i []], dn) := by unfold putStep; simp_all
    refine zn hF rfl g8_2 fun a hF => ?_
    refine zn hF rfl g8_2 fun a hF => ?_
    refine zn hF rfl g8_2 fun a hF => ?_
    refine zn hF rfl g8_2 fun a hF => ?_
    refine zn hF rfl g8_2 fun a hF => ?_
    refine zn hF rfl g8_2 fun a hF => ?_
    refine zl hF rfl (r_pickf hF rfl rfl g8_2 rfl) fun a hF => ?_
    refine c_n ?_
    refine c_no hF rfl rfl ?_
    refine wp_skip ?_
    refine k8 ?_
    first
      | exact ⟨_, _, acc ++ [y], _, by rw [hps]; simp, hF.keep [0, 1, 5, 6, 7] rfl, hH, by simpa using hS, by simp⟩
      | exact ⟨_, _, acc, _, by rw [hps], hF.keep [0, 1, 5, 6, 7] rfl, hH, hS, by omega⟩
   have g8_2' := g8_2; try simp only [qq] at g8_2'
   refine zy hF rfl g8_2 (r_move hF rfl rfl) fun a hF => ?_
   refine zy hF rfl g8_2 (r_move hF rfl rfl) fun a hF => ?_
   refine zy hF rfl g8_2 (r_ix1 hF _ rfl rfl rfl Tryz.underlying25 ti9 (by omega)) fun a hF => ?_
   refine zy hF rfl g8_2 (r_load hF rfl rfl fl9 (hH.cell hc)) fun a hF => ?_
   refine zy hF rfl g8_2 (r_move hF rfl rfl) fun a hF => ?_
   refine zy hF rfl g8_2 (zr hF rfl rfl (b_sgt _ _ _)) fun a hF => ?_
   refine zl hF rfl (r_pickt hF rfl rfl g8_2 rfl) fun a hF => ?_
   refine c_n ?_
   refine c_fi hF rfl (fun h30 => ?_) (fun h30 => ?_)
   ·
    try simp only [qq] at h30
    have hps : putStep y (acc, dn) (xs.getD i []) = (acc ++ [xs.getD i []], dn) := by unfold putStep; simp_all
    refine wp_skip ?_
    refine k8 ?_
    first
      | exact ⟨_, _, acc ++ [y], _, by rw [hps]; simp, hF.keep [0, 1, 5, 6, 7] rfl, hH, by simpa using hS, by simp⟩
      | exact ⟨_, _, acc, _, by rw [hps], hF.keep [0, 1, 5, 6, 7] rfl, hH, hS, by omega⟩
   try simp only [qq] at h30
   have hps : putStep y (acc, dn) (xs.getD i []) = (acc ++ [y, xs.getD i []], true) := by unfold putStep; simp_all
   refine c_sr fun ops => ?_
   refine zm 2 hF rfl fun a hF => ?_
   refine ls_build1 hF hH rfl rfl rfl rfl rfl Tryz.underlying25 ti9 rfl (by decide) ?_
   intro a w g9_2 hH hE hF
   have hR := rsl_lit (n := 1) (size := 1) hH rfl (by decide)
   replace hH := hH.drop
   refine ls_append0 hF hH rfl rfl rfl rfl rfl rfl Tryz.underlying25 ti9 hS hR (one_of rfl) (by decide) (by omega) ?_
   intro a v9_3 w B9_3 hH hS hF
   refine zm 1 hF rfl fun a hF => ?_
   refine c_n ?_
   replace hS := (show Sl 9 1 _ _ (acc.length + 1) (strV acc ++ [.string (mk y)]) from hS)
   rw [strV_snoc] at hS
   refine c_reg fun ops => ?_
   refine zm 1 hF rfl fun a hF => ?_
   refine wpList_nil ?_
   refine k8 ?_
   first
     | exact ⟨_, _, acc ++ [y], _, by rw [hps]; simp, hF.keep [0, 1, 5, 6, 7] rfl, hH, by simpa using hS, by simp⟩
     | exact ⟨_, _, acc, _, by rw [hps], hF.keep [0, 1, 5, 6, 7] rfl, hH, hS, by omega⟩
  clear hH hF hS
  rintro a w ⟨B2, rv2, acc2, dn2, hps, hF, hH, hS, hal2⟩
  refine c_reg fun ops => ?_
  refine zm 3 hF rfl fun a hF => ?_
  refine zl hF rfl (r_ix1 hF _ rfl rfl rfl Tryz.underlying25 ti9 (by omega)) fun a hF => ?_
  refine zl hF rfl (r_load hF rfl rfl fl9 (hH.cell hc)) fun a hF => ?_
  refine ls_build1 hF hH rfl rfl rfl rfl rfl Tryz.underlying25 ti9 rfl (by decide) ?_
  intro a w g11_5 hH hE hF
  have hR := rsl_lit (n := 1) (size := 1) hH rfl (by decide)
  replace hH := hH.drop
  refine ls_append0 hF hH rfl rfl rfl rfl rfl rfl Tryz.underlying25 ti9 hS hR (one_of rfl) (by decide) (by omega) ?_
  intro a v11_6 w B11_6 hH hS hF
  refine zm 1 hF rfl fun a hF => ?_
  refine wpList_nil ?_
  replace hS := (show Sl 9 1 _ _ (acc2.length + 1) (strV acc2 ++ [.string (mk (xs.getD i []))]) from hS)
  rw [strV_snoc] at hS
  refine t6.norm ?_
  refine k5 ?_
  refine c_reg fun ops => ?_
  refine zm 1 hF rfl fun a hF => ?_
  refine zb hF rfl rfl rfl (b_addn _ _ 1 (by omega)) fun a hF => ?_
  refine zm 1 hF rfl fun a hF => ?_
  refine wpList_nil ?_
  refine k3 ?_
  refine ⟨xs.length - (i + 1), by omega, i + 1, _, _, acc2 ++ [xs.getD i []], dn2, rfl, by omega, by rw [hst, ← hps], ?_, hF.keep [0, 1, 5, 6, 7] rfl, hH, by simpa using hS⟩
  intro j hj
  rcases Nat.lt_succ_iff_lt_or_eq.1 hj with h | rfl
  · exact hno j h
  · exact h19
end Go.Proofs.YtcelgjabccgnmaaGreatDoor
