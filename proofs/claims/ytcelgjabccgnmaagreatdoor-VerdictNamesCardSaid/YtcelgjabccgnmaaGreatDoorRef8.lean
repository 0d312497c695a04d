/-
  The walks of package hustingsref08, but for Group. Nothing is claimed here.
  The walk of hustingsref08.put; parts of rows. Nothing is claimed here.
-/
import Derived.Test.YtcelgjabccgnmaaGreatDoorGroup
namespace Go.Proofs.YtcelgjabccgnmaaGreatDoor
open Go.RowKit
set_option linter.unusedVariables false
set_option linter.unusedSimpArgs false
set_option maxHeartbeats 1000000

theorem take_more {xs ys : List Bs} {i : Nat} (h : xs.take i = ys.take i) (h1 : i < xs.length) (h2 : i < ys.length) (he : xs.getD i [] = ys.getD i []) : xs.take (i + 1) = ys.take (i + 1) := by
  have e1 : xs.getD i [] = xs[i] := by simp [List.getD_eq_getElem?_getD, h1]
  have e2 : ys.getD i [] = ys[i] := by simp [List.getD_eq_getElem?_getD, h2]
  rw [List.take_succ_eq_append_getElem h1, List.take_succ_eq_append_getElem h2, h, ← e1, ← e2, he]
theorem same8_spec (x y : RSet) (da db : Value) (w0 : World) (ha : RSl w0 1 da x.data.length (strV x.data)) (hb : RSl w0 1 db y.data.length (strV y.data)) (hx : x.data.length < 1000000) (hy : y.data.length < 1000000) :
    Rets Tryz.prog 20 [.agg (setV x da).toArray, .agg (setV y db).toArray] w0 fun v w' => v = .bool (sameS x y) ∧ Ext w0 w' := by
  have hH := Hp.refl w0
  obtain ⟨ad, ca, rfl⟩ := ha.shape
  obtain ⟨bd, cb, rfl⟩ := hb.shape
  refine rets_start Tryz.func20 rfl Tryz.ntmps20 rfl fun a Q0 hF hret hend => ?_
  simp only [argsFrom, Nat.zero_add, Nat.reduceAdd] at hF
  refine c_sr fun ops => ?_
  refine ls_box hF hH rfl rfl rfl rfl rfl ?_
  intro a w g0_0 hH hE hF
  refine ls_box hF hH rfl rfl rfl rfl rfl ?_
  intro a w g0_1 hH hE hF
  refine zm 1 hF rfl fun a hF => ?_
  refine c_n ?_
  replace hF := hF.sel [2, 3]
  simp only [ss, Nat.reduceBEq] at hF
  refine c_seq fun Q1 k1 t1 => ?_
  refine c_sg ?_
  refine zl hF rfl (r_fieldaddr0 hF rfl rfl fd27_0) fun a hF => ?_
  refine zl hF rfl (r_load hF rfl rfl fl9 (own_cell (i := 1) hH rfl rfl)) fun a hF => ?_
  refine zl hF rfl (r_fieldaddr0 hF rfl rfl fd27_0) fun a hF => ?_
  refine zl hF rfl (r_load hF rfl rfl fl9 (own_cell (i := 0) hH rfl rfl)) fun a hF => ?_
  refine zb hF rfl rfl rfl (b_sne _ _ _) fun a hF => ?_
  refine zm 1 hF rfl fun a hF => ?_
  refine ls_ask (d := 11) hF rfl (fun g1_5 => ?_) (fun g1_5 => ?_)
  ·
   have g1_5' := g1_5; try simp only [qq] at g1_5'
   refine zn hF rfl g1_5 fun a hF => ?_
   refine zn hF rfl g1_5 fun a hF => ?_
   refine zn hF rfl g1_5 fun a hF => ?_
   refine zn hF rfl g1_5 fun a hF => ?_
   refine zn hF rfl g1_5 fun a hF => ?_
   refine zl hF rfl (r_pickt hF rfl rfl g1_5 rfl) fun a hF => ?_
   refine zm 1 hF rfl fun a hF => ?_
   refine zn hF rfl rfl fun a hF => ?_
   refine zn hF rfl rfl fun a hF => ?_
   refine zn hF rfl rfl fun a hF => ?_
   refine zn hF rfl rfl fun a hF => ?_
   refine zn hF rfl rfl fun a hF => ?_
   refine zl hF rfl (r_pickt hF rfl rfl rfl rfl) fun a hF => ?_
   refine zm 1 hF rfl fun a hF => ?_
   refine zn hF rfl rfl fun a hF => ?_
   refine zn hF rfl rfl fun a hF => ?_
   refine zn hF rfl rfl fun a hF => ?_
   refine zn hF rfl rfl fun a hF => ?_
   refine zn hF rfl rfl fun a hF => ?_
   refine zl hF rfl (r_pickt hF rfl rfl rfl rfl) fun a hF => ?_
   refine zm 1 hF rfl fun a hF => ?_
   refine zn hF rfl rfl fun a hF => ?_
   refine zn hF rfl rfl fun a hF => ?_
   refine zn hF rfl rfl fun a hF => ?_
   refine zn hF rfl rfl fun a hF => ?_
   refine zn hF rfl rfl fun a hF => ?_
   refine zn hF rfl rfl fun a hF => ?_
   refine zn hF rfl rfl fun a hF => ?_
   refine zl hF rfl (r_pickt hF rfl rfl rfl rfl) fun a hF => ?_
   refine c_n ?_
   replace hF := hF.sel [2, 3, 40]
   simp only [ss, Nat.reduceBEq] at hF
   refine c_yes hF rfl rfl ?_
   refine c_sr fun ops => ?_
   refine zm 1 hF rfl fun a hF => ?_
   refine c_n ?_
   replace hF := hF.sel [4]
   simp only [ss, Nat.reduceBEq] at hF
   refine wp_ret (t1.ret (hret (ret1 hF Tryz.results20 rfl ?_)))
   exact ⟨by first | (rw [hne]; done) | (congr 1; symm; unfold sameS; simp_all), hH.below⟩
  have g1_5' := g1_5; try simp only [qq] at g1_5'
  refine zy hF rfl g1_5 (r_fieldaddr0 hF rfl rfl fd27_1) fun a hF => ?_
  refine zy hF rfl g1_5 (r_load hF rfl rfl fl23 (own_cell (i := 1) hH rfl rfl)) fun a hF => ?_
  refine zy hF rfl g1_5 (r_fieldaddr0 hF rfl rfl fd27_1) fun a hF => ?_
  refine zy hF rfl g1_5 (r_load hF rfl rfl fl23 (own_cell (i := 0) hH rfl rfl)) fun a hF => ?_
  refine zy hF rfl g1_5 (zr hF rfl rfl (b_nen _ _ _ _)) fun a hF => ?_
  refine zl hF rfl (r_pickf hF rfl rfl g1_5 rfl) fun a hF => ?_
  refine zm 1 hF rfl fun a hF => ?_
  refine ls_ask (d := 18) hF rfl (fun g1_12 => ?_) (fun g1_12 => ?_)
  ·
   have g1_12' := g1_12; try simp only [qq] at g1_12'
   refine zn hF rfl g1_12 fun a hF => ?_
   refine zn hF rfl g1_12 fun a hF => ?_
   refine zn hF rfl g1_12 fun a hF => ?_
   refine zn hF rfl g1_12 fun a hF => ?_
   refine zn hF rfl g1_12 fun a hF => ?_
   refine zl hF rfl (r_pickt hF rfl rfl g1_12 rfl) fun a hF => ?_
   refine zm 1 hF rfl fun a hF => ?_
   refine zn hF rfl rfl fun a hF => ?_
   refine zn hF rfl rfl fun a hF => ?_
   refine zn hF rfl rfl fun a hF => ?_
   refine zn hF rfl rfl fun a hF => ?_
   refine zn hF rfl rfl fun a hF => ?_
   refine zl hF rfl (r_pickt hF rfl rfl rfl rfl) fun a hF => ?_
   refine zm 1 hF rfl fun a hF => ?_
   refine zn hF rfl rfl fun a hF => ?_
   refine zn hF rfl rfl fun a hF => ?_
   refine zn hF rfl rfl fun a hF => ?_
   refine zn hF rfl rfl fun a hF => ?_
   refine zn hF rfl rfl fun a hF => ?_
   refine zn hF rfl rfl fun a hF => ?_
   refine zn hF rfl rfl fun a hF => ?_
   refine zl hF rfl (r_pickt hF rfl rfl rfl rfl) fun a hF => ?_
   refine c_n ?_
   replace hF := hF.sel [2, 3, 40]
   simp only [ss, Nat.reduceBEq] at hF
   refine c_yes hF rfl rfl ?_
   refine c_sr fun ops => ?_
   refine zm 1 hF rfl fun a hF => ?_
   refine c_n ?_
   replace hF := hF.sel [4]
   simp only [ss, Nat.reduceBEq] at hF
   refine wp_ret (t1.ret (hret (ret1 hF Tryz.results20 rfl ?_)))
   exact ⟨by first | (rw [hne]; done) | (congr 1; symm; unfold sameS; simp_all), hH.below⟩
  have g1_12' := g1_12; try simp only [qq] at g1_12'
  refine zy hF rfl g1_12 (r_fieldaddr0 hF rfl rfl fd27_2) fun a hF => ?_
  refine zy hF rfl g1_12 (r_load hF rfl rfl fl23 (own_cell (i := 1) hH rfl rfl)) fun a hF => ?_
  refine zy hF rfl g1_12 (r_fieldaddr0 hF rfl rfl fd27_2) fun a hF => ?_
  refine zy hF rfl g1_12 (r_load hF rfl rfl fl23 (own_cell (i := 0) hH rfl rfl)) fun a hF => ?_
  refine zy hF rfl g1_12 (zr hF rfl rfl (b_nen _ _ _ _)) fun a hF => ?_
  refine zl hF rfl (r_pickf hF rfl rfl g1_12 rfl) fun a hF => ?_
  refine zm 1 hF rfl fun a hF => ?_
  refine ls_ask (d := 25) hF rfl (fun g1_19 => ?_) (fun g1_19 => ?_)
  ·
   have g1_19' := g1_19; try simp only [qq] at g1_19'
   refine zn hF rfl g1_19 fun a hF => ?_
   refine zn hF rfl g1_19 fun a hF => ?_
   refine zn hF rfl g1_19 fun a hF => ?_
   refine zn hF rfl g1_19 fun a hF => ?_
   refine zn hF rfl g1_19 fun a hF => ?_
   refine zl hF rfl (r_pickt hF rfl rfl g1_19 rfl) fun a hF => ?_
   refine zm 1 hF rfl fun a hF => ?_
   refine zn hF rfl rfl fun a hF => ?_
   refine zn hF rfl rfl fun a hF => ?_
   refine zn hF rfl rfl fun a hF => ?_
   refine zn hF rfl rfl fun a hF => ?_
   refine zn hF rfl rfl fun a hF => ?_
   refine zn hF rfl rfl fun a hF => ?_
   refine zn hF rfl rfl fun a hF => ?_
   refine zl hF rfl (r_pickt hF rfl rfl rfl rfl) fun a hF => ?_
   refine c_n ?_
   replace hF := hF.sel [2, 3, 40]
   simp only [ss, Nat.reduceBEq] at hF
   refine c_yes hF rfl rfl ?_
   refine c_sr fun ops => ?_
   refine zm 1 hF rfl fun a hF => ?_
   refine c_n ?_
   replace hF := hF.sel [4]
   simp only [ss, Nat.reduceBEq] at hF
   refine wp_ret (t1.ret (hret (ret1 hF Tryz.results20 rfl ?_)))
   exact ⟨by first | (rw [hne]; done) | (congr 1; symm; unfold sameS; simp_all), hH.below⟩
  have g1_19' := g1_19; try simp only [qq] at g1_19'
  refine zy hF rfl g1_19 (r_fieldaddr0 hF rfl rfl fd27_3) fun a hF => ?_
  refine zy hF rfl g1_19 (r_load hF rfl rfl fl24 (own_cell (i := 1) hH rfl rfl)) fun a hF => ?_
  refine zy hF rfl g1_19 (r_fieldaddr0 hF rfl rfl fd27_3) fun a hF => ?_
  refine zy hF rfl g1_19 (r_load hF rfl rfl fl24 (own_cell (i := 0) hH rfl rfl)) fun a hF => ?_
  refine zy hF rfl g1_19 (zr hF rfl rfl (b_nen _ _ _ _)) fun a hF => ?_
  refine zl hF rfl (r_pickf hF rfl rfl g1_19 rfl) fun a hF => ?_
  refine zm 1 hF rfl fun a hF => ?_
  refine ls_ask (d := 32) hF rfl (fun g1_26 => ?_) (fun g1_26 => ?_)
  ·
   have g1_26' := g1_26; try simp only [qq] at g1_26'
   refine zn hF rfl g1_26 fun a hF => ?_
   refine zn hF rfl g1_26 fun a hF => ?_
   refine zn hF rfl g1_26 fun a hF => ?_
   refine zn hF rfl g1_26 fun a hF => ?_
   refine zn hF rfl g1_26 fun a hF => ?_
   refine zn hF rfl g1_26 fun a hF => ?_
   refine zn hF rfl g1_26 fun a hF => ?_
   refine zl hF rfl (r_pickt hF rfl rfl g1_26 rfl) fun a hF => ?_
   refine c_n ?_
   replace hF := hF.sel [2, 3, 40]
   simp only [ss, Nat.reduceBEq] at hF
   refine c_yes hF rfl rfl ?_
   refine c_sr fun ops => ?_
   refine zm 1 hF rfl fun a hF => ?_
   refine c_n ?_
   replace hF := hF.sel [4]
   simp only [ss, Nat.reduceBEq] at hF
   refine wp_ret (t1.ret (hret (ret1 hF Tryz.results20 rfl ?_)))
   exact ⟨by first | (rw [hne]; done) | (congr 1; symm; unfold sameS; simp_all), hH.below⟩
  have g1_26' := g1_26; try simp only [qq] at g1_26'
  refine zy hF rfl g1_26 (r_fieldaddr0 hF rfl rfl fd27_4) fun a hF => ?_
  refine zy hF rfl g1_26 (r_load hF rfl rfl fl25 (own_cell (i := 1) hH rfl rfl)) fun a hF => ?_
  refine zy hF rfl g1_26 (r_len_sl hF rfl rfl Tryz.underlying25) fun a hF => ?_
  refine zy hF rfl g1_26 (r_fieldaddr0 hF rfl rfl fd27_4) fun a hF => ?_
  refine zy hF rfl g1_26 (r_load hF rfl rfl fl25 (own_cell (i := 0) hH rfl rfl)) fun a hF => ?_
  refine zy hF rfl g1_26 (r_len_sl hF rfl rfl Tryz.underlying25) fun a hF => ?_
  refine zy hF rfl g1_26 (zr hF rfl rfl (b_nen _ _ _ _)) fun a hF => ?_
  refine zl hF rfl (r_pickf hF rfl rfl g1_26 rfl) fun a hF => ?_
  refine c_n ?_
  replace hF := hF.sel [2, 3, 40]
  simp only [ss, Nat.reduceBEq] at hF
  refine c_if hF rfl (fun h40 => ?_) (fun h40 => ?_)
  ·
   try simp only [qq] at h40
   have hne : sameS x y = false := by
     cases hs : sameS x y with
     | false => rfl
     | true => simp only [sameS, Bool.and_eq_true, decide_eq_true_eq] at hs; exact absurd (congrArg List.length hs.2) h40
   refine c_sr fun ops => ?_
   refine zm 1 hF rfl fun a hF => ?_
   refine c_n ?_
   replace hF := hF.sel [4]
   simp only [ss, Nat.reduceBEq] at hF
   refine wp_ret (t1.ret (hret (ret1 hF Tryz.results20 rfl ?_)))
   exact ⟨by first | (rw [hne]; done) | (congr 1; symm; unfold sameS; simp_all), hH.below⟩
  try simp only [qq] at h40
  skip
  refine wp_skip ?_
  refine k1 ?_
  refine c_seq fun Q2 k2 t2 => ?_
  refine c_sr fun ops => ?_
  refine zm 1 hF rfl fun a hF => ?_
  refine c_n ?_
  replace hF := hF.sel [2, 3, 5]
  simp only [ss, Nat.reduceBEq] at hF
  refine c_block fun Q3 t3 => ?_
  refine c_loop (fun n a w => ∃ i, n = x.data.length - i ∧ i ≤ x.data.length ∧ x.data.take i = y.data.take i ∧ Fr 59 [(2, ptr g0_0), (3, ptr g0_1), (5, .int .i64 i)] a ∧ Hp w0 w [(g0_1, .cells (setV y (.slice bd y.data.length cb)).toArray 27 (0, 0)), (g0_0, .cells (setV x (.slice ad x.data.length ca)).toArray 27 (0, 0))]) ?_ ?_
  ·
   exact ⟨_, 0, rfl, Nat.zero_le _, rfl, hF.keep [2, 3, 5] rfl, hH⟩
  clear hH hF
  intro n a w hI Q4 k4 t4
  obtain ⟨i, hm, hi, he, hF, hH⟩ := hI
  refine c_seq fun Q5 k5 t5 => ?_
  refine c_sr fun ops => ?_
  refine zm 1 hF rfl fun a hF => ?_
  refine zl hF rfl (r_fieldaddr0 hF rfl rfl fd27_4) fun a hF => ?_
  refine zl hF rfl (r_load hF rfl rfl fl25 (own_cell (i := 1) hH rfl rfl)) fun a hF => ?_
  refine zl hF rfl (r_len_sl hF rfl rfl Tryz.underlying25) fun a hF => ?_
  refine zb hF rfl rfl rfl (b_ltn _ _ _ _) fun a hF => ?_
  refine c_n ?_
  refine c_fi hF rfl (fun h45 => ?_) (fun h45 => ?_)
  ·
   try simp only [qq] at h45
   refine wp_exit (t5.exit (t4.exit (t3.here (?_))))
   refine k2 ?_
   refine c_sr fun ops => ?_
   refine zm 1 hF rfl fun a hF => ?_
   refine c_n ?_
   replace hF := hF.sel [4]
   simp only [ss, Nat.reduceBEq] at hF
   refine wp_ret (hret (ret1 hF Tryz.results20 rfl ?_))
   rw [List.take_of_length_le (by omega), List.take_of_length_le (by omega)] at he
   exact ⟨by congr 1; symm; unfold sameS; simp_all, hH.below⟩
  try simp only [qq] at h45
  obtain ⟨b, off, had, hc⟩ := ha.at h45
  obtain ⟨b', off', hbd, hc'⟩ := hb.at (i := i) (by omega)
  rw [had, hbd] at hH
  refine wp_skip ?_
  refine k5 ?_
  refine c_seq fun Q6 k6 t6 => ?_
  refine c_block fun Q7 t7 => ?_
  refine c_seq fun Q8 k8 t8 => ?_
  refine c_flow [0, 2, 5, 7] [1, 3, 4, 6, 8, 9, 10] [] [] (by kernel_rfl) (by kernel_rfl) fun hB => ?_
  refine ps hF rfl rfl rfl rfl (fun w => r_fieldaddr0 hF rfl rfl fd27_4) fun a hF => ?_
  refine ps hF rfl rfl rfl rfl (fun w => r_move hF rfl rfl) fun a hF => ?_
  refine ps hF rfl rfl rfl rfl (fun w => r_fieldaddr0 hF rfl rfl fd27_4) fun a hF => ?_
  refine ps hF rfl rfl rfl rfl (fun w => r_move hF rfl rfl) fun a hF => ?_
  refine fl_start [49, 51, 52, 54, 56, 57, 58] hB (by kernel_rfl) hF ?_
  simp only [wo, hasN, Nat.reduceBEq, cond_true, cond_false] at hF ⊢
  refine fs1 rfl (by
   intro a w Lr hE hC hl
   replace hH := hH.ext hE
   have hF := hC.fr
   exact zl hF rfl (r_load hF rfl rfl fl25 (own_cell (i := 1) hH rfl rfl)) fun a' hF' => wpList_nil (fl_end hC hF' (Ext.refl _) rfl)) ?_
  refine fs1 rfl (by
   intro a w Lr hE hC hl
   replace hH := hH.ext hE
   obtain ⟨_, s49, rfl⟩ := hl 49 (by decide) _ rfl
   replace hC := hC.more s49
   have hF := hC.fr
   exact zl hF rfl (r_ix1 hF _ rfl rfl rfl Tryz.underlying25 ti9 (by omega)) fun a' hF' => wpList_nil (fl_end hC hF' (Ext.refl _) rfl)) ?_
  refine fs1 rfl (by
   intro a w Lr hE hC hl
   replace hH := hH.ext hE
   obtain ⟨_, s51, rfl⟩ := hl 51 (by decide) _ rfl
   replace hC := hC.more s51
   have hF := hC.fr
   exact zl hF rfl (r_load hF rfl rfl fl9 (hH.cell hc)) fun a' hF' => wpList_nil (fl_end hC hF' (Ext.refl _) rfl)) ?_
  refine fs1 rfl (by
   intro a w Lr hE hC hl
   replace hH := hH.ext hE
   have hF := hC.fr
   exact zl hF rfl (r_load hF rfl rfl fl25 (own_cell (i := 0) hH rfl rfl)) fun a' hF' => wpList_nil (fl_end hC hF' (Ext.refl _) rfl)) ?_
  refine fs1 rfl (by
   intro a w Lr hE hC hl
   replace hH := hH.ext hE
   obtain ⟨_, s54, rfl⟩ := hl 54 (by decide) _ rfl
   replace hC := hC.more s54
   have hF := hC.fr
   exact zl hF rfl (r_ix1 hF _ rfl rfl rfl Tryz.underlying25 ti9 (by omega)) fun a' hF' => wpList_nil (fl_end hC hF' (Ext.refl _) rfl)) ?_
  refine fs1 rfl (by
   intro a w Lr hE hC hl
   replace hH := hH.ext hE
   obtain ⟨_, s56, rfl⟩ := hl 56 (by decide) _ rfl
   replace hC := hC.more s56
   have hF := hC.fr
   exact zl hF rfl (r_load hF rfl rfl fl9 (hH.cell hc')) fun a' hF' => wpList_nil (fl_end hC hF' (Ext.refl _) rfl)) ?_
  refine fs1 rfl (by
   intro a w Lr hE hC hl
   replace hH := hH.ext hE
   obtain ⟨_, s52, rfl⟩ := hl 52 (by decide) _ rfl
   replace hC := hC.more s52
   obtain ⟨_, s57, rfl⟩ := hl 57 (by decide) _ rfl
   replace hC := hC.more s57
   have hF := hC.fr
   exact zl hF rfl (zr hF rfl rfl (b_sne _ _ _)) fun a' hF' => wpList_nil (fl_end hC hF' (Ext.refl _) rfl)) ?_
  intro a w hE hF hall
  replace hH := hH.ext hE
  obtain ⟨_, s49, rfl⟩ := hall 49 _ rfl
  replace hF := hF.more s49
  obtain ⟨_, s51, rfl⟩ := hall 51 _ rfl
  replace hF := hF.more s51
  obtain ⟨_, s52, rfl⟩ := hall 52 _ rfl
  replace hF := hF.more s52
  obtain ⟨_, s54, rfl⟩ := hall 54 _ rfl
  replace hF := hF.more s54
  obtain ⟨_, s56, rfl⟩ := hall 56 _ rfl
  replace hF := hF.more s56
  obtain ⟨_, s57, rfl⟩ := hall 57 _ rfl
  replace hF := hF.more s57
  obtain ⟨_, s58, rfl⟩ := hall 58 _ rfl
  replace hF := hF.more s58
  clear hall
  refine wpList_nil ?_
  refine k8 ?_
  refine c_if hF rfl (fun h58 => ?_) (fun h58 => ?_)
  ·
   try simp only [qq] at h58
   refine c_sr fun ops => ?_
   refine zm 1 hF rfl fun a hF => ?_
   refine c_n ?_
   refine wp_ret (t7.ret (t6.ret (t4.ret (t3.ret (t2.ret (hret (ret1 hF Tryz.results20 rfl ?_)))))))
   exact ⟨by congr 1; symm; unfold sameS; rw [decide_eq_false (show ¬ x.data = y.data from fun e => h58 (by rw [e]))]; simp, hH.below⟩
  try simp only [qq] at h58
  refine wp_skip ?_
  refine t7.norm ?_
  refine k6 ?_
  refine c_reg fun ops => ?_
  refine zm 1 hF rfl fun a hF => ?_
  refine zb hF rfl rfl rfl (b_addn _ _ 1 (by omega)) fun a hF => ?_
  refine zm 1 hF rfl fun a hF => ?_
  refine wpList_nil ?_
  refine k4 ?_
  rw [← had, ← hbd] at hH
  exact ⟨x.data.length - (i + 1), by omega, i + 1, rfl, by omega, take_more he h45 (by omega) h58, hF.keep [2, 3, 5] rfl, hH⟩

theorem sameAll_spec (l m : List RSet) (v u : Value) (w0 : World) (ha : SetsR w0 v l) (hb : SetsR w0 u m) (hl : l.length < 1000000) (hm : m.length < 1000000) (hdl : ∀ s ∈ l, s.data.length < 1000000) (hdm : ∀ s ∈ m, s.data.length < 1000000) :
    Rets Tryz.prog 25 [v, u] w0 fun r w' => r = .bool (decide (l = m)) ∧ Ext w0 w' := by
  have hH := Hp.refl w0
  obtain ⟨ad, ca, rfl⟩ : ∃ ad cap, v = .slice ad l.length cap := by
    obtain ⟨_, _, h, _⟩ := ha; exact h.shape
  obtain ⟨bd, cb, rfl⟩ : ∃ ad cap, u = .slice ad m.length cap := by
    obtain ⟨_, _, h, _⟩ := hb; exact h.shape
  refine rets_start Tryz.func25 rfl Tryz.ntmps25 rfl fun a Q0 hF hret hend => ?_
  simp only [argsFrom, Nat.zero_add, Nat.reduceAdd] at hF
  refine c_sr fun ops => ?_
  refine zm 1 hF rfl fun a hF => ?_
  refine c_n ?_
  replace hF := hF.sel [0, 1]
  simp only [ss, Nat.reduceBEq] at hF
  refine c_seq fun Q1 k1 t1 => ?_
  refine c_sr fun ops => ?_
  refine zm 1 hF rfl fun a hF => ?_
  refine zl hF rfl (r_len_sl hF rfl rfl Tryz.underlying22) fun a hF => ?_
  refine zm 1 hF rfl fun a hF => ?_
  refine zl hF rfl (r_len_sl hF rfl rfl Tryz.underlying22) fun a hF => ?_
  refine zb hF rfl rfl rfl (b_nen _ _ _ _) fun a hF => ?_
  refine c_n ?_
  replace hF := hF.sel [0, 1, 10]
  simp only [ss, Nat.reduceBEq] at hF
  refine c_if hF rfl (fun h10 => ?_) (fun h10 => ?_)
  ·
   try simp only [qq] at h10
   refine c_sr fun ops => ?_
   refine zm 1 hF rfl fun a hF => ?_
   refine c_n ?_
   replace hF := hF.sel [4]
   simp only [ss, Nat.reduceBEq] at hF
   refine wp_ret (t1.ret (hret (ret1 hF Tryz.results25 rfl ?_)))
   exact ⟨by rw [decide_eq_false (fun e => h10 (by rw [e]))], hH.below⟩
  try simp only [qq] at h10
  refine wp_skip ?_
  refine k1 ?_
  refine c_seq fun Q2 k2 t2 => ?_
  refine c_sr fun ops => ?_
  refine zm 1 hF rfl fun a hF => ?_
  refine c_n ?_
  replace hF := hF.sel [0, 1, 5]
  simp only [ss, Nat.reduceBEq] at hF
  refine c_block fun Q3 t3 => ?_
  refine c_loop (fun n a w => ∃ i, n = l.length - i ∧ i ≤ l.length ∧ l.take i = m.take i ∧ Fr 27 [(0, .slice ad l.length ca), (1, .slice bd m.length cb), (5, .int .i64 i)] a ∧ Hp w0 w []) ?_ ?_
  ·
   exact ⟨_, 0, rfl, Nat.zero_le _, rfl, hF.keep [0, 1, 5] rfl, hH⟩
  intro n a w hI Q4 k4 t4
  obtain ⟨i, hn', hi, he, hF, hH⟩ := hI
  refine c_seq fun Q5 k5 t5 => ?_
  refine c_sr fun ops => ?_
  refine zm 2 hF rfl fun a hF => ?_
  refine zl hF rfl (r_len_sl hF rfl rfl Tryz.underlying22) fun a hF => ?_
  refine zb hF rfl rfl rfl (b_ltn _ _ _ _) fun a hF => ?_
  refine c_n ?_
  refine c_fi hF rfl (fun h14 => ?_) (fun h14 => ?_)
  ·
   try simp only [qq] at h14
   refine wp_exit (t5.exit (t4.exit (t3.here (?_))))
   refine k2 ?_
   refine c_sr fun ops => ?_
   refine zm 1 hF rfl fun a hF => ?_
   refine c_n ?_
   replace hF := hF.sel [4]
   simp only [ss, Nat.reduceBEq] at hF
   refine wp_ret (hret (ret1 hF Tryz.results25 rfl ?_))
   rw [List.take_of_length_le (by omega), List.take_of_length_le (by omega)] at he
   exact ⟨by rw [decide_eq_true he], hH.below⟩
  try simp only [qq] at h14
  obtain ⟨b, off, dv, rfl, hset, hdv⟩ := ha.at h14
  obtain ⟨b', off', dv', rfl, hset', hdv'⟩ := hb.at (i := i) (by omega)
  have hd1 := hdl _ (List.getElem_mem h14)
  have hd2 := hdm _ (List.getElem_mem (show i < m.length by omega))
  refine wp_skip ?_
  refine k5 ?_
  refine c_seq fun Q6 k6 t6 => ?_
  refine c_block fun Q7 t7 => ?_
  refine c_seq fun Q8 k8 t8 => ?_
  refine c_flow [0, 1, 2, 4, 5, 6] [3, 7, 8, 9] [] [] (by kernel_rfl) (by kernel_rfl) fun hB => ?_
  refine ps hF rfl rfl rfl rfl (fun w => r_move hF rfl rfl) fun a hF => ?_
  refine ps hF rfl rfl rfl rfl (fun w => r_move hF rfl rfl) fun a hF => ?_
  refine ps hF rfl rfl rfl rfl (fun w => r_indexaddr hF _ rfl rfl rfl Tryz.underlying22 ti27 (by omega)) fun a hF => ?_
  refine ps hF rfl rfl rfl rfl (fun w => r_move hF rfl rfl) fun a hF => ?_
  refine ps hF rfl rfl rfl rfl (fun w => r_move hF rfl rfl) fun a hF => ?_
  refine ps hF rfl rfl rfl rfl (fun w => r_indexaddr hF _ rfl rfl rfl Tryz.underlying22 ti27 (by omega)) fun a hF => ?_
  refine fl_start [20, 24, 25, 26] hB (by kernel_rfl) hF ?_
  simp only [wo, hasN, Nat.reduceBEq, cond_true, cond_false] at hF ⊢
  refine fs1 rfl (by
   intro a w Lr hE hC hl
   replace hH := hH.ext hE
   have hF := hC.fr
   exact zl hF rfl (r_loadagg hF rfl rfl Tryz.underlying27 ti27 rfl (fun j u hu => hH.cell (hset j u hu))) fun a' hF' => wpList_nil (fl_end hC hF' (Ext.refl _) rfl)) ?_
  refine fs1 rfl (by
   intro a w Lr hE hC hl
   replace hH := hH.ext hE
   have hF := hC.fr
   exact zl hF rfl (r_loadagg hF rfl rfl Tryz.underlying27 ti27 rfl (fun j u hu => hH.cell (hset' j u hu))) fun a' hF' => wpList_nil (fl_end hC hF' (Ext.refl _) rfl)) ?_
  refine fs1 rfl (by
   intro a w Lr hE hC hl
   replace hH := hH.ext hE
   obtain ⟨_, s20, rfl⟩ := hl 20 (by decide) _ rfl
   replace hC := hC.more s20
   obtain ⟨_, s24, rfl⟩ := hl 24 (by decide) _ rfl
   replace hC := hC.more s24
   have hF := hC.fr
   refine zc hF rfl rfl fn20 (same8_spec l[i] (m[i]'(by omega)) dv dv' _ (hdv.ext hH.below) (hdv'.ext hH.below) hd1 hd2) ?_
   rintro _ w' ⟨rfl, hE'⟩ a' hF'
   exact wpList_nil (fl_end hC hF' hE' rfl)) ?_
  refine fs1 rfl (by
   intro a w Lr hE hC hl
   replace hH := hH.ext hE
   obtain ⟨_, s25, rfl⟩ := hl 25 (by decide) _ rfl
   replace hC := hC.more s25
   have hF := hC.fr
   exact zl hF rfl (r_not hF rfl rfl) fun a' hF' => wpList_nil (fl_end hC hF' (Ext.refl _) rfl)) ?_
  intro a w hE hF hall
  replace hH := hH.ext hE
  obtain ⟨_, s20, rfl⟩ := hall 20 _ rfl
  replace hF := hF.more s20
  obtain ⟨_, s24, rfl⟩ := hall 24 _ rfl
  replace hF := hF.more s24
  obtain ⟨_, s25, rfl⟩ := hall 25 _ rfl
  replace hF := hF.more s25
  obtain ⟨_, s26, rfl⟩ := hall 26 _ rfl
  replace hF := hF.more s26
  clear hall
  refine wpList_nil ?_
  refine k8 ?_
  refine c_if hF rfl (fun h26 => ?_) (fun h26 => ?_)
  ·
   try simp only [qq] at h26
   refine c_sr fun ops => ?_
   refine zm 1 hF rfl fun a hF => ?_
   refine c_n ?_
   refine wp_ret (t7.ret (t6.ret (t4.ret (t3.ret (t2.ret (hret (ret1 hF Tryz.results25 rfl ?_)))))))
   exact ⟨by rw [decide_eq_false (fun e => by subst e; rw [sameS_self] at h26; cases h26)], hH.below⟩
  try simp only [qq] at h26
  refine wp_skip ?_
  refine t7.norm ?_
  refine k6 ?_
  refine c_reg fun ops => ?_
  refine zm 1 hF rfl fun a hF => ?_
  refine zb hF rfl rfl rfl (b_addn _ _ 1 (by omega)) fun a hF => ?_
  refine zm 1 hF rfl fun a hF => ?_
  refine wpList_nil ?_
  refine k4 ?_
  refine ⟨l.length - (i + 1), by omega, i + 1, rfl, by omega, ?_, hF.keep [0, 1, 5] rfl, hH⟩
  rw [List.take_succ_eq_append_getElem h14, List.take_succ_eq_append_getElem (by omega), he, sameS_eq h26]
end Go.Proofs.YtcelgjabccgnmaaGreatDoor