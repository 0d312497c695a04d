/-
  The walks of the document's layer 1: labels, folding, order of names. They compute what package name computes.
-/
import Derived.Test.YtcelgjabccgnmaaGreatDoorName
import Derived.Test.YtcelgjabccgnmaaGreatDoorSlices
namespace Go.Proofs.YtcelgjabccgnmaaGreatDoor
open Go.RowKit
set_option linter.unusedVariables false
set_option linter.unusedSimpArgs false
set_option maxHeartbeats 1000000

theorem labelsOf_step {m : Bs} {k : Nat} (hk : (m.getD 0 0).toNat = k) (h0 : k ≠ 0) (h63 : k ≤ 63) (h : k + 1 ≤ m.length) : labelsOf m = (labelsOf (m.drop (k + 1))).map ((m.take (k + 1)).drop 1 :: ·) := by
  have hm : m ≠ [0] := by rintro rfl; simp at hk; exact h0 hk.symm
  by_cases h2 : k + 2 ≤ m.length
  · have hf : firstB m = true := firstB_iff.2 ⟨by omega, by omega, by omega, by omega⟩
    rw [labelsOf_cons hm hf, firstLabel, firstRest, if_pos hf, if_pos hf, hk]
  · have hf : firstB m = false := firstB_no (by omega)
    have hd : m.drop (k + 1) = [] := List.drop_eq_nil_of_le (by omega)
    rw [labelsOf_no hm hf, hd, labelsOf_no (by simp) (by rfl)]; rfl
theorem labelsOf_end {l : Bs} {i : Nat} (hi : i ≤ l.length) (h : l.length ≤ i ∨ (l.getD i 0).toNat = 0) : (labelsOf (l.drop i)) = if i + 1 = l.length then some [] else none := by
  by_cases h1 : i + 1 = l.length
  · rw [if_pos h1]
    have h0 : l.getD i 0 = 0 := by rcases h with h | h; omega; exact UInt8.toNat_inj.1 h
    have : l.drop i = [0] := by
      have hlt : i < l.length := by omega
      rw [List.drop_eq_getElem_cons hlt, List.drop_eq_nil_of_le (by omega)]
      rw [List.getD_eq_getElem?_getD, List.getElem?_eq_getElem hlt] at h0
      simpa using h0
    rw [this]; rfl
  · rw [if_neg h1]
    have hg : ((l.drop i).getD 0 0).toNat = 0 ∨ (l.drop i) = [] := by
      rcases h with h | h
      · exact .inr (List.drop_eq_nil_of_le h)
      · left; simpa [List.getD_eq_getElem?_getD] using h
    refine labelsOf_no ?_ (firstB_no ?_)
    · intro e; have := congrArg List.length e; simp at this; omega
    · rintro ⟨h2, h3, _⟩
      rcases hg with hg | hg
      · exact h3 hg
      · rw [hg] at h2; simp at h2

theorem refLabels_spec (l : Bs) (hl : l.length < 1000000) (w0 : World) : Rets Tryz.prog 108 [.string (mk l)] w0 fun v w' => ∃ sv B, v = .tuple #[sv, .bool (mayB l)] ∧ Hp w0 w' B ∧ Sl 9 1 B sv ((split l).getD []).length (strV ((split l).getD [])) := by
  have hH := Hp.refl w0
  refine rets_start Tryz.func108 rfl Tryz.ntmps108 rfl fun a Q0 hF hret hend => ?_
  simp only [argsFrom, Nat.zero_add, Nat.reduceAdd] at hF
  refine c_sr fun ops => ?_
  refine zm 2 hF rfl fun a hF => ?_
  refine c_n ?_
  replace hF := hF.sel [0]
  simp only [ss, Nat.reduceBEq] at hF
  refine c_sr fun ops => ?_
  refine zm 1 hF rfl fun a hF => ?_
  refine c_n ?_
  replace hF := hF.sel [0, 4]
  simp only [ss, Nat.reduceBEq] at hF
  refine c_sr fun ops => ?_
  refine zm 1 hF rfl fun a hF => ?_
  refine c_n ?_
  replace hF := hF.sel [0, 4, 5]
  simp only [ss, Nat.reduceBEq] at hF
  refine c_seq fun Q1 k1 t1 => ?_
  refine c_block fun Q2 t2 => ?_
  refine c_loop (fun n a w => ∃ i acc sv B, n = l.length - i ∧ i ≤ l.length ∧ acc.length ≤ i ∧ labelsOf l = (labelsOf (l.drop i)).map (acc ++ ·) ∧ Fr 58 [(0, .string (mk l)), (4, sv), (5, .int .i64 i)] a ∧ Hp w0 w B ∧ Sl 9 1 B sv acc.length (strV acc)) ?_ ?_
  ·
   refine ⟨_, 0, [], _, _, rfl, Nat.zero_le _, Nat.zero_le _, by simp, hF.keep [0, 4, 5] rfl, hH, Sl.nil _ _⟩
  intro n a w hI Q3 k3 t3
  obtain ⟨i, acc, sv, B, hn, hi, hacc, hsp, hF, hH, hS⟩ := hI
  have hc := (l.getD i 0).toNat_lt
  refine c_seq fun Q4 k4 t4 => ?_
  refine c_sg ?_
  refine zm 2 hF rfl fun a hF => ?_
  refine zl hF rfl (r_len_str hF rfl rfl Tryz.underlying9) fun a hF => ?_
  refine zb hF rfl rfl rfl (b_ltn _ _ _ _) fun a hF => ?_
  refine zm 1 hF rfl fun a hF => ?_
  refine l_ask (d := 11) hF rfl (fun g3_4 => ?_) (fun g3_4 => ?_)
  ·
   have g3_4' := g3_4; try simp only [qq] at g3_4'
   have hend' := labelsOf_end hi (.inl (by omega))
   refine zn hF rfl g3_4 fun a hF => ?_
   refine zn hF rfl g3_4 fun a hF => ?_
   refine zn hF rfl g3_4 fun a hF => ?_
   refine zn hF rfl g3_4 fun a hF => ?_
   refine zl hF rfl (r_pickf hF rfl rfl g3_4 rfl) fun a hF => ?_
   refine c_n ?_
   refine c_no hF rfl rfl ?_
   refine wp_exit (t4.exit (t3.exit (t2.here (?_))))
   refine k1 ?_
   refine c_seq fun Q8 k8 t8 => ?_
   refine c_sg ?_
   refine zm 2 hF rfl fun a hF => ?_
   refine zl hF rfl (r_len_str hF rfl rfl Tryz.underlying9) fun a hF => ?_
   refine zb hF rfl rfl rfl (b_subi _ _ _ (by omega)) fun a hF => ?_
   refine zb hF rfl rfl rfl (b_ne _ _ _ _) fun a hF => ?_
   refine zm 1 hF rfl fun a hF => ?_
   refine ls_ask (d := 52) hF rfl (fun g9_5 => ?_) (fun g9_5 => ?_)
   ·
    have g9_5' := g9_5; try simp only [qq] at g9_5'
    refine zn hF rfl g9_5 fun a hF => ?_
    refine zn hF rfl g9_5 fun a hF => ?_
    refine zn hF rfl g9_5 fun a hF => ?_
    refine zl hF rfl (r_pickt hF rfl rfl g9_5 rfl) fun a hF => ?_
    refine c_n ?_
    replace hF := hF.sel [4, 56]
    simp only [ss, Nat.reduceBEq] at hF
    refine c_yes hF rfl rfl ?_
    refine c_sr fun ops => ?_
    refine zm 2 hF rfl fun a hF => ?_
    refine c_n ?_
    replace hF := hF.sel [2, 3]
    simp only [ss, Nat.reduceBEq] at hF
    refine wp_ret (t8.ret (hret (ret2 hF Tryz.results108 rfl rfl ?_)))
    have hs : split l = none := by
      rw [split, hsp, hend']
      split
      · rfl
      · first | rfl | (rw [if_neg (by omega)]; rfl) | (exfalso; omega)
    exact ⟨_, _, by rw [mayB, hs]; rfl, (hH.sub (List.nil_sublist _)), by rw [hs]; exact Sl.nil _ _⟩
   have g9_5' := g9_5; try simp only [qq] at g9_5'
   refine zy hF rfl g9_5 (r_move hF rfl rfl) fun a hF => ?_
   refine zy hF rfl g9_5 (r_len_str hF rfl rfl Tryz.underlying9) fun a hF => ?_
   refine zy hF rfl g9_5 (zr hF rfl rfl (b_gtn _ _ _ 255)) fun a hF => ?_
   refine zl hF rfl (r_pickf hF rfl rfl g9_5 rfl) fun a hF => ?_
   refine c_n ?_
   replace hF := hF.sel [4, 56]
   simp only [ss, Nat.reduceBEq] at hF
   refine c_if hF rfl (fun h56 => ?_) (fun h56 => ?_)
   ·
    try simp only [qq] at h56
    refine c_sr fun ops => ?_
    refine zm 2 hF rfl fun a hF => ?_
    refine c_n ?_
    replace hF := hF.sel [2, 3]
    simp only [ss, Nat.reduceBEq] at hF
    refine wp_ret (t8.ret (hret (ret2 hF Tryz.results108 rfl rfl ?_)))
    have hs : split l = none := by
      rw [split, hsp, hend']
      split
      · rfl
      · first | rfl | (rw [if_neg (by omega)]; rfl) | (exfalso; omega)
    exact ⟨_, _, by rw [mayB, hs]; rfl, (hH.sub (List.nil_sublist _)), by rw [hs]; exact Sl.nil _ _⟩
   try simp only [qq] at h56
   refine wp_skip ?_
   refine k8 ?_
   refine c_sr fun ops => ?_
   refine zm 3 hF rfl fun a hF => ?_
   refine c_n ?_
   replace hF := hF.sel [2, 3]
   simp only [ss, Nat.reduceBEq] at hF
   refine wp_ret (hret (ret2 hF Tryz.results108 rfl rfl ?_))
   have hs : split l = some acc := by
     rw [split, hsp, hend', if_neg (by omega), if_pos (by omega)]; simp
   exact ⟨_, _, by rw [mayB, hs]; rfl, hH, by rw [hs]; exact hS⟩
  have g3_4' := g3_4; try simp only [qq] at g3_4'
  refine zy hF rfl g3_4 (r_move hF rfl rfl) fun a hF => ?_
  refine zy hF rfl g3_4 (r_move hF rfl rfl) fun a hF => ?_
  refine zy hF rfl g3_4 (r_indexn hF _ rfl rfl rfl Tryz.underlying9 (by omega)) fun a hF => ?_
  refine zy hF rfl g3_4 (zr hF rfl rfl (b_nen _ _ _ 0)) fun a hF => ?_
  refine zl hF rfl (r_pickt hF rfl rfl g3_4 rfl) fun a hF => ?_
  refine c_n ?_
  refine c_fi hF rfl (fun h16 => ?_) (fun h16 => ?_)
  ·
   try simp only [qq] at h16
   have hend' := labelsOf_end hi (.inr (by simpa using h16))
   refine wp_exit (t4.exit (t3.exit (t2.here (?_))))
   refine k1 ?_
   refine c_seq fun Q7 k7 t7 => ?_
   refine c_sg ?_
   refine zm 2 hF rfl fun a hF => ?_
   refine zl hF rfl (r_len_str hF rfl rfl Tryz.underlying9) fun a hF => ?_
   refine zb hF rfl rfl rfl (b_subi _ _ _ (by omega)) fun a hF => ?_
   refine zb hF rfl rfl rfl (b_ne _ _ _ _) fun a hF => ?_
   refine zm 1 hF rfl fun a hF => ?_
   refine ls_ask (d := 52) hF rfl (fun g9_5 => ?_) (fun g9_5 => ?_)
   ·
    have g9_5' := g9_5; try simp only [qq] at g9_5'
    refine zn hF rfl g9_5 fun a hF => ?_
    refine zn hF rfl g9_5 fun a hF => ?_
    refine zn hF rfl g9_5 fun a hF => ?_
    refine zl hF rfl (r_pickt hF rfl rfl g9_5 rfl) fun a hF => ?_
    refine c_n ?_
    replace hF := hF.sel [4, 56]
    simp only [ss, Nat.reduceBEq] at hF
    refine c_yes hF rfl rfl ?_
    refine c_sr fun ops => ?_
    refine zm 2 hF rfl fun a hF => ?_
    refine c_n ?_
    replace hF := hF.sel [2, 3]
    simp only [ss, Nat.reduceBEq] at hF
    refine wp_ret (t7.ret (hret (ret2 hF Tryz.results108 rfl rfl ?_)))
    have hs : split l = none := by
      rw [split, hsp, hend']
      split
      · rfl
      · first | rfl | (rw [if_neg (by omega)]; rfl) | (exfalso; omega)
    exact ⟨_, _, by rw [mayB, hs]; rfl, (hH.sub (List.nil_sublist _)), by rw [hs]; exact Sl.nil _ _⟩
   have g9_5' := g9_5; try simp only [qq] at g9_5'
   refine zy hF rfl g9_5 (r_move hF rfl rfl) fun a hF => ?_
   refine zy hF rfl g9_5 (r_len_str hF rfl rfl Tryz.underlying9) fun a hF => ?_
   refine zy hF rfl g9_5 (zr hF rfl rfl (b_gtn _ _ _ 255)) fun a hF => ?_
   refine zl hF rfl (r_pickf hF rfl rfl g9_5 rfl) fun a hF => ?_
   refine c_n ?_
   replace hF := hF.sel [4, 56]
   simp only [ss, Nat.reduceBEq] at hF
   refine c_if hF rfl (fun h56 => ?_) (fun h56 => ?_)
   ·
    try simp only [qq] at h56
    refine c_sr fun ops => ?_
    refine zm 2 hF rfl fun a hF => ?_
    refine c_n ?_
    replace hF := hF.sel [2, 3]
    simp only [ss, Nat.reduceBEq] at hF
    refine wp_ret (t7.ret (hret (ret2 hF Tryz.results108 rfl rfl ?_)))
    have hs : split l = none := by
      rw [split, hsp, hend']
      split
      · rfl
      · first | rfl | (rw [if_neg (by omega)]; rfl) | (exfalso; omega)
    exact ⟨_, _, by rw [mayB, hs]; rfl, (hH.sub (List.nil_sublist _)), by rw [hs]; exact Sl.nil _ _⟩
   try simp only [qq] at h56
   refine wp_skip ?_
   refine k7 ?_
   refine c_sr fun ops => ?_
   refine zm 3 hF rfl fun a hF => ?_
   refine c_n ?_
   replace hF := hF.sel [2, 3]
   simp only [ss, Nat.reduceBEq] at hF
   refine wp_ret (hret (ret2 hF Tryz.results108 rfl rfl ?_))
   have hs : split l = some acc := by
     rw [split, hsp, hend', if_neg (by omega), if_pos (by omega)]; simp
   exact ⟨_, _, by rw [mayB, hs]; rfl, hH, by rw [hs]; exact hS⟩
  try simp only [qq] at h16
  refine wp_skip ?_
  refine k4 ?_
  refine c_block fun Q5 t5 => ?_
  refine c_sr fun ops => ?_
  refine zm 2 hF rfl fun a hF => ?_
  refine zl hF rfl (r_indexn hF _ rfl rfl rfl Tryz.underlying9 (by omega)) fun a hF => ?_
  refine zl hF rfl (r_convin hF rfl rfl (by rw [Tryz.underlying5]; rfl) Tryz.underlying3 (-9223372036854775808) 9223372036854775807 mn_i64 mx_i64 (by omega)) fun a hF => ?_
  refine zm 1 hF rfl fun a hF => ?_
  refine c_n ?_
  refine c_seq fun Q6 k6 t6 => ?_
  refine c_sg ?_
  refine zm 1 hF rfl fun a hF => ?_
  refine zb hF rfl rfl rfl (b_gtn _ _ _ 63) fun a hF => ?_
  refine zm 1 hF rfl fun a hF => ?_
  refine ls_ask (d := 23) hF rfl (fun g5_2 => ?_) (fun g5_2 => ?_)
  ·
   have g5_2' := g5_2; try simp only [qq] at g5_2'
   refine zn hF rfl g5_2 fun a hF => ?_
   refine zn hF rfl g5_2 fun a hF => ?_
   refine zn hF rfl g5_2 fun a hF => ?_
   refine zn hF rfl g5_2 fun a hF => ?_
   refine zn hF rfl g5_2 fun a hF => ?_
   refine zn hF rfl g5_2 fun a hF => ?_
   refine zn hF rfl g5_2 fun a hF => ?_
   refine zl hF rfl (r_pickt hF rfl rfl g5_2 rfl) fun a hF => ?_
   refine c_n ?_
   refine c_yes hF rfl rfl ?_
   refine c_sr fun ops => ?_
   refine zm 2 hF rfl fun a hF => ?_
   refine c_n ?_
   refine wp_ret (t6.ret (t5.ret (t3.ret (t2.ret (t1.ret (hret (ret2 hF Tryz.results108 rfl rfl ?_)))))))
   have hs : split l = none := by
     have hlen : (l.drop i).length = l.length - i := by simp
     have hg : (l.drop i).getD 0 0 = l.getD i 0 := by simp [List.getD_eq_getElem?_getD]
     have : labelsOf (l.drop i) = none := labelsOf_no (by intro e; rw [e] at hg; exact h16 (by rw [← hg]; rfl)) (firstB_no (by rw [hg, hlen]; omega))
     rw [split, hsp, this]; simp
   exact ⟨_, _, by rw [mayB, hs]; rfl, (hH.sub (List.nil_sublist _)), by rw [hs]; exact Sl.nil _ _⟩
  have g5_2' := g5_2; try simp only [qq] at g5_2'
  refine zy hF rfl g5_2 (r_move hF rfl rfl) fun a hF => ?_
  refine zy hF rfl g5_2 (zr hF rfl rfl (b_addn _ _ 1 (by omega))) fun a hF => ?_
  refine zy hF rfl g5_2 (r_move hF rfl rfl) fun a hF => ?_
  refine zy hF rfl g5_2 (zr hF rfl rfl (b_addn _ _ _ (by omega))) fun a hF => ?_
  refine zy hF rfl g5_2 (r_move hF rfl rfl) fun a hF => ?_
  refine zy hF rfl g5_2 (r_len_str hF rfl rfl Tryz.underlying9) fun a hF => ?_
  refine zy hF rfl g5_2 (zr hF rfl rfl (b_gtn _ _ _ _)) fun a hF => ?_
  refine zl hF rfl (r_pickf hF rfl rfl g5_2 rfl) fun a hF => ?_
  refine c_n ?_
  refine c_if hF rfl (fun h31 => ?_) (fun h31 => ?_)
  ·
   try simp only [qq] at h31
   refine c_sr fun ops => ?_
   refine zm 2 hF rfl fun a hF => ?_
   refine c_n ?_
   refine wp_ret (t6.ret (t5.ret (t3.ret (t2.ret (t1.ret (hret (ret2 hF Tryz.results108 rfl rfl ?_)))))))
   have hs : split l = none := by
     have hlen : (l.drop i).length = l.length - i := by simp
     have hg : (l.drop i).getD 0 0 = l.getD i 0 := by simp [List.getD_eq_getElem?_getD]
     have : labelsOf (l.drop i) = none := labelsOf_no (by intro e; rw [e] at hg; exact h16 (by rw [← hg]; rfl)) (firstB_no (by rw [hg, hlen]; omega))
     rw [split, hsp, this]; simp
   exact ⟨_, _, by rw [mayB, hs]; rfl, (hH.sub (List.nil_sublist _)), by rw [hs]; exact Sl.nil _ _⟩
  try simp only [qq] at h31
  refine wp_skip ?_
  refine k6 ?_
  refine c_sr fun ops => ?_
  refine zm 3 hF rfl fun a hF => ?_
  refine zb hF rfl rfl rfl (b_addn _ _ 1 (by omega)) fun a hF => ?_
  refine zm 1 hF rfl fun a hF => ?_
  refine zb hF rfl rfl rfl (b_addn _ _ 1 (by omega)) fun a hF => ?_
  refine zm 1 hF rfl fun a hF => ?_
  refine zb hF rfl rfl rfl (b_addn _ _ _ (by omega)) fun a hF => ?_
  refine zl hF rfl (r_slicen hF _ _ rfl rfl Tryz.underlying9 ⟨_, rfl⟩ ⟨_, rfl⟩ (by omega)) fun a hF => ?_
  refine ls_build1 hF hH rfl rfl rfl rfl rfl Tryz.underlying25 ti9 rfl (by decide) ?_
  intro a w g7_9 hH hE hF
  have hR := rsl_lit (n := 1) (size := 1) hH rfl (by decide)
  replace hH := hH.drop
  refine ls_append0 hF hH rfl rfl rfl rfl rfl rfl Tryz.underlying25 ti9 hS hR (one_of rfl) (by decide) (by omega) ?_
  intro a v7_10 w B7_10 hH hS hF
  refine zm 1 hF rfl fun a hF => ?_
  refine c_n ?_
  refine c_reg fun ops => ?_
  refine zm 1 hF rfl fun a hF => ?_
  refine zb hF rfl rfl rfl (b_addn _ _ 1 (by omega)) fun a hF => ?_
  refine zm 1 hF rfl fun a hF => ?_
  refine zb hF rfl rfl rfl (b_addn _ _ _ (by omega)) fun a hF => ?_
  refine zm 1 hF rfl fun a hF => ?_
  refine wpList_nil ?_
  refine t5.norm ?_
  refine k3 ?_
  have hg : (l.drop i).getD 0 0 = l.getD i 0 := by simp [List.getD_eq_getElem?_getD]
  have hst := labelsOf_step (m := l.drop i) (k := (l.getD i 0).toNat) (by rw [hg]) h16 (by omega) (by rw [List.length_drop]; omega)
  refine ⟨l.length - (i + 1 + (l.getD i 0).toNat), by omega, i + 1 + (l.getD i 0).toNat, acc ++ [(l.take (i + 1 + (l.getD i 0).toNat)).drop (i + 1)], _, _, rfl, by omega, by rw [List.length_append, List.length_singleton]; omega, ?_, hF.keep [0, 4, 5] rfl, hH, ?_⟩
  · rw [hsp, hst, List.drop_drop, List.take_drop, List.drop_drop]
    have e1 : i + ((l.getD i 0).toNat + 1) = i + 1 + (l.getD i 0).toNat := by omega
    rw [e1]
    cases labelsOf (l.drop (i + 1 + (l.getD i 0).toNat)) <;> simp
  · rw [← strV_snoc, List.length_append]; exact hS

theorem refMay_spec (l : Bs) (hl : l.length < 1000000) (w0 : World) : Rets Tryz.prog 66 [.string (mk l)] w0 fun v w' => v = .bool (mayB l) ∧ Ext w0 w' := by
  have hH := Hp.refl w0
  refine rets_start Tryz.func66 rfl Tryz.ntmps66 rfl fun a Q0 hF hret hend => ?_
  simp only [argsFrom, Nat.zero_add, Nat.reduceAdd] at hF
  refine c_sr fun ops => ?_
  refine zm 1 hF rfl fun a hF => ?_
  refine c_n ?_
  replace hF := hF.sel [0]
  simp only [ss, Nat.reduceBEq] at hF
  refine c_sr fun ops => ?_
  refine zm 1 hF rfl fun a hF => ?_
  refine zc hF rfl rfl fn108 (refLabels_spec l hl _) ?_
  rintro _ w ⟨sv, B, rfl, hB, hS⟩ a hF
  replace hH := hH.ext hB.below
  refine zm 5 hF rfl fun a hF => ?_
  refine c_n ?_
  replace hF := hF.sel [4]
  simp only [ss, Nat.reduceBEq] at hF
  refine c_sr fun ops => ?_
  refine zm 2 hF rfl fun a hF => ?_
  refine c_n ?_
  replace hF := hF.sel [2]
  simp only [ss, Nat.reduceBEq] at hF
  refine wp_ret (hret (ret1 hF Tryz.results66 rfl ?_))
  exact ⟨rfl, hH.below⟩

theorem low_take {l : Bs} {i : Nat} (h : i < l.length) : low (l.take (i + 1)) = low (l.take i) ++ [lowB (l.getD i 0)] := by
  rw [List.take_succ_eq_append_getElem h, show ∀ a b : Bs, low (a ++ b) = low a ++ low b from fun a b => List.map_append, show l.getD i 0 = l[i] by simp [List.getD_eq_getElem?_getD, h]]
  rfl
theorem low_length (l : Bs) : (low l).length = l.length := by simp [low]

theorem refLow_spec (l : Bs) (hl : l.length < 1000000) (w0 : World) : Rets Tryz.prog 110 [.string (mk l)] w0 fun v w' => v = .string (mk (low l)) ∧ Ext w0 w' := by
  have hH := Hp.refl w0
  refine rets_start Tryz.func110 rfl Tryz.ntmps110 rfl fun a Q0 hF hret hend => ?_
  simp only [argsFrom, Nat.zero_add, Nat.reduceAdd] at hF
  refine c_sr fun ops => ?_
  refine zm 1 hF rfl fun a hF => ?_
  refine c_n ?_
  replace hF := hF.sel [0]
  simp only [ss, Nat.reduceBEq] at hF
  refine c_sr fun ops => ?_
  refine zm 1 hF rfl fun a hF => ?_
  refine c_n ?_
  replace hF := hF.sel [0, 3]
  simp only [ss, Nat.reduceBEq] at hF
  refine c_seq fun Q1 k1 t1 => ?_
  refine c_sr fun ops => ?_
  refine zm 1 hF rfl fun a hF => ?_
  refine c_n ?_
  replace hF := hF.sel [0, 3, 4]
  simp only [ss, Nat.reduceBEq] at hF
  refine c_block fun Q2 t2 => ?_
  refine c_loop (fun n a w => ∃ i, n = l.length - i ∧ i ≤ l.length ∧ Fr 29 [(0, .string (mk l)), (3, .string (mk (low (l.take i)))), (4, .int .i64 i)] a ∧ Hp w0 w []) ?_ ?_
  ·
   exact ⟨_, 0, rfl, Nat.zero_le _, hF.keep [0, 3, 4] rfl, hH⟩
  intro n a w hI Q3 k3 t3
  obtain ⟨i, hn, hi, hF, hH⟩ := hI
  have hc := (l.getD i 0).toNat_lt
  have hlt := low_length (l.take i)
  rw [List.length_take] at hlt
  refine c_seq fun Q4 k4 t4 => ?_
  refine c_sr fun ops => ?_
  refine zm 2 hF rfl fun a hF => ?_
  refine zl hF rfl (r_len_str hF rfl rfl Tryz.underlying9) fun a hF => ?_
  refine zb hF rfl rfl rfl (b_ltn _ _ _ _) fun a hF => ?_
  refine c_n ?_
  refine c_fi hF rfl (fun h9 => ?_) (fun h9 => ?_)
  ·
   try simp only [qq] at h9
   refine wp_exit (t4.exit (t3.exit (t2.here (?_))))
   refine k1 ?_
   refine c_sr fun ops => ?_
   refine zm 2 hF rfl fun a hF => ?_
   refine c_n ?_
   replace hF := hF.sel [2]
   simp only [ss, Nat.reduceBEq] at hF
   refine wp_ret (hret (ret1 hF Tryz.results110 rfl ?_))
   have e : i = l.length := by omega
   subst e
   exact ⟨by rw [List.take_length], hH.below⟩
  try simp only [qq] at h9
  refine wp_skip ?_
  refine k4 ?_
  refine c_seq fun Q5 k5 t5 => ?_
  refine c_block fun Q6 t6 => ?_
  refine c_sr fun ops => ?_
  refine zm 2 hF rfl fun a hF => ?_
  refine zl hF rfl (r_indexn hF _ rfl rfl rfl Tryz.underlying9 (by omega)) fun a hF => ?_
  refine zm 1 hF rfl fun a hF => ?_
  refine c_n ?_
  refine c_cut (fun a w => Fr 29 [(0, .string (mk l)), (3, .string (mk (low (l.take i)))), (4, .int .i64 i), (5, .int .u8 ((lowB (l.getD i 0)).toNat : Int))] a ∧ Hp w0 w []) (fun Q7 k7 t7 => ?_) ?_
  ·
   refine c_sg ?_
   refine zm 1 hF rfl fun a hF => ?_
   refine zb hF rfl rfl rfl (b_gen _ _ _ 65) fun a hF => ?_
   refine zm 1 hF rfl fun a hF => ?_
   refine l_ask (d := 17) hF rfl (fun g6_2 => ?_) (fun g6_2 => ?_)
   ·
    have g6_2' := g6_2; try simp only [qq] at g6_2'
    refine zn hF rfl g6_2 fun a hF => ?_
    refine zn hF rfl g6_2 fun a hF => ?_
    refine zl hF rfl (r_pickf hF rfl rfl g6_2 rfl) fun a hF => ?_
    refine c_n ?_
    refine c_no hF rfl rfl ?_
    refine wp_skip ?_
    refine k7 ?_
    refine ⟨?_, hH⟩
    first | (rw [← e]; exact hF.keep [0, 3, 4, 5] rfl) | (rw [lowB, if_neg (by omega)]; exact hF.keep [0, 3, 4, 5] rfl)
   have g6_2' := g6_2; try simp only [qq] at g6_2'
   refine zy hF rfl g6_2 (r_move hF rfl rfl) fun a hF => ?_
   refine zy hF rfl g6_2 (zr hF rfl rfl (b_len _ _ _ 90)) fun a hF => ?_
   refine zl hF rfl (r_pickt hF rfl rfl g6_2 rfl) fun a hF => ?_
   refine c_n ?_
   refine c_fi hF rfl (fun h20 => ?_) (fun h20 => ?_)
   ·
    try simp only [qq] at h20
    refine wp_skip ?_
    refine k7 ?_
    refine ⟨?_, hH⟩
    first | (rw [← e]; exact hF.keep [0, 3, 4, 5] rfl) | (rw [lowB, if_neg (by omega)]; exact hF.keep [0, 3, 4, 5] rfl)
   try simp only [qq] at h20
   have e : (IntKind.wrap .u8 ((l.getD i 0).toNat + 32) : Int) = ((lowB (l.getD i 0)).toNat : Int) := by
     have h2 : (l.getD i 0 + 32).toNat = (l.getD i 0).toNat + 32 := by rw [UInt8.toNat_add, show (32 : UInt8).toNat = 32 from rfl]; omega
     rw [lowB, if_pos (by omega), h2, IntWalk.u8_in _ (by omega)]; rfl
   refine c_reg fun ops => ?_
   refine zm 1 hF rfl fun a hF => ?_
   refine zb hF rfl rfl rfl (b_add _ _ _ _) fun a hF => ?_
   refine zm 1 hF rfl fun a hF => ?_
   refine wpList_nil ?_
   refine k7 ?_
   refine ⟨?_, hH⟩
   first | (rw [← e]; exact hF.keep [0, 3, 4, 5] rfl) | (rw [lowB, if_neg (by omega)]; exact hF.keep [0, 3, 4, 5] rfl)
  intro a w ⟨hF, hH⟩
  refine c_reg fun ops => ?_
  refine zm 2 hF rfl fun a hF => ?_
  refine ls_build1 hF hH rfl rfl rfl rfl rfl Tryz.underlying88 ti5 rfl (by decide) ?_
  intro a w g8_2 hH hE hF
  refine zl hF rfl (r_convstr hF rfl rfl Tryz.underlying88 Tryz.underlying5 Tryz.underlying9 (show RSl _ 1 _ 1 (bytV [lowB (l.getD i 0)]) from rsl_lit (n := 1) hH rfl (by decide))) fun a hF => ?_
  refine zb hF rfl rfl rfl (b_sadd _ _ _ (by simp; omega)) fun a hF => ?_
  refine zm 1 hF rfl fun a hF => ?_
  refine wpList_nil ?_
  replace hH := hH.drop
  refine t6.norm ?_
  refine k5 ?_
  refine c_reg fun ops => ?_
  refine zm 1 hF rfl fun a hF => ?_
  refine zb hF rfl rfl rfl (b_addn _ _ 1 (by omega)) fun a hF => ?_
  refine zm 1 hF rfl fun a hF => ?_
  refine wpList_nil ?_
  refine k3 ?_
  exact ⟨l.length - (i + 1), by omega, i + 1, rfl, by omega, by rw [low_take h9]; exact hF.keep [0, 3, 4] rfl, hH⟩

theorem rsl_byte {w0 w : World} {H : List (Nat × Obj)} {g n : Nat} {e : TypeId} (hH : Hp w0 w ((g, .cells (Value.int .u8 (n : Int)).cells e (0, 0)) :: H)) (hn : n < 256) : RSl w 1 (.slice (some ⟨g, 0, none⟩) 1 1) 1 (bytV [UInt8.ofNat n]) := by
  have h := rsl_lit (n := 1) (size := 1) hH rfl (by decide)
  have e : (Value.int .u8 (n : Int)).cells.toList = bytV [UInt8.ofNat n] := by
    have : (UInt8.ofNat n).toNat = n := UInt8.toNat_ofNat_of_lt' (by simp [UInt8.size]; omega)
    simp only [bytV, List.map_cons, List.map_nil, this]; rfl
  rwa [e] at h

theorem refBytes_spec (ls' : List Bs) (v : Value) (w0 : World) (hR : RSl w0 1 v ls'.length (strV ls')) (hlen : (joinL ls').length < 1000000) (hlen2 : ls'.length ≤ 1000000) (h63 : ∀ x ∈ ls', x.length ≤ 63) : Rets Tryz.prog 111 [v] w0 fun v w' => v = .string (mk (joinL ls' ++ [0])) ∧ Ext w0 w' := by
  have hH := Hp.refl w0
  obtain ⟨ad, cap, rfl⟩ := hR.shape
  refine rets_start Tryz.func111 rfl Tryz.ntmps111 rfl fun a Q0 hF hret hend => ?_
  simp only [argsFrom, Nat.zero_add, Nat.reduceAdd] at hF
  refine c_sr fun ops => ?_
  refine zm 1 hF rfl fun a hF => ?_
  refine c_n ?_
  replace hF := hF.sel [0]
  simp only [ss, Nat.reduceBEq] at hF
  refine c_sr fun ops => ?_
  refine zm 1 hF rfl fun a hF => ?_
  refine c_n ?_
  replace hF := hF.sel [0, 3]
  simp only [ss, Nat.reduceBEq] at hF
  refine c_seq fun Q1 k1 t1 => ?_
  refine c_sr fun ops => ?_
  refine zm 1 hF rfl fun a hF => ?_
  refine c_n ?_
  replace hF := hF.sel [0, 3, 4]
  simp only [ss, Nat.reduceBEq] at hF
  refine c_block fun Q2 t2 => ?_
  refine c_loop (fun n a w => ∃ i, n = ls'.length - i ∧ i ≤ ls'.length ∧ Fr 28 [(0, .slice ad ls'.length cap), (3, .string (mk (joinL (ls'.take i)))), (4, .int .i64 i)] a ∧ Hp w0 w []) ?_ ?_
  ·
   exact ⟨_, 0, rfl, Nat.zero_le _, hF.keep [0, 3, 4] rfl, hH⟩
  intro n a w hI Q3 k3 t3
  obtain ⟨i, hn, hi, hF, hH⟩ := hI
  refine c_seq fun Q4 k4 t4 => ?_
  refine c_sr fun ops => ?_
  refine zm 2 hF rfl fun a hF => ?_
  refine zl hF rfl (r_len_sl hF rfl rfl Tryz.underlying25) fun a hF => ?_
  refine zb hF rfl rfl rfl (b_ltn _ _ _ _) fun a hF => ?_
  refine c_n ?_
  refine c_fi hF rfl (fun h8 => ?_) (fun h8 => ?_)
  ·
   try simp only [qq] at h8
   refine wp_exit (t4.exit (t3.exit (t2.here (?_))))
   refine k1 ?_
   have e : i = ls'.length := by omega
   subst e
   rw [List.take_length] at hF
   refine c_sr fun ops => ?_
   refine zm 1 hF rfl fun a hF => ?_
   refine zb hF rfl rfl rfl (b_sadd _ _ [0] (by simp; omega)) fun a hF => ?_
   refine zm 1 hF rfl fun a hF => ?_
   refine c_n ?_
   replace hF := hF.sel [2]
   simp only [ss, Nat.reduceBEq] at hF
   refine wp_ret (hret (ret1 hF Tryz.results111 rfl ?_))
   exact ⟨rfl, hH.below⟩
  try simp only [qq] at h8
  obtain ⟨b, off, rfl, hc⟩ := hR.at h8
  have hx := h63 _ (getD_mem h8)
  have hj := joinL_take h8
  have hjl : (joinL (ls'.take (i + 1))).length ≤ (joinL ls').length := joinL_take_le _ _
  rw [hj] at hjl
  simp only [List.length_append, List.length_cons] at hjl
  generalize ls'.getD i [] = y at *
  refine wp_skip ?_
  refine k4 ?_
  refine c_seq fun Q5 k5 t5 => ?_
  refine c_block fun Q6 t6 => ?_
  refine c_flow [0, 1, 2, 3, 10, 11, 12] [4, 5, 6, 7, 8, 9, 13, 14, 15] [] [] (by kernel_rfl) (by kernel_rfl) fun hB => ?_
  refine ps hF rfl rfl rfl rfl (fun w => r_move hF rfl rfl) fun a hF => ?_
  refine ps hF rfl rfl rfl rfl (fun w => r_move hF rfl rfl) fun a hF => ?_
  refine ps hF rfl rfl rfl rfl (fun w => r_move hF rfl rfl) fun a hF => ?_
  refine ps hF rfl rfl rfl rfl (fun w => r_ix1 hF _ rfl rfl rfl Tryz.underlying25 ti9 (by omega)) fun a hF => ?_
  refine ps hF rfl rfl rfl rfl (fun w => r_move hF rfl rfl) fun a hF => ?_
  refine ps hF rfl rfl rfl rfl (fun w => r_move hF rfl rfl) fun a hF => ?_
  refine ps hF rfl rfl rfl rfl (fun w => r_ix1 hF _ rfl rfl rfl Tryz.underlying25 ti9 (by omega)) fun a hF => ?_
  refine fl_start [15, 16, 17, 18, 19, 20, 24, 25, 3] hB (by kernel_rfl) hF ?_
  simp only [wo, hasN, Nat.reduceBEq, cond_true, cond_false] at hF ⊢
  refine fs1 rfl (by
   intro a w Lr hE hC hl
   replace hH := hH.ext hE
   have hF := hC.fr
   exact zl hF rfl (r_load hF rfl rfl fl9 (hH.cell hc)) fun a' hF' => wpList_nil (fl_end hC hF' (Ext.refl _) rfl)) ?_
  refine fs1 rfl (by
   intro a w Lr hE hC hl
   replace hH := hH.ext hE
   obtain ⟨_, s15, rfl⟩ := hl 15 (by decide) _ rfl
   replace hC := hC.more s15
   have hF := hC.fr
   exact zl hF rfl (r_len_str hF rfl rfl Tryz.underlying9) fun a' hF' => wpList_nil (fl_end hC hF' (Ext.refl _) rfl)) ?_
  refine fs1 rfl (by
   intro a w Lr hE hC hl
   replace hH := hH.ext hE
   obtain ⟨_, s16, rfl⟩ := hl 16 (by decide) _ rfl
   replace hC := hC.more s16
   have hF := hC.fr
   exact zl hF rfl (r_convin hF rfl rfl (by rw [Tryz.underlying3]; rfl) Tryz.underlying5 (0) 255 mn_u8 mx_u8 (by omega)) fun a' hF' => wpList_nil (fl_end hC hF' (Ext.refl _) rfl)) ?_
  refine fsr rfl (by
   intro a w Lr hE hC hl
   replace hH := hH.ext hE
   obtain ⟨_, s17, rfl⟩ := hl 17 (by decide) _ rfl
   replace hC := hC.more s17
   have hF := hC.fr
   refine ls_build1 hF (Hp.refl w) rfl rfl rfl rfl rfl Tryz.underlying88 ti5 rfl (by decide) ?_
   intro a' w' g hH' hE' hF'
   exact wpList_nil (fl_end hC hF' hE' (by exact rsl_byte hH' (by omega)))) ?_
  refine fs1 rfl (by
   intro a w Lr hE hC hl
   replace hH := hH.ext hE
   obtain ⟨v18, s18, p18⟩ := hl 18 (by decide) _ rfl
   replace hC := hC.more s18
   have hF := hC.fr
   exact zl hF rfl (r_convstr hF rfl rfl Tryz.underlying88 Tryz.underlying5 Tryz.underlying9 (p18)) fun a' hF' => wpList_nil (fl_end hC hF' (Ext.refl _) rfl)) ?_
  refine fs1 rfl (by
   intro a w Lr hE hC hl
   replace hH := hH.ext hE
   obtain ⟨_, s19, rfl⟩ := hl 19 (by decide) _ rfl
   replace hC := hC.more s19
   have hF := hC.fr
   exact zl hF rfl (zr hF rfl rfl (b_sadd _ _ _ (by simp; omega))) fun a' hF' => wpList_nil (fl_end hC hF' (Ext.refl _) rfl)) ?_
  refine fs1 rfl (by
   intro a w Lr hE hC hl
   replace hH := hH.ext hE
   have hF := hC.fr
   exact zl hF rfl (r_load hF rfl rfl fl9 (hH.cell hc)) fun a' hF' => wpList_nil (fl_end hC hF' (Ext.refl _) rfl)) ?_
  refine fs1 rfl (by
   intro a w Lr hE hC hl
   replace hH := hH.ext hE
   obtain ⟨_, s20, rfl⟩ := hl 20 (by decide) _ rfl
   replace hC := hC.more s20
   obtain ⟨_, s24, rfl⟩ := hl 24 (by decide) _ rfl
   replace hC := hC.more s24
   have hF := hC.fr
   exact zl hF rfl (zr hF rfl rfl (b_sadd _ _ _ (by simp; omega))) fun a' hF' => wpList_nil (fl_end hC hF' (Ext.refl _) rfl)) ?_
  refine fs1 rfl (by
   intro a w Lr hE hC hl
   replace hH := hH.ext hE
   obtain ⟨_, s25, rfl⟩ := hl 25 (by decide) _ rfl
   replace hC := hC.more s25
   have hF := hC.fr
   exact zl hF rfl (r_assign hF rfl rfl) fun a' hF' => wpList_nil (fl_end hC hF' (Ext.refl _) rfl)) ?_
  intro a w hE hF hall
  replace hH := hH.ext hE
  obtain ⟨_, s15, rfl⟩ := hall 15 _ rfl
  replace hF := hF.more s15
  obtain ⟨_, s16, rfl⟩ := hall 16 _ rfl
  replace hF := hF.more s16
  obtain ⟨_, s17, rfl⟩ := hall 17 _ rfl
  replace hF := hF.more s17
  obtain ⟨v18, s18, p18⟩ := hall 18 _ rfl
  replace hF := hF.more s18
  obtain ⟨_, s19, rfl⟩ := hall 19 _ rfl
  replace hF := hF.more s19
  obtain ⟨_, s20, rfl⟩ := hall 20 _ rfl
  replace hF := hF.more s20
  obtain ⟨_, s24, rfl⟩ := hall 24 _ rfl
  replace hF := hF.more s24
  obtain ⟨_, s25, rfl⟩ := hall 25 _ rfl
  replace hF := hF.more s25
  obtain ⟨_, s3, rfl⟩ := hall 3 _ rfl
  replace hF := hF.more s3
  clear hall
  refine wpList_nil ?_
  refine t6.norm ?_
  refine k5 ?_
  refine c_reg fun ops => ?_
  refine zm 1 hF rfl fun a hF => ?_
  refine zb hF rfl rfl rfl (b_addn _ _ 1 (by omega)) fun a hF => ?_
  refine zm 1 hF rfl fun a hF => ?_
  refine wpList_nil ?_
  refine k3 ?_
  exact ⟨ls'.length - (i + 1), by omega, i + 1, rfl, by omega, by rw [hj]; exact hF.keep [0, 3, 4] (by simp [sel, lk]), hH⟩

theorem strV_append (a b : List Bs) : strV a ++ strV b = strV (a ++ b) := by simp [strV]

theorem refFold_spec (l : Bs) (hl : l.length < 1000000) (w0 : World) : Rets Tryz.prog 68 [.string (mk l)] w0 fun v w' => v = .string (mk (fold l)) ∧ Ext w0 w' := by
  have hH := Hp.refl w0
  refine rets_start Tryz.func68 rfl Tryz.ntmps68 rfl fun a Q0 hF hret hend => ?_
  simp only [argsFrom, Nat.zero_add, Nat.reduceAdd] at hF
  refine c_sr fun ops => ?_
  refine zm 1 hF rfl fun a hF => ?_
  refine c_n ?_
  replace hF := hF.sel [0]
  simp only [ss, Nat.reduceBEq] at hF
  refine c_sr fun ops => ?_
  refine zm 1 hF rfl fun a hF => ?_
  refine zc hF rfl rfl fn108 (refLabels_spec l hl _) ?_
  rintro _ w1 ⟨sv, B, rfl, hB, hS⟩ a hF
  replace hH := hH.ext hB.below
  refine zm 5 hF rfl fun a hF => ?_
  refine c_n ?_
  replace hF := hF.sel [3, 4]
  simp only [ss, Nat.reduceBEq] at hF
  refine c_seq fun Q1 k1 t1 => ?_
  refine c_sr fun ops => ?_
  refine zm 1 hF rfl fun a hF => ?_
  refine zl hF rfl (r_not hF rfl rfl) fun a hF => ?_
  refine c_n ?_
  replace hF := hF.sel [3, 13]
  simp only [ss, Nat.reduceBEq] at hF
  refine c_if hF rfl (fun h13 => ?_) (fun h13 => ?_)
  ·
   try simp only [qq] at h13
   refine c_sr fun ops => ?_
   refine zm 1 hF rfl fun a hF => ?_
   refine c_n ?_
   replace hF := hF.sel [2]
   simp only [ss, Nat.reduceBEq] at hF
   refine wp_ret (t1.ret (hret (ret1 hF Tryz.results68 rfl ?_)))
   have h : split l = none := by simpa [mayB] using h13
   exact ⟨by rw [fold, h]; rfl, hH.below⟩
  try simp only [qq] at h13
  obtain ⟨acc, hacc⟩ : ∃ acc, split l = some acc := Option.isSome_iff_exists.1 (by simpa [mayB] using h13)
  rw [hacc] at hS
  simp only [Option.getD_some] at hS
  obtain ⟨hb1, hb2, hb3, hb4, hb5⟩ := split_le hacc
  have hL := hS.rsl hB fun p hp => hp
  obtain ⟨ad, cap, rfl⟩ := hL.shape
  have hE0 := hH.below
  replace hH := Hp.refl w1
  refine wp_skip ?_
  refine k1 ?_
  refine c_sr fun ops => ?_
  refine zm 1 hF rfl fun a hF => ?_
  refine c_n ?_
  replace hF := hF.sel [3, 5]
  simp only [ss, Nat.reduceBEq] at hF
  refine c_seq fun Q2 k2 t2 => ?_
  refine c_sr fun ops => ?_
  refine zm 1 hF rfl fun a hF => ?_
  refine c_n ?_
  replace hF := hF.sel [3, 5, 6]
  simp only [ss, Nat.reduceBEq] at hF
  refine c_block fun Q3 t3 => ?_
  refine c_loop (fun n a w => ∃ i sv B, n = acc.length - i ∧ i ≤ acc.length ∧ Fr 30 [(3, .slice ad acc.length cap), (5, sv), (6, .int .i64 i)] a ∧ Hp w1 w B ∧ Sl 9 1 B sv i (strV ((acc.take i).map low))) ?_ ?_
  ·
   exact ⟨_, 0, _, [], rfl, Nat.zero_le _, hF.keep [3, 5, 6] rfl, hH, Sl.nil _ _⟩
  clear hS hB hH hF
  intro n a w hI Q4 k4 t4
  obtain ⟨i, sv, B, hn, hi, hF, hH, hS⟩ := hI
  refine c_seq fun Q5 k5 t5 => ?_
  refine c_sr fun ops => ?_
  refine zm 2 hF rfl fun a hF => ?_
  refine zl hF rfl (r_len_sl hF rfl rfl Tryz.underlying25) fun a hF => ?_
  refine zb hF rfl rfl rfl (b_ltn _ _ _ _) fun a hF => ?_
  refine c_n ?_
  refine c_fi hF rfl (fun h17 => ?_) (fun h17 => ?_)
  ·
   try simp only [qq] at h17
   refine wp_exit (t5.exit (t4.exit (t3.here (?_))))
   refine k2 ?_
   have e : i = acc.length := by omega
   subst e
   rw [List.take_length] at hS
   refine c_sr fun ops => ?_
   refine zm 1 hF rfl fun a hF => ?_
   refine zc hF rfl rfl fn111 (refBytes_spec (acc.map low) sv _ (by simpa using hS.rsl hH fun p hp => hp) (by rw [joinL_low]; omega) (by simp; omega) (low_le hb2)) ?_
   rintro _ w ⟨rfl, hE⟩ a hF
   replace hH := hH.ext hE
   refine zm 1 hF rfl fun a hF => ?_
   refine c_n ?_
   replace hF := hF.sel [2]
   simp only [ss, Nat.reduceBEq] at hF
   refine wp_ret (hret (ret1 hF Tryz.results68 rfl ?_))
   exact ⟨by rw [fold, hacc], hE0.trans hH.below⟩
  try simp only [qq] at h17
  obtain ⟨b, off, rfl, hc⟩ := hL.at h17
  have hx := hb2 _ (getD_mem h17)
  refine wp_skip ?_
  refine k5 ?_
  refine c_seq fun Q6 k6 t6 => ?_
  refine c_block fun Q7 t7 => ?_
  refine c_reg fun ops => ?_
  refine zm 3 hF rfl fun a hF => ?_
  refine zl hF rfl (r_ix1 hF _ rfl rfl rfl Tryz.underlying25 ti9 (by omega)) fun a hF => ?_
  refine zl hF rfl (r_load hF rfl rfl fl9 (hH.cell hc)) fun a hF => ?_
  refine zc hF rfl rfl fn110 (refLow_spec _ (by omega) _) ?_
  rintro _ w ⟨rfl, hE⟩ a hF
  replace hH := hH.ext hE
  refine ls_build1 hF hH rfl rfl rfl rfl rfl Tryz.underlying25 ti9 rfl (by decide) ?_
  intro a w g8_6 hH hE hF
  have hR := rsl_lit (n := 1) (size := 1) hH rfl (by decide)
  replace hH := hH.drop
  refine ls_append0 hF hH rfl rfl rfl rfl rfl rfl Tryz.underlying25 ti9 hS hR (one_of rfl) (by decide) (by omega) ?_
  intro a v8_7 w B8_7 hH hS hF
  refine zm 1 hF rfl fun a hF => ?_
  refine wpList_nil ?_
  refine t7.norm ?_
  refine k6 ?_
  refine c_reg fun ops => ?_
  refine zm 1 hF rfl fun a hF => ?_
  refine zb hF rfl rfl rfl (b_addn _ _ 1 (by omega)) fun a hF => ?_
  refine zm 1 hF rfl fun a hF => ?_
  refine wpList_nil ?_
  refine k4 ?_
  refine ⟨acc.length - (i + 1), by omega, i + 1, _, _, rfl, by omega, hF.keep [3, 5, 6] rfl, hH, ?_⟩
  rw [List.take_succ_eq_append_getElem h17, List.map_append, ← strV_append]
  have e : acc.getD i [] = acc[i] := by simp [List.getD_eq_getElem?_getD, h17]
  rw [e] at hS
  exact hS

theorem refSame_spec (l m : Bs) (hl : l.length < 1000000) (hm : m.length < 1000000) (w0 : World) : Rets Tryz.prog 54 [.string (mk l), .string (mk m)] w0 fun v w' => v = .bool (sameB l m) ∧ Ext w0 w' := by
  have hH := Hp.refl w0
  refine rets_start Tryz.func54 rfl Tryz.ntmps54 rfl fun a Q0 hF hret hend => ?_
  simp only [argsFrom, Nat.zero_add, Nat.reduceAdd] at hF
  refine c_sr fun ops => ?_
  refine zm 1 hF rfl fun a hF => ?_
  refine c_n ?_
  replace hF := hF.sel [0, 1]
  simp only [ss, Nat.reduceBEq] at hF
  refine c_sg ?_
  refine zm 1 hF rfl fun a hF => ?_
  refine zc hF rfl rfl fn66 (refMay_spec l hl _) ?_
  rintro _ w ⟨rfl, hE⟩ a hF
  replace hH := hH.ext hE
  refine zm 1 hF rfl fun a hF => ?_
  refine l_ask (d := 7) hF rfl (fun g1_2 => ?_) (fun g1_2 => ?_)
  ·
   have g1_2' := g1_2; try simp only [qq] at g1_2'
   refine zn hF rfl g1_2 fun a hF => ?_
   refine zn hF rfl g1_2 fun a hF => ?_
   refine zl hF rfl (r_pickf hF rfl rfl g1_2 rfl) fun a hF => ?_
   refine zm 1 hF rfl fun a hF => ?_
   refine zn hF rfl rfl fun a hF => ?_
   refine zn hF rfl rfl fun a hF => ?_
   refine zn hF rfl rfl fun a hF => ?_
   refine zn hF rfl rfl fun a hF => ?_
   refine zn hF rfl rfl fun a hF => ?_
   refine zl hF rfl (r_pickf hF rfl rfl rfl rfl) fun a hF => ?_
   refine zm 1 hF rfl fun a hF => ?_
   refine c_n ?_
   replace hF := hF.sel [4]
   simp only [ss, Nat.reduceBEq] at hF
   refine wp_ret (hret (ret1 hF Tryz.results54 rfl ?_))
   refine ⟨?_, hH.below⟩
   simp_all [sameB]
  have g1_2' := g1_2; try simp only [qq] at g1_2'
  refine zy hF rfl g1_2 (r_move hF rfl rfl) fun a hF => ?_
  refine zyc hF rfl g1_2 rfl fn66 (refMay_spec m hm _) ?_
  rintro _ w ⟨rfl, hE⟩ a hF
  replace hH := hH.ext hE
  refine zl hF rfl (r_pickt hF rfl rfl g1_2 rfl) fun a hF => ?_
  refine zm 1 hF rfl fun a hF => ?_
  refine l_ask (d := 11) hF rfl (fun g1_6 => ?_) (fun g1_6 => ?_)
  ·
   have g1_6' := g1_6; try simp only [qq] at g1_6'
   refine zn hF rfl g1_6 fun a hF => ?_
   refine zn hF rfl g1_6 fun a hF => ?_
   refine zn hF rfl g1_6 fun a hF => ?_
   refine zn hF rfl g1_6 fun a hF => ?_
   refine zn hF rfl g1_6 fun a hF => ?_
   refine zl hF rfl (r_pickf hF rfl rfl g1_6 rfl) fun a hF => ?_
   refine zm 1 hF rfl fun a hF => ?_
   refine c_n ?_
   replace hF := hF.sel [4]
   simp only [ss, Nat.reduceBEq] at hF
   refine wp_ret (hret (ret1 hF Tryz.results54 rfl ?_))
   refine ⟨?_, hH.below⟩
   simp_all [sameB]
  have g1_6' := g1_6; try simp only [qq] at g1_6'
  refine zy hF rfl g1_6 (r_move hF rfl rfl) fun a hF => ?_
  refine zyc hF rfl g1_6 rfl fn68 (refFold_spec l hl _) ?_
  rintro _ w ⟨rfl, hE⟩ a hF
  replace hH := hH.ext hE
  refine zy hF rfl g1_6 (r_move hF rfl rfl) fun a hF => ?_
  refine zyc hF rfl g1_6 rfl fn68 (refFold_spec m hm _) ?_
  rintro _ w ⟨rfl, hE⟩ a hF
  replace hH := hH.ext hE
  refine zy hF rfl g1_6 (zr hF rfl rfl (b_seq _ _ _)) fun a hF => ?_
  refine zl hF rfl (r_pickt hF rfl rfl g1_6 rfl) fun a hF => ?_
  refine zm 1 hF rfl fun a hF => ?_
  refine c_n ?_
  replace hF := hF.sel [4]
  simp only [ss, Nat.reduceBEq] at hF
  refine wp_ret (hret (ret1 hF Tryz.results54 rfl ?_))
  refine ⟨?_, hH.below⟩
  simp_all [sameB]

theorem lcmp_rev {xs ys : List Bs} {k : Nat} (h1 : k + 1 ≤ xs.length) (h2 : k + 1 ≤ ys.length) :
    lcmp ((xs.map low).reverse.drop k) ((ys.map low).reverse.drop k) = if bcmp (low (xs.getD (xs.length - (k + 1)) [])) (low (ys.getD (ys.length - (k + 1)) [])) = 0 then lcmp ((xs.map low).reverse.drop (k + 1)) ((ys.map low).reverse.drop (k + 1)) else bcmp (low (xs.getD (xs.length - (k + 1)) [])) (low (ys.getD (ys.length - (k + 1)) [])) := by
  have e : ∀ zs : List Bs, k + 1 ≤ zs.length → (zs.map low).reverse.getD k [] = low (zs.getD (zs.length - (k + 1)) []) := by
    intro zs h
    rw [List.getD_eq_getElem?_getD, List.getD_eq_getElem?_getD, List.getElem?_reverse (by simp; omega)]
    simp only [List.length_map, List.getElem?_map]
    rw [show zs.length - 1 - k = zs.length - (k + 1) by omega, List.getElem?_eq_getElem (by omega)]
    rfl
  rw [lcmp_drop (by simp; omega) (by simp; omega), e xs h1, e ys h2]
theorem lcmp_end {xs ys : List Bs} {k : Nat} (hk1 : k ≤ xs.length) (hk2 : k ≤ ys.length) (h : xs.length = k ∨ ys.length = k) :
    lcmp ((xs.map low).reverse.drop k) ((ys.map low).reverse.drop k) = icmp xs.length ys.length := by
  have e : ∀ zs : List Bs, ((zs.map low).reverse.drop k).length = zs.length - k := fun zs => by simp
  have e1 := e xs
  have e2 := e ys
  generalize (xs.map low).reverse.drop k = a at *
  generalize (ys.map low).reverse.drop k = b at *
  unfold icmp
  cases a with
  | nil => cases b with
    | nil => simp at e1 e2; rw [if_neg (by omega), if_neg (by omega)]; rfl
    | cons y b => simp at e1 e2; rw [if_pos (by omega)]; rfl
  | cons x a => cases b with
    | nil => simp at e1 e2; rw [if_neg (by omega), if_pos (by omega)]; rfl
    | cons y b => simp at e1 e2; omega
theorem ncmp_no {l m : Bs} (h : mayB l = false ∨ mayB m = false) : ncmp l m = 0 := by
  unfold ncmp
  rcases h with h | h
  · rw [show split l = none by simpa [mayB] using h]
  · rw [show split m = none by simpa [mayB] using h]; cases split l <;> rfl

theorem refCompare_spec (l m : Bs) (hl : l.length < 1000000) (hm : m.length < 1000000) (w0 : World) : Rets Tryz.prog 112 [.string (mk l), .string (mk m)] w0 fun v w' => v = .int .i64 (ncmp l m) ∧ Ext w0 w' := by
  have hH := Hp.refl w0
  refine rets_start Tryz.func112 rfl Tryz.ntmps112 rfl fun a Q0 hF hret hend => ?_
  simp only [argsFrom, Nat.zero_add, Nat.reduceAdd] at hF
  refine c_sr fun ops => ?_
  refine zm 1 hF rfl fun a hF => ?_
  refine c_n ?_
  replace hF := hF.sel [0, 1]
  simp only [ss, Nat.reduceBEq] at hF
  refine c_sr fun ops => ?_
  refine zm 1 hF rfl fun a hF => ?_
  refine zc hF rfl rfl fn108 (refLabels_spec l hl _) ?_
  rintro _ w ⟨sv, B, rfl, hB, hS⟩ a hF
  replace hH := hH.ext hB.below
  refine zm 5 hF rfl fun a hF => ?_
  refine c_n ?_
  replace hF := hF.sel [1, 5, 6]
  simp only [ss, Nat.reduceBEq] at hF
  have hX := hS.rsl hB fun p hp => hp
  refine c_sr fun ops => ?_
  refine zm 1 hF rfl fun a hF => ?_
  refine zc hF rfl rfl fn108 (refLabels_spec m hm _) ?_
  rintro _ w2 ⟨sv2, B2, rfl, hB2, hS2⟩ a hF
  replace hH := hH.ext hB2.below
  refine zm 5 hF rfl fun a hF => ?_
  refine c_n ?_
  replace hF := hF.sel [5, 6, 7, 8]
  simp only [ss, Nat.reduceBEq] at hF
  have hY := hS2.rsl hB2 fun p hp => hp
  replace hX := hX.ext hB2.below
  refine c_seq fun Q1 k1 t1 => ?_
  refine c_sg ?_
  refine zm 1 hF rfl fun a hF => ?_
  refine zl hF rfl (r_not hF rfl rfl) fun a hF => ?_
  refine zm 1 hF rfl fun a hF => ?_
  refine ls_ask (d := 24) hF rfl (fun g3_2 => ?_) (fun g3_2 => ?_)
  ·
   have g3_2' := g3_2; try simp only [qq] at g3_2'
   refine zn hF rfl g3_2 fun a hF => ?_
   refine zn hF rfl g3_2 fun a hF => ?_
   refine zl hF rfl (r_pickt hF rfl rfl g3_2 rfl) fun a hF => ?_
   refine c_n ?_
   replace hF := hF.sel [5, 7, 27]
   simp only [ss, Nat.reduceBEq] at hF
   refine c_yes hF rfl rfl ?_
   refine c_sr fun ops => ?_
   refine zm 1 hF rfl fun a hF => ?_
   refine c_n ?_
   replace hF := hF.sel [4]
   simp only [ss, Nat.reduceBEq] at hF
   refine wp_ret (t1.ret (hret (ret1 hF Tryz.results112 rfl ?_)))
   exact ⟨by rw [ncmp_no (by simp_all)], hH.below⟩
  have g3_2' := g3_2; try simp only [qq] at g3_2'
  refine zy hF rfl g3_2 (r_move hF rfl rfl) fun a hF => ?_
  refine zy hF rfl g3_2 (r_not hF rfl rfl) fun a hF => ?_
  refine zl hF rfl (r_pickf hF rfl rfl g3_2 rfl) fun a hF => ?_
  refine c_n ?_
  replace hF := hF.sel [5, 7, 27]
  simp only [ss, Nat.reduceBEq] at hF
  refine c_if hF rfl (fun h27 => ?_) (fun h27 => ?_)
  ·
   try simp only [qq] at h27
   refine c_sr fun ops => ?_
   refine zm 1 hF rfl fun a hF => ?_
   refine c_n ?_
   replace hF := hF.sel [4]
   simp only [ss, Nat.reduceBEq] at hF
   refine wp_ret (t1.ret (hret (ret1 hF Tryz.results112 rfl ?_)))
   exact ⟨by rw [ncmp_no (by simp_all)], hH.below⟩
  try simp only [qq] at h27
  obtain ⟨xs, hxs⟩ : ∃ acc, split l = some acc := Option.isSome_iff_exists.1 (show (split l).isSome = true by simp_all [mayB])
  obtain ⟨ys, hys⟩ : ∃ acc, split m = some acc := Option.isSome_iff_exists.1 (show (split m).isSome = true by simp_all [mayB])
  have hn : ncmp l m = lcmp (xs.map low).reverse (ys.map low).reverse := by rw [ncmp, hxs, hys]
  have hlx := split_le hxs
  have hly := split_le hys
  rw [hxs] at hX
  rw [hys] at hY
  simp only [Option.getD_some] at hX hY
  obtain ⟨ad, cap, rfl⟩ := hX.shape
  obtain ⟨ad2, cap2, rfl⟩ := hY.shape
  have hE0 := hH.below
  replace hH := Hp.refl w2
  refine wp_skip ?_
  refine k1 ?_
  refine c_seq fun Q2 k2 t2 => ?_
  refine c_sr fun ops => ?_
  refine zm 1 hF rfl fun a hF => ?_
  refine c_n ?_
  replace hF := hF.sel [5, 7, 9]
  simp only [ss, Nat.reduceBEq] at hF
  refine c_block fun Q3 t3 => ?_
  refine c_loop (fun n a w => ∃ k, n = xs.length - k ∧ k ≤ xs.length ∧ k ≤ ys.length ∧ ncmp l m = lcmp ((xs.map low).reverse.drop k) ((ys.map low).reverse.drop k) ∧ Fr 72 [(5, .slice ad xs.length cap), (7, .slice ad2 ys.length cap2), (9, .int .i64 (k + 1 : Nat))] a ∧ Hp w2 w []) ?_ ?_
  ·
   exact ⟨_, 0, rfl, Nat.zero_le _, Nat.zero_le _, hn, hF.keep [5, 7, 9] rfl, hH⟩
  clear hS hS2 hF hH
  intro n a w hI Q4 k4 t4
  obtain ⟨k, hm', hk1, hk2, he, hF, hH⟩ := hI
  refine c_seq fun Q5 k5 t5 => ?_
  refine c_sg ?_
  refine zm 2 hF rfl fun a hF => ?_
  refine zl hF rfl (r_len_sl hF rfl rfl Tryz.underlying25) fun a hF => ?_
  refine zb hF rfl rfl rfl (b_len _ _ _ _) fun a hF => ?_
  refine zm 1 hF rfl fun a hF => ?_
  refine l_ask (d := 32) hF rfl (fun g6_4 => ?_) (fun g6_4 => ?_)
  ·
   have g6_4' := g6_4; try simp only [qq] at g6_4'
   refine zn hF rfl g6_4 fun a hF => ?_
   refine zn hF rfl g6_4 fun a hF => ?_
   refine zn hF rfl g6_4 fun a hF => ?_
   refine zn hF rfl g6_4 fun a hF => ?_
   refine zl hF rfl (r_pickf hF rfl rfl g6_4 rfl) fun a hF => ?_
   refine c_n ?_
   refine c_no hF rfl rfl ?_
   refine wp_exit (t5.exit (t4.exit (t3.here (?_))))
   refine k2 ?_
   refine c_seq fun Q12 k12 t12 => ?_
   have hend' : ncmp l m = icmp xs.length ys.length := by rw [he, lcmp_end hk1 hk2 (by omega)]
   refine c_sr fun ops => ?_
   refine zm 1 hF rfl fun a hF => ?_
   refine zl hF rfl (r_len_sl hF rfl rfl Tryz.underlying25) fun a hF => ?_
   refine zm 1 hF rfl fun a hF => ?_
   refine zl hF rfl (r_len_sl hF rfl rfl Tryz.underlying25) fun a hF => ?_
   refine zb hF rfl rfl rfl (b_ltn _ _ _ _) fun a hF => ?_
   refine c_n ?_
   replace hF := hF.sel [5, 7, 66]
   simp only [ss, Nat.reduceBEq] at hF
   refine c_if hF rfl (fun h66 => ?_) (fun h66 => ?_)
   ·
    try simp only [qq] at h66
    refine c_sr fun ops => ?_
    refine zm 1 hF rfl fun a hF => ?_
    refine c_n ?_
    replace hF := hF.sel [4]
    simp only [ss, Nat.reduceBEq] at hF
    refine wp_ret (t12.ret (hret (ret1 hF Tryz.results112 rfl ?_)))
    exact ⟨by rw [hend', icmp, if_pos (by omega)], hE0.trans hH.below⟩
   try simp only [qq] at h66
   refine wp_skip ?_
   refine k12 ?_
   refine c_seq fun Q13 k13 t13 => ?_
   refine c_sr fun ops => ?_
   refine zm 1 hF rfl fun a hF => ?_
   refine zl hF rfl (r_len_sl hF rfl rfl Tryz.underlying25) fun a hF => ?_
   refine zm 1 hF rfl fun a hF => ?_
   refine zl hF rfl (r_len_sl hF rfl rfl Tryz.underlying25) fun a hF => ?_
   refine zb hF rfl rfl rfl (b_gtn _ _ _ _) fun a hF => ?_
   refine c_n ?_
   replace hF := hF.sel [71]
   simp only [ss, Nat.reduceBEq] at hF
   refine c_if hF rfl (fun h71 => ?_) (fun h71 => ?_)
   ·
    try simp only [qq] at h71
    refine c_sr fun ops => ?_
    refine zm 1 hF rfl fun a hF => ?_
    refine c_n ?_
    replace hF := hF.sel [4]
    simp only [ss, Nat.reduceBEq] at hF
    refine wp_ret (t13.ret (hret (ret1 hF Tryz.results112 rfl ?_)))
    exact ⟨by rw [hend', icmp, if_neg (by omega), if_pos (by omega)], hE0.trans hH.below⟩
   try simp only [qq] at h71
   refine wp_skip ?_
   refine k13 ?_
   refine c_sr fun ops => ?_
   refine zm 1 hF rfl fun a hF => ?_
   refine c_n ?_
   replace hF := hF.sel [4]
   simp only [ss, Nat.reduceBEq] at hF
   refine wp_ret (hret (ret1 hF Tryz.results112 rfl ?_))
   exact ⟨by rw [hend', icmp, if_neg (by omega), if_neg (by omega)], hE0.trans hH.below⟩
  have g6_4' := g6_4; try simp only [qq] at g6_4'
  refine zy hF rfl g6_4 (r_move hF rfl rfl) fun a hF => ?_
  refine zy hF rfl g6_4 (r_move hF rfl rfl) fun a hF => ?_
  refine zy hF rfl g6_4 (r_len_sl hF rfl rfl Tryz.underlying25) fun a hF => ?_
  refine zy hF rfl g6_4 (zr hF rfl rfl (b_len _ _ _ _)) fun a hF => ?_
  refine zl hF rfl (r_pickt hF rfl rfl g6_4 rfl) fun a hF => ?_
  refine c_n ?_
  refine c_fi hF rfl (fun h37 => ?_) (fun h37 => ?_)
  ·
   try simp only [qq] at h37
   refine wp_exit (t5.exit (t4.exit (t3.here (?_))))
   refine k2 ?_
   refine c_seq fun Q10 k10 t10 => ?_
   have hend' : ncmp l m = icmp xs.length ys.length := by rw [he, lcmp_end hk1 hk2 (by omega)]
   refine c_sr fun ops => ?_
   refine zm 1 hF rfl fun a hF => ?_
   refine zl hF rfl (r_len_sl hF rfl rfl Tryz.underlying25) fun a hF => ?_
   refine zm 1 hF rfl fun a hF => ?_
   refine zl hF rfl (r_len_sl hF rfl rfl Tryz.underlying25) fun a hF => ?_
   refine zb hF rfl rfl rfl (b_ltn _ _ _ _) fun a hF => ?_
   refine c_n ?_
   replace hF := hF.sel [5, 7, 66]
   simp only [ss, Nat.reduceBEq] at hF
   refine c_if hF rfl (fun h66 => ?_) (fun h66 => ?_)
   ·
    try simp only [qq] at h66
    refine c_sr fun ops => ?_
    refine zm 1 hF rfl fun a hF => ?_
    refine c_n ?_
    replace hF := hF.sel [4]
    simp only [ss, Nat.reduceBEq] at hF
    refine wp_ret (t10.ret (hret (ret1 hF Tryz.results112 rfl ?_)))
    exact ⟨by rw [hend', icmp, if_pos (by omega)], hE0.trans hH.below⟩
   try simp only [qq] at h66
   refine wp_skip ?_
   refine k10 ?_
   refine c_seq fun Q11 k11 t11 => ?_
   refine c_sr fun ops => ?_
   refine zm 1 hF rfl fun a hF => ?_
   refine zl hF rfl (r_len_sl hF rfl rfl Tryz.underlying25) fun a hF => ?_
   refine zm 1 hF rfl fun a hF => ?_
   refine zl hF rfl (r_len_sl hF rfl rfl Tryz.underlying25) fun a hF => ?_
   refine zb hF rfl rfl rfl (b_gtn _ _ _ _) fun a hF => ?_
   refine c_n ?_
   replace hF := hF.sel [71]
   simp only [ss, Nat.reduceBEq] at hF
   refine c_if hF rfl (fun h71 => ?_) (fun h71 => ?_)
   ·
    try simp only [qq] at h71
    refine c_sr fun ops => ?_
    refine zm 1 hF rfl fun a hF => ?_
    refine c_n ?_
    replace hF := hF.sel [4]
    simp only [ss, Nat.reduceBEq] at hF
    refine wp_ret (t11.ret (hret (ret1 hF Tryz.results112 rfl ?_)))
    exact ⟨by rw [hend', icmp, if_neg (by omega), if_pos (by omega)], hE0.trans hH.below⟩
   try simp only [qq] at h71
   refine wp_skip ?_
   refine k11 ?_
   refine c_sr fun ops => ?_
   refine zm 1 hF rfl fun a hF => ?_
   refine c_n ?_
   replace hF := hF.sel [4]
   simp only [ss, Nat.reduceBEq] at hF
   refine wp_ret (hret (ret1 hF Tryz.results112 rfl ?_))
   exact ⟨by rw [hend', icmp, if_neg (by omega), if_neg (by omega)], hE0.trans hH.below⟩
  try simp only [qq] at h37
  obtain ⟨b, off, rfl, hc⟩ := hX.at (i := xs.length - (k + 1)) (by omega)
  obtain ⟨b2, off2, rfl, hc2⟩ := hY.at (i := ys.length - (k + 1)) (by omega)
  have hx1 := hlx.2.1 _ (getD_mem (show xs.length - (k + 1) < xs.length by omega))
  have hy1 := hly.2.1 _ (getD_mem (show ys.length - (k + 1) < ys.length by omega))
  refine wp_skip ?_
  refine k5 ?_
  refine c_seq fun Q6 k6 t6 => ?_
  refine c_block fun Q7 t7 => ?_
  refine c_seq fun Q8 k8 t8 => ?_
  refine q_reg (by kernel_rfl) (by kernel_rfl) ?_
  refine qs hF rfl rfl rfl (fun w hw => r_move hF rfl rfl) fun a hF => ?_
  refine qs hF rfl rfl rfl (fun w hw => r_move hF rfl rfl) fun a hF => ?_
  refine qs hF rfl rfl rfl (fun w hw => r_len_sl hF rfl rfl Tryz.underlying25) fun a hF => ?_
  refine qs hF rfl rfl rfl (fun w hw => r_move hF rfl rfl) fun a hF => ?_
  refine qs hF rfl rfl rfl (fun w hw => zr hF rfl rfl (b_subn _ _ _ (by omega))) fun a hF => ?_
  refine qs hF rfl rfl rfl (fun w hw => r_ix1 hF _ rfl rfl rfl Tryz.underlying25 ti9 (by omega)) fun a hF => ?_
  refine qs hF rfl rfl rfl (fun w hw => r_load hF rfl rfl fl9 (hw.cell (hH.cell hc))) fun a hF => ?_
  refine qs_call hF rfl rfl rfl rfl rfl fn110 (fun w hw => refLow_spec _ (by omega) _) fun a hF => ?_
  refine qs hF rfl rfl rfl (fun w hw => r_move hF rfl rfl) fun a hF => ?_
  refine qs hF rfl rfl rfl (fun w hw => r_move hF rfl rfl) fun a hF => ?_
  refine qs hF rfl rfl rfl (fun w hw => r_len_sl hF rfl rfl Tryz.underlying25) fun a hF => ?_
  refine qs hF rfl rfl rfl (fun w hw => r_move hF rfl rfl) fun a hF => ?_
  refine qs hF rfl rfl rfl (fun w hw => zr hF rfl rfl (b_subn _ _ _ (by omega))) fun a hF => ?_
  refine qs hF rfl rfl rfl (fun w hw => r_ix1 hF _ rfl rfl rfl Tryz.underlying25 ti9 (by omega)) fun a hF => ?_
  refine qs hF rfl rfl rfl (fun w hw => r_load hF rfl rfl fl9 (hw.cell (hH.cell hc2))) fun a hF => ?_
  refine qs_call hF rfl rfl rfl rfl rfl fn110 (fun w hw => refLow_spec _ (by omega) _) fun a hF => ?_
  refine qs hF rfl rfl rfl (fun w hw => r_assign hF rfl rfl) fun a hF => ?_
  refine qs hF rfl rfl rfl (fun w hw => r_assign hF rfl rfl) fun a hF => ?_
  refine q_nil fun w hE => ?_
  replace hH := hH.ext hE
  refine k8 ?_
  refine c_seq fun Q9 k9 t9 => ?_
  refine c_sr fun ops => ?_
  refine zm 2 hF rfl fun a hF => ?_
  refine zb hF rfl rfl rfl (b_slt _ _ _) fun a hF => ?_
  refine c_n ?_
  refine c_if hF rfl (fun h58 => ?_) (fun h58 => ?_)
  ·
   try simp only [qq] at h58
   refine c_sr fun ops => ?_
   refine zm 1 hF rfl fun a hF => ?_
   refine c_n ?_
   refine wp_ret (t9.ret (t7.ret (t6.ret (t4.ret (t3.ret (t2.ret (hret (ret1 hF Tryz.results112 rfl ?_))))))))
   have hb : bcmp (low (xs.getD (xs.length - (k + 1)) [])) (low (ys.getD (ys.length - (k + 1)) [])) = -1 := by simp only [bcmp, h58, if_true]
   exact ⟨by rw [he, lcmp_rev (by omega) (by omega), hb]; rfl, hE0.trans hH.below⟩
  try simp only [qq] at h58
  refine wp_skip ?_
  refine k9 ?_
  refine c_sr fun ops => ?_
  refine zm 2 hF rfl fun a hF => ?_
  refine zb hF rfl rfl rfl (b_sgt _ _ _) fun a hF => ?_
  refine c_n ?_
  refine c_if hF rfl (fun h61 => ?_) (fun h61 => ?_)
  ·
   try simp only [qq] at h61
   refine c_sr fun ops => ?_
   refine zm 1 hF rfl fun a hF => ?_
   refine c_n ?_
   refine wp_ret (t7.ret (t6.ret (t4.ret (t3.ret (t2.ret (hret (ret1 hF Tryz.results112 rfl ?_)))))))
   have hb : bcmp (low (xs.getD (xs.length - (k + 1)) [])) (low (ys.getD (ys.length - (k + 1)) [])) = 1 := by simp only [bcmp, h58, h61, if_true, Bool.false_eq_true, if_false]
   exact ⟨by rw [he, lcmp_rev (by omega) (by omega), hb]; rfl, hE0.trans hH.below⟩
  try simp only [qq] at h61
  refine wp_skip ?_
  refine t7.norm ?_
  refine k6 ?_
  refine c_reg fun ops => ?_
  refine zm 1 hF rfl fun a hF => ?_
  refine zb hF rfl rfl rfl (b_addn _ _ 1 (by omega)) fun a hF => ?_
  refine zm 1 hF rfl fun a hF => ?_
  refine wpList_nil ?_
  refine k4 ?_
  refine ⟨xs.length - (k + 1), by omega, k + 1, rfl, by omega, by omega, ?_, hF.keep [5, 7, 9] rfl, hH⟩
  have hb : bcmp (low (xs.getD (xs.length - (k + 1)) [])) (low (ys.getD (ys.length - (k + 1)) [])) = 0 := by simp only [bcmp, h58, h61, Bool.false_eq_true, if_false]
  rw [he, lcmp_rev (by omega) (by omega), hb, if_pos rfl]
end Go.Proofs.YtcelgjabccgnmaaGreatDoor
