/-
  The walk of slices.BinarySearchFunc at sets, with package rrset's order. Nothing is claimed here.
-/
import Derived.Test.YtcelgjabccgnmaaDoorGrp
namespace Go.Proofs.YtcelgjabccgnmaaDoor
open Go.RowKit
set_option linter.unusedVariables false
set_option linter.unusedSimpArgs false
set_option maxHeartbeats 1000000

theorem searchF_spec {w0 : World} {v dx : Value} {l : List RSet} (x : RSet) (hR : SetsR w0 v l) (hl : l.length < 1000000) (hnm : ∀ s ∈ l, s.name.length < 1000000) (hx : x.name.length < 1000000)
    (hmono : ∀ a b, a ≤ b → b < l.length → scmp (l.getD b noSet) x < 0 → scmp (l.getD a noSet) x < 0) :
    Rets Tryd.prog 49 [v, .agg (setV x dx).toArray, .func (.func 50) #[] #[]] w0
      fun r w' => (∃ i : Nat, r = .tuple #[.int .i64 i, .bool (decide (i < l.length) && decide (scmp (l.getD i noSet) x = 0))] ∧ i ≤ l.length ∧ (∀ k < i, scmp (l.getD k noSet) x < 0) ∧ (∀ k, i ≤ k → k < l.length → ¬ scmp (l.getD k noSet) x < 0)) ∧ Ext w0 w' := by
  have hH := Hp.refl w0
  obtain ⟨ad, cp, rfl⟩ : ∃ ad cap, v = .slice ad l.length cap := by
    obtain ⟨_, _, h, _⟩ := hR; exact h.shape
  refine rets_start Tryd.func49 rfl Tryd.ntmps49 rfl fun a Q0 hF hret hend => ?_
  simp only [argsFrom, Nat.zero_add, Nat.reduceAdd] at hF
  refine c_seq fun Q1 k1 t1 => ?_
  refine c_reg fun ops => ?_
  refine ls_box hF hH rfl rfl rfl rfl rfl ?_
  intro a w g0_0 hH hE hF
  refine ls hF rfl rfl rfl (r_assign hF rfl rfl) fun a hF => ?_
  refine ls hF rfl rfl rfl (r_assign hF rfl rfl) fun a hF => ?_
  refine wpList_nil ?_
  replace hF := hF.sel [0, 2, 4]
  simp only [sel, lk, Nat.reduceBEq, cond_true, cond_false] at hF
  refine k1 ?_
  refine c_seq fun Q2 k2 t2 => ?_
  refine c_reg fun ops => ?_
  refine ls hF rfl rfl rfl (r_move hF rfl rfl) fun a hF => ?_
  refine ls hF rfl rfl rfl (r_len_sl hF rfl rfl Tryd.underlying38) fun a hF => ?_
  refine ls hF rfl rfl rfl (r_assign hF rfl rfl) fun a hF => ?_
  refine wpList_nil ?_
  replace hF := hF.sel [0, 2, 4, 8]
  simp only [sel, lk, Nat.reduceBEq, cond_true, cond_false] at hF
  refine k2 ?_
  refine c_seq fun Q3 k3 t3 => ?_
  refine c_reg fun ops => ?_
  refine ls hF rfl rfl rfl (r_move hF rfl rfl) fun a hF => ?_
  refine ls hF rfl rfl rfl (r_assign hF rfl rfl) fun a hF => ?_
  refine ls hF rfl rfl rfl (r_assign hF rfl rfl) fun a hF => ?_
  refine wpList_nil ?_
  replace hF := hF.sel [0, 2, 4, 8, 9, 10]
  simp only [sel, lk, Nat.reduceBEq, cond_true, cond_false] at hF
  refine k3 ?_
  refine c_seq fun Q4 k4 t4 => ?_
  refine c_block fun Q5 t5 => ?_
  refine c_loop (fun n a w => ∃ i j, n = j - i ∧ i ≤ j ∧ j ≤ l.length ∧ (∀ k < i, scmp (l.getD k noSet) x < 0) ∧ (∀ k, j ≤ k → k < l.length → ¬ scmp (l.getD k noSet) x < 0) ∧ Fr 49 [(0, .slice ad l.length cp), (2, .func (.func 50) #[] #[]), (4, ptr g0_0), (8, .int .i64 l.length), (9, .int .i64 (i : Nat)), (10, .int .i64 (j : Nat))] a ∧ Hp w0 w [(g0_0, .cells (setV x dx).toArray 49 (0, 0))]) ?_ ?_
  ·
   exact ⟨_, 0, l.length, rfl, Nat.zero_le _, Nat.le_refl _, fun _ h => (Nat.not_lt_zero _ h).elim, fun k h1 h2 => by omega, hF.keep [0, 2, 4, 8, 9, 10] rfl, hH⟩
  ·
   clear hH hF
   intro n a w hI Q6 k6 t6
   obtain ⟨i, j, hn', hij, hj, hlo, hhi, hF, hH⟩ := hI
   refine c_seq fun Q7 k7 t7 => ?_
   refine c_seq fun Q8 k8 t8 => ?_
   refine c_reg fun ops => ?_
   refine ls hF rfl rfl rfl (r_move hF rfl rfl) fun a hF => ?_
   refine ls hF rfl rfl rfl (r_move hF rfl rfl) fun a hF => ?_
   refine ls hF rfl rfl rfl (r_bin hF rfl rfl rfl rfl (b_ltn _ _ _ _)) fun a hF => ?_
   refine wpList_nil ?_
   refine k8 ?_
   refine c_if hF rfl (fun h17 => ?_) (fun h17 => ?_)
   ·
    try simp only [q1, q2, q3, q4, q5, q6, q7, q8, q9, qa, qb] at h17
    obtain ⟨b, off, dv, rfl, hset, hdv⟩ := hR.at (i := (i + j) / 2) (by omega)
    have hge : l.getD ((i + j) / 2) noSet = l[(i + j) / 2]'(by omega) := by simp [List.getD_eq_getElem?_getD, show (i + j) / 2 < l.length by omega]
    rw [← hge] at hset
    have hnl := hnm _ (List.getElem_mem (show (i + j) / 2 < l.length by omega))
    rw [← hge] at hnl
    refine wp_skip ?_
    refine k7 ?_
    refine c_block fun Q9 t9 => ?_
    refine c_seq fun Q10 k10 t10 => ?_
    refine c_reg fun ops => ?_
    refine ls hF rfl rfl rfl (r_move hF rfl rfl) fun a hF => ?_
    refine ls hF rfl rfl rfl (r_move hF rfl rfl) fun a hF => ?_
    refine ls hF rfl rfl rfl (r_bin hF rfl rfl rfl rfl (b_addn _ _ _ (by omega))) fun a hF => ?_
    refine ls hF rfl rfl rfl (r_convin hF rfl rfl (by rw [Tryd.underlying3]; rfl) Tryd.underlying45 (0) 18446744073709551615 mn_u64 mx_u64 (by omega)) fun a hF => ?_
    refine ls hF rfl rfl rfl (r_bin hF rfl rfl rfl rfl (b_shr1 _ _)) fun a hF => ?_
    refine ls hF rfl rfl rfl (r_convin hF rfl rfl (by rw [Tryd.underlying45]; rfl) Tryd.underlying3 (-9223372036854775808) 9223372036854775807 mn_i64 mx_i64 (by omega)) fun a hF => ?_
    refine ls hF rfl rfl rfl (r_assign hF rfl rfl) fun a hF => ?_
    refine wpList_nil ?_
    refine k10 ?_
    refine c_seq fun Q11 k11 t11 => ?_
    refine c_flow [0, 1, 2, 3] [4, 5, 6, 7] [] [] (by kernel_rfl) (by kernel_rfl) fun hB => ?_
    refine ps hF rfl rfl rfl rfl (fun w => r_move hF rfl rfl) fun a hF => ?_
    refine ps hF rfl rfl rfl rfl (fun w => r_move hF rfl rfl) fun a hF => ?_
    refine ps hF rfl rfl rfl rfl (fun w => r_move hF rfl rfl) fun a hF => ?_
    refine ps hF rfl rfl rfl rfl (fun w => r_indexaddr hF _ rfl rfl rfl Tryd.underlying38 ti49 (by omega)) fun a hF => ?_
    refine fl_start [28, 29, 30, 31] hB (by kernel_rfl) hF ?_
    simp only [wo, hasN, Nat.reduceBEq, cond_true, cond_false] at hF ⊢
    refine fs1 rfl (by
     intro a w Lr hE hC hl
     replace hH := hH.ext hE
     have hF := hC.fr
     exact ls hF rfl rfl rfl (r_loadagg hF rfl rfl Tryd.underlying49 ti49 rfl (fun j u hu => hH.cell (hset j u hu))) fun a' hF' => wpList_nil (fl_end hC hF' (Ext.refl _) rfl)) ?_
    refine fs1 rfl (by
     intro a w Lr hE hC hl
     replace hH := hH.ext hE
     have hF := hC.fr
     exact ls hF rfl rfl rfl (r_loadagg hF rfl rfl Tryd.underlying49 ti49 rfl (own_agg (i := 0) hH rfl)) fun a' hF' => wpList_nil (fl_end hC hF' (Ext.refl _) rfl)) ?_
    refine fs1 rfl (by
     intro a w Lr hE hC hl
     replace hH := hH.ext hE
     obtain ⟨_, s28, rfl⟩ := hl 28 (by decide) _ rfl
     replace hC := hC.more s28
     obtain ⟨_, s29, rfl⟩ := hl 29 (by decide) _ rfl
     replace hC := hC.more s29
     have hF := hC.fr
     refine ls_callv hF rfl rfl rfl rfl rfl rfl fn50 (order_spec _ _ _ _ hnl hx _) ?_
     rintro _ w' ⟨rfl, hE'⟩ a' hF'
     exact wpList_nil (fl_end hC hF' hE' rfl)) ?_
    refine fs1 rfl (by
     intro a w Lr hE hC hl
     replace hH := hH.ext hE
     obtain ⟨_, s30, rfl⟩ := hl 30 (by decide) _ rfl
     replace hC := hC.more s30
     have hF := hC.fr
     exact ls hF rfl rfl rfl (r_bin hF rfl rfl rfl rfl (b_lt _ _ _ _)) fun a' hF' => wpList_nil (fl_end hC hF' (Ext.refl _) rfl)) ?_
    intro a w hE hF hall
    replace hH := hH.ext hE
    obtain ⟨_, s28, rfl⟩ := hall 28 _ rfl
    replace hF := hF.more s28
    obtain ⟨_, s29, rfl⟩ := hall 29 _ rfl
    replace hF := hF.more s29
    obtain ⟨_, s30, rfl⟩ := hall 30 _ rfl
    replace hF := hF.more s30
    obtain ⟨_, s31, rfl⟩ := hall 31 _ rfl
    replace hF := hF.more s31
    clear hall
    refine wpList_nil ?_
    refine k11 ?_
    refine c_if hF rfl (fun h31 => ?_) (fun h31 => ?_)
    ·
     try simp only [q1, q2, q3, q4, q5, q6, q7, q8, q9, qa, qb] at h31
     refine c_reg fun ops => ?_
     refine ls hF rfl rfl rfl (r_move hF rfl rfl) fun a hF => ?_
     refine ls hF rfl rfl rfl (r_bin hF rfl rfl rfl rfl (b_addn _ _ 1 (by omega))) fun a hF => ?_
     refine ls hF rfl rfl rfl (r_assign hF rfl rfl) fun a hF => ?_
     refine wpList_nil ?_
     refine t9.norm ?_
     refine k6 ?_
     first
       | exact ⟨j - ((i + j) / 2 + 1), by omega, (i + j) / 2 + 1, j, rfl, by omega, hj, fun k hk => hmono k ((i + j) / 2) (by omega) (by omega) h31, hhi, hF.keep [0, 2, 4, 8, 9, 10] rfl, hH⟩
       | exact ⟨(i + j) / 2 - i, by omega, i, (i + j) / 2, rfl, by omega, by omega, hlo, fun k hk1 hk2 hb => absurd (hmono ((i + j) / 2) k hk1 hk2 hb) (by omega), hF.keep [0, 2, 4, 8, 9, 10] rfl, hH⟩
    ·
     try simp only [q1, q2, q3, q4, q5, q6, q7, q8, q9, qa, qb] at h31
     refine c_reg fun ops => ?_
     refine ls hF rfl rfl rfl (r_move hF rfl rfl) fun a hF => ?_
     refine ls hF rfl rfl rfl (r_assign hF rfl rfl) fun a hF => ?_
     refine wpList_nil ?_
     refine t9.norm ?_
     refine k6 ?_
     first
       | exact ⟨j - ((i + j) / 2 + 1), by omega, (i + j) / 2 + 1, j, rfl, by omega, hj, fun k hk => hmono k ((i + j) / 2) (by omega) (by omega) h31, hhi, hF.keep [0, 2, 4, 8, 9, 10] rfl, hH⟩
       | exact ⟨(i + j) / 2 - i, by omega, i, (i + j) / 2, rfl, by omega, by omega, hlo, fun k hk1 hk2 hb => absurd (hmono ((i + j) / 2) k hk1 hk2 hb) (by omega), hF.keep [0, 2, 4, 8, 9, 10] rfl, hH⟩
   ·
    try simp only [q1, q2, q3, q4, q5, q6, q7, q8, q9, qa, qb] at h17
    refine wp_exit (t7.exit (t6.exit (t5.here (?_))))
    refine k4 ?_
    refine c_seq fun Q12 k12 t12 => ?_
    have hij' : i = j := by omega
    subst hij'
    by_cases hs8 : i < l.length
    ·
     obtain ⟨b, off, dv, rfl, hset, hdv⟩ := hR.at (i := i) (by omega)
     have hge : l.getD i noSet = l[i]'(by omega) := by simp [List.getD_eq_getElem?_getD, show i < l.length by omega]
     rw [← hge] at hset
     have hnl := hnm _ (List.getElem_mem (show i < l.length by omega))
     rw [← hge] at hnl
     refine c_flow [0, 1, 2, 3, 4] [5, 6, 7, 8, 9, 10, 11, 12, 13, 14, 15] [] [] (by kernel_rfl) (by kernel_rfl) fun hB => ?_
     refine ps hF rfl rfl rfl rfl (fun w => r_move hF rfl rfl) fun a hF => ?_
     refine ps hF rfl rfl rfl rfl (fun w => r_move hF rfl rfl) fun a hF => ?_
     refine ps hF rfl rfl rfl rfl (fun w => r_move hF rfl rfl) fun a hF => ?_
     refine ps hF rfl rfl rfl rfl (fun w => r_bin hF rfl rfl rfl rfl (b_ltn _ _ _ _)) fun a hF => ?_
     refine ps hF rfl rfl rfl rfl (fun w => r_move hF rfl rfl) fun a hF => ?_
     refine fl_start [40, 41, 42, 43, 44, 45, 46, 47, 48, 6, 7] hB (by kernel_rfl) hF ?_
     simp only [wo, hasN, Nat.reduceBEq, cond_true, cond_false] at hF ⊢
     refine fs1 rfl (by
      intro a w Lr hE hC hl
      replace hH := hH.ext hE
      have hF := hC.fr
      exact lsy hF rfl rfl rfl (decide_eq_true hs8) rfl rfl (r_move hF rfl rfl) fun a' hF' => wpList_nil (fl_end hC hF' (Ext.refl _) rfl)) ?_
     refine fs1 rfl (by
      intro a w Lr hE hC hl
      replace hH := hH.ext hE
      have hF := hC.fr
      exact lsy hF rfl rfl rfl (decide_eq_true hs8) rfl rfl (r_move hF rfl rfl) fun a' hF' => wpList_nil (fl_end hC hF' (Ext.refl _) rfl)) ?_
     refine fs1 rfl (by
      intro a w Lr hE hC hl
      replace hH := hH.ext hE
      have hF := hC.fr
      exact lsy hF rfl rfl rfl (decide_eq_true hs8) rfl rfl (r_move hF rfl rfl) fun a' hF' => wpList_nil (fl_end hC hF' (Ext.refl _) rfl)) ?_
     refine fs1 rfl (by
      intro a w Lr hE hC hl
      replace hH := hH.ext hE
      obtain ⟨_, s41, rfl⟩ := hl 41 (by decide) _ rfl
      replace hC := hC.more s41
      obtain ⟨_, s42, rfl⟩ := hl 42 (by decide) _ rfl
      replace hC := hC.more s42
      have hF := hC.fr
      exact lsy hF rfl rfl rfl (decide_eq_true hs8) rfl rfl (r_indexaddr hF _ rfl rfl rfl Tryd.underlying38 ti49 (by omega)) fun a' hF' => wpList_nil (fl_end hC hF' (Ext.refl _) rfl)) ?_
     refine fs1 rfl (by
      intro a w Lr hE hC hl
      replace hH := hH.ext hE
      obtain ⟨_, s43, rfl⟩ := hl 43 (by decide) _ rfl
      replace hC := hC.more s43
      have hF := hC.fr
      exact lsy hF rfl rfl rfl (decide_eq_true hs8) rfl rfl (r_loadagg hF rfl rfl Tryd.underlying49 ti49 rfl (fun j u hu => hH.cell (hset j u hu))) fun a' hF' => wpList_nil (fl_end hC hF' (Ext.refl _) rfl)) ?_
     refine fs1 rfl (by
      intro a w Lr hE hC hl
      replace hH := hH.ext hE
      have hF := hC.fr
      exact lsy hF rfl rfl rfl (decide_eq_true hs8) rfl rfl (r_loadagg hF rfl rfl Tryd.underlying49 ti49 rfl (own_agg (i := 0) hH rfl)) fun a' hF' => wpList_nil (fl_end hC hF' (Ext.refl _) rfl)) ?_
     refine fs1 rfl (by
      intro a w Lr hE hC hl
      replace hH := hH.ext hE
      obtain ⟨_, s40, rfl⟩ := hl 40 (by decide) _ rfl
      replace hC := hC.more s40
      obtain ⟨_, s44, rfl⟩ := hl 44 (by decide) _ rfl
      replace hC := hC.more s44
      obtain ⟨_, s45, rfl⟩ := hl 45 (by decide) _ rfl
      replace hC := hC.more s45
      have hF := hC.fr
      refine lsy_callv hF rfl rfl rfl (decide_eq_true hs8) rfl rfl rfl rfl rfl fn50 (order_spec _ _ _ _ hnl hx _) ?_
      rintro _ w' ⟨rfl, hE'⟩ a' hF'
      exact wpList_nil (fl_end hC hF' hE' rfl)) ?_
     refine fs1 rfl (by
      intro a w Lr hE hC hl
      replace hH := hH.ext hE
      obtain ⟨_, s46, rfl⟩ := hl 46 (by decide) _ rfl
      replace hC := hC.more s46
      have hF := hC.fr
      exact lsy hF rfl rfl rfl (decide_eq_true hs8) rfl rfl (r_bin hF rfl rfl rfl rfl (b_eq _ _ _ _)) fun a' hF' => wpList_nil (fl_end hC hF' (Ext.refl _) rfl)) ?_
     refine fs1 rfl (by
      intro a w Lr hE hC hl
      replace hH := hH.ext hE
      obtain ⟨_, s47, rfl⟩ := hl 47 (by decide) _ rfl
      replace hC := hC.more s47
      have hF := hC.fr
      exact ls hF rfl rfl rfl (r_pickt hF rfl rfl (decide_eq_true hs8) rfl) fun a' hF' => wpList_nil (fl_end hC hF' (Ext.refl _) rfl)) ?_
     refine fs1 rfl (by
      intro a w Lr hE hC hl
      replace hH := hH.ext hE
      have hF := hC.fr
      exact ls hF rfl rfl rfl (r_assign hF rfl rfl) fun a' hF' => wpList_nil (fl_end hC hF' (Ext.refl _) rfl)) ?_
     refine fs1 rfl (by
      intro a w Lr hE hC hl
      replace hH := hH.ext hE
      obtain ⟨_, s48, rfl⟩ := hl 48 (by decide) _ rfl
      replace hC := hC.more s48
      have hF := hC.fr
      exact ls hF rfl rfl rfl (r_assign hF rfl rfl) fun a' hF' => wpList_nil (fl_end hC hF' (Ext.refl _) rfl)) ?_
     intro a w hE hF hall
     replace hH := hH.ext hE
     obtain ⟨_, s6, rfl⟩ := hall 6 _ rfl
     replace hF := hF.more s6
     obtain ⟨_, s7, rfl⟩ := hall 7 _ rfl
     replace hF := hF.more s7
     clear hall
     refine wpList_nil ?_
     replace hF := hF.sel [6, 7]
     simp only [sel, lk, Nat.reduceBEq, cond_true, cond_false] at hF
     refine k12 ?_
     refine wp_ret ?_
     refine hret (ret2 (fn := Tryd.f49) (t := 6) (u := 7) hF Tryd.results49 rfl rfl ?_)
     exact ⟨⟨i, by first | (rw [decide_eq_false (show ¬ i < l.length by omega)]; rfl) | (rw [decide_eq_true (show i < l.length by omega)]; rfl), by omega, hlo, hhi⟩, hH.below⟩
    ·
     refine c_flow [0, 1, 2, 3, 4] [5, 6, 7, 8, 9, 10, 11, 12, 13, 14, 15] [] [] (by kernel_rfl) (by kernel_rfl) fun hB => ?_
     refine ps hF rfl rfl rfl rfl (fun w => r_move hF rfl rfl) fun a hF => ?_
     refine ps hF rfl rfl rfl rfl (fun w => r_move hF rfl rfl) fun a hF => ?_
     refine ps hF rfl rfl rfl rfl (fun w => r_move hF rfl rfl) fun a hF => ?_
     refine ps hF rfl rfl rfl rfl (fun w => r_bin hF rfl rfl rfl rfl (b_ltn _ _ _ _)) fun a hF => ?_
     refine ps hF rfl rfl rfl rfl (fun w => r_move hF rfl rfl) fun a hF => ?_
     refine fl_start [40, 41, 42, 43, 44, 45, 46, 47, 48, 6, 7] hB (by kernel_rfl) hF ?_
     simp only [wo, hasN, Nat.reduceBEq, cond_true, cond_false] at hF ⊢
     refine fs1 rfl (by
      intro a w Lr hE hC hl
      replace hH := hH.ext hE
      have hF := hC.fr
      exact lsn hF rfl rfl rfl (decide_eq_false hs8) rfl rfl fun a' hF' => wpList_nil (fl_end hC hF' (Ext.refl _) rfl)) ?_
     refine fs1 rfl (by
      intro a w Lr hE hC hl
      replace hH := hH.ext hE
      have hF := hC.fr
      exact lsn hF rfl rfl rfl (decide_eq_false hs8) rfl rfl fun a' hF' => wpList_nil (fl_end hC hF' (Ext.refl _) rfl)) ?_
     refine fs1 rfl (by
      intro a w Lr hE hC hl
      replace hH := hH.ext hE
      have hF := hC.fr
      exact lsn hF rfl rfl rfl (decide_eq_false hs8) rfl rfl fun a' hF' => wpList_nil (fl_end hC hF' (Ext.refl _) rfl)) ?_
     refine fs1 rfl (by
      intro a w Lr hE hC hl
      replace hH := hH.ext hE
      obtain ⟨_, s41, rfl⟩ := hl 41 (by decide) _ rfl
      replace hC := hC.more s41
      obtain ⟨_, s42, rfl⟩ := hl 42 (by decide) _ rfl
      replace hC := hC.more s42
      have hF := hC.fr
      exact lsn hF rfl rfl rfl (decide_eq_false hs8) rfl rfl fun a' hF' => wpList_nil (fl_end hC hF' (Ext.refl _) rfl)) ?_
     refine fs1 rfl (by
      intro a w Lr hE hC hl
      replace hH := hH.ext hE
      obtain ⟨_, s43, rfl⟩ := hl 43 (by decide) _ rfl
      replace hC := hC.more s43
      have hF := hC.fr
      exact lsn hF rfl rfl rfl (decide_eq_false hs8) rfl rfl fun a' hF' => wpList_nil (fl_end hC hF' (Ext.refl _) rfl)) ?_
     refine fs1 rfl (by
      intro a w Lr hE hC hl
      replace hH := hH.ext hE
      have hF := hC.fr
      exact lsn hF rfl rfl rfl (decide_eq_false hs8) rfl rfl fun a' hF' => wpList_nil (fl_end hC hF' (Ext.refl _) rfl)) ?_
     refine fs1 rfl (by
      intro a w Lr hE hC hl
      replace hH := hH.ext hE
      obtain ⟨_, s40, rfl⟩ := hl 40 (by decide) _ rfl
      replace hC := hC.more s40
      obtain ⟨_, s44, rfl⟩ := hl 44 (by decide) _ rfl
      replace hC := hC.more s44
      obtain ⟨_, s45, rfl⟩ := hl 45 (by decide) _ rfl
      replace hC := hC.more s45
      have hF := hC.fr
      exact lsn hF rfl rfl rfl (decide_eq_false hs8) rfl rfl fun a' hF' => wpList_nil (fl_end hC hF' (Ext.refl _) rfl)) ?_
     refine fs1 rfl (by
      intro a w Lr hE hC hl
      replace hH := hH.ext hE
      obtain ⟨_, s46, rfl⟩ := hl 46 (by decide) _ rfl
      replace hC := hC.more s46
      have hF := hC.fr
      exact lsn hF rfl rfl rfl (decide_eq_false hs8) rfl rfl fun a' hF' => wpList_nil (fl_end hC hF' (Ext.refl _) rfl)) ?_
     refine fs1 rfl (by
      intro a w Lr hE hC hl
      replace hH := hH.ext hE
      obtain ⟨_, s47, rfl⟩ := hl 47 (by decide) _ rfl
      replace hC := hC.more s47
      have hF := hC.fr
      exact ls hF rfl rfl rfl (r_pickf hF rfl rfl (decide_eq_false hs8) rfl) fun a' hF' => wpList_nil (fl_end hC hF' (Ext.refl _) rfl)) ?_
     refine fs1 rfl (by
      intro a w Lr hE hC hl
      replace hH := hH.ext hE
      have hF := hC.fr
      exact ls hF rfl rfl rfl (r_assign hF rfl rfl) fun a' hF' => wpList_nil (fl_end hC hF' (Ext.refl _) rfl)) ?_
     refine fs1 rfl (by
      intro a w Lr hE hC hl
      replace hH := hH.ext hE
      obtain ⟨_, s48, rfl⟩ := hl 48 (by decide) _ rfl
      replace hC := hC.more s48
      have hF := hC.fr
      exact ls hF rfl rfl rfl (r_assign hF rfl rfl) fun a' hF' => wpList_nil (fl_end hC hF' (Ext.refl _) rfl)) ?_
     intro a w hE hF hall
     replace hH := hH.ext hE
     obtain ⟨_, s6, rfl⟩ := hall 6 _ rfl
     replace hF := hF.more s6
     obtain ⟨_, s7, rfl⟩ := hall 7 _ rfl
     replace hF := hF.more s7
     clear hall
     refine wpList_nil ?_
     replace hF := hF.sel [6, 7]
     simp only [sel, lk, Nat.reduceBEq, cond_true, cond_false] at hF
     refine k12 ?_
     refine wp_ret ?_
     refine hret (ret2 (fn := Tryd.f49) (t := 6) (u := 7) hF Tryd.results49 rfl rfl ?_)
     exact ⟨⟨i, by first | (rw [decide_eq_false (show ¬ i < l.length by omega)]; rfl) | (rw [decide_eq_true (show i < l.length by omega)]; rfl), by omega, hlo, hhi⟩, hH.below⟩
end Go.Proofs.YtcelgjabccgnmaaDoor
