/-
  The walk of slices.BinarySearch. Nothing is claimed here.
-/
import Derived.Test.YtcelgjabccgnmaaDoorBits
namespace Go.Proofs.YtcelgjabccgnmaaDoor
open Go.RowKit
set_option linter.unusedVariables false
set_option linter.unusedSimpArgs false
set_option maxHeartbeats 1000000

theorem search_spec {w0 : World} {v : Value} {nn : Nat} {xs : List Bs} (y : Bs) (hv : RSl w0 1 v nn (strV xs)) (hn : nn < 1000000)
    (hmono : ∀ a b, a ≤ b → b < xs.length → bless (xs.getD b []) y = true → bless (xs.getD a []) y = true) :
    Rets Tryd.prog 52 [v, .string (mk y)] w0 fun r w' => (∃ i : Nat, r = .tuple #[.int .i64 i, .bool (decide (i < xs.length) && decide (xs.getD i [] = y))] ∧ i ≤ xs.length ∧ (∀ k < i, bless (xs.getD k []) y = true) ∧ (∀ k, i ≤ k → k < xs.length → bless (xs.getD k []) y = false)) ∧ Ext w0 w' := by
  have hH := Hp.refl w0
  obtain ⟨ad, cp, rfl⟩ := hv.shape
  have hln := hv.nlen
  subst hln
  refine rets_start Tryd.func52 rfl Tryd.ntmps52 rfl fun a Q0 hF hret hend => ?_
  simp only [argsFrom, Nat.zero_add, Nat.reduceAdd] at hF
  refine c_seq fun Q1 k1 t1 => ?_
  refine c_reg fun ops => ?_
  refine ls hF rfl rfl rfl (r_assign hF rfl rfl) fun a hF => ?_
  refine ls hF rfl rfl rfl (r_assign hF rfl rfl) fun a hF => ?_
  refine wpList_nil ?_
  replace hF := hF.sel [0, 1]
  simp only [sel, lk, Nat.reduceBEq, cond_true, cond_false] at hF
  refine k1 ?_
  refine c_seq fun Q2 k2 t2 => ?_
  refine c_reg fun ops => ?_
  refine ls hF rfl rfl rfl (r_move hF rfl rfl) fun a hF => ?_
  refine ls hF rfl rfl rfl (r_len_sl hF rfl rfl Tryd.underlying47) fun a hF => ?_
  refine ls hF rfl rfl rfl (r_assign hF rfl rfl) fun a hF => ?_
  refine wpList_nil ?_
  replace hF := hF.sel [0, 1, 6]
  simp only [sel, lk, Nat.reduceBEq, cond_true, cond_false] at hF
  refine k2 ?_
  refine c_seq fun Q3 k3 t3 => ?_
  refine c_reg fun ops => ?_
  refine ls hF rfl rfl rfl (r_move hF rfl rfl) fun a hF => ?_
  refine ls hF rfl rfl rfl (r_assign hF rfl rfl) fun a hF => ?_
  refine ls hF rfl rfl rfl (r_assign hF rfl rfl) fun a hF => ?_
  refine wpList_nil ?_
  replace hF := hF.sel [0, 1, 6, 7, 8]
  simp only [sel, lk, Nat.reduceBEq, cond_true, cond_false] at hF
  refine k3 ?_
  refine c_seq fun Q4 k4 t4 => ?_
  refine c_block fun Q5 t5 => ?_
  refine c_loop (fun n a w => ∃ i j, n = j - i ∧ i ≤ j ∧ j ≤ xs.length ∧ (∀ k < i, bless (xs.getD k []) y = true) ∧ (∀ k, j ≤ k → k < xs.length → bless (xs.getD k []) y = false) ∧ Fr 54 [(0, .slice ad xs.length cp), (1, .string (mk y)), (6, .int .i64 xs.length), (7, .int .i64 (i : Nat)), (8, .int .i64 (j : Nat))] a ∧ Hp w0 w []) ?_ ?_
  ·
   exact ⟨_, 0, xs.length, rfl, Nat.zero_le _, Nat.le_refl _, fun _ h => (Nat.not_lt_zero _ h).elim, fun k h1 h2 => by omega, hF.keep [0, 1, 6, 7, 8] rfl, hH⟩
  ·
   intro n a w hI Q6 k6 t6
   obtain ⟨i, j, hn', hij, hj, hlo, hhi, hF, hH⟩ := hI
   refine c_seq fun Q7 k7 t7 => ?_
   refine c_seq fun Q8 k8 t8 => ?_
   refine c_reg fun ops => ?_
   refine ls hF rfl rfl rfl (r_move hF rfl rfl) fun a hF => ?_
   refine ls hF rfl rfl rfl (r_move hF rfl rfl) fun a hF => ?_
   refine ls hF rfl rfl rfl (r_bin hF rfl rfl rfl rfl (b_ltn _ _ _ _)) fun a hF => ?_
   refine wpList_nil ?_
   refine k8 ?_
   refine c_if hF rfl (fun h15 => ?_) (fun h15 => ?_)
   ·
    try simp only [q1, q2, q3, q4, q5, q6, q7, q8, q9, qa, qb] at h15
    obtain ⟨b, off, rfl, hc⟩ := hv.at (i := (i + j) / 2) (by omega)
    refine wp_skip ?_
    refine k7 ?_
    refine c_block fun Q9 t9 => ?_
    refine c_seq fun Q10 k10 t10 => ?_
    refine c_reg fun ops => ?_
    refine ls hF rfl rfl rfl (r_move hF rfl rfl) fun a hF => ?_
    refine ls hF rfl rfl rfl (r_move hF rfl rfl) fun a hF => ?_
    refine ls hF rfl rfl rfl (r_bin hF rfl rfl rfl rfl (b_addn _ _ _ (by omega))) fun a hF => ?_
    refine ls hF rfl rfl rfl (r_convin hF rfl rfl (by rw [Tryd.underlying3]; rfl) Tryd.underlying45 (0) 18446744073709551615 mn_u64 mx_u64 (by omega)) fun a hF => ?_
    refine ls hF rfl rfl rfl (r_bin hF rfl rfl rfl rfl (b_shr1 _ _)) fun a hF => ?_
    refine ls hF rfl rfl rfl (r_convin hF rfl rfl (by rw [Tryd.underlying45]; rfl) Tryd.underlying3 (-9223372036854775808) 9223372036854775807 mn_i64 mx_i64 (by omega)) fun a hF => ?_
    refine ls hF rfl rfl rfl (r_assign hF rfl rfl) fun a hF => ?_
    refine wpList_nil ?_
    refine k10 ?_
    refine c_seq fun Q11 k11 t11 => ?_
    refine c_reg fun ops => ?_
    refine ls hF rfl rfl rfl (r_move hF rfl rfl) fun a hF => ?_
    refine ls hF rfl rfl rfl (r_move hF rfl rfl) fun a hF => ?_
    refine ls hF rfl rfl rfl (r_ix1 hF _ rfl rfl rfl Tryd.underlying47 ti9 (by omega)) fun a hF => ?_
    refine ls hF rfl rfl rfl (r_load hF rfl rfl fl9 (hH.cell hc)) fun a hF => ?_
    refine ls hF rfl rfl rfl (r_move hF rfl rfl) fun a hF => ?_
    refine ls_call hF rfl rfl rfl rfl rfl fn77 (lesss_spec _ _ _) ?_
    rintro _ w ⟨rfl, hE⟩ a hF
    replace hH := hH.ext hE
    refine wpList_nil ?_
    refine k11 ?_
    refine c_if hF rfl (fun h27 => ?_) (fun h27 => ?_)
    ·
     try simp only [q1, q2, q3, q4, q5, q6, q7, q8, q9, qa, qb] at h27
     refine c_reg fun ops => ?_
     refine ls hF rfl rfl rfl (r_move hF rfl rfl) fun a hF => ?_
     refine ls hF rfl rfl rfl (r_bin hF rfl rfl rfl rfl (b_addn _ _ 1 (by omega))) fun a hF => ?_
     refine ls hF rfl rfl rfl (r_assign hF rfl rfl) fun a hF => ?_
     refine wpList_nil ?_
     refine t9.norm ?_
     refine k6 ?_
     first
       | exact ⟨j - ((i + j) / 2 + 1), by omega, (i + j) / 2 + 1, j, rfl, by omega, hj, fun k hk => hmono k ((i + j) / 2) (by omega) (by omega) h27, hhi, hF.keep [0, 1, 6, 7, 8] rfl, hH⟩
       | exact ⟨(i + j) / 2 - i, by omega, i, (i + j) / 2, rfl, by omega, by omega, hlo, fun k hk1 hk2 => Bool.eq_false_iff.2 fun hb => (Bool.eq_false_iff.1 h27) (hmono ((i + j) / 2) k hk1 hk2 hb), hF.keep [0, 1, 6, 7, 8] rfl, hH⟩
    ·
     try simp only [q1, q2, q3, q4, q5, q6, q7, q8, q9, qa, qb] at h27
     refine c_reg fun ops => ?_
     refine ls hF rfl rfl rfl (r_move hF rfl rfl) fun a hF => ?_
     refine ls hF rfl rfl rfl (r_assign hF rfl rfl) fun a hF => ?_
     refine wpList_nil ?_
     refine t9.norm ?_
     refine k6 ?_
     first
       | exact ⟨j - ((i + j) / 2 + 1), by omega, (i + j) / 2 + 1, j, rfl, by omega, hj, fun k hk => hmono k ((i + j) / 2) (by omega) (by omega) h27, hhi, hF.keep [0, 1, 6, 7, 8] rfl, hH⟩
       | exact ⟨(i + j) / 2 - i, by omega, i, (i + j) / 2, rfl, by omega, by omega, hlo, fun k hk1 hk2 => Bool.eq_false_iff.2 fun hb => (Bool.eq_false_iff.1 h27) (hmono ((i + j) / 2) k hk1 hk2 hb), hF.keep [0, 1, 6, 7, 8] rfl, hH⟩
   ·
    try simp only [q1, q2, q3, q4, q5, q6, q7, q8, q9, qa, qb] at h15
    refine wp_exit (t7.exit (t6.exit (t5.here (?_))))
    refine k4 ?_
    refine c_seq fun Q12 k12 t12 => ?_
    have hij' : i = j := by omega
    subst hij'
    refine c_regg ?_
    refine ls hF rfl rfl rfl (r_move hF rfl rfl) fun a hF => ?_
    refine ls hF rfl rfl rfl (r_move hF rfl rfl) fun a hF => ?_
    refine ls hF rfl rfl rfl (r_move hF rfl rfl) fun a hF => ?_
    refine ls hF rfl rfl rfl (r_bin hF rfl rfl rfl rfl (b_ltn _ _ _ _)) fun a hF => ?_
    refine ls hF rfl rfl rfl (r_move hF rfl rfl) fun a hF => ?_
    refine ls_ask (d := 35) hF rfl (fun g8_4 => ?_) (fun g8_4 => ?_)
    ·
     have g8_4' := g8_4; try simp only [q1, q2, q3, q4, q5, q6, q7, q8, q9, qa, qb] at g8_4'
     obtain ⟨b, off, rfl, hc⟩ := hv.at (i := i) (by omega)
     refine lsy hF rfl rfl rfl g8_4 rfl rfl (r_move hF rfl rfl) fun a hF => ?_
     refine lsy hF rfl rfl rfl g8_4 rfl rfl (r_move hF rfl rfl) fun a hF => ?_
     refine lsy hF rfl rfl rfl g8_4 rfl rfl (r_ix1 hF _ rfl rfl rfl Tryd.underlying47 ti9 (by omega)) fun a hF => ?_
     refine lsy hF rfl rfl rfl g8_4 rfl rfl (r_load hF rfl rfl fl9 (hH.cell hc)) fun a hF => ?_
     refine lsy hF rfl rfl rfl g8_4 rfl rfl (r_move hF rfl rfl) fun a hF => ?_
     refine lsy hF rfl rfl rfl g8_4 rfl rfl (r_bin hF rfl rfl rfl rfl (b_seq _ _ _)) fun a hF => ?_
     refine lsy hF rfl rfl rfl g8_4 rfl rfl (r_move hF rfl rfl) fun a hF => ?_
     refine ls_ask (d := 42) hF rfl (fun g8_11 => ?_) (fun g8_11 => ?_)
     ·
      have g8_11' := g8_11; try simp only [q1, q2, q3, q4, q5, q6, q7, q8, q9, qa, qb] at g8_11'
      refine lsn hF rfl rfl rfl g8_11 rfl rfl fun a hF => ?_
      refine lsn hF rfl rfl rfl g8_11 rfl rfl fun a hF => ?_
      refine lsn hF rfl rfl rfl g8_11 rfl rfl fun a hF => ?_
      refine lsn hF rfl rfl rfl g8_11 rfl rfl fun a hF => ?_
      refine lsn hF rfl rfl rfl g8_11 rfl rfl fun a hF => ?_
      refine lsn hF rfl rfl rfl g8_11 rfl rfl fun a hF => ?_
      refine lsu hF rfl rfl rfl rfl rfl fun a hF => ?_
      refine lsu hF rfl rfl rfl rfl rfl fun a hF => ?_
      refine lsn hF rfl rfl rfl g8_11 rfl rfl fun a hF => ?_
      refine lsy hF rfl rfl rfl g8_4 rfl rfl (r_pickt hF rfl rfl g8_11 rfl) fun a hF => ?_
      refine ls hF rfl rfl rfl (r_pickt hF rfl rfl g8_4 rfl) fun a hF => ?_
      refine ls hF rfl rfl rfl (r_assign hF rfl rfl) fun a hF => ?_
      refine ls hF rfl rfl rfl (r_assign hF rfl rfl) fun a hF => ?_
      refine wpList_nil ?_
      replace hF := hF.sel [4, 5]
      simp only [sel, lk, Nat.reduceBEq, cond_true, cond_false] at hF
      refine k12 ?_
      refine wp_ret ?_
      refine hret (ret2 (fn := Tryd.f52) (t := 4) (u := 5) hF Tryd.results52 rfl rfl ?_)
      exact ⟨⟨i, by first | (rw [decide_eq_false (show ¬ i < xs.length by omega)]; rfl) | (rw [decide_eq_true (show i < xs.length by omega)]; simp_all; done), by omega, hlo, hhi⟩, hH.below⟩
     ·
      have g8_11' := g8_11; try simp only [q1, q2, q3, q4, q5, q6, q7, q8, q9, qa, qb] at g8_11'
      refine lsy hF rfl rfl rfl g8_11 rfl rfl (r_move hF rfl rfl) fun a hF => ?_
      refine lsy hF rfl rfl rfl g8_11 rfl rfl (r_move hF rfl rfl) fun a hF => ?_
      refine lsy hF rfl rfl rfl g8_11 rfl rfl (r_ix1 hF _ rfl rfl rfl Tryd.underlying47 ti9 (by omega)) fun a hF => ?_
      refine lsy hF rfl rfl rfl g8_11 rfl rfl (r_load hF rfl rfl fl9 (hH.cell hc)) fun a hF => ?_
      refine lsy_call hF rfl rfl rfl g8_11 rfl rfl rfl rfl fn78 (isNaNz_spec _ _) ?_
      rintro _ w ⟨rfl, hE⟩ a hF
      replace hH := hH.ext hE
      refine lsy hF rfl rfl rfl g8_11 rfl rfl (r_move hF rfl rfl) fun a hF => ?_
      refine ls_ask (d := 48) hF rfl (fun g8_17 => ?_) (fun g8_17 => ?_)
      ·
       have g8_17' := g8_17; try simp only [q1, q2, q3, q4, q5, q6, q7, q8, q9, qa, qb] at g8_17'
       cases g8_17
      ·
       have g8_17' := g8_17; try simp only [q1, q2, q3, q4, q5, q6, q7, q8, q9, qa, qb] at g8_17'
       refine lsn hF rfl rfl rfl g8_17 rfl rfl fun a hF => ?_
       refine lsn hF rfl rfl rfl g8_17 rfl rfl fun a hF => ?_
       refine lsy hF rfl rfl rfl g8_11 rfl rfl (r_pickf hF rfl rfl g8_17 rfl) fun a hF => ?_
       refine lsy hF rfl rfl rfl g8_4 rfl rfl (r_pickf hF rfl rfl g8_11 rfl) fun a hF => ?_
       refine ls hF rfl rfl rfl (r_pickt hF rfl rfl g8_4 rfl) fun a hF => ?_
       refine ls hF rfl rfl rfl (r_assign hF rfl rfl) fun a hF => ?_
       refine ls hF rfl rfl rfl (r_assign hF rfl rfl) fun a hF => ?_
       refine wpList_nil ?_
       replace hF := hF.sel [4, 5]
       simp only [sel, lk, Nat.reduceBEq, cond_true, cond_false] at hF
       refine k12 ?_
       refine wp_ret ?_
       refine hret (ret2 (fn := Tryd.f52) (t := 4) (u := 5) hF Tryd.results52 rfl rfl ?_)
       exact ⟨⟨i, by first | (rw [decide_eq_false (show ¬ i < xs.length by omega)]; rfl) | (rw [decide_eq_true (show i < xs.length by omega)]; simp_all; done), by omega, hlo, hhi⟩, hH.below⟩
    ·
     have g8_4' := g8_4; try simp only [q1, q2, q3, q4, q5, q6, q7, q8, q9, qa, qb] at g8_4'
     refine lsn hF rfl rfl rfl g8_4 rfl rfl fun a hF => ?_
     refine lsn hF rfl rfl rfl g8_4 rfl rfl fun a hF => ?_
     refine lsn hF rfl rfl rfl g8_4 rfl rfl fun a hF => ?_
     refine lsn hF rfl rfl rfl g8_4 rfl rfl fun a hF => ?_
     refine lsn hF rfl rfl rfl g8_4 rfl rfl fun a hF => ?_
     refine lsn hF rfl rfl rfl g8_4 rfl rfl fun a hF => ?_
     refine lsn hF rfl rfl rfl g8_4 rfl rfl fun a hF => ?_
     refine lsu hF rfl rfl rfl rfl rfl fun a hF => ?_
     refine lsu hF rfl rfl rfl rfl rfl fun a hF => ?_
     refine lsu hF rfl rfl rfl rfl rfl fun a hF => ?_
     refine lsu hF rfl rfl rfl rfl rfl fun a hF => ?_
     refine lsu hF rfl rfl rfl rfl rfl fun a hF => ?_
     refine lsu hF rfl rfl rfl rfl rfl fun a hF => ?_
     refine lsu hF rfl rfl rfl rfl rfl fun a hF => ?_
     refine lsu hF rfl rfl rfl rfl rfl fun a hF => ?_
     refine lsu hF rfl rfl rfl rfl rfl fun a hF => ?_
     refine lsn hF rfl rfl rfl g8_4 rfl rfl fun a hF => ?_
     refine ls hF rfl rfl rfl (r_pickf hF rfl rfl g8_4 rfl) fun a hF => ?_
     refine ls hF rfl rfl rfl (r_assign hF rfl rfl) fun a hF => ?_
     refine ls hF rfl rfl rfl (r_assign hF rfl rfl) fun a hF => ?_
     refine wpList_nil ?_
     replace hF := hF.sel [4, 5]
     simp only [sel, lk, Nat.reduceBEq, cond_true, cond_false] at hF
     refine k12 ?_
     refine wp_ret ?_
     refine hret (ret2 (fn := Tryd.f52) (t := 4) (u := 5) hF Tryd.results52 rfl rfl ?_)
     exact ⟨⟨i, by first | (rw [decide_eq_false (show ¬ i < xs.length by omega)]; rfl) | (rw [decide_eq_true (show i < xs.length by omega)]; simp_all; done), by omega, hlo, hhi⟩, hH.below⟩
end Go.Proofs.YtcelgjabccgnmaaDoor
