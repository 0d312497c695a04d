/-
  The walk of hustingsref08.put; parts of rows. Nothing is claimed here.
-/
import Derived.Test.YtcelgjabccgnmaaDoorRef8
namespace Go.Proofs.YtcelgjabccgnmaaDoor
open Go.RowKit
set_option linter.unusedVariables false
set_option linter.unusedSimpArgs false
set_option maxHeartbeats 1000000

/-- One step of the document's way. -/
def putStep (y : Bs) (r : List Bs × Bool) (x : Bs) : List Bs × Bool := if !r.2 && bless y x then (r.1 ++ [y, x], true) else (r.1 ++ [x], r.2)
theorem putStep_done (y : Bs) : ∀ (xs acc : List Bs), xs.foldl (putStep y) (acc, true) = (acc ++ xs, true)
  | [], acc => by simp
  | x :: xs, acc => by
    have : putStep y (acc, true) x = (acc ++ [x], true) := by simp [putStep]
    rw [List.foldl_cons, this, putStep_done y xs]; simp
theorem putStep_all (y : Bs) : ∀ (xs acc : List Bs), (if (xs.foldl (putStep y) (acc, false)).2 = true then (xs.foldl (putStep y) (acc, false)).1 else (xs.foldl (putStep y) (acc, false)).1 ++ [y]) = acc ++ (xs.takeWhile (fun x => !bless y x) ++ y :: xs.dropWhile (fun x => !bless y x))
  | [], acc => by simp
  | x :: xs, acc => by
    cases hb : bless y x with
    | true =>
      have : putStep y (acc, false) x = (acc ++ [y, x], true) := by simp [putStep, hb]
      rw [List.foldl_cons, this, putStep_done, if_pos rfl, List.takeWhile_cons, if_neg (by simp [hb]), List.dropWhile_cons, if_neg (by simp [hb])]
      simp
    | false =>
      have : putStep y (acc, false) x = (acc ++ [x], false) := by simp [putStep, hb]
      rw [List.foldl_cons, this, putStep_all y xs, List.takeWhile_cons, if_pos (by simp [hb]), List.dropWhile_cons, if_pos (by simp [hb])]
      simp
theorem putStep_len (y : Bs) : ∀ (xs : List Bs) (r : List Bs × Bool), (xs.foldl (putStep y) r).1.length ≤ r.1.length + 2 * xs.length
  | [], r => by simp
  | x :: xs, r => by
    rw [List.foldl_cons]
    have h1 := putStep_len y xs (putStep y r x)
    have h2 : (putStep y r x).1.length ≤ r.1.length + 2 := by unfold putStep; split <;> simp
    rw [List.length_cons]; omega
theorem putStep_take {y : Bs} {xs : List Bs} {i : Nat} (h : i < xs.length) : (xs.take (i + 1)).foldl (putStep y) ([], false) = putStep y ((xs.take i).foldl (putStep y) ([], false)) (xs.getD i []) := by
  rw [List.take_succ_eq_append_getElem h, List.foldl_append]
  simp [List.getD_eq_getElem?_getD, h]

theorem put8_spec {w0 w1 : World} {Bx H : List (Nat × Obj)} {v : Value} {xs : List Bs} (y : Bs) (hH0 : Hp w0 w1 (Bx ++ H)) (hS0 : Sl 9 1 Bx v xs.length (strV xs)) (hl : xs.length < 1000000) :
    Rets Tryd.prog 40 [v, .string (mk y)] w1 fun r w' => ∃ B', Hp w0 w' (B' ++ H) ∧ Sl 9 1 B' r (putN xs y).length (strV (putN xs y)) := by
  have hR := hS0.rsl hH0 fun p hp => List.mem_append_left _ hp
  obtain ⟨ad, cp, rfl⟩ := hR.shape
  have hH := Hp.refl w1
  refine rets_start Tryd.func40 rfl Tryd.ntmps40 rfl fun a Q0 hF hret hend => ?_
  simp only [argsFrom, Nat.zero_add, Nat.reduceAdd] at hF
  refine c_seq fun Q1 k1 t1 => ?_
  refine c_reg fun ops => ?_
  refine ls hF rfl rfl rfl (r_assign hF rfl rfl) fun a hF => ?_
  refine wpList_nil ?_
  replace hF := hF.sel [0, 1]
  simp only [sel, lk, Nat.reduceBEq, cond_true, cond_false] at hF
  refine k1 ?_
  refine c_seq fun Q2 k2 t2 => ?_
  refine c_reg fun ops => ?_
  refine ls hF rfl rfl rfl (r_assign hF rfl rfl) fun a hF => ?_
  refine wpList_nil ?_
  replace hF := hF.sel [0, 1, 5]
  simp only [sel, lk, Nat.reduceBEq, cond_true, cond_false] at hF
  refine k2 ?_
  refine c_seq fun Q3 k3 t3 => ?_
  refine c_reg fun ops => ?_
  refine ls hF rfl rfl rfl (r_assign hF rfl rfl) fun a hF => ?_
  refine wpList_nil ?_
  replace hF := hF.sel [0, 1, 5, 6]
  simp only [sel, lk, Nat.reduceBEq, cond_true, cond_false] at hF
  refine k3 ?_
  refine c_seq fun Q4 k4 t4 => ?_
  refine c_seq fun Q5 k5 t5 => ?_
  refine c_reg fun ops => ?_
  refine ls hF rfl rfl rfl (r_assign hF rfl rfl) fun a hF => ?_
  refine wpList_nil ?_
  replace hF := hF.sel [0, 1, 5, 6, 7]
  simp only [sel, lk, Nat.reduceBEq, cond_true, cond_false] at hF
  refine k5 ?_
  refine c_block fun Q6 t6 => ?_
  refine c_loop (fun n a w => ∃ i B rv acc dn, n = xs.length - i ∧ i ≤ xs.length ∧ (acc, dn) = (xs.take i).foldl (putStep y) ([], false) ∧ (∀ j < i, xs.getD j [] ≠ y) ∧ Fr 49 [(0, .slice ad xs.length cp), (1, .string (mk y)), (5, rv), (6, .bool dn), (7, .int .i64 i)] a ∧ Hp w1 w B ∧ Sl 9 1 B rv acc.length (strV acc)) ?_ ?_
  ·
   exact ⟨_, 0, [], _, [], false, rfl, Nat.zero_le _, rfl, fun _ h => (Nat.not_lt_zero _ h).elim, hF.keep [0, 1, 5, 6, 7] rfl, hH, Sl.nil _ _⟩
  ·
   clear hH hF
   intro n a w hI Q7 k7 t7
   obtain ⟨i, B, rv, acc, dn, hm, hi, hacc, hno, hF, hH, hS⟩ := hI
   refine c_seq fun Q8 k8 t8 => ?_
   refine c_seq fun Q9 k9 t9 => ?_
   refine c_reg fun ops => ?_
   refine ls hF rfl rfl rfl (r_move hF rfl rfl) fun a hF => ?_
   refine ls hF rfl rfl rfl (r_move hF rfl rfl) fun a hF => ?_
   refine ls hF rfl rfl rfl (r_len_sl hF rfl rfl Tryd.underlying47) fun a hF => ?_
   refine ls hF rfl rfl rfl (r_bin hF rfl rfl rfl rfl (b_ltn _ _ _ _)) fun a hF => ?_
   refine wpList_nil ?_
   refine k9 ?_
   refine c_if hF rfl (fun h11 => ?_) (fun h11 => ?_)
   ·
    try simp only [q1, q2, q3, q4, q5, q6, q7, q8, q9, qa, qb] at h11
    obtain ⟨b, off, had, hc⟩ := hR.at h11
    have hal := putStep_len y (xs.take i) ([], false)
    rw [← hacc, List.length_take] at hal
    simp only [List.length_nil] at hal
    have hst := putStep_take (y := y) h11
    rw [← hacc] at hst
    subst had
    refine wp_skip ?_
    refine k8 ?_
    refine c_seq fun Q10 k10 t10 => ?_
    refine c_block fun Q11 t11 => ?_
    refine c_seq fun Q12 k12 t12 => ?_
    refine c_seq fun Q13 k13 t13 => ?_
    refine c_reg fun ops => ?_
    refine ls hF rfl rfl rfl (r_move hF rfl rfl) fun a hF => ?_
    refine ls hF rfl rfl rfl (r_move hF rfl rfl) fun a hF => ?_
    refine ls hF rfl rfl rfl (r_ix1 hF _ rfl rfl rfl Tryd.underlying47 ti9 (by omega)) fun a hF => ?_
    refine ls hF rfl rfl rfl (r_load hF rfl rfl fl9 (hH.cell hc)) fun a hF => ?_
    refine ls hF rfl rfl rfl (r_move hF rfl rfl) fun a hF => ?_
    refine ls hF rfl rfl rfl (r_bin hF rfl rfl rfl rfl (b_seq _ _ _)) fun a hF => ?_
    refine wpList_nil ?_
    refine k13 ?_
    refine c_if hF rfl (fun h19 => ?_) (fun h19 => ?_)
    ·
     try simp only [q1, q2, q3, q4, q5, q6, q7, q8, q9, qa, qb] at h19
     refine c_seq fun Q14 k14 t14 => ?_
     refine c_reg fun ops => ?_
     refine ls hF rfl rfl rfl (r_move hF rfl rfl) fun a hF => ?_
     refine ls hF rfl rfl rfl (r_assign hF rfl rfl) fun a hF => ?_
     refine wpList_nil ?_
     refine k14 ?_
     refine wp_ret ?_
     refine t12.ret (t11.ret (t10.ret (t7.ret (t6.ret (t4.ret (hret (ret1 (fn := Tryd.f40) (t := 4) hF Tryd.results40 rfl ?_)))))))
     have hm : y ∈ xs := by rw [← h19, List.getD_eq_getElem?_getD, List.getElem?_eq_getElem h11]; exact List.getElem_mem h11
     have hp : putN xs y = xs := by unfold putN; rw [if_pos hm]
     exact ⟨Bx, (hH0.join hH).sub (List.sublist_append_right _ _), by rw [hp]; exact hS0⟩
    ·
     try simp only [q1, q2, q3, q4, q5, q6, q7, q8, q9, qa, qb] at h19
     refine wp_skip ?_
     refine k12 ?_
     refine c_cut (fun a w => ∃ B rv acc2 dn2, (acc2 ++ [xs.getD i []], dn2) = putStep y (acc, dn) (xs.getD i []) ∧ Fr 49 [(0, .slice (some ⟨b, off, none⟩) xs.length cp), (1, .string (mk y)), (5, rv), (6, .bool dn2), (7, .int .i64 i)] a ∧ Hp w1 w B ∧ Sl 9 1 B rv acc2.length (strV acc2) ∧ acc2.length ≤ acc.length + 1) (fun Q15 k15 t15 => ?_) ?_
     ·
      refine c_seq fun Q16 k16 t16 => ?_
      refine c_regg ?_
      refine ls hF rfl rfl rfl (r_move hF rfl rfl) fun a hF => ?_
      refine ls hF rfl rfl rfl (r_not hF rfl rfl) fun a hF => ?_
      refine ls hF rfl rfl rfl (r_move hF rfl rfl) fun a hF => ?_
      refine ls_ask (d := 23) hF rfl (fun g8_2 => ?_) (fun g8_2 => ?_)
      ·
       have g8_2' := g8_2; try simp only [q1, q2, q3, q4, q5, q6, q7, q8, q9, qa, qb] at g8_2'
       refine lsy hF rfl rfl rfl g8_2 rfl rfl (r_move hF rfl rfl) fun a hF => ?_
       refine lsy hF rfl rfl rfl g8_2 rfl rfl (r_move hF rfl rfl) fun a hF => ?_
       refine lsy hF rfl rfl rfl g8_2 rfl rfl (r_ix1 hF _ rfl rfl rfl Tryd.underlying47 ti9 (by omega)) fun a hF => ?_
       refine lsy hF rfl rfl rfl g8_2 rfl rfl (r_load hF rfl rfl fl9 (hH.cell hc)) fun a hF => ?_
       refine lsy hF rfl rfl rfl g8_2 rfl rfl (r_move hF rfl rfl) fun a hF => ?_
       refine lsy hF rfl rfl rfl g8_2 rfl rfl (r_bin hF rfl rfl rfl rfl (b_sgt _ _ _)) fun a hF => ?_
       refine ls hF rfl rfl rfl (r_pickt hF rfl rfl g8_2 rfl) fun a hF => ?_
       refine wpList_nil ?_
       refine k16 ?_
       refine c_if hF rfl (fun h30 => ?_) (fun h30 => ?_)
       ·
        try simp only [q1, q2, q3, q4, q5, q6, q7, q8, q9, qa, qb] at h30
        have hps : putStep y (acc, dn) (xs.getD i []) = (acc ++ [y, xs.getD i []], true) := by unfold putStep; simp_all
        refine c_seq fun Q17 k17 t17 => ?_
        refine c_reg fun ops => ?_
        refine ls hF rfl rfl rfl (r_move hF rfl rfl) fun a hF => ?_
        refine ls hF rfl rfl rfl (r_move hF rfl rfl) fun a hF => ?_
        refine ls_build1 hF hH rfl rfl rfl rfl rfl Tryd.underlying47 ti9 rfl (by decide) ?_
        intro a w g9_2 hH hE hF
        have hR := rsl_lit (n := 1) (size := 1) hH rfl (by decide)
        replace hH := hH.drop
        refine ls_append0 hF hH rfl rfl rfl rfl rfl rfl Tryd.underlying47 ti9 hS hR (one_of rfl) (by decide) (by omega) ?_
        intro a v9_3 w B9_3 hH hS hF
        refine ls hF rfl rfl rfl (r_assign hF rfl rfl) fun a hF => ?_
        refine wpList_nil ?_
        replace hS := (show Sl 9 1 _ _ (acc.length + 1) (strV acc ++ [.string (mk y)]) from hS)
        rw [strV_snoc] at hS
        refine k17 ?_
        refine c_reg fun ops => ?_
        refine ls hF rfl rfl rfl (r_assign hF rfl rfl) fun a hF => ?_
        refine wpList_nil ?_
        refine k15 ?_
        first
          | exact ⟨_, _, acc ++ [y], _, by rw [hps]; simp, hF.keep [0, 1, 5, 6, 7] rfl, hH, by simpa using hS, by simp⟩
          | exact ⟨_, _, acc, _, by rw [hps], hF.keep [0, 1, 5, 6, 7] rfl, hH, hS, by omega⟩
       ·
        try simp only [q1, q2, q3, q4, q5, q6, q7, q8, q9, qa, qb] at h30
        have hps : putStep y (acc, dn) (xs.getD i []) = (acc ++ [xs.getD i []], dn) := by unfold putStep; simp_all
        refine wp_skip ?_
        refine k15 ?_
        first
          | exact ⟨_, _, acc ++ [y], _, by rw [hps]; simp, hF.keep [0, 1, 5, 6, 7] rfl, hH, by simpa using hS, by simp⟩
          | exact ⟨_, _, acc, _, by rw [hps], hF.keep [0, 1, 5, 6, 7] rfl, hH, hS, by omega⟩
      ·
       have g8_2' := g8_2; try simp only [q1, q2, q3, q4, q5, q6, q7, q8, q9, qa, qb] at g8_2'
       have hps : putStep y (acc, dn) (xs.getD i []) = (acc ++ [xs.getD i []], dn) := by unfold putStep; simp_all
       refine lsn hF rfl rfl rfl g8_2 rfl rfl fun a hF => ?_
       refine lsn hF rfl rfl rfl g8_2 rfl rfl fun a hF => ?_
       refine lsn hF rfl rfl rfl g8_2 rfl rfl fun a hF => ?_
       refine lsn hF rfl rfl rfl g8_2 rfl rfl fun a hF => ?_
       refine lsn hF rfl rfl rfl g8_2 rfl rfl fun a hF => ?_
       refine lsn hF rfl rfl rfl g8_2 rfl rfl fun a hF => ?_
       refine ls hF rfl rfl rfl (r_pickf hF rfl rfl g8_2 rfl) fun a hF => ?_
       refine wpList_nil ?_
       refine k16 ?_
       refine c_no hF rfl rfl ?_
       refine wp_skip ?_
       refine k15 ?_
       first
         | exact ⟨_, _, acc ++ [y], _, by rw [hps]; simp, hF.keep [0, 1, 5, 6, 7] rfl, hH, by simpa using hS, by simp⟩
         | exact ⟨_, _, acc, _, by rw [hps], hF.keep [0, 1, 5, 6, 7] rfl, hH, hS, by omega⟩
     ·
      clear hH hF hS
      rintro a w ⟨B2, rv2, acc2, dn2, hps, hF, hH, hS, hal2⟩
      refine c_reg fun ops => ?_
      refine ls hF rfl rfl rfl (r_move hF rfl rfl) fun a hF => ?_
      refine ls hF rfl rfl rfl (r_move hF rfl rfl) fun a hF => ?_
      refine ls hF rfl rfl rfl (r_move hF rfl rfl) fun a hF => ?_
      refine ls hF rfl rfl rfl (r_ix1 hF _ rfl rfl rfl Tryd.underlying47 ti9 (by omega)) fun a hF => ?_
      refine ls hF rfl rfl rfl (r_load hF rfl rfl fl9 (hH.cell hc)) fun a hF => ?_
      refine ls_build1 hF hH rfl rfl rfl rfl rfl Tryd.underlying47 ti9 rfl (by decide) ?_
      intro a w g11_5 hH hE hF
      have hR := rsl_lit (n := 1) (size := 1) hH rfl (by decide)
      replace hH := hH.drop
      refine ls_append0 hF hH rfl rfl rfl rfl rfl rfl Tryd.underlying47 ti9 hS hR (one_of rfl) (by decide) (by omega) ?_
      intro a v11_6 w B11_6 hH hS hF
      refine ls hF rfl rfl rfl (r_assign hF rfl rfl) fun a hF => ?_
      refine wpList_nil ?_
      replace hS := (show Sl 9 1 _ _ (acc2.length + 1) (strV acc2 ++ [.string (mk (xs.getD i []))]) from hS)
      rw [strV_snoc] at hS
      refine t11.norm ?_
      refine k10 ?_
      refine c_reg fun ops => ?_
      refine ls hF rfl rfl rfl (r_move hF rfl rfl) fun a hF => ?_
      refine ls hF rfl rfl rfl (r_bin hF rfl rfl rfl rfl (b_addn _ _ 1 (by omega))) fun a hF => ?_
      refine ls hF rfl rfl rfl (r_assign hF rfl rfl) fun a hF => ?_
      refine wpList_nil ?_
      refine k7 ?_
      refine ⟨xs.length - (i + 1), by omega, i + 1, _, _, acc2 ++ [xs.getD i []], dn2, rfl, by omega, by rw [hst, ← hps], ?_, hF.keep [0, 1, 5, 6, 7] rfl, hH, by simpa using hS⟩
      intro j hj
      rcases Nat.lt_succ_iff_lt_or_eq.1 hj with h | rfl
      · exact hno j h
      · exact h19
   ·
    try simp only [q1, q2, q3, q4, q5, q6, q7, q8, q9, qa, qb] at h11
    have hil : i = xs.length := by omega
    have hal := putStep_len y (xs.take i) ([], false)
    rw [← hacc, List.length_take] at hal
    simp only [List.length_nil] at hal
    have hnm : y ∉ xs := fun hm => by
      obtain ⟨j, hj, e⟩ := List.mem_iff_getElem.1 hm
      exact hno j (by omega) (by rw [← e]; simp [List.getD_eq_getElem?_getD, hj])
    have hall := putStep_all y xs []
    rw [hil, List.take_length] at hacc
    rw [← hacc] at hall
    have hpn : putN xs y = xs.takeWhile (fun x => !bless y x) ++ y :: xs.dropWhile (fun x => !bless y x) := by unfold putN; rw [if_neg hnm]
    simp only [List.nil_append] at hall
    rw [← hpn] at hall
    refine wp_exit (t8.exit (t7.exit (t6.here (?_))))
    refine k4 ?_
    refine c_cut (fun a w => ∃ B rv, Fr 49 [(5, rv)] a ∧ Hp w1 w B ∧ Sl 9 1 B rv (putN xs y).length (strV (putN xs y))) (fun Q18 k18 t18 => ?_) ?_
    ·
     refine c_seq fun Q19 k19 t19 => ?_
     refine c_reg fun ops => ?_
     refine ls hF rfl rfl rfl (r_move hF rfl rfl) fun a hF => ?_
     refine ls hF rfl rfl rfl (r_not hF rfl rfl) fun a hF => ?_
     refine wpList_nil ?_
     refine k19 ?_
     refine c_if hF rfl (fun h43 => ?_) (fun h43 => ?_)
     ·
      try simp only [q1, q2, q3, q4, q5, q6, q7, q8, q9, qa, qb] at h43
      rw [h43, if_neg (by simp)] at hall
      refine c_reg fun ops => ?_
      refine ls hF rfl rfl rfl (r_move hF rfl rfl) fun a hF => ?_
      refine ls hF rfl rfl rfl (r_move hF rfl rfl) fun a hF => ?_
      refine ls_build1 hF hH rfl rfl rfl rfl rfl Tryd.underlying47 ti9 rfl (by decide) ?_
      intro a w g13_2 hH hE hF
      have hR := rsl_lit (n := 1) (size := 1) hH rfl (by decide)
      replace hH := hH.drop
      refine ls_append0 hF hH rfl rfl rfl rfl rfl rfl Tryd.underlying47 ti9 hS hR (one_of rfl) (by decide) (by omega) ?_
      intro a v13_3 w B13_3 hH hS hF
      refine ls hF rfl rfl rfl (r_assign hF rfl rfl) fun a hF => ?_
      refine wpList_nil ?_
      replace hS := (show Sl 9 1 _ _ (acc.length + 1) (strV acc ++ [.string (mk y)]) from hS)
      rw [strV_snoc] at hS
      refine k18 ?_
      exact ⟨_, _, hF.keep [5] rfl, hH, by rw [← hall]; simpa using hS⟩
     ·
      try simp only [q1, q2, q3, q4, q5, q6, q7, q8, q9, qa, qb] at h43
      rw [h43, if_pos rfl] at hall
      refine wp_skip ?_
      refine k18 ?_
      exact ⟨_, _, hF.keep [5] rfl, hH, by rw [← hall]; simpa using hS⟩
    ·
     clear hH hF hS
     rintro a w ⟨B2, rv2, hF, hH, hS⟩
     refine c_seq fun Q20 k20 t20 => ?_
     refine c_reg fun ops => ?_
     refine ls hF rfl rfl rfl (r_move hF rfl rfl) fun a hF => ?_
     refine ls hF rfl rfl rfl (r_assign hF rfl rfl) fun a hF => ?_
     refine wpList_nil ?_
     replace hF := hF.sel [4]
     simp only [sel, lk, Nat.reduceBEq, cond_true, cond_false] at hF
     refine k20 ?_
     refine wp_ret ?_
     refine hret (ret1 (fn := Tryd.f40) (t := 4) hF Tryd.results40 rfl ?_)
     exact ⟨B2, ((hH0.join hH).sub (List.Sublist.append_left (List.sublist_append_right _ _) _)), hS⟩
end Go.Proofs.YtcelgjabccgnmaaDoor
