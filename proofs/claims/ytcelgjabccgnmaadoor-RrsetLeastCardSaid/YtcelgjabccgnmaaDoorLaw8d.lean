/-
  The walk of RrsetLeast. Nothing is claimed here.
-/
import Derived.Test.YtcelgjabccgnmaaDoorLaw8c
namespace Go.Proofs.YtcelgjabccgnmaaDoor
open Go.RowKit
set_option linter.unusedVariables false
set_option linter.unusedSimpArgs false
set_option maxHeartbeats 1000000

theorem may8_spec (r : Rec) (w0 : World) (hn : r.name.length < 1000000) (hd : r.data.length < 1000000) (hG : GW w0) : Rets Tryd.prog 28 [.agg (recV r).toArray] w0 fun v w' => v = .bool (rmay r) ∧ Ext w0 w' := by
  have hH := Hp.refl w0
  refine rets_start Tryd.func28 rfl Tryd.ntmps28 rfl fun a Q0 hF hret hend => ?_
  simp only [argsFrom, Nat.zero_add, Nat.reduceAdd] at hF
  refine c_sr fun ops => ?_
  refine ls_box hF hH rfl rfl rfl rfl rfl ?_
  intro a w g0_0 hH hE hF
  refine zm 1 hF rfl fun a hF => ?_
  refine c_n ?_
  replace hF := hF.sel [1]
  simp only [ss, Nat.reduceBEq] at hF
  simp only [cells_agg] at hH
  refine c_sg ?_
  refine zl hF rfl (r_fieldaddr0 hF rfl rfl fd27_0) fun a hF => ?_
  refine zl hF rfl (r_load hF rfl rfl fl9 (own_cell (i := 0) hH rfl rfl)) fun a hF => ?_
  refine zc hF rfl rfl fn43 (may_spec _ (by omega) _) ?_
  rintro _ w ⟨rfl, hE⟩ a hF
  replace hH := hH.ext hE
  refine zm 1 hF rfl fun a hF => ?_
  refine l_ask (d := 6) hF rfl (fun g1_3 => ?_) (fun g1_3 => ?_)
  ·
   have g1_3' := g1_3; try simp only [qq] at g1_3'
   refine zn hF rfl g1_3 fun a hF => ?_
   refine zn hF rfl g1_3 fun a hF => ?_
   refine zn hF rfl g1_3 fun a hF => ?_
   refine zn hF rfl g1_3 fun a hF => ?_
   refine zn hF rfl g1_3 fun a hF => ?_
   refine zl hF rfl (r_pickf hF rfl rfl g1_3 rfl) fun a hF => ?_
   refine zm 1 hF rfl fun a hF => ?_
   refine c_n ?_
   replace hF := hF.sel [2]
   simp only [ss, Nat.reduceBEq] at hF
   refine wp_ret (hret (ret1 hF Tryd.results28 rfl ?_))
   exact ⟨by rw [rmay, g1_3]; rfl, hH.below⟩
  have g1_3' := g1_3; try simp only [qq] at g1_3'
  refine zy hF rfl g1_3 (r_fieldaddr0 hF rfl rfl fd27_1) fun a hF => ?_
  refine zy hF rfl g1_3 (r_load hF rfl rfl fl24 (own_cell (i := 0) hH rfl rfl)) fun a hF => ?_
  refine zy hF rfl g1_3 (r_fieldaddr0 hF rfl rfl fd27_4) fun a hF => ?_
  refine zy hF rfl g1_3 (r_load hF rfl rfl fl9 (own_cell (i := 0) hH rfl rfl)) fun a hF => ?_
  refine zyc hF rfl g1_3 rfl fn61 (dmay_spec _ _ (by omega) _ (hG.ext hH.below)) ?_
  rintro _ w ⟨rfl, hE⟩ a hF
  replace hH := hH.ext hE
  refine zl hF rfl (r_pickt hF rfl rfl g1_3 rfl) fun a hF => ?_
  refine zm 1 hF rfl fun a hF => ?_
  refine c_n ?_
  replace hF := hF.sel [2]
  simp only [ss, Nat.reduceBEq] at hF
  refine wp_ret (hret (ret1 hF Tryd.results28 rfl ?_))
  exact ⟨by rw [rmay, g1_3]; rfl, hH.below⟩
theorem recsV_set : ∀ (l : List Rec) (k : Nat) (t : Nat) (h : k < l.length), (recsV l).set (k * 5 + 3) (.int .u32 (t : Nat)) = recsV (l.set k (reTtl l[k] t))
  | r :: l, 0, t, _ => rfl
  | r :: l, k + 1, t, h => by
    have h1 : recsV (r :: l) = recV r ++ recsV l := rfl
    have h2 := recsV_set l k t (Nat.lt_of_succ_lt_succ h)
    rw [h1, show (k + 1) * 5 + 3 = (recV r).length + (k * 5 + 3) by simp [recV]; omega, List.set_append_right _ _ (by omega), Nat.add_sub_cancel_left, h2]
    rfl
theorem rrsetLeast_spec (l : List Rec) (v : Value) (at' : Int) (t : Nat) (w0 : World) (hR : RSl w0 5 v l.length (recsV l)) (hlb : ∀ r ∈ l, r.name.length ≤ 140737488351232 ∧ r.data.length ≤ 140737488351232) (hG : GW w0) :
    Rets Tryd.prog 7 [v, .int .i64 at', .int .u32 (t : Nat)] w0 fun r w' => r = .bool true ∧ Ext w0 w' := by
  have hH := Hp.refl w0
  obtain ⟨ad, cap, rfl⟩ := hR.shape
  obtain ⟨mb, hmb, hmb2⟩ := u64_nat at'
  refine rets_start Tryd.func7 rfl Tryd.ntmps7 rfl fun a Q0 hF hret hend => ?_
  simp only [argsFrom, Nat.zero_add, Nat.reduceAdd] at hF
  refine c_sr fun ops => ?_
  refine zm 1 hF rfl fun a hF => ?_
  refine c_n ?_
  replace hF := hF.sel [0, 1, 2]
  simp only [ss, Nat.reduceBEq] at hF
  refine c_seq fun Q1 k1 t1 => ?_
  refine c_sg ?_
  refine zm 1 hF rfl fun a hF => ?_
  refine zc hF rfl rfl fn22 (long8_spec l _ _ (hR.ext hH.below) hlb) ?_
  rintro _ w ⟨⟨b, rfl, hlg⟩, hE⟩ a hF
  replace hH := hH.ext hE
  refine zm 1 hF rfl fun a hF => ?_
  refine ls_ask (d := 20) hF rfl (fun g1_2 => ?_) (fun g1_2 => ?_)
  ·
   have g1_2' := g1_2; try simp only [qq] at g1_2'
   refine zn hF rfl g1_2 fun a hF => ?_
   refine zn hF rfl g1_2 fun a hF => ?_
   refine zn hF rfl g1_2 fun a hF => ?_
   refine zl hF rfl (r_pickt hF rfl rfl g1_2 rfl) fun a hF => ?_
   refine zm 1 hF rfl fun a hF => ?_
   refine zn hF rfl rfl fun a hF => ?_
   refine zn hF rfl rfl fun a hF => ?_
   refine zl hF rfl (r_pickt hF rfl rfl rfl rfl) fun a hF => ?_
   refine c_n ?_
   replace hF := hF.sel [0, 1, 2, 28]
   simp only [ss, Nat.reduceBEq] at hF
   refine c_yes hF rfl rfl ?_
   refine c_sr fun ops => ?_
   refine zc hF rfl rfl fn23 (awake8_spec _ (hG.ext hH.below)) ?_
   rintro _ w ⟨rfl, hE⟩ a hF
   replace hH := hH.ext hE
   refine zm 1 hF rfl fun a hF => ?_
   refine c_n ?_
   replace hF := hF.sel [6]
   simp only [ss, Nat.reduceBEq] at hF
   refine wp_ret (t1.ret (hret (ret1 hF Tryd.results7 rfl ?_)))
   exact ⟨rfl, hH.below⟩
  have g1_2' := g1_2; try simp only [qq] at g1_2'
  refine zy hF rfl g1_2 (r_move hF rfl rfl) fun a hF => ?_
  refine zy hF rfl g1_2 (r_len_sl hF rfl rfl Tryd.underlying23) fun a hF => ?_
  refine zy hF rfl g1_2 (zr hF rfl rfl (b_eqn _ _ _ 0)) fun a hF => ?_
  refine zl hF rfl (r_pickf hF rfl rfl g1_2 rfl) fun a hF => ?_
  refine zm 1 hF rfl fun a hF => ?_
  refine ls_ask (d := 25) hF rfl (fun g1_7 => ?_) (fun g1_7 => ?_)
  ·
   have g1_7' := g1_7; try simp only [qq] at g1_7'
   refine zn hF rfl g1_7 fun a hF => ?_
   refine zn hF rfl g1_7 fun a hF => ?_
   refine zl hF rfl (r_pickt hF rfl rfl g1_7 rfl) fun a hF => ?_
   refine c_n ?_
   replace hF := hF.sel [0, 1, 2, 28]
   simp only [ss, Nat.reduceBEq] at hF
   refine c_yes hF rfl rfl ?_
   refine c_sr fun ops => ?_
   refine zc hF rfl rfl fn23 (awake8_spec _ (hG.ext hH.below)) ?_
   rintro _ w ⟨rfl, hE⟩ a hF
   replace hH := hH.ext hE
   refine zm 1 hF rfl fun a hF => ?_
   refine c_n ?_
   replace hF := hF.sel [6]
   simp only [ss, Nat.reduceBEq] at hF
   refine wp_ret (t1.ret (hret (ret1 hF Tryd.results7 rfl ?_)))
   exact ⟨rfl, hH.below⟩
  have g1_7' := g1_7; try simp only [qq] at g1_7'
  refine zyc hF rfl g1_7 rfl fn23 (awake8_spec _ (hG.ext hH.below)) ?_
  rintro _ w ⟨rfl, hE⟩ a hF
  replace hH := hH.ext hE
  refine zy hF rfl g1_7 (r_not hF rfl rfl) fun a hF => ?_
  refine zl hF rfl (r_pickf hF rfl rfl g1_7 rfl) fun a hF => ?_
  refine c_n ?_
  replace hF := hF.sel [0, 1, 2, 28]
  simp only [ss, Nat.reduceBEq] at hF
  refine c_if hF rfl (fun h28 => ?_) (fun h28 => ?_)
  ·
   try simp only [qq] at h28
   refine c_sr fun ops => ?_
   refine zc hF rfl rfl fn23 (awake8_spec _ (hG.ext hH.below)) ?_
   rintro _ w ⟨rfl, hE⟩ a hF
   replace hH := hH.ext hE
   refine zm 1 hF rfl fun a hF => ?_
   refine c_n ?_
   replace hF := hF.sel [6]
   simp only [ss, Nat.reduceBEq] at hF
   refine wp_ret (t1.ret (hret (ret1 hF Tryd.results7 rfl ?_)))
   exact ⟨rfl, hH.below⟩
  try simp only [qq] at h28
  obtain ⟨hRB, hll⟩ := hlg g1_2'
  have hl0 : 0 < l.length := by omega
  have hgb := group_bounds hRB
  refine wp_skip ?_
  refine k1 ?_
  refine c_sr fun ops => ?_
  refine zm 1 hF rfl fun a hF => ?_
  refine zc hF rfl rfl fn24 (groupR_spec l _ _ (hR.ext hH.below) hRB (hG.ext hH.below)) ?_
  rintro v3 w ⟨hs3, hE⟩ a hF
  replace hH := hH.ext hE
  refine zm 1 hF rfl fun a hF => ?_
  refine c_n ?_
  replace hF := hF.sel [0, 1, 2, 7]
  simp only [ss, Nat.reduceBEq] at hF
  obtain ⟨w3, hw3⟩ : ∃ w3, w3 = w := ⟨w, rfl⟩
  rw [← hw3] at hs3
  have hH3 : Hp w0 w3 [] := by rw [hw3]; exact hH
  replace hH : Hp w3 w [] := by rw [hw3]; exact Hp.refl _
  clear hw3
  obtain ⟨gad, gcp, rfl⟩ := hs3.shape
  have hgl := hgb.len
  refine c_seq fun Q2 k2 t2 => ?_
  refine c_sr fun ops => ?_
  refine zm 1 hF rfl fun a hF => ?_
  refine c_n ?_
  replace hF := hF.sel [0, 1, 2, 7, 8]
  simp only [ss, Nat.reduceBEq] at hF
  refine c_block fun Q3 t3 => ?_
  refine c_loop (fun n a w => ∃ i, n = (groupN l).length - i ∧ i ≤ (groupN l).length ∧ Fr 195 [(0, .slice ad l.length cap), (1, .int .i64 at'), (2, .int .u32 (t : Nat)), (7, .slice gad (groupN l).length gcp), (8, .int .i64 (i : Nat))] a ∧ Hp w3 w []) ?_ ?_
  ·
   exact ⟨_, 0, rfl, Nat.zero_le _, hF.keep [0, 1, 2, 7, 8] rfl, hH⟩
  clear hH hF
  intro n a w hI Q4 k4 t4
  obtain ⟨i, hm, hi, hF, hH⟩ := hI
  refine c_seq fun Q5 k5 t5 => ?_
  refine c_sr fun ops => ?_
  refine zm 2 hF rfl fun a hF => ?_
  refine zl hF rfl (r_len_sl hF rfl rfl Tryd.underlying38) fun a hF => ?_
  refine zb hF rfl rfl rfl (b_ltn _ _ _ _) fun a hF => ?_
  refine c_n ?_
  refine c_if hF rfl (fun h35 => ?_) (fun h35 => ?_)
  ·
   try simp only [qq] at h35
   obtain ⟨b1, off1, dv1, rfl, hset1, hdv1⟩ := hs3.at h35
   have hIS := (group_mem l _).1 (List.getElem_mem h35)
   have hgn := hgb.name _ (List.getElem_mem h35)
   refine wp_skip ?_
   refine k5 ?_
   refine c_seq fun Q6 k6 t6 => ?_
   refine c_block fun Q7 t7 => ?_
   refine c_sr fun ops => ?_
   refine zm 1 hF rfl fun a hF => ?_
   refine c_n ?_
   refine c_seq fun Q8 k8 t8 => ?_
   refine c_sr fun ops => ?_
   refine zm 1 hF rfl fun a hF => ?_
   refine c_n ?_
   refine c_block fun Q9 t9 => ?_
   refine c_loop (fun n a w => ∃ j, n = l.length - j ∧ j ≤ l.length ∧ Fr 195 [(0, .slice ad l.length cap), (1, .int .i64 at'), (2, .int .u32 (t : Nat)), (7, .slice (some ⟨b1, off1, none⟩) (groupN l).length gcp), (8, .int .i64 (i : Nat)), (9, .int .u32 (leastN (l.take j) (groupN l)[i] : Nat)), (10, .int .i64 (j : Nat))] a ∧ Hp w3 w []) ?_ ?_
   ·
    exact ⟨_, 0, rfl, Nat.zero_le _, hF.keep [0, 1, 2, 7, 8, 9, 10] rfl, hH⟩
   clear hH hF
   intro n a w hI Q10 k10 t10
   obtain ⟨j, hm2, hj, hF, hH⟩ := hI
   refine c_seq fun Q11 k11 t11 => ?_
   refine c_sr fun ops => ?_
   refine zm 2 hF rfl fun a hF => ?_
   refine zl hF rfl (r_len_sl hF rfl rfl Tryd.underlying23) fun a hF => ?_
   refine zb hF rfl rfl rfl (b_ltn _ _ _ _) fun a hF => ?_
   refine c_n ?_
   refine c_fi hF rfl (fun h41 => ?_) (fun h41 => ?_)
   ·
    try simp only [qq] at h41
    obtain rfl : j = l.length := by omega
    rw [List.take_length, least_is hIS] at hF
    refine wp_exit (t11.exit (t10.exit (t9.here (?_))))
    refine k8 ?_
    refine c_sr fun ops => ?_
    refine zm 2 hF rfl fun a hF => ?_
    refine zl hF rfl (r_indexaddr hF _ rfl rfl rfl Tryd.underlying38 ti49 (by omega)) fun a hF => ?_
    refine zl hF rfl (r_fieldaddr hF rfl rfl fd49_3) fun a hF => ?_
    refine zl hF rfl (r_load hF rfl rfl fl25 (hH.cell (hset1 3 _ rfl))) fun a hF => ?_
    refine zm 1 hF rfl fun a hF => ?_
    refine zb hF rfl rfl rfl (b_nen _ _ _ _) fun a hF => ?_
    refine c_n ?_
    refine c_if hF rfl (fun h104 => ?_) (fun h104 => ?_)
    ·
     try simp only [qq] at h104
     first
       | exact absurd trivial h104
       | exact absurd rfl h104
       | cases h104
    try simp only [qq] at h104
    refine wp_skip ?_
    refine t7.norm ?_
    refine k6 ?_
    refine c_reg fun ops => ?_
    refine zm 1 hF rfl fun a hF => ?_
    refine zb hF rfl rfl rfl (b_addn _ _ 1 (by omega)) fun a hF => ?_
    refine zm 1 hF rfl fun a hF => ?_
    refine wpList_nil ?_
    refine k4 ?_
    exact ⟨(groupN l).length - (i + 1), by omega, i + 1, rfl, by omega, hF.keep [0, 1, 2, 7, 8] rfl, hH⟩
   try simp only [qq] at h41
   obtain ⟨bx, offx, rfl, -, hrecx⟩ := hR.rec h41
   have hxb := hRB.each _ (List.getElem_mem h41)
   have hlt := least_take (s := (groupN l)[i]) h41
   refine wp_skip ?_
   refine k11 ?_
   refine c_seq fun Q12 k12 t12 => ?_
   refine c_block fun Q13 t13 => ?_
   refine c_seq fun Q14 k14 t14 => ?_
   refine q_reg (by kernel_rfl) (by kernel_rfl) ?_
   refine qs hF rfl rfl rfl (fun w hw => r_move hF rfl rfl) fun a hF => ?_
   refine qs hF rfl rfl rfl (fun w hw => r_move hF rfl rfl) fun a hF => ?_
   refine qs hF rfl rfl rfl (fun w hw => r_indexaddr hF _ rfl rfl rfl Tryd.underlying23 ti27 (by omega)) fun a hF => ?_
   refine qs hF rfl rfl rfl (fun w hw => r_loadagg hF rfl rfl Tryd.underlying27 ti27 rfl (fun j u hu => (hH.ext hw).cell (hH3.cell (hrecx j u hu)))) fun a hF => ?_
   refine qs_call hF rfl rfl rfl rfl rfl fn28 (fun w hw => may8_spec _ _ hxb.1 hxb.2 (hG.ext (hH3.below.trans (hH.below.trans hw)))) fun a hF => ?_
   refine qs hF rfl rfl rfl (fun w hw => r_move hF rfl rfl) fun a hF => ?_
   refine q_ask (d := 49) hF rfl (fun g11_5 => ?_) (fun g11_5 => ?_)
   ·
    have g11_5' := g11_5; try simp only [qq] at g11_5'
    refine qsy hF rfl rfl rfl g11_5 rfl rfl (fun w hw => r_move hF rfl rfl) fun a hF => ?_
    refine qsy hF rfl rfl rfl g11_5 rfl rfl (fun w hw => r_move hF rfl rfl) fun a hF => ?_
    refine qsy hF rfl rfl rfl g11_5 rfl rfl (fun w hw => r_indexaddr hF _ rfl rfl rfl Tryd.underlying23 ti27 (by omega)) fun a hF => ?_
    refine qsy hF rfl rfl rfl g11_5 rfl rfl (fun w hw => r_fieldaddr hF rfl rfl fd27_0) fun a hF => ?_
    refine qsy hF rfl rfl rfl g11_5 rfl rfl (fun w hw => r_load hF rfl rfl fl9 (hw.cell (hH.cell (hH3.cell (hrecx 0 _ rfl))))) fun a hF => ?_
    refine qsy hF rfl rfl rfl g11_5 rfl rfl (fun w hw => r_move hF rfl rfl) fun a hF => ?_
    refine qsy hF rfl rfl rfl g11_5 rfl rfl (fun w hw => r_move hF rfl rfl) fun a hF => ?_
    refine qsy hF rfl rfl rfl g11_5 rfl rfl (fun w hw => r_indexaddr hF _ rfl rfl rfl Tryd.underlying38 ti49 (by omega)) fun a hF => ?_
    refine qsy hF rfl rfl rfl g11_5 rfl rfl (fun w hw => r_fieldaddr hF rfl rfl fd49_0) fun a hF => ?_
    refine qsy hF rfl rfl rfl g11_5 rfl rfl (fun w hw => r_load hF rfl rfl fl9 (hw.cell (hH.cell (hset1 0 _ rfl)))) fun a hF => ?_
    refine qsy_call hF rfl rfl rfl g11_5 rfl rfl rfl rfl fn29 (fun w hw => same_spec _ _ (by omega) (by omega) _) fun a hF => ?_
    refine qs hF rfl rfl rfl (fun w hw => r_pickt hF rfl rfl g11_5 rfl) fun a hF => ?_
    refine qs hF rfl rfl rfl (fun w hw => r_move hF rfl rfl) fun a hF => ?_
    refine q_ask (d := 62) hF rfl (fun g11_18 => ?_) (fun g11_18 => ?_)
    ·
     have g11_18' := g11_18; try simp only [qq] at g11_18'
     refine qsy hF rfl rfl rfl g11_18 rfl rfl (fun w hw => r_move hF rfl rfl) fun a hF => ?_
     refine qsy hF rfl rfl rfl g11_18 rfl rfl (fun w hw => r_move hF rfl rfl) fun a hF => ?_
     refine qsy hF rfl rfl rfl g11_18 rfl rfl (fun w hw => r_indexaddr hF _ rfl rfl rfl Tryd.underlying23 ti27 (by omega)) fun a hF => ?_
     refine qsy hF rfl rfl rfl g11_18 rfl rfl (fun w hw => r_fieldaddr hF rfl rfl fd27_1) fun a hF => ?_
     refine qsy hF rfl rfl rfl g11_18 rfl rfl (fun w hw => r_load hF rfl rfl fl24 (hw.cell (hH.cell (hH3.cell (hrecx 1 _ rfl))))) fun a hF => ?_
     refine qsy hF rfl rfl rfl g11_18 rfl rfl (fun w hw => r_move hF rfl rfl) fun a hF => ?_
     refine qsy hF rfl rfl rfl g11_18 rfl rfl (fun w hw => r_move hF rfl rfl) fun a hF => ?_
     refine qsy hF rfl rfl rfl g11_18 rfl rfl (fun w hw => r_indexaddr hF _ rfl rfl rfl Tryd.underlying38 ti49 (by omega)) fun a hF => ?_
     refine qsy hF rfl rfl rfl g11_18 rfl rfl (fun w hw => r_fieldaddr hF rfl rfl fd49_1) fun a hF => ?_
     refine qsy hF rfl rfl rfl g11_18 rfl rfl (fun w hw => r_load hF rfl rfl fl24 (hw.cell (hH.cell (hset1 1 _ rfl)))) fun a hF => ?_
     refine qsy hF rfl rfl rfl g11_18 rfl rfl (fun w hw => zr hF rfl rfl (b_eqn _ _ _ _)) fun a hF => ?_
     refine qs hF rfl rfl rfl (fun w hw => r_pickt hF rfl rfl g11_18 rfl) fun a hF => ?_
     refine qs hF rfl rfl rfl (fun w hw => r_move hF rfl rfl) fun a hF => ?_
     refine q_ask (d := 75) hF rfl (fun g11_31 => ?_) (fun g11_31 => ?_)
     ·
      have g11_31' := g11_31; try simp only [qq] at g11_31'
      refine qsy hF rfl rfl rfl g11_31 rfl rfl (fun w hw => r_move hF rfl rfl) fun a hF => ?_
      refine qsy hF rfl rfl rfl g11_31 rfl rfl (fun w hw => r_move hF rfl rfl) fun a hF => ?_
      refine qsy hF rfl rfl rfl g11_31 rfl rfl (fun w hw => r_indexaddr hF _ rfl rfl rfl Tryd.underlying23 ti27 (by omega)) fun a hF => ?_
      refine qsy hF rfl rfl rfl g11_31 rfl rfl (fun w hw => r_fieldaddr hF rfl rfl fd27_2) fun a hF => ?_
      refine qsy hF rfl rfl rfl g11_31 rfl rfl (fun w hw => r_load hF rfl rfl fl24 (hw.cell (hH.cell (hH3.cell (hrecx 2 _ rfl))))) fun a hF => ?_
      refine qsy hF rfl rfl rfl g11_31 rfl rfl (fun w hw => r_move hF rfl rfl) fun a hF => ?_
      refine qsy hF rfl rfl rfl g11_31 rfl rfl (fun w hw => r_move hF rfl rfl) fun a hF => ?_
      refine qsy hF rfl rfl rfl g11_31 rfl rfl (fun w hw => r_indexaddr hF _ rfl rfl rfl Tryd.underlying38 ti49 (by omega)) fun a hF => ?_
      refine qsy hF rfl rfl rfl g11_31 rfl rfl (fun w hw => r_fieldaddr hF rfl rfl fd49_2) fun a hF => ?_
      refine qsy hF rfl rfl rfl g11_31 rfl rfl (fun w hw => r_load hF rfl rfl fl24 (hw.cell (hH.cell (hset1 2 _ rfl)))) fun a hF => ?_
      refine qsy hF rfl rfl rfl g11_31 rfl rfl (fun w hw => zr hF rfl rfl (b_eqn _ _ _ _)) fun a hF => ?_
      refine qs hF rfl rfl rfl (fun w hw => r_pickt hF rfl rfl g11_31 rfl) fun a hF => ?_
      refine q_nil fun w hE => ?_
      replace hH := hH.ext hE
      refine k14 ?_
      refine c_fi hF rfl (fun h87 => ?_) (fun h87 => ?_)
      ·
       try simp only [qq] at h87
       rw [if_neg (fun hk => h87 hk.2.2.2)] at hlt
       refine wp_skip ?_
       refine t13.norm ?_
       refine k12 ?_
       refine c_reg fun ops => ?_
       refine zm 1 hF rfl fun a hF => ?_
       refine zb hF rfl rfl rfl (b_addn _ _ 1 (by omega)) fun a hF => ?_
       refine zm 1 hF rfl fun a hF => ?_
       refine wpList_nil ?_
       refine k10 ?_
       first
         | skip
       try rw [if_neg (fun hk => by
         have hkk := (has_iff hIS.good).1 hk
         first
           | exact absurd hkk.1 (by rw [g11_5]; decide)
           | exact absurd hkk.2.1 (by rw [g11_18]; decide)
           | exact g11_31' hkk.2.2.1)] at hlt
       refine ⟨l.length - (j + 1), by omega, j + 1, rfl, h41, ?_, hH⟩
       rw [hlt]
       exact hF.keep [0, 1, 2, 7, 8, 9, 10] rfl
      try simp only [qq] at h87
      have hk : hasKey l[j] (groupN l)[i] := (has_iff hIS.good).2 ⟨g11_5, g11_18, g11_31', h87⟩
      rw [if_pos hk] at hlt
      refine c_sr fun ops => ?_
      refine zm 2 hF rfl fun a hF => ?_
      refine zl hF rfl (r_indexaddr hF _ rfl rfl rfl Tryd.underlying23 ti27 (by omega)) fun a hF => ?_
      refine zl hF rfl (r_fieldaddr hF rfl rfl fd27_3) fun a hF => ?_
      refine zl hF rfl (r_load hF rfl rfl fl25 (hH.cell (hH3.cell (hrecx 3 _ rfl)))) fun a hF => ?_
      refine zm 1 hF rfl fun a hF => ?_
      refine c_n ?_
      refine c_seq fun Q15 k15 t15 => ?_
      refine c_sr fun ops => ?_
      refine zm 1 hF rfl fun a hF => ?_
      refine zb hF rfl rfl rfl (b_gtn _ _ _ 2147483647) fun a hF => ?_
      refine c_n ?_
      refine c_fi hF rfl (fun h94 => ?_) (fun h94 => ?_)
      ·
       try simp only [qq] at h94
       rw [timeN, if_neg h94] at hlt
       refine wp_skip ?_
       refine k15 ?_
       refine c_reg fun ops => ?_
       refine zm 2 hF rfl fun a hF => ?_
       refine zl hF rfl (r_minn hF rfl rfl rfl) fun a hF => ?_
       refine zm 1 hF rfl fun a hF => ?_
       refine wpList_nil ?_
       refine t13.norm ?_
       refine k12 ?_
       refine c_reg fun ops => ?_
       refine zm 1 hF rfl fun a hF => ?_
       refine zb hF rfl rfl rfl (b_addn _ _ 1 (by omega)) fun a hF => ?_
       refine zm 1 hF rfl fun a hF => ?_
       refine wpList_nil ?_
       refine k10 ?_
       first
         | skip
       try rw [if_neg (fun hk => by
         have hkk := (has_iff hIS.good).1 hk
         first
           | exact absurd hkk.1 (by rw [g11_5]; decide)
           | exact absurd hkk.2.1 (by rw [g11_18]; decide)
           | exact g11_31' hkk.2.2.1)] at hlt
       refine ⟨l.length - (j + 1), by omega, j + 1, rfl, h41, ?_, hH⟩
       rw [hlt]
       exact hF.keep [0, 1, 2, 7, 8, 9, 10] rfl
      try simp only [qq] at h94
      rw [timeN, if_pos h94] at hlt
      refine c_reg fun ops => ?_
      refine zm 1 hF rfl fun a hF => ?_
      refine wpList_nil ?_
      refine k15 ?_
      refine c_reg fun ops => ?_
      refine zm 2 hF rfl fun a hF => ?_
      refine zl hF rfl (r_minn hF rfl rfl rfl) fun a hF => ?_
      refine zm 1 hF rfl fun a hF => ?_
      refine wpList_nil ?_
      refine t13.norm ?_
      refine k12 ?_
      refine c_reg fun ops => ?_
      refine zm 1 hF rfl fun a hF => ?_
      refine zb hF rfl rfl rfl (b_addn _ _ 1 (by omega)) fun a hF => ?_
      refine zm 1 hF rfl fun a hF => ?_
      refine wpList_nil ?_
      refine k10 ?_
      first
        | skip
      try rw [if_neg (fun hk => by
        have hkk := (has_iff hIS.good).1 hk
        first
          | exact absurd hkk.1 (by rw [g11_5]; decide)
          | exact absurd hkk.2.1 (by rw [g11_18]; decide)
          | exact g11_31' hkk.2.2.1)] at hlt
      refine ⟨l.length - (j + 1), by omega, j + 1, rfl, h41, ?_, hH⟩
      rw [hlt]
      exact hF.keep [0, 1, 2, 7, 8, 9, 10] rfl
     have g11_31' := g11_31; try simp only [qq] at g11_31'
     refine qsn hF rfl rfl rfl g11_31 rfl rfl fun a hF => ?_
     refine qsn hF rfl rfl rfl g11_31 rfl rfl fun a hF => ?_
     refine qsn hF rfl rfl rfl g11_31 rfl rfl fun a hF => ?_
     refine qsn hF rfl rfl rfl g11_31 rfl rfl fun a hF => ?_
     refine qsn hF rfl rfl rfl g11_31 rfl rfl fun a hF => ?_
     refine qsn hF rfl rfl rfl g11_31 rfl rfl fun a hF => ?_
     refine qsn hF rfl rfl rfl g11_31 rfl rfl fun a hF => ?_
     refine qsn hF rfl rfl rfl g11_31 rfl rfl fun a hF => ?_
     refine qsn hF rfl rfl rfl g11_31 rfl rfl fun a hF => ?_
     refine qsn hF rfl rfl rfl g11_31 rfl rfl fun a hF => ?_
     refine qsn hF rfl rfl rfl g11_31 rfl rfl fun a hF => ?_
     refine qs hF rfl rfl rfl (fun w hw => r_pickf hF rfl rfl g11_31 rfl) fun a hF => ?_
     refine q_nil fun w hE => ?_
     replace hH := hH.ext hE
     refine k14 ?_
     refine c_no hF rfl rfl ?_
     refine wp_skip ?_
     refine t13.norm ?_
     refine k12 ?_
     refine c_reg fun ops => ?_
     refine zm 1 hF rfl fun a hF => ?_
     refine zb hF rfl rfl rfl (b_addn _ _ 1 (by omega)) fun a hF => ?_
     refine zm 1 hF rfl fun a hF => ?_
     refine wpList_nil ?_
     refine k10 ?_
     first
       | skip
     try rw [if_neg (fun hk => by
       have hkk := (has_iff hIS.good).1 hk
       first
         | exact absurd hkk.1 (by rw [g11_5]; decide)
         | exact absurd hkk.2.1 (by rw [g11_18]; decide)
         | exact g11_31' hkk.2.2.1)] at hlt
     refine ⟨l.length - (j + 1), by omega, j + 1, rfl, h41, ?_, hH⟩
     rw [hlt]
     exact hF.keep [0, 1, 2, 7, 8, 9, 10] rfl
    have g11_18' := g11_18; try simp only [qq] at g11_18'
    refine qsn hF rfl rfl rfl g11_18 rfl rfl fun a hF => ?_
    refine qsn hF rfl rfl rfl g11_18 rfl rfl fun a hF => ?_
    refine qsn hF rfl rfl rfl g11_18 rfl rfl fun a hF => ?_
    refine qsn hF rfl rfl rfl g11_18 rfl rfl fun a hF => ?_
    refine qsn hF rfl rfl rfl g11_18 rfl rfl fun a hF => ?_
    refine qsn hF rfl rfl rfl g11_18 rfl rfl fun a hF => ?_
    refine qsn hF rfl rfl rfl g11_18 rfl rfl fun a hF => ?_
    refine qsn hF rfl rfl rfl g11_18 rfl rfl fun a hF => ?_
    refine qsn hF rfl rfl rfl g11_18 rfl rfl fun a hF => ?_
    refine qsn hF rfl rfl rfl g11_18 rfl rfl fun a hF => ?_
    refine qsn hF rfl rfl rfl g11_18 rfl rfl fun a hF => ?_
    refine qs hF rfl rfl rfl (fun w hw => r_pickf hF rfl rfl g11_18 rfl) fun a hF => ?_
    refine qs hF rfl rfl rfl (fun w hw => r_move hF rfl rfl) fun a hF => ?_
    refine qsn hF rfl rfl rfl rfl rfl rfl fun a hF => ?_
    refine qsn hF rfl rfl rfl rfl rfl rfl fun a hF => ?_
    refine qsn hF rfl rfl rfl rfl rfl rfl fun a hF => ?_
    refine qsn hF rfl rfl rfl rfl rfl rfl fun a hF => ?_
    refine qsn hF rfl rfl rfl rfl rfl rfl fun a hF => ?_
    refine qsn hF rfl rfl rfl rfl rfl rfl fun a hF => ?_
    refine qsn hF rfl rfl rfl rfl rfl rfl fun a hF => ?_
    refine qsn hF rfl rfl rfl rfl rfl rfl fun a hF => ?_
    refine qsn hF rfl rfl rfl rfl rfl rfl fun a hF => ?_
    refine qsn hF rfl rfl rfl rfl rfl rfl fun a hF => ?_
    refine qsn hF rfl rfl rfl rfl rfl rfl fun a hF => ?_
    refine qs hF rfl rfl rfl (fun w hw => r_pickf hF rfl rfl rfl rfl) fun a hF => ?_
    refine q_nil fun w hE => ?_
    replace hH := hH.ext hE
    refine k14 ?_
    refine c_no hF rfl rfl ?_
    refine wp_skip ?_
    refine t13.norm ?_
    refine k12 ?_
    refine c_reg fun ops => ?_
    refine zm 1 hF rfl fun a hF => ?_
    refine zb hF rfl rfl rfl (b_addn _ _ 1 (by omega)) fun a hF => ?_
    refine zm 1 hF rfl fun a hF => ?_
    refine wpList_nil ?_
    refine k10 ?_
    first
      | skip
    try rw [if_neg (fun hk => by
      have hkk := (has_iff hIS.good).1 hk
      first
        | exact absurd hkk.1 (by rw [g11_5]; decide)
        | exact absurd hkk.2.1 (by rw [g11_18]; decide)
        | exact g11_31' hkk.2.2.1)] at hlt
    refine ⟨l.length - (j + 1), by omega, j + 1, rfl, h41, ?_, hH⟩
    rw [hlt]
    exact hF.keep [0, 1, 2, 7, 8, 9, 10] rfl
   have g11_5' := g11_5; try simp only [qq] at g11_5'
   refine qsn hF rfl rfl rfl g11_5 rfl rfl fun a hF => ?_
   refine qsn hF rfl rfl rfl g11_5 rfl rfl fun a hF => ?_
   refine qsn hF rfl rfl rfl g11_5 rfl rfl fun a hF => ?_
   refine qsn hF rfl rfl rfl g11_5 rfl rfl fun a hF => ?_
   refine qsn hF rfl rfl rfl g11_5 rfl rfl fun a hF => ?_
   refine qsn hF rfl rfl rfl g11_5 rfl rfl fun a hF => ?_
   refine qsn hF rfl rfl rfl g11_5 rfl rfl fun a hF => ?_
   refine qsn hF rfl rfl rfl g11_5 rfl rfl fun a hF => ?_
   refine qsn hF rfl rfl rfl g11_5 rfl rfl fun a hF => ?_
   refine qsn hF rfl rfl rfl g11_5 rfl rfl fun a hF => ?_
   refine qsn hF rfl rfl rfl g11_5 rfl rfl fun a hF => ?_
   refine qs hF rfl rfl rfl (fun w hw => r_pickf hF rfl rfl g11_5 rfl) fun a hF => ?_
   refine qs hF rfl rfl rfl (fun w hw => r_move hF rfl rfl) fun a hF => ?_
   refine qsn hF rfl rfl rfl rfl rfl rfl fun a hF => ?_
   refine qsn hF rfl rfl rfl rfl rfl rfl fun a hF => ?_
   refine qsn hF rfl rfl rfl rfl rfl rfl fun a hF => ?_
   refine qsn hF rfl rfl rfl rfl rfl rfl fun a hF => ?_
   refine qsn hF rfl rfl rfl rfl rfl rfl fun a hF => ?_
   refine qsn hF rfl rfl rfl rfl rfl rfl fun a hF => ?_
   refine qsn hF rfl rfl rfl rfl rfl rfl fun a hF => ?_
   refine qsn hF rfl rfl rfl rfl rfl rfl fun a hF => ?_
   refine qsn hF rfl rfl rfl rfl rfl rfl fun a hF => ?_
   refine qsn hF rfl rfl rfl rfl rfl rfl fun a hF => ?_
   refine qsn hF rfl rfl rfl rfl rfl rfl fun a hF => ?_
   refine qs hF rfl rfl rfl (fun w hw => r_pickf hF rfl rfl rfl rfl) fun a hF => ?_
   refine qs hF rfl rfl rfl (fun w hw => r_move hF rfl rfl) fun a hF => ?_
   refine qsn hF rfl rfl rfl rfl rfl rfl fun a hF => ?_
   refine qsn hF rfl rfl rfl rfl rfl rfl fun a hF => ?_
   refine qsn hF rfl rfl rfl rfl rfl rfl fun a hF => ?_
   refine qsn hF rfl rfl rfl rfl rfl rfl fun a hF => ?_
   refine qsn hF rfl rfl rfl rfl rfl rfl fun a hF => ?_
   refine qsn hF rfl rfl rfl rfl rfl rfl fun a hF => ?_
   refine qsn hF rfl rfl rfl rfl rfl rfl fun a hF => ?_
   refine qsn hF rfl rfl rfl rfl rfl rfl fun a hF => ?_
   refine qsn hF rfl rfl rfl rfl rfl rfl fun a hF => ?_
   refine qsn hF rfl rfl rfl rfl rfl rfl fun a hF => ?_
   refine qsn hF rfl rfl rfl rfl rfl rfl fun a hF => ?_
   refine qs hF rfl rfl rfl (fun w hw => r_pickf hF rfl rfl rfl rfl) fun a hF => ?_
   refine q_nil fun w hE => ?_
   replace hH := hH.ext hE
   refine k14 ?_
   refine c_no hF rfl rfl ?_
   refine wp_skip ?_
   refine t13.norm ?_
   refine k12 ?_
   refine c_reg fun ops => ?_
   refine zm 1 hF rfl fun a hF => ?_
   refine zb hF rfl rfl rfl (b_addn _ _ 1 (by omega)) fun a hF => ?_
   refine zm 1 hF rfl fun a hF => ?_
   refine wpList_nil ?_
   refine k10 ?_
   first
     | skip
   try rw [if_neg (fun hk => by
     have hkk := (has_iff hIS.good).1 hk
     first
       | exact absurd hkk.1 (by rw [g11_5]; decide)
       | exact absurd hkk.2.1 (by rw [g11_18]; decide)
       | exact g11_31' hkk.2.2.1)] at hlt
   refine ⟨l.length - (j + 1), by omega, j + 1, rfl, h41, ?_, hH⟩
   rw [hlt]
   exact hF.keep [0, 1, 2, 7, 8, 9, 10] rfl
  try simp only [qq] at h35
  refine wp_exit (t5.exit (t4.exit (t3.here (?_))))
  refine k2 ?_
  refine c_sr fun ops => ?_
  refine ls_buildN (us := []) hF hH rfl rfl rfl rfl rfl rfl Tryd.underlying23 ti27 (fun _ h => (List.not_mem_nil h).elim) (by decide) ?_
  intro a w g18_0 hH hE hF
  have hX : Sl 27 5 [(g18_0, .cells #[] 27 (0, 0))] (.slice (some ⟨g18_0, 0, none⟩) 0 0) 0 [] := ⟨rfl, .inr ⟨_, 0, _, rfl, rfl, Nat.le_refl _, by unfold maxLen; omega, rfl, rfl⟩⟩
  refine zm 1 hF rfl fun a hF => ?_
  refine ls_append hF hH rfl rfl rfl rfl rfl rfl Tryd.underlying23 ti27 hX ((hR.ext hH3.below).ext hH.below) (recs_one l) (by decide) (by omega) ?_
  intro a v18_2 w B18_2 hH hX hF
  refine zm 1 hF rfl fun a hF => ?_
  refine c_n ?_
  replace hF := hF.sel [0, 1, 2, 7, 12]
  simp only [ss, Nat.reduceBEq] at hF
  rw [Nat.zero_add, List.nil_append] at hX
  obtain ⟨g, cp, cur, rfl, rfl, hcp, hcm, hcs, hct⟩ := hX.open hl0
  have hk0 : mb % l.length < l.length := Nat.mod_lt _ hl0
  refine c_sr fun ops => ?_
  refine zm 1 hF rfl fun a hF => ?_
  refine zl hF rfl (r_convw hF rfl rfl Tryd.underlying3 Tryd.underlying45 hmb) fun a hF => ?_
  refine zm 1 hF rfl fun a hF => ?_
  refine zl hF rfl (r_len_sl hF rfl rfl Tryd.underlying23) fun a hF => ?_
  refine zl hF rfl (r_convin hF rfl rfl (by rw [Tryd.underlying3]; rfl) Tryd.underlying45 (0) 18446744073709551615 mn_u64 mx_u64 (by omega)) fun a hF => ?_
  refine zb hF rfl rfl rfl (b_remn _ _ mb l.length (by omega)) fun a hF => ?_
  refine zl hF rfl (r_convin hF rfl rfl (by rw [Tryd.underlying45]; rfl) Tryd.underlying3 (-9223372036854775808) 9223372036854775807 mn_i64 mx_i64 (by omega)) fun a hF => ?_
  refine zm 1 hF rfl fun a hF => ?_
  refine c_n ?_
  replace hF := hF.sel [0, 2, 7, 12, 13]
  simp only [ss, Nat.reduceBEq] at hF
  generalize mb % l.length = k at *
  refine c_sr fun ops => ?_
  refine zm 3 hF rfl fun a hF => ?_
  refine zl hF rfl (r_ixown hF _ rfl rfl rfl Tryd.underlying23 ti27 (by omega)) fun a hF => ?_
  refine zl hF rfl (r_fieldaddr hF rfl rfl fd27_3) fun a hF => ?_
  refine ls_store 0 hF hH rfl rfl rfl rfl rfl fl25 ti25 rfl (by omega) (by simp [noFreeze]) (rfl) ?_
  intro w hH
  refine c_n ?_
  replace hF := hF.sel [0, 7, 12, 13]
  simp only [ss, Nat.reduceBEq] at hF
  simp only [List.cons_append, List.nil_append, List.append_nil, List.set_cons_zero] at hH
  have hS2 := Sl.set (e := 27) (g := g) (k * 5 + 3) (.int .u32 (t : Nat)) hX.len hcp hcm hcs hct
  rw [recsV_set l k t hk0] at hS2
  have hRB2 : RecsB (l.set k (reTtl l[k] t)) := ⟨by rw [List.length_set]; exact hRB.len, fun r hr => by
    rcases List.mem_or_eq_of_mem_set hr with hr | rfl
    · exact hRB.each r hr
    · exact hRB.each l[k] (List.getElem_mem hk0)⟩
  refine c_sr fun ops => ?_
  refine zm 1 hF rfl fun a hF => ?_
  refine zc hF rfl rfl fn24 (groupR_spec (l.set k (reTtl l[k] t)) _ _ (rsl_len (hS2.rsl hH (fun p hp => hp)) (by rw [List.length_set])) hRB2 ((hG.ext hH3.below).ext hH.below)) ?_
  rintro v4 w ⟨hs4, hE⟩ a hF
  replace hH := hH.ext hE
  refine zm 1 hF rfl fun a hF => ?_
  refine c_n ?_
  replace hF := hF.sel [0, 7, 13, 14]
  simp only [ss, Nat.reduceBEq] at hF
  have hgt := group_ttl hk0 t
  rw [hgt] at hs4
  have hs5 := hs3.ext hH.below
  have hR5 := (hR.ext hH3.below).ext hH.below
  have hE5 := hH3.below.trans hH.below
  obtain ⟨w5, hw5⟩ : ∃ w5, w5 = w := ⟨w, rfl⟩
  rw [← hw5] at hs4 hs5 hR5 hE5
  replace hH : Hp w5 w [] := by rw [hw5]; exact Hp.refl _
  clear hw5 hS2 hX
  obtain ⟨sad, scp, rfl⟩ := hs4.shape
  refine c_seq fun Q16 k16 t16 => ?_
  refine c_sr fun ops => ?_
  refine zm 1 hF rfl fun a hF => ?_
  refine zl hF rfl (r_len_sl hF rfl rfl Tryd.underlying38) fun a hF => ?_
  refine zm 1 hF rfl fun a hF => ?_
  refine zl hF rfl (r_len_sl hF rfl rfl Tryd.underlying38) fun a hF => ?_
  refine zb hF rfl rfl rfl (b_nen _ _ _ _) fun a hF => ?_
  refine c_n ?_
  replace hF := hF.sel [0, 7, 13, 14, 126]
  simp only [ss, Nat.reduceBEq] at hF
  refine c_if hF rfl (fun h126 => ?_) (fun h126 => ?_)
  ·
   try simp only [qq] at h126
   exact absurd (by simp) h126
  try simp only [qq] at h126
  refine wp_skip ?_
  refine k16 ?_
  refine c_seq fun Q17 k17 t17 => ?_
  refine c_sr fun ops => ?_
  refine zm 1 hF rfl fun a hF => ?_
  refine c_n ?_
  replace hF := hF.sel [0, 7, 13, 14, 15]
  simp only [ss, Nat.reduceBEq] at hF
  refine c_block fun Q18 t18 => ?_
  refine c_loop (fun n a w => ∃ i, n = (groupN l).length - i ∧ i ≤ (groupN l).length ∧ Fr 195 [(0, .slice ad l.length cap), (7, .slice gad (groupN l).length gcp), (13, .int .i64 (k : Nat)), (14, .slice sad ((groupN l).map fun s => { s with ttl := leastN (l.set k (reTtl l[k] t)) s }).length scp), (15, .int .i64 (i : Nat))] a ∧ Hp w5 w []) ?_ ?_
  ·
   exact ⟨_, 0, rfl, Nat.zero_le _, hF.keep [0, 7, 13, 14, 15] rfl, hH⟩
  clear hH hF
  intro n a w hI Q19 k19 t19
  obtain ⟨i, hm, hi, hF, hH⟩ := hI
  refine c_seq fun Q20 k20 t20 => ?_
  refine c_sr fun ops => ?_
  refine zm 2 hF rfl fun a hF => ?_
  refine zl hF rfl (r_len_sl hF rfl rfl Tryd.underlying38) fun a hF => ?_
  refine zb hF rfl rfl rfl (b_ltn _ _ _ _) fun a hF => ?_
  refine c_n ?_
  refine c_fi hF rfl (fun h130 => ?_) (fun h130 => ?_)
  ·
   try simp only [qq] at h130
   refine wp_exit (t20.exit (t19.exit (t18.here (?_))))
   refine k17 ?_
   refine c_sr fun ops => ?_
   refine zm 1 hF rfl fun a hF => ?_
   refine c_n ?_
   replace hF := hF.sel [6]
   simp only [ss, Nat.reduceBEq] at hF
   refine wp_ret (hret (ret1 hF Tryd.results7 rfl ?_))
   exact ⟨rfl, hE5.trans hH.below⟩
  try simp only [qq] at h130
  obtain ⟨b1, off1, dv1, rfl, hset1, hdv1⟩ := hs5.at h130
  obtain ⟨b2, off2, dv2, rfl, hset2, hdv2⟩ := hs4.at (i := i) (by simpa using h130)
  rw [List.length_map] at hF
  simp only [List.getElem_map] at hset2 hdv2
  obtain ⟨bx, offx, rfl, -, hrecx⟩ := hR5.rec hk0
  have hIS := (group_mem l _).1 (List.getElem_mem h130)
  have hgn := hgb.name _ (List.getElem_mem h130)
  have hxb := hRB.each _ (List.getElem_mem hk0)
  refine wp_skip ?_
  refine k20 ?_
  refine c_seq fun Q21 k21 t21 => ?_
  refine c_block fun Q22 t22 => ?_
  refine c_sr fun ops => ?_
  refine zm 2 hF rfl fun a hF => ?_
  refine zl hF rfl (r_indexaddr hF _ rfl rfl rfl Tryd.underlying38 ti49 (by omega)) fun a hF => ?_
  refine zl hF rfl (r_loadagg hF rfl rfl Tryd.underlying49 ti49 rfl (fun j u hu => hH.cell (hset2 j u hu))) fun a hF => ?_
  refine ls_alloc hF hH rfl rfl rfl rfl zv49 ?_
  intro a w g27_4 hH hE hF
  refine ls_storeagg 0 hF hH rfl rfl rfl rfl rfl ti49 rfl (rfl) (rfl) (by have := hdv2.shape; obtain ⟨_, _, rfl⟩ := this; simp [setV, Value.oneCell']) ?_
  intro w hH
  refine c_n ?_
  simp only [List.set_cons_zero] at hH
  refine c_sr fun ops => ?_
  refine zm 2 hF rfl fun a hF => ?_
  refine zl hF rfl (r_indexaddr hF _ rfl rfl rfl Tryd.underlying38 ti49 (by omega)) fun a hF => ?_
  refine zl hF rfl (r_fieldaddr hF rfl rfl fd49_3) fun a hF => ?_
  refine zl hF rfl (r_load hF rfl rfl fl25 (hH.cell (hset1 3 _ rfl))) fun a hF => ?_
  refine zl hF rfl (r_fieldaddr0 hF rfl rfl fd49_3) fun a hF => ?_
  refine ls_store 0 hF hH rfl rfl rfl rfl rfl fl25 ti25 rfl (by simp [setV]) (by simp [noFreeze]) (rfl) ?_
  intro w hH
  refine c_n ?_
  have e28 : ∀ x : Nat, (setV { (groupN l)[i] with ttl := x } dv2).toArray.setIfInBounds 3 (.int .u32 ((groupN l)[i].ttl : Nat)) = (setV (groupN l)[i] dv2).toArray := fun x => by simp [setV]
  simp only [List.set_cons_zero] at hH
  rw [e28] at hH
  refine c_seq fun Q23 k23 t23 => ?_
  refine q_reg (by kernel_rfl) (by kernel_rfl) ?_
  refine qs hF rfl rfl rfl (fun w hw => r_move hF rfl rfl) fun a hF => ?_
  refine qs hF rfl rfl rfl (fun w hw => r_move hF rfl rfl) fun a hF => ?_
  refine qs hF rfl rfl rfl (fun w hw => r_indexaddr hF _ rfl rfl rfl Tryd.underlying23 ti27 (by omega)) fun a hF => ?_
  refine qs hF rfl rfl rfl (fun w hw => r_fieldaddr hF rfl rfl fd27_0) fun a hF => ?_
  refine qs hF rfl rfl rfl (fun w hw => r_load hF rfl rfl fl9 (hw.cell (hH.cell (hrecx 0 _ rfl)))) fun a hF => ?_
  refine qs hF rfl rfl rfl (fun w hw => r_fieldaddr0 hF rfl rfl fd49_0) fun a hF => ?_
  refine qs hF rfl rfl rfl (fun w hw => r_load hF rfl rfl fl9 (hw.cell (own_cell (i := 0) hH rfl rfl))) fun a hF => ?_
  refine qs_call hF rfl rfl rfl rfl rfl fn29 (fun w hw => same_spec _ _ (by omega) (by omega) _) fun a hF => ?_
  refine qs hF rfl rfl rfl (fun w hw => r_move hF rfl rfl) fun a hF => ?_
  refine q_ask (d := 151) hF rfl (fun g29_8 => ?_) (fun g29_8 => ?_)
  ·
   have g29_8' := g29_8; try simp only [qq] at g29_8'
   refine qsy hF rfl rfl rfl g29_8 rfl rfl (fun w hw => r_move hF rfl rfl) fun a hF => ?_
   refine qsy hF rfl rfl rfl g29_8 rfl rfl (fun w hw => r_move hF rfl rfl) fun a hF => ?_
   refine qsy hF rfl rfl rfl g29_8 rfl rfl (fun w hw => r_indexaddr hF _ rfl rfl rfl Tryd.underlying23 ti27 (by omega)) fun a hF => ?_
   refine qsy hF rfl rfl rfl g29_8 rfl rfl (fun w hw => r_fieldaddr hF rfl rfl fd27_1) fun a hF => ?_
   refine qsy hF rfl rfl rfl g29_8 rfl rfl (fun w hw => r_load hF rfl rfl fl24 (hw.cell (hH.cell (hrecx 1 _ rfl)))) fun a hF => ?_
   refine qsy hF rfl rfl rfl g29_8 rfl rfl (fun w hw => r_fieldaddr0 hF rfl rfl fd49_1) fun a hF => ?_
   refine qsy hF rfl rfl rfl g29_8 rfl rfl (fun w hw => r_load hF rfl rfl fl24 (hw.cell (own_cell (i := 0) hH rfl rfl))) fun a hF => ?_
   refine qsy hF rfl rfl rfl g29_8 rfl rfl (fun w hw => zr hF rfl rfl (b_eqn _ _ _ _)) fun a hF => ?_
   refine qs hF rfl rfl rfl (fun w hw => r_pickt hF rfl rfl g29_8 rfl) fun a hF => ?_
   refine qs hF rfl rfl rfl (fun w hw => r_move hF rfl rfl) fun a hF => ?_
   refine q_ask (d := 161) hF rfl (fun g29_18 => ?_) (fun g29_18 => ?_)
   ·
    have g29_18' := g29_18; try simp only [qq] at g29_18'
    refine qsy hF rfl rfl rfl g29_18 rfl rfl (fun w hw => r_move hF rfl rfl) fun a hF => ?_
    refine qsy hF rfl rfl rfl g29_18 rfl rfl (fun w hw => r_move hF rfl rfl) fun a hF => ?_
    refine qsy hF rfl rfl rfl g29_18 rfl rfl (fun w hw => r_indexaddr hF _ rfl rfl rfl Tryd.underlying23 ti27 (by omega)) fun a hF => ?_
    refine qsy hF rfl rfl rfl g29_18 rfl rfl (fun w hw => r_fieldaddr hF rfl rfl fd27_2) fun a hF => ?_
    refine qsy hF rfl rfl rfl g29_18 rfl rfl (fun w hw => r_load hF rfl rfl fl24 (hw.cell (hH.cell (hrecx 2 _ rfl)))) fun a hF => ?_
    refine qsy hF rfl rfl rfl g29_18 rfl rfl (fun w hw => r_fieldaddr0 hF rfl rfl fd49_2) fun a hF => ?_
    refine qsy hF rfl rfl rfl g29_18 rfl rfl (fun w hw => r_load hF rfl rfl fl24 (hw.cell (own_cell (i := 0) hH rfl rfl))) fun a hF => ?_
    refine qsy hF rfl rfl rfl g29_18 rfl rfl (fun w hw => zr hF rfl rfl (b_eqn _ _ _ _)) fun a hF => ?_
    refine qs hF rfl rfl rfl (fun w hw => r_pickt hF rfl rfl g29_18 rfl) fun a hF => ?_
    refine qs hF rfl rfl rfl (fun w hw => r_assign hF rfl rfl) fun a hF => ?_
    refine q_nil fun w hE => ?_
    replace hH := hH.ext hE
    refine k23 ?_
    refine c_seq fun Q24 k24 t24 => ?_
    refine q_reg (by kernel_rfl) (by kernel_rfl) ?_
    refine qs hF rfl rfl rfl (fun w hw => r_loadagg hF rfl rfl Tryd.underlying49 ti49 rfl (own_agg (i := 0) (hH.ext hw) rfl)) fun a hF => ?_
    refine qs hF rfl rfl rfl (fun w hw => r_move hF rfl rfl) fun a hF => ?_
    refine qs hF rfl rfl rfl (fun w hw => r_move hF rfl rfl) fun a hF => ?_
    refine qs hF rfl rfl rfl (fun w hw => r_indexaddr hF _ rfl rfl rfl Tryd.underlying38 ti49 (by omega)) fun a hF => ?_
    refine qs hF rfl rfl rfl (fun w hw => r_loadagg hF rfl rfl Tryd.underlying49 ti49 rfl (fun j u hu => (hH.ext hw).cell (hset1 j u hu))) fun a hF => ?_
    refine qs_call hF rfl rfl rfl rfl rfl fn30 (fun w hw => same_yes (groupN l)[i] (hdv2.ext (hH.below.trans hw)) (hdv1.ext (hH.below.trans hw)) (hgb.data _ (List.getElem_mem h130))) fun a hF => ?_
    refine qs hF rfl rfl rfl (fun w hw => r_not hF rfl rfl) fun a hF => ?_
    refine qs hF rfl rfl rfl (fun w hw => r_move hF rfl rfl) fun a hF => ?_
    refine q_ask (d := 178) hF rfl (fun g30_7 => ?_) (fun g30_7 => ?_)
    ·
     have g30_7' := g30_7; try simp only [qq] at g30_7'
     cases g30_7
    have g30_7' := g30_7; try simp only [qq] at g30_7'
    refine qsy hF rfl rfl rfl g30_7 rfl rfl (fun w hw => r_move hF rfl rfl) fun a hF => ?_
    refine qsy hF rfl rfl rfl g30_7 rfl rfl (fun w hw => r_not hF rfl rfl) fun a hF => ?_
    refine qsy hF rfl rfl rfl g30_7 rfl rfl (fun w hw => r_move hF rfl rfl) fun a hF => ?_
    refine q_ask (d := 181) hF rfl (fun g30_10 => ?_) (fun g30_10 => ?_)
    ·
     have g30_10' := g30_10; try simp only [qq] at g30_10'
     refine qsy hF rfl rfl rfl g30_10 rfl rfl (fun w hw => r_move hF rfl rfl) fun a hF => ?_
     refine qsy hF rfl rfl rfl g30_10 rfl rfl (fun w hw => r_move hF rfl rfl) fun a hF => ?_
     refine qsy hF rfl rfl rfl g30_10 rfl rfl (fun w hw => r_indexaddr hF _ rfl rfl rfl Tryd.underlying38 ti49 (by omega)) fun a hF => ?_
     refine qsy hF rfl rfl rfl g30_10 rfl rfl (fun w hw => r_fieldaddr hF rfl rfl fd49_3) fun a hF => ?_
     refine qsy hF rfl rfl rfl g30_10 rfl rfl (fun w hw => r_load hF rfl rfl fl25 (hw.cell (hH.cell (hset2 3 _ rfl)))) fun a hF => ?_
     refine qsy hF rfl rfl rfl g30_10 rfl rfl (fun w hw => r_move hF rfl rfl) fun a hF => ?_
     refine qsy hF rfl rfl rfl g30_10 rfl rfl (fun w hw => r_move hF rfl rfl) fun a hF => ?_
     refine qsy hF rfl rfl rfl g30_10 rfl rfl (fun w hw => r_indexaddr hF _ rfl rfl rfl Tryd.underlying38 ti49 (by omega)) fun a hF => ?_
     refine qsy hF rfl rfl rfl g30_10 rfl rfl (fun w hw => r_fieldaddr hF rfl rfl fd49_3) fun a hF => ?_
     refine qsy hF rfl rfl rfl g30_10 rfl rfl (fun w hw => r_load hF rfl rfl fl25 (hw.cell (hH.cell (hset1 3 _ rfl)))) fun a hF => ?_
     refine qsy hF rfl rfl rfl g30_10 rfl rfl (fun w hw => zr hF rfl rfl (b_nen _ _ _ _)) fun a hF => ?_
     refine qsy hF rfl rfl rfl g30_7 rfl rfl (fun w hw => r_pickt hF rfl rfl g30_10 rfl) fun a hF => ?_
     refine qs hF rfl rfl rfl (fun w hw => r_pickf hF rfl rfl g30_7 rfl) fun a hF => ?_
     refine q_nil fun w hE => ?_
     replace hH := hH.ext hE
     refine k24 ?_
     refine c_if hF rfl (fun h194 => ?_) (fun h194 => ?_)
     ·
      try simp only [qq] at h194
      refine absurd ?_ h194
      rw [least_apart hk0 t (fun hk => by
        have hkk := (has_iff hIS.good).1 hk
        first
          | exact absurd hkk.2.1 (by rw [g29_8]; decide)
          | exact g29_18' hkk.2.2.1
          | exact g30_10' hkk.2.2.2), least_is hIS]
     try simp only [qq] at h194
     refine wp_skip ?_
     refine t22.norm ?_
     refine k21 ?_
     refine c_reg fun ops => ?_
     refine zm 1 hF rfl fun a hF => ?_
     refine zb hF rfl rfl rfl (b_addn _ _ 1 (by omega)) fun a hF => ?_
     refine zm 1 hF rfl fun a hF => ?_
     refine wpList_nil ?_
     refine k19 ?_
     exact ⟨(groupN l).length - (i + 1), by omega, i + 1, rfl, by omega, by rw [List.length_map]; exact hF.keep [0, 7, 13, 14, 15] rfl, hH.drop⟩
    have g30_10' := g30_10; try simp only [qq] at g30_10'
    refine qsn hF rfl rfl rfl g30_10 rfl rfl fun a hF => ?_
    refine qsn hF rfl rfl rfl g30_10 rfl rfl fun a hF => ?_
    refine qsn hF rfl rfl rfl g30_10 rfl rfl fun a hF => ?_
    refine qsn hF rfl rfl rfl g30_10 rfl rfl fun a hF => ?_
    refine qsn hF rfl rfl rfl g30_10 rfl rfl fun a hF => ?_
    refine qsn hF rfl rfl rfl g30_10 rfl rfl fun a hF => ?_
    refine qsn hF rfl rfl rfl g30_10 rfl rfl fun a hF => ?_
    refine qsn hF rfl rfl rfl g30_10 rfl rfl fun a hF => ?_
    refine qsn hF rfl rfl rfl g30_10 rfl rfl fun a hF => ?_
    refine qsn hF rfl rfl rfl g30_10 rfl rfl fun a hF => ?_
    refine qsn hF rfl rfl rfl g30_10 rfl rfl fun a hF => ?_
    refine qsy hF rfl rfl rfl g30_7 rfl rfl (fun w hw => r_pickf hF rfl rfl g30_10 rfl) fun a hF => ?_
    refine qs hF rfl rfl rfl (fun w hw => r_pickf hF rfl rfl g30_7 rfl) fun a hF => ?_
    refine q_nil fun w hE => ?_
    replace hH := hH.ext hE
    refine k24 ?_
    refine c_no hF rfl rfl ?_
    refine wp_skip ?_
    refine t22.norm ?_
    refine k21 ?_
    refine c_reg fun ops => ?_
    refine zm 1 hF rfl fun a hF => ?_
    refine zb hF rfl rfl rfl (b_addn _ _ 1 (by omega)) fun a hF => ?_
    refine zm 1 hF rfl fun a hF => ?_
    refine wpList_nil ?_
    refine k19 ?_
    exact ⟨(groupN l).length - (i + 1), by omega, i + 1, rfl, by omega, by rw [List.length_map]; exact hF.keep [0, 7, 13, 14, 15] rfl, hH.drop⟩
   have g29_18' := g29_18; try simp only [qq] at g29_18'
   refine qsn hF rfl rfl rfl g29_18 rfl rfl fun a hF => ?_
   refine qsn hF rfl rfl rfl g29_18 rfl rfl fun a hF => ?_
   refine qsn hF rfl rfl rfl g29_18 rfl rfl fun a hF => ?_
   refine qsn hF rfl rfl rfl g29_18 rfl rfl fun a hF => ?_
   refine qsn hF rfl rfl rfl g29_18 rfl rfl fun a hF => ?_
   refine qsn hF rfl rfl rfl g29_18 rfl rfl fun a hF => ?_
   refine qsn hF rfl rfl rfl g29_18 rfl rfl fun a hF => ?_
   refine qsn hF rfl rfl rfl g29_18 rfl rfl fun a hF => ?_
   refine qs hF rfl rfl rfl (fun w hw => r_pickf hF rfl rfl g29_18 rfl) fun a hF => ?_
   refine qs hF rfl rfl rfl (fun w hw => r_assign hF rfl rfl) fun a hF => ?_
   refine q_nil fun w hE => ?_
   replace hH := hH.ext hE
   refine k23 ?_
   refine c_seq fun Q25 k25 t25 => ?_
   refine q_reg (by kernel_rfl) (by kernel_rfl) ?_
   refine qs hF rfl rfl rfl (fun w hw => r_loadagg hF rfl rfl Tryd.underlying49 ti49 rfl (own_agg (i := 0) (hH.ext hw) rfl)) fun a hF => ?_
   refine qs hF rfl rfl rfl (fun w hw => r_move hF rfl rfl) fun a hF => ?_
   refine qs hF rfl rfl rfl (fun w hw => r_move hF rfl rfl) fun a hF => ?_
   refine qs hF rfl rfl rfl (fun w hw => r_indexaddr hF _ rfl rfl rfl Tryd.underlying38 ti49 (by omega)) fun a hF => ?_
   refine qs hF rfl rfl rfl (fun w hw => r_loadagg hF rfl rfl Tryd.underlying49 ti49 rfl (fun j u hu => (hH.ext hw).cell (hset1 j u hu))) fun a hF => ?_
   refine qs_call hF rfl rfl rfl rfl rfl fn30 (fun w hw => same_yes (groupN l)[i] (hdv2.ext (hH.below.trans hw)) (hdv1.ext (hH.below.trans hw)) (hgb.data _ (List.getElem_mem h130))) fun a hF => ?_
   refine qs hF rfl rfl rfl (fun w hw => r_not hF rfl rfl) fun a hF => ?_
   refine qs hF rfl rfl rfl (fun w hw => r_move hF rfl rfl) fun a hF => ?_
   refine q_ask (d := 178) hF rfl (fun g30_7 => ?_) (fun g30_7 => ?_)
   ·
    have g30_7' := g30_7; try simp only [qq] at g30_7'
    cases g30_7
   have g30_7' := g30_7; try simp only [qq] at g30_7'
   refine qsy hF rfl rfl rfl g30_7 rfl rfl (fun w hw => r_move hF rfl rfl) fun a hF => ?_
   refine qsy hF rfl rfl rfl g30_7 rfl rfl (fun w hw => r_not hF rfl rfl) fun a hF => ?_
   refine qsy hF rfl rfl rfl g30_7 rfl rfl (fun w hw => r_move hF rfl rfl) fun a hF => ?_
   refine q_ask (d := 181) hF rfl (fun g30_10 => ?_) (fun g30_10 => ?_)
   ·
    have g30_10' := g30_10; try simp only [qq] at g30_10'
    refine qsy hF rfl rfl rfl g30_10 rfl rfl (fun w hw => r_move hF rfl rfl) fun a hF => ?_
    refine qsy hF rfl rfl rfl g30_10 rfl rfl (fun w hw => r_move hF rfl rfl) fun a hF => ?_
    refine qsy hF rfl rfl rfl g30_10 rfl rfl (fun w hw => r_indexaddr hF _ rfl rfl rfl Tryd.underlying38 ti49 (by omega)) fun a hF => ?_
    refine qsy hF rfl rfl rfl g30_10 rfl rfl (fun w hw => r_fieldaddr hF rfl rfl fd49_3) fun a hF => ?_
    refine qsy hF rfl rfl rfl g30_10 rfl rfl (fun w hw => r_load hF rfl rfl fl25 (hw.cell (hH.cell (hset2 3 _ rfl)))) fun a hF => ?_
    refine qsy hF rfl rfl rfl g30_10 rfl rfl (fun w hw => r_move hF rfl rfl) fun a hF => ?_
    refine qsy hF rfl rfl rfl g30_10 rfl rfl (fun w hw => r_move hF rfl rfl) fun a hF => ?_
    refine qsy hF rfl rfl rfl g30_10 rfl rfl (fun w hw => r_indexaddr hF _ rfl rfl rfl Tryd.underlying38 ti49 (by omega)) fun a hF => ?_
    refine qsy hF rfl rfl rfl g30_10 rfl rfl (fun w hw => r_fieldaddr hF rfl rfl fd49_3) fun a hF => ?_
    refine qsy hF rfl rfl rfl g30_10 rfl rfl (fun w hw => r_load hF rfl rfl fl25 (hw.cell (hH.cell (hset1 3 _ rfl)))) fun a hF => ?_
    refine qsy hF rfl rfl rfl g30_10 rfl rfl (fun w hw => zr hF rfl rfl (b_nen _ _ _ _)) fun a hF => ?_
    refine qsy hF rfl rfl rfl g30_7 rfl rfl (fun w hw => r_pickt hF rfl rfl g30_10 rfl) fun a hF => ?_
    refine qs hF rfl rfl rfl (fun w hw => r_pickf hF rfl rfl g30_7 rfl) fun a hF => ?_
    refine q_nil fun w hE => ?_
    replace hH := hH.ext hE
    refine k25 ?_
    refine c_if hF rfl (fun h194 => ?_) (fun h194 => ?_)
    ·
     try simp only [qq] at h194
     refine absurd ?_ h194
     rw [least_apart hk0 t (fun hk => by
       have hkk := (has_iff hIS.good).1 hk
       first
         | exact absurd hkk.2.1 (by rw [g29_8]; decide)
         | exact g29_18' hkk.2.2.1
         | exact g30_10' hkk.2.2.2), least_is hIS]
    try simp only [qq] at h194
    refine wp_skip ?_
    refine t22.norm ?_
    refine k21 ?_
    refine c_reg fun ops => ?_
    refine zm 1 hF rfl fun a hF => ?_
    refine zb hF rfl rfl rfl (b_addn _ _ 1 (by omega)) fun a hF => ?_
    refine zm 1 hF rfl fun a hF => ?_
    refine wpList_nil ?_
    refine k19 ?_
    exact ⟨(groupN l).length - (i + 1), by omega, i + 1, rfl, by omega, by rw [List.length_map]; exact hF.keep [0, 7, 13, 14, 15] rfl, hH.drop⟩
   have g30_10' := g30_10; try simp only [qq] at g30_10'
   refine qsn hF rfl rfl rfl g30_10 rfl rfl fun a hF => ?_
   refine qsn hF rfl rfl rfl g30_10 rfl rfl fun a hF => ?_
   refine qsn hF rfl rfl rfl g30_10 rfl rfl fun a hF => ?_
   refine qsn hF rfl rfl rfl g30_10 rfl rfl fun a hF => ?_
   refine qsn hF rfl rfl rfl g30_10 rfl rfl fun a hF => ?_
   refine qsn hF rfl rfl rfl g30_10 rfl rfl fun a hF => ?_
   refine qsn hF rfl rfl rfl g30_10 rfl rfl fun a hF => ?_
   refine qsn hF rfl rfl rfl g30_10 rfl rfl fun a hF => ?_
   refine qsn hF rfl rfl rfl g30_10 rfl rfl fun a hF => ?_
   refine qsn hF rfl rfl rfl g30_10 rfl rfl fun a hF => ?_
   refine qsn hF rfl rfl rfl g30_10 rfl rfl fun a hF => ?_
   refine qsy hF rfl rfl rfl g30_7 rfl rfl (fun w hw => r_pickf hF rfl rfl g30_10 rfl) fun a hF => ?_
   refine qs hF rfl rfl rfl (fun w hw => r_pickf hF rfl rfl g30_7 rfl) fun a hF => ?_
   refine q_nil fun w hE => ?_
   replace hH := hH.ext hE
   refine k25 ?_
   refine c_no hF rfl rfl ?_
   refine wp_skip ?_
   refine t22.norm ?_
   refine k21 ?_
   refine c_reg fun ops => ?_
   refine zm 1 hF rfl fun a hF => ?_
   refine zb hF rfl rfl rfl (b_addn _ _ 1 (by omega)) fun a hF => ?_
   refine zm 1 hF rfl fun a hF => ?_
   refine wpList_nil ?_
   refine k19 ?_
   exact ⟨(groupN l).length - (i + 1), by omega, i + 1, rfl, by omega, by rw [List.length_map]; exact hF.keep [0, 7, 13, 14, 15] rfl, hH.drop⟩
  have g29_8' := g29_8; try simp only [qq] at g29_8'
  refine qsn hF rfl rfl rfl g29_8 rfl rfl fun a hF => ?_
  refine qsn hF rfl rfl rfl g29_8 rfl rfl fun a hF => ?_
  refine qsn hF rfl rfl rfl g29_8 rfl rfl fun a hF => ?_
  refine qsn hF rfl rfl rfl g29_8 rfl rfl fun a hF => ?_
  refine qsn hF rfl rfl rfl g29_8 rfl rfl fun a hF => ?_
  refine qsn hF rfl rfl rfl g29_8 rfl rfl fun a hF => ?_
  refine qsn hF rfl rfl rfl g29_8 rfl rfl fun a hF => ?_
  refine qsn hF rfl rfl rfl g29_8 rfl rfl fun a hF => ?_
  refine qs hF rfl rfl rfl (fun w hw => r_pickf hF rfl rfl g29_8 rfl) fun a hF => ?_
  refine qs hF rfl rfl rfl (fun w hw => r_move hF rfl rfl) fun a hF => ?_
  refine qsn hF rfl rfl rfl rfl rfl rfl fun a hF => ?_
  refine qsn hF rfl rfl rfl rfl rfl rfl fun a hF => ?_
  refine qsn hF rfl rfl rfl rfl rfl rfl fun a hF => ?_
  refine qsn hF rfl rfl rfl rfl rfl rfl fun a hF => ?_
  refine qsn hF rfl rfl rfl rfl rfl rfl fun a hF => ?_
  refine qsn hF rfl rfl rfl rfl rfl rfl fun a hF => ?_
  refine qsn hF rfl rfl rfl rfl rfl rfl fun a hF => ?_
  refine qsn hF rfl rfl rfl rfl rfl rfl fun a hF => ?_
  refine qs hF rfl rfl rfl (fun w hw => r_pickf hF rfl rfl rfl rfl) fun a hF => ?_
  refine qs hF rfl rfl rfl (fun w hw => r_assign hF rfl rfl) fun a hF => ?_
  refine q_nil fun w hE => ?_
  replace hH := hH.ext hE
  refine k23 ?_
  refine c_seq fun Q26 k26 t26 => ?_
  refine q_reg (by kernel_rfl) (by kernel_rfl) ?_
  refine qs hF rfl rfl rfl (fun w hw => r_loadagg hF rfl rfl Tryd.underlying49 ti49 rfl (own_agg (i := 0) (hH.ext hw) rfl)) fun a hF => ?_
  refine qs hF rfl rfl rfl (fun w hw => r_move hF rfl rfl) fun a hF => ?_
  refine qs hF rfl rfl rfl (fun w hw => r_move hF rfl rfl) fun a hF => ?_
  refine qs hF rfl rfl rfl (fun w hw => r_indexaddr hF _ rfl rfl rfl Tryd.underlying38 ti49 (by omega)) fun a hF => ?_
  refine qs hF rfl rfl rfl (fun w hw => r_loadagg hF rfl rfl Tryd.underlying49 ti49 rfl (fun j u hu => (hH.ext hw).cell (hset1 j u hu))) fun a hF => ?_
  refine qs_call hF rfl rfl rfl rfl rfl fn30 (fun w hw => same_yes (groupN l)[i] (hdv2.ext (hH.below.trans hw)) (hdv1.ext (hH.below.trans hw)) (hgb.data _ (List.getElem_mem h130))) fun a hF => ?_
  refine qs hF rfl rfl rfl (fun w hw => r_not hF rfl rfl) fun a hF => ?_
  refine qs hF rfl rfl rfl (fun w hw => r_move hF rfl rfl) fun a hF => ?_
  refine q_ask (d := 178) hF rfl (fun g30_7 => ?_) (fun g30_7 => ?_)
  ·
   have g30_7' := g30_7; try simp only [qq] at g30_7'
   cases g30_7
  have g30_7' := g30_7; try simp only [qq] at g30_7'
  refine qsy hF rfl rfl rfl g30_7 rfl rfl (fun w hw => r_move hF rfl rfl) fun a hF => ?_
  refine qsy hF rfl rfl rfl g30_7 rfl rfl (fun w hw => r_not hF rfl rfl) fun a hF => ?_
  refine qsy hF rfl rfl rfl g30_7 rfl rfl (fun w hw => r_move hF rfl rfl) fun a hF => ?_
  refine q_ask (d := 181) hF rfl (fun g30_10 => ?_) (fun g30_10 => ?_)
  ·
   have g30_10' := g30_10; try simp only [qq] at g30_10'
   refine qsy hF rfl rfl rfl g30_10 rfl rfl (fun w hw => r_move hF rfl rfl) fun a hF => ?_
   refine qsy hF rfl rfl rfl g30_10 rfl rfl (fun w hw => r_move hF rfl rfl) fun a hF => ?_
   refine qsy hF rfl rfl rfl g30_10 rfl rfl (fun w hw => r_indexaddr hF _ rfl rfl rfl Tryd.underlying38 ti49 (by omega)) fun a hF => ?_
   refine qsy hF rfl rfl rfl g30_10 rfl rfl (fun w hw => r_fieldaddr hF rfl rfl fd49_3) fun a hF => ?_
   refine qsy hF rfl rfl rfl g30_10 rfl rfl (fun w hw => r_load hF rfl rfl fl25 (hw.cell (hH.cell (hset2 3 _ rfl)))) fun a hF => ?_
   refine qsy hF rfl rfl rfl g30_10 rfl rfl (fun w hw => r_move hF rfl rfl) fun a hF => ?_
   refine qsy hF rfl rfl rfl g30_10 rfl rfl (fun w hw => r_move hF rfl rfl) fun a hF => ?_
   refine qsy hF rfl rfl rfl g30_10 rfl rfl (fun w hw => r_indexaddr hF _ rfl rfl rfl Tryd.underlying38 ti49 (by omega)) fun a hF => ?_
   refine qsy hF rfl rfl rfl g30_10 rfl rfl (fun w hw => r_fieldaddr hF rfl rfl fd49_3) fun a hF => ?_
   refine qsy hF rfl rfl rfl g30_10 rfl rfl (fun w hw => r_load hF rfl rfl fl25 (hw.cell (hH.cell (hset1 3 _ rfl)))) fun a hF => ?_
   refine qsy hF rfl rfl rfl g30_10 rfl rfl (fun w hw => zr hF rfl rfl (b_nen _ _ _ _)) fun a hF => ?_
   refine qsy hF rfl rfl rfl g30_7 rfl rfl (fun w hw => r_pickt hF rfl rfl g30_10 rfl) fun a hF => ?_
   refine qs hF rfl rfl rfl (fun w hw => r_pickf hF rfl rfl g30_7 rfl) fun a hF => ?_
   refine q_nil fun w hE => ?_
   replace hH := hH.ext hE
   refine k26 ?_
   refine c_if hF rfl (fun h194 => ?_) (fun h194 => ?_)
   ·
    try simp only [qq] at h194
    refine absurd ?_ h194
    rw [least_apart hk0 t (fun hk => by
      have hkk := (has_iff hIS.good).1 hk
      first
        | exact absurd hkk.2.1 (by rw [g29_8]; decide)
        | exact g29_18' hkk.2.2.1
        | exact g30_10' hkk.2.2.2), least_is hIS]
   try simp only [qq] at h194
   refine wp_skip ?_
   refine t22.norm ?_
   refine k21 ?_
   refine c_reg fun ops => ?_
   refine zm 1 hF rfl fun a hF => ?_
   refine zb hF rfl rfl rfl (b_addn _ _ 1 (by omega)) fun a hF => ?_
   refine zm 1 hF rfl fun a hF => ?_
   refine wpList_nil ?_
   refine k19 ?_
   exact ⟨(groupN l).length - (i + 1), by omega, i + 1, rfl, by omega, by rw [List.length_map]; exact hF.keep [0, 7, 13, 14, 15] rfl, hH.drop⟩
  have g30_10' := g30_10; try simp only [qq] at g30_10'
  refine qsn hF rfl rfl rfl g30_10 rfl rfl fun a hF => ?_
  refine qsn hF rfl rfl rfl g30_10 rfl rfl fun a hF => ?_
  refine qsn hF rfl rfl rfl g30_10 rfl rfl fun a hF => ?_
  refine qsn hF rfl rfl rfl g30_10 rfl rfl fun a hF => ?_
  refine qsn hF rfl rfl rfl g30_10 rfl rfl fun a hF => ?_
  refine qsn hF rfl rfl rfl g30_10 rfl rfl fun a hF => ?_
  refine qsn hF rfl rfl rfl g30_10 rfl rfl fun a hF => ?_
  refine qsn hF rfl rfl rfl g30_10 rfl rfl fun a hF => ?_
  refine qsn hF rfl rfl rfl g30_10 rfl rfl fun a hF => ?_
  refine qsn hF rfl rfl rfl g30_10 rfl rfl fun a hF => ?_
  refine qsn hF rfl rfl rfl g30_10 rfl rfl fun a hF => ?_
  refine qsy hF rfl rfl rfl g30_7 rfl rfl (fun w hw => r_pickf hF rfl rfl g30_10 rfl) fun a hF => ?_
  refine qs hF rfl rfl rfl (fun w hw => r_pickf hF rfl rfl g30_7 rfl) fun a hF => ?_
  refine q_nil fun w hE => ?_
  replace hH := hH.ext hE
  refine k26 ?_
  refine c_no hF rfl rfl ?_
  refine wp_skip ?_
  refine t22.norm ?_
  refine k21 ?_
  refine c_reg fun ops => ?_
  refine zm 1 hF rfl fun a hF => ?_
  refine zb hF rfl rfl rfl (b_addn _ _ 1 (by omega)) fun a hF => ?_
  refine zm 1 hF rfl fun a hF => ?_
  refine wpList_nil ?_
  refine k19 ?_
  exact ⟨(groupN l).length - (i + 1), by omega, i + 1, rfl, by omega, by rw [List.length_map]; exact hF.keep [0, 7, 13, 14, 15] rfl, hH.drop⟩
theorem rrsetLeast_at (l : List Rec) (v : Value) (at' z : Int) (w0 : World) (hR : RSl w0 5 v l.length (recsV l)) (hlb : ∀ r ∈ l, r.name.length ≤ 140737488351232 ∧ r.data.length ≤ 140737488351232) (hG : GW w0) (hz : (Lit.int .u32 z).wf = true) :
    Rets Tryd.prog 7 [v, .int .i64 at', .int .u32 z] w0 fun r w' => r = .bool true ∧ Ext w0 w' := by
  obtain ⟨n, rfl⟩ := Int.eq_ofNat_of_zero_le (a := z) (of_decide_eq_true (Bool.and_eq_true _ _ ▸ hz : _ ∧ _).1)
  exact rrsetLeast_spec l v at' n w0 hR hlb hG
end Go.Proofs.YtcelgjabccgnmaaDoor
