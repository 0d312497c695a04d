/-
  The walks of RrsetBack and RrsetRise. Nothing is claimed here.
-/
import Derived.Test.YtcelgjabccgnmaaDoorLaw8b
namespace Go.Proofs.YtcelgjabccgnmaaDoor
open Go.RowKit
set_option linter.unusedVariables false
set_option linter.unusedSimpArgs false
set_option maxHeartbeats 1000000

theorem SetsR.shape {w : World} {v : Value} {l : List RSet} (h : SetsR w v l) : ∃ ad cap, v = .slice ad l.length cap := by
  obtain ⟨_, _, h, _⟩ := h; exact h.shape
/-- The records of the first sets. -/
def flatN (u : List RSet) (i : Nat) : List Rec := (u.take i).flatMap recsOf
theorem flatN_succ {u : List RSet} {i : Nat} (h : i < u.length) : flatN u (i + 1) = flatN u i ++ recsOf u[i] := by
  unfold flatN; rw [List.take_succ_eq_append_getElem h, List.flatMap_append]; simp
theorem rrsetBack_spec (l : List Rec) (v : Value) (w0 : World) (hR : RSl w0 5 v l.length (recsV l)) (hlb : ∀ r ∈ l, r.name.length ≤ 140737488351232 ∧ r.data.length ≤ 140737488351232) (hG : GW w0) :
    Rets Tryd.prog 9 [v] w0 fun r w' => r = .bool true ∧ Ext w0 w' := by
  have hH := Hp.refl w0
  refine rets_start Tryd.func9 rfl Tryd.ntmps9 rfl fun a Q0 hF hret hend => ?_
  simp only [argsFrom, Nat.zero_add, Nat.reduceAdd] at hF
  refine c_sr fun ops => ?_
  refine zm 1 hF rfl fun a hF => ?_
  refine c_n ?_
  replace hF := hF.sel [0]
  simp only [ss, Nat.reduceBEq] at hF
  refine c_seq fun Q1 k1 t1 => ?_
  refine c_sg ?_
  refine zm 1 hF rfl fun a hF => ?_
  refine zc hF rfl rfl fn22 (long8_spec l _ _ (hR.ext hH.below) hlb) ?_
  rintro _ w ⟨⟨b, rfl, hlg⟩, hE⟩ a hF
  replace hH := hH.ext hE
  refine zm 1 hF rfl fun a hF => ?_
  refine ls_ask (d := 9) hF rfl (fun g1_2 => ?_) (fun g1_2 => ?_)
  ·
   have g1_2' := g1_2; try simp only [qq] at g1_2'
   refine zn hF rfl g1_2 fun a hF => ?_
   refine zn hF rfl g1_2 fun a hF => ?_
   refine zl hF rfl (r_pickt hF rfl rfl g1_2 rfl) fun a hF => ?_
   refine c_n ?_
   replace hF := hF.sel [0, 12]
   simp only [ss, Nat.reduceBEq] at hF
   refine c_yes hF rfl rfl ?_
   refine c_sr fun ops => ?_
   refine zc hF rfl rfl fn23 (awake8_spec _ (hG.ext hH.below)) ?_
   rintro _ w ⟨rfl, hE⟩ a hF
   replace hH := hH.ext hE
   refine zm 1 hF rfl fun a hF => ?_
   refine c_n ?_
   replace hF := hF.sel [2]
   simp only [ss, Nat.reduceBEq] at hF
   refine wp_ret (t1.ret (hret (ret1 hF Tryd.results9 rfl ?_)))
   exact ⟨rfl, hH.below⟩
  have g1_2' := g1_2; try simp only [qq] at g1_2'
  refine zyc hF rfl g1_2 rfl fn23 (awake8_spec _ (hG.ext hH.below)) ?_
  rintro _ w ⟨rfl, hE⟩ a hF
  replace hH := hH.ext hE
  refine zy hF rfl g1_2 (r_not hF rfl rfl) fun a hF => ?_
  refine zl hF rfl (r_pickf hF rfl rfl g1_2 rfl) fun a hF => ?_
  refine c_n ?_
  replace hF := hF.sel [0, 12]
  simp only [ss, Nat.reduceBEq] at hF
  refine c_if hF rfl (fun h12 => ?_) (fun h12 => ?_)
  ·
   try simp only [qq] at h12
   refine c_sr fun ops => ?_
   refine zc hF rfl rfl fn23 (awake8_spec _ (hG.ext hH.below)) ?_
   rintro _ w ⟨rfl, hE⟩ a hF
   replace hH := hH.ext hE
   refine zm 1 hF rfl fun a hF => ?_
   refine c_n ?_
   replace hF := hF.sel [2]
   simp only [ss, Nat.reduceBEq] at hF
   refine wp_ret (t1.ret (hret (ret1 hF Tryd.results9 rfl ?_)))
   exact ⟨rfl, hH.below⟩
  try simp only [qq] at h12
  obtain ⟨hRB, hll⟩ := hlg g1_2'
  have hgb := group_bounds hRB
  have hgl := group_len l
  refine wp_skip ?_
  refine k1 ?_
  refine c_sr fun ops => ?_
  refine zm 1 hF rfl fun a hF => ?_
  refine zc hF rfl rfl fn24 (groupR_spec l _ _ (hR.ext hH.below) hRB (hG.ext hH.below)) ?_
  rintro v3 w ⟨hs3, hE⟩ a hF
  replace hH := hH.ext hE
  refine zm 1 hF rfl fun a hF => ?_
  refine c_n ?_
  replace hF := hF.sel [3]
  simp only [ss, Nat.reduceBEq] at hF
  obtain ⟨w3, hw3⟩ : ∃ w3, w3 = w := ⟨w, rfl⟩
  rw [← hw3] at hs3
  have hH3 : Hp w0 w3 [] := by rw [hw3]; exact hH
  have hHn : Hp w3 w [] := by rw [hw3]; exact Hp.refl _
  obtain ⟨uad, ucap, rfl⟩ := hs3.shape
  refine c_sr fun ops => ?_
  refine zm 1 hF rfl fun a hF => ?_
  refine c_n ?_
  replace hF := hF.sel [3, 4]
  simp only [ss, Nat.reduceBEq] at hF
  refine c_seq fun Q2 k2 t2 => ?_
  refine c_sr fun ops => ?_
  refine zm 1 hF rfl fun a hF => ?_
  refine c_n ?_
  replace hF := hF.sel [3, 4, 5]
  simp only [ss, Nat.reduceBEq] at hF
  refine c_block fun Q3 t3 => ?_
  refine c_loop (fun n a w => ∃ i B v1, n = (groupN l).length - i ∧ i ≤ (groupN l).length ∧ Fr 43 [(3, .slice uad (groupN l).length ucap), (4, v1), (5, .int .i64 (i : Nat))] a ∧ Hp w3 w B ∧ Sl 27 5 B v1 (flatN (groupN l) i).length (recsV (flatN (groupN l) i)) ∧ (flatN (groupN l) i).length ≤ i * 999) ?_ ?_
  ·
   exact ⟨_, 0, [], _, rfl, Nat.zero_le _, hF.keep [3, 4, 5] rfl, hHn, Sl.nil _ _, Nat.zero_le _⟩
  clear hH hF hHn
  intro n a w hI Q4 k4 t4
  obtain ⟨i, B, v1, hm, hi, hF, hH, hS, hfl⟩ := hI
  refine c_seq fun Q5 k5 t5 => ?_
  refine c_sr fun ops => ?_
  refine zm 2 hF rfl fun a hF => ?_
  refine zl hF rfl (r_len_sl hF rfl rfl Tryd.underlying38) fun a hF => ?_
  refine zb hF rfl rfl rfl (b_ltn _ _ _ _) fun a hF => ?_
  refine c_n ?_
  refine c_fi hF rfl (fun h19 => ?_) (fun h19 => ?_)
  ·
   try simp only [qq] at h19
   have hil : i = (groupN l).length := by omega
   have hall : flatN (groupN l) i = (groupN l).flatMap recsOf := by unfold flatN; rw [hil, List.take_length]
   rw [hall] at hS hfl
   have hfB : RecsB ((groupN l).flatMap recsOf) := by
     refine ⟨by omega, fun r hr => ?_⟩
     obtain ⟨s, hs, hr⟩ := List.mem_flatMap.1 hr
     obtain ⟨d, hd, rfl⟩ := List.mem_map.1 hr
     exact ⟨hgb.name s hs, hgb.each s hs d hd⟩
   refine wp_exit (t5.exit (t4.exit (t3.here (?_))))
   refine k2 ?_
   refine c_sr fun ops => ?_
   refine zm 1 hF rfl fun a hF => ?_
   refine zc hF rfl rfl fn24 (groupR_spec _ _ _ (hS.rsl hH (fun p hp => hp)) hfB ((hG.ext hH3.below).ext hH.below)) ?_
   rintro v40 w ⟨hs, hE⟩ a hF
   replace hH := hH.ext hE
   rw [group_back] at hs
   refine zm 1 hF rfl fun a hF => ?_
   refine zc hF rfl rfl fn20 (sameAll_yes _ hs (hs3.ext hH.below) hgb.len hgb.data) ?_
   rintro _ w ⟨rfl, hE⟩ a hF
   replace hH := hH.ext hE
   refine zm 1 hF rfl fun a hF => ?_
   refine c_n ?_
   replace hF := hF.sel [2]
   simp only [ss, Nat.reduceBEq] at hF
   refine wp_ret (hret (ret1 hF Tryd.results9 rfl ?_))
   exact ⟨rfl, (hH3.ext hH.below).below⟩
  try simp only [qq] at h19
  obtain ⟨b, off, dv, rfl, hset, hdv⟩ := hs3.at h19
  have hdl := hgb.data _ (List.getElem_mem h19)
  have hdl2 := hgl.2 _ (List.getElem_mem h19)
  have hfs := flatN_succ h19
  obtain ⟨dad, dcp, rfl⟩ := hdv.shape
  refine wp_skip ?_
  refine k5 ?_
  refine c_seq fun Q6 k6 t6 => ?_
  refine c_block fun Q7 t7 => ?_
  refine c_sr fun ops => ?_
  refine zm 2 hF rfl fun a hF => ?_
  refine zl hF rfl (r_indexaddr hF _ rfl rfl rfl Tryd.underlying38 ti49 (by omega)) fun a hF => ?_
  refine zl hF rfl (r_loadagg hF rfl rfl Tryd.underlying49 ti49 rfl (fun j u hu => hH.cell (hset j u hu))) fun a hF => ?_
  refine zc hF rfl rfl fn31 (records_spec (groupN l)[i] _ _ (hdv.ext hH.below) hdl) ?_
  rintro v6 w ⟨B6, hB6, hS6⟩ a hF
  replace hH := hH.join hB6
  refine zm 1 hF rfl fun a hF => ?_
  refine c_n ?_
  obtain ⟨rad, rcp, rfl⟩ := hS6.shape
  refine c_seq fun Q8 k8 t8 => ?_
  refine c_sr fun ops => ?_
  refine zm 1 hF rfl fun a hF => ?_
  refine zl hF rfl (r_len_sl hF rfl rfl Tryd.underlying23) fun a hF => ?_
  refine zm 2 hF rfl fun a hF => ?_
  refine zl hF rfl (r_indexaddr hF _ rfl rfl rfl Tryd.underlying38 ti49 (by omega)) fun a hF => ?_
  refine zl hF rfl (r_fieldaddr hF rfl rfl fd49_4) fun a hF => ?_
  refine zl hF rfl (r_load hF rfl rfl fl47 (hH.cell (hset 4 _ rfl))) fun a hF => ?_
  refine zl hF rfl (r_len_sl hF rfl rfl Tryd.underlying47) fun a hF => ?_
  refine zb hF rfl rfl rfl (b_nen _ _ _ _) fun a hF => ?_
  refine c_n ?_
  refine c_if hF rfl (fun h35 => ?_) (fun h35 => ?_)
  ·
   try simp only [qq] at h35
   exact absurd trivial h35
  try simp only [qq] at h35
  refine wp_skip ?_
  refine k8 ?_
  have hR6 := hS6.rsl hH (fun p hp => List.mem_append_left _ hp)
  refine c_reg fun ops => ?_
  refine zm 2 hF rfl fun a hF => ?_
  replace hH := hH.perm List.perm_append_comm
  refine ls_append hF hH rfl rfl rfl rfl rfl rfl Tryd.underlying23 ti27 hS hR6 (recs_one _) (by decide) (by omega) ?_
  intro a v11_2 w B11_2 hH hS hF
  refine zm 1 hF rfl fun a hF => ?_
  refine wpList_nil ?_
  refine t7.norm ?_
  refine k6 ?_
  refine c_reg fun ops => ?_
  refine zm 1 hF rfl fun a hF => ?_
  refine zb hF rfl rfl rfl (b_addn _ _ 1 (by omega)) fun a hF => ?_
  refine zm 1 hF rfl fun a hF => ?_
  refine wpList_nil ?_
  refine k4 ?_
  exact ⟨(groupN l).length - (i + 1), by omega, i + 1, _, _, rfl, by omega, hF.keep [3, 4, 5] rfl, hH.sub (List.sublist_append_left _ _), by rw [hfs, recsV_append, List.length_append, show (recsOf (groupN l)[i]).length = (groupN l)[i].data.length by simp [recsOf]]; exact hS, by rw [hfs, List.length_append, show (recsOf (groupN l)[i]).length = (groupN l)[i].data.length by simp [recsOf]]; omega⟩
theorem rrsetRise_spec (l : List Rec) (v : Value) (w0 : World) (hR : RSl w0 5 v l.length (recsV l)) (hlb : ∀ r ∈ l, r.name.length ≤ 140737488351232 ∧ r.data.length ≤ 140737488351232) (hG : GW w0) :
    Rets Tryd.prog 6 [v] w0 fun r w' => r = .bool true ∧ Ext w0 w' := by
  have hH := Hp.refl w0
  refine rets_start Tryd.func6 rfl Tryd.ntmps6 rfl fun a Q0 hF hret hend => ?_
  simp only [argsFrom, Nat.zero_add, Nat.reduceAdd] at hF
  refine c_sr fun ops => ?_
  refine zm 1 hF rfl fun a hF => ?_
  refine c_n ?_
  replace hF := hF.sel [0]
  simp only [ss, Nat.reduceBEq] at hF
  refine c_seq fun Q1 k1 t1 => ?_
  refine c_sg ?_
  refine zm 1 hF rfl fun a hF => ?_
  refine zc hF rfl rfl fn22 (long8_spec l _ _ (hR.ext hH.below) hlb) ?_
  rintro _ w ⟨⟨b, rfl, hlg⟩, hE⟩ a hF
  replace hH := hH.ext hE
  refine zm 1 hF rfl fun a hF => ?_
  refine ls_ask (d := 11) hF rfl (fun g1_2 => ?_) (fun g1_2 => ?_)
  ·
   have g1_2' := g1_2; try simp only [qq] at g1_2'
   refine zn hF rfl g1_2 fun a hF => ?_
   refine zn hF rfl g1_2 fun a hF => ?_
   refine zl hF rfl (r_pickt hF rfl rfl g1_2 rfl) fun a hF => ?_
   refine c_n ?_
   replace hF := hF.sel [0, 14]
   simp only [ss, Nat.reduceBEq] at hF
   refine c_yes hF rfl rfl ?_
   refine c_sr fun ops => ?_
   refine zc hF rfl rfl fn23 (awake8_spec _ (hG.ext hH.below)) ?_
   rintro _ w ⟨rfl, hE⟩ a hF
   replace hH := hH.ext hE
   refine zm 1 hF rfl fun a hF => ?_
   refine c_n ?_
   replace hF := hF.sel [2]
   simp only [ss, Nat.reduceBEq] at hF
   refine wp_ret (t1.ret (hret (ret1 hF Tryd.results6 rfl ?_)))
   exact ⟨rfl, hH.below⟩
  have g1_2' := g1_2; try simp only [qq] at g1_2'
  refine zyc hF rfl g1_2 rfl fn23 (awake8_spec _ (hG.ext hH.below)) ?_
  rintro _ w ⟨rfl, hE⟩ a hF
  replace hH := hH.ext hE
  refine zy hF rfl g1_2 (r_not hF rfl rfl) fun a hF => ?_
  refine zl hF rfl (r_pickf hF rfl rfl g1_2 rfl) fun a hF => ?_
  refine c_n ?_
  replace hF := hF.sel [0, 14]
  simp only [ss, Nat.reduceBEq] at hF
  refine c_if hF rfl (fun h14 => ?_) (fun h14 => ?_)
  ·
   try simp only [qq] at h14
   refine c_sr fun ops => ?_
   refine zc hF rfl rfl fn23 (awake8_spec _ (hG.ext hH.below)) ?_
   rintro _ w ⟨rfl, hE⟩ a hF
   replace hH := hH.ext hE
   refine zm 1 hF rfl fun a hF => ?_
   refine c_n ?_
   replace hF := hF.sel [2]
   simp only [ss, Nat.reduceBEq] at hF
   refine wp_ret (t1.ret (hret (ret1 hF Tryd.results6 rfl ?_)))
   exact ⟨rfl, hH.below⟩
  try simp only [qq] at h14
  obtain ⟨hRB, hll⟩ := hlg g1_2'
  have hgb := group_bounds hRB
  have hgh := group_holds l
  have hgn := hgb.len
  refine wp_skip ?_
  refine k1 ?_
  refine c_sr fun ops => ?_
  refine zm 1 hF rfl fun a hF => ?_
  refine zc hF rfl rfl fn24 (groupR_spec l _ _ (hR.ext hH.below) hRB (hG.ext hH.below)) ?_
  rintro v3 w ⟨hs3, hE⟩ a hF
  replace hH := hH.ext hE
  refine zm 1 hF rfl fun a hF => ?_
  refine c_n ?_
  replace hF := hF.sel [3]
  simp only [ss, Nat.reduceBEq] at hF
  obtain ⟨w3, hw3⟩ : ∃ w3, w3 = w := ⟨w, rfl⟩
  rw [← hw3] at hs3
  have hH3 : Hp w0 w3 [] := by rw [hw3]; exact hH
  have hHn : Hp w3 w [] := by rw [hw3]; exact Hp.refl _
  obtain ⟨uad, ucap, rfl⟩ := hs3.shape
  have hG3 := hG.ext hH3.below
  refine c_seq fun Q2 k2 t2 => ?_
  refine c_sr fun ops => ?_
  refine zm 1 hF rfl fun a hF => ?_
  refine c_n ?_
  replace hF := hF.sel [3, 4]
  simp only [ss, Nat.reduceBEq] at hF
  refine c_block fun Q3 t3 => ?_
  refine c_loop (fun n a w => ∃ i, n = (groupN l).length - i ∧ i ≤ (groupN l).length ∧ Fr 123 [(3, .slice uad (groupN l).length ucap), (4, .int .i64 (i : Nat))] a ∧ Hp w3 w []) ?_ ?_
  ·
   exact ⟨_, 0, rfl, Nat.zero_le _, hF.keep [3, 4] rfl, hHn⟩
  clear hH hF hHn
  intro n a w hI Q4 k4 t4
  obtain ⟨i, hm, hi, hF, hH⟩ := hI
  refine c_seq fun Q5 k5 t5 => ?_
  refine c_sr fun ops => ?_
  refine zm 2 hF rfl fun a hF => ?_
  refine zl hF rfl (r_len_sl hF rfl rfl Tryd.underlying38) fun a hF => ?_
  refine zb hF rfl rfl rfl (b_ltn _ _ _ _) fun a hF => ?_
  refine c_n ?_
  refine c_fi hF rfl (fun h21 => ?_) (fun h21 => ?_)
  ·
   try simp only [qq] at h21
   refine wp_exit (t5.exit (t4.exit (t3.here (?_))))
   refine k2 ?_
   refine c_sr fun ops => ?_
   refine zm 1 hF rfl fun a hF => ?_
   refine c_n ?_
   replace hF := hF.sel [2]
   simp only [ss, Nat.reduceBEq] at hF
   refine wp_ret (hret (ret1 hF Tryd.results6 rfl ?_))
   exact ⟨rfl, (hH3.ext hH.below).below⟩
  try simp only [qq] at h21
  obtain ⟨b, off, dv, rfl, hset, hdv⟩ := hs3.at h21
  have hmem := List.getElem_mem h21
  have hdl := hgb.data _ hmem
  have hnl := hgb.name _ hmem
  have hel := hgb.each _ hmem
  have hIs := hgh.1.is _ hmem
  obtain ⟨dad, dcp, rfl⟩ := hdv.shape
  refine wp_skip ?_
  refine k5 ?_
  refine c_seq fun Q6 k6 t6 => ?_
  refine c_block fun Q7 t7 => ?_
  refine c_sr fun ops => ?_
  refine zm 2 hF rfl fun a hF => ?_
  refine zl hF rfl (r_indexaddr hF _ rfl rfl rfl Tryd.underlying38 ti49 (by omega)) fun a hF => ?_
  refine zl hF rfl (r_loadagg hF rfl rfl Tryd.underlying49 ti49 rfl (fun j u hu => hH.cell (hset j u hu))) fun a hF => ?_
  refine ls_alloc hF hH rfl rfl rfl rfl zv49 ?_
  intro a w g7_4 hH hE hF
  refine ls_storeagg 0 hF hH rfl rfl rfl rfl rfl ti49 rfl (rfl) (rfl) (by simp [setV, Value.oneCell']) ?_
  intro w hH
  refine c_n ?_
  replace hH : Hp w3 w [(g7_4, .cells (setV (groupN l)[i] (.slice dad (groupN l)[i].data.length dcp)).toArray 49 (0, 0))] := hH
  refine c_seq fun Q8 k8 t8 => ?_
  refine c_seq fun Q9 k9 t9 => ?_
  refine q_reg (by kernel_rfl) (by kernel_rfl) ?_
  refine qs hF rfl rfl rfl (fun w hw => r_fieldaddr0 hF rfl rfl fd49_4) fun a hF => ?_
  refine qs hF rfl rfl rfl (fun w hw => r_load hF rfl rfl fl47 (hw.cell (own_cell (i := 0) hH rfl rfl))) fun a hF => ?_
  refine qs hF rfl rfl rfl (fun w hw => r_len_sl hF rfl rfl Tryd.underlying47) fun a hF => ?_
  refine qs hF rfl rfl rfl (fun w hw => zr hF rfl rfl (b_eqn _ _ _ 0)) fun a hF => ?_
  refine qs hF rfl rfl rfl (fun w hw => r_move hF rfl rfl) fun a hF => ?_
  refine q_ask (d := 32) hF rfl (fun g8_4 => ?_) (fun g8_4 => ?_)
  ·
   have g8_4' := g8_4; try simp only [qq] at g8_4'
   exact absurd (List.eq_nil_of_length_eq_zero g8_4') hIs.some
  have g8_4' := g8_4; try simp only [qq] at g8_4'
  refine qsy hF rfl rfl rfl g8_4 rfl rfl (fun w hw => r_fieldaddr0 hF rfl rfl fd49_0) fun a hF => ?_
  refine qsy hF rfl rfl rfl g8_4 rfl rfl (fun w hw => r_load hF rfl rfl fl9 (hw.cell (own_cell (i := 0) hH rfl rfl))) fun a hF => ?_
  refine qsy_call hF rfl rfl rfl g8_4 rfl rfl rfl rfl fn25 (fun w hw => fold_spec _ (by omega) _) fun a hF => ?_
  refine qsy hF rfl rfl rfl g8_4 rfl rfl (fun w hw => r_fieldaddr0 hF rfl rfl fd49_0) fun a hF => ?_
  refine qsy hF rfl rfl rfl g8_4 rfl rfl (fun w hw => r_load hF rfl rfl fl9 (hw.cell (own_cell (i := 0) hH rfl rfl))) fun a hF => ?_
  refine qsy hF rfl rfl rfl g8_4 rfl rfl (fun w hw => zr hF rfl rfl (b_sne _ _ _)) fun a hF => ?_
  refine qs hF rfl rfl rfl (fun w hw => r_pickf hF rfl rfl g8_4 rfl) fun a hF => ?_
  refine qs hF rfl rfl rfl (fun w hw => r_move hF rfl rfl) fun a hF => ?_
  refine q_ask (d := 40) hF rfl (fun g8_12 => ?_) (fun g8_12 => ?_)
  ·
   have g8_12' := g8_12; try simp only [qq] at g8_12'
   exact absurd hIs.good.fold g8_12'
  have g8_12' := g8_12; try simp only [qq] at g8_12'
  refine qsy hF rfl rfl rfl g8_12 rfl rfl (fun w hw => r_fieldaddr0 hF rfl rfl fd49_3) fun a hF => ?_
  refine qsy hF rfl rfl rfl g8_12 rfl rfl (fun w hw => r_load hF rfl rfl fl25 (hw.cell (own_cell (i := 0) hH rfl rfl))) fun a hF => ?_
  refine qsy hF rfl rfl rfl g8_12 rfl rfl (fun w hw => zr hF rfl rfl (b_gtn _ _ _ 2147483647)) fun a hF => ?_
  refine qs hF rfl rfl rfl (fun w hw => r_pickf hF rfl rfl g8_12 rfl) fun a hF => ?_
  refine q_nil fun w hE => ?_
  replace hH := hH.ext hE
  refine k9 ?_
  refine c_if hF rfl (fun h44 => ?_) (fun h44 => ?_)
  ·
   try simp only [qq] at h44
   have := hIs.ttl_le; omega
  try simp only [qq] at h44
  refine wp_skip ?_
  refine k8 ?_
  refine c_seq fun Q10 k10 t10 => ?_
  refine c_sr fun ops => ?_
  refine zm 1 hF rfl fun a hF => ?_
  refine c_n ?_
  refine c_block fun Q11 t11 => ?_
  refine c_loop (fun n a w => ∃ k, n = (groupN l)[i].data.length - k ∧ k ≤ (groupN l)[i].data.length ∧ Fr 123 [(3, .slice (some ⟨b, off, none⟩) (groupN l).length ucap), (4, .int .i64 (i : Nat)), (5, ptr g7_4), (6, .int .i64 (k : Nat))] a ∧ Hp w3 w [(g7_4, .cells (setV (groupN l)[i] (.slice dad (groupN l)[i].data.length dcp)).toArray 49 (0, 0))]) ?_ ?_
  ·
   exact ⟨_, 0, rfl, Nat.zero_le _, hF.keep [3, 4, 5, 6] rfl, hH⟩
  clear hH hF
  intro n a w hI Q12 k12 t12
  obtain ⟨k, hm2, hk, hF, hH⟩ := hI
  refine c_seq fun Q13 k13 t13 => ?_
  refine c_sr fun ops => ?_
  refine zm 1 hF rfl fun a hF => ?_
  refine zl hF rfl (r_fieldaddr0 hF rfl rfl fd49_4) fun a hF => ?_
  refine zl hF rfl (r_load hF rfl rfl fl47 (own_cell (i := 0) hH rfl rfl)) fun a hF => ?_
  refine zl hF rfl (r_len_sl hF rfl rfl Tryd.underlying47) fun a hF => ?_
  refine zb hF rfl rfl rfl (b_ltn _ _ _ _) fun a hF => ?_
  refine c_n ?_
  refine c_if hF rfl (fun h49 => ?_) (fun h49 => ?_)
  ·
   try simp only [qq] at h49
   obtain ⟨b2, off2, had, hc⟩ := hdv.at h49
   have hgk : (groupN l)[i].data.getD k [] = (groupN l)[i].data[k] := by rw [List.getD_eq_getElem?_getD, List.getElem?_eq_getElem h49]; rfl
   have hkl := hel _ (List.getElem_mem h49)
   have hfx := (hIs.fix (List.getElem_mem h49)).2
   rw [← hgk] at hkl hfx
   rw [had] at hH
   refine wp_skip ?_
   refine k13 ?_
   refine c_seq fun Q14 k14 t14 => ?_
   refine c_block fun Q15 t15 => ?_
   refine c_seq fun Q16 k16 t16 => ?_
   refine q_reg (by kernel_rfl) (by kernel_rfl) ?_
   refine qs hF rfl rfl rfl (fun w hw => r_move hF rfl rfl) fun a hF => ?_
   refine qs hF rfl rfl rfl (fun w hw => zr hF rfl rfl (b_gtn _ _ _ 0)) fun a hF => ?_
   refine qs hF rfl rfl rfl (fun w hw => r_move hF rfl rfl) fun a hF => ?_
   refine q_ask (d := 54) hF rfl (fun g13_2 => ?_) (fun g13_2 => ?_)
   ·
    have g13_2' := g13_2; try simp only [qq] at g13_2'
    obtain ⟨b3, off3, had3, hc3⟩ := hdv.at (i := k - 1) (by omega)
    have hgk3 : (groupN l)[i].data.getD (k - 1) [] = (groupN l)[i].data[k - 1]'(by omega) := by rw [List.getD_eq_getElem?_getD, List.getElem?_eq_getElem (show k - 1 < (groupN l)[i].data.length by omega)]; rfl
    have hls := List.pairwise_iff_getElem.1 hIs.rise (k - 1) k (by omega) h49 (by omega)
    rw [← hgk, ← hgk3] at hls
    rw [had] at had3
    cases had3
    refine qsy hF rfl rfl rfl g13_2 rfl rfl (fun w hw => r_fieldaddr0 hF rfl rfl fd49_4) fun a hF => ?_
    refine qsy hF rfl rfl rfl g13_2 rfl rfl (fun w hw => r_load hF rfl rfl fl47 (hw.cell (own_cell (i := 0) hH rfl rfl))) fun a hF => ?_
    refine qsy hF rfl rfl rfl g13_2 rfl rfl (fun w hw => r_move hF rfl rfl) fun a hF => ?_
    refine qsy hF rfl rfl rfl g13_2 rfl rfl (fun w hw => r_ix1 hF _ rfl rfl rfl Tryd.underlying47 ti9 (by omega)) fun a hF => ?_
    refine qsy hF rfl rfl rfl g13_2 rfl rfl (fun w hw => r_load hF rfl rfl fl9 (hw.cell (hH.cell hc))) fun a hF => ?_
    refine qsy hF rfl rfl rfl g13_2 rfl rfl (fun w hw => r_fieldaddr0 hF rfl rfl fd49_4) fun a hF => ?_
    refine qsy hF rfl rfl rfl g13_2 rfl rfl (fun w hw => r_load hF rfl rfl fl47 (hw.cell (own_cell (i := 0) hH rfl rfl))) fun a hF => ?_
    refine qsy hF rfl rfl rfl g13_2 rfl rfl (fun w hw => r_move hF rfl rfl) fun a hF => ?_
    refine qsy hF rfl rfl rfl g13_2 rfl rfl (fun w hw => zr hF rfl rfl (b_subn _ _ 1 (by omega))) fun a hF => ?_
    refine qsy hF rfl rfl rfl g13_2 rfl rfl (fun w hw => r_ix1 hF _ rfl rfl rfl Tryd.underlying47 ti9 (by omega)) fun a hF => ?_
    refine qsy hF rfl rfl rfl g13_2 rfl rfl (fun w hw => r_load hF rfl rfl fl9 (hw.cell (hH.cell hc3))) fun a hF => ?_
    refine qsy hF rfl rfl rfl g13_2 rfl rfl (fun w hw => zr hF rfl rfl (b_sle _ _ _)) fun a hF => ?_
    refine qs hF rfl rfl rfl (fun w hw => r_pickt hF rfl rfl g13_2 rfl) fun a hF => ?_
    refine qs hF rfl rfl rfl (fun w hw => r_move hF rfl rfl) fun a hF => ?_
    refine q_ask (d := 68) hF rfl (fun g13_16 => ?_) (fun g13_16 => ?_)
    ·
     have g13_16' := g13_16; try simp only [qq] at g13_16'
     rw [hls] at g13_16; cases g13_16
    have g13_16' := g13_16; try simp only [qq] at g13_16'
    refine qsy hF rfl rfl rfl g13_16 rfl rfl (fun w hw => r_fieldaddr0 hF rfl rfl fd49_1) fun a hF => ?_
    refine qsy hF rfl rfl rfl g13_16 rfl rfl (fun w hw => r_load hF rfl rfl fl24 (hw.cell (own_cell (i := 0) hH rfl rfl))) fun a hF => ?_
    refine qsy hF rfl rfl rfl g13_16 rfl rfl (fun w hw => r_fieldaddr0 hF rfl rfl fd49_4) fun a hF => ?_
    refine qsy hF rfl rfl rfl g13_16 rfl rfl (fun w hw => r_load hF rfl rfl fl47 (hw.cell (own_cell (i := 0) hH rfl rfl))) fun a hF => ?_
    refine qsy hF rfl rfl rfl g13_16 rfl rfl (fun w hw => r_move hF rfl rfl) fun a hF => ?_
    refine qsy hF rfl rfl rfl g13_16 rfl rfl (fun w hw => r_ix1 hF _ rfl rfl rfl Tryd.underlying47 ti9 (by omega)) fun a hF => ?_
    refine qsy hF rfl rfl rfl g13_16 rfl rfl (fun w hw => r_load hF rfl rfl fl9 (hw.cell (hH.cell hc))) fun a hF => ?_
    refine qsy_call hF rfl rfl rfl g13_16 rfl rfl rfl rfl fn26 (fun w hw => dataFold_spec _ _ hkl _ ((hG3.ext hH.below).ext hw)) fun a hF => ?_
    refine qsy hF rfl rfl rfl g13_16 rfl rfl (fun w hw => r_fieldaddr0 hF rfl rfl fd49_4) fun a hF => ?_
    refine qsy hF rfl rfl rfl g13_16 rfl rfl (fun w hw => r_load hF rfl rfl fl47 (hw.cell (own_cell (i := 0) hH rfl rfl))) fun a hF => ?_
    refine qsy hF rfl rfl rfl g13_16 rfl rfl (fun w hw => r_move hF rfl rfl) fun a hF => ?_
    refine qsy hF rfl rfl rfl g13_16 rfl rfl (fun w hw => r_ix1 hF _ rfl rfl rfl Tryd.underlying47 ti9 (by omega)) fun a hF => ?_
    refine qsy hF rfl rfl rfl g13_16 rfl rfl (fun w hw => r_load hF rfl rfl fl9 (hw.cell (hH.cell hc))) fun a hF => ?_
    refine qsy hF rfl rfl rfl g13_16 rfl rfl (fun w hw => zr hF rfl rfl (b_sne _ _ _)) fun a hF => ?_
    refine qs hF rfl rfl rfl (fun w hw => r_pickf hF rfl rfl g13_16 rfl) fun a hF => ?_
    refine q_nil fun w hE => ?_
    replace hH := hH.ext hE
    refine k16 ?_
    refine c_if hF rfl (fun h83 => ?_) (fun h83 => ?_)
    ·
     try simp only [qq] at h83
     exact absurd hfx h83
    try simp only [qq] at h83
    refine wp_skip ?_
    refine t15.norm ?_
    refine k14 ?_
    refine c_reg fun ops => ?_
    refine zm 1 hF rfl fun a hF => ?_
    refine zb hF rfl rfl rfl (b_addn _ _ 1 (by omega)) fun a hF => ?_
    refine zm 1 hF rfl fun a hF => ?_
    refine wpList_nil ?_
    refine k12 ?_
    rw [← had] at hH
    exact ⟨(groupN l)[i].data.length - (k + 1), by omega, k + 1, rfl, by omega, hF.keep [3, 4, 5, 6] rfl, hH⟩
   have g13_2' := g13_2; try simp only [qq] at g13_2'
   refine qsn hF rfl rfl rfl g13_2 rfl rfl fun a hF => ?_
   refine qsn hF rfl rfl rfl g13_2 rfl rfl fun a hF => ?_
   refine qsn hF rfl rfl rfl g13_2 rfl rfl fun a hF => ?_
   refine qsn hF rfl rfl rfl g13_2 rfl rfl fun a hF => ?_
   refine qsn hF rfl rfl rfl g13_2 rfl rfl fun a hF => ?_
   refine qsn hF rfl rfl rfl g13_2 rfl rfl fun a hF => ?_
   refine qsn hF rfl rfl rfl g13_2 rfl rfl fun a hF => ?_
   refine qsn hF rfl rfl rfl g13_2 rfl rfl fun a hF => ?_
   refine qsn hF rfl rfl rfl g13_2 rfl rfl fun a hF => ?_
   refine qsn hF rfl rfl rfl g13_2 rfl rfl fun a hF => ?_
   refine qsn hF rfl rfl rfl g13_2 rfl rfl fun a hF => ?_
   refine qsn hF rfl rfl rfl g13_2 rfl rfl fun a hF => ?_
   refine qs hF rfl rfl rfl (fun w hw => r_pickf hF rfl rfl g13_2 rfl) fun a hF => ?_
   refine qs hF rfl rfl rfl (fun w hw => r_move hF rfl rfl) fun a hF => ?_
   refine qsy hF rfl rfl rfl rfl rfl rfl (fun w hw => r_fieldaddr0 hF rfl rfl fd49_1) fun a hF => ?_
   refine qsy hF rfl rfl rfl rfl rfl rfl (fun w hw => r_load hF rfl rfl fl24 (hw.cell (own_cell (i := 0) hH rfl rfl))) fun a hF => ?_
   refine qsy hF rfl rfl rfl rfl rfl rfl (fun w hw => r_fieldaddr0 hF rfl rfl fd49_4) fun a hF => ?_
   refine qsy hF rfl rfl rfl rfl rfl rfl (fun w hw => r_load hF rfl rfl fl47 (hw.cell (own_cell (i := 0) hH rfl rfl))) fun a hF => ?_
   refine qsy hF rfl rfl rfl rfl rfl rfl (fun w hw => r_move hF rfl rfl) fun a hF => ?_
   refine qsy hF rfl rfl rfl rfl rfl rfl (fun w hw => r_ix1 hF _ rfl rfl rfl Tryd.underlying47 ti9 (by omega)) fun a hF => ?_
   refine qsy hF rfl rfl rfl rfl rfl rfl (fun w hw => r_load hF rfl rfl fl9 (hw.cell (hH.cell hc))) fun a hF => ?_
   refine qsy_call hF rfl rfl rfl rfl rfl rfl rfl rfl fn26 (fun w hw => dataFold_spec _ _ hkl _ ((hG3.ext hH.below).ext hw)) fun a hF => ?_
   refine qsy hF rfl rfl rfl rfl rfl rfl (fun w hw => r_fieldaddr0 hF rfl rfl fd49_4) fun a hF => ?_
   refine qsy hF rfl rfl rfl rfl rfl rfl (fun w hw => r_load hF rfl rfl fl47 (hw.cell (own_cell (i := 0) hH rfl rfl))) fun a hF => ?_
   refine qsy hF rfl rfl rfl rfl rfl rfl (fun w hw => r_move hF rfl rfl) fun a hF => ?_
   refine qsy hF rfl rfl rfl rfl rfl rfl (fun w hw => r_ix1 hF _ rfl rfl rfl Tryd.underlying47 ti9 (by omega)) fun a hF => ?_
   refine qsy hF rfl rfl rfl rfl rfl rfl (fun w hw => r_load hF rfl rfl fl9 (hw.cell (hH.cell hc))) fun a hF => ?_
   refine qsy hF rfl rfl rfl rfl rfl rfl (fun w hw => zr hF rfl rfl (b_sne _ _ _)) fun a hF => ?_
   refine qs hF rfl rfl rfl (fun w hw => r_pickf hF rfl rfl rfl rfl) fun a hF => ?_
   refine q_nil fun w hE => ?_
   replace hH := hH.ext hE
   refine k16 ?_
   refine c_if hF rfl (fun h83 => ?_) (fun h83 => ?_)
   ·
    try simp only [qq] at h83
    exact absurd hfx h83
   try simp only [qq] at h83
   refine wp_skip ?_
   refine t15.norm ?_
   refine k14 ?_
   refine c_reg fun ops => ?_
   refine zm 1 hF rfl fun a hF => ?_
   refine zb hF rfl rfl rfl (b_addn _ _ 1 (by omega)) fun a hF => ?_
   refine zm 1 hF rfl fun a hF => ?_
   refine wpList_nil ?_
   refine k12 ?_
   rw [← had] at hH
   exact ⟨(groupN l)[i].data.length - (k + 1), by omega, k + 1, rfl, by omega, hF.keep [3, 4, 5, 6] rfl, hH⟩
  try simp only [qq] at h49
  refine wp_exit (t13.exit (t12.exit (t11.here (?_))))
  refine k10 ?_
  refine c_seq fun Q17 k17 t17 => ?_
  refine c_sr fun ops => ?_
  refine zm 1 hF rfl fun a hF => ?_
  refine zb hF rfl rfl rfl (b_eqn _ _ _ 0) fun a hF => ?_
  refine c_n ?_
  refine c_if hF rfl (fun h85 => ?_) (fun h85 => ?_)
  ·
   try simp only [qq] at h85
   refine wp_exit (t17.exit (t7.here (?_)))
   refine k6 ?_
   refine c_reg fun ops => ?_
   refine zm 1 hF rfl fun a hF => ?_
   refine zb hF rfl rfl rfl (b_addn _ _ 1 (by omega)) fun a hF => ?_
   refine zm 1 hF rfl fun a hF => ?_
   refine wpList_nil ?_
   refine k4 ?_
   exact ⟨(groupN l).length - (i + 1), by omega, i + 1, rfl, by omega, hF.keep [3, 4] rfl, hH.sub (List.nil_sublist _)⟩
  try simp only [qq] at h85
  obtain ⟨b', off', dv', hb', hset', hdv'⟩ := hs3.at (i := i - 1) (by omega)
  cases hb'
  have hlt := List.pairwise_iff_getElem.1 hgh.2 (i - 1) i (by omega) h21 (by omega)
  have hnl' := hgb.name _ (List.getElem_mem (show i - 1 < (groupN l).length by omega))
  rw [scmp_before] at hlt
  refine wp_skip ?_
  refine k17 ?_
  refine c_sr fun ops => ?_
  refine zm 2 hF rfl fun a hF => ?_
  refine zb hF rfl rfl rfl (b_subn _ _ 1 (by omega)) fun a hF => ?_
  refine zl hF rfl (r_indexaddr hF _ rfl rfl rfl Tryd.underlying38 ti49 (by omega)) fun a hF => ?_
  refine zl hF rfl (r_loadagg hF rfl rfl Tryd.underlying49 ti49 rfl (fun j u hu => hH.cell (hset' j u hu))) fun a hF => ?_
  refine ls_alloc hF hH rfl rfl rfl rfl zv49 ?_
  intro a w g16_5 hH hE hF
  refine ls_storeagg 0 hF hH rfl rfl rfl rfl rfl ti49 rfl (rfl) (rfl) (by have := hdv'.shape; obtain ⟨_, _, rfl⟩ := this; simp [setV, Value.oneCell']) ?_
  intro w hH
  refine c_n ?_
  replace hH : Hp w3 w [(g16_5, .cells (setV ((groupN l)[i - 1]'(by omega)) dv').toArray 49 (0, 0)), (g7_4, .cells (setV (groupN l)[i] (.slice dad (groupN l)[i].data.length dcp)).toArray 49 (0, 0))] := hH
  refine c_sr fun ops => ?_
  refine zl hF rfl (r_fieldaddr0 hF rfl rfl fd49_0) fun a hF => ?_
  refine zl hF rfl (r_load hF rfl rfl fl9 (own_cell (i := 0) hH rfl rfl)) fun a hF => ?_
  refine zl hF rfl (r_fieldaddr0 hF rfl rfl fd49_0) fun a hF => ?_
  refine zl hF rfl (r_load hF rfl rfl fl9 (own_cell (i := 1) hH rfl rfl)) fun a hF => ?_
  refine zc hF rfl rfl fn27 (ncompare_spec _ _ hnl' hnl _) ?_
  rintro _ w ⟨rfl, hE⟩ a hF
  replace hH := hH.ext hE
  refine zm 1 hF rfl fun a hF => ?_
  refine c_n ?_
  refine c_sg ?_
  refine zm 1 hF rfl fun a hF => ?_
  refine zb hF rfl rfl rfl (b_gt _ _ _ _) fun a hF => ?_
  refine zm 1 hF rfl fun a hF => ?_
  refine ls_ask (d := 98) hF rfl (fun g18_2 => ?_) (fun g18_2 => ?_)
  ·
   have g18_2' := g18_2; try simp only [qq] at g18_2'
   omega
  have g18_2' := g18_2; try simp only [qq] at g18_2'
  refine zy hF rfl g18_2 (r_move hF rfl rfl) fun a hF => ?_
  refine zy hF rfl g18_2 (zr hF rfl rfl (b_eq _ _ _ _)) fun a hF => ?_
  refine zy hF rfl g18_2 (r_move hF rfl rfl) fun a hF => ?_
  refine l_ask (d := 101) hF rfl (fun g18_5 => ?_) (fun g18_5 => ?_)
  ·
   have g18_5' := g18_5; try simp only [qq] at g18_5'
   refine zn hF rfl g18_5 fun a hF => ?_
   refine zn hF rfl g18_5 fun a hF => ?_
   refine zn hF rfl g18_5 fun a hF => ?_
   refine zn hF rfl g18_5 fun a hF => ?_
   refine zn hF rfl g18_5 fun a hF => ?_
   refine zn hF rfl g18_5 fun a hF => ?_
   refine lsu hF rfl rfl rfl rfl rfl fun a hF => ?_
   refine lsu hF rfl rfl rfl rfl rfl fun a hF => ?_
   refine lsu hF rfl rfl rfl rfl rfl fun a hF => ?_
   refine lsu hF rfl rfl rfl rfl rfl fun a hF => ?_
   refine lsu hF rfl rfl rfl rfl rfl fun a hF => ?_
   refine lsu hF rfl rfl rfl rfl rfl fun a hF => ?_
   refine lsu hF rfl rfl rfl rfl rfl fun a hF => ?_
   refine lsu hF rfl rfl rfl rfl rfl fun a hF => ?_
   refine lsu hF rfl rfl rfl rfl rfl fun a hF => ?_
   refine lsu hF rfl rfl rfl rfl rfl fun a hF => ?_
   refine lsu hF rfl rfl rfl rfl rfl fun a hF => ?_
   refine lsu hF rfl rfl rfl rfl rfl fun a hF => ?_
   refine zn hF rfl g18_5 fun a hF => ?_
   refine zy hF rfl g18_2 (r_pickf hF rfl rfl g18_5 rfl) fun a hF => ?_
   refine zl hF rfl (r_pickf hF rfl rfl g18_2 rfl) fun a hF => ?_
   refine c_n ?_
   refine c_no hF rfl rfl ?_
   refine wp_skip ?_
   refine t7.norm ?_
   refine k6 ?_
   refine c_reg fun ops => ?_
   refine zm 1 hF rfl fun a hF => ?_
   refine zb hF rfl rfl rfl (b_addn _ _ 1 (by omega)) fun a hF => ?_
   refine zm 1 hF rfl fun a hF => ?_
   refine wpList_nil ?_
   refine k4 ?_
   exact ⟨(groupN l).length - (i + 1), by omega, i + 1, rfl, by omega, hF.keep [3, 4] rfl, hH.sub (List.nil_sublist _)⟩
  have g18_5' := g18_5; try simp only [qq] at g18_5'
  refine zy hF rfl g18_5 (r_fieldaddr0 hF rfl rfl fd49_1) fun a hF => ?_
  refine zy hF rfl g18_5 (r_load hF rfl rfl fl24 (own_cell (i := 0) hH rfl rfl)) fun a hF => ?_
  refine zy hF rfl g18_5 (r_fieldaddr0 hF rfl rfl fd49_1) fun a hF => ?_
  refine zy hF rfl g18_5 (r_load hF rfl rfl fl24 (own_cell (i := 1) hH rfl rfl)) fun a hF => ?_
  refine zy hF rfl g18_5 (zr hF rfl rfl (b_gtn _ _ _ _)) fun a hF => ?_
  refine zy hF rfl g18_5 (r_move hF rfl rfl) fun a hF => ?_
  refine ls_ask (d := 107) hF rfl (fun g18_11 => ?_) (fun g18_11 => ?_)
  ·
   have g18_11' := g18_11; try simp only [qq] at g18_11'
   omega
  have g18_11' := g18_11; try simp only [qq] at g18_11'
  refine zy hF rfl g18_11 (r_fieldaddr0 hF rfl rfl fd49_1) fun a hF => ?_
  refine zy hF rfl g18_11 (r_load hF rfl rfl fl24 (own_cell (i := 0) hH rfl rfl)) fun a hF => ?_
  refine zy hF rfl g18_11 (r_fieldaddr0 hF rfl rfl fd49_1) fun a hF => ?_
  refine zy hF rfl g18_11 (r_load hF rfl rfl fl24 (own_cell (i := 1) hH rfl rfl)) fun a hF => ?_
  refine zy hF rfl g18_11 (zr hF rfl rfl (b_eqn _ _ _ _)) fun a hF => ?_
  refine zy hF rfl g18_11 (r_move hF rfl rfl) fun a hF => ?_
  refine l_ask (d := 113) hF rfl (fun g18_17 => ?_) (fun g18_17 => ?_)
  ·
   have g18_17' := g18_17; try simp only [qq] at g18_17'
   refine zn hF rfl g18_17 fun a hF => ?_
   refine zn hF rfl g18_17 fun a hF => ?_
   refine zn hF rfl g18_17 fun a hF => ?_
   refine zn hF rfl g18_17 fun a hF => ?_
   refine zn hF rfl g18_17 fun a hF => ?_
   refine zy hF rfl g18_11 (r_pickf hF rfl rfl g18_17 rfl) fun a hF => ?_
   refine zy hF rfl g18_5 (r_pickf hF rfl rfl g18_11 rfl) fun a hF => ?_
   refine zy hF rfl g18_2 (r_pickt hF rfl rfl g18_5 rfl) fun a hF => ?_
   refine zl hF rfl (r_pickf hF rfl rfl g18_2 rfl) fun a hF => ?_
   refine c_n ?_
   refine c_no hF rfl rfl ?_
   refine wp_skip ?_
   refine t7.norm ?_
   refine k6 ?_
   refine c_reg fun ops => ?_
   refine zm 1 hF rfl fun a hF => ?_
   refine zb hF rfl rfl rfl (b_addn _ _ 1 (by omega)) fun a hF => ?_
   refine zm 1 hF rfl fun a hF => ?_
   refine wpList_nil ?_
   refine k4 ?_
   exact ⟨(groupN l).length - (i + 1), by omega, i + 1, rfl, by omega, hF.keep [3, 4] rfl, hH.sub (List.nil_sublist _)⟩
  have g18_17' := g18_17; try simp only [qq] at g18_17'
  refine zy hF rfl g18_17 (r_fieldaddr0 hF rfl rfl fd49_2) fun a hF => ?_
  refine zy hF rfl g18_17 (r_load hF rfl rfl fl24 (own_cell (i := 0) hH rfl rfl)) fun a hF => ?_
  refine zy hF rfl g18_17 (r_fieldaddr0 hF rfl rfl fd49_2) fun a hF => ?_
  refine zy hF rfl g18_17 (r_load hF rfl rfl fl24 (own_cell (i := 1) hH rfl rfl)) fun a hF => ?_
  refine zy hF rfl g18_17 (zr hF rfl rfl (b_gen _ _ _ _)) fun a hF => ?_
  refine zy hF rfl g18_11 (r_pickt hF rfl rfl g18_17 rfl) fun a hF => ?_
  refine zy hF rfl g18_5 (r_pickf hF rfl rfl g18_11 rfl) fun a hF => ?_
  refine zy hF rfl g18_2 (r_pickt hF rfl rfl g18_5 rfl) fun a hF => ?_
  refine zl hF rfl (r_pickf hF rfl rfl g18_2 rfl) fun a hF => ?_
  refine c_n ?_
  refine c_if hF rfl (fun h122 => ?_) (fun h122 => ?_)
  ·
   try simp only [qq] at h122
   omega
  try simp only [qq] at h122
  refine wp_skip ?_
  refine t7.norm ?_
  refine k6 ?_
  refine c_reg fun ops => ?_
  refine zm 1 hF rfl fun a hF => ?_
  refine zb hF rfl rfl rfl (b_addn _ _ 1 (by omega)) fun a hF => ?_
  refine zm 1 hF rfl fun a hF => ?_
  refine wpList_nil ?_
  refine k4 ?_
  exact ⟨(groupN l).length - (i + 1), by omega, i + 1, rfl, by omega, hF.keep [3, 4] rfl, hH.sub (List.nil_sublist _)⟩
end Go.Proofs.YtcelgjabccgnmaaDoor
