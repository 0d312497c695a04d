/-
  The walk of RrsetGroups. Nothing is claimed here.
-/
import Derived.Test.YtcelgjabccgnmaaGreatDoorFinds8
import Derived.Test.YtcelgjabccgnmaaGreatDoorLaw9c
namespace Go.Proofs.YtcelgjabccgnmaaGreatDoor
open Go.RowKit
set_option linter.unusedVariables false
set_option linter.unusedSimpArgs false
set_option maxHeartbeats 1000000

theorem recs8_spec (s : RSet) (dv : Value) (w0 : World) (hv : RSl w0 1 dv s.data.length (strV s.data)) (hl : s.data.length < 1000000) :
    Rets Tryz.prog 33 [.agg (setV s dv).toArray] w0 fun r w' => ∃ B, Hp w0 w' B ∧ Sl 38 5 B r s.data.length (recsV (recsOf s)) := by
  have hH := Hp.refl w0
  obtain ⟨ad, ca, rfl⟩ := hv.shape
  refine rets_start Tryz.func33 rfl Tryz.ntmps33 rfl fun a Q0 hF hret hend => ?_
  simp only [argsFrom, Nat.zero_add, Nat.reduceAdd] at hF
  refine c_sr fun ops => ?_
  refine ls_box hF hH rfl rfl rfl rfl rfl ?_
  intro a w g0_0 hH hE hF
  refine zm 1 hF rfl fun a hF => ?_
  refine c_n ?_
  replace hF := hF.sel [1]
  simp only [ss, Nat.reduceBEq] at hF
  simp only [cells_agg] at hH
  refine c_sr fun ops => ?_
  refine zm 1 hF rfl fun a hF => ?_
  refine c_n ?_
  replace hF := hF.sel [1, 3]
  simp only [ss, Nat.reduceBEq] at hF
  refine c_seq fun Q1 k1 t1 => ?_
  refine c_sr fun ops => ?_
  refine zm 1 hF rfl fun a hF => ?_
  refine c_n ?_
  replace hF := hF.sel [1, 3, 4]
  simp only [ss, Nat.reduceBEq] at hF
  refine c_block fun Q2 t2 => ?_
  refine c_loop (fun n a w => ∃ i B rv, n = s.data.length - i ∧ i ≤ s.data.length ∧ Fr 30 [(1, ptr g0_0), (3, rv), (4, .int .i64 (i : Nat))] a ∧ Hp w0 w (B ++ [(g0_0, .cells (setV s (.slice ad s.data.length ca)).toArray 27 (0, 0))]) ∧ Sl 38 5 B rv i (recsV ((recsOf s).take i))) ?_ ?_
  ·
   exact ⟨_, 0, [], _, rfl, Nat.zero_le _, hF.keep [1, 3, 4] rfl, hH, Sl.nil _ _⟩
  clear hH hF
  intro n a w hI Q3 k3 t3
  obtain ⟨i, B, rv, hm, hi, hF, hH, hS⟩ := hI
  have hHp := hH.perm (List.perm_append_singleton _ B).symm
  refine c_seq fun Q4 k4 t4 => ?_
  refine c_sr fun ops => ?_
  refine zm 1 hF rfl fun a hF => ?_
  refine zl hF rfl (r_fieldaddr0 hF rfl rfl fd27_4) fun a hF => ?_
  refine zl hF rfl (r_load hF rfl rfl fl25 (own_cell (i := 0) hHp rfl rfl)) fun a hF => ?_
  refine zl hF rfl (r_len_sl hF rfl rfl Tryz.underlying25) fun a hF => ?_
  refine zb hF rfl rfl rfl (b_ltn _ _ _ _) fun a hF => ?_
  refine c_n ?_
  refine c_fi hF rfl (fun h9 => ?_) (fun h9 => ?_)
  ·
   try simp only [qq] at h9
   have hil : i = s.data.length := by omega
   subst hil
   refine wp_exit (t4.exit (t3.exit (t2.here (?_))))
   refine k1 ?_
   refine c_sr fun ops => ?_
   refine zm 2 hF rfl fun a hF => ?_
   refine c_n ?_
   replace hF := hF.sel [2]
   simp only [ss, Nat.reduceBEq] at hF
   refine wp_ret (hret (ret1 hF Tryz.results33 rfl ?_))
   exact ⟨B, hH.sub (List.sublist_append_left _ _), by rw [List.take_of_length_le (by simp [recsOf])] at hS; exact hS⟩
  try simp only [qq] at h9
  obtain ⟨b, off, had, hc⟩ := hv.at h9
  have hgd : s.data.getD i [] = s.data[i] := by simp [List.getD_eq_getElem?_getD, h9]
  have hHl : Hp w0 w ((g0_0, .cells (setV s (.slice (some ⟨b, off, none⟩) s.data.length ca)).toArray 27 (0, 0)) :: B) := by rw [← had]; exact hHp
  refine wp_skip ?_
  refine k4 ?_
  refine c_seq fun Q5 k5 t5 => ?_
  refine c_block fun Q6 t6 => ?_
  have hHR := hH
  replace hH := hHl
  refine c_flow [0, 1, 3, 5, 7, 9, 11] [2, 4, 6, 8, 10, 12, 13, 14, 15] [16] [17] (by kernel_rfl) (by kernel_rfl) fun hB => ?_
  refine ps hF rfl rfl rfl rfl (fun w => r_move hF rfl rfl) fun a hF => ?_
  refine ps hF rfl rfl rfl rfl (fun w => r_fieldaddr0 hF rfl rfl fd27_0) fun a hF => ?_
  refine ps hF rfl rfl rfl rfl (fun w => r_fieldaddr0 hF rfl rfl fd27_1) fun a hF => ?_
  refine ps hF rfl rfl rfl rfl (fun w => r_fieldaddr0 hF rfl rfl fd27_2) fun a hF => ?_
  refine ps hF rfl rfl rfl rfl (fun w => r_fieldaddr0 hF rfl rfl fd27_3) fun a hF => ?_
  refine ps hF rfl rfl rfl rfl (fun w => r_fieldaddr0 hF rfl rfl fd27_4) fun a hF => ?_
  refine ps hF rfl rfl rfl rfl (fun w => r_move hF rfl rfl) fun a hF => ?_
  refine fl_start [14, 16, 18, 20, 22, 24, 25, 26, 27] hB (by kernel_rfl) hF ?_
  simp only [wo, hasN, Nat.reduceBEq, cond_true, cond_false] at hF ⊢
  refine fs1 rfl (by
   intro a w Lr hE hC hl
   replace hH := hH.ext hE
   have hF := hC.fr
   exact zl hF rfl (r_load hF rfl rfl fl9 (own_cell (i := 0) hH rfl rfl)) fun a' hF' => wpList_nil (fl_end hC hF' (Ext.refl _) rfl)) ?_
  refine fs1 rfl (by
   intro a w Lr hE hC hl
   replace hH := hH.ext hE
   have hF := hC.fr
   exact zl hF rfl (r_load hF rfl rfl fl23 (own_cell (i := 0) hH rfl rfl)) fun a' hF' => wpList_nil (fl_end hC hF' (Ext.refl _) rfl)) ?_
  refine fs1 rfl (by
   intro a w Lr hE hC hl
   replace hH := hH.ext hE
   have hF := hC.fr
   exact zl hF rfl (r_load hF rfl rfl fl23 (own_cell (i := 0) hH rfl rfl)) fun a' hF' => wpList_nil (fl_end hC hF' (Ext.refl _) rfl)) ?_
  refine fs1 rfl (by
   intro a w Lr hE hC hl
   replace hH := hH.ext hE
   have hF := hC.fr
   exact zl hF rfl (r_load hF rfl rfl fl24 (own_cell (i := 0) hH rfl rfl)) fun a' hF' => wpList_nil (fl_end hC hF' (Ext.refl _) rfl)) ?_
  refine fs1 rfl (by
   intro a w Lr hE hC hl
   replace hH := hH.ext hE
   have hF := hC.fr
   exact zl hF rfl (r_load hF rfl rfl fl25 (own_cell (i := 0) hH rfl rfl)) fun a' hF' => wpList_nil (fl_end hC hF' (Ext.refl _) rfl)) ?_
  refine fs1 rfl (by
   intro a w Lr hE hC hl
   replace hH := hH.ext hE
   obtain ⟨_, s22, rfl⟩ := hl 22 (by decide) _ rfl
   replace hC := hC.more s22
   have hF := hC.fr
   exact zl hF rfl (r_ix1 hF _ rfl rfl rfl Tryz.underlying25 ti9 (by omega)) fun a' hF' => wpList_nil (fl_end hC hF' (Ext.refl _) rfl)) ?_
  refine fs1 rfl (by
   intro a w Lr hE hC hl
   replace hH := hH.ext hE
   obtain ⟨_, s24, rfl⟩ := hl 24 (by decide) _ rfl
   replace hC := hC.more s24
   have hF := hC.fr
   exact zl hF rfl (r_load hF rfl rfl fl9 (hH.cell hc)) fun a' hF' => wpList_nil (fl_end hC hF' (Ext.refl _) rfl)) ?_
  refine fs1 rfl (by
   intro a w Lr hE hC hl
   replace hH := hH.ext hE
   obtain ⟨_, s14, rfl⟩ := hl 14 (by decide) _ rfl
   replace hC := hC.more s14
   obtain ⟨_, s16, rfl⟩ := hl 16 (by decide) _ rfl
   replace hC := hC.more s16
   obtain ⟨_, s18, rfl⟩ := hl 18 (by decide) _ rfl
   replace hC := hC.more s18
   obtain ⟨_, s20, rfl⟩ := hl 20 (by decide) _ rfl
   replace hC := hC.more s20
   obtain ⟨_, s25, rfl⟩ := hl 25 (by decide) _ rfl
   replace hC := hC.more s25
   have hF := hC.fr
   exact zl hF rfl (r_build hF rfl rfl (bd38_0_1_2_3_4 _ _ _ _ _ _ (rfl) (rfl) (rfl) (rfl) (rfl))) fun a' hF' => wpList_nil (fl_end hC hF' (Ext.refl _) rfl)) ?_
  refine fsr rfl (by
   intro a w Lr hE hC hl
   replace hH := hH.ext hE
   obtain ⟨_, s26, rfl⟩ := hl 26 (by decide) _ rfl
   replace hC := hC.more s26
   have hF := hC.fr
   refine ls_build1 hF (Hp.refl w) rfl rfl rfl rfl rfl Tryz.underlying34 ti38 rfl (by decide) ?_
   intro a' w' g hH' hE' hF'
   exact wpList_nil (fl_end hC hF' hE' (rsl_lit (n := 1) (size := 5) hH' rfl (by decide)))) ?_
  intro a w hE hF hall
  replace hH := hH.ext hE
  obtain ⟨_, s14, rfl⟩ := hall 14 _ rfl
  replace hF := hF.more s14
  obtain ⟨_, s16, rfl⟩ := hall 16 _ rfl
  replace hF := hF.more s16
  obtain ⟨_, s18, rfl⟩ := hall 18 _ rfl
  replace hF := hF.more s18
  obtain ⟨_, s20, rfl⟩ := hall 20 _ rfl
  replace hF := hF.more s20
  obtain ⟨_, s22, rfl⟩ := hall 22 _ rfl
  replace hF := hF.more s22
  obtain ⟨_, s24, rfl⟩ := hall 24 _ rfl
  replace hF := hF.more s24
  obtain ⟨_, s25, rfl⟩ := hall 25 _ rfl
  replace hF := hF.more s25
  obtain ⟨_, s26, rfl⟩ := hall 26 _ rfl
  replace hF := hF.more s26
  obtain ⟨v27, s27, p27⟩ := hall 27 _ rfl
  replace hF := hF.more s27
  clear hall
  replace hH := hH.perm (List.perm_append_singleton _ B)
  refine ls_append hF hH rfl rfl rfl rfl rfl rfl Tryz.underlying34 ti38 hS p27 (rec_one ⟨s.name, s.kind, s.cls, s.ttl, s.data.getD i []⟩) (by decide) (by omega) ?_
  intro a v5_16 w B5_16 hH hS hF
  refine wpList_nil ?_
  refine ps hF rfl rfl rfl rfl (fun w => r_assign hF rfl rfl) fun a hF => ?_
  refine t6.norm ?_
  refine k5 ?_
  refine c_reg fun ops => ?_
  refine zm 1 hF rfl fun a hF => ?_
  refine zb hF rfl rfl rfl (b_addn _ _ 1 (by omega)) fun a hF => ?_
  refine zm 1 hF rfl fun a hF => ?_
  refine wpList_nil ?_
  refine k3 ?_
  refine ⟨s.data.length - (i + 1), by omega, i + 1, _, _, rfl, by omega, hF.keep [1, 3, 4] rfl, by rw [had]; exact hH, ?_⟩
  have e : (recsOf s).take (i + 1) = (recsOf s).take i ++ [⟨s.name, s.kind, s.cls, s.ttl, s.data.getD i []⟩] := by
    rw [List.take_succ_eq_append_getElem (by simpa [recsOf] using h9), hgd]; simp [recsOf]
  rw [e, ← recsV_snoc]; exact hS
theorem sameRecs_self (l : List Rec) (v u : Value) (w0 : World) (hR : RSl w0 5 v l.length (recsV l)) (hS : RSl w0 5 u l.length (recsV l)) (hl : l.length < 1000000) :
    Rets Tryz.prog 31 [v, u] w0 fun r w' => r = .bool true ∧ Ext w0 w' :=
  (sameRecs_spec l l v u w0 hR hS hl).mono fun r w' h => ⟨by rw [h.1, decide_eq_true rfl], h.2⟩
theorem rrsetGroups_spec (l : List Rec) (v : Value) (x : RSet) (da : Value) (w0 : World) (hR : RSl w0 5 v l.length (recsV l)) (hlb : ∀ r ∈ l, r.name.length ≤ 140737488351232 ∧ r.data.length ≤ 140737488351232)
    (ha : RSl w0 1 da x.data.length (strV x.data)) (hlx : SetL x) (hG : GW w0) :
    Rets Tryz.prog 6 [v, .agg (setV x da).toArray] w0 fun r w' => r = .bool true ∧ Ext w0 w' := by
  have hH := Hp.refl w0
  obtain ⟨aad, acp, rfl⟩ := ha.shape
  refine rets_start Tryz.func6 rfl Tryz.ntmps6 rfl fun a Q0 hF hret hend => ?_
  simp only [argsFrom, Nat.zero_add, Nat.reduceAdd] at hF
  refine c_sr fun ops => ?_
  refine ls_box hF hH rfl rfl rfl rfl rfl ?_
  intro a w g0_0 hH hE hF
  refine zm 1 hF rfl fun a hF => ?_
  refine c_n ?_
  replace hF := hF.sel [0, 3]
  simp only [ss, Nat.reduceBEq] at hF
  refine c_seq fun Q1 k1 t1 => ?_
  simp only [cells_agg] at hH
  refine c_sg ?_
  refine zm 1 hF rfl fun a hF => ?_
  refine zc hF rfl rfl fn22 (long8_spec l _ _ (hR.ext hH.below) hlb) ?_
  rintro _ w ⟨⟨b, rfl, hlg⟩, hE⟩ a hF
  replace hH := hH.ext hE
  refine zm 1 hF rfl fun a hF => ?_
  refine ls_ask (d := 13) hF rfl (fun g1_2 => ?_) (fun g1_2 => ?_)
  ·
   have g1_2' := g1_2; try simp only [qq] at g1_2'
   refine zn hF rfl g1_2 fun a hF => ?_
   refine zn hF rfl g1_2 fun a hF => ?_
   refine zn hF rfl g1_2 fun a hF => ?_
   refine zl hF rfl (r_pickt hF rfl rfl g1_2 rfl) fun a hF => ?_
   refine c_n ?_
   replace hF := hF.sel [0, 3, 17]
   simp only [ss, Nat.reduceBEq] at hF
   refine c_yes hF rfl rfl ?_
   refine c_sr fun ops => ?_
   refine zc hF rfl rfl fn17 (awake8_spec _ (hG.ext hH.below)) ?_
   rintro _ w ⟨rfl, hE⟩ a hF
   replace hH := hH.ext hE
   refine zm 1 hF rfl fun a hF => ?_
   refine c_n ?_
   replace hF := hF.sel [4]
   simp only [ss, Nat.reduceBEq] at hF
   refine wp_ret (t1.ret (hret (ret1 hF Tryz.results6 rfl ?_)))
   exact ⟨rfl, hH.below⟩
  have g1_2' := g1_2; try simp only [qq] at g1_2'
  refine zy hF rfl g1_2 (r_loadagg hF rfl rfl Tryz.underlying27 ti27 rfl (own_agg (i := 0) hH rfl)) fun a hF => ?_
  refine g_on hF rfl rfl rfl g1_2 ?_
  refine ls_build1 hF hH rfl rfl rfl rfl rfl Tryz.underlying22 ti27 rfl (by decide) ?_
  intro a w g1_4 hH hE hF
  simp only [cells_agg] at hH
  have hOn := sets_one (ha.ext hH.below) (rsl_lit (n := 1) (size := 5) hH rfl (by decide))
  refine zyc hF rfl g1_2 rfl fn16 (longSets_spec [x] _ _ hOn (by intro s hs; rw [List.mem_singleton.1 hs]; exact hlx)) ?_
  rintro _ w ⟨⟨b2, rfl, hlg2⟩, hE⟩ a hF
  replace hH := hH.ext hE
  refine zl hF rfl (r_pickf hF rfl rfl g1_2 rfl) fun a hF => ?_
  refine c_n ?_
  replace hF := hF.sel [0, 3, 17]
  simp only [ss, Nat.reduceBEq] at hF
  refine c_if hF rfl (fun h17 => ?_) (fun h17 => ?_)
  ·
   try simp only [qq] at h17
   refine c_sr fun ops => ?_
   refine zc hF rfl rfl fn17 (awake8_spec _ (hG.ext hH.below)) ?_
   rintro _ w ⟨rfl, hE⟩ a hF
   replace hH := hH.ext hE
   refine zm 1 hF rfl fun a hF => ?_
   refine c_n ?_
   replace hF := hF.sel [4]
   simp only [ss, Nat.reduceBEq] at hF
   refine wp_ret (t1.ret (hret (ret1 hF Tryz.results6 rfl ?_)))
   exact ⟨rfl, hH.below⟩
  try simp only [qq] at h17
  obtain ⟨hRB, hll⟩ := hlg g1_2'
  obtain ⟨hsb2, -⟩ := hlg2 h17
  have hxd := hsb2.data x (List.mem_cons_self ..)
  have hgb := group_bounds hRB
  replace hH := hH.drop
  refine wp_skip ?_
  refine k1 ?_
  refine c_sr fun ops => ?_
  refine zm 1 hF rfl fun a hF => ?_
  refine zc hF rfl rfl fn30 (group8_spec l v _ (hR.ext hH.below) hRB.len hRB.each) ?_
  rintro v5 w ⟨B5, es5, hB, hS, hK, hg⟩ a hF
  have hs5 : SetsR w v5 (groupN l) := by rw [← hg]; exact sets_read hB hS hK (fun p hp => List.mem_append_left _ hp) (fun p hp => List.mem_append_right _ hp)
  refine zm 1 hF rfl fun a hF => ?_
  refine c_n ?_
  replace hF := hF.sel [0, 3, 5]
  simp only [ss, Nat.reduceBEq] at hF
  replace hH := hH.ext hB.below
  have hx3 := own_agg (i := 0) hH rfl
  have hH3 := hH.below
  obtain ⟨w3, hw3⟩ : ∃ w3, w3 = w := ⟨w, rfl⟩
  rw [← hw3] at hx3 hs5 hH3
  replace hH : Hp w3 w [] := by rw [hw3]; exact Hp.refl _
  clear hw3 hB hS hK hg
  refine c_sr fun ops => ?_
  refine ls_buildN (us := []) hF hH rfl rfl rfl rfl rfl rfl Tryz.underlying34 ti38 (fun _ h => (List.not_mem_nil h).elim) (by decide) ?_
  intro a w g4_0 hH hE hF
  have hX : Sl 38 5 [(g4_0, .cells #[] 38 (0, 0))] (.slice (some ⟨g4_0, 0, none⟩) 0 0) 0 [] := ⟨rfl, .inr ⟨_, 0, _, rfl, rfl, Nat.le_refl _, by unfold maxLen; omega, rfl, rfl⟩⟩
  refine zm 1 hF rfl fun a hF => ?_
  refine ls_append hF hH rfl rfl rfl rfl rfl rfl Tryz.underlying34 ti38 hX ((hR.ext hH3).ext hH.below) (recs_one l) (by decide) (by omega) ?_
  intro a v4_2 w B4_2 hH hX hF
  refine zm 1 hF rfl fun a hF => ?_
  refine c_n ?_
  replace hF := hF.sel [0, 3, 5, 6]
  simp only [ss, Nat.reduceBEq] at hF
  rw [Nat.zero_add, List.nil_append] at hX
  rw [List.append_nil] at hH
  have hin := hX.rsl hH fun p hp => hp
  obtain ⟨w4, hw4⟩ : ∃ w4, w4 = w := ⟨w, rfl⟩
  have hH4 : Ext w0 w4 := by rw [hw4]; exact hH3.trans hH.below
  replace hs5 := hs5.ext (show Ext w3 w4 by rw [hw4]; exact hH.below)
  replace hx3 : ∀ j u, (setV x (.slice aad x.data.length acp)).toArray.toList[j]? = some u → w4.cell? ⟨g0_0, 0 + j, none⟩ = some u := fun j u hu => by rw [hw4]; exact hH.cell (hx3 j u hu)
  rw [← hw4] at hin
  replace hH : Hp w4 w [] := by rw [hw4]; exact Hp.refl _
  clear hw4 hX
  refine c_seq fun Q2 k2 t2 => ?_
  refine c_sr fun ops => ?_
  refine zm 1 hF rfl fun a hF => ?_
  refine c_n ?_
  replace hF := hF.sel [0, 3, 5, 6, 7]
  simp only [ss, Nat.reduceBEq] at hF
  refine c_block fun Q3 t3 => ?_
  refine c_loop (fun n a w => ∃ r, n = 2 - r ∧ r ≤ 2 ∧ Fr 75 [(0, v), (3, ptr g0_0), (5, v5), (6, v4_2), (7, .int .i64 (r : Nat))] a ∧ Hp w4 w []) ?_ ?_
  ·
   exact ⟨_, 0, rfl, Nat.zero_le _, hF.keep [0, 3, 5, 6, 7] rfl, hH⟩
  clear hH hF
  intro n a w hI Q4 k4 t4
  obtain ⟨r, hrn, hr, hF, hH⟩ := hI
  refine c_seq fun Q5 k5 t5 => ?_
  refine c_sr fun ops => ?_
  refine zm 1 hF rfl fun a hF => ?_
  refine zb hF rfl rfl rfl (b_ltn _ _ _ 2) fun a hF => ?_
  refine c_n ?_
  refine c_fi hF rfl (fun h25 => ?_) (fun h25 => ?_)
  ·
   try simp only [qq] at h25
   refine wp_exit (t5.exit (t4.exit (t3.here (?_))))
   refine k2 ?_
   refine c_seq fun Q20 k20 t20 => ?_
   have hrl : (recsOf x).length = x.data.length := by simp [recsOf]
   refine c_flow [] [0, 1, 2, 3, 4, 5, 6, 7, 8] [] [] (by kernel_rfl) (by kernel_rfl) fun hB => ?_
   refine fl_start [67, 68, 69, 70, 71, 72, 73, 74, 4] hB (by kernel_rfl) hF ?_
   simp only [wo, hasN, Nat.reduceBEq, cond_true, cond_false] at hF ⊢
   refine fs1 rfl (by
    intro a w Lr hE hC hl
    replace hH := hH.ext hE
    have hF := hC.fr
    exact zl hF rfl (r_loadagg hF rfl rfl Tryz.underlying27 ti27 rfl (fun j u hu => hH.cell (hx3 j u hu))) fun a' hF' => wpList_nil (fl_end hC hF' (Ext.refl _) rfl)) ?_
   refine fs (fun v w' => RSl w' 5 v (recsOf x).length (recsV (recsOf x))) rfl (fun _ _ _ he h => h.ext he) ?_ ?_
   ·
    intro a w Lr hE hC hl
    replace hH := hH.ext hE
    obtain ⟨_, s67, rfl⟩ := hl 67 (by decide) _ rfl
    replace hC := hC.more s67
    have hF := hC.fr
    refine zc hF rfl rfl fn32 (records_spec x _ _ (ha.ext (hH4.trans hH.below)) hxd) ?_
    rintro v68 w' ⟨B, hB, hS⟩ a' hF'; have hE' := hB.below
    exact wpList_nil (fl_end hC hF' hE' (by rw [hrl]; exact hS.rsl hB fun p hp => hp))
   refine fs1 rfl (by
    intro a w Lr hE hC hl
    replace hH := hH.ext hE
    have hF := hC.fr
    exact zl hF rfl (r_loadagg hF rfl rfl Tryz.underlying27 ti27 rfl (fun j u hu => hH.cell (hx3 j u hu))) fun a' hF' => wpList_nil (fl_end hC hF' (Ext.refl _) rfl)) ?_
   refine fs (fun v w' => RSl w' 5 v (recsOf x).length (recsV (recsOf x))) rfl (fun _ _ _ he h => h.ext he) ?_ ?_
   ·
    intro a w Lr hE hC hl
    replace hH := hH.ext hE
    obtain ⟨_, s69, rfl⟩ := hl 69 (by decide) _ rfl
    replace hC := hC.more s69
    have hF := hC.fr
    refine zc hF rfl rfl fn33 (recs8_spec x _ _ (ha.ext (hH4.trans hH.below)) hxd) ?_
    rintro v70 w' ⟨B, hB, hS⟩ a' hF'; have hE' := hB.below
    exact wpList_nil (fl_end hC hF' hE' (by rw [hrl]; exact hS.rsl hB fun p hp => hp))
   refine fs1 rfl (by
    intro a w Lr hE hC hl
    replace hH := hH.ext hE
    obtain ⟨v68, s68, p68⟩ := hl 68 (by decide) _ rfl
    replace hC := hC.more s68
    obtain ⟨v70, s70, p70⟩ := hl 70 (by decide) _ rfl
    replace hC := hC.more s70
    have hF := hC.fr
    refine zc hF rfl rfl fn31 (sameRecs_self (recsOf x) _ _ _ p68 p70 (by omega)) ?_
    rintro _ w' ⟨rfl, hE'⟩ a' hF'
    exact wpList_nil (fl_end hC hF' hE' rfl)) ?_
   refine fs1 rfl (by
    intro a w Lr hE hC hl
    replace hH := hH.ext hE
    obtain ⟨_, s71, rfl⟩ := hl 71 (by decide) _ rfl
    replace hC := hC.more s71
    have hF := hC.fr
    exact zl hF rfl (r_move hF rfl rfl) fun a' hF' => wpList_nil (fl_end hC hF' (Ext.refl _) rfl)) ?_
   refine fs1 rfl (by
    intro a w Lr hE hC hl
    replace hH := hH.ext hE
    obtain ⟨_, s72, rfl⟩ := hl 72 (by decide) _ rfl
    replace hC := hC.more s72
    have hF := hC.fr
    refine zyc hF rfl rfl rfl fn17 (awake8_spec _ (hG.ext (hH4.trans hH.below))) ?_
    rintro _ w' ⟨rfl, hE'⟩ a' hF'
    exact wpList_nil (fl_end hC hF' hE' rfl)) ?_
   refine fs1 rfl (by
    intro a w Lr hE hC hl
    replace hH := hH.ext hE
    obtain ⟨_, s72, rfl⟩ := hl 72 (by decide) _ rfl
    replace hC := hC.more s72
    obtain ⟨_, s73, rfl⟩ := hl 73 (by decide) _ rfl
    replace hC := hC.more s73
    have hF := hC.fr
    exact zl hF rfl (r_pickt hF rfl rfl rfl rfl) fun a' hF' => wpList_nil (fl_end hC hF' (Ext.refl _) rfl)) ?_
   refine fs1 rfl (by
    intro a w Lr hE hC hl
    replace hH := hH.ext hE
    obtain ⟨_, s74, rfl⟩ := hl 74 (by decide) _ rfl
    replace hC := hC.more s74
    have hF := hC.fr
    exact zl hF rfl (r_assign hF rfl rfl) fun a' hF' => wpList_nil (fl_end hC hF' (Ext.refl _) rfl)) ?_
   intro a w hE hF hall
   replace hH := hH.ext hE
   obtain ⟨_, s4, rfl⟩ := hall 4 _ rfl
   replace hF := hF.more s4
   clear hall
   refine wpList_nil ?_
   replace hF := hF.sel [4]
   simp only [ss, Nat.reduceBEq] at hF
   refine k20 ?_
   refine wp_ret (hret (ret1 hF Tryz.results6 rfl ?_))
   exact ⟨rfl, hH4.trans hH.below⟩
  try simp only [qq] at h25
  refine wp_skip ?_
  refine k5 ?_
  refine c_seq fun Q6 k6 t6 => ?_
  refine c_block fun Q7 t7 => ?_
  refine c_sr fun ops => ?_
  refine zm 1 hF rfl fun a hF => ?_
  refine zc hF rfl rfl fn26 (group_spec l _ _ (hin.ext hH.below) hRB.len hRB.each (hG.ext (hH4.trans hH.below))) ?_
  rintro v8 w ⟨B, es, hB, hS, hK, hg⟩ a hF
  replace hH := hH.join hB
  refine zm 1 hF rfl fun a hF => ?_
  refine c_n ?_
  rw [List.append_nil] at hH
  have hs8 : SetsR w v8 (groupN l) := by rw [← hg]; exact sets_read hH hS hK (fun p hp => List.mem_append_left _ hp) (fun p hp => List.mem_append_right _ hp)
  have hel : es.length = (groupN l).length := by rw [← hg, List.length_map]
  have hgl := hgb.len
  have hed : ∀ e ∈ es, e.1.data.length < 1000000 := fun e he => hgb.data _ (by rw [← hg]; exact List.mem_map_of_mem he)
  obtain ⟨ad, cap, rfl⟩ := hS.shape
  refine c_seq fun Q8 k8 t8 => ?_
  refine c_sg ?_
  refine zm 2 hF rfl fun a hF => ?_
  refine zc hF rfl rfl fn25 (sameAll_spec (groupN l) (groupN l) _ _ _ hs8 (hs5.ext hH.below) hgb.len hgb.len hgb.data hgb.data) ?_
  rintro _ w ⟨rfl, hE⟩ a hF
  replace hH := hH.ext hE
  refine zl hF rfl (r_not hF rfl rfl) fun a hF => ?_
  refine zm 1 hF rfl fun a hF => ?_
  refine ls_ask (d := 34) hF rfl (fun g9_4 => ?_) (fun g9_4 => ?_)
  ·
   have g9_4' := g9_4; try simp only [qq] at g9_4'
   simp at g9_4
  have g9_4' := g9_4; try simp only [qq] at g9_4'
  refine zy hF rfl g9_4 (r_move hF rfl rfl) fun a hF => ?_
  refine zy hF rfl g9_4 (r_move hF rfl rfl) fun a hF => ?_
  refine zyc hF rfl g9_4 rfl fn31 (sameRecs_spec l l _ _ _ (hin.ext hH.below) (hR.ext (hH4.trans hH.below)) (by omega)) ?_
  rintro _ w ⟨rfl, hE⟩ a hF
  replace hH := hH.ext hE
  refine zy hF rfl g9_4 (r_not hF rfl rfl) fun a hF => ?_
  refine zl hF rfl (r_pickf hF rfl rfl g9_4 rfl) fun a hF => ?_
  refine c_n ?_
  refine c_if hF rfl (fun h39 => ?_) (fun h39 => ?_)
  ·
   try simp only [qq] at h39
   simp at h39
  try simp only [qq] at h39
  refine wp_skip ?_
  refine k8 ?_
  refine c_sr fun ops => ?_
  refine zm 1 hF rfl fun a hF => ?_
  refine c_n ?_
  refine c_block fun Q9 t9 => ?_
  refine c_loop (fun n a w => ∃ i B es2, n = es.length - i ∧ i ≤ es.length ∧ es2.length = es.length ∧ (∀ e ∈ es2, e.1.data.length < 1000000) ∧ Fr 75 [(0, v), (3, ptr g0_0), (5, v5), (6, v4_2), (7, .int .i64 (r : Nat)), (8, .slice ad es.length cap), (9, .int .i64 (i : Nat))] a ∧ Hp w4 w (B ++ entB es2) ∧ Sl 27 5 B (.slice ad es.length cap) es.length (entV es2) ∧ EntOk es2) ?_ ?_
  ·
   exact ⟨_, 0, B, es, rfl, Nat.zero_le _, rfl, hed, hF.keep [0, 3, 5, 6, 7, 8, 9] rfl, hH, hS, hK⟩
  clear hH hF hS hK hs8
  intro n a w hI Q10 k10 t10
  obtain ⟨i, B, es2, hm, hi, hel2, hed2, hF, hH, hS, hK⟩ := hI
  refine c_seq fun Q11 k11 t11 => ?_
  refine c_sr fun ops => ?_
  refine zm 2 hF rfl fun a hF => ?_
  refine zl hF rfl (r_len_sl hF rfl rfl Tryz.underlying22) fun a hF => ?_
  refine zb hF rfl rfl rfl (b_ltn _ _ _ _) fun a hF => ?_
  refine c_n ?_
  refine c_fi hF rfl (fun h43 => ?_) (fun h43 => ?_)
  ·
   try simp only [qq] at h43
   refine wp_exit (t11.exit (t10.exit (t9.here (?_))))
   refine t7.norm ?_
   refine k6 ?_
   refine c_reg fun ops => ?_
   refine zm 1 hF rfl fun a hF => ?_
   refine zb hF rfl rfl rfl (b_addn _ _ 1 (by omega)) fun a hF => ?_
   refine zm 1 hF rfl fun a hF => ?_
   refine wpList_nil ?_
   refine k4 ?_
   exact ⟨2 - (r + 1), by omega, r + 1, rfl, by omega, hF.keep [0, 3, 5, 6, 7] rfl, hH.sub (List.nil_sublist _)⟩
  try simp only [qq] at h43
  obtain ⟨g, cp, cur, hv, rfl, hcp, hcm, hcs, hct⟩ := hS.open (by omega)
  cases hv
  refine wp_skip ?_
  refine k11 ?_
  refine c_seq fun Q12 k12 t12 => ?_
  refine c_block fun Q13 t13 => ?_
  refine c_seq fun Q14 k14 t14 => ?_
  refine c_sr fun ops => ?_
  refine zm 1 hF rfl fun a hF => ?_
  refine c_n ?_
  refine c_block fun Q15 t15 => ?_
  refine c_loop (fun n a w => ∃ k es3, n = es2[i].1.data.length - k ∧ k ≤ es2[i].1.data.length ∧ ∃ he3 : es3.length = es.length, es3[i].1.data.length = es2[i].1.data.length ∧ (∀ e ∈ es3, e.1.data.length < 1000000) ∧ Fr 75 [(0, v), (3, ptr g0_0), (5, v5), (6, v4_2), (7, .int .i64 (r : Nat)), (8, .slice (some ⟨g, 0, none⟩) es.length cap), (9, .int .i64 (i : Nat)), (10, .int .i64 (k : Nat))] a ∧ Hp w4 w ((g, .cells cur 27 (0, 0)) :: (entB es3 ++ [])) ∧ cur.toList.take (es.length * 5) = entV es3 ∧ EntOk es3) ?_ ?_
  ·
   exact ⟨_, 0, es2, rfl, Nat.zero_le _, hel2, rfl, hed2, hF.keep [0, 3, 5, 6, 7, 8, 9, 10] rfl, by rw [List.append_nil]; exact hH, hct, hK⟩
  clear hH hF hK hct hS
  intro n a w hI Q16 k16 t16
  obtain ⟨k, es3, hm2, hk, he3, hdl, hed3, hF, hH, hct, hK⟩ := hI
  have hi3 : i < es3.length := by omega
  have hSk := hK _ (List.getElem_mem hi3)
  have hxb := hed3 _ (List.getElem_mem hi3)
  obtain ⟨dad, dcap, hdv⟩ := hSk.shape
  refine c_seq fun Q17 k17 t17 => ?_
  refine c_sr fun ops => ?_
  refine zm 3 hF rfl fun a hF => ?_
  refine zl hF rfl (r_ixown hF _ rfl rfl rfl Tryz.underlying22 ti27 (by omega)) fun a hF => ?_
  refine zl hF rfl (r_fieldaddr hF rfl rfl fd27_4) fun a hF => ?_
  refine zl hF rfl (r_load hF rfl rfl fl25 ((own_cell (i := 0) hH rfl (take_get hct (entV_get hi3 4 (.slice dad es3[i].1.data.length dcap) (by rw [← hdv]; rfl)))))) fun a hF => ?_
  refine zl hF rfl (r_len_sl hF rfl rfl Tryz.underlying25) fun a hF => ?_
  refine zb hF rfl rfl rfl (b_ltn _ _ _ _) fun a hF => ?_
  refine c_n ?_
  refine c_fi hF rfl (fun h53 => ?_) (fun h53 => ?_)
  ·
   try simp only [qq] at h53
   refine wp_exit (t17.exit (t16.exit (t15.here (?_))))
   refine k14 ?_
   refine c_reg fun ops => ?_
   refine zm 2 hF rfl fun a hF => ?_
   refine zl hF rfl (r_ixown hF _ rfl rfl rfl Tryz.underlying22 ti27 (by omega)) fun a hF => ?_
   refine zl hF rfl (r_fieldaddr hF rfl rfl fd27_0) fun a hF => ?_
   refine ls_store 0 hF hH rfl rfl rfl rfl rfl fl9 ti9 rfl (by omega) (by simp [noFreeze]) (rfl) ?_
   intro w hH
   simp only [List.set_cons_zero] at hH
   rw [List.append_nil] at hH
   refine wpList_nil ?_
   refine t13.norm ?_
   refine k12 ?_
   refine c_reg fun ops => ?_
   refine zm 1 hF rfl fun a hF => ?_
   refine zb hF rfl rfl rfl (b_addn _ _ 1 (by omega)) fun a hF => ?_
   refine zm 1 hF rfl fun a hF => ?_
   refine wpList_nil ?_
   refine k10 ?_
   have hSn := Sl.set (e := 27) (g := g) (i * 5 + 0) (.string (mk [115, 112, 111, 105, 108, 116])) (show (entV es3).length = es.length * 5 by rw [entV_length, he3]) hcp hcm hcs hct
   generalize hx : ((⟨[115, 112, 111, 105, 108, 116], es3[i].1.kind, es3[i].1.cls, es3[i].1.ttl, es3[i].1.data⟩, es3[i].2.1, es3[i].2.2) : Ent) = y
   have hxl : y.1.data.length = es3[i].1.data.length := by rw [← hx]
   rw [entV_set hi3 (show 0 < 5 by decide) y _ (by rw [← hx]; rfl)] at hSn
   refine ⟨es.length - (i + 1), by omega, i + 1, _, es3.set i y, rfl, by omega, by simpa using he3, fun e he => by rcases List.mem_or_eq_of_mem_set he with he | rfl; exact hed3 e he; omega, hF.keep [0, 3, 5, 6, 7, 8, 9] rfl, ?_, hSn, hK.set (x := y) (by rw [← hx]; exact hSk) i⟩
   rw [entB_same hi3 y (by rw [← hx])]
   exact hH
  try simp only [qq] at h53
  rw [hdv] at hSk
  obtain ⟨gd, cpd, curd, hv, hBd, hcpd, hcmd, hcsd, hctd⟩ := hSk.open (by omega)
  cases hv
  rw [hBd] at hSk
  refine wp_skip ?_
  refine k17 ?_
  refine c_seq fun Q18 k18 t18 => ?_
  refine c_block fun Q19 t19 => ?_
  refine c_reg fun ops => ?_
  refine zm 2 hF rfl fun a hF => ?_
  refine zl hF rfl (r_ixown hF _ rfl rfl rfl Tryz.underlying22 ti27 (by omega)) fun a hF => ?_
  refine zl hF rfl (r_fieldaddr hF rfl rfl fd27_4) fun a hF => ?_
  refine zl hF rfl (r_load hF rfl rfl fl25 ((own_cell (i := 0) hH rfl (take_get hct (entV_get hi3 4 _ (by rw [hdv]; rfl)))))) fun a hF => ?_
  refine zm 1 hF rfl fun a hF => ?_
  refine zl hF rfl (r_ixown1 hF _ rfl rfl rfl Tryz.underlying25 ti9 (by omega)) fun a hF => ?_
  replace hH := hH.perm (pm_j (y := (g, .cells cur 27 (0, 0))) (H := []) hi3 hBd)
  refine ls_store 0 hF hH rfl rfl rfl rfl rfl fl9 ti9 rfl (by omega) (by simp [noFreeze]) (rfl) ?_
  intro w hH
  simp only [List.set_cons_zero] at hH
  refine wpList_nil ?_
  have hSn := sl_set hSk k [115, 112, 111, 105, 108, 116]
  generalize hx : ((⟨es3[i].1.name, es3[i].1.kind, es3[i].1.cls, es3[i].1.ttl, es3[i].1.data.set k [115, 112, 111, 105, 108, 116]⟩, .slice (some ⟨gd, 0, none⟩) es3[i].1.data.length dcap, [(gd, .cells (curd.setIfInBounds k (.string (mk [115, 112, 111, 105, 108, 116]))) 9 (0, 0))]) : Ent) = y
  have hxl : y.1.data.length = es3[i].1.data.length := by rw [← hx]; simp
  have hHn : Hp w4 w ((g, .cells cur 27 (0, 0)) :: (entB (es3.set i y) ++ [])) := hH.perm (pm_k (y := (g, .cells cur 27 (0, 0))) (H := []) hi3 (by rw [← hx]; rfl))
  have hctn : cur.toList.take (es.length * 5) = entV (es3.set i y) := by
    rw [hct]
    have := entV_set hi3 (show 4 < 5 by decide) y es3[i].2.1 (by rw [← hx]; simp [setV, hdv])
    rw [← this]
    refine (list_set_self ?_).symm
    exact entV_get hi3 4 _ rfl
  have hKn : EntOk (es3.set i y) := hK.set (x := y) (by rw [← hx]; simpa using hSn) i
  refine t19.norm ?_
  refine k18 ?_
  refine c_reg fun ops => ?_
  refine zm 1 hF rfl fun a hF => ?_
  refine zb hF rfl rfl rfl (b_addn _ _ 1 (by omega)) fun a hF => ?_
  refine zm 1 hF rfl fun a hF => ?_
  refine wpList_nil ?_
  refine k16 ?_
  exact ⟨es2[i].1.data.length - (k + 1), by omega, k + 1, es3.set i y, rfl, by omega, by simpa using he3, by simp [hxl, hdl], fun e he => by rcases List.mem_or_eq_of_mem_set he with he | rfl; exact hed3 e he; omega, hF.keep [0, 3, 5, 6, 7, 8, 9, 10] rfl, hHn, hctn, hKn⟩
end Go.Proofs.YtcelgjabccgnmaaGreatDoor
