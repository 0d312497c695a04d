/-
  The walk of ChainMore. Nothing is claimed here.
-/
import Derived.Test.YtcelgjabccgnmaaGreatDoorLaw9e
namespace Go.Proofs.YtcelgjabccgnmaaGreatDoor
open Go.RowKit
set_option linter.unusedVariables false
set_option linter.unusedSimpArgs false
set_option maxHeartbeats 1000000

theorem chainMore_spec (nm : Bs) (kind cls : Nat) (l l2 : List Rec) (v1 v2 : Value) (w0 : World) (hR1 : RSl w0 5 v1 l.length (recsV l)) (hR2 : RSl w0 5 v2 l2.length (recsV l2)) (hG : GW w0) :
    Rets Tryz.prog 7 [.agg (queV nm kind cls).toArray, v1, v2] w0 fun r w' => r = .bool true ∧ Ext w0 w' := by
  have hH := Hp.refl w0
  obtain ⟨xad, xcp, rfl⟩ := hR2.shape
  refine rets_start Tryz.func7 rfl Tryz.ntmps7 rfl fun a Q0 hF hret hend => ?_
  simp only [argsFrom, Nat.zero_add, Nat.reduceAdd] at hF
  refine c_sr fun ops => ?_
  refine ls_box hF hH rfl rfl rfl rfl rfl ?_
  intro a w g0_0 hH hE hF
  refine zm 1 hF rfl fun a hF => ?_
  refine c_n ?_
  replace hF := hF.sel [1, 2, 3]
  simp only [ss, Nat.reduceBEq] at hF
  refine c_seq fun Q1 k1 t1 => ?_
  simp only [cells_agg] at hH
  refine c_sg ?_
  refine zm 1 hF rfl fun a hF => ?_
  refine zc hF rfl rfl fn34 (large9L_spec l v1 _ (hR1.ext hH.below)) ?_
  rintro _ w ⟨⟨b1, rfl, hlg1⟩, hE⟩ a hF
  replace hH := hH.ext hE
  refine zm 1 hF rfl fun a hF => ?_
  refine ls_ask (d := 23) hF rfl (fun g1_2 => ?_) (fun g1_2 => ?_)
  ·
   have g1_2' := g1_2; try simp only [qq] at g1_2'
   refine zn hF rfl g1_2 fun a hF => ?_
   refine zn hF rfl g1_2 fun a hF => ?_
   refine zl hF rfl (r_pickt hF rfl rfl g1_2 rfl) fun a hF => ?_
   refine zm 1 hF rfl fun a hF => ?_
   refine zn hF rfl rfl fun a hF => ?_
   refine zn hF rfl rfl fun a hF => ?_
   refine zn hF rfl rfl fun a hF => ?_
   refine zn hF rfl rfl fun a hF => ?_
   refine zl hF rfl (r_pickt hF rfl rfl rfl rfl) fun a hF => ?_
   refine zm 1 hF rfl fun a hF => ?_
   refine zn hF rfl rfl fun a hF => ?_
   refine zn hF rfl rfl fun a hF => ?_
   refine zl hF rfl (r_pickt hF rfl rfl rfl rfl) fun a hF => ?_
   refine c_n ?_
   replace hF := hF.sel [1, 2, 3, 36]
   simp only [ss, Nat.reduceBEq] at hF
   refine c_yes hF rfl rfl ?_
   refine c_sr fun ops => ?_
   refine zc hF rfl rfl fn35 (awake9_spec _ (hG.ext hH.below)) ?_
   rintro _ w ⟨rfl, hE⟩ a hF
   replace hH := hH.ext hE
   refine zm 1 hF rfl fun a hF => ?_
   refine c_n ?_
   replace hF := hF.sel [6]
   simp only [ss, Nat.reduceBEq] at hF
   refine wp_ret (t1.ret (hret (ret1 hF Tryz.results7 rfl ?_)))
   exact ⟨rfl, hH.below⟩
  have g1_2' := g1_2; try simp only [qq] at g1_2'
  refine zy hF rfl g1_2 (r_move hF rfl rfl) fun a hF => ?_
  refine zyc hF rfl g1_2 rfl fn34 (large9L_spec l2 _ _ (hR2.ext hH.below)) ?_
  rintro _ w ⟨⟨b2, rfl, hlg2⟩, hE⟩ a hF
  replace hH := hH.ext hE
  refine zl hF rfl (r_pickf hF rfl rfl g1_2 rfl) fun a hF => ?_
  refine zm 1 hF rfl fun a hF => ?_
  refine ls_ask (d := 27) hF rfl (fun g1_6 => ?_) (fun g1_6 => ?_)
  ·
   have g1_6' := g1_6; try simp only [qq] at g1_6'
   refine zn hF rfl g1_6 fun a hF => ?_
   refine zn hF rfl g1_6 fun a hF => ?_
   refine zn hF rfl g1_6 fun a hF => ?_
   refine zn hF rfl g1_6 fun a hF => ?_
   refine zl hF rfl (r_pickt hF rfl rfl g1_6 rfl) fun a hF => ?_
   refine zm 1 hF rfl fun a hF => ?_
   refine zn hF rfl rfl fun a hF => ?_
   refine zn hF rfl rfl fun a hF => ?_
   refine zl hF rfl (r_pickt hF rfl rfl rfl rfl) fun a hF => ?_
   refine c_n ?_
   replace hF := hF.sel [1, 2, 3, 36]
   simp only [ss, Nat.reduceBEq] at hF
   refine c_yes hF rfl rfl ?_
   refine c_sr fun ops => ?_
   refine zc hF rfl rfl fn35 (awake9_spec _ (hG.ext hH.below)) ?_
   rintro _ w ⟨rfl, hE⟩ a hF
   replace hH := hH.ext hE
   refine zm 1 hF rfl fun a hF => ?_
   refine c_n ?_
   replace hF := hF.sel [6]
   simp only [ss, Nat.reduceBEq] at hF
   refine wp_ret (t1.ret (hret (ret1 hF Tryz.results7 rfl ?_)))
   exact ⟨rfl, hH.below⟩
  have g1_6' := g1_6; try simp only [qq] at g1_6'
  refine zy hF rfl g1_6 (r_fieldaddr0 hF rfl rfl fd49_0) fun a hF => ?_
  refine zy hF rfl g1_6 (r_load hF rfl rfl fl9 (own_cell (i := 0) hH rfl rfl)) fun a hF => ?_
  refine zy hF rfl g1_6 (r_len_str hF rfl rfl Tryz.underlying9) fun a hF => ?_
  refine zy hF rfl g1_6 (zr hF rfl rfl (b_gtn _ _ _ 1000)) fun a hF => ?_
  refine zl hF rfl (r_pickf hF rfl rfl g1_6 rfl) fun a hF => ?_
  refine zm 1 hF rfl fun a hF => ?_
  refine ls_ask (d := 33) hF rfl (fun g1_12 => ?_) (fun g1_12 => ?_)
  ·
   have g1_12' := g1_12; try simp only [qq] at g1_12'
   refine zn hF rfl g1_12 fun a hF => ?_
   refine zn hF rfl g1_12 fun a hF => ?_
   refine zl hF rfl (r_pickt hF rfl rfl g1_12 rfl) fun a hF => ?_
   refine c_n ?_
   replace hF := hF.sel [1, 2, 3, 36]
   simp only [ss, Nat.reduceBEq] at hF
   refine c_yes hF rfl rfl ?_
   refine c_sr fun ops => ?_
   refine zc hF rfl rfl fn35 (awake9_spec _ (hG.ext hH.below)) ?_
   rintro _ w ⟨rfl, hE⟩ a hF
   replace hH := hH.ext hE
   refine zm 1 hF rfl fun a hF => ?_
   refine c_n ?_
   replace hF := hF.sel [6]
   simp only [ss, Nat.reduceBEq] at hF
   refine wp_ret (t1.ret (hret (ret1 hF Tryz.results7 rfl ?_)))
   exact ⟨rfl, hH.below⟩
  have g1_12' := g1_12; try simp only [qq] at g1_12'
  refine zyc hF rfl g1_12 rfl fn35 (awake9_spec _ (hG.ext hH.below)) ?_
  rintro _ w ⟨rfl, hE⟩ a hF
  replace hH := hH.ext hE
  refine zy hF rfl g1_12 (r_not hF rfl rfl) fun a hF => ?_
  refine zl hF rfl (r_pickf hF rfl rfl g1_12 rfl) fun a hF => ?_
  refine c_n ?_
  replace hF := hF.sel [1, 2, 3, 36]
  simp only [ss, Nat.reduceBEq] at hF
  refine c_if hF rfl (fun h36 => ?_) (fun h36 => ?_)
  ·
   try simp only [qq] at h36
   refine c_sr fun ops => ?_
   refine zc hF rfl rfl fn35 (awake9_spec _ (hG.ext hH.below)) ?_
   rintro _ w ⟨rfl, hE⟩ a hF
   replace hH := hH.ext hE
   refine zm 1 hF rfl fun a hF => ?_
   refine c_n ?_
   replace hF := hF.sel [6]
   simp only [ss, Nat.reduceBEq] at hF
   refine wp_ret (t1.ret (hret (ret1 hF Tryz.results7 rfl ?_)))
   exact ⟨rfl, hH.below⟩
  try simp only [qq] at h36
  obtain ⟨hRB, hl1⟩ := hlg1 g1_2'
  obtain ⟨hRX, hl2⟩ := hlg2 g1_6'
  have hnl : nm.length ≤ 1000 := by omega
  have hgb := group_bounds hRB
  obtain ⟨hcb, heb⟩ := chain_bounds (nm := nm) (kind := kind) (cls := cls) hgb
  refine wp_skip ?_
  refine k1 ?_
  refine c_seq fun Q2 k2 t2 => ?_
  refine c_flow [1] [0, 2] [3] [4, 5, 6, 7, 8, 9, 10, 11, 12] (by kernel_rfl) (by kernel_rfl) fun hB => ?_
  refine ps hF rfl rfl rfl rfl (fun w => r_move hF rfl rfl) fun a hF => ?_
  refine fl_start [39, 41] hB (by kernel_rfl) hF ?_
  simp only [wo, hasN, Nat.reduceBEq, cond_true, cond_false] at hF ⊢
  refine fs1 rfl (by
   intro a w Lr hE hC hl
   replace hH := hH.ext hE
   have hF := hC.fr
   exact zl hF rfl (r_loadagg hF rfl rfl Tryz.underlying49 ti49 rfl (own_agg (i := 0) hH rfl)) fun a' hF' => wpList_nil (fl_end hC hF' (Ext.refl _) rfl)) ?_
  refine fs (fun v w' => SetsR w' v (groupN l)) rfl (fun _ _ _ he h => h.ext he) ?_ ?_
  ·
   intro a w Lr hE hC hl
   replace hH := hH.ext hE
   have hF := hC.fr
   refine zc hF rfl rfl fn26 (groupR_spec l v1 _ (hR1.ext hH.below) hRB (hG.ext hH.below)) ?_
   rintro v41 w' ⟨hs, hE'⟩ a' hF'
   exact wpList_nil (fl_end hC hF' hE' (hs))
  intro a w hE hF hall
  replace hH := hH.ext hE
  obtain ⟨_, s39, rfl⟩ := hall 39 _ rfl
  replace hF := hF.more s39
  obtain ⟨v41, s41, p41⟩ := hall 41 _ rfl
  replace hF := hF.more s41
  clear hall
  refine zc hF rfl rfl fn36 (followR_spec nm kind cls (groupN l) v41 _ p41 hgb (by omega) (hG.ext hH.below)) ?_
  rintro _ w ⟨⟨cv, ev, rfl, hc, he⟩, hE⟩ a hF
  replace hH := hH.ext hE
  refine wpList_nil ?_
  refine ps hF rfl rfl rfl rfl (fun w => r_move hF rfl rfl) fun a hF => ?_
  refine ps hF rfl rfl rfl rfl (fun w => r_extract hF rfl rfl rfl) fun a hF => ?_
  refine ps hF rfl rfl rfl rfl (fun w => r_extract hF rfl rfl rfl) fun a hF => ?_
  refine ps hF rfl rfl rfl rfl (fun w => r_extract hF rfl rfl rfl) fun a hF => ?_
  refine ps hF rfl rfl rfl rfl (fun w => r_extract hF rfl rfl rfl) fun a hF => ?_
  refine ps hF rfl rfl rfl rfl (fun w => r_assign hF rfl rfl) fun a hF => ?_
  refine ps hF rfl rfl rfl rfl (fun w => r_assign hF rfl rfl) fun a hF => ?_
  refine ps hF rfl rfl rfl rfl (fun w => r_assign hF rfl rfl) fun a hF => ?_
  refine ps hF rfl rfl rfl rfl (fun w => r_assign hF rfl rfl) fun a hF => ?_
  replace hF := hF.sel [1, 2, 3, 7, 8, 9, 10]
  simp only [ss, Nat.reduceBEq] at hF
  obtain ⟨cad, ccp, rfl⟩ := hc.shape'
  obtain ⟨ead, ecp, rfl⟩ := he.shape'
  refine k2 ?_
  refine c_seq fun Q3 k3 t3 => ?_
  refine c_sr fun ops => ?_
  refine zm 1 hF rfl fun a hF => ?_
  refine zb hF rfl rfl rfl (b_nen _ _ _ 0) fun a hF => ?_
  refine c_n ?_
  replace hF := hF.sel [1, 2, 3, 7, 8, 9, 48]
  simp only [ss, Nat.reduceBEq] at hF
  refine c_if hF rfl (fun h48 => ?_) (fun h48 => ?_)
  ·
   try simp only [qq] at h48
   refine c_sr fun ops => ?_
   refine zm 1 hF rfl fun a hF => ?_
   refine c_n ?_
   replace hF := hF.sel [6]
   simp only [ss, Nat.reduceBEq] at hF
   refine wp_ret (t3.ret (hret (ret1 hF Tryz.results7 rfl ?_)))
   exact ⟨rfl, hH.below⟩
  try simp only [qq] at h48
  have hat := chain_at_le nm kind cls (groupN l)
  have hcl8 := (followC_mem nm kind cls (groupN l)).1
  have hx0 : ∀ (X : List Rec), (∀ r ∈ X, (∀ m ∈ (followC nm kind cls (groupN l)).2.2 :: (followC nm kind cls (groupN l)).2.1.map (·.name), sameB m r.name = false) ∨ r.cls ≠ cls) → _ := fun X hX => chain_more (l := l) h48 hX
  generalize hch : (followC nm kind cls (groupN l)).2.1 = ch at *
  generalize hq2 : (followC nm kind cls (groupN l)).2.2 = q at *
  have hcl := hcb.len
  obtain ⟨w4, hw4⟩ : ∃ w4, w4 = w := ⟨w, rfl⟩
  rw [← hw4] at hc he
  have hH4 : Hp w0 w4 [(g0_0, .cells (queV nm kind cls).toArray 49 (0, 0))] := by rw [hw4]; exact hH
  have hq := own_agg (i := 0) hH4 rfl
  replace hH : Hp w4 w [] := by rw [hw4]; exact Hp.refl _
  clear hw4
  refine wp_skip ?_
  refine k3 ?_
  refine c_sr fun ops => ?_
  refine zm 1 hF rfl fun a hF => ?_
  refine ls_build1 hF hH rfl rfl rfl rfl rfl Tryz.underlying25 ti9 rfl (by decide) ?_
  intro a w g6_1 hH hE hF
  refine zm 1 hF rfl fun a hF => ?_
  refine c_n ?_
  replace hF := hF.sel [1, 2, 3, 7, 8, 9, 11]
  simp only [ss, Nat.reduceBEq] at hF
  have hM : Sl 9 1 [(g6_1, .cells (Value.string (mk q)).cells 9 (0, 0))] (.slice (some ⟨g6_1, 0, none⟩) 1 1) 1 (strV [q]) := ⟨rfl, .inr ⟨_, 1, _, rfl, rfl, Nat.le_refl _, by unfold maxLen; omega, rfl, rfl⟩⟩
  refine c_seq fun Q4 k4 t4 => ?_
  refine c_sr fun ops => ?_
  refine zm 1 hF rfl fun a hF => ?_
  refine c_n ?_
  replace hF := hF.sel [1, 2, 3, 7, 8, 9, 11, 12]
  simp only [ss, Nat.reduceBEq] at hF
  refine c_block fun Q5 t5 => ?_
  refine c_loop (fun n a w => ∃ i B mv, n = ch.length - i ∧ i ≤ ch.length ∧ Fr 138 [(1, v1), (2, .slice xad l2.length xcp), (3, ptr g0_0), (7, .slice cad ch.length ccp), (8, .string (mk q)), (9, .slice ead (endsOf (followC nm kind cls (groupN l)) kind cls (groupN l)).length ecp), (11, mv), (12, .int .i64 (i : Nat))] a ∧ Hp w4 w B ∧ Sl 9 1 B mv (i + 1) (strV (q :: (ch.take i).map (·.name)))) ?_ ?_
  ·
   exact ⟨_, 0, _, _, rfl, Nat.zero_le _, hF.keep [1, 2, 3, 7, 8, 9, 11, 12] rfl, hH, hM⟩
  clear hH hF hM
  intro n a w hI Q6 k6 t6
  obtain ⟨i, B, mv, hm, hi, hF, hH, hM⟩ := hI
  obtain ⟨mad, mcp, rfl⟩ := hM.shape
  refine c_seq fun Q7 k7 t7 => ?_
  refine c_sr fun ops => ?_
  refine zm 2 hF rfl fun a hF => ?_
  refine zl hF rfl (r_len_sl hF rfl rfl Tryz.underlying22) fun a hF => ?_
  refine zb hF rfl rfl rfl (b_ltn _ _ _ _) fun a hF => ?_
  refine c_n ?_
  refine c_if hF rfl (fun h54 => ?_) (fun h54 => ?_)
  ·
   try simp only [qq] at h54
   obtain ⟨b1, off1, dv1, rfl, hset1, hdv1⟩ := hc.at h54
   refine wp_skip ?_
   refine k7 ?_
   refine c_seq fun Q8 k8 t8 => ?_
   refine c_block fun Q9 t9 => ?_
   refine c_reg fun ops => ?_
   refine zm 3 hF rfl fun a hF => ?_
   refine zl hF rfl (r_indexaddr hF _ rfl rfl rfl Tryz.underlying22 ti27 (by omega)) fun a hF => ?_
   refine zl hF rfl (r_fieldaddr hF rfl rfl fd27_0) fun a hF => ?_
   refine zl hF rfl (r_load hF rfl rfl fl9 (hH.cell (hset1 0 _ rfl))) fun a hF => ?_
   refine ls_build1 hF hH rfl rfl rfl rfl rfl Tryz.underlying25 ti9 rfl (by decide) ?_
   intro a w g10_6 hH hE hF
   have hR := rsl_lit (n := 1) (size := 1) hH rfl (by decide)
   replace hH := hH.drop
   refine ls_append0 hF hH rfl rfl rfl rfl rfl rfl Tryz.underlying25 ti9 hM hR (one_of rfl) (by decide) (by omega) ?_
   intro a v10_7 w B10_7 hH hM hF
   refine zm 1 hF rfl fun a hF => ?_
   refine wpList_nil ?_
   refine t9.norm ?_
   refine k8 ?_
   refine c_reg fun ops => ?_
   refine zm 1 hF rfl fun a hF => ?_
   refine zb hF rfl rfl rfl (b_addn _ _ 1 (by omega)) fun a hF => ?_
   refine zm 1 hF rfl fun a hF => ?_
   refine wpList_nil ?_
   refine k6 ?_
   refine ⟨ch.length - (i + 1), by omega, i + 1, _, _, rfl, h54, hF.keep [1, 2, 3, 7, 8, 9, 11, 12] rfl, hH, ?_⟩
   rw [List.take_succ_eq_append_getElem h54, List.map_append, ← List.cons_append, List.map_cons, List.map_nil, ← strV_snoc]; exact hM
  try simp only [qq] at h54
  obtain rfl : i = ch.length := by omega
  rw [List.take_length] at hM
  refine wp_exit (t7.exit (t6.exit (t5.here (?_))))
  refine k4 ?_
  refine c_sr fun ops => ?_
  refine ls_buildN (us := []) hF hH rfl rfl rfl rfl rfl rfl Tryz.underlying34 ti38 (fun _ h => (List.not_mem_nil h).elim) (by decide) ?_
  intro a w g11_0 hH hE hF
  have hX : Sl 38 5 [(g11_0, .cells #[] 38 (0, 0))] (.slice (some ⟨g11_0, 0, none⟩) 0 0) 0 [] := ⟨rfl, .inr ⟨_, 0, _, rfl, rfl, Nat.le_refl _, by unfold maxLen; omega, rfl, rfl⟩⟩
  refine zm 1 hF rfl fun a hF => ?_
  refine ls_append hF hH rfl rfl rfl rfl rfl rfl Tryz.underlying34 ti38 hX ((hR1.ext hH4.below).ext hH.below) (recs_one l) (by decide) (by omega) ?_
  intro a v11_2 w B11_2 hH hX hF
  refine zm 1 hF rfl fun a hF => ?_
  refine c_n ?_
  replace hF := hF.sel [2, 3, 7, 8, 9, 11, 13]
  simp only [ss, Nat.reduceBEq] at hF
  rw [Nat.zero_add, List.nil_append] at hX
  refine c_seq fun Q10 k10 t10 => ?_
  refine c_sr fun ops => ?_
  refine zm 1 hF rfl fun a hF => ?_
  refine c_n ?_
  replace hF := hF.sel [2, 3, 7, 8, 9, 11, 13, 14]
  simp only [ss, Nat.reduceBEq] at hF
  refine c_block fun Q11 t11 => ?_
  refine c_loop (fun n a w => ∃ i X BX mx, n = l2.length - i ∧ i ≤ l2.length ∧ X.length ≤ i ∧ (∀ r ∈ X, r ∈ l2 ∧ ((∀ m ∈ q :: ch.map (·.name), sameB m r.name = false) ∨ r.cls ≠ cls)) ∧ Fr 138 [(2, .slice xad l2.length xcp), (3, ptr g0_0), (7, .slice cad ch.length ccp), (8, .string (mk q)), (9, .slice ead (endsOf (followC nm kind cls (groupN l)) kind cls (groupN l)).length ecp), (11, .slice mad (ch.length + 1) mcp), (13, mx), (14, .int .i64 (i : Nat))] a ∧ Hp w4 w (BX ++ B) ∧ Sl 38 5 BX mx (l ++ X).length (recsV (l ++ X))) ?_ ?_
  ·
   exact ⟨_, 0, [], _, _, rfl, Nat.zero_le _, Nat.le_refl _, fun _ h => (List.not_mem_nil h).elim, hF.keep [2, 3, 7, 8, 9, 11, 13, 14] rfl, hH, by rw [List.append_nil]; exact hX⟩
  clear hH hF hX
  intro n a w hI Q12 k12 t12
  obtain ⟨i, X, BX, mx, hm, hi, hXl, hXm, hF, hH, hX⟩ := hI
  refine c_seq fun Q13 k13 t13 => ?_
  refine c_sr fun ops => ?_
  refine zm 2 hF rfl fun a hF => ?_
  refine zl hF rfl (r_len_sl hF rfl rfl Tryz.underlying34) fun a hF => ?_
  refine zb hF rfl rfl rfl (b_ltn _ _ _ _) fun a hF => ?_
  refine c_n ?_
  refine c_fi hF rfl (fun h71 => ?_) (fun h71 => ?_)
  ·
   try simp only [qq] at h71
   obtain ⟨hcm1, hcm2⟩ := hx0 X (fun r hr => (hXm r hr).2)
   have hXB : RecsB (l ++ X) := ⟨by rw [List.length_append]; omega, fun r hr => by
     rcases List.mem_append.1 hr with hr | hr
     · exact hRB.each r hr
     · exact hRX.each r (hXm r hr).1⟩
   refine wp_exit (t13.exit (t12.exit (t11.here (?_))))
   refine k10 ?_
   refine c_seq fun Q23 k23 t23 => ?_
   refine c_flow [1] [0, 2] [3] [4, 5, 6, 7, 8, 9, 10, 11, 12] (by kernel_rfl) (by kernel_rfl) fun hB => ?_
   refine ps hF rfl rfl rfl rfl (fun w => r_move hF rfl rfl) fun a hF => ?_
   refine fl_start [113, 115] hB (by kernel_rfl) hF ?_
   simp only [wo, hasN, Nat.reduceBEq, cond_true, cond_false] at hF ⊢
   refine fs1 rfl (by
    intro a w Lr hE hC hl
    replace hH := hH.ext hE
    have hF := hC.fr
    exact zl hF rfl (r_loadagg hF rfl rfl Tryz.underlying49 ti49 rfl (fun j u hu => hH.cell (hq j u hu))) fun a' hF' => wpList_nil (fl_end hC hF' (Ext.refl _) rfl)) ?_
   refine fs (fun v w' => SetsR w' v (groupN (l ++ X))) rfl (fun _ _ _ he h => h.ext he) ?_ ?_
   ·
    intro a w Lr hE hC hl
    replace hH := hH.ext hE
    have hF := hC.fr
    refine zc hF rfl rfl fn26 (groupR_spec (l ++ X) mx _ (hX.rsl hH (fun p hp => List.mem_append_left _ hp)) hXB ((hG.ext hH4.below).ext hH.below)) ?_
    rintro v115 w' ⟨hs, hE'⟩ a' hF'
    exact wpList_nil (fl_end hC hF' hE' (hs))
   intro a w hE hF hall
   replace hH := hH.ext hE
   obtain ⟨_, s113, rfl⟩ := hall 113 _ rfl
   replace hF := hF.more s113
   obtain ⟨v115, s115, p115⟩ := hall 115 _ rfl
   replace hF := hF.more s115
   clear hall
   refine zc hF rfl rfl fn36 (followR_spec nm kind cls (groupN (l ++ X)) v115 _ p115 (group_bounds hXB) (by omega) ((hG.ext hH4.below).ext hH.below)) ?_
   rintro _ w ⟨⟨cv2, ev2, rfl, hc2, he2⟩, hE⟩ a hF
   replace hH := hH.ext hE
   refine wpList_nil ?_
   refine ps hF rfl rfl rfl rfl (fun w => r_move hF rfl rfl) fun a hF => ?_
   refine ps hF rfl rfl rfl rfl (fun w => r_extract hF rfl rfl rfl) fun a hF => ?_
   refine ps hF rfl rfl rfl rfl (fun w => r_extract hF rfl rfl rfl) fun a hF => ?_
   refine ps hF rfl rfl rfl rfl (fun w => r_extract hF rfl rfl rfl) fun a hF => ?_
   refine ps hF rfl rfl rfl rfl (fun w => r_extract hF rfl rfl rfl) fun a hF => ?_
   refine ps hF rfl rfl rfl rfl (fun w => r_assign hF rfl rfl) fun a hF => ?_
   refine ps hF rfl rfl rfl rfl (fun w => r_assign hF rfl rfl) fun a hF => ?_
   refine ps hF rfl rfl rfl rfl (fun w => r_assign hF rfl rfl) fun a hF => ?_
   refine ps hF rfl rfl rfl rfl (fun w => r_assign hF rfl rfl) fun a hF => ?_
   replace hF := hF.sel [7, 8, 9, 17, 18, 19, 20]
   simp only [ss, Nat.reduceBEq] at hF
   rw [hcm1] at hc2 he2 hF
   rw [hcm2] at he2
   rw [hch] at hc2
   rw [hq2] at hF
   refine k23 ?_
   refine c_sg ?_
   refine zm 1 hF rfl fun a hF => ?_
   refine zb hF rfl rfl rfl (b_eqn _ _ _ 0) fun a hF => ?_
   refine zm 1 hF rfl fun a hF => ?_
   refine l_ask (d := 123) hF rfl (fun g23_2 => ?_) (fun g23_2 => ?_)
   ·
    have g23_2' := g23_2; try simp only [qq] at g23_2'
    exact absurd h48 g23_2'
   have g23_2' := g23_2; try simp only [qq] at g23_2'
   refine zy hF rfl g23_2 (r_move hF rfl rfl) fun a hF => ?_
   refine zy hF rfl g23_2 (r_move hF rfl rfl) fun a hF => ?_
   refine zy hF rfl g23_2 (zr hF rfl rfl (b_seq _ _ _)) fun a hF => ?_
   refine zl hF rfl (r_pickt hF rfl rfl g23_2 rfl) fun a hF => ?_
   refine zm 1 hF rfl fun a hF => ?_
   refine l_ask (d := 128) hF rfl (fun g23_7 => ?_) (fun g23_7 => ?_)
   ·
    have g23_7' := g23_7; try simp only [qq] at g23_7'
    exact absurd trivial g23_7'
   have g23_7' := g23_7; try simp only [qq] at g23_7'
   refine zy hF rfl g23_7 (r_move hF rfl rfl) fun a hF => ?_
   refine zy hF rfl g23_7 (r_move hF rfl rfl) fun a hF => ?_
   refine zyc hF rfl g23_7 rfl fn25 (sameAll_yes ch (hc.ext hH.below) (hc2.ext (Ext.refl _)) hcb.len hcb.data) ?_
   rintro _ w ⟨rfl, hE⟩ a hF
   replace hH := hH.ext hE
   refine zl hF rfl (r_pickt hF rfl rfl g23_7 rfl) fun a hF => ?_
   refine zm 1 hF rfl fun a hF => ?_
   refine l_ask (d := 133) hF rfl (fun g23_12 => ?_) (fun g23_12 => ?_)
   ·
    have g23_12' := g23_12; try simp only [qq] at g23_12'
    cases g23_12
   have g23_12' := g23_12; try simp only [qq] at g23_12'
   refine zy hF rfl g23_12 (r_move hF rfl rfl) fun a hF => ?_
   refine zy hF rfl g23_12 (r_move hF rfl rfl) fun a hF => ?_
   refine zyc hF rfl g23_12 rfl fn25 (sameAll_yes _ (he.ext hH.below) (he2.ext hE) heb.len heb.data) ?_
   rintro _ w ⟨rfl, hE⟩ a hF
   replace hH := hH.ext hE
   refine zl hF rfl (r_pickt hF rfl rfl g23_12 rfl) fun a hF => ?_
   refine zm 1 hF rfl fun a hF => ?_
   refine c_n ?_
   replace hF := hF.sel [6]
   simp only [ss, Nat.reduceBEq] at hF
   refine wp_ret (hret (ret1 hF Tryz.results7 rfl ?_))
   exact ⟨rfl, hH4.below.trans hH.below⟩
  try simp only [qq] at h71
  obtain ⟨bx, offx, rfl, -, hrecx⟩ := hR2.rec h71
  refine wp_skip ?_
  refine k13 ?_
  refine c_seq fun Q14 k14 t14 => ?_
  refine c_block fun Q15 t15 => ?_
  refine c_sr fun ops => ?_
  refine zm 1 hF rfl fun a hF => ?_
  refine c_n ?_
  refine c_seq fun Q16 k16 t16 => ?_
  refine c_sr fun ops => ?_
  refine zm 1 hF rfl fun a hF => ?_
  refine c_n ?_
  refine c_block fun Q17 t17 => ?_
  refine c_loop (fun n a w => ∃ j off, n = (ch.length + 1) - j ∧ j ≤ ch.length + 1 ∧ (off = true → ∀ m ∈ (q :: ch.map (·.name)).take j, sameB m l2[i].name = false) ∧ Fr 138 [(2, .slice (some ⟨bx, offx, none⟩) l2.length xcp), (3, ptr g0_0), (7, .slice cad ch.length ccp), (8, .string (mk q)), (9, .slice ead (endsOf (followC nm kind cls (groupN l)) kind cls (groupN l)).length ecp), (11, .slice mad (ch.length + 1) mcp), (13, mx), (14, .int .i64 (i : Nat)), (15, .bool off), (16, .int .i64 (j : Nat))] a ∧ Hp w4 w (BX ++ B)) ?_ ?_
  ·
   exact ⟨_, 0, true, rfl, Nat.zero_le _, fun _ _ h => (List.not_mem_nil h).elim, hF.keep [2, 3, 7, 8, 9, 11, 13, 14, 15, 16] rfl, hH⟩
  clear hH hF
  intro n a w hI Q18 k18 t18
  obtain ⟨j, off, hm2, hj, hoff, hF, hH⟩ := hI
  refine c_seq fun Q19 k19 t19 => ?_
  refine c_sr fun ops => ?_
  refine zm 2 hF rfl fun a hF => ?_
  refine zl hF rfl (r_len_sl hF rfl rfl Tryz.underlying25) fun a hF => ?_
  refine zb hF rfl rfl rfl (b_ltn _ _ _ _) fun a hF => ?_
  refine c_n ?_
  refine c_if hF rfl (fun h77 => ?_) (fun h77 => ?_)
  ·
   try simp only [qq] at h77
   have hjl : j < (q :: ch.map (·.name)).length := by simp; omega
   obtain ⟨mb, moff, hmad, hmc⟩ := (hM.rsl hH (fun p hp => List.mem_append_right _ hp)).at hjl
   subst hmad
   rw [List.getD_eq_getElem?_getD, List.getElem?_eq_getElem hjl, Option.getD_some] at hmc
   have hmn : (q :: ch.map (·.name))[j].length < 1000000 := by
     rcases List.mem_cons.1 (List.getElem_mem hjl) with h | h
     · rw [h]; omega
     · obtain ⟨s, hs, h⟩ := List.mem_map.1 h
       rw [← h]; exact hcb.name s hs
   have hrn := (hRX.each _ (List.getElem_mem h71)).1
   refine wp_skip ?_
   refine k19 ?_
   refine c_seq fun Q20 k20 t20 => ?_
   refine c_block fun Q21 t21 => ?_
   refine q_reg (by kernel_rfl) (by kernel_rfl) ?_
   refine qs hF rfl rfl rfl (fun w hw => r_move hF rfl rfl) fun a hF => ?_
   refine qs hF rfl rfl rfl (fun w hw => r_move hF rfl rfl) fun a hF => ?_
   refine q_ask (d := 81) hF rfl (fun g19_1 => ?_) (fun g19_1 => ?_)
   ·
    have g19_1' := g19_1; try simp only [qq] at g19_1'
    refine qsy hF rfl rfl rfl g19_1 rfl rfl (fun w hw => r_move hF rfl rfl) fun a hF => ?_
    refine qsy hF rfl rfl rfl g19_1 rfl rfl (fun w hw => r_move hF rfl rfl) fun a hF => ?_
    refine qsy hF rfl rfl rfl g19_1 rfl rfl (fun w hw => r_ix1 hF _ rfl rfl rfl Tryz.underlying25 ti9 (by omega)) fun a hF => ?_
    refine qsy hF rfl rfl rfl g19_1 rfl rfl (fun w hw => r_load hF rfl rfl fl9 (hw.cell (hmc))) fun a hF => ?_
    refine qsy hF rfl rfl rfl g19_1 rfl rfl (fun w hw => r_move hF rfl rfl) fun a hF => ?_
    refine qsy hF rfl rfl rfl g19_1 rfl rfl (fun w hw => r_move hF rfl rfl) fun a hF => ?_
    refine qsy hF rfl rfl rfl g19_1 rfl rfl (fun w hw => r_indexaddr hF _ rfl rfl rfl Tryz.underlying34 ti38 (by omega)) fun a hF => ?_
    refine qsy hF rfl rfl rfl g19_1 rfl rfl (fun w hw => r_fieldaddr hF rfl rfl fd38_0) fun a hF => ?_
    refine qsy hF rfl rfl rfl g19_1 rfl rfl (fun w hw => r_load hF rfl rfl fl9 (hw.cell (hH.cell (hH4.cell (hrecx 0 _ rfl))))) fun a hF => ?_
    refine qsy_call hF rfl rfl rfl g19_1 rfl rfl rfl rfl fn29 (fun w hw => same_spec _ _ (by omega) (by omega) _) fun a hF => ?_
    refine qsy hF rfl rfl rfl g19_1 rfl rfl (fun w hw => r_not hF rfl rfl) fun a hF => ?_
    refine qs hF rfl rfl rfl (fun w hw => r_pickt hF rfl rfl g19_1 rfl) fun a hF => ?_
    refine qs hF rfl rfl rfl (fun w hw => r_assign hF rfl rfl) fun a hF => ?_
    refine q_nil fun w hE => ?_
    replace hH := hH.ext hE
    refine t21.norm ?_
    refine k20 ?_
    refine c_reg fun ops => ?_
    refine zm 1 hF rfl fun a hF => ?_
    refine zb hF rfl rfl rfl (b_addn _ _ 1 (by omega)) fun a hF => ?_
    refine zm 1 hF rfl fun a hF => ?_
    refine wpList_nil ?_
    refine k18 ?_
    refine ⟨(ch.length + 1) - (j + 1), by omega, j + 1, _, rfl, by omega, ?_, hF.keep [2, 3, 7, 8, 9, 11, 13, 14, 15, 16] rfl, hH⟩
    first
      | intro ho; cases ho; done
      | intro ho m hm3
        rw [List.take_succ_eq_append_getElem hjl, List.mem_append, List.mem_singleton] at hm3
        rcases hm3 with hm3 | rfl
        · exact hoff g19_1' m hm3
        · simpa using ho
   have g19_1' := g19_1; try simp only [qq] at g19_1'
   refine qsn hF rfl rfl rfl g19_1 rfl rfl fun a hF => ?_
   refine qsn hF rfl rfl rfl g19_1 rfl rfl fun a hF => ?_
   refine qsn hF rfl rfl rfl g19_1 rfl rfl fun a hF => ?_
   refine qsn hF rfl rfl rfl g19_1 rfl rfl fun a hF => ?_
   refine qsn hF rfl rfl rfl g19_1 rfl rfl fun a hF => ?_
   refine qsn hF rfl rfl rfl g19_1 rfl rfl fun a hF => ?_
   refine qsn hF rfl rfl rfl g19_1 rfl rfl fun a hF => ?_
   refine qsn hF rfl rfl rfl g19_1 rfl rfl fun a hF => ?_
   refine qsn hF rfl rfl rfl g19_1 rfl rfl fun a hF => ?_
   refine qsn hF rfl rfl rfl g19_1 rfl rfl fun a hF => ?_
   refine qsn hF rfl rfl rfl g19_1 rfl rfl fun a hF => ?_
   refine qs hF rfl rfl rfl (fun w hw => r_pickf hF rfl rfl g19_1 rfl) fun a hF => ?_
   refine qs hF rfl rfl rfl (fun w hw => r_assign hF rfl rfl) fun a hF => ?_
   refine q_nil fun w hE => ?_
   replace hH := hH.ext hE
   refine t21.norm ?_
   refine k20 ?_
   refine c_reg fun ops => ?_
   refine zm 1 hF rfl fun a hF => ?_
   refine zb hF rfl rfl rfl (b_addn _ _ 1 (by omega)) fun a hF => ?_
   refine zm 1 hF rfl fun a hF => ?_
   refine wpList_nil ?_
   refine k18 ?_
   refine ⟨(ch.length + 1) - (j + 1), by omega, j + 1, _, rfl, by omega, ?_, hF.keep [2, 3, 7, 8, 9, 11, 13, 14, 15, 16] rfl, hH⟩
   first
     | intro ho; cases ho; done
     | intro ho m hm3
       rw [List.take_succ_eq_append_getElem hjl, List.mem_append, List.mem_singleton] at hm3
       rcases hm3 with hm3 | rfl
       · exact hoff g19_1' m hm3
       · simpa using ho
  try simp only [qq] at h77
  obtain rfl : j = ch.length + 1 := by omega
  rw [List.take_of_length_le (by simp)] at hoff
  refine wp_exit (t19.exit (t18.exit (t17.here (?_))))
  refine k16 ?_
  refine c_seq fun Q22 k22 t22 => ?_
  refine q_reg (by kernel_rfl) (by kernel_rfl) ?_
  refine qs hF rfl rfl rfl (fun w hw => r_move hF rfl rfl) fun a hF => ?_
  refine qs hF rfl rfl rfl (fun w hw => r_move hF rfl rfl) fun a hF => ?_
  refine q_ask (d := 95) hF rfl (fun g20_1 => ?_) (fun g20_1 => ?_)
  ·
   have g20_1' := g20_1; try simp only [qq] at g20_1'
   refine qsn hF rfl rfl rfl g20_1 rfl rfl fun a hF => ?_
   refine qsn hF rfl rfl rfl g20_1 rfl rfl fun a hF => ?_
   refine qsn hF rfl rfl rfl g20_1 rfl rfl fun a hF => ?_
   refine qsn hF rfl rfl rfl g20_1 rfl rfl fun a hF => ?_
   refine qsn hF rfl rfl rfl g20_1 rfl rfl fun a hF => ?_
   refine qsn hF rfl rfl rfl g20_1 rfl rfl fun a hF => ?_
   refine qsn hF rfl rfl rfl g20_1 rfl rfl fun a hF => ?_
   refine qsn hF rfl rfl rfl g20_1 rfl rfl fun a hF => ?_
   refine qs hF rfl rfl rfl (fun w hw => r_pickt hF rfl rfl g20_1 rfl) fun a hF => ?_
   refine q_nil fun w hE => ?_
   replace hH := hH.ext hE
   refine k22 ?_
   refine c_yes hF rfl rfl ?_
   refine c_reg fun ops => ?_
   refine zm 3 hF rfl fun a hF => ?_
   refine zl hF rfl (r_indexaddr hF _ rfl rfl rfl Tryz.underlying34 ti38 (by omega)) fun a hF => ?_
   refine zl hF rfl (r_loadagg hF rfl rfl Tryz.underlying38 ti38 rfl (fun j u hu => hH.cell (hH4.cell (hrecx j u hu)))) fun a hF => ?_
   refine ls_build1 hF hH rfl rfl rfl rfl rfl Tryz.underlying34 ti38 rfl (by decide) ?_
   intro a w g21_5 hH hE hF
   have hR := rsl_lit (n := 1) (size := 5) hH rfl (by decide)
   replace hH := hH.drop
   refine ls_append hF hH rfl rfl rfl rfl rfl rfl Tryz.underlying34 ti38 hX hR (rec_one _) (by decide) (by rw [List.length_append]; omega) ?_
   intro a v21_6 w B21_6 hH hX hF
   refine zm 1 hF rfl fun a hF => ?_
   refine wpList_nil ?_
   refine t15.norm ?_
   refine k14 ?_
   refine c_reg fun ops => ?_
   refine zm 1 hF rfl fun a hF => ?_
   refine zb hF rfl rfl rfl (b_addn _ _ 1 (by omega)) fun a hF => ?_
   refine zm 1 hF rfl fun a hF => ?_
   refine wpList_nil ?_
   refine k12 ?_
   first
     | exact ⟨l2.length - (i + 1), by omega, i + 1, X, BX, _, rfl, by omega, by omega, hXm, hF.keep [2, 3, 7, 8, 9, 11, 13, 14] rfl, hH, hX⟩
     | refine ⟨l2.length - (i + 1), by omega, i + 1, X ++ [l2[i]], _, _, rfl, by omega, by simp; omega, ?_, hF.keep [2, 3, 7, 8, 9, 11, 13, 14] rfl, hH, by rw [← List.append_assoc, ← recsV_snoc, List.length_append]; exact hX⟩
       intro r hr
       rcases List.mem_append.1 hr with hr | hr
       · exact hXm r hr
       · rw [List.mem_singleton.1 hr]
         refine ⟨List.getElem_mem h71, ?_⟩
         first
           | exact .inl (hoff g20_1')
           | exact .inr h104
  have g20_1' := g20_1; try simp only [qq] at g20_1'
  refine qsy hF rfl rfl rfl g20_1 rfl rfl (fun w hw => r_move hF rfl rfl) fun a hF => ?_
  refine qsy hF rfl rfl rfl g20_1 rfl rfl (fun w hw => r_move hF rfl rfl) fun a hF => ?_
  refine qsy hF rfl rfl rfl g20_1 rfl rfl (fun w hw => r_indexaddr hF _ rfl rfl rfl Tryz.underlying34 ti38 (by omega)) fun a hF => ?_
  refine qsy hF rfl rfl rfl g20_1 rfl rfl (fun w hw => r_fieldaddr hF rfl rfl fd38_2) fun a hF => ?_
  refine qsy hF rfl rfl rfl g20_1 rfl rfl (fun w hw => r_load hF rfl rfl fl23 (hw.cell (hH.cell (hH4.cell (hrecx 2 _ rfl))))) fun a hF => ?_
  refine qsy hF rfl rfl rfl g20_1 rfl rfl (fun w hw => r_fieldaddr0 hF rfl rfl fd49_2) fun a hF => ?_
  refine qsy hF rfl rfl rfl g20_1 rfl rfl (fun w hw => r_load hF rfl rfl fl23 (hw.cell (hH.cell (hq 2 _ rfl)))) fun a hF => ?_
  refine qsy hF rfl rfl rfl g20_1 rfl rfl (fun w hw => zr hF rfl rfl (b_nen _ _ _ _)) fun a hF => ?_
  refine qs hF rfl rfl rfl (fun w hw => r_pickf hF rfl rfl g20_1 rfl) fun a hF => ?_
  refine q_nil fun w hE => ?_
  replace hH := hH.ext hE
  refine k22 ?_
  refine c_fi hF rfl (fun h104 => ?_) (fun h104 => ?_)
  ·
   try simp only [qq] at h104
   refine wp_skip ?_
   refine t15.norm ?_
   refine k14 ?_
   refine c_reg fun ops => ?_
   refine zm 1 hF rfl fun a hF => ?_
   refine zb hF rfl rfl rfl (b_addn _ _ 1 (by omega)) fun a hF => ?_
   refine zm 1 hF rfl fun a hF => ?_
   refine wpList_nil ?_
   refine k12 ?_
   first
     | exact ⟨l2.length - (i + 1), by omega, i + 1, X, BX, _, rfl, by omega, by omega, hXm, hF.keep [2, 3, 7, 8, 9, 11, 13, 14] rfl, hH, hX⟩
     | refine ⟨l2.length - (i + 1), by omega, i + 1, X ++ [l2[i]], _, _, rfl, by omega, by simp; omega, ?_, hF.keep [2, 3, 7, 8, 9, 11, 13, 14] rfl, hH, by rw [← List.append_assoc, ← recsV_snoc, List.length_append]; exact hX⟩
       intro r hr
       rcases List.mem_append.1 hr with hr | hr
       · exact hXm r hr
       · rw [List.mem_singleton.1 hr]
         refine ⟨List.getElem_mem h71, ?_⟩
         first
           | exact .inl (hoff g20_1')
           | exact .inr h104
  try simp only [qq] at h104
  refine c_reg fun ops => ?_
  refine zm 3 hF rfl fun a hF => ?_
  refine zl hF rfl (r_indexaddr hF _ rfl rfl rfl Tryz.underlying34 ti38 (by omega)) fun a hF => ?_
  refine zl hF rfl (r_loadagg hF rfl rfl Tryz.underlying38 ti38 rfl (fun j u hu => hH.cell (hH4.cell (hrecx j u hu)))) fun a hF => ?_
  refine ls_build1 hF hH rfl rfl rfl rfl rfl Tryz.underlying34 ti38 rfl (by decide) ?_
  intro a w g21_5 hH hE hF
  have hR := rsl_lit (n := 1) (size := 5) hH rfl (by decide)
  replace hH := hH.drop
  refine ls_append hF hH rfl rfl rfl rfl rfl rfl Tryz.underlying34 ti38 hX hR (rec_one _) (by decide) (by rw [List.length_append]; omega) ?_
  intro a v21_6 w B21_6 hH hX hF
  refine zm 1 hF rfl fun a hF => ?_
  refine wpList_nil ?_
  refine t15.norm ?_
  refine k14 ?_
  refine c_reg fun ops => ?_
  refine zm 1 hF rfl fun a hF => ?_
  refine zb hF rfl rfl rfl (b_addn _ _ 1 (by omega)) fun a hF => ?_
  refine zm 1 hF rfl fun a hF => ?_
  refine wpList_nil ?_
  refine k12 ?_
  first
    | exact ⟨l2.length - (i + 1), by omega, i + 1, X, BX, _, rfl, by omega, by omega, hXm, hF.keep [2, 3, 7, 8, 9, 11, 13, 14] rfl, hH, hX⟩
    | refine ⟨l2.length - (i + 1), by omega, i + 1, X ++ [l2[i]], _, _, rfl, by omega, by simp; omega, ?_, hF.keep [2, 3, 7, 8, 9, 11, 13, 14] rfl, hH, by rw [← List.append_assoc, ← recsV_snoc, List.length_append]; exact hX⟩
      intro r hr
      rcases List.mem_append.1 hr with hr | hr
      · exact hXm r hr
      · rw [List.mem_singleton.1 hr]
        refine ⟨List.getElem_mem h71, ?_⟩
        first
          | exact .inl (hoff g20_1')
          | exact .inr h104
end Go.Proofs.YtcelgjabccgnmaaGreatDoor
