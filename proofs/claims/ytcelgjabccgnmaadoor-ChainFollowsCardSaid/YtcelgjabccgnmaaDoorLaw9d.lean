/-
  The walk of hustingslaw09.ChainFollows. Nothing is claimed here.
-/
import Derived.Test.YtcelgjabccgnmaaDoorLaw9c
namespace Go.Proofs.YtcelgjabccgnmaaDoor
open Go.RowKit
set_option linter.unusedVariables false
set_option linter.unusedSimpArgs false
set_option maxHeartbeats 1000000

theorem SetsB.sub {l m : List RSet} (h : SetsB l) (hl : m.length ≤ 8) (hm : ∀ s ∈ m, s ∈ l) : SetsB m :=
  ⟨by omega, fun s hs => h.name s (hm s hs), fun s hs => h.data s (hm s hs), fun s hs => h.each s (hm s hs)⟩
theorem chain_bounds {nm : Bs} {kind cls : Nat} {l : List RSet} (h : SetsB l) : SetsB (followC nm kind cls l).2.1 ∧ SetsB (endsOf (followC nm kind cls l) kind cls l) := by
  have h1 := followC_mem nm kind cls l
  have h2 := endsOf_mem (followC nm kind cls l) kind cls l
  exact ⟨h.sub h1.1 h1.2, h.sub (by omega) h2.2⟩

theorem chainFollows_spec (nm : Bs) (kind cls : Nat) (l : List Rec) (v : Value) (w0 : World) (hR : RSl w0 5 v l.length (recsV l)) (hG : GW w0) :
    Rets Tryd.prog 4 [.agg (queV nm kind cls).toArray, v] w0 fun r w' => r = .bool true ∧ Ext w0 w' := by
  have hH := Hp.refl w0
  refine rets_start Tryd.func4 rfl Tryd.ntmps4 rfl fun a Q0 hF hret hend => ?_
  simp only [argsFrom, Nat.zero_add, Nat.reduceAdd] at hF
  refine c_seq fun Q1 k1 t1 => ?_
  refine c_reg fun ops => ?_
  refine ls_box hF hH rfl rfl rfl rfl rfl ?_
  intro a w g0_0 hH hE hF
  refine ls hF rfl rfl rfl (r_assign hF rfl rfl) fun a hF => ?_
  refine wpList_nil ?_
  replace hF := hF.sel [1, 2]
  simp only [sel, lk, Nat.reduceBEq, cond_true, cond_false] at hF
  refine k1 ?_
  refine c_seq fun Q2 k2 t2 => ?_
  refine c_seq fun Q3 k3 t3 => ?_
  simp only [cells_agg] at hH
  refine c_regg ?_
  refine ls hF rfl rfl rfl (r_move hF rfl rfl) fun a hF => ?_
  refine ls_call hF rfl rfl rfl rfl rfl fn16 (large9_spec l v _ (hR.ext hH.below)) ?_
  rintro _ w ⟨⟨b, rfl, hlg⟩, hE⟩ a hF
  replace hH := hH.ext hE
  refine ls hF rfl rfl rfl (r_move hF rfl rfl) fun a hF => ?_
  refine ls_ask (d := 18) hF rfl (fun g1_2 => ?_) (fun g1_2 => ?_)
  ·
   have g1_2' := g1_2; try simp only [q1, q2, q3, q4, q5, q6, q7, q8, q9, qa, qb] at g1_2'
   refine lsn hF rfl rfl rfl g1_2 rfl rfl fun a hF => ?_
   refine lsn hF rfl rfl rfl g1_2 rfl rfl fun a hF => ?_
   refine lsn hF rfl rfl rfl g1_2 rfl rfl fun a hF => ?_
   refine lsn hF rfl rfl rfl g1_2 rfl rfl fun a hF => ?_
   refine ls hF rfl rfl rfl (r_pickt hF rfl rfl g1_2 rfl) fun a hF => ?_
   refine wpList_nil ?_
   replace hF := hF.sel [1, 2, 23]
   simp only [sel, lk, Nat.reduceBEq, cond_true, cond_false] at hF
   refine k3 ?_
   refine c_yes hF rfl rfl ?_
   refine c_seq fun Q4 k4 t4 => ?_
   refine c_reg fun ops => ?_
   refine ls_call hF rfl rfl rfl rfl rfl fn10 (awake9_spec _ (hG.ext hH.below)) ?_
   rintro _ w ⟨rfl, hE⟩ a hF
   replace hH := hH.ext hE
   refine ls hF rfl rfl rfl (r_assign hF rfl rfl) fun a hF => ?_
   refine wpList_nil ?_
   replace hF := hF.sel [4]
   simp only [sel, lk, Nat.reduceBEq, cond_true, cond_false] at hF
   refine k4 ?_
   refine wp_ret ?_
   refine t2.ret (hret (ret1 (fn := Tryd.f4) (t := 4) hF Tryd.results4 rfl ?_))
   exact ⟨rfl, hH.below⟩
  ·
   have g1_2' := g1_2; try simp only [q1, q2, q3, q4, q5, q6, q7, q8, q9, qa, qb] at g1_2'
   refine lsy hF rfl rfl rfl g1_2 rfl rfl (r_fieldaddr0 hF rfl rfl fd33_0) fun a hF => ?_
   refine lsy hF rfl rfl rfl g1_2 rfl rfl (r_load hF rfl rfl fl9 (own_cell (i := 0) hH rfl rfl)) fun a hF => ?_
   refine lsy hF rfl rfl rfl g1_2 rfl rfl (r_len_str hF rfl rfl Tryd.underlying9) fun a hF => ?_
   refine lsy hF rfl rfl rfl g1_2 rfl rfl (r_bin hF rfl rfl rfl rfl (b_gtn _ _ _ 1000)) fun a hF => ?_
   refine ls hF rfl rfl rfl (r_pickf hF rfl rfl g1_2 rfl) fun a hF => ?_
   refine wpList_nil ?_
   replace hF := hF.sel [1, 2, 23]
   simp only [sel, lk, Nat.reduceBEq, cond_true, cond_false] at hF
   refine k3 ?_
   refine c_if hF rfl (fun h23 => ?_) (fun h23 => ?_)
   ·
    try simp only [q1, q2, q3, q4, q5, q6, q7, q8, q9, qa, qb] at h23
    refine c_seq fun Q5 k5 t5 => ?_
    refine c_reg fun ops => ?_
    refine ls_call hF rfl rfl rfl rfl rfl fn10 (awake9_spec _ (hG.ext hH.below)) ?_
    rintro _ w ⟨rfl, hE⟩ a hF
    replace hH := hH.ext hE
    refine ls hF rfl rfl rfl (r_assign hF rfl rfl) fun a hF => ?_
    refine wpList_nil ?_
    replace hF := hF.sel [4]
    simp only [sel, lk, Nat.reduceBEq, cond_true, cond_false] at hF
    refine k5 ?_
    refine wp_ret ?_
    refine t2.ret (hret (ret1 (fn := Tryd.f4) (t := 4) hF Tryd.results4 rfl ?_))
    exact ⟨rfl, hH.below⟩
   ·
    try simp only [q1, q2, q3, q4, q5, q6, q7, q8, q9, qa, qb] at h23
    have hRB := hlg g1_2'
    have hgb := group_bounds hRB
    obtain ⟨hcb, heb⟩ := chain_bounds (nm := nm) (kind := kind) (cls := cls) hgb
    refine wp_skip ?_
    refine k2 ?_
    refine c_seq fun Q6 k6 t6 => ?_
    refine c_reg fun ops => ?_
    refine ls hF rfl rfl rfl (r_move hF rfl rfl) fun a hF => ?_
    refine ls_call hF rfl rfl rfl rfl rfl fn17 (group8_spec l v _ (hR.ext hH.below) hRB.len hRB.each) ?_
    rintro v3 w ⟨B3, es3, hB3, hS3, hK3, hg3⟩ a hF
    replace hH := hH.ext hB3.below
    refine ls hF rfl rfl rfl (r_assign hF rfl rfl) fun a hF => ?_
    refine wpList_nil ?_
    replace hF := hF.sel [1, 2, 5]
    simp only [sel, lk, Nat.reduceBEq, cond_true, cond_false] at hF
    have hs5 := sets_read hB3 hS3 hK3 (fun p hp => List.mem_append_left _ hp) (fun p hp => List.mem_append_right _ hp)
    rw [hg3] at hs5
    refine k6 ?_
    refine c_seq fun Q7 k7 t7 => ?_
    refine c_reg fun ops => ?_
    refine ls hF rfl rfl rfl (r_move hF rfl rfl) fun a hF => ?_
    refine ls_call hF rfl rfl rfl rfl rfl fn17 (group8_spec l v _ (hR.ext hH.below) hRB.len hRB.each) ?_
    rintro v4 w ⟨B4, es4, hB4, hS4, hK4, hg4⟩ a hF
    replace hH := hH.ext hB4.below
    refine ls hF rfl rfl rfl (r_assign hF rfl rfl) fun a hF => ?_
    refine wpList_nil ?_
    replace hF := hF.sel [2, 5, 6]
    simp only [sel, lk, Nat.reduceBEq, cond_true, cond_false] at hF
    have hs6 := sets_read hB4 hS4 hK4 (fun p hp => List.mem_append_left _ hp) (fun p hp => List.mem_append_right _ hp)
    rw [hg4] at hs6
    replace hs5 := hs5.ext hB4.below
    refine k7 ?_
    refine c_seq fun Q8 k8 t8 => ?_
    refine c_reg fun ops => ?_
    refine ls hF rfl rfl rfl (r_loadagg hF rfl rfl Tryd.underlying33 ti33 rfl (own_agg (i := 0) hH rfl)) fun a hF => ?_
    refine ls hF rfl rfl rfl (r_move hF rfl rfl) fun a hF => ?_
    refine ls_call hF rfl rfl rfl rfl rfl fn18 (follow9_spec nm kind cls (groupN l) v4 _ hs6 hgb.len (by omega) hgb.name hgb.data hgb.each) ?_
    rintro _ w ⟨cv, ev, rfl, hE5, hcv, hev⟩ a hF
    replace hH := hH.ext hE5
    refine ls hF rfl rfl rfl (r_move hF rfl rfl) fun a hF => ?_
    refine ls hF rfl rfl rfl (r_extract hF rfl rfl rfl) fun a hF => ?_
    refine ls hF rfl rfl rfl (r_extract hF rfl rfl rfl) fun a hF => ?_
    refine ls hF rfl rfl rfl (r_extract hF rfl rfl rfl) fun a hF => ?_
    refine ls hF rfl rfl rfl (r_extract hF rfl rfl rfl) fun a hF => ?_
    refine ls hF rfl rfl rfl (r_assign hF rfl rfl) fun a hF => ?_
    refine ls hF rfl rfl rfl (r_assign hF rfl rfl) fun a hF => ?_
    refine ls hF rfl rfl rfl (r_assign hF rfl rfl) fun a hF => ?_
    refine ls hF rfl rfl rfl (r_assign hF rfl rfl) fun a hF => ?_
    refine wpList_nil ?_
    replace hF := hF.sel [2, 5, 6, 7, 8, 9, 10]
    simp only [sel, lk, Nat.reduceBEq, cond_true, cond_false] at hF
    replace hs5 := hs5.ext hE5
    replace hs6 := hs6.ext hE5
    have hG5 := hG.ext hH.below
    obtain ⟨w5, hw5⟩ : ∃ w5, w5 = w := ⟨w, rfl⟩
    rw [← hw5] at hs5 hs6 hcv hev hG5
    have hE : Ext w5 w := by rw [hw5]; exact Ext.refl _
    clear hw5
    refine k8 ?_
    refine c_seq fun Q9 k9 t9 => ?_
    refine c_seq fun Q10 k10 t10 => ?_
    refine c_reg fun ops => ?_
    refine ls hF rfl rfl rfl (r_assign hF rfl rfl) fun a hF => ?_
    refine wpList_nil ?_
    replace hF := hF.sel [2, 5, 6, 7, 8, 9, 10, 11]
    simp only [sel, lk, Nat.reduceBEq, cond_true, cond_false] at hF
    refine k10 ?_
    refine c_block fun Q11 t11 => ?_
    refine c_loop (fun n a w => ∃ r, n = 2 - r ∧ r ≤ 2 ∧ Fr 79 [(2, ptr g0_0), (5, v3), (6, v4), (7, cv), (8, .string (mk (followC nm kind cls (groupN l)).2.2)), (9, ev), (10, .int .i64 ((followC nm kind cls (groupN l)).1 : Nat)), (11, .int .i64 (r : Nat))] a ∧ Hp w0 w [(g0_0, .cells (queV nm kind cls).toArray 33 (0, 0))] ∧ Ext w5 w) ?_ ?_
    ·
     exact ⟨_, 0, rfl, by omega, hF.keep [2, 5, 6, 7, 8, 9, 10, 11] rfl, hH, hE⟩
    ·
     clear hH hF hE
     intro n a w hI Q12 k12 t12
     obtain ⟨r, hm, hr, hF, hH, hE⟩ := hI
     refine c_seq fun Q13 k13 t13 => ?_
     refine c_seq fun Q14 k14 t14 => ?_
     refine c_reg fun ops => ?_
     refine ls hF rfl rfl rfl (r_move hF rfl rfl) fun a hF => ?_
     refine ls hF rfl rfl rfl (r_bin hF rfl rfl rfl rfl (b_ltn _ _ _ 2)) fun a hF => ?_
     refine wpList_nil ?_
     refine k14 ?_
     refine c_if hF rfl (fun h38 => ?_) (fun h38 => ?_)
     ·
      try simp only [q1, q2, q3, q4, q5, q6, q7, q8, q9, qa, qb] at h38
      refine wp_skip ?_
      refine k13 ?_
      refine c_seq fun Q15 k15 t15 => ?_
      refine c_block fun Q16 t16 => ?_
      refine c_seq fun Q17 k17 t17 => ?_
      refine c_reg fun ops => ?_
      refine ls hF rfl rfl rfl (r_loadagg hF rfl rfl Tryd.underlying33 ti33 rfl (own_agg (i := 0) hH rfl)) fun a hF => ?_
      refine ls hF rfl rfl rfl (r_move hF rfl rfl) fun a hF => ?_
      refine ls_call hF rfl rfl rfl rfl rfl fn19 (follow_spec nm kind cls (groupN l) v3 _ (hs5.ext hE) hgb.len (by omega) hgb.name hgb.data hgb.each (hG5.ext hE)) ?_
      rintro _ w ⟨av, bv, B1, es1, B2, es2, rfl, hB, hS1, hK1, h1, hS2, hK2, h2⟩ a hF
      refine ls hF rfl rfl rfl (r_move hF rfl rfl) fun a hF => ?_
      refine ls hF rfl rfl rfl (r_extract hF rfl rfl rfl) fun a hF => ?_
      refine ls hF rfl rfl rfl (r_extract hF rfl rfl rfl) fun a hF => ?_
      refine ls hF rfl rfl rfl (r_extract hF rfl rfl rfl) fun a hF => ?_
      refine ls hF rfl rfl rfl (r_extract hF rfl rfl rfl) fun a hF => ?_
      refine ls hF rfl rfl rfl (r_assign hF rfl rfl) fun a hF => ?_
      refine ls hF rfl rfl rfl (r_assign hF rfl rfl) fun a hF => ?_
      refine ls hF rfl rfl rfl (r_assign hF rfl rfl) fun a hF => ?_
      refine ls hF rfl rfl rfl (r_assign hF rfl rfl) fun a hF => ?_
      refine wpList_nil ?_
      have hHr := hH
      have hEr := hE
      replace hH := hH.ext hB.below
      replace hE := hE.trans hB.below
      have ha := sets_read hB hS1 hK1 (fun p hp => List.mem_append_left _ (List.mem_append_left _ hp)) (fun p hp => List.mem_append_left _ (List.mem_append_right _ hp))
      have hb := sets_read hB hS2 hK2 (fun p hp => List.mem_append_right _ (List.mem_append_left _ hp)) (fun p hp => List.mem_append_right _ (List.mem_append_right _ hp))
      rw [h1] at ha
      rw [h2] at hb
      refine k17 ?_
      refine c_seq fun Q18 k18 t18 => ?_
      refine c_seq fun Q19 k19 t19 => ?_
      refine c_regg ?_
      refine ls hF rfl rfl rfl (r_move hF rfl rfl) fun a hF => ?_
      refine ls hF rfl rfl rfl (r_move hF rfl rfl) fun a hF => ?_
      refine ls hF rfl rfl rfl (r_bin hF rfl rfl rfl rfl (b_sne _ _ _)) fun a hF => ?_
      refine ls hF rfl rfl rfl (r_move hF rfl rfl) fun a hF => ?_
      refine ls_ask (d := 52) hF rfl (fun g10_3 => ?_) (fun g10_3 => ?_)
      ·
       have g10_3' := g10_3; try simp only [q1, q2, q3, q4, q5, q6, q7, q8, q9, qa, qb] at g10_3'
       simp at g10_3
      ·
       have g10_3' := g10_3; try simp only [q1, q2, q3, q4, q5, q6, q7, q8, q9, qa, qb] at g10_3'
       refine lsy hF rfl rfl rfl g10_3 rfl rfl (r_move hF rfl rfl) fun a hF => ?_
       refine lsy hF rfl rfl rfl g10_3 rfl rfl (r_move hF rfl rfl) fun a hF => ?_
       refine lsy hF rfl rfl rfl g10_3 rfl rfl (r_bin hF rfl rfl rfl rfl (b_nen _ _ _ _)) fun a hF => ?_
       refine ls hF rfl rfl rfl (r_pickf hF rfl rfl g10_3 rfl) fun a hF => ?_
       refine ls hF rfl rfl rfl (r_move hF rfl rfl) fun a hF => ?_
       refine ls_ask (d := 57) hF rfl (fun g10_8 => ?_) (fun g10_8 => ?_)
       ·
        have g10_8' := g10_8; try simp only [q1, q2, q3, q4, q5, q6, q7, q8, q9, qa, qb] at g10_8'
        simp at g10_8
       ·
        have g10_8' := g10_8; try simp only [q1, q2, q3, q4, q5, q6, q7, q8, q9, qa, qb] at g10_8'
        refine lsy hF rfl rfl rfl g10_8 rfl rfl (r_move hF rfl rfl) fun a hF => ?_
        refine lsy hF rfl rfl rfl g10_8 rfl rfl (r_move hF rfl rfl) fun a hF => ?_
        have ha' := ha.ext (Ext.refl _)
        refine lsy_call hF rfl rfl rfl g10_8 rfl rfl rfl rfl fn20 (sameAll_spec _ _ _ _ _ ha (hcv.ext hE) hcb.len hcb.len hcb.data hcb.data) ?_
        rintro _ w ⟨rfl, hE2⟩ a hF
        replace hH := hH.ext hE2
        refine lsy hF rfl rfl rfl g10_8 rfl rfl (r_not hF rfl rfl) fun a hF => ?_
        refine ls hF rfl rfl rfl (r_pickf hF rfl rfl g10_8 rfl) fun a hF => ?_
        refine ls hF rfl rfl rfl (r_move hF rfl rfl) fun a hF => ?_
        refine ls_ask (d := 63) hF rfl (fun g10_14 => ?_) (fun g10_14 => ?_)
        ·
         have g10_14' := g10_14; try simp only [q1, q2, q3, q4, q5, q6, q7, q8, q9, qa, qb] at g10_14'
         simp at g10_14
        ·
         have g10_14' := g10_14; try simp only [q1, q2, q3, q4, q5, q6, q7, q8, q9, qa, qb] at g10_14'
         refine lsy hF rfl rfl rfl g10_14 rfl rfl (r_move hF rfl rfl) fun a hF => ?_
         refine lsy hF rfl rfl rfl g10_14 rfl rfl (r_move hF rfl rfl) fun a hF => ?_
         replace hE := hE.trans hE2
         replace hB := hB.ext hE2
         refine lsy_call hF rfl rfl rfl g10_14 rfl rfl rfl rfl fn20 (sameAll_spec _ _ _ _ _ (hb.ext hE2) (hev.ext hE) heb.len heb.len heb.data heb.data) ?_
         rintro _ w ⟨rfl, hE3⟩ a hF
         replace hH := hH.ext hE3
         refine lsy hF rfl rfl rfl g10_14 rfl rfl (r_not hF rfl rfl) fun a hF => ?_
         refine ls hF rfl rfl rfl (r_pickf hF rfl rfl g10_14 rfl) fun a hF => ?_
         refine wpList_nil ?_
         refine k19 ?_
         refine c_if hF rfl (fun h68 => ?_) (fun h68 => ?_)
         ·
          try simp only [q1, q2, q3, q4, q5, q6, q7, q8, q9, qa, qb] at h68
          simp at h68
         ·
          try simp only [q1, q2, q3, q4, q5, q6, q7, q8, q9, qa, qb] at h68
          refine wp_skip ?_
          refine k18 ?_
          refine c_seq fun Q20 k20 t20 => ?_
          replace hB := hB.ext hE3
          rw [List.append_assoc] at hB
          have hl1 : es1.length ≤ 8 := by rw [← List.length_map (f := fun e : Ent => e.1), h1]; exact (followC_mem nm kind cls (groupN l)).1
          have hl2 : es2.length ≤ 1 := by rw [← List.length_map (f := fun e : Ent => e.1), h2]; exact (endsOf_mem _ kind cls (groupN l)).1
          refine c_reg fun ops => ?_
          refine ls hF rfl rfl rfl (r_move hF rfl rfl) fun a hF => ?_
          refine ls_call hF rfl rfl rfl rfl rfl fn21 (spoil9_spec hB hS1 hK1 (by omega) (fun e he => hcb.data _ (by rw [← h1]; exact List.mem_map_of_mem he))) ?_
          rintro _ w ⟨rfl, hB'⟩ a hF
          refine wpList_nil ?_
          refine k20 ?_
          refine c_reg fun ops => ?_
          refine ls hF rfl rfl rfl (r_move hF rfl rfl) fun a hF => ?_
          refine ls_call hF rfl rfl rfl rfl rfl fn21 (spoil9_spec (H := []) (by rw [List.append_nil]; exact hB') hS2 hK2 (by omega) (fun e he => heb.data _ (by rw [← h2]; exact List.mem_map_of_mem he))) ?_
          rintro _ w ⟨rfl, hB''⟩ a hF
          refine wpList_nil ?_
          refine t16.norm ?_
          refine k15 ?_
          refine c_reg fun ops => ?_
          refine ls hF rfl rfl rfl (r_move hF rfl rfl) fun a hF => ?_
          refine ls hF rfl rfl rfl (r_bin hF rfl rfl rfl rfl (b_addn _ _ 1 (by omega))) fun a hF => ?_
          refine ls hF rfl rfl rfl (r_assign hF rfl rfl) fun a hF => ?_
          refine wpList_nil ?_
          refine k12 ?_
          exact ⟨2 - (r + 1), by omega, r + 1, rfl, by omega, hF.keep [2, 5, 6, 7, 8, 9, 10, 11] rfl, hHr.ext hB''.below, hEr.trans hB''.below⟩
     ·
      try simp only [q1, q2, q3, q4, q5, q6, q7, q8, q9, qa, qb] at h38
      refine wp_exit (t13.exit (t12.exit (t11.here (?_))))
      refine k9 ?_
      refine c_seq fun Q21 k21 t21 => ?_
      refine c_regg ?_
      refine ls hF rfl rfl rfl (r_move hF rfl rfl) fun a hF => ?_
      refine ls hF rfl rfl rfl (r_move hF rfl rfl) fun a hF => ?_
      refine ls_call hF rfl rfl rfl rfl rfl fn20 (sameAll_spec _ _ _ _ _ (hs5.ext hE) (hs6.ext hE) hgb.len hgb.len hgb.data hgb.data) ?_
      rintro _ w ⟨rfl, hE4⟩ a hF
      replace hH := hH.ext hE4
      refine ls hF rfl rfl rfl (r_move hF rfl rfl) fun a hF => ?_
      refine ls_ask (d := 76) hF rfl (fun g14_3 => ?_) (fun g14_3 => ?_)
      ·
       have g14_3' := g14_3; try simp only [q1, q2, q3, q4, q5, q6, q7, q8, q9, qa, qb] at g14_3'
       refine lsy_call hF rfl rfl rfl g14_3 rfl rfl rfl rfl fn10 (awake9_spec _ (hG.ext hH.below)) ?_
       rintro _ w ⟨rfl, hE⟩ a hF
       replace hH := hH.ext hE
       refine ls hF rfl rfl rfl (r_pickt hF rfl rfl g14_3 rfl) fun a hF => ?_
       refine ls hF rfl rfl rfl (r_assign hF rfl rfl) fun a hF => ?_
       refine wpList_nil ?_
       replace hF := hF.sel [4]
       simp only [sel, lk, Nat.reduceBEq, cond_true, cond_false] at hF
       refine k21 ?_
       refine wp_ret ?_
       refine hret (ret1 (fn := Tryd.f4) (t := 4) hF Tryd.results4 rfl ?_)
       exact ⟨rfl, hH.below⟩
      ·
       have g14_3' := g14_3; try simp only [q1, q2, q3, q4, q5, q6, q7, q8, q9, qa, qb] at g14_3'
       simp at g14_3
end Go.Proofs.YtcelgjabccgnmaaDoor
