/-
  The walks of hustingslaw09.large and spoil, and of ChainFollows. Nothing is claimed here.
-/
import Derived.Test.YtcelgjabccgnmaaDoorLaw9a
import Derived.Test.YtcelgjabccgnmaaDoorKit2
namespace Go.Proofs.YtcelgjabccgnmaaDoor
open Go.RowKit
set_option linter.unusedVariables false
set_option linter.unusedSimpArgs false
set_option maxHeartbeats 1000000

theorem large9_spec (l : List Rec) (v : Value) (w0 : World) (hR : RSl w0 5 v l.length (recsV l)) :
    Rets Tryd.prog 16 [v] w0 fun r w' => (∃ b : Bool, r = .bool b ∧ (b = false → RecsB l)) ∧ Ext w0 w' := by
  have hH := Hp.refl w0
  obtain ⟨ad, cap, rfl⟩ := hR.shape
  refine rets_start Tryd.func16 rfl Tryd.ntmps16 rfl fun a Q0 hF hret hend => ?_
  simp only [argsFrom, Nat.zero_add, Nat.reduceAdd] at hF
  refine c_seq fun Q1 k1 t1 => ?_
  refine c_reg fun ops => ?_
  refine ls hF rfl rfl rfl (r_assign hF rfl rfl) fun a hF => ?_
  refine wpList_nil ?_
  replace hF := hF.sel [0]
  simp only [sel, lk, Nat.reduceBEq, cond_true, cond_false] at hF
  refine k1 ?_
  refine c_seq fun Q2 k2 t2 => ?_
  refine c_reg fun ops => ?_
  refine ls hF rfl rfl rfl (r_assign hF rfl rfl) fun a hF => ?_
  refine wpList_nil ?_
  replace hF := hF.sel [0, 3]
  simp only [sel, lk, Nat.reduceBEq, cond_true, cond_false] at hF
  refine k2 ?_
  refine c_seq fun Q3 k3 t3 => ?_
  refine c_seq fun Q4 k4 t4 => ?_
  refine c_reg fun ops => ?_
  refine ls hF rfl rfl rfl (r_assign hF rfl rfl) fun a hF => ?_
  refine wpList_nil ?_
  replace hF := hF.sel [0, 3, 4]
  simp only [sel, lk, Nat.reduceBEq, cond_true, cond_false] at hF
  refine k4 ?_
  refine c_block fun Q5 t5 => ?_
  refine c_loop (fun n a w => ∃ i m, n = l.length - i ∧ i ≤ l.length ∧ m ≤ 20000 ∧ 12 * i ≤ m ∧ (m < 4000 → ∀ j (h : j < l.length), j < i → l[j].name.length < 4000 ∧ l[j].data.length < 4000) ∧ Fr 35 [(0, .slice ad l.length cap), (3, .int .i64 (m : Nat)), (4, .int .i64 (i : Nat))] a ∧ Hp w0 w []) ?_ ?_
  ·
   exact ⟨_, 0, 0, rfl, Nat.zero_le _, by omega, by omega, fun _ _ _ h => (Nat.not_lt_zero _ h).elim, hF.keep [0, 3, 4] rfl, hH⟩
  ·
   intro n a w hI Q6 k6 t6
   obtain ⟨i, m, hn, hi, hm1, hm2, hall, hF, hH⟩ := hI
   refine c_seq fun Q7 k7 t7 => ?_
   refine c_seq fun Q8 k8 t8 => ?_
   refine c_regg ?_
   refine ls hF rfl rfl rfl (r_move hF rfl rfl) fun a hF => ?_
   refine ls hF rfl rfl rfl (r_move hF rfl rfl) fun a hF => ?_
   refine ls hF rfl rfl rfl (r_len_sl hF rfl rfl Tryd.underlying23) fun a hF => ?_
   refine ls hF rfl rfl rfl (r_bin hF rfl rfl rfl rfl (b_ltn _ _ _ _)) fun a hF => ?_
   refine ls hF rfl rfl rfl (r_move hF rfl rfl) fun a hF => ?_
   refine ls_ask (d := 9) hF rfl (fun g3_4 => ?_) (fun g3_4 => ?_)
   ·
    have g3_4' := g3_4; try simp only [q1, q2, q3, q4, q5, q6, q7, q8, q9, qa, qb] at g3_4'
    refine lsy hF rfl rfl rfl g3_4 rfl rfl (r_move hF rfl rfl) fun a hF => ?_
    refine lsy hF rfl rfl rfl g3_4 rfl rfl (r_bin hF rfl rfl rfl rfl (b_ltn _ _ _ 4000)) fun a hF => ?_
    refine ls hF rfl rfl rfl (r_pickt hF rfl rfl g3_4 rfl) fun a hF => ?_
    refine wpList_nil ?_
    refine k8 ?_
    refine c_if hF rfl (fun h12 => ?_) (fun h12 => ?_)
    ·
     try simp only [q1, q2, q3, q4, q5, q6, q7, q8, q9, qa, qb] at h12
     obtain ⟨b, off, rfl, -, hrec⟩ := hR.rec g3_4'
     refine wp_skip ?_
     refine k7 ?_
     refine c_seq fun Q9 k9 t9 => ?_
     refine c_block fun Q10 t10 => ?_
     refine c_flow [0, 1, 2, 3, 4, 5, 10, 11, 12, 13] [6, 7, 8, 9, 14, 15, 16, 17, 18] [] [] (by kernel_rfl) (by kernel_rfl) fun hB => ?_
     refine ps hF rfl rfl rfl rfl (fun w => r_move hF rfl rfl) fun a hF => ?_
     refine ps hF rfl rfl rfl rfl (fun w => r_bin hF rfl rfl rfl rfl (b_addn _ _ 12 (by omega))) fun a hF => ?_
     refine ps hF rfl rfl rfl rfl (fun w => r_move hF rfl rfl) fun a hF => ?_
     refine ps hF rfl rfl rfl rfl (fun w => r_move hF rfl rfl) fun a hF => ?_
     refine ps hF rfl rfl rfl rfl (fun w => r_indexaddr hF _ rfl rfl rfl Tryd.underlying23 ti27 (by omega)) fun a hF => ?_
     refine ps hF rfl rfl rfl rfl (fun w => r_fieldaddr hF rfl rfl fd27_0) fun a hF => ?_
     refine ps hF rfl rfl rfl rfl (fun w => r_move hF rfl rfl) fun a hF => ?_
     refine ps hF rfl rfl rfl rfl (fun w => r_move hF rfl rfl) fun a hF => ?_
     refine ps hF rfl rfl rfl rfl (fun w => r_indexaddr hF _ rfl rfl rfl Tryd.underlying23 ti27 (by omega)) fun a hF => ?_
     refine ps hF rfl rfl rfl rfl (fun w => r_fieldaddr hF rfl rfl fd27_4) fun a hF => ?_
     refine fl_start [21, 22, 23, 24, 29, 30, 31, 32, 3] hB (by kernel_rfl) hF ?_
     simp only [wo, hasN, Nat.reduceBEq, cond_true, cond_false] at hF ⊢
     refine fs1 rfl (by
      intro a w Lr hE hC hl
      replace hH := hH.ext hE
      have hF := hC.fr
      exact ls hF rfl rfl rfl (r_load hF rfl rfl fl9 (hH.cell (hrec 0 _ rfl))) fun a' hF' => wpList_nil (fl_end hC hF' (Ext.refl _) rfl)) ?_
     refine fs1 rfl (by
      intro a w Lr hE hC hl
      replace hH := hH.ext hE
      obtain ⟨_, s21, rfl⟩ := hl 21 (by decide) _ rfl
      replace hC := hC.more s21
      have hF := hC.fr
      exact ls hF rfl rfl rfl (r_len_str hF rfl rfl Tryd.underlying9) fun a' hF' => wpList_nil (fl_end hC hF' (Ext.refl _) rfl)) ?_
     refine fs1 rfl (by
      intro a w Lr hE hC hl
      replace hH := hH.ext hE
      obtain ⟨_, s22, rfl⟩ := hl 22 (by decide) _ rfl
      replace hC := hC.more s22
      have hF := hC.fr
      exact ls hF rfl rfl rfl (r_minn hF (n := 4000) rfl rfl rfl) fun a' hF' => wpList_nil (fl_end hC hF' (Ext.refl _) rfl)) ?_
     refine fs1 rfl (by
      intro a w Lr hE hC hl
      replace hH := hH.ext hE
      obtain ⟨_, s23, rfl⟩ := hl 23 (by decide) _ rfl
      replace hC := hC.more s23
      have hF := hC.fr
      exact ls hF rfl rfl rfl (r_bin hF rfl rfl rfl rfl (b_addn _ _ _ (by omega))) fun a' hF' => wpList_nil (fl_end hC hF' (Ext.refl _) rfl)) ?_
     refine fs1 rfl (by
      intro a w Lr hE hC hl
      replace hH := hH.ext hE
      have hF := hC.fr
      exact ls hF rfl rfl rfl (r_load hF rfl rfl fl9 (hH.cell (hrec 4 _ rfl))) fun a' hF' => wpList_nil (fl_end hC hF' (Ext.refl _) rfl)) ?_
     refine fs1 rfl (by
      intro a w Lr hE hC hl
      replace hH := hH.ext hE
      obtain ⟨_, s29, rfl⟩ := hl 29 (by decide) _ rfl
      replace hC := hC.more s29
      have hF := hC.fr
      exact ls hF rfl rfl rfl (r_len_str hF rfl rfl Tryd.underlying9) fun a' hF' => wpList_nil (fl_end hC hF' (Ext.refl _) rfl)) ?_
     refine fs1 rfl (by
      intro a w Lr hE hC hl
      replace hH := hH.ext hE
      obtain ⟨_, s30, rfl⟩ := hl 30 (by decide) _ rfl
      replace hC := hC.more s30
      have hF := hC.fr
      exact ls hF rfl rfl rfl (r_minn hF (n := 4000) rfl rfl rfl) fun a' hF' => wpList_nil (fl_end hC hF' (Ext.refl _) rfl)) ?_
     refine fs1 rfl (by
      intro a w Lr hE hC hl
      replace hH := hH.ext hE
      obtain ⟨_, s24, rfl⟩ := hl 24 (by decide) _ rfl
      replace hC := hC.more s24
      obtain ⟨_, s31, rfl⟩ := hl 31 (by decide) _ rfl
      replace hC := hC.more s31
      have hF := hC.fr
      exact ls hF rfl rfl rfl (r_bin hF rfl rfl rfl rfl (b_addn _ _ _ (by omega))) fun a' hF' => wpList_nil (fl_end hC hF' (Ext.refl _) rfl)) ?_
     refine fs1 rfl (by
      intro a w Lr hE hC hl
      replace hH := hH.ext hE
      obtain ⟨_, s32, rfl⟩ := hl 32 (by decide) _ rfl
      replace hC := hC.more s32
      have hF := hC.fr
      exact ls hF rfl rfl rfl (r_assign hF rfl rfl) fun a' hF' => wpList_nil (fl_end hC hF' (Ext.refl _) rfl)) ?_
     intro a w hE hF hall
     replace hH := hH.ext hE
     obtain ⟨_, s21, rfl⟩ := hall 21 _ rfl
     replace hF := hF.more s21
     obtain ⟨_, s22, rfl⟩ := hall 22 _ rfl
     replace hF := hF.more s22
     obtain ⟨_, s23, rfl⟩ := hall 23 _ rfl
     replace hF := hF.more s23
     obtain ⟨_, s24, rfl⟩ := hall 24 _ rfl
     replace hF := hF.more s24
     obtain ⟨_, s29, rfl⟩ := hall 29 _ rfl
     replace hF := hF.more s29
     obtain ⟨_, s30, rfl⟩ := hall 30 _ rfl
     replace hF := hF.more s30
     obtain ⟨_, s31, rfl⟩ := hall 31 _ rfl
     replace hF := hF.more s31
     obtain ⟨_, s32, rfl⟩ := hall 32 _ rfl
     replace hF := hF.more s32
     obtain ⟨_, s3, rfl⟩ := hall 3 _ rfl
     replace hF := hF.more s3
     clear hall
     refine wpList_nil ?_
     refine t10.norm ?_
     refine k9 ?_
     refine c_reg fun ops => ?_
     refine ls hF rfl rfl rfl (r_move hF rfl rfl) fun a hF => ?_
     refine ls hF rfl rfl rfl (r_bin hF rfl rfl rfl rfl (b_addn _ _ 1 (by omega))) fun a hF => ?_
     refine ls hF rfl rfl rfl (r_assign hF rfl rfl) fun a hF => ?_
     refine wpList_nil ?_
     refine k6 ?_
     refine ⟨l.length - (i + 1), by omega, i + 1, m + 12 + min 4000 l[i].name.length + min 4000 l[i].data.length, rfl, by omega, by omega, by omega, fun hlt j hj hji => ?_, hF.keep [0, 3, 4] rfl, hH⟩
     rcases Nat.lt_succ_iff_lt_or_eq.1 hji with h | rfl
     · exact hall h12 j hj h
     · omega
    ·
     try simp only [q1, q2, q3, q4, q5, q6, q7, q8, q9, qa, qb] at h12
     refine wp_exit (t7.exit (t6.exit (t5.here (?_))))
     refine k3 ?_
     refine c_seq fun Q11 k11 t11 => ?_
     refine c_reg fun ops => ?_
     refine ls hF rfl rfl rfl (r_move hF rfl rfl) fun a hF => ?_
     refine ls hF rfl rfl rfl (r_bin hF rfl rfl rfl rfl (b_gen _ _ _ 4000)) fun a hF => ?_
     refine ls hF rfl rfl rfl (r_assign hF rfl rfl) fun a hF => ?_
     refine wpList_nil ?_
     replace hF := hF.sel [2]
     simp only [sel, lk, Nat.reduceBEq, cond_true, cond_false] at hF
     refine k11 ?_
     refine wp_ret ?_
     refine hret (ret1 (fn := Tryd.f16) (t := 2) hF Tryd.results16 rfl ?_)
     refine ⟨⟨_, rfl, fun hb => ?_⟩, hH.below⟩
     have hb' := of_decide_eq_false hb
     have hil : i = l.length := by omega
     refine ⟨by omega, fun r hr => ?_⟩
     obtain ⟨j, hj, rfl⟩ := List.mem_iff_getElem.1 hr
     have := hall (by omega) j hj (by omega)
     omega
   ·
    have g3_4' := g3_4; try simp only [q1, q2, q3, q4, q5, q6, q7, q8, q9, qa, qb] at g3_4'
    refine lsn hF rfl rfl rfl g3_4 rfl rfl fun a hF => ?_
    refine lsn hF rfl rfl rfl g3_4 rfl rfl fun a hF => ?_
    refine ls hF rfl rfl rfl (r_pickf hF rfl rfl g3_4 rfl) fun a hF => ?_
    refine wpList_nil ?_
    refine k8 ?_
    refine c_no hF rfl rfl ?_
    refine wp_exit (t7.exit (t6.exit (t5.here (?_))))
    refine k3 ?_
    refine c_seq fun Q12 k12 t12 => ?_
    refine c_reg fun ops => ?_
    refine ls hF rfl rfl rfl (r_move hF rfl rfl) fun a hF => ?_
    refine ls hF rfl rfl rfl (r_bin hF rfl rfl rfl rfl (b_gen _ _ _ 4000)) fun a hF => ?_
    refine ls hF rfl rfl rfl (r_assign hF rfl rfl) fun a hF => ?_
    refine wpList_nil ?_
    replace hF := hF.sel [2]
    simp only [sel, lk, Nat.reduceBEq, cond_true, cond_false] at hF
    refine k12 ?_
    refine wp_ret ?_
    refine hret (ret1 (fn := Tryd.f16) (t := 2) hF Tryd.results16 rfl ?_)
    refine ⟨⟨_, rfl, fun hb => ?_⟩, hH.below⟩
    have hb' := of_decide_eq_false hb
    have hil : i = l.length := by omega
    refine ⟨by omega, fun r hr => ?_⟩
    obtain ⟨j, hj, rfl⟩ := List.mem_iff_getElem.1 hr
    have := hall (by omega) j hj (by omega)
    omega

theorem strV_set (l : List Bs) (k : Nat) (x : Bs) : (strV l).set k (.string (mk x)) = strV (l.set k x) := by unfold strV; rw [← List.map_set]
theorem sl_set {g n cap : Nat} {cur : Array Value} {l : List Bs} {e : TypeId} (hS : Sl e 1 [(g, .cells cur e (0, 0))] (.slice (some ⟨g, 0, none⟩) n cap) n (strV l)) (k : Nat) (x : Bs) : Sl e 1 [(g, .cells (cur.setIfInBounds k (.string (mk x))) e (0, 0))] (.slice (some ⟨g, 0, none⟩) n cap) n (strV (l.set k x)) := by
  obtain ⟨h1, ⟨h, _⟩ | ⟨g', cap', cur', h2, h3, h4, h5, h6, h7⟩⟩ := hS
  · cases h
  · cases h2; cases h3
    rw [← strV_set]
    exact Sl.set k (.string (mk x)) h1 h4 h5 h6 h7
theorem wr_row {es : List Ent} {k m : Nat} {cur : Array Value} (x : Ent) (hct : cur.toList.take (m * 5) = entV es) (hm : m = es.length) (hk : k < es.length) (hs : m * 5 ≤ cur.size) : (wr cur (k * 5) (setV x.1 x.2.1)).toList.take (m * 5) = entV (es.set k x) := by
  subst hm
  have h5 : (setV x.1 x.2.1).length = 5 := rfl
  rw [wr_toList, h5]
  have e1 : cur.toList.take (k * 5) = entV (es.take k) := by
    rw [← (entV_take es k (by omega)).1, ← hct, List.take_take, Nat.min_eq_left (by omega)]
  have e2 : (cur.toList.drop (k * 5 + 5)).take ((es.length - (k + 1)) * 5) = entV (es.drop (k + 1)) := by
    rw [← (entV_take es (k + 1) (by omega)).2, ← hct, List.drop_take, show (k + 1) * 5 = k * 5 + 5 by omega]
    congr 1; omega
  have hl : (entV (es.take k) ++ setV x.1 x.2.1).length = k * 5 + 5 := by rw [List.length_append, entV_length, h5, List.length_take, Nat.min_eq_left (by omega)]
  have : es.length * 5 = (k * 5 + 5) + (es.length - (k + 1)) * 5 := by omega
  rw [e1, this, ← hl, List.take_length_add_append, hl, e2, List.set_eq_take_append_cons_drop, if_pos hk, entV_append, entV_cons, List.append_assoc]

theorem pm_j {x y : Nat × Obj} {es : List Ent} {i : Nat} {H : List (Nat × Obj)} (h : i < es.length) (hB : es[i].2.2 = [x]) : (x :: y :: (entB (es.eraseIdx i) ++ H)).Perm (y :: (entB es ++ H)) := by
  have := entB_pick h
  rw [hB] at this
  exact (List.Perm.swap _ _ _).trans (.cons _ (List.Perm.append_right H this.symm))
theorem pm_k {x y : Nat × Obj} {es : List Ent} {i : Nat} {e : Ent} {H : List (Nat × Obj)} (h : i < es.length) (hB : e.2.2 = [x]) : (y :: (entB (es.set i e) ++ H)).Perm (x :: y :: (entB (es.eraseIdx i) ++ H)) := by
  have := entB_set h e
  rw [hB] at this
  exact (List.Perm.cons y (List.Perm.append_right H this)).trans (List.Perm.swap _ _ _)
theorem list_set_self {α : Type} {l : List α} {i : Nat} {x : α} (h : l[i]? = some x) : l.set i x = l := by
  obtain ⟨hi, rfl⟩ := List.getElem?_eq_some_iff.1 h
  exact List.set_getElem_self hi
theorem spoil9_spec {w0 w1 : World} {B H : List (Nat × Obj)} {v : Value} {es : List Ent} (hH0 : Hp w0 w1 (B ++ (entB es ++ H))) (hS0 : Sl 49 5 B v es.length (entV es)) (hK0 : EntOk es) (hl : es.length < 1000000) (hd0 : ∀ e ∈ es, e.1.data.length < 1000000) :
    Rets Tryd.prog 21 [v] w1 fun r w' => r = .tuple #[] ∧ Hp w0 w' H := by
  have hH := hH0
  obtain ⟨ad, cap, rfl⟩ := hS0.shape
  refine rets_start Tryd.func21 rfl Tryd.ntmps21 rfl fun a Q0 hF hret hend => ?_
  simp only [argsFrom, Nat.zero_add, Nat.reduceAdd] at hF
  refine c_seq fun Q1 k1 t1 => ?_
  refine c_reg fun ops => ?_
  refine ls hF rfl rfl rfl (r_assign hF rfl rfl) fun a hF => ?_
  refine wpList_nil ?_
  replace hF := hF.sel [0, 2]
  simp only [sel, lk, Nat.reduceBEq, cond_true, cond_false] at hF
  refine k1 ?_
  refine c_block fun Q2 t2 => ?_
  refine c_loop (fun n a w => ∃ i B es2, n = es.length - i ∧ i ≤ es.length ∧ es2.length = es.length ∧ (∀ e ∈ es2, e.1.data.length < 1000000) ∧ Fr 31 [(0, .slice ad es.length cap), (2, .int .i64 (i : Nat))] a ∧ Hp w0 w (B ++ (entB es2 ++ H)) ∧ Sl 49 5 B (.slice ad es.length cap) es.length (entV es2) ∧ EntOk es2) ?_ ?_
  ·
   exact ⟨_, 0, B, es, rfl, Nat.zero_le _, rfl, hd0, hF.keep [0, 2] rfl, hH, hS0, hK0⟩
  ·
   clear hH hF
   intro n a w hI Q3 k3 t3
   obtain ⟨i, B, es2, hm, hi, hel, hed, hF, hH, hS, hK⟩ := hI
   refine c_seq fun Q4 k4 t4 => ?_
   refine c_seq fun Q5 k5 t5 => ?_
   refine c_reg fun ops => ?_
   refine ls hF rfl rfl rfl (r_move hF rfl rfl) fun a hF => ?_
   refine ls hF rfl rfl rfl (r_move hF rfl rfl) fun a hF => ?_
   refine ls hF rfl rfl rfl (r_len_sl hF rfl rfl Tryd.underlying38) fun a hF => ?_
   refine ls hF rfl rfl rfl (r_bin hF rfl rfl rfl rfl (b_ltn _ _ _ _)) fun a hF => ?_
   refine wpList_nil ?_
   refine k5 ?_
   refine c_if hF rfl (fun h7 => ?_) (fun h7 => ?_)
   ·
    try simp only [q1, q2, q3, q4, q5, q6, q7, q8, q9, qa, qb] at h7
    obtain ⟨g, cp, cur, hv, rfl, hcp, hcm, hcs, hct⟩ := hS.open (by omega)
    cases hv
    refine wp_skip ?_
    refine k4 ?_
    refine c_seq fun Q6 k6 t6 => ?_
    refine c_block fun Q7 t7 => ?_
    refine c_seq fun Q8 k8 t8 => ?_
    refine c_seq fun Q9 k9 t9 => ?_
    refine c_reg fun ops => ?_
    refine ls hF rfl rfl rfl (r_assign hF rfl rfl) fun a hF => ?_
    refine wpList_nil ?_
    refine k9 ?_
    refine c_block fun Q10 t10 => ?_
    refine c_loop (fun n a w => ∃ k es3, n = es2[i].1.data.length - k ∧ k ≤ es2[i].1.data.length ∧ ∃ he3 : es3.length = es.length, es3[i].1.data.length = es2[i].1.data.length ∧ (∀ e ∈ es3, e.1.data.length < 1000000) ∧ Fr 31 [(0, .slice (some ⟨g, 0, none⟩) es.length cap), (2, .int .i64 (i : Nat)), (3, .int .i64 (k : Nat))] a ∧ Hp w0 w ((g, .cells cur 49 (0, 0)) :: (entB es3 ++ H)) ∧ cur.toList.take (es.length * 5) = entV es3 ∧ EntOk es3) ?_ ?_
    ·
     exact ⟨_, 0, es2, rfl, Nat.zero_le _, hel, rfl, hed, hF.keep [0, 2, 3] rfl, hH, hct, hK⟩
    ·
     clear hH hF hK hct
     intro n a w hI Q11 k11 t11
     obtain ⟨k, es3, hm2, hk, he3, hdl, hed3, hF, hH, hct, hK⟩ := hI
     have hi3 : i < es3.length := by omega
     have hSk := hK _ (List.getElem_mem hi3)
     have hxb := hed3 _ (List.getElem_mem hi3)
     obtain ⟨dad, dcap, hdv⟩ := hSk.shape
     refine c_seq fun Q12 k12 t12 => ?_
     refine c_seq fun Q13 k13 t13 => ?_
     refine c_reg fun ops => ?_
     refine ls hF rfl rfl rfl (r_move hF rfl rfl) fun a hF => ?_
     refine ls hF rfl rfl rfl (r_move hF rfl rfl) fun a hF => ?_
     refine ls hF rfl rfl rfl (r_move hF rfl rfl) fun a hF => ?_
     refine ls hF rfl rfl rfl (r_ixown hF _ rfl rfl rfl Tryd.underlying38 ti49 (by omega)) fun a hF => ?_
     refine ls hF rfl rfl rfl (r_fieldaddr hF rfl rfl fd49_4) fun a hF => ?_
     refine ls hF rfl rfl rfl (r_load hF rfl rfl fl47 ((own_cell (i := 0) hH rfl (take_get hct (entV_get hi3 4 (.slice dad es3[i].1.data.length dcap) (by rw [← hdv]; rfl)))))) fun a hF => ?_
     refine ls hF rfl rfl rfl (r_len_sl hF rfl rfl Tryd.underlying47) fun a hF => ?_
     refine ls hF rfl rfl rfl (r_bin hF rfl rfl rfl rfl (b_ltn _ _ _ _)) fun a hF => ?_
     refine wpList_nil ?_
     refine k13 ?_
     refine c_if hF rfl (fun h17 => ?_) (fun h17 => ?_)
     ·
      try simp only [q1, q2, q3, q4, q5, q6, q7, q8, q9, qa, qb] at h17
      rw [hdv] at hSk
      obtain ⟨gd, cpd, curd, hv, hBd, hcpd, hcmd, hcsd, hctd⟩ := hSk.open (by omega)
      cases hv
      rw [hBd] at hSk
      refine wp_skip ?_
      refine k12 ?_
      refine c_seq fun Q14 k14 t14 => ?_
      refine c_block fun Q15 t15 => ?_
      refine c_reg fun ops => ?_
      refine ls hF rfl rfl rfl (r_move hF rfl rfl) fun a hF => ?_
      refine ls hF rfl rfl rfl (r_move hF rfl rfl) fun a hF => ?_
      refine ls hF rfl rfl rfl (r_ixown hF _ rfl rfl rfl Tryd.underlying38 ti49 (by omega)) fun a hF => ?_
      refine ls hF rfl rfl rfl (r_fieldaddr hF rfl rfl fd49_4) fun a hF => ?_
      refine ls hF rfl rfl rfl (r_load hF rfl rfl fl47 ((own_cell (i := 0) hH rfl (take_get hct (entV_get hi3 4 _ (by rw [hdv]; rfl)))))) fun a hF => ?_
      refine ls hF rfl rfl rfl (r_move hF rfl rfl) fun a hF => ?_
      refine ls hF rfl rfl rfl (r_ixown1 hF _ rfl rfl rfl Tryd.underlying47 ti9 (by omega)) fun a hF => ?_
      replace hH := hH.perm (pm_j (y := (g, .cells cur 49 (0, 0))) (H := H) hi3 hBd)
      refine ls_store 0 hF hH rfl rfl rfl rfl rfl fl9 ti9 rfl (by omega) (by simp [noFreeze]) (rfl) ?_
      intro w hH
      simp only [List.set_cons_zero] at hH
      refine wpList_nil ?_
      have hSn := sl_set hSk k [115, 112, 111, 105, 108, 116]
      generalize hx : ((⟨es3[i].1.name, es3[i].1.kind, es3[i].1.cls, es3[i].1.ttl, es3[i].1.data.set k [115, 112, 111, 105, 108, 116]⟩, .slice (some ⟨gd, 0, none⟩) es3[i].1.data.length dcap, [(gd, .cells (curd.setIfInBounds k (.string (mk [115, 112, 111, 105, 108, 116]))) 9 (0, 0))]) : Ent) = x
      have hxl : x.1.data.length = es3[i].1.data.length := by rw [← hx]; simp
      have hHn : Hp w0 w ((g, .cells cur 49 (0, 0)) :: (entB (es3.set i x) ++ H)) := hH.perm (pm_k (y := (g, .cells cur 49 (0, 0))) (H := H) hi3 (by rw [← hx]; rfl))
      have hctn : cur.toList.take (es.length * 5) = entV (es3.set i x) := by
        rw [hct]
        have := entV_set hi3 (show 4 < 5 by decide) x es3[i].2.1 (by rw [← hx]; simp [setV, hdv])
        rw [← this]
        refine (list_set_self ?_).symm
        exact entV_get hi3 4 _ rfl
      have hKn : EntOk (es3.set i x) := hK.set (x := x) (by rw [← hx]; simpa using hSn) i
      refine t15.norm ?_
      refine k14 ?_
      refine c_reg fun ops => ?_
      refine ls hF rfl rfl rfl (r_move hF rfl rfl) fun a hF => ?_
      refine ls hF rfl rfl rfl (r_bin hF rfl rfl rfl rfl (b_addn _ _ 1 (by omega))) fun a hF => ?_
      refine ls hF rfl rfl rfl (r_assign hF rfl rfl) fun a hF => ?_
      refine wpList_nil ?_
      refine k11 ?_
      exact ⟨es2[i].1.data.length - (k + 1), by omega, k + 1, es3.set i x, rfl, by omega, by simpa using he3, by simp [hxl, hdl], fun e he => by rcases List.mem_or_eq_of_mem_set he with he | rfl; exact hed3 e he; omega, hF.keep [0, 2, 3] rfl, hHn, hctn, hKn⟩
     ·
      try simp only [q1, q2, q3, q4, q5, q6, q7, q8, q9, qa, qb] at h17
      refine wp_exit (t12.exit (t11.exit (t10.here (?_))))
      refine k8 ?_
      refine c_reg fun ops => ?_
      refine ls hF rfl rfl rfl (r_move hF rfl rfl) fun a hF => ?_
      refine ls hF rfl rfl rfl (r_move hF rfl rfl) fun a hF => ?_
      refine ls hF rfl rfl rfl (r_build hF rfl rfl (bd49_0 _ _ (rfl))) fun a hF => ?_
      refine ls hF rfl rfl rfl (r_ixown hF _ rfl rfl rfl Tryd.underlying38 ti49 (by omega)) fun a hF => ?_
      skip
      refine ls_storeat 0 hF hH rfl rfl rfl rfl rfl ti49 rfl rfl (by omega) (by simp [Value.oneCell']) ?_
      intro w hH
      simp only [List.set_cons_zero] at hH
      refine wpList_nil ?_
      refine t7.norm ?_
      refine k6 ?_
      refine c_reg fun ops => ?_
      refine ls hF rfl rfl rfl (r_move hF rfl rfl) fun a hF => ?_
      refine ls hF rfl rfl rfl (r_bin hF rfl rfl rfl rfl (b_addn _ _ 1 (by omega))) fun a hF => ?_
      refine ls hF rfl rfl rfl (r_assign hF rfl rfl) fun a hF => ?_
      refine wpList_nil ?_
      refine k3 ?_
      have hcw := wr_row (k := i) ((⟨[115, 112, 111, 105, 108, 116], 0, 0, 0, []⟩, .slice none 0 0, []) : Ent) hct he3.symm hi3 (by omega)
      refine ⟨es.length - (i + 1), by omega, i + 1, [_], es3.set i ((⟨[115, 112, 111, 105, 108, 116], 0, 0, 0, []⟩, .slice none 0 0, []) : Ent), rfl, by omega, by simpa using he3, fun e he => ?_, hF.keep [0, 2] rfl, hH.of es3[i].2.2 ?_, ⟨by rw [entV_length]; simp [he3], .inr ⟨g, cap, _, rfl, rfl, hcp, hcm, by rw [wr_size (by simp only [setV, List.length_cons, List.length_nil]; omega)]; exact hcs, hcw⟩⟩, hK.set (Sl.nil _ _) i⟩
      · rcases List.mem_or_eq_of_mem_set he with he | rfl
        · exact hed3 e he
        · simp
      · have h1 := entB_pick hi3
        have h2 := entB_set hi3 ((⟨[115, 112, 111, 105, 108, 116], 0, 0, 0, []⟩, .slice none 0 0, []) : Ent)
        simp only [List.nil_append] at h2
        refine List.perm_middle.trans (.cons _ ?_)
        show (es3[i].2.2 ++ (entB (es3.set i ((⟨[115, 112, 111, 105, 108, 116], 0, 0, 0, []⟩, .slice none 0 0, []) : Ent)) ++ H)).Perm _
        rw [← List.append_assoc]
        exact List.Perm.append_right H ((List.Perm.append_left _ h2).trans h1.symm)
   ·
    try simp only [q1, q2, q3, q4, q5, q6, q7, q8, q9, qa, qb] at h7
    refine wp_exit (t4.exit (t3.exit (t2.here (?_))))
    refine hend (fall0 (fn := Tryd.f21) hF Tryd.results21 ?_)
    exact ⟨rfl, hH.sub ((List.sublist_append_right _ _).trans (List.sublist_append_right _ _))⟩
end Go.Proofs.YtcelgjabccgnmaaDoor
