/-
  The walks of hustingsref06.Same and hustingsref07.Records, Questions and Same. Nothing is claimed here.
-/
import Derived.Test.YtpoebplhemimmaaGreatDoorDecode
import Derived.Test.YtpoebplhemimmaaGreatDoorSame8
namespace Go.Proofs.YtpoebplhemimmaaGreatDoor
open Go.RowKit
set_option linter.unusedVariables false
set_option linter.unusedSimpArgs false
set_option maxHeartbeats 1000000

theorem recsV_eq (l : List Rec) : recsV l = l.flatMap recV := recsV_fm l
theorem sameR_spec (l m : List Rec) (v u : Value) (w0 : World) (hR : RSl w0 5 v l.length (recsV l)) (hS : RSl w0 5 u m.length (recsV m)) (hl : l.length < 1000000000) :
    Rets Tryz.prog 32 [v, u] w0 fun r w' => r = .bool (decide (l = m)) ∧ Ext w0 w' := by
  have hH := Hp.refl w0
  obtain ⟨ad, cap, rfl⟩ := hR.shape
  obtain ⟨bd, cbp, rfl⟩ := hS.shape
  refine rets_start Tryz.func32 rfl Tryz.ntmps32 rfl fun a Q0 hF hret hend => ?_
  simp only [argsFrom, Nat.zero_add, Nat.reduceAdd] at hF
  refine c_sr fun ops => ?_
  refine zm 1 hF rfl fun a hF => ?_
  refine c_n ?_
  replace hF := hF.sel [0, 1]
  simp only [ss, Nat.reduceBEq] at hF
  refine c_seq fun Q1 k1 t1 => ?_
  refine c_sr fun ops => ?_
  refine zm 1 hF rfl fun a hF => ?_
  refine zl hF rfl (r_len_sl hF rfl rfl Tryz.underlying32) fun a hF => ?_
  refine zm 1 hF rfl fun a hF => ?_
  refine zl hF rfl (r_len_sl hF rfl rfl Tryz.underlying32) fun a hF => ?_
  refine zb hF rfl rfl rfl (b_nen _ _ _ _) fun a hF => ?_
  refine c_n ?_
  replace hF := hF.sel [0, 1, 10]
  simp only [ss, Nat.reduceBEq] at hF
  refine c_if hF rfl (fun h10 => ?_) (fun h10 => ?_)
  ·
   try simp only [qq] at h10
   refine c_sr fun ops => ?_
   refine zm 1 hF rfl fun a hF => ?_
   refine c_n ?_
   replace hF := hF.sel [4]
   simp only [ss, Nat.reduceBEq] at hF
   refine wp_ret (t1.ret (hret (ret1 hF Tryz.results32 rfl ?_)))
   exact ⟨congrArg Value.bool (decide_eq_false (fun e => h10 (by rw [e]))).symm, hH.below⟩
  try simp only [qq] at h10
  refine wp_skip ?_
  refine k1 ?_
  refine c_seq fun Q2 k2 t2 => ?_
  refine c_sr fun ops => ?_
  refine zm 1 hF rfl fun a hF => ?_
  refine c_n ?_
  replace hF := hF.sel [0, 1, 5]
  simp only [ss, Nat.reduceBEq] at hF
  refine c_block fun Q3 t3 => ?_
  refine c_loop (fun n a w => ∃ i, n = l.length - i ∧ i ≤ l.length ∧ (∀ j (h : j < i) (h1 : j < l.length) (h2 : j < m.length), l[j] = m[j]) ∧ Fr 26 [(0, .slice ad l.length cap), (1, .slice bd m.length cbp), (5, .int .i64 (i : Nat))] a ∧ Hp w0 w []) ?_ ?_
  ·
   exact ⟨_, 0, rfl, Nat.zero_le _, fun j h => (Nat.not_lt_zero _ h).elim, hF.keep [0, 1, 5] rfl, hH⟩
  clear hH hF
  intro n a w hI Q4 k4 t4
  obtain ⟨i, hm, hi, hall, hF, hH⟩ := hI
  refine c_seq fun Q5 k5 t5 => ?_
  refine c_sr fun ops => ?_
  refine zm 2 hF rfl fun a hF => ?_
  refine zl hF rfl (r_len_sl hF rfl rfl Tryz.underlying32) fun a hF => ?_
  refine zb hF rfl rfl rfl (b_ltn _ _ _ _) fun a hF => ?_
  refine c_n ?_
  refine c_fi hF rfl (fun h14 => ?_) (fun h14 => ?_)
  ·
   try simp only [qq] at h14
   refine wp_exit (t5.exit (t4.exit (t3.here (?_))))
   refine k2 ?_
   refine c_sr fun ops => ?_
   refine zm 1 hF rfl fun a hF => ?_
   refine c_n ?_
   replace hF := hF.sel [4]
   simp only [ss, Nat.reduceBEq] at hF
   refine wp_ret (hret (ret1 hF Tryz.results32 rfl ?_))
   exact ⟨congrArg Value.bool (decide_eq_true (List.ext_getElem (by omega) fun j h1 h2 => hall j (by omega) h1 h2)).symm, hH.below⟩
  try simp only [qq] at h14
  obtain ⟨b1, off1, rfl, -, hr1⟩ := hR.rec h14
  have h14m : i < m.length := by omega
  obtain ⟨b2, off2, rfl, -, hr2⟩ := hS.rec h14m
  refine wp_skip ?_
  refine k5 ?_
  refine c_seq fun Q6 k6 t6 => ?_
  refine c_block fun Q7 t7 => ?_
  refine c_seq fun Q8 k8 t8 => ?_
  refine q_reg (by kernel_rfl) (by kernel_rfl) ?_
  refine qs hF rfl rfl rfl (fun w hw => r_move hF rfl rfl) fun a hF => ?_
  refine qs hF rfl rfl rfl (fun w hw => r_move hF rfl rfl) fun a hF => ?_
  refine qs hF rfl rfl rfl (fun w hw => r_indexaddr hF _ rfl rfl rfl Tryz.underlying32 ti56 (by omega)) fun a hF => ?_
  refine qs hF rfl rfl rfl (fun w hw => r_loadagg hF rfl rfl Tryz.underlying56 ti56 rfl (fun j u hu => (hH.ext hw).cell (hr1 j u hu))) fun a hF => ?_
  refine qs hF rfl rfl rfl (fun w hw => r_move hF rfl rfl) fun a hF => ?_
  refine qs hF rfl rfl rfl (fun w hw => r_move hF rfl rfl) fun a hF => ?_
  refine qs hF rfl rfl rfl (fun w hw => r_indexaddr hF _ rfl rfl rfl Tryz.underlying32 ti56 (by omega)) fun a hF => ?_
  refine qs hF rfl rfl rfl (fun w hw => r_loadagg hF rfl rfl Tryz.underlying56 ti56 rfl (fun j u hu => (hH.ext hw).cell (hr2 j u hu))) fun a hF => ?_
  refine qs hF rfl rfl rfl (fun w hw => r_binA hF rfl rfl rfl (run_eqGuard_agg _ _ _ _ _ _ _ (by kernel_rfl)) (b_recne _ _)) fun a hF => ?_
  refine q_nil fun w hE => ?_
  replace hH := hH.ext hE
  refine k8 ?_
  refine c_if hF rfl (fun h25 => ?_) (fun h25 => ?_)
  ·
   try simp only [qq] at h25
   refine c_sr fun ops => ?_
   refine zm 1 hF rfl fun a hF => ?_
   refine c_n ?_
   refine wp_ret (t7.ret (t6.ret (t4.ret (t3.ret (t2.ret (hret (ret1 hF Tryz.results32 rfl ?_)))))))
   exact ⟨congrArg Value.bool (decide_eq_false (fun e => h25 (by subst e; rfl))).symm, hH.below⟩
  try simp only [qq] at h25
  refine wp_skip ?_
  refine t7.norm ?_
  refine k6 ?_
  refine c_reg fun ops => ?_
  refine zm 1 hF rfl fun a hF => ?_
  refine zb hF rfl rfl rfl (b_addn _ _ 1 (by omega)) fun a hF => ?_
  refine zm 1 hF rfl fun a hF => ?_
  refine wpList_nil ?_
  refine k4 ?_
  refine ⟨l.length - (i + 1), by omega, i + 1, rfl, h14, fun j hj h1 h2 => ?_, hF.keep [0, 1, 5] rfl, hH⟩
  rcases Nat.lt_succ_iff_lt_or_eq.1 hj with h | rfl
  · exact hall j h h1 h2
  · exact h25
theorem sameQ_spec (l m : List Que) (v u : Value) (w0 : World) (hR : RSl w0 3 v l.length (l.flatMap quV)) (hS : RSl w0 3 u m.length (m.flatMap quV)) (hl : l.length < 1000000000) :
    Rets Tryz.prog 31 [v, u] w0 fun r w' => r = .bool (decide (l = m)) ∧ Ext w0 w' := by
  have hH := Hp.refl w0
  obtain ⟨ad, cap, rfl⟩ := hR.shape
  obtain ⟨bd, cbp, rfl⟩ := hS.shape
  refine rets_start Tryz.func31 rfl Tryz.ntmps31 rfl fun a Q0 hF hret hend => ?_
  simp only [argsFrom, Nat.zero_add, Nat.reduceAdd] at hF
  refine c_sr fun ops => ?_
  refine zm 1 hF rfl fun a hF => ?_
  refine c_n ?_
  replace hF := hF.sel [0, 1]
  simp only [ss, Nat.reduceBEq] at hF
  refine c_seq fun Q1 k1 t1 => ?_
  refine c_sr fun ops => ?_
  refine zm 1 hF rfl fun a hF => ?_
  refine zl hF rfl (r_len_sl hF rfl rfl Tryz.underlying31) fun a hF => ?_
  refine zm 1 hF rfl fun a hF => ?_
  refine zl hF rfl (r_len_sl hF rfl rfl Tryz.underlying31) fun a hF => ?_
  refine zb hF rfl rfl rfl (b_nen _ _ _ _) fun a hF => ?_
  refine c_n ?_
  replace hF := hF.sel [0, 1, 10]
  simp only [ss, Nat.reduceBEq] at hF
  refine c_if hF rfl (fun h10 => ?_) (fun h10 => ?_)
  ·
   try simp only [qq] at h10
   refine c_sr fun ops => ?_
   refine zm 1 hF rfl fun a hF => ?_
   refine c_n ?_
   replace hF := hF.sel [4]
   simp only [ss, Nat.reduceBEq] at hF
   refine wp_ret (t1.ret (hret (ret1 hF Tryz.results31 rfl ?_)))
   exact ⟨congrArg Value.bool (decide_eq_false (fun e => h10 (by rw [e]))).symm, hH.below⟩
  try simp only [qq] at h10
  refine wp_skip ?_
  refine k1 ?_
  refine c_seq fun Q2 k2 t2 => ?_
  refine c_sr fun ops => ?_
  refine zm 1 hF rfl fun a hF => ?_
  refine c_n ?_
  replace hF := hF.sel [0, 1, 5]
  simp only [ss, Nat.reduceBEq] at hF
  refine c_block fun Q3 t3 => ?_
  refine c_loop (fun n a w => ∃ i, n = l.length - i ∧ i ≤ l.length ∧ (∀ j (h : j < i) (h1 : j < l.length) (h2 : j < m.length), l[j] = m[j]) ∧ Fr 26 [(0, .slice ad l.length cap), (1, .slice bd m.length cbp), (5, .int .i64 (i : Nat))] a ∧ Hp w0 w []) ?_ ?_
  ·
   exact ⟨_, 0, rfl, Nat.zero_le _, fun j h => (Nat.not_lt_zero _ h).elim, hF.keep [0, 1, 5] rfl, hH⟩
  clear hH hF
  intro n a w hI Q4 k4 t4
  obtain ⟨i, hm, hi, hall, hF, hH⟩ := hI
  refine c_seq fun Q5 k5 t5 => ?_
  refine c_sr fun ops => ?_
  refine zm 2 hF rfl fun a hF => ?_
  refine zl hF rfl (r_len_sl hF rfl rfl Tryz.underlying31) fun a hF => ?_
  refine zb hF rfl rfl rfl (b_ltn _ _ _ _) fun a hF => ?_
  refine c_n ?_
  refine c_fi hF rfl (fun h14 => ?_) (fun h14 => ?_)
  ·
   try simp only [qq] at h14
   refine wp_exit (t5.exit (t4.exit (t3.here (?_))))
   refine k2 ?_
   refine c_sr fun ops => ?_
   refine zm 1 hF rfl fun a hF => ?_
   refine c_n ?_
   replace hF := hF.sel [4]
   simp only [ss, Nat.reduceBEq] at hF
   refine wp_ret (hret (ret1 hF Tryz.results31 rfl ?_))
   exact ⟨congrArg Value.bool (decide_eq_true (List.ext_getElem (by omega) fun j h1 h2 => hall j (by omega) h1 h2)).symm, hH.below⟩
  try simp only [qq] at h14
  obtain ⟨b1, off1, e1, hr1⟩ := hR.elem (f := quV) (fun _ => rfl) h14
  have h14m : i < m.length := by omega
  obtain ⟨b2, off2, e2, hr2⟩ := hS.elem (f := quV) (fun _ => rfl) h14m
  rw [e1, e2] at hF
  refine wp_skip ?_
  refine k5 ?_
  refine c_seq fun Q6 k6 t6 => ?_
  refine c_block fun Q7 t7 => ?_
  refine c_seq fun Q8 k8 t8 => ?_
  refine q_reg (by kernel_rfl) (by kernel_rfl) ?_
  refine qs hF rfl rfl rfl (fun w hw => r_move hF rfl rfl) fun a hF => ?_
  refine qs hF rfl rfl rfl (fun w hw => r_move hF rfl rfl) fun a hF => ?_
  refine qs hF rfl rfl rfl (fun w hw => r_indexaddr hF _ rfl rfl rfl Tryz.underlying31 ti53 (by omega)) fun a hF => ?_
  refine qs hF rfl rfl rfl (fun w hw => r_loadagg hF rfl rfl Tryz.underlying53 ti53 rfl (fun j u hu => (hH.ext hw).cell (hr1 j u hu))) fun a hF => ?_
  refine qs hF rfl rfl rfl (fun w hw => r_move hF rfl rfl) fun a hF => ?_
  refine qs hF rfl rfl rfl (fun w hw => r_move hF rfl rfl) fun a hF => ?_
  refine qs hF rfl rfl rfl (fun w hw => r_indexaddr hF _ rfl rfl rfl Tryz.underlying31 ti53 (by omega)) fun a hF => ?_
  refine qs hF rfl rfl rfl (fun w hw => r_loadagg hF rfl rfl Tryz.underlying53 ti53 rfl (fun j u hu => (hH.ext hw).cell (hr2 j u hu))) fun a hF => ?_
  refine qs hF rfl rfl rfl (fun w hw => r_binA hF rfl rfl rfl (run_eqGuard_agg _ _ _ _ _ _ _ (by kernel_rfl)) (b_quene _ _)) fun a hF => ?_
  refine q_nil fun w hE => ?_
  replace hH := hH.ext hE
  refine k8 ?_
  refine c_if hF rfl (fun h25 => ?_) (fun h25 => ?_)
  ·
   try simp only [qq] at h25
   refine c_sr fun ops => ?_
   refine zm 1 hF rfl fun a hF => ?_
   refine c_n ?_
   refine wp_ret (t7.ret (t6.ret (t4.ret (t3.ret (t2.ret (hret (ret1 hF Tryz.results31 rfl ?_)))))))
   exact ⟨congrArg Value.bool (decide_eq_false (fun e => h25 (by subst e; rfl))).symm, hH.below⟩
  try simp only [qq] at h25
  refine wp_skip ?_
  refine t7.norm ?_
  refine k6 ?_
  refine c_reg fun ops => ?_
  refine zm 1 hF rfl fun a hF => ?_
  refine zb hF rfl rfl rfl (b_addn _ _ 1 (by omega)) fun a hF => ?_
  refine zm 1 hF rfl fun a hF => ?_
  refine wpList_nil ?_
  refine k4 ?_
  refine ⟨l.length - (i + 1), by omega, i + 1, rfl, h14, fun j hj h1 h2 => ?_, by rw [← e1, ← e2] at hF; exact hF.keep [0, 1, 5] rfl, hH⟩
  rcases Nat.lt_succ_iff_lt_or_eq.1 hj with h | rfl
  · exact hall j h h1 h2
  · exact h25
theorem same6_spec (x y : Ed) (xv yv : Value) (w0 : World) (hx : RSl w0 2 xv x.opts.length (x.opts.flatMap optV)) (hy : RSl w0 2 yv y.opts.length (y.opts.flatMap optV)) (hl : x.opts.length < 1000000000) :
    Rets Tryz.prog 33 [.agg (edV x xv).toArray, .agg (edV y yv).toArray] w0 fun r w' => r = .bool (decide (x = y)) ∧ Ext w0 w' := by
  have hH := Hp.refl w0
  obtain ⟨ad, cap, rfl⟩ := hx.shape
  obtain ⟨bd, cbp, rfl⟩ := hy.shape
  refine rets_start Tryz.func33 rfl Tryz.ntmps33 rfl fun a Q0 hF hret hend => ?_
  simp only [argsFrom, Nat.zero_add, Nat.reduceAdd] at hF
  refine c_sr fun ops => ?_
  refine ls_box hF hH rfl rfl rfl rfl rfl ?_
  intro a w g0_0 hH hE hF
  refine ls_box hF hH rfl rfl rfl rfl rfl ?_
  intro a w g0_1 hH hE hF
  refine zm 1 hF rfl fun a hF => ?_
  refine c_n ?_
  replace hF := hF.sel [2, 3]
  simp only [ss, Nat.reduceBEq] at hF
  refine c_seq fun Q1 k1 t1 => ?_
  refine c_sg ?_
  refine zl hF rfl (r_fieldaddr0 hF rfl rfl fd35_0) fun a hF => ?_
  refine zl hF rfl (r_load hF rfl rfl fl28 (own_cell (i := 1) (v := .int .u16 x.size) hH rfl rfl)) fun a hF => ?_
  refine zl hF rfl (r_fieldaddr0 hF rfl rfl fd35_0) fun a hF => ?_
  refine zl hF rfl (r_load hF rfl rfl fl28 (own_cell (i := 0) (v := .int .u16 y.size) hH rfl rfl)) fun a hF => ?_
  refine zb hF rfl rfl rfl (b_nen _ _ _ _) fun a hF => ?_
  refine zm 1 hF rfl fun a hF => ?_
  refine ls_ask (d := 11) hF rfl (fun g1_5 => ?_) (fun g1_5 => ?_)
  ·
   have g1_5' := g1_5; try simp only [qq] at g1_5'
   refine zn hF rfl g1_5 fun a hF => ?_
   refine zn hF rfl g1_5 fun a hF => ?_
   refine zn hF rfl g1_5 fun a hF => ?_
   refine zn hF rfl g1_5 fun a hF => ?_
   refine zn hF rfl g1_5 fun a hF => ?_
   refine zl hF rfl (r_pickt hF rfl rfl g1_5 rfl) fun a hF => ?_
   refine zm 1 hF rfl fun a hF => ?_
   refine zn hF rfl rfl fun a hF => ?_
   refine zn hF rfl rfl fun a hF => ?_
   refine zn hF rfl rfl fun a hF => ?_
   refine zn hF rfl rfl fun a hF => ?_
   refine zn hF rfl rfl fun a hF => ?_
   refine zl hF rfl (r_pickt hF rfl rfl rfl rfl) fun a hF => ?_
   refine zm 1 hF rfl fun a hF => ?_
   refine zn hF rfl rfl fun a hF => ?_
   refine zn hF rfl rfl fun a hF => ?_
   refine zn hF rfl rfl fun a hF => ?_
   refine zn hF rfl rfl fun a hF => ?_
   refine zn hF rfl rfl fun a hF => ?_
   refine zl hF rfl (r_pickt hF rfl rfl rfl rfl) fun a hF => ?_
   refine zm 1 hF rfl fun a hF => ?_
   refine zn hF rfl rfl fun a hF => ?_
   refine zn hF rfl rfl fun a hF => ?_
   refine zn hF rfl rfl fun a hF => ?_
   refine zn hF rfl rfl fun a hF => ?_
   refine zn hF rfl rfl fun a hF => ?_
   refine zn hF rfl rfl fun a hF => ?_
   refine zn hF rfl rfl fun a hF => ?_
   refine zl hF rfl (r_pickt hF rfl rfl rfl rfl) fun a hF => ?_
   refine c_n ?_
   replace hF := hF.sel [2, 3, 40]
   simp only [ss, Nat.reduceBEq] at hF
   refine c_yes hF rfl rfl ?_
   refine c_sr fun ops => ?_
   refine zm 1 hF rfl fun a hF => ?_
   refine c_n ?_
   replace hF := hF.sel [4]
   simp only [ss, Nat.reduceBEq] at hF
   refine wp_ret (t1.ret (hret (ret1 hF Tryz.results33 rfl ?_)))
   exact ⟨by rw [decide_eq_false (fun e => by subst e; contradiction)], hH.below⟩
  have g1_5' := g1_5; try simp only [qq] at g1_5'
  refine zy hF rfl g1_5 (r_fieldaddr0 hF rfl rfl fd35_1) fun a hF => ?_
  refine zy hF rfl g1_5 (r_load hF rfl rfl fl5 (own_cell (i := 1) (v := .int .u8 x.ext) hH rfl rfl)) fun a hF => ?_
  refine zy hF rfl g1_5 (r_fieldaddr0 hF rfl rfl fd35_1) fun a hF => ?_
  refine zy hF rfl g1_5 (r_load hF rfl rfl fl5 (own_cell (i := 0) (v := .int .u8 y.ext) hH rfl rfl)) fun a hF => ?_
  refine zy hF rfl g1_5 (zr hF rfl rfl (b_nen _ _ _ _)) fun a hF => ?_
  refine zl hF rfl (r_pickf hF rfl rfl g1_5 rfl) fun a hF => ?_
  refine zm 1 hF rfl fun a hF => ?_
  refine ls_ask (d := 18) hF rfl (fun g1_12 => ?_) (fun g1_12 => ?_)
  ·
   have g1_12' := g1_12; try simp only [qq] at g1_12'
   refine zn hF rfl g1_12 fun a hF => ?_
   refine zn hF rfl g1_12 fun a hF => ?_
   refine zn hF rfl g1_12 fun a hF => ?_
   refine zn hF rfl g1_12 fun a hF => ?_
   refine zn hF rfl g1_12 fun a hF => ?_
   refine zl hF rfl (r_pickt hF rfl rfl g1_12 rfl) fun a hF => ?_
   refine zm 1 hF rfl fun a hF => ?_
   refine zn hF rfl rfl fun a hF => ?_
   refine zn hF rfl rfl fun a hF => ?_
   refine zn hF rfl rfl fun a hF => ?_
   refine zn hF rfl rfl fun a hF => ?_
   refine zn hF rfl rfl fun a hF => ?_
   refine zl hF rfl (r_pickt hF rfl rfl rfl rfl) fun a hF => ?_
   refine zm 1 hF rfl fun a hF => ?_
   refine zn hF rfl rfl fun a hF => ?_
   refine zn hF rfl rfl fun a hF => ?_
   refine zn hF rfl rfl fun a hF => ?_
   refine zn hF rfl rfl fun a hF => ?_
   refine zn hF rfl rfl fun a hF => ?_
   refine zn hF rfl rfl fun a hF => ?_
   refine zn hF rfl rfl fun a hF => ?_
   refine zl hF rfl (r_pickt hF rfl rfl rfl rfl) fun a hF => ?_
   refine c_n ?_
   replace hF := hF.sel [2, 3, 40]
   simp only [ss, Nat.reduceBEq] at hF
   refine c_yes hF rfl rfl ?_
   refine c_sr fun ops => ?_
   refine zm 1 hF rfl fun a hF => ?_
   refine c_n ?_
   replace hF := hF.sel [4]
   simp only [ss, Nat.reduceBEq] at hF
   refine wp_ret (t1.ret (hret (ret1 hF Tryz.results33 rfl ?_)))
   exact ⟨by rw [decide_eq_false (fun e => by subst e; contradiction)], hH.below⟩
  have g1_12' := g1_12; try simp only [qq] at g1_12'
  refine zy hF rfl g1_12 (r_fieldaddr0 hF rfl rfl fd35_2) fun a hF => ?_
  refine zy hF rfl g1_12 (r_load hF rfl rfl fl5 (own_cell (i := 1) (v := .int .u8 x.ver) hH rfl rfl)) fun a hF => ?_
  refine zy hF rfl g1_12 (r_fieldaddr0 hF rfl rfl fd35_2) fun a hF => ?_
  refine zy hF rfl g1_12 (r_load hF rfl rfl fl5 (own_cell (i := 0) (v := .int .u8 y.ver) hH rfl rfl)) fun a hF => ?_
  refine zy hF rfl g1_12 (zr hF rfl rfl (b_nen _ _ _ _)) fun a hF => ?_
  refine zl hF rfl (r_pickf hF rfl rfl g1_12 rfl) fun a hF => ?_
  refine zm 1 hF rfl fun a hF => ?_
  refine ls_ask (d := 25) hF rfl (fun g1_19 => ?_) (fun g1_19 => ?_)
  ·
   have g1_19' := g1_19; try simp only [qq] at g1_19'
   refine zn hF rfl g1_19 fun a hF => ?_
   refine zn hF rfl g1_19 fun a hF => ?_
   refine zn hF rfl g1_19 fun a hF => ?_
   refine zn hF rfl g1_19 fun a hF => ?_
   refine zn hF rfl g1_19 fun a hF => ?_
   refine zl hF rfl (r_pickt hF rfl rfl g1_19 rfl) fun a hF => ?_
   refine zm 1 hF rfl fun a hF => ?_
   refine zn hF rfl rfl fun a hF => ?_
   refine zn hF rfl rfl fun a hF => ?_
   refine zn hF rfl rfl fun a hF => ?_
   refine zn hF rfl rfl fun a hF => ?_
   refine zn hF rfl rfl fun a hF => ?_
   refine zn hF rfl rfl fun a hF => ?_
   refine zn hF rfl rfl fun a hF => ?_
   refine zl hF rfl (r_pickt hF rfl rfl rfl rfl) fun a hF => ?_
   refine c_n ?_
   replace hF := hF.sel [2, 3, 40]
   simp only [ss, Nat.reduceBEq] at hF
   refine c_yes hF rfl rfl ?_
   refine c_sr fun ops => ?_
   refine zm 1 hF rfl fun a hF => ?_
   refine c_n ?_
   replace hF := hF.sel [4]
   simp only [ss, Nat.reduceBEq] at hF
   refine wp_ret (t1.ret (hret (ret1 hF Tryz.results33 rfl ?_)))
   exact ⟨by rw [decide_eq_false (fun e => by subst e; contradiction)], hH.below⟩
  have g1_19' := g1_19; try simp only [qq] at g1_19'
  refine zy hF rfl g1_19 (r_fieldaddr0 hF rfl rfl fd35_3) fun a hF => ?_
  refine zy hF rfl g1_19 (r_load hF rfl rfl fl28 (own_cell (i := 1) (v := .int .u16 x.flags) hH rfl rfl)) fun a hF => ?_
  refine zy hF rfl g1_19 (r_fieldaddr0 hF rfl rfl fd35_3) fun a hF => ?_
  refine zy hF rfl g1_19 (r_load hF rfl rfl fl28 (own_cell (i := 0) (v := .int .u16 y.flags) hH rfl rfl)) fun a hF => ?_
  refine zy hF rfl g1_19 (zr hF rfl rfl (b_nen _ _ _ _)) fun a hF => ?_
  refine zl hF rfl (r_pickf hF rfl rfl g1_19 rfl) fun a hF => ?_
  refine zm 1 hF rfl fun a hF => ?_
  refine ls_ask (d := 32) hF rfl (fun g1_26 => ?_) (fun g1_26 => ?_)
  ·
   have g1_26' := g1_26; try simp only [qq] at g1_26'
   refine zn hF rfl g1_26 fun a hF => ?_
   refine zn hF rfl g1_26 fun a hF => ?_
   refine zn hF rfl g1_26 fun a hF => ?_
   refine zn hF rfl g1_26 fun a hF => ?_
   refine zn hF rfl g1_26 fun a hF => ?_
   refine zn hF rfl g1_26 fun a hF => ?_
   refine zn hF rfl g1_26 fun a hF => ?_
   refine zl hF rfl (r_pickt hF rfl rfl g1_26 rfl) fun a hF => ?_
   refine c_n ?_
   replace hF := hF.sel [2, 3, 40]
   simp only [ss, Nat.reduceBEq] at hF
   refine c_yes hF rfl rfl ?_
   refine c_sr fun ops => ?_
   refine zm 1 hF rfl fun a hF => ?_
   refine c_n ?_
   replace hF := hF.sel [4]
   simp only [ss, Nat.reduceBEq] at hF
   refine wp_ret (t1.ret (hret (ret1 hF Tryz.results33 rfl ?_)))
   exact ⟨by rw [decide_eq_false (fun e => by subst e; contradiction)], hH.below⟩
  have g1_26' := g1_26; try simp only [qq] at g1_26'
  refine zy hF rfl g1_26 (r_fieldaddr0 hF rfl rfl fd35_4) fun a hF => ?_
  refine zy hF rfl g1_26 (r_load hF rfl rfl fl33 (own_cell (i := 1) (v := .slice ad x.opts.length cap) hH rfl rfl)) fun a hF => ?_
  refine zy hF rfl g1_26 (r_len_sl hF rfl rfl Tryz.underlying33) fun a hF => ?_
  refine zy hF rfl g1_26 (r_fieldaddr0 hF rfl rfl fd35_4) fun a hF => ?_
  refine zy hF rfl g1_26 (r_load hF rfl rfl fl33 (own_cell (i := 0) (v := .slice bd y.opts.length cbp) hH rfl rfl)) fun a hF => ?_
  refine zy hF rfl g1_26 (r_len_sl hF rfl rfl Tryz.underlying33) fun a hF => ?_
  refine zy hF rfl g1_26 (zr hF rfl rfl (b_nen _ _ _ _)) fun a hF => ?_
  refine zl hF rfl (r_pickf hF rfl rfl g1_26 rfl) fun a hF => ?_
  refine c_n ?_
  replace hF := hF.sel [2, 3, 40]
  simp only [ss, Nat.reduceBEq] at hF
  refine c_if hF rfl (fun h40 => ?_) (fun h40 => ?_)
  ·
   try simp only [qq] at h40
   refine c_sr fun ops => ?_
   refine zm 1 hF rfl fun a hF => ?_
   refine c_n ?_
   replace hF := hF.sel [4]
   simp only [ss, Nat.reduceBEq] at hF
   refine wp_ret (t1.ret (hret (ret1 hF Tryz.results33 rfl ?_)))
   exact ⟨by rw [decide_eq_false (fun e => by subst e; contradiction)], hH.below⟩
  try simp only [qq] at h40
  obtain ⟨he1, he2, he3, he4, he5⟩ : x.size = y.size ∧ x.ext = y.ext ∧ x.ver = y.ver ∧ x.flags = y.flags ∧ x.opts.length = y.opts.length := by refine ⟨?_, ?_, ?_, ?_, ?_⟩ <;> first | assumption | omega
  refine wp_skip ?_
  refine k1 ?_
  refine c_seq fun Q2 k2 t2 => ?_
  refine c_sr fun ops => ?_
  refine zm 1 hF rfl fun a hF => ?_
  refine c_n ?_
  replace hF := hF.sel [2, 3, 5]
  simp only [ss, Nat.reduceBEq] at hF
  refine c_block fun Q3 t3 => ?_
  refine c_loop (fun n a w => ∃ i, n = x.opts.length - i ∧ i ≤ x.opts.length ∧ (∀ j (h : j < i) (h1 : j < x.opts.length) (h2 : j < y.opts.length), x.opts[j] = y.opts[j]) ∧ Fr 59 [(2, ptr g0_0), (3, ptr g0_1), (5, .int .i64 (i : Nat))] a ∧ Hp w0 w [(g0_1, .cells (edV y (.slice bd y.opts.length cbp)).toArray 35 (0, 0)), (g0_0, .cells (edV x (.slice ad x.opts.length cap)).toArray 35 (0, 0))]) ?_ ?_
  ·
   exact ⟨_, 0, rfl, Nat.zero_le _, fun j h => (Nat.not_lt_zero _ h).elim, hF.keep [2, 3, 5] rfl, hH⟩
  clear hH hF
  intro n a w hI Q4 k4 t4
  obtain ⟨i, hm, hi, hall, hF, hH⟩ := hI
  refine c_seq fun Q5 k5 t5 => ?_
  refine c_sr fun ops => ?_
  refine zm 1 hF rfl fun a hF => ?_
  refine zl hF rfl (r_fieldaddr0 hF rfl rfl fd35_4) fun a hF => ?_
  refine zl hF rfl (r_load hF rfl rfl fl33 (own_cell (i := 1) (v := .slice ad x.opts.length cap) hH rfl rfl)) fun a hF => ?_
  refine zl hF rfl (r_len_sl hF rfl rfl Tryz.underlying33) fun a hF => ?_
  refine zb hF rfl rfl rfl (b_ltn _ _ _ _) fun a hF => ?_
  refine c_n ?_
  refine c_fi hF rfl (fun h45 => ?_) (fun h45 => ?_)
  ·
   try simp only [qq] at h45
   refine wp_exit (t5.exit (t4.exit (t3.here (?_))))
   refine k2 ?_
   refine c_sr fun ops => ?_
   refine zm 1 hF rfl fun a hF => ?_
   refine c_n ?_
   replace hF := hF.sel [4]
   simp only [ss, Nat.reduceBEq] at hF
   refine wp_ret (hret (ret1 hF Tryz.results33 rfl ?_))
   refine ⟨congrArg Value.bool (decide_eq_true ?_).symm, hH.below⟩
   have he6 : x.opts = y.opts := List.ext_getElem (by omega) fun j h1 h2 => hall j (by omega) h1 h2
   obtain ⟨x1, x2, x3, x4, x5⟩ := x
   obtain ⟨y1, y2, y3, y4, y5⟩ := y
   simp only at he1 he2 he3 he4 he6
   rw [he1, he2, he3, he4, he6]
  try simp only [qq] at h45
  obtain ⟨b1, off1, rfl, hr1⟩ := (hx.ext hH.below).elem (f := optV) optV_len h45
  have h45m : i < y.opts.length := by omega
  obtain ⟨b2, off2, e2, hr2⟩ := (hy.ext hH.below).elem (f := optV) optV_len h45m
  rw [e2] at hH
  refine wp_skip ?_
  refine k5 ?_
  refine c_seq fun Q6 k6 t6 => ?_
  refine c_block fun Q7 t7 => ?_
  refine c_seq fun Q8 k8 t8 => ?_
  refine q_reg (by kernel_rfl) (by kernel_rfl) ?_
  refine qs hF rfl rfl rfl (fun w hw => r_fieldaddr0 hF rfl rfl fd35_4) fun a hF => ?_
  refine qs hF rfl rfl rfl (fun w hw => r_load hF rfl rfl fl33 (hw.cell (own_cell (i := 1) (v := .slice (some ⟨b1, off1, none⟩) x.opts.length cap) hH rfl rfl))) fun a hF => ?_
  refine qs hF rfl rfl rfl (fun w hw => r_move hF rfl rfl) fun a hF => ?_
  refine qs hF rfl rfl rfl (fun w hw => r_indexaddr hF _ rfl rfl rfl Tryz.underlying33 ti85 (by omega)) fun a hF => ?_
  refine qs hF rfl rfl rfl (fun w hw => r_loadagg hF rfl rfl Tryz.underlying85 ti85 rfl (fun j u hu => hw.cell (hr1 j u hu))) fun a hF => ?_
  refine qs hF rfl rfl rfl (fun w hw => r_fieldaddr0 hF rfl rfl fd35_4) fun a hF => ?_
  refine qs hF rfl rfl rfl (fun w hw => r_load hF rfl rfl fl33 (hw.cell (own_cell (i := 0) (v := .slice (some ⟨b2, off2, none⟩) y.opts.length cbp) hH rfl rfl))) fun a hF => ?_
  refine qs hF rfl rfl rfl (fun w hw => r_move hF rfl rfl) fun a hF => ?_
  refine qs hF rfl rfl rfl (fun w hw => r_indexaddr hF _ rfl rfl rfl Tryz.underlying33 ti85 (by omega)) fun a hF => ?_
  refine qs hF rfl rfl rfl (fun w hw => r_loadagg hF rfl rfl Tryz.underlying85 ti85 rfl (fun j u hu => hw.cell (hr2 j u hu))) fun a hF => ?_
  refine qs hF rfl rfl rfl (fun w hw => r_binA hF rfl rfl rfl (run_eqGuard_agg _ _ _ _ _ _ _ (by kernel_rfl)) (b_optne _ _)) fun a hF => ?_
  refine q_nil fun w hE => ?_
  replace hH := hH.ext hE
  refine k8 ?_
  refine c_if hF rfl (fun h58 => ?_) (fun h58 => ?_)
  ·
   try simp only [qq] at h58
   refine c_sr fun ops => ?_
   refine zm 1 hF rfl fun a hF => ?_
   refine c_n ?_
   refine wp_ret (t7.ret (t6.ret (t4.ret (t3.ret (t2.ret (hret (ret1 hF Tryz.results33 rfl ?_)))))))
   exact ⟨by rw [decide_eq_false (fun e => by subst e; contradiction)], hH.below⟩
  try simp only [qq] at h58
  refine wp_skip ?_
  refine t7.norm ?_
  refine k6 ?_
  refine c_reg fun ops => ?_
  refine zm 1 hF rfl fun a hF => ?_
  refine zb hF rfl rfl rfl (b_addn _ _ 1 (by omega)) fun a hF => ?_
  refine zm 1 hF rfl fun a hF => ?_
  refine wpList_nil ?_
  refine k4 ?_
  rw [← e2] at hH
  refine ⟨x.opts.length - (i + 1), by omega, i + 1, rfl, h45, fun j hj h1 h2 => ?_, hF.keep [2, 3, 5] rfl, hH⟩
  rcases Nat.lt_succ_iff_lt_or_eq.1 hj with h | rfl
  · exact hall j h h1 h2
  · assumption
theorem msgV_sub4 (m : Msg) (qv av uv xv ov : Value) : ∀ j u, (edV m.ed ov).toArray.toList[j]? = some u → (msgV m qv av uv xv ov).toArray.toList[16 + j]? = some u := fun j u hu => by
  have := msgV_edns m qv av uv xv ov j u (by simpa using hu)
  simpa using this
deriving instance DecidableEq for Msg
theorem same7_spec (x y : Msg) (qv av uv xv ov qw aw uw xw ow : Value) (w0 : World) (hx : MsgR w0 x qv av uv xv ov) (hy : MsgR w0 y qw aw uw xw ow) (hB : MsgB x) :
    Rets Tryz.prog 11 [.agg (msgV x qv av uv xv ov).toArray, .agg (msgV y qw aw uw xw ow).toArray] w0 fun r w' => r = .bool (decide (x = y)) ∧ Ext w0 w' := by
  have hH := Hp.refl w0
  have hq := hB.qs.1; have ha := hB.ans.1; have hu := hB.auth.1; have hxl := hB.extra.1; have hol := hB.opts.1
  refine rets_start Tryz.func11 rfl Tryz.ntmps11 rfl fun a Q0 hF hret hend => ?_
  simp only [argsFrom, Nat.zero_add, Nat.reduceAdd] at hF
  refine c_sr fun ops => ?_
  refine ls_box hF hH rfl rfl rfl rfl rfl ?_
  intro a w g0_0 hH hE hF
  refine ls_box hF hH rfl rfl rfl rfl rfl ?_
  intro a w g0_1 hH hE hF
  refine zm 1 hF rfl fun a hF => ?_
  refine c_n ?_
  replace hF := hF.sel [2, 3]
  simp only [ss, Nat.reduceBEq] at hF
  refine c_sg ?_
  refine zl hF rfl (r_fieldaddr0 hF rfl rfl fd37_0) fun a hF => ?_
  refine zl hF rfl (r_loadagg hF rfl rfl Tryz.underlying30 ti30 rfl (mem_sub (off := 0) (cs := hdV x.hd) hH (List.mem_cons_of_mem _ (List.mem_singleton.2 rfl)) (msgV_head x _ _ _ _ _))) fun a hF => ?_
  refine zl hF rfl (r_fieldaddr0 hF rfl rfl fd37_0) fun a hF => ?_
  refine zl hF rfl (r_loadagg hF rfl rfl Tryz.underlying30 ti30 rfl (mem_sub (off := 0) (cs := hdV y.hd) hH (List.mem_cons_self) (msgV_head y _ _ _ _ _))) fun a hF => ?_
  refine zl hF rfl (r_binA hF rfl rfl rfl (run_eqGuard_agg _ _ _ _ _ _ _ (by kernel_rfl)) (b_hdeq _ _)) fun a hF => ?_
  refine zm 1 hF rfl fun a hF => ?_
  refine l_ask (d := 10) hF rfl (fun g1_5 => ?_) (fun g1_5 => ?_)
  ·
   have g1_5' := g1_5; try simp only [qq] at g1_5'
   refine zn hF rfl g1_5 fun a hF => ?_
   refine zn hF rfl g1_5 fun a hF => ?_
   refine zn hF rfl g1_5 fun a hF => ?_
   refine zn hF rfl g1_5 fun a hF => ?_
   refine zn hF rfl g1_5 fun a hF => ?_
   refine zl hF rfl (r_pickf hF rfl rfl g1_5 rfl) fun a hF => ?_
   refine zm 1 hF rfl fun a hF => ?_
   refine zn hF rfl rfl fun a hF => ?_
   refine zn hF rfl rfl fun a hF => ?_
   refine zn hF rfl rfl fun a hF => ?_
   refine zn hF rfl rfl fun a hF => ?_
   refine zn hF rfl rfl fun a hF => ?_
   refine zl hF rfl (r_pickf hF rfl rfl rfl rfl) fun a hF => ?_
   refine zm 1 hF rfl fun a hF => ?_
   refine zn hF rfl rfl fun a hF => ?_
   refine zn hF rfl rfl fun a hF => ?_
   refine zn hF rfl rfl fun a hF => ?_
   refine zn hF rfl rfl fun a hF => ?_
   refine zn hF rfl rfl fun a hF => ?_
   refine zl hF rfl (r_pickf hF rfl rfl rfl rfl) fun a hF => ?_
   refine zm 1 hF rfl fun a hF => ?_
   refine zn hF rfl rfl fun a hF => ?_
   refine zn hF rfl rfl fun a hF => ?_
   refine zn hF rfl rfl fun a hF => ?_
   refine zn hF rfl rfl fun a hF => ?_
   refine zn hF rfl rfl fun a hF => ?_
   refine zl hF rfl (r_pickf hF rfl rfl rfl rfl) fun a hF => ?_
   refine zm 1 hF rfl fun a hF => ?_
   refine zn hF rfl rfl fun a hF => ?_
   refine zn hF rfl rfl fun a hF => ?_
   refine zn hF rfl rfl fun a hF => ?_
   refine zn hF rfl rfl fun a hF => ?_
   refine zn hF rfl rfl fun a hF => ?_
   refine zl hF rfl (r_pickf hF rfl rfl rfl rfl) fun a hF => ?_
   refine zm 1 hF rfl fun a hF => ?_
   refine zn hF rfl rfl fun a hF => ?_
   refine zn hF rfl rfl fun a hF => ?_
   refine zn hF rfl rfl fun a hF => ?_
   refine zn hF rfl rfl fun a hF => ?_
   refine zn hF rfl rfl fun a hF => ?_
   refine zl hF rfl (r_pickf hF rfl rfl rfl rfl) fun a hF => ?_
   refine zm 1 hF rfl fun a hF => ?_
   refine c_n ?_
   replace hF := hF.sel [4]
   simp only [ss, Nat.reduceBEq] at hF
   refine wp_ret (hret (ret1 hF Tryz.results11 rfl ?_))
   first
     | exact ⟨by rw [decide_eq_false (fun e => by subst e; first | contradiction | simp_all)], hH.below⟩
     | refine ⟨?_, hH.below⟩
       have hs : x.has = y.has := by simp_all
       have h1 : x.hd = y.hd := by assumption
       have h2 : x.qs = y.qs := by assumption
       have h3 : x.ans = y.ans := by assumption
       have h4 : x.auth = y.auth := by assumption
       have h5 : x.extra = y.extra := by assumption
       obtain ⟨x1, x2, x3, x4, x5, x6, x7⟩ := x
       obtain ⟨y1, y2, y3, y4, y5, y6, y7⟩ := y
       simp only at hs h1 h2 h3 h4 h5
       subst hs h1 h2 h3 h4 h5
       simp
  have g1_5' := g1_5; try simp only [qq] at g1_5'
  refine zy hF rfl g1_5 (r_fieldaddr0 hF rfl rfl fd37_1) fun a hF => ?_
  refine zy hF rfl g1_5 (r_load hF rfl rfl fl31 (own_cell (i := 1) (v := qv) hH rfl rfl)) fun a hF => ?_
  refine zy hF rfl g1_5 (r_fieldaddr0 hF rfl rfl fd37_1) fun a hF => ?_
  refine zy hF rfl g1_5 (r_load hF rfl rfl fl31 (own_cell (i := 0) (v := qw) hH rfl rfl)) fun a hF => ?_
  refine zyc hF rfl g1_5 rfl fn31 (sameQ_spec x.qs y.qs qv qw _ (hx.qs.ext hH.below) (hy.qs.ext hH.below) (by omega)) ?_
  rintro _ w ⟨rfl, hE⟩ a hF
  replace hH := hH.ext hE
  refine zl hF rfl (r_pickt hF rfl rfl g1_5 rfl) fun a hF => ?_
  refine zm 1 hF rfl fun a hF => ?_
  refine l_ask (d := 17) hF rfl (fun g1_12 => ?_) (fun g1_12 => ?_)
  ·
   have g1_12' := g1_12; try simp only [qq] at g1_12'
   refine zn hF rfl g1_12 fun a hF => ?_
   refine zn hF rfl g1_12 fun a hF => ?_
   refine zn hF rfl g1_12 fun a hF => ?_
   refine zn hF rfl g1_12 fun a hF => ?_
   refine zn hF rfl g1_12 fun a hF => ?_
   refine zl hF rfl (r_pickf hF rfl rfl g1_12 rfl) fun a hF => ?_
   refine zm 1 hF rfl fun a hF => ?_
   refine zn hF rfl rfl fun a hF => ?_
   refine zn hF rfl rfl fun a hF => ?_
   refine zn hF rfl rfl fun a hF => ?_
   refine zn hF rfl rfl fun a hF => ?_
   refine zn hF rfl rfl fun a hF => ?_
   refine zl hF rfl (r_pickf hF rfl rfl rfl rfl) fun a hF => ?_
   refine zm 1 hF rfl fun a hF => ?_
   refine zn hF rfl rfl fun a hF => ?_
   refine zn hF rfl rfl fun a hF => ?_
   refine zn hF rfl rfl fun a hF => ?_
   refine zn hF rfl rfl fun a hF => ?_
   refine zn hF rfl rfl fun a hF => ?_
   refine zl hF rfl (r_pickf hF rfl rfl rfl rfl) fun a hF => ?_
   refine zm 1 hF rfl fun a hF => ?_
   refine zn hF rfl rfl fun a hF => ?_
   refine zn hF rfl rfl fun a hF => ?_
   refine zn hF rfl rfl fun a hF => ?_
   refine zn hF rfl rfl fun a hF => ?_
   refine zn hF rfl rfl fun a hF => ?_
   refine zl hF rfl (r_pickf hF rfl rfl rfl rfl) fun a hF => ?_
   refine zm 1 hF rfl fun a hF => ?_
   refine zn hF rfl rfl fun a hF => ?_
   refine zn hF rfl rfl fun a hF => ?_
   refine zn hF rfl rfl fun a hF => ?_
   refine zn hF rfl rfl fun a hF => ?_
   refine zn hF rfl rfl fun a hF => ?_
   refine zl hF rfl (r_pickf hF rfl rfl rfl rfl) fun a hF => ?_
   refine zm 1 hF rfl fun a hF => ?_
   refine c_n ?_
   replace hF := hF.sel [4]
   simp only [ss, Nat.reduceBEq] at hF
   refine wp_ret (hret (ret1 hF Tryz.results11 rfl ?_))
   first
     | exact ⟨by rw [decide_eq_false (fun e => by subst e; first | contradiction | simp_all)], hH.below⟩
     | refine ⟨?_, hH.below⟩
       have hs : x.has = y.has := by simp_all
       have h1 : x.hd = y.hd := by assumption
       have h2 : x.qs = y.qs := by assumption
       have h3 : x.ans = y.ans := by assumption
       have h4 : x.auth = y.auth := by assumption
       have h5 : x.extra = y.extra := by assumption
       obtain ⟨x1, x2, x3, x4, x5, x6, x7⟩ := x
       obtain ⟨y1, y2, y3, y4, y5, y6, y7⟩ := y
       simp only at hs h1 h2 h3 h4 h5
       subst hs h1 h2 h3 h4 h5
       simp
  have g1_12' := g1_12; try simp only [qq] at g1_12'
  refine zy hF rfl g1_12 (r_fieldaddr0 hF rfl rfl fd37_2) fun a hF => ?_
  refine zy hF rfl g1_12 (r_load hF rfl rfl fl32 (own_cell (i := 1) (v := av) hH rfl rfl)) fun a hF => ?_
  refine zy hF rfl g1_12 (r_fieldaddr0 hF rfl rfl fd37_2) fun a hF => ?_
  refine zy hF rfl g1_12 (r_load hF rfl rfl fl32 (own_cell (i := 0) (v := aw) hH rfl rfl)) fun a hF => ?_
  refine zyc hF rfl g1_12 rfl fn32 (sameR_spec x.ans y.ans av aw _ (hx.ans.ext hH.below) (hy.ans.ext hH.below) (by omega)) ?_
  rintro _ w ⟨rfl, hE⟩ a hF
  replace hH := hH.ext hE
  refine zl hF rfl (r_pickt hF rfl rfl g1_12 rfl) fun a hF => ?_
  refine zm 1 hF rfl fun a hF => ?_
  refine l_ask (d := 24) hF rfl (fun g1_19 => ?_) (fun g1_19 => ?_)
  ·
   have g1_19' := g1_19; try simp only [qq] at g1_19'
   refine zn hF rfl g1_19 fun a hF => ?_
   refine zn hF rfl g1_19 fun a hF => ?_
   refine zn hF rfl g1_19 fun a hF => ?_
   refine zn hF rfl g1_19 fun a hF => ?_
   refine zn hF rfl g1_19 fun a hF => ?_
   refine zl hF rfl (r_pickf hF rfl rfl g1_19 rfl) fun a hF => ?_
   refine zm 1 hF rfl fun a hF => ?_
   refine zn hF rfl rfl fun a hF => ?_
   refine zn hF rfl rfl fun a hF => ?_
   refine zn hF rfl rfl fun a hF => ?_
   refine zn hF rfl rfl fun a hF => ?_
   refine zn hF rfl rfl fun a hF => ?_
   refine zl hF rfl (r_pickf hF rfl rfl rfl rfl) fun a hF => ?_
   refine zm 1 hF rfl fun a hF => ?_
   refine zn hF rfl rfl fun a hF => ?_
   refine zn hF rfl rfl fun a hF => ?_
   refine zn hF rfl rfl fun a hF => ?_
   refine zn hF rfl rfl fun a hF => ?_
   refine zn hF rfl rfl fun a hF => ?_
   refine zl hF rfl (r_pickf hF rfl rfl rfl rfl) fun a hF => ?_
   refine zm 1 hF rfl fun a hF => ?_
   refine zn hF rfl rfl fun a hF => ?_
   refine zn hF rfl rfl fun a hF => ?_
   refine zn hF rfl rfl fun a hF => ?_
   refine zn hF rfl rfl fun a hF => ?_
   refine zn hF rfl rfl fun a hF => ?_
   refine zl hF rfl (r_pickf hF rfl rfl rfl rfl) fun a hF => ?_
   refine zm 1 hF rfl fun a hF => ?_
   refine c_n ?_
   replace hF := hF.sel [4]
   simp only [ss, Nat.reduceBEq] at hF
   refine wp_ret (hret (ret1 hF Tryz.results11 rfl ?_))
   first
     | exact ⟨by rw [decide_eq_false (fun e => by subst e; first | contradiction | simp_all)], hH.below⟩
     | refine ⟨?_, hH.below⟩
       have hs : x.has = y.has := by simp_all
       have h1 : x.hd = y.hd := by assumption
       have h2 : x.qs = y.qs := by assumption
       have h3 : x.ans = y.ans := by assumption
       have h4 : x.auth = y.auth := by assumption
       have h5 : x.extra = y.extra := by assumption
       obtain ⟨x1, x2, x3, x4, x5, x6, x7⟩ := x
       obtain ⟨y1, y2, y3, y4, y5, y6, y7⟩ := y
       simp only at hs h1 h2 h3 h4 h5
       subst hs h1 h2 h3 h4 h5
       simp
  have g1_19' := g1_19; try simp only [qq] at g1_19'
  refine zy hF rfl g1_19 (r_fieldaddr0 hF rfl rfl fd37_3) fun a hF => ?_
  refine zy hF rfl g1_19 (r_load hF rfl rfl fl32 (own_cell (i := 1) (v := uv) hH rfl rfl)) fun a hF => ?_
  refine zy hF rfl g1_19 (r_fieldaddr0 hF rfl rfl fd37_3) fun a hF => ?_
  refine zy hF rfl g1_19 (r_load hF rfl rfl fl32 (own_cell (i := 0) (v := uw) hH rfl rfl)) fun a hF => ?_
  refine zyc hF rfl g1_19 rfl fn32 (sameR_spec x.auth y.auth uv uw _ (hx.auth.ext hH.below) (hy.auth.ext hH.below) (by omega)) ?_
  rintro _ w ⟨rfl, hE⟩ a hF
  replace hH := hH.ext hE
  refine zl hF rfl (r_pickt hF rfl rfl g1_19 rfl) fun a hF => ?_
  refine zm 1 hF rfl fun a hF => ?_
  refine l_ask (d := 31) hF rfl (fun g1_26 => ?_) (fun g1_26 => ?_)
  ·
   have g1_26' := g1_26; try simp only [qq] at g1_26'
   refine zn hF rfl g1_26 fun a hF => ?_
   refine zn hF rfl g1_26 fun a hF => ?_
   refine zn hF rfl g1_26 fun a hF => ?_
   refine zn hF rfl g1_26 fun a hF => ?_
   refine zn hF rfl g1_26 fun a hF => ?_
   refine zl hF rfl (r_pickf hF rfl rfl g1_26 rfl) fun a hF => ?_
   refine zm 1 hF rfl fun a hF => ?_
   refine zn hF rfl rfl fun a hF => ?_
   refine zn hF rfl rfl fun a hF => ?_
   refine zn hF rfl rfl fun a hF => ?_
   refine zn hF rfl rfl fun a hF => ?_
   refine zn hF rfl rfl fun a hF => ?_
   refine zl hF rfl (r_pickf hF rfl rfl rfl rfl) fun a hF => ?_
   refine zm 1 hF rfl fun a hF => ?_
   refine zn hF rfl rfl fun a hF => ?_
   refine zn hF rfl rfl fun a hF => ?_
   refine zn hF rfl rfl fun a hF => ?_
   refine zn hF rfl rfl fun a hF => ?_
   refine zn hF rfl rfl fun a hF => ?_
   refine zl hF rfl (r_pickf hF rfl rfl rfl rfl) fun a hF => ?_
   refine zm 1 hF rfl fun a hF => ?_
   refine c_n ?_
   replace hF := hF.sel [4]
   simp only [ss, Nat.reduceBEq] at hF
   refine wp_ret (hret (ret1 hF Tryz.results11 rfl ?_))
   first
     | exact ⟨by rw [decide_eq_false (fun e => by subst e; first | contradiction | simp_all)], hH.below⟩
     | refine ⟨?_, hH.below⟩
       have hs : x.has = y.has := by simp_all
       have h1 : x.hd = y.hd := by assumption
       have h2 : x.qs = y.qs := by assumption
       have h3 : x.ans = y.ans := by assumption
       have h4 : x.auth = y.auth := by assumption
       have h5 : x.extra = y.extra := by assumption
       obtain ⟨x1, x2, x3, x4, x5, x6, x7⟩ := x
       obtain ⟨y1, y2, y3, y4, y5, y6, y7⟩ := y
       simp only at hs h1 h2 h3 h4 h5
       subst hs h1 h2 h3 h4 h5
       simp
  have g1_26' := g1_26; try simp only [qq] at g1_26'
  refine zy hF rfl g1_26 (r_fieldaddr0 hF rfl rfl fd37_4) fun a hF => ?_
  refine zy hF rfl g1_26 (r_load hF rfl rfl fl32 (own_cell (i := 1) (v := xv) hH rfl rfl)) fun a hF => ?_
  refine zy hF rfl g1_26 (r_fieldaddr0 hF rfl rfl fd37_4) fun a hF => ?_
  refine zy hF rfl g1_26 (r_load hF rfl rfl fl32 (own_cell (i := 0) (v := xw) hH rfl rfl)) fun a hF => ?_
  refine zyc hF rfl g1_26 rfl fn32 (sameR_spec x.extra y.extra xv xw _ (hx.extra.ext hH.below) (hy.extra.ext hH.below) (by omega)) ?_
  rintro _ w ⟨rfl, hE⟩ a hF
  replace hH := hH.ext hE
  refine zl hF rfl (r_pickt hF rfl rfl g1_26 rfl) fun a hF => ?_
  refine zm 1 hF rfl fun a hF => ?_
  refine l_ask (d := 38) hF rfl (fun g1_33 => ?_) (fun g1_33 => ?_)
  ·
   have g1_33' := g1_33; try simp only [qq] at g1_33'
   refine zn hF rfl g1_33 fun a hF => ?_
   refine zn hF rfl g1_33 fun a hF => ?_
   refine zn hF rfl g1_33 fun a hF => ?_
   refine zn hF rfl g1_33 fun a hF => ?_
   refine zn hF rfl g1_33 fun a hF => ?_
   refine zl hF rfl (r_pickf hF rfl rfl g1_33 rfl) fun a hF => ?_
   refine zm 1 hF rfl fun a hF => ?_
   refine zn hF rfl rfl fun a hF => ?_
   refine zn hF rfl rfl fun a hF => ?_
   refine zn hF rfl rfl fun a hF => ?_
   refine zn hF rfl rfl fun a hF => ?_
   refine zn hF rfl rfl fun a hF => ?_
   refine zl hF rfl (r_pickf hF rfl rfl rfl rfl) fun a hF => ?_
   refine zm 1 hF rfl fun a hF => ?_
   refine c_n ?_
   replace hF := hF.sel [4]
   simp only [ss, Nat.reduceBEq] at hF
   refine wp_ret (hret (ret1 hF Tryz.results11 rfl ?_))
   first
     | exact ⟨by rw [decide_eq_false (fun e => by subst e; first | contradiction | simp_all)], hH.below⟩
     | refine ⟨?_, hH.below⟩
       have hs : x.has = y.has := by simp_all
       have h1 : x.hd = y.hd := by assumption
       have h2 : x.qs = y.qs := by assumption
       have h3 : x.ans = y.ans := by assumption
       have h4 : x.auth = y.auth := by assumption
       have h5 : x.extra = y.extra := by assumption
       obtain ⟨x1, x2, x3, x4, x5, x6, x7⟩ := x
       obtain ⟨y1, y2, y3, y4, y5, y6, y7⟩ := y
       simp only at hs h1 h2 h3 h4 h5
       subst hs h1 h2 h3 h4 h5
       simp
  have g1_33' := g1_33; try simp only [qq] at g1_33'
  refine zy hF rfl g1_33 (r_fieldaddr0 hF rfl rfl fd37_5) fun a hF => ?_
  refine zy hF rfl g1_33 (r_load hF rfl rfl fl4 (own_cell (i := 1) (v := .bool x.has) hH rfl rfl)) fun a hF => ?_
  refine zy hF rfl g1_33 (r_fieldaddr0 hF rfl rfl fd37_5) fun a hF => ?_
  refine zy hF rfl g1_33 (r_load hF rfl rfl fl4 (own_cell (i := 0) (v := .bool y.has) hH rfl rfl)) fun a hF => ?_
  refine zy hF rfl g1_33 (zr hF rfl rfl (b_beq _ _ _ Tryz.underlying4)) fun a hF => ?_
  refine zl hF rfl (r_pickt hF rfl rfl g1_33 rfl) fun a hF => ?_
  refine zm 1 hF rfl fun a hF => ?_
  refine l_ask (d := 45) hF rfl (fun g1_40 => ?_) (fun g1_40 => ?_)
  ·
   have g1_40' := g1_40; try simp only [qq] at g1_40'
   refine zn hF rfl g1_40 fun a hF => ?_
   refine zn hF rfl g1_40 fun a hF => ?_
   refine zn hF rfl g1_40 fun a hF => ?_
   refine zn hF rfl g1_40 fun a hF => ?_
   refine zn hF rfl g1_40 fun a hF => ?_
   refine zl hF rfl (r_pickf hF rfl rfl g1_40 rfl) fun a hF => ?_
   refine zm 1 hF rfl fun a hF => ?_
   refine c_n ?_
   replace hF := hF.sel [4]
   simp only [ss, Nat.reduceBEq] at hF
   refine wp_ret (hret (ret1 hF Tryz.results11 rfl ?_))
   first
     | exact ⟨by rw [decide_eq_false (fun e => by subst e; first | contradiction | simp_all)], hH.below⟩
     | refine ⟨?_, hH.below⟩
       have hs : x.has = y.has := by simp_all
       have h1 : x.hd = y.hd := by assumption
       have h2 : x.qs = y.qs := by assumption
       have h3 : x.ans = y.ans := by assumption
       have h4 : x.auth = y.auth := by assumption
       have h5 : x.extra = y.extra := by assumption
       obtain ⟨x1, x2, x3, x4, x5, x6, x7⟩ := x
       obtain ⟨y1, y2, y3, y4, y5, y6, y7⟩ := y
       simp only at hs h1 h2 h3 h4 h5
       subst hs h1 h2 h3 h4 h5
       simp
  have g1_40' := g1_40; try simp only [qq] at g1_40'
  refine zy hF rfl g1_40 (r_fieldaddr0 hF rfl rfl fd37_6) fun a hF => ?_
  refine zy hF rfl g1_40 (r_loadagg hF rfl rfl Tryz.underlying35 ti35 rfl (mem_sub (off := 16) (cs := edV x.ed ov) hH (List.mem_cons_of_mem _ (List.mem_singleton.2 rfl)) (msgV_edns x _ _ _ _ _))) fun a hF => ?_
  refine zy hF rfl g1_40 (r_fieldaddr0 hF rfl rfl fd37_6) fun a hF => ?_
  refine zy hF rfl g1_40 (r_loadagg hF rfl rfl Tryz.underlying35 ti35 rfl (mem_sub (off := 16) (cs := edV y.ed ow) hH (List.mem_cons_self) (msgV_edns y _ _ _ _ _))) fun a hF => ?_
  refine zyc hF rfl g1_40 rfl fn33 (same6_spec x.ed y.ed ov ow _ (hx.opts.ext hH.below) (hy.opts.ext hH.below) (by omega)) ?_
  rintro _ w ⟨rfl, hE⟩ a hF
  replace hH := hH.ext hE
  refine zl hF rfl (r_pickt hF rfl rfl g1_40 rfl) fun a hF => ?_
  refine zm 1 hF rfl fun a hF => ?_
  refine c_n ?_
  replace hF := hF.sel [4]
  simp only [ss, Nat.reduceBEq] at hF
  refine wp_ret (hret (ret1 hF Tryz.results11 rfl ?_))
  first
    | exact ⟨by rw [decide_eq_false (fun e => by subst e; first | contradiction | simp_all)], hH.below⟩
    | refine ⟨?_, hH.below⟩
      have hs : x.has = y.has := by simp_all
      have h1 : x.hd = y.hd := by assumption
      have h2 : x.qs = y.qs := by assumption
      have h3 : x.ans = y.ans := by assumption
      have h4 : x.auth = y.auth := by assumption
      have h5 : x.extra = y.extra := by assumption
      obtain ⟨x1, x2, x3, x4, x5, x6, x7⟩ := x
      obtain ⟨y1, y2, y3, y4, y5, y6, y7⟩ := y
      simp only at hs h1 h2 h3 h4 h5
      subst hs h1 h2 h3 h4 h5
      simp
end Go.Proofs.YtpoebplhemimmaaGreatDoor
