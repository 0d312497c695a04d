/-
  The walks of verdict.End, hustingsref11.End, hustingslaw11.spoil, and VerdictTells. Nothing is claimed here.
-/
import Derived.Test.YtcelgjabccgnmaaGreatDoorVLawE
namespace Go.Proofs.YtcelgjabccgnmaaGreatDoor
open Go.RowKit
set_option linter.unusedVariables false
set_option linter.unusedSimpArgs false
set_option maxHeartbeats 1000000

theorem endV_nil {kind : Nat} {x : Verd} (h : x.sets.length = 0) : endV kind x = none := by
  unfold endV; rw [List.eq_nil_of_length_eq_zero h]; rfl
theorem endV_last {kind : Nat} {x : Verd} (h : x.sets.length - 1 < x.sets.length) : endV kind x = if (x.sets[x.sets.length - 1]).kind = kind then some x.sets[x.sets.length - 1] else none := by
  unfold endV; rw [List.getLast?_eq_getElem?, List.getElem?_eq_getElem h]
theorem endV_mem {kind : Nat} {x : Verd} {p : RSet → Prop} (h : ∀ s ∈ x.sets, p s) (h0 : p noSet) : p ((endV kind x).getD noSet) := by
  by_cases hn : x.sets.length = 0
  · rw [endV_nil hn]; exact h0
  · rw [endV_last (by omega)]
    split
    · exact h _ (List.getElem_mem _)
    · exact h0
theorem vEnd_spec (q : Que) (x : Verd) (sv ov : Value) (w0 : World) (hR : VerdR w0 x sv ov) (hx : VerdM x) :
    Rets Tryz.prog 45 [.agg (quV q).toArray, .agg (verdV x sv ov).toArray] w0 fun r w' => ∃ dv B, r = .tuple #[.agg (setV ((endV q.kind x).getD noSet) dv).toArray, .bool (endV q.kind x).isSome] ∧ Hp w0 w' B ∧
      Sl 9 1 B dv ((endV q.kind x).getD noSet).data.length (strV ((endV q.kind x).getD noSet).data) := by
  have hH := Hp.refl w0
  have hsl := hx.setsL
  obtain ⟨sad, scp, rfl⟩ := hR.sets.shapeK
  refine rets_start Tryz.func45 rfl Tryz.ntmps45 rfl fun a Q0 hF hret hend => ?_
  simp only [argsFrom, Nat.zero_add, Nat.reduceAdd] at hF
  refine c_sr fun ops => ?_
  refine ls_box hF hH rfl rfl rfl rfl rfl ?_
  intro a w g0_0 hH hE hF
  refine ls_box hF hH rfl rfl rfl rfl rfl ?_
  intro a w g0_1 hH hE hF
  refine ls_alloc hF hH rfl rfl rfl rfl zv27 ?_
  intro a w g0_2 hH hE hF
  refine zm 1 hF rfl fun a hF => ?_
  refine c_n ?_
  replace hF := hF.sel [2, 3, 4]
  simp only [ss, Nat.reduceBEq] at hF
  simp only [cells_agg] at hH
  refine c_sr fun ops => ?_
  refine zl hF rfl (r_fieldaddr0 hF rfl rfl fd65_1) fun a hF => ?_
  refine zl hF rfl (r_load hF rfl rfl fl22 (own_cell (i := 1) hH rfl rfl)) fun a hF => ?_
  refine zl hF rfl (r_len_sl hF rfl rfl Tryz.underlying22) fun a hF => ?_
  refine zm 1 hF rfl fun a hF => ?_
  refine c_n ?_
  replace hF := hF.sel [2, 3, 4, 6]
  simp only [ss, Nat.reduceBEq] at hF
  refine c_seq fun Q1 k1 t1 => ?_
  refine c_seq fun Q2 k2 t2 => ?_
  refine q_reg (by kernel_rfl) (by kernel_rfl) ?_
  refine qs hF rfl rfl rfl (fun w hw => r_move hF rfl rfl) fun a hF => ?_
  refine qs hF rfl rfl rfl (fun w hw => zr hF rfl rfl (b_eqn _ _ _ 0)) fun a hF => ?_
  refine qs hF rfl rfl rfl (fun w hw => r_move hF rfl rfl) fun a hF => ?_
  refine q_ask (d := 13) hF rfl (fun g2_2 => ?_) (fun g2_2 => ?_)
  ·
   have g2_2' := g2_2; try simp only [qq] at g2_2'
   refine qsn hF rfl rfl rfl g2_2 rfl rfl fun a hF => ?_
   refine qsn hF rfl rfl rfl g2_2 rfl rfl fun a hF => ?_
   refine qsn hF rfl rfl rfl g2_2 rfl rfl fun a hF => ?_
   refine qsn hF rfl rfl rfl g2_2 rfl rfl fun a hF => ?_
   refine qsn hF rfl rfl rfl g2_2 rfl rfl fun a hF => ?_
   refine qsn hF rfl rfl rfl g2_2 rfl rfl fun a hF => ?_
   refine qsn hF rfl rfl rfl g2_2 rfl rfl fun a hF => ?_
   refine qsn hF rfl rfl rfl g2_2 rfl rfl fun a hF => ?_
   refine qsn hF rfl rfl rfl g2_2 rfl rfl fun a hF => ?_
   refine qsn hF rfl rfl rfl g2_2 rfl rfl fun a hF => ?_
   refine qs hF rfl rfl rfl (fun w hw => r_pickt hF rfl rfl g2_2 rfl) fun a hF => ?_
   refine q_nil fun w hE => ?_
   replace hH := hH.ext hE
   replace hF := hF.sel [3, 4, 6, 24]
   simp only [ss, Nat.reduceBEq] at hF
   refine k2 ?_
   refine c_yes hF rfl rfl ?_
   refine c_sr fun ops => ?_
   refine zl hF rfl (r_build hF rfl rfl (bd27 _)) fun a hF => ?_
   refine ls_storeagg 0 hF hH rfl rfl rfl rfl rfl ti27 rfl (rfl) (rfl) (by simp [Value.oneCell']) ?_
   intro w hH
   refine zm 1 hF rfl fun a hF => ?_
   refine c_n ?_
   replace hF := hF.sel [4, 5]
   simp only [ss, Nat.reduceBEq] at hF
   refine wp_ret (t1.ret (hret (retc2 (fn := Tryz.f45) (t := 4) (u := 5) (i := 0) hF hH Tryz.results45 rfl rfl (by kernel_rfl) ti27 rfl rfl ?_)))
   have hEv : endV q.kind x = none := by
     first
       | exact endV_nil g2_2'
       | rw [endV_last (by omega), if_neg h24]
   exact ⟨.slice none 0 0, [], by rw [hEv]; rfl, hH.sub (List.nil_sublist _), by rw [hEv]; exact Sl.nil _ _⟩
  have g2_2' := g2_2; try simp only [qq] at g2_2'
  obtain ⟨b, off, dv, e1, hset, hdv⟩ := hR.sets.at (i := x.sets.length - 1) (by omega)
  rw [e1] at hH
  refine qsy hF rfl rfl rfl g2_2 rfl rfl (fun w hw => r_fieldaddr0 hF rfl rfl fd65_1) fun a hF => ?_
  refine qsy hF rfl rfl rfl g2_2 rfl rfl (fun w hw => r_load hF rfl rfl fl22 (hw.cell (own_cell (i := 1) hH rfl rfl))) fun a hF => ?_
  refine qsy hF rfl rfl rfl g2_2 rfl rfl (fun w hw => r_move hF rfl rfl) fun a hF => ?_
  refine qsy hF rfl rfl rfl g2_2 rfl rfl (fun w hw => zr hF rfl rfl (b_subn _ _ 1 (by omega))) fun a hF => ?_
  refine qsy hF rfl rfl rfl g2_2 rfl rfl (fun w hw => r_indexaddr hF _ rfl rfl rfl Tryz.underlying22 ti27 (by omega)) fun a hF => ?_
  refine qsy hF rfl rfl rfl g2_2 rfl rfl (fun w hw => r_fieldaddr hF rfl rfl fd27_1) fun a hF => ?_
  refine qsy hF rfl rfl rfl g2_2 rfl rfl (fun w hw => r_load hF rfl rfl fl23 (hw.cell (hH.cell (hset 1 _ rfl)))) fun a hF => ?_
  refine qsy hF rfl rfl rfl g2_2 rfl rfl (fun w hw => r_fieldaddr0 hF rfl rfl fd49_1) fun a hF => ?_
  refine qsy hF rfl rfl rfl g2_2 rfl rfl (fun w hw => r_load hF rfl rfl fl23 (hw.cell (own_cell (i := 2) hH rfl rfl))) fun a hF => ?_
  refine qsy hF rfl rfl rfl g2_2 rfl rfl (fun w hw => zr hF rfl rfl (b_nen _ _ _ _)) fun a hF => ?_
  refine qs hF rfl rfl rfl (fun w hw => r_pickf hF rfl rfl g2_2 rfl) fun a hF => ?_
  refine q_nil fun w hE => ?_
  replace hH := hH.ext hE
  replace hF := hF.sel [3, 4, 6, 24]
  simp only [ss, Nat.reduceBEq] at hF
  refine k2 ?_
  refine c_if hF rfl (fun h24 => ?_) (fun h24 => ?_)
  ·
   try simp only [qq] at h24
   refine c_sr fun ops => ?_
   refine zl hF rfl (r_build hF rfl rfl (bd27 _)) fun a hF => ?_
   refine ls_storeagg 0 hF hH rfl rfl rfl rfl rfl ti27 rfl (rfl) (rfl) (by simp [Value.oneCell']) ?_
   intro w hH
   refine zm 1 hF rfl fun a hF => ?_
   refine c_n ?_
   replace hF := hF.sel [4, 5]
   simp only [ss, Nat.reduceBEq] at hF
   refine wp_ret (t1.ret (hret (retc2 (fn := Tryz.f45) (t := 4) (u := 5) (i := 0) hF hH Tryz.results45 rfl rfl (by kernel_rfl) ti27 rfl rfl ?_)))
   have hEv : endV q.kind x = none := by
     first
       | exact endV_nil g2_2'
       | rw [endV_last (by omega), if_neg h24]
   exact ⟨.slice none 0 0, [], by rw [hEv]; rfl, hH.sub (List.nil_sublist _), by rw [hEv]; exact Sl.nil _ _⟩
  try simp only [qq] at h24
  have hEv : endV q.kind x = some x.sets[x.sets.length - 1] := by rw [endV_last (by omega), if_pos h24]
  have hdl := hx.sets _ (List.getElem_mem (show x.sets.length - 1 < x.sets.length by omega))
  obtain ⟨dad, dcp, rfl⟩ := hdv.shape
  refine wp_skip ?_
  refine k1 ?_
  refine c_sr fun ops => ?_
  refine zl hF rfl (r_fieldaddr0 hF rfl rfl fd65_1) fun a hF => ?_
  refine zl hF rfl (r_load hF rfl rfl fl22 (own_cell (i := 1) hH rfl rfl)) fun a hF => ?_
  refine zm 1 hF rfl fun a hF => ?_
  refine zb hF rfl rfl rfl (b_subn _ _ 1 (by omega)) fun a hF => ?_
  refine zl hF rfl (r_indexaddr hF _ rfl rfl rfl Tryz.underlying22 ti27 (by omega)) fun a hF => ?_
  refine zl hF rfl (r_loadagg hF rfl rfl Tryz.underlying27 ti27 rfl (fun j u hu => hH.cell (hset j u hu))) fun a hF => ?_
  refine ls_alloc hF hH rfl rfl rfl rfl zv27 ?_
  intro a w g4_6 hH hE hF
  refine ls_storeagg 0 hF hH rfl rfl rfl rfl rfl ti27 rfl (rfl) (rfl) (by simp [setV, cells_agg, Value.oneCell']) ?_
  intro w hH
  simp only [List.set_cons_zero] at hH
  refine c_n ?_
  replace hF := hF.sel [4, 7]
  simp only [ss, Nat.reduceBEq] at hF
  refine c_sr fun ops => ?_
  refine zl hF rfl (r_fieldaddr0 hF rfl rfl fd27_4) fun a hF => ?_
  refine zl hF rfl (r_load hF rfl rfl fl25 (own_cell (i := 0) hH rfl rfl)) fun a hF => ?_
  refine zc hF rfl rfl fn53 (clone_spec (hdv.ext hH.below) hdl) ?_
  rintro v34 w ⟨B, hB, hS⟩ a hF
  replace hH := hH.join hB
  refine zl hF rfl (r_fieldaddr0 hF rfl rfl fd27_4) fun a hF => ?_
  replace hH := hH.fromB
  refine ls_store 0 hF hH rfl rfl rfl rfl rfl fl25 ti25 rfl (by simp [setV]) (by simp [noFreeze]) (hS.one) ?_
  intro w hH
  simp only [List.set_cons_zero] at hH
  refine c_n ?_
  replace hF := hF.sel [4, 7]
  simp only [ss, Nat.reduceBEq] at hF
  refine c_sr fun ops => ?_
  refine zl hF rfl (r_loadagg hF rfl rfl Tryz.underlying27 ti27 rfl (own_agg (i := 0) hH rfl)) fun a hF => ?_
  replace hH := hH.perm (((List.Perm.cons _ List.perm_middle).trans (List.Perm.swap _ _ _)).symm)
  obtain ⟨nad, ncp, rfl⟩ := hS.shape
  refine ls_storeagg 0 hF hH rfl rfl rfl rfl rfl ti27 rfl (rfl) (rfl) (by simp [setV, cells_agg, Value.oneCell']) ?_
  intro w hH
  simp only [List.set_cons_zero] at hH
  refine zm 1 hF rfl fun a hF => ?_
  refine c_n ?_
  replace hF := hF.sel [4, 5]
  simp only [ss, Nat.reduceBEq] at hF
  refine wp_ret (hret (retc2 (fn := Tryz.f45) (t := 4) (u := 5) (i := 0) hF hH Tryz.results45 rfl rfl (by kernel_rfl) ti27 rfl rfl ?_))
  exact ⟨_, B, by rw [hEv]; rfl, hH.drop.drop.sub (List.sublist_append_left _ _), by rw [hEv]; exact hS⟩
theorem refEnd_spec (q : Que) (x : Verd) (sv ov : Value) (w0 : World) (hR : VerdR w0 x sv ov) (hx : VerdM x) :
    Rets Tryz.prog 49 [.agg (quV q).toArray, .agg (verdV x sv ov).toArray] w0 fun r w' => ∃ dv, r = .tuple #[.agg (setV ((endV q.kind x).getD noSet) dv).toArray, .bool (endV q.kind x).isSome] ∧ Ext w0 w' ∧
      RSl w0 1 dv ((endV q.kind x).getD noSet).data.length (strV ((endV q.kind x).getD noSet).data) := by
  have hH := Hp.refl w0
  have hsl := hx.setsL
  obtain ⟨sad, scp, rfl⟩ := hR.sets.shapeK
  refine rets_start Tryz.func49 rfl Tryz.ntmps49 rfl fun a Q0 hF hret hend => ?_
  simp only [argsFrom, Nat.zero_add, Nat.reduceAdd] at hF
  refine c_sr fun ops => ?_
  refine ls_box hF hH rfl rfl rfl rfl rfl ?_
  intro a w g0_0 hH hE hF
  refine ls_box hF hH rfl rfl rfl rfl rfl ?_
  intro a w g0_1 hH hE hF
  refine ls_alloc hF hH rfl rfl rfl rfl zv27 ?_
  intro a w g0_2 hH hE hF
  refine zm 1 hF rfl fun a hF => ?_
  refine c_n ?_
  replace hF := hF.sel [2, 3, 4]
  simp only [ss, Nat.reduceBEq] at hF
  simp only [cells_agg] at hH
  refine c_sr fun ops => ?_
  refine zl hF rfl (r_fieldaddr0 hF rfl rfl fd65_1) fun a hF => ?_
  refine zl hF rfl (r_load hF rfl rfl fl22 (own_cell (i := 1) hH rfl rfl)) fun a hF => ?_
  refine zl hF rfl (r_len_sl hF rfl rfl Tryz.underlying22) fun a hF => ?_
  refine zm 1 hF rfl fun a hF => ?_
  refine c_n ?_
  replace hF := hF.sel [2, 3, 4, 6]
  simp only [ss, Nat.reduceBEq] at hF
  refine c_seq fun Q1 k1 t1 => ?_
  refine c_seq fun Q2 k2 t2 => ?_
  refine q_reg (by kernel_rfl) (by kernel_rfl) ?_
  refine qs hF rfl rfl rfl (fun w hw => r_move hF rfl rfl) fun a hF => ?_
  refine qs hF rfl rfl rfl (fun w hw => zr hF rfl rfl (b_eqn _ _ _ 0)) fun a hF => ?_
  refine qs hF rfl rfl rfl (fun w hw => r_move hF rfl rfl) fun a hF => ?_
  refine q_ask (d := 12) hF rfl (fun g2_2 => ?_) (fun g2_2 => ?_)
  ·
   have g2_2' := g2_2; try simp only [qq] at g2_2'
   refine qsn hF rfl rfl rfl g2_2 rfl rfl fun a hF => ?_
   refine qsn hF rfl rfl rfl g2_2 rfl rfl fun a hF => ?_
   refine qsn hF rfl rfl rfl g2_2 rfl rfl fun a hF => ?_
   refine qsn hF rfl rfl rfl g2_2 rfl rfl fun a hF => ?_
   refine qsn hF rfl rfl rfl g2_2 rfl rfl fun a hF => ?_
   refine qsn hF rfl rfl rfl g2_2 rfl rfl fun a hF => ?_
   refine qsn hF rfl rfl rfl g2_2 rfl rfl fun a hF => ?_
   refine qsn hF rfl rfl rfl g2_2 rfl rfl fun a hF => ?_
   refine qsn hF rfl rfl rfl g2_2 rfl rfl fun a hF => ?_
   refine qsn hF rfl rfl rfl g2_2 rfl rfl fun a hF => ?_
   refine qs hF rfl rfl rfl (fun w hw => r_pickt hF rfl rfl g2_2 rfl) fun a hF => ?_
   refine q_nil fun w hE => ?_
   replace hH := hH.ext hE
   replace hF := hF.sel [3, 4, 6, 23]
   simp only [ss, Nat.reduceBEq] at hF
   refine k2 ?_
   refine c_yes hF rfl rfl ?_
   refine c_sr fun ops => ?_
   refine zl hF rfl (r_build hF rfl rfl (bd27 _)) fun a hF => ?_
   refine ls_storeagg 0 hF hH rfl rfl rfl rfl rfl ti27 rfl (rfl) (rfl) (by simp [Value.oneCell']) ?_
   intro w hH
   refine zm 1 hF rfl fun a hF => ?_
   refine c_n ?_
   replace hF := hF.sel [4, 5]
   simp only [ss, Nat.reduceBEq] at hF
   refine wp_ret (t1.ret (hret (retc2 (fn := Tryz.f49) (t := 4) (u := 5) (i := 0) hF hH Tryz.results49 rfl rfl (by kernel_rfl) ti27 rfl rfl ?_)))
   have hEv : endV q.kind x = none := by
     first
       | exact endV_nil g2_2'
       | rw [endV_last (by omega), if_neg h23]
   exact ⟨.slice none 0 0, by rw [hEv]; rfl, hH.below, by rw [hEv]; exact RSl.nil _ _⟩
  have g2_2' := g2_2; try simp only [qq] at g2_2'
  obtain ⟨b, off, dv, e1, hset, hdv⟩ := hR.sets.at (i := x.sets.length - 1) (by omega)
  rw [e1] at hH
  refine qsy hF rfl rfl rfl g2_2 rfl rfl (fun w hw => r_fieldaddr0 hF rfl rfl fd65_1) fun a hF => ?_
  refine qsy hF rfl rfl rfl g2_2 rfl rfl (fun w hw => r_load hF rfl rfl fl22 (hw.cell (own_cell (i := 1) hH rfl rfl))) fun a hF => ?_
  refine qsy hF rfl rfl rfl g2_2 rfl rfl (fun w hw => r_move hF rfl rfl) fun a hF => ?_
  refine qsy hF rfl rfl rfl g2_2 rfl rfl (fun w hw => zr hF rfl rfl (b_subn _ _ 1 (by omega))) fun a hF => ?_
  refine qsy hF rfl rfl rfl g2_2 rfl rfl (fun w hw => r_indexaddr hF _ rfl rfl rfl Tryz.underlying22 ti27 (by omega)) fun a hF => ?_
  refine qsy hF rfl rfl rfl g2_2 rfl rfl (fun w hw => r_fieldaddr hF rfl rfl fd27_1) fun a hF => ?_
  refine qsy hF rfl rfl rfl g2_2 rfl rfl (fun w hw => r_load hF rfl rfl fl23 (hw.cell (hH.cell (hset 1 _ rfl)))) fun a hF => ?_
  refine qsy hF rfl rfl rfl g2_2 rfl rfl (fun w hw => r_fieldaddr0 hF rfl rfl fd49_1) fun a hF => ?_
  refine qsy hF rfl rfl rfl g2_2 rfl rfl (fun w hw => r_load hF rfl rfl fl23 (hw.cell (own_cell (i := 2) hH rfl rfl))) fun a hF => ?_
  refine qsy hF rfl rfl rfl g2_2 rfl rfl (fun w hw => zr hF rfl rfl (b_nen _ _ _ _)) fun a hF => ?_
  refine qs hF rfl rfl rfl (fun w hw => r_pickf hF rfl rfl g2_2 rfl) fun a hF => ?_
  refine q_nil fun w hE => ?_
  replace hH := hH.ext hE
  replace hF := hF.sel [3, 4, 6, 23]
  simp only [ss, Nat.reduceBEq] at hF
  refine k2 ?_
  refine c_if hF rfl (fun h23 => ?_) (fun h23 => ?_)
  ·
   try simp only [qq] at h23
   refine c_sr fun ops => ?_
   refine zl hF rfl (r_build hF rfl rfl (bd27 _)) fun a hF => ?_
   refine ls_storeagg 0 hF hH rfl rfl rfl rfl rfl ti27 rfl (rfl) (rfl) (by simp [Value.oneCell']) ?_
   intro w hH
   refine zm 1 hF rfl fun a hF => ?_
   refine c_n ?_
   replace hF := hF.sel [4, 5]
   simp only [ss, Nat.reduceBEq] at hF
   refine wp_ret (t1.ret (hret (retc2 (fn := Tryz.f49) (t := 4) (u := 5) (i := 0) hF hH Tryz.results49 rfl rfl (by kernel_rfl) ti27 rfl rfl ?_)))
   have hEv : endV q.kind x = none := by
     first
       | exact endV_nil g2_2'
       | rw [endV_last (by omega), if_neg h23]
   exact ⟨.slice none 0 0, by rw [hEv]; rfl, hH.below, by rw [hEv]; exact RSl.nil _ _⟩
  try simp only [qq] at h23
  have hEv : endV q.kind x = some x.sets[x.sets.length - 1] := by rw [endV_last (by omega), if_pos h23]
  obtain ⟨dad, dcp, rfl⟩ := hdv.shape
  refine wp_skip ?_
  refine k1 ?_
  refine c_sr fun ops => ?_
  refine zl hF rfl (r_fieldaddr0 hF rfl rfl fd65_1) fun a hF => ?_
  refine zl hF rfl (r_load hF rfl rfl fl22 (own_cell (i := 1) hH rfl rfl)) fun a hF => ?_
  refine zm 1 hF rfl fun a hF => ?_
  refine zb hF rfl rfl rfl (b_subn _ _ 1 (by omega)) fun a hF => ?_
  refine zl hF rfl (r_indexaddr hF _ rfl rfl rfl Tryz.underlying22 ti27 (by omega)) fun a hF => ?_
  refine zl hF rfl (r_loadagg hF rfl rfl Tryz.underlying27 ti27 rfl (fun j u hu => hH.cell (hset j u hu))) fun a hF => ?_
  refine ls_storeagg 0 hF hH rfl rfl rfl rfl rfl ti27 rfl (rfl) (rfl) (by simp [setV, cells_agg, Value.oneCell']) ?_
  intro w hH
  refine zm 1 hF rfl fun a hF => ?_
  refine c_n ?_
  replace hF := hF.sel [4, 5]
  simp only [ss, Nat.reduceBEq] at hF
  refine wp_ret (hret (retc2 (fn := Tryz.f49) (t := 4) (u := 5) (i := 0) hF hH Tryz.results49 rfl rfl (by kernel_rfl) ti27 rfl rfl ?_))
  exact ⟨_, by rw [hEv]; rfl, hH.below, by rw [hEv]; exact hdv⟩

/-! ### Written over -/
theorem two_at {g i : Nat} (h : i < 2) : ∃ ad nn cp, (#[Value.slice (some ⟨g, 0, none⟩) 1 1, Value.slice none 0 0] : Array Value)[i]? = some (.slice ad nn cp) ∧ nn ≤ 1 ∧ (0 < nn → ad = some ⟨g, 0, none⟩ ∧ nn = 1 ∧ cp = 1) := by
  have hi : i = 0 ∨ i = 1 := by omega
  rcases hi with rfl | rfl
  · exact ⟨_, 1, 1, rfl, Nat.le_refl _, fun _ => ⟨rfl, rfl, rfl⟩⟩
  · exact ⟨_, 0, 0, rfl, Nat.zero_le _, fun h => absurd h (by decide)⟩
def spoiltB : Bs := [115, 112, 111, 105, 108, 116]
theorem spoil1_spec {w0 w1 : World} {g : Nat} {s : RSet} {dv : Value} {B H : List (Nat × Obj)} (hH0 : Hp w0 w1 ((g, .cells (setV s dv).toArray 27 (0, 0)) :: (B ++ H))) (hS0 : Sl 9 1 B dv s.data.length (strV s.data)) (hl : s.data.length < 1000000) :
    Rets Tryz.prog 51 [.agg #[.int .u8 0, .slice (some ⟨g, 0, none⟩) 1 1, .slice none 0 0]] w1 fun r w' => r = .tuple #[] ∧ Hp w0 w' H := by
  have hH := hH0
  refine rets_start Tryz.func51 rfl Tryz.ntmps51 rfl fun a Q0 hF hret hend => ?_
  simp only [argsFrom, Nat.zero_add, Nat.reduceAdd] at hF
  refine c_sr fun ops => ?_
  refine ls_box hF hH rfl rfl rfl rfl rfl ?_
  intro a w g0_0 hH hE hF
  refine c_n ?_
  replace hF := hF.sel [1]
  simp only [ss, Nat.reduceBEq] at hF
  simp only [cells_agg] at hH
  refine c_sr fun ops => ?_
  refine zl hF rfl (r_fieldaddr0 hF rfl rfl fd65_1) fun a hF => ?_
  refine zl hF rfl (r_load hF rfl rfl fl22 (own_cell (i := 0) hH rfl rfl)) fun a hF => ?_
  refine zl hF rfl (r_fieldaddr0 hF rfl rfl fd65_2) fun a hF => ?_
  refine zl hF rfl (r_load hF rfl rfl fl22 (own_cell (i := 0) hH rfl rfl)) fun a hF => ?_
  refine ls_buildN (us := [_, _]) hF hH rfl rfl rfl rfl rfl rfl Tryz.underlying126 ti22 (by intro u hu; simp only [List.mem_cons, List.not_mem_nil, or_false] at hu; rcases hu with rfl | rfl <;> rfl) (by decide) ?_
  intro a w g1_4 hH hE hF
  refine zm 1 hF rfl fun a hF => ?_
  refine c_n ?_
  replace hF := hF.sel [2]
  simp only [ss, Nat.reduceBEq] at hF
  refine c_sr fun ops => ?_
  refine zm 1 hF rfl fun a hF => ?_
  refine c_n ?_
  replace hF := hF.sel [2, 3]
  simp only [ss, Nat.reduceBEq] at hF
  refine c_block fun Q1 t1 => ?_
  refine c_loop (fun n a w => ∃ i B s dv, n = 2 - i ∧ i ≤ 2 ∧ Fr 56 [(2, .slice (some ⟨g1_4, 0, none⟩) 2 2), (3, .int .i64 (i : Nat))] a ∧ Hp w0 w ((g1_4, .cells #[.slice (some ⟨g, 0, none⟩) 1 1, .slice none 0 0] 22 (0, 0)) :: (g0_0, .cells #[.int .u8 0, .slice (some ⟨g, 0, none⟩) 1 1, .slice none 0 0] 65 (0, 0)) :: (g, .cells (setV s dv).toArray 27 (0, 0)) :: (B ++ H)) ∧ Sl 9 1 B dv s.data.length (strV s.data) ∧ s.data.length < 1000000) ?_ ?_
  ·
   exact ⟨_, 0, B, s, dv, rfl, Nat.zero_le _, hF.keep [2, 3] rfl, hH, hS0, hl⟩
  clear hH hF hS0 hl hH0
  intro n a w hI Q2 k2 t2
  obtain ⟨i, B, s, dv, hm, hi, hF, hH, hS, hl⟩ := hI
  refine c_seq fun Q3 k3 t3 => ?_
  refine c_sr fun ops => ?_
  refine zm 2 hF rfl fun a hF => ?_
  refine zl hF rfl (r_len_sl hF rfl rfl Tryz.underlying126) fun a hF => ?_
  refine zb hF rfl rfl rfl (b_ltn _ _ _ _) fun a hF => ?_
  refine c_n ?_
  refine c_fi hF rfl (fun h14 => ?_) (fun h14 => ?_)
  ·
   try simp only [qq] at h14
   refine wp_exit (t3.exit (t2.exit (t1.here (?_))))
   refine hend (fall0 (fn := Tryz.f51) hF Tryz.results51 ?_)
   exact ⟨rfl, hH.drop.drop.drop.sub (List.sublist_append_right _ _)⟩
  try simp only [qq] at h14
  obtain ⟨ad, nn, cp, hci, hn1, hnn⟩ := two_at (g := g) h14
  refine wp_skip ?_
  refine k3 ?_
  refine c_seq fun Q4 k4 t4 => ?_
  refine c_block fun Q5 t5 => ?_
  refine c_sr fun ops => ?_
  refine zm 1 hF rfl fun a hF => ?_
  refine c_n ?_
  refine c_block fun Q6 t6 => ?_
  refine c_loop (fun n a w => ∃ k B s dv, n = nn - k ∧ k ≤ nn ∧ Fr 56 [(2, .slice (some ⟨g1_4, 0, none⟩) 2 2), (3, .int .i64 (i : Nat)), (4, .int .i64 (k : Nat))] a ∧ Hp w0 w ((g1_4, .cells #[.slice (some ⟨g, 0, none⟩) 1 1, .slice none 0 0] 22 (0, 0)) :: (g0_0, .cells #[.int .u8 0, .slice (some ⟨g, 0, none⟩) 1 1, .slice none 0 0] 65 (0, 0)) :: (g, .cells (setV s dv).toArray 27 (0, 0)) :: (B ++ H)) ∧ Sl 9 1 B dv s.data.length (strV s.data) ∧ s.data.length < 1000000) ?_ ?_
  ·
   exact ⟨_, 0, B, s, dv, rfl, Nat.zero_le _, hF.keep [2, 3, 4] rfl, hH, hS, hl⟩
  clear hH hF hS hl
  intro n a w hI Q7 k7 t7
  obtain ⟨k, B, s, dv, hm1, hk, hF, hH, hS, hl⟩ := hI
  refine c_seq fun Q8 k8 t8 => ?_
  refine c_sr fun ops => ?_
  refine zm 3 hF rfl fun a hF => ?_
  refine zl hF rfl (r_ixown1 hF _ rfl rfl rfl Tryz.underlying126 ti22 (by omega)) fun a hF => ?_
  refine zl hF rfl (r_load hF rfl rfl fl22 (own_cell (i := 0) hH rfl hci)) fun a hF => ?_
  refine zl hF rfl (r_len_sl hF rfl rfl Tryz.underlying22) fun a hF => ?_
  refine zb hF rfl rfl rfl (b_ltn _ _ _ _) fun a hF => ?_
  refine c_n ?_
  refine c_fi hF rfl (fun h23 => ?_) (fun h23 => ?_)
  ·
   try simp only [qq] at h23
   refine wp_exit (t8.exit (t7.exit (t6.here (?_))))
   refine t5.norm ?_
   refine k4 ?_
   refine c_reg fun ops => ?_
   refine zm 1 hF rfl fun a hF => ?_
   refine zb hF rfl rfl rfl (b_addn _ _ 1 (by omega)) fun a hF => ?_
   refine zm 1 hF rfl fun a hF => ?_
   refine wpList_nil ?_
   refine k2 ?_
   exact ⟨2 - (i + 1), by omega, i + 1, B, s, dv, rfl, h14, hF.keep [2, 3] rfl, hH, hS, hl⟩
  try simp only [qq] at h23
  obtain ⟨ead, enn, ecp⟩ := hnn (by omega)
  rw [ead, enn, ecp] at hci
  obtain rfl : k = 0 := by omega
  refine wp_skip ?_
  refine k8 ?_
  refine c_seq fun Q9 k9 t9 => ?_
  refine c_block fun Q10 t10 => ?_
  refine c_seq fun Q11 k11 t11 => ?_
  refine c_sr fun ops => ?_
  refine zm 1 hF rfl fun a hF => ?_
  refine c_n ?_
  refine c_block fun Q12 t12 => ?_
  refine c_loop (fun n a w => ∃ j B s2 dv, n = s.data.length - j ∧ j ≤ s.data.length ∧ s2.data.length = s.data.length ∧ Fr 56 [(2, .slice (some ⟨g1_4, 0, none⟩) 2 2), (3, .int .i64 (i : Nat)), (4, .int .i64 (0 : Nat)), (5, .int .i64 (j : Nat))] a ∧ Hp w0 w ((g1_4, .cells #[.slice (some ⟨g, 0, none⟩) 1 1, .slice none 0 0] 22 (0, 0)) :: (g0_0, .cells #[.int .u8 0, .slice (some ⟨g, 0, none⟩) 1 1, .slice none 0 0] 65 (0, 0)) :: (g, .cells (setV s2 dv).toArray 27 (0, 0)) :: (B ++ H)) ∧ Sl 9 1 B dv s2.data.length (strV s2.data)) ?_ ?_
  ·
   exact ⟨_, 0, B, s, dv, rfl, Nat.zero_le _, rfl, hF.keep [2, 3, 4, 5] rfl, hH, hS⟩
  clear hH hF hS
  intro n a w hI Q13 k13 t13
  obtain ⟨j, B, s2, dv, hm2, hj, hsd, hF, hH, hS⟩ := hI
  obtain ⟨dad, dcp, rfl⟩ := hS.shape
  refine c_seq fun Q14 k14 t14 => ?_
  refine c_sr fun ops => ?_
  refine zm 3 hF rfl fun a hF => ?_
  refine zl hF rfl (r_ixown1 hF _ rfl rfl rfl Tryz.underlying126 ti22 (by omega)) fun a hF => ?_
  refine zl hF rfl (r_load hF rfl rfl fl22 (own_cell (i := 0) hH rfl hci)) fun a hF => ?_
  refine zm 1 hF rfl fun a hF => ?_
  refine zl hF rfl (r_ixown hF _ rfl rfl rfl Tryz.underlying22 ti27 (by omega)) fun a hF => ?_
  refine zl hF rfl (r_fieldaddr hF rfl rfl fd27_4) fun a hF => ?_
  refine zl hF rfl (r_load hF rfl rfl fl25 (own_cell (i := 2) hH rfl rfl)) fun a hF => ?_
  refine zl hF rfl (r_len_sl hF rfl rfl Tryz.underlying25) fun a hF => ?_
  refine zb hF rfl rfl rfl (b_ltn _ _ _ _) fun a hF => ?_
  refine c_n ?_
  refine c_fi hF rfl (fun h36 => ?_) (fun h36 => ?_)
  ·
   try simp only [qq] at h36
   refine wp_exit (t14.exit (t13.exit (t12.here (?_))))
   refine k11 ?_
   refine c_reg fun ops => ?_
   refine zm 2 hF rfl fun a hF => ?_
   refine zl hF rfl (r_ixown1 hF _ rfl rfl rfl Tryz.underlying126 ti22 (by omega)) fun a hF => ?_
   refine zl hF rfl (r_load hF rfl rfl fl22 (own_cell (i := 0) hH rfl hci)) fun a hF => ?_
   refine zm 1 hF rfl fun a hF => ?_
   refine zl hF rfl (r_build hF rfl rfl (bd27_0 _ _ (rfl))) fun a hF => ?_
   refine zl hF rfl (r_ixown hF _ rfl rfl rfl Tryz.underlying22 ti27 (by omega)) fun a hF => ?_
   refine ls_storeat 2 hF hH rfl rfl rfl rfl rfl ti27 rfl rfl (by simp [setV]) (by simp [Value.oneCell']) ?_
   intro w hH
   simp only [List.set_cons_succ, List.set_cons_zero] at hH
   refine wpList_nil ?_
   refine t10.norm ?_
   refine k9 ?_
   refine c_reg fun ops => ?_
   refine zm 1 hF rfl fun a hF => ?_
   refine zb hF rfl rfl rfl (b_addn _ _ 1 (by omega)) fun a hF => ?_
   refine zm 1 hF rfl fun a hF => ?_
   refine wpList_nil ?_
   refine k7 ?_
   exact ⟨nn - 1, by omega, 1, [], ⟨spoiltB, 0, 0, 0, []⟩, .slice none 0 0, rfl, by omega, hF.keep [2, 3, 4] rfl, hH.sub (.cons_cons _ (.cons_cons _ (.cons_cons _ (List.sublist_append_right B H)))), Sl.nil _ _, by simp⟩
  try simp only [qq] at h36
  obtain ⟨gd, cpd, curd, hv, rfl, hcpd, hcmd, hcsd, hctd⟩ := hS.open (by omega)
  injection hv with e1 e2 e3
  subst e3
  rw [e1] at hH
  simp only [List.cons_append, List.nil_append] at hH
  refine wp_skip ?_
  refine k14 ?_
  refine c_seq fun Q15 k15 t15 => ?_
  refine c_block fun Q16 t16 => ?_
  refine c_reg fun ops => ?_
  refine zm 2 hF rfl fun a hF => ?_
  refine zl hF rfl (r_ixown1 hF _ rfl rfl rfl Tryz.underlying126 ti22 (by omega)) fun a hF => ?_
  refine zl hF rfl (r_load hF rfl rfl fl22 (own_cell (i := 0) hH rfl hci)) fun a hF => ?_
  refine zm 1 hF rfl fun a hF => ?_
  refine zl hF rfl (r_ixown hF _ rfl rfl rfl Tryz.underlying22 ti27 (by omega)) fun a hF => ?_
  refine zl hF rfl (r_fieldaddr hF rfl rfl fd27_4) fun a hF => ?_
  refine zl hF rfl (r_load hF rfl rfl fl25 (own_cell (i := 2) hH rfl rfl)) fun a hF => ?_
  refine zm 1 hF rfl fun a hF => ?_
  refine zl hF rfl (r_ixown1 hF _ rfl rfl rfl Tryz.underlying25 ti9 (by omega)) fun a hF => ?_
  refine ls_store 3 hF hH rfl rfl rfl rfl rfl fl9 ti9 rfl (by omega) (by simp [noFreeze]) (rfl) ?_
  intro w hH
  simp only [List.set_cons_succ, List.set_cons_zero] at hH
  refine wpList_nil ?_
  refine t16.norm ?_
  refine k15 ?_
  refine c_reg fun ops => ?_
  refine zm 1 hF rfl fun a hF => ?_
  refine zb hF rfl rfl rfl (b_addn _ _ 1 (by omega)) fun a hF => ?_
  refine zm 1 hF rfl fun a hF => ?_
  refine wpList_nil ?_
  refine k13 ?_
  have hSn := Sl.set (e := 9) (g := gd) j (.string (mk spoiltB)) hS.len hcpd hcmd hcsd hctd
  rw [show (strV s2.data).set j (.string (mk spoiltB)) = strV (s2.data.set j spoiltB) by simp [strV, List.map_set]] at hSn
  refine ⟨s.data.length - (j + 1), by omega, j + 1, [(gd, .cells (curd.setIfInBounds j (.string (mk spoiltB))) 9 (0, 0))], ⟨s2.name, s2.kind, s2.cls, s2.ttl, s2.data.set j spoiltB⟩, .slice dad s2.data.length dcp, rfl, by omega, by simpa using hsd, hF.keep [2, 3, 4, 5] rfl, ?_, ?_⟩
  · rw [e1]; exact hH
  · rw [e1]; simpa using hSn

/-! ### The law -/
theorem verdictTells_spec (x y : Verd) (q : Que) (sv ov tv pv : Value) (w0 : World) (hR : VerdR w0 x sv ov) (hlx : VerdL x) (hS : VerdR w0 y tv pv) (hly : VerdL y) (hG : GW w0) :
    Rets Tryz.prog 14 [.agg (verdV x sv ov).toArray, .agg (verdV y tv pv).toArray, .agg (quV q).toArray] w0 fun r w' => r = .bool true ∧ Ext w0 w' := by
  have hH := Hp.refl w0
  refine rets_start Tryz.func14 rfl Tryz.ntmps14 rfl fun a Q0 hF hret hend => ?_
  simp only [argsFrom, Nat.zero_add, Nat.reduceAdd] at hF
  refine c_sr fun ops => ?_
  refine ls_box hF hH rfl rfl rfl rfl rfl ?_
  intro a w g0_0 hH hE hF
  refine ls_box hF hH rfl rfl rfl rfl rfl ?_
  intro a w g0_1 hH hE hF
  refine ls_box hF hH rfl rfl rfl rfl rfl ?_
  intro a w g0_2 hH hE hF
  refine zm 1 hF rfl fun a hF => ?_
  refine c_n ?_
  replace hF := hF.sel [3, 4, 5]
  simp only [ss, Nat.reduceBEq] at hF
  refine c_seq fun Q1 k1 t1 => ?_
  simp only [cells_agg] at hH
  refine c_sg ?_
  refine zl hF rfl (r_loadagg hF rfl rfl Tryz.underlying65 ti65 rfl (own_agg (i := 2) hH rfl)) fun a hF => ?_
  refine zc hF rfl rfl fn48 (wide_spec x _ _ _ (hR.ext hH.below) hlx) ?_
  rintro _ w ⟨⟨b, rfl, hsm⟩, hE⟩ a hF
  replace hH := hH.ext hE
  refine zm 1 hF rfl fun a hF => ?_
  refine ls_ask (d := 15) hF rfl (fun g1_2 => ?_) (fun g1_2 => ?_)
  ·
   have g1_2' := g1_2; try simp only [qq] at g1_2'
   refine zn hF rfl g1_2 fun a hF => ?_
   refine zn hF rfl g1_2 fun a hF => ?_
   refine zl hF rfl (r_pickt hF rfl rfl g1_2 rfl) fun a hF => ?_
   refine c_n ?_
   replace hF := hF.sel [3, 4, 5, 18]
   simp only [ss, Nat.reduceBEq] at hF
   refine c_yes hF rfl rfl ?_
   refine c_sr fun ops => ?_
   refine zc hF rfl rfl fn39 (awake11_spec _ (hG.ext hH.below)) ?_
   rintro _ w ⟨rfl, hE⟩ a hF
   replace hH := hH.ext hE
   refine zm 1 hF rfl fun a hF => ?_
   refine c_n ?_
   replace hF := hF.sel [6]
   simp only [ss, Nat.reduceBEq] at hF
   refine wp_ret (t1.ret (hret (ret1 hF Tryz.results14 rfl ?_)))
   exact ⟨rfl, hH.below⟩
  have g1_2' := g1_2; try simp only [qq] at g1_2'
  refine zy hF rfl g1_2 (r_loadagg hF rfl rfl Tryz.underlying65 ti65 rfl (own_agg (i := 1) hH rfl)) fun a hF => ?_
  refine zyc hF rfl g1_2 rfl fn48 (wide_spec y _ _ _ (hS.ext hH.below) hly) ?_
  rintro _ w ⟨⟨b2, rfl, hsm2⟩, hE⟩ a hF
  replace hH := hH.ext hE
  refine zl hF rfl (r_pickf hF rfl rfl g1_2 rfl) fun a hF => ?_
  refine c_n ?_
  replace hF := hF.sel [3, 4, 5, 18]
  simp only [ss, Nat.reduceBEq] at hF
  refine c_if hF rfl (fun h18 => ?_) (fun h18 => ?_)
  ·
   try simp only [qq] at h18
   refine c_sr fun ops => ?_
   refine zc hF rfl rfl fn39 (awake11_spec _ (hG.ext hH.below)) ?_
   rintro _ w ⟨rfl, hE⟩ a hF
   replace hH := hH.ext hE
   refine zm 1 hF rfl fun a hF => ?_
   refine c_n ?_
   replace hF := hF.sel [6]
   simp only [ss, Nat.reduceBEq] at hF
   refine wp_ret (t1.ret (hret (ret1 hF Tryz.results14 rfl ?_)))
   exact ⟨rfl, hH.below⟩
  try simp only [qq] at h18
  have hx := (hsm g1_2').verdK hlx
  have hy := (hsm2 h18).verdK hly
  obtain ⟨E, hEq⟩ : ∃ E, E = endV q.kind x := ⟨_, rfl⟩
  have hEd : (E.getD noSet).data.length < 1000000 := by rw [hEq]; exact endV_mem (p := fun s => s.data.length < 1000000) hx.verdM.sets (by decide)
  refine wp_skip ?_
  refine k1 ?_
  refine c_sr fun ops => ?_
  refine zl hF rfl (r_loadagg hF rfl rfl Tryz.underlying49 ti49 rfl (own_agg (i := 0) hH rfl)) fun a hF => ?_
  refine zl hF rfl (r_loadagg hF rfl rfl Tryz.underlying65 ti65 rfl (own_agg (i := 2) hH rfl)) fun a hF => ?_
  refine zc hF rfl rfl fn49 (refEnd_spec q x _ _ _ (hR.ext hH.below) hx.verdM) ?_
  rintro _ w ⟨dv0, rfl, hE, hdv0⟩ a hF
  rw [← hEq] at hF hdv0; replace hdv0 := hdv0.ext hE; replace hH := hH.ext hE; obtain ⟨d0, k0, rfl⟩ := hdv0.shape
  have fa := own_agg (i := 2) hH rfl
  have fb := own_agg (i := 1) hH rfl
  have fq := own_agg (i := 0) hH rfl
  have hE0 := hH.below
  obtain ⟨w3, hw3⟩ : ∃ w3, w3 = w := ⟨w, rfl⟩
  rw [← hw3] at fa
  rw [← hw3] at fb
  rw [← hw3] at fq
  rw [← hw3] at hdv0
  rw [← hw3] at hE0
  replace hH : Hp w3 w [] := by rw [hw3]; exact Hp.refl _
  clear hw3
  refine zm 3 hF rfl fun a hF => ?_
  refine ls_alloc hF hH rfl rfl rfl rfl zv27 ?_
  intro a w g3_6 hH hE hF
  refine ls_storeagg 0 hF hH rfl rfl rfl rfl rfl ti27 rfl (rfl) (rfl) (by simp [setV, cells_agg, Value.oneCell']) ?_
  intro w hH
  simp only [List.set_cons_zero] at hH
  have fe := own_agg (i := 0) hH rfl
  replace fa := fun j u hu => hH.cell (fa j u hu)
  replace fb := fun j u hu => hH.cell (fb j u hu)
  replace fq := fun j u hu => hH.cell (fq j u hu)
  replace hdv0 := hdv0.ext hH.below
  replace hE0 := hE0.trans hH.below
  obtain ⟨w4, hw4⟩ : ∃ w4, w4 = w := ⟨w, rfl⟩
  rw [← hw4] at fe
  rw [← hw4] at fa
  rw [← hw4] at fb
  rw [← hw4] at fq
  rw [← hw4] at hdv0
  rw [← hw4] at hE0
  replace hH : Hp w4 w [] := by rw [hw4]; exact Hp.refl _
  clear hw4
  refine zm 1 hF rfl fun a hF => ?_
  refine c_n ?_
  replace hF := hF.sel [3, 4, 5, 7, 8]
  simp only [ss, Nat.reduceBEq] at hF
  refine c_sr fun ops => ?_
  refine zl hF rfl (r_loadagg hF rfl rfl Tryz.underlying65 ti65 rfl (fun j u hu => hH.cell (fa j u hu))) fun a hF => ?_
  refine zc hF rfl rfl fn50 (refKey_spec x _ _ _ (hR.ext (hE0.trans hH.below)) hx) ?_
  rintro _ w ⟨rfl, hE⟩ a hF
  replace hH := hH.ext hE
  refine zm 1 hF rfl fun a hF => ?_
  refine c_n ?_
  replace hF := hF.sel [3, 4, 5, 7, 8, 9]
  simp only [ss, Nat.reduceBEq] at hF
  refine c_seq fun Q2 k2 t2 => ?_
  refine c_sr fun ops => ?_
  refine zm 1 hF rfl fun a hF => ?_
  refine c_n ?_
  replace hF := hF.sel [3, 4, 5, 7, 8, 9, 10]
  simp only [ss, Nat.reduceBEq] at hF
  refine c_block fun Q3 t3 => ?_
  refine c_loop (fun n a w => ∃ r, n = 2 - r ∧ r ≤ 2 ∧ Fr 72 [(3, ptr g0_0), (4, ptr g0_1), (5, ptr g0_2), (7, ptr g3_6), (8, .bool E.isSome), (9, .string (mk (keyV x))), (10, .int .i64 (r : Nat))] a ∧ Hp w4 w []) ?_ ?_
  ·
   exact ⟨_, 0, rfl, Nat.zero_le _, hF.keep [3, 4, 5, 7, 8, 9, 10] rfl, hH⟩
  clear hH hF
  intro n a w hI Q4 k4 t4
  obtain ⟨r, hrn, hr, hF, hH⟩ := hI
  refine c_seq fun Q5 k5 t5 => ?_
  refine c_sr fun ops => ?_
  refine zm 1 hF rfl fun a hF => ?_
  refine zb hF rfl rfl rfl (b_ltn _ _ _ 2) fun a hF => ?_
  refine c_n ?_
  refine c_if hF rfl (fun h29 => ?_) (fun h29 => ?_)
  ·
   try simp only [qq] at h29
   refine wp_skip ?_
   refine k5 ?_
   refine c_seq fun Q6 k6 t6 => ?_
   refine c_block fun Q7 t7 => ?_
   refine c_sr fun ops => ?_
   refine zl hF rfl (r_loadagg hF rfl rfl Tryz.underlying49 ti49 rfl (fun j u hu => hH.cell (fq j u hu))) fun a hF => ?_
   refine zl hF rfl (r_loadagg hF rfl rfl Tryz.underlying65 ti65 rfl (fun j u hu => hH.cell (fa j u hu))) fun a hF => ?_
   refine zc hF rfl rfl fn45 (vEnd_spec q x _ _ _ (hR.ext (hE0.trans hH.below)) hx.verdM) ?_
   rintro _ w ⟨dv1, B, rfl, hB, hS1⟩ a hF
   rw [← hEq] at hF hS1; replace hH := hH.join hB; obtain ⟨d1, k1, rfl⟩ := hS1.shape
   refine zm 3 hF rfl fun a hF => ?_
   refine ls_alloc hF hH rfl rfl rfl rfl zv27 ?_
   intro a w g8_6 hH hE hF
   refine ls_storeagg 0 hF hH rfl rfl rfl rfl rfl ti27 rfl (rfl) (rfl) (by simp [setV, cells_agg, Value.oneCell']) ?_
   intro w hH
   simp only [List.set_cons_zero] at hH
   refine zm 1 hF rfl fun a hF => ?_
   refine c_n ?_
   refine c_seq fun Q8 k8 t8 => ?_
   refine c_sg ?_
   refine zm 2 hF rfl fun a hF => ?_
   refine zb hF rfl rfl rfl (b_bne _ _ _ Tryz.underlying4) fun a hF => ?_
   refine zm 1 hF rfl fun a hF => ?_
   refine ls_ask (d := 41) hF rfl (fun g9_3 => ?_) (fun g9_3 => ?_)
   ·
    have g9_3' := g9_3; try simp only [qq] at g9_3'
    exact absurd g9_3 (by simp)
   have g9_3' := g9_3; try simp only [qq] at g9_3'
   refine zy hF rfl g9_3 (r_loadagg hF rfl rfl Tryz.underlying27 ti27 rfl (own_agg (i := 0) hH rfl)) fun a hF => ?_
   refine zy hF rfl g9_3 (r_loadagg hF rfl rfl Tryz.underlying27 ti27 rfl (fun j u hu => hH.cell (fe j u hu))) fun a hF => ?_
   refine zyc hF rfl g9_3 rfl fn20 (same8_spec (E.getD noSet) (E.getD noSet) _ _ _ (hS1.rsl hH fun p hp => List.mem_cons_of_mem _ (List.mem_append_left _ hp)) (hdv0.ext hH.below) hEd hEd) ?_
   rintro _ w ⟨rfl, hE⟩ a hF
   replace hH := hH.ext hE
   refine zy hF rfl g9_3 (r_not hF rfl rfl) fun a hF => ?_
   refine zl hF rfl (r_pickf hF rfl rfl g9_3 rfl) fun a hF => ?_
   refine c_n ?_
   refine c_if hF rfl (fun h46 => ?_) (fun h46 => ?_)
   ·
    try simp only [qq] at h46
    exact absurd h46 (by simp [sameS_self])
   try simp only [qq] at h46
   refine wp_skip ?_
   refine k8 ?_
   refine c_reg fun ops => ?_
   refine zl hF rfl (r_loadagg hF rfl rfl Tryz.underlying27 ti27 rfl (own_agg (i := 0) hH rfl)) fun a hF => ?_
   refine ls_build1 hF hH rfl rfl rfl rfl rfl Tryz.underlying22 ti27 rfl (by decide) ?_
   intro a w g11_1 hH hE hF
   simp only [cells_agg] at hH
   refine zl hF rfl (r_build hF rfl rfl (bd65_1 _ _ (rfl))) fun a hF => ?_
   refine zc hF rfl rfl fn51 (spoil1_spec (hH.perm (List.Perm.cons _ List.perm_middle)) hS1 hEd) ?_
   rintro _ w ⟨rfl, hH'⟩ a hF
   replace hH := hH'
   refine wpList_nil ?_
   refine t7.norm ?_
   refine k6 ?_
   refine c_reg fun ops => ?_
   refine zm 1 hF rfl fun a hF => ?_
   refine zb hF rfl rfl rfl (b_addn _ _ 1 (by omega)) fun a hF => ?_
   refine zm 1 hF rfl fun a hF => ?_
   refine wpList_nil ?_
   refine k4 ?_
   exact ⟨2 - (r + 1), by omega, r + 1, rfl, by omega, hF.keep [3, 4, 5, 7, 8, 9, 10] rfl, hH.sub (List.nil_sublist _)⟩
  try simp only [qq] at h29
  refine wp_exit (t5.exit (t4.exit (t3.here (?_))))
  refine k2 ?_
  refine c_seq fun Q9 k9 t9 => ?_
  refine q_reg (by kernel_rfl) (by kernel_rfl) ?_
  refine qs hF rfl rfl rfl (fun w hw => r_loadagg hF rfl rfl Tryz.underlying65 ti65 rfl (fun j u hu => (hH.ext hw).cell (fa j u hu))) fun a hF => ?_
  refine qs hF rfl rfl rfl (fun w hw => r_loadagg hF rfl rfl Tryz.underlying65 ti65 rfl (fun j u hu => (hH.ext hw).cell (fb j u hu))) fun a hF => ?_
  refine qs_call hF rfl rfl rfl rfl rfl fn47 (fun w hw => vsame_spec x y _ _ _ _ _ (hR.ext (hE0.trans (hH.below.trans hw))) (hS.ext (hE0.trans (hH.below.trans hw))) hx.verdM hy.verdM) fun a hF => ?_
  refine qs hF rfl rfl rfl (fun w hw => r_loadagg hF rfl rfl Tryz.underlying65 ti65 rfl (fun j u hu => (hH.ext hw).cell (fa j u hu))) fun a hF => ?_
  refine qs hF rfl rfl rfl (fun w hw => r_loadagg hF rfl rfl Tryz.underlying65 ti65 rfl (fun j u hu => (hH.ext hw).cell (fb j u hu))) fun a hF => ?_
  refine qs_call hF rfl rfl rfl rfl rfl fn43 (fun w hw => vsame11_spec x y _ _ _ _ _ (hR.ext (hE0.trans (hH.below.trans hw))) (hS.ext (hE0.trans (hH.below.trans hw))) hx.verdM hy.verdM) fun a hF => ?_
  refine qs hF rfl rfl rfl (fun w hw => zr hF rfl rfl (b_beq _ _ _ Tryz.underlying4)) fun a hF => ?_
  refine qs hF rfl rfl rfl (fun w hw => r_move hF rfl rfl) fun a hF => ?_
  refine q_ask (d := 58) hF rfl (fun g12_7 => ?_) (fun g12_7 => ?_)
  ·
   have g12_7' := g12_7; try simp only [qq] at g12_7'
   refine qsy hF rfl rfl rfl g12_7 rfl rfl (fun w hw => r_loadagg hF rfl rfl Tryz.underlying65 ti65 rfl (fun j u hu => (hH.ext hw).cell (fa j u hu))) fun a hF => ?_
   refine qsy hF rfl rfl rfl g12_7 rfl rfl (fun w hw => r_loadagg hF rfl rfl Tryz.underlying65 ti65 rfl (fun j u hu => (hH.ext hw).cell (fa j u hu))) fun a hF => ?_
   refine qsy_call hF rfl rfl rfl g12_7 rfl rfl rfl rfl fn47 (fun w hw => vsame_spec x x _ _ _ _ _ (hR.ext (hE0.trans (hH.below.trans hw))) (hR.ext (hE0.trans (hH.below.trans hw))) hx.verdM hx.verdM) fun a hF => ?_
   refine qs hF rfl rfl rfl (fun w hw => r_pickt hF rfl rfl g12_7 rfl) fun a hF => ?_
   refine qs hF rfl rfl rfl (fun w hw => r_move hF rfl rfl) fun a hF => ?_
   refine q_ask (d := 63) hF rfl (fun g12_12 => ?_) (fun g12_12 => ?_)
   ·
    have g12_12' := g12_12; try simp only [qq] at g12_12'
    refine qsy hF rfl rfl rfl g12_12 rfl rfl (fun w hw => r_loadagg hF rfl rfl Tryz.underlying65 ti65 rfl (fun j u hu => (hH.ext hw).cell (fa j u hu))) fun a hF => ?_
    refine qsy_call hF rfl rfl rfl g12_12 rfl rfl rfl rfl fn46 (fun w hw => key_spec x _ _ _ (hR.ext (hE0.trans (hH.below.trans hw))) hx) fun a hF => ?_
    refine qsy hF rfl rfl rfl g12_12 rfl rfl (fun w hw => r_move hF rfl rfl) fun a hF => ?_
    refine qsy hF rfl rfl rfl g12_12 rfl rfl (fun w hw => zr hF rfl rfl (b_seq _ _ _)) fun a hF => ?_
    refine qs hF rfl rfl rfl (fun w hw => r_pickt hF rfl rfl g12_12 rfl) fun a hF => ?_
    refine qs hF rfl rfl rfl (fun w hw => r_move hF rfl rfl) fun a hF => ?_
    refine q_ask (d := 69) hF rfl (fun g12_18 => ?_) (fun g12_18 => ?_)
    ·
     have g12_18' := g12_18; try simp only [qq] at g12_18'
     refine qsy_call hF rfl rfl rfl g12_18 rfl rfl rfl rfl fn39 (fun w hw => awake11_spec _ (hG.ext (hE0.trans (hH.below.trans hw)))) fun a hF => ?_
     refine qs hF rfl rfl rfl (fun w hw => r_pickt hF rfl rfl g12_18 rfl) fun a hF => ?_
     refine qs hF rfl rfl rfl (fun w hw => r_assign hF rfl rfl) fun a hF => ?_
     refine q_nil fun w hE => ?_
     replace hH := hH.ext hE
     replace hF := hF.sel [6]
     simp only [ss, Nat.reduceBEq] at hF
     refine k9 ?_
     refine wp_ret (hret (ret1 hF Tryz.results14 rfl ?_))
     exact ⟨rfl, hE0.trans hH.below⟩
    have g12_18' := g12_18; try simp only [qq] at g12_18'
    exact absurd g12_18 (by simp)
   have g12_12' := g12_12; try simp only [qq] at g12_12'
   exact absurd g12_12 (by simp)
  have g12_7' := g12_7; try simp only [qq] at g12_7'
  exact absurd g12_7 (by simp)
end Go.Proofs.YtcelgjabccgnmaaGreatDoor
