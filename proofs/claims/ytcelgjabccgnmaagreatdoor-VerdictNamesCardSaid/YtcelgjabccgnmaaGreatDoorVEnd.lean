/-
  The walk of verdict.End. Nothing is claimed here.
-/
import Derived.Test.YtcelgjabccgnmaaGreatDoorVLawB
namespace Go.Proofs.YtcelgjabccgnmaaGreatDoor
open Go.RowKit
set_option linter.unusedVariables false
set_option linter.unusedSimpArgs false
set_option maxHeartbeats 1000000

theorem endV_nil {kind : Nat} {x : Verd} (h : x.sets.length = 0) : endV kind x = none := by
  unfold endV; rw [List.eq_nil_of_length_eq_zero h]; rfl
theorem endV_last {kind : Nat} {x : Verd} (h : x.sets.length - 1 < x.sets.length) : endV kind x = if (x.sets[x.sets.length - 1]).kind = kind then some x.sets[x.sets.length - 1] else none := by
  unfold endV; rw [List.getLast?_eq_getElem?, List.getElem?_eq_getElem h]
theorem endV_mem {kind : Nat} {x : Verd} {p : RSet → Prop} (h : ∀ s ∈ x.sets, p s) (h0 : p noSet) : p ((endV kind x).getD noSet) := by
  by_cases hn : x.sets.length = 0
  · rw [endV_nil hn]; exact h0
  · rw [endV_last (by omega)]
    split
    · exact h _ (List.getElem_mem _)
    · exact h0
theorem vEnd_spec (q : Que) (x : Verd) (sv ov : Value) (w0 : World) (hR : VerdR w0 x sv ov) (hx : VerdM x) :
    Rets Tryz.prog 45 [.agg (quV q).toArray, .agg (verdV x sv ov).toArray] w0 fun r w' => ∃ dv B, r = .tuple #[.agg (setV ((endV q.kind x).getD noSet) dv).toArray, .bool (endV q.kind x).isSome] ∧ Hp w0 w' B ∧
      Sl 9 1 B dv ((endV q.kind x).getD noSet).data.length (strV ((endV q.kind x).getD noSet).data) := by
  have hH := Hp.refl w0
  have hsl := hx.setsL
  obtain ⟨sad, scp, rfl⟩ := hR.sets.shapeK
  refine rets_start Tryz.func45 rfl Tryz.ntmps45 rfl fun a Q0 hF hret hend => ?_
  simp only [argsFrom, Nat.zero_add, Nat.reduceAdd] at hF
  refine c_sr fun ops => ?_
  refine ls_box hF hH rfl rfl rfl rfl rfl ?_
  intro a w g0_0 hH hE hF
  refine ls_box hF hH rfl rfl rfl rfl rfl ?_
  intro a w g0_1 hH hE hF
  refine ls_alloc hF hH rfl rfl rfl rfl zv27 ?_
  intro a w g0_2 hH hE hF
  refine zm 1 hF rfl fun a hF => ?_
  refine c_n ?_
  replace hF := hF.sel [2, 3, 4]
  simp only [ss, Nat.reduceBEq] at hF
  simp only [cells_agg] at hH
  refine c_sr fun ops => ?_
  refine zl hF rfl (r_fieldaddr0 hF rfl rfl fd65_1) fun a hF => ?_
  refine zl hF rfl (r_load hF rfl rfl fl22 (own_cell (i := 1) hH rfl rfl)) fun a hF => ?_
  refine zl hF rfl (r_len_sl hF rfl rfl Tryz.underlying22) fun a hF => ?_
  refine zm 1 hF rfl fun a hF => ?_
  refine c_n ?_
  replace hF := hF.sel [2, 3, 4, 6]
  simp only [ss, Nat.reduceBEq] at hF
  refine c_seq fun Q1 k1 t1 => ?_
  refine c_seq fun Q2 k2 t2 => ?_
  refine q_reg (by kernel_rfl) (by kernel_rfl) ?_
  refine qs hF rfl rfl rfl (fun w hw => r_move hF rfl rfl) fun a hF => ?_
  refine qs hF rfl rfl rfl (fun w hw => zr hF rfl rfl (b_eqn _ _ _ 0)) fun a hF => ?_
  refine qs hF rfl rfl rfl (fun w hw => r_move hF rfl rfl) fun a hF => ?_
  refine q_ask (d := 13) hF rfl (fun g2_2 => ?_) (fun g2_2 => ?_)
  ·
   have g2_2' := g2_2; try simp only [qq] at g2_2'
   refine qsn hF rfl rfl rfl g2_2 rfl rfl fun a hF => ?_
   refine qsn hF rfl rfl rfl g2_2 rfl rfl fun a hF => ?_
   refine qsn hF rfl rfl rfl g2_2 rfl rfl fun a hF => ?_
   refine qsn hF rfl rfl rfl g2_2 rfl rfl fun a hF => ?_
   refine qsn hF rfl rfl rfl g2_2 rfl rfl fun a hF => ?_
   refine qsn hF rfl rfl rfl g2_2 rfl rfl fun a hF => ?_
   refine qsn hF rfl rfl rfl g2_2 rfl rfl fun a hF => ?_
   refine qsn hF rfl rfl rfl g2_2 rfl rfl fun a hF => ?_
   refine qsn hF rfl rfl rfl g2_2 rfl rfl fun a hF => ?_
   refine qsn hF rfl rfl rfl g2_2 rfl rfl fun a hF => ?_
   refine qs hF rfl rfl rfl (fun w hw => r_pickt hF rfl rfl g2_2 rfl) fun a hF => ?_
   refine q_nil fun w hE => ?_
   replace hH := hH.ext hE
   replace hF := hF.sel [3, 4, 6, 24]
   simp only [ss, Nat.reduceBEq] at hF
   refine k2 ?_
   refine c_yes hF rfl rfl ?_
   refine c_sr fun ops => ?_
   refine zl hF rfl (r_build hF rfl rfl (bd27 _)) fun a hF => ?_
   refine ls_storeagg 0 hF hH rfl rfl rfl rfl rfl ti27 rfl (rfl) (rfl) (by simp [Value.oneCell']) ?_
   intro w hH
   refine zm 1 hF rfl fun a hF => ?_
   refine c_n ?_
   replace hF := hF.sel [4, 5]
   simp only [ss, Nat.reduceBEq] at hF
   refine wp_ret (t1.ret (hret (retc2 (fn := Tryz.f45) (t := 4) (u := 5) (i := 0) hF hH Tryz.results45 rfl rfl (by kernel_rfl) ti27 rfl rfl ?_)))
   have hEv : endV q.kind x = none := by
     first
       | exact endV_nil g2_2'
       | rw [endV_last (by omega), if_neg h24]
   exact ⟨.slice none 0 0, [], by rw [hEv]; rfl, hH.sub (List.nil_sublist _), by rw [hEv]; exact Sl.nil _ _⟩
  have g2_2' := g2_2; try simp only [qq] at g2_2'
  obtain ⟨b, off, dv, e1, hset, hdv⟩ := hR.sets.at (i := x.sets.length - 1) (by omega)
  rw [e1] at hH
  refine qsy hF rfl rfl rfl g2_2 rfl rfl (fun w hw => r_fieldaddr0 hF rfl rfl fd65_1) fun a hF => ?_
  refine qsy hF rfl rfl rfl g2_2 rfl rfl (fun w hw => r_load hF rfl rfl fl22 (hw.cell (own_cell (i := 1) hH rfl rfl))) fun a hF => ?_
  refine qsy hF rfl rfl rfl g2_2 rfl rfl (fun w hw => r_move hF rfl rfl) fun a hF => ?_
  refine qsy hF rfl rfl rfl g2_2 rfl rfl (fun w hw => zr hF rfl rfl (b_subn _ _ 1 (by omega))) fun a hF => ?_
  refine qsy hF rfl rfl rfl g2_2 rfl rfl (fun w hw => r_indexaddr hF _ rfl rfl rfl Tryz.underlying22 ti27 (by omega)) fun a hF => ?_
  refine qsy hF rfl rfl rfl g2_2 rfl rfl (fun w hw => r_fieldaddr hF rfl rfl fd27_1) fun a hF => ?_
  refine qsy hF rfl rfl rfl g2_2 rfl rfl (fun w hw => r_load hF rfl rfl fl23 (hw.cell (hH.cell (hset 1 _ rfl)))) fun a hF => ?_
  refine qsy hF rfl rfl rfl g2_2 rfl rfl (fun w hw => r_fieldaddr0 hF rfl rfl fd49_1) fun a hF => ?_
  refine qsy hF rfl rfl rfl g2_2 rfl rfl (fun w hw => r_load hF rfl rfl fl23 (hw.cell (own_cell (i := 2) hH rfl rfl))) fun a hF => ?_
  refine qsy hF rfl rfl rfl g2_2 rfl rfl (fun w hw => zr hF rfl rfl (b_nen _ _ _ _)) fun a hF => ?_
  refine qs hF rfl rfl rfl (fun w hw => r_pickf hF rfl rfl g2_2 rfl) fun a hF => ?_
  refine q_nil fun w hE => ?_
  replace hH := hH.ext hE
  replace hF := hF.sel [3, 4, 6, 24]
  simp only [ss, Nat.reduceBEq] at hF
  refine k2 ?_
  refine c_if hF rfl (fun h24 => ?_) (fun h24 => ?_)
  ·
   try simp only [qq] at h24
   refine c_sr fun ops => ?_
   refine zl hF rfl (r_build hF rfl rfl (bd27 _)) fun a hF => ?_
   refine ls_storeagg 0 hF hH rfl rfl rfl rfl rfl ti27 rfl (rfl) (rfl) (by simp [Value.oneCell']) ?_
   intro w hH
   refine zm 1 hF rfl fun a hF => ?_
   refine c_n ?_
   replace hF := hF.sel [4, 5]
   simp only [ss, Nat.reduceBEq] at hF
   refine wp_ret (t1.ret (hret (retc2 (fn := Tryz.f45) (t := 4) (u := 5) (i := 0) hF hH Tryz.results45 rfl rfl (by kernel_rfl) ti27 rfl rfl ?_)))
   have hEv : endV q.kind x = none := by
     first
       | exact endV_nil g2_2'
       | rw [endV_last (by omega), if_neg h24]
   exact ⟨.slice none 0 0, [], by rw [hEv]; rfl, hH.sub (List.nil_sublist _), by rw [hEv]; exact Sl.nil _ _⟩
  try simp only [qq] at h24
  have hEv : endV q.kind x = some x.sets[x.sets.length - 1] := by rw [endV_last (by omega), if_pos h24]
  have hdl := hx.sets _ (List.getElem_mem (show x.sets.length - 1 < x.sets.length by omega))
  obtain ⟨dad, dcp, rfl⟩ := hdv.shape
  refine wp_skip ?_
  refine k1 ?_
  refine c_sr fun ops => ?_
  refine zl hF rfl (r_fieldaddr0 hF rfl rfl fd65_1) fun a hF => ?_
  refine zl hF rfl (r_load hF rfl rfl fl22 (own_cell (i := 1) hH rfl rfl)) fun a hF => ?_
  refine zm 1 hF rfl fun a hF => ?_
  refine zb hF rfl rfl rfl (b_subn _ _ 1 (by omega)) fun a hF => ?_
  refine zl hF rfl (r_indexaddr hF _ rfl rfl rfl Tryz.underlying22 ti27 (by omega)) fun a hF => ?_
  refine zl hF rfl (r_loadagg hF rfl rfl Tryz.underlying27 ti27 rfl (fun j u hu => hH.cell (hset j u hu))) fun a hF => ?_
  refine ls_alloc hF hH rfl rfl rfl rfl zv27 ?_
  intro a w g4_6 hH hE hF
  refine ls_storeagg 0 hF hH rfl rfl rfl rfl rfl ti27 rfl (rfl) (rfl) (by simp [setV, cells_agg, Value.oneCell']) ?_
  intro w hH
  simp only [List.set_cons_zero] at hH
  refine c_n ?_
  replace hF := hF.sel [4, 7]
  simp only [ss, Nat.reduceBEq] at hF
  refine c_sr fun ops => ?_
  refine zl hF rfl (r_fieldaddr0 hF rfl rfl fd27_4) fun a hF => ?_
  refine zl hF rfl (r_load hF rfl rfl fl25 (own_cell (i := 0) hH rfl rfl)) fun a hF => ?_
  refine zc hF rfl rfl fn53 (clone_spec (hdv.ext hH.below) hdl) ?_
  rintro v34 w ⟨B, hB, hS⟩ a hF
  replace hH := hH.join hB
  refine zl hF rfl (r_fieldaddr0 hF rfl rfl fd27_4) fun a hF => ?_
  replace hH := hH.fromB
  refine ls_store 0 hF hH rfl rfl rfl rfl rfl fl25 ti25 rfl (by simp [setV]) (by simp [noFreeze]) (hS.one) ?_
  intro w hH
  simp only [List.set_cons_zero] at hH
  refine c_n ?_
  replace hF := hF.sel [4, 7]
  simp only [ss, Nat.reduceBEq] at hF
  refine c_sr fun ops => ?_
  refine zl hF rfl (r_loadagg hF rfl rfl Tryz.underlying27 ti27 rfl (own_agg (i := 0) hH rfl)) fun a hF => ?_
  replace hH := hH.perm (((List.Perm.cons _ List.perm_middle).trans (List.Perm.swap _ _ _)).symm)
  obtain ⟨nad, ncp, rfl⟩ := hS.shape
  refine ls_storeagg 0 hF hH rfl rfl rfl rfl rfl ti27 rfl (rfl) (rfl) (by simp [setV, cells_agg, Value.oneCell']) ?_
  intro w hH
  simp only [List.set_cons_zero] at hH
  refine zm 1 hF rfl fun a hF => ?_
  refine c_n ?_
  replace hF := hF.sel [4, 5]
  simp only [ss, Nat.reduceBEq] at hF
  refine wp_ret (hret (retc2 (fn := Tryz.f45) (t := 4) (u := 5) (i := 0) hF hH Tryz.results45 rfl rfl (by kernel_rfl) ti27 rfl rfl ?_))
  exact ⟨_, B, by rw [hEv]; rfl, hH.drop.drop.sub (List.sublist_append_left _ _), by rw [hEv]; exact hS⟩
theorem vEndX {q : Que} {x : Verd} {sv ov : Value} {w0 : World} {b : Bool} (hb : (endV q.kind x).isSome = b) (hR : VerdR w0 x sv ov) (hx : VerdM x) :
    Rets Tryz.prog 45 [.agg (quV q).toArray, .agg (verdV x sv ov).toArray] w0 fun r w' => ∃ dv B, r = .tuple #[.agg (setV ((endV q.kind x).getD noSet) dv).toArray, .bool b] ∧ Hp w0 w' B ∧
      Sl 9 1 B dv ((endV q.kind x).getD noSet).data.length (strV ((endV q.kind x).getD noSet).data) := by
  subst hb; exact vEnd_spec q x sv ov w0 hR hx
theorem noVerd_m : VerdM noVerd := ⟨by decide, by decide, fun _ h => (List.not_mem_nil h).elim, fun _ h => (List.not_mem_nil h).elim⟩
theorem noVerd_r (w : World) : VerdR w noVerd (.slice none 0 0) (.slice none 0 0) := ⟨SetsR.nil w, SetsR.nil w⟩
end Go.Proofs.YtcelgjabccgnmaaGreatDoor
