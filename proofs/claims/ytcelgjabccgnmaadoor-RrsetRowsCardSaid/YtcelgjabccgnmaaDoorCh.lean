/-
  The walks of chain.own and chain.target. Nothing is claimed here.
-/
import Derived.Test.YtcelgjabccgnmaaDoorGroup8
import Derived.Test.YtcelgjabccgnmaaDoorChainL
import Derived.Scope
namespace Go.Proofs.YtcelgjabccgnmaaDoor
open Go.RowKit
set_option linter.unusedVariables false
set_option linter.unusedSimpArgs false
set_option maxHeartbeats 1000000

section
variable {P : Program} {Q : Exit → Act → World → Prop} {a : Act} {w w0 : World} {N : Nat} {L : List (Nat × Value)} {H : List (Nat × Obj)}
theorem c_scope {c : Code} (h : ∀ Q1 : Exit → Act → World → Prop, (∀ {a w}, Q .normal a w → Q1 .normal a w) → Thru Q Q1 → c.wp P Q1 a w) : (Code.scope c).wp P Q a w :=
  wp_scope_straight (h (Exit.noGoto Q) (fun h => h) ⟨fun h => h, fun h => h, fun h => h⟩)
theorem results_c1 {fn : Func} {t : Nat} {ty : TypeId} {g : Nat} {cs : List Value} {tmps : Array Value} (h : fn.results = #[.cell t ty]) (h1 : tmps[t]? = some (.pointer (some ⟨g, 0, none⟩)))
    (hl : (loadVar ty ⟨g, 0, none⟩).run P w = .ok (.agg cs.toArray) w) : (results fn tmps).run P w = .ok (.agg cs.toArray) w := by
  simp [results, h, Array.getD_eq_getD_getElem?, h1, asAddr, hl]
theorem retc1 {fn : Func} {R : Value → World → Prop} {t g i : Nat} {ty : TypeId} {size bytes : Nat} {cs : Array Value} {e : TypeId} {fr : Nat × Nat} (hF : Fr N L a) (hH : Hp w0 w H) (hr : fn.results = #[.cell t ty]) (h1 : lk L t = some (.pointer (some ⟨g, 0, none⟩)))
    (ht : aggT P ty = true) (hti : TI P ty size bytes) (hi : H[i]? = some (g, .cells cs e fr)) (hs : cs.size = size) (h : R (.agg cs) w) :
    bodyPost P fn (fun e w' => ∃ v, e = .returned v ∧ R v w') .ret a w := by
  have hl := run_loadVar_T (w := w) (cs := cs.toList) ht hti (by simpa using hs) (own_agg hH hi)
  exact bodyPost_ret (results_c1 hr (hF.lk h1) hl) hF.defers ⟨_, rfl, by simpa using h⟩
end
/-- What is one's own, but for some blocks, in another row. -/
theorem Hp.of {w0 w : World} {H H' : List (Nat × Obj)} (h : Hp w0 w H) (R : List (Nat × Obj)) (hp : (R ++ H').Perm H) : Hp w0 w H' := (h.perm hp).sub (List.sublist_append_right _ _)

theorem own_spec (s : RSet) (dv : Value) (w0 : World) (hv : RSl w0 1 dv s.data.length (strV s.data)) (hl : s.data.length < 1000000) :
    Rets Tryd.prog 46 [.agg (setV s dv).toArray] w0 fun r w' => ∃ dv2 B, r = .agg (setV s dv2).toArray ∧ Hp w0 w' B ∧ Sl 9 1 B dv2 s.data.length (strV s.data) := by
  have hH := Hp.refl w0
  refine rets_start Tryd.func46 rfl Tryd.ntmps46 rfl fun a Q0 hF hret hend => ?_
  simp only [argsFrom, Nat.zero_add, Nat.reduceAdd] at hF
  refine c_seq fun Q1 k1 t1 => ?_
  refine c_reg fun ops => ?_
  refine ls_box hF hH rfl rfl rfl rfl rfl ?_
  intro a w g0_0 hH hE hF
  refine ls_alloc hF hH rfl rfl rfl rfl zv49 ?_
  intro a w g0_1 hH hE hF
  refine wpList_nil ?_
  replace hF := hF.sel [1, 2]
  simp only [sel, lk, Nat.reduceBEq, cond_true, cond_false] at hF
  refine k1 ?_
  refine c_seq fun Q2 k2 t2 => ?_
  refine c_reg fun ops => ?_
  refine ls hF rfl rfl rfl (r_fieldaddr0 hF rfl rfl fd49_4) fun a hF => ?_
  refine ls hF rfl rfl rfl (r_load hF rfl rfl fl47 (own_cell (i := 1) hH rfl rfl)) fun a hF => ?_
  refine ls_call hF rfl rfl rfl rfl rfl fn63 (clone_spec (hv.ext hH.below) hl) ?_
  rintro dv2 w ⟨B, hB, hS⟩ a hF
  replace hH := (hH.join hB).fromB2
  refine ls hF rfl rfl rfl (r_fieldaddr0 hF rfl rfl fd49_4) fun a hF => ?_
  refine ls_store 1 hF hH rfl rfl rfl rfl rfl fl47 ti47 rfl (by simp [setV, cells_agg]) (by simp [noFreeze]) (hS.one) ?_
  intro w hH
  simp only [List.set_cons_succ, List.set_cons_zero, List.append_nil] at hH
  refine wpList_nil ?_
  replace hF := hF.sel [1, 2]
  simp only [sel, lk, Nat.reduceBEq, cond_true, cond_false] at hF
  refine k2 ?_
  refine c_seq fun Q3 k3 t3 => ?_
  refine c_reg fun ops => ?_
  refine ls hF rfl rfl rfl (r_loadagg hF rfl rfl Tryd.underlying49 ti49 rfl (own_agg (i := 1) hH rfl)) fun a hF => ?_
  refine ls_storeagg 0 hF hH rfl rfl rfl rfl rfl ti49 rfl (rfl) (rfl) (by have := hS.shape; obtain ⟨_, _, rfl⟩ := this; simp [setV, cells_agg, Value.oneCell']) ?_
  intro w hH
  refine wpList_nil ?_
  replace hF := hF.sel [2]
  simp only [sel, lk, Nat.reduceBEq, cond_true, cond_false] at hF
  refine k3 ?_
  refine wp_ret ?_
  refine hret (retc1 (fn := Tryd.f46) (t := 2) (i := 0) hF hH Tryd.results46 rfl (by kernel_rfl) ti49 rfl rfl ?_)
  exact ⟨dv2, B, rfl, hH.sub (.cons _ (.cons _ (List.Sublist.refl _))), hS⟩

theorem target_spec (s : RSet) (dv : Value) (w0 : World) (hv : RSl w0 1 dv s.data.length (strV s.data)) (hl : s.data.length < 1000000) (hd : ∀ d ∈ s.data, d.length < 1000000) (hG : GW w0) :
    Rets Tryd.prog 44 [.agg (setV s dv).toArray] w0 fun r w' => r = .tuple #[.string (mk ((targetS s).getD [])), .bool (targetS s).isSome] ∧ Ext w0 w' := by
  have hH := Hp.refl w0
  obtain ⟨ad, ca, rfl⟩ := hv.shape
  refine rets_start Tryd.func44 rfl Tryd.ntmps44 rfl fun a Q0 hF hret hend => ?_
  simp only [argsFrom, Nat.zero_add, Nat.reduceAdd] at hF
  refine c_seq fun Q1 k1 t1 => ?_
  refine c_reg fun ops => ?_
  refine ls_box hF hH rfl rfl rfl rfl rfl ?_
  intro a w g0_0 hH hE hF
  refine ls hF rfl rfl rfl (r_assign hF rfl rfl) fun a hF => ?_
  refine ls hF rfl rfl rfl (r_assign hF rfl rfl) fun a hF => ?_
  refine wpList_nil ?_
  replace hF := hF.sel [1]
  simp only [sel, lk, Nat.reduceBEq, cond_true, cond_false] at hF
  refine k1 ?_
  refine c_seq fun Q2 k2 t2 => ?_
  refine c_seq fun Q3 k3 t3 => ?_
  refine c_regg ?_
  refine ls hF rfl rfl rfl (r_fieldaddr0 hF rfl rfl fd49_4) fun a hF => ?_
  refine ls hF rfl rfl rfl (r_load hF rfl rfl fl47 (own_cell (i := 0) hH rfl rfl)) fun a hF => ?_
  refine ls hF rfl rfl rfl (r_len_sl hF rfl rfl Tryd.underlying47) fun a hF => ?_
  refine ls hF rfl rfl rfl (r_bin hF rfl rfl rfl rfl (b_nen _ _ _ 1)) fun a hF => ?_
  refine ls hF rfl rfl rfl (r_move hF rfl rfl) fun a hF => ?_
  refine ls_ask (d := 8) hF rfl (fun g1_4 => ?_) (fun g1_4 => ?_)
  ·
   have g1_4' := g1_4; try simp only [q1, q2, q3, q4, q5, q6, q7, q8, q9, qa, qb] at g1_4'
   have ht : targetS s = none := by unfold targetS; rw [if_neg (fun e => g1_4' e.1)]
   refine lsn hF rfl rfl rfl g1_4 rfl rfl fun a hF => ?_
   refine lsn hF rfl rfl rfl g1_4 rfl rfl fun a hF => ?_
   refine lsn hF rfl rfl rfl g1_4 rfl rfl fun a hF => ?_
   refine lsn hF rfl rfl rfl g1_4 rfl rfl fun a hF => ?_
   refine lsn hF rfl rfl rfl g1_4 rfl rfl fun a hF => ?_
   refine lsn hF rfl rfl rfl g1_4 rfl rfl fun a hF => ?_
   refine ls hF rfl rfl rfl (r_pickt hF rfl rfl g1_4 rfl) fun a hF => ?_
   refine wpList_nil ?_
   replace hF := hF.sel [1, 15]
   simp only [sel, lk, Nat.reduceBEq, cond_true, cond_false] at hF
   refine k3 ?_
   refine c_yes hF rfl rfl ?_
   refine c_seq fun Q4 k4 t4 => ?_
   refine c_reg fun ops => ?_
   refine ls hF rfl rfl rfl (r_assign hF rfl rfl) fun a hF => ?_
   refine ls hF rfl rfl rfl (r_assign hF rfl rfl) fun a hF => ?_
   refine wpList_nil ?_
   replace hF := hF.sel [2, 3]
   simp only [sel, lk, Nat.reduceBEq, cond_true, cond_false] at hF
   refine k4 ?_
   refine wp_ret ?_
   refine t2.ret (hret (ret2 (fn := Tryd.f44) (t := 2) (u := 3) hF Tryd.results44 rfl rfl ?_))
   exact ⟨by rw [ht]; rfl, hH.below⟩
  ·
   have g1_4' := g1_4; try simp only [q1, q2, q3, q4, q5, q6, q7, q8, q9, qa, qb] at g1_4'
   obtain ⟨b, off, had, hc⟩ := hv.at (i := 0) (by omega)
   have hd0 : s.data.getD 0 [] ∈ s.data := by rw [List.getD_eq_getElem?_getD, List.getElem?_eq_getElem (show 0 < s.data.length by omega)]; exact List.getElem_mem _
   have hdl := hd _ hd0
   rw [had] at hH
   refine lsy hF rfl rfl rfl g1_4 rfl rfl (r_fieldaddr0 hF rfl rfl fd49_4) fun a hF => ?_
   refine lsy hF rfl rfl rfl g1_4 rfl rfl (r_load hF rfl rfl fl47 (own_cell (i := 0) hH rfl rfl)) fun a hF => ?_
   refine lsy hF rfl rfl rfl g1_4 rfl rfl (r_ix1 hF 0 rfl rfl rfl Tryd.underlying47 ti9 (by omega)) fun a hF => ?_
   refine lsy hF rfl rfl rfl g1_4 rfl rfl (r_load hF rfl rfl fl9 (hH.cell hc)) fun a hF => ?_
   refine lsy_call hF rfl rfl rfl g1_4 rfl rfl rfl rfl fn61 (dmay_spec _ _ hdl _ (hG.ext hH.below)) ?_
   rintro _ w ⟨rfl, hE⟩ a hF
   replace hH := hH.ext hE
   refine lsy hF rfl rfl rfl g1_4 rfl rfl (r_not hF rfl rfl) fun a hF => ?_
   refine ls hF rfl rfl rfl (r_pickf hF rfl rfl g1_4 rfl) fun a hF => ?_
   refine wpList_nil ?_
   replace hF := hF.sel [1, 15]
   simp only [sel, lk, Nat.reduceBEq, cond_true, cond_false] at hF
   refine k3 ?_
   refine c_if hF rfl (fun h15 => ?_) (fun h15 => ?_)
   ·
    try simp only [q1, q2, q3, q4, q5, q6, q7, q8, q9, qa, qb] at h15
    have hm0 : dmayB 5 (s.data.getD 0 []) = false := h15
    rw [dmay_named rfl] at hm0
    have ht : targetS s = none := by unfold targetS; rw [if_neg (fun e => by rw [hm0] at e; cases e.2)]
    refine c_seq fun Q5 k5 t5 => ?_
    refine c_reg fun ops => ?_
    refine ls hF rfl rfl rfl (r_assign hF rfl rfl) fun a hF => ?_
    refine ls hF rfl rfl rfl (r_assign hF rfl rfl) fun a hF => ?_
    refine wpList_nil ?_
    replace hF := hF.sel [2, 3]
    simp only [sel, lk, Nat.reduceBEq, cond_true, cond_false] at hF
    refine k5 ?_
    refine wp_ret ?_
    refine t2.ret (hret (ret2 (fn := Tryd.f44) (t := 2) (u := 3) hF Tryd.results44 rfl rfl ?_))
    exact ⟨by rw [ht]; rfl, hH.below⟩
   ·
    try simp only [q1, q2, q3, q4, q5, q6, q7, q8, q9, qa, qb] at h15
    have hm1 : dmayB 5 (s.data.getD 0 []) = true := h15
    rw [dmay_named rfl] at hm1
    have ht : targetS s = some (fold (s.data.getD 0 [])) := by unfold targetS; rw [if_pos ⟨g1_4', hm1⟩]
    refine wp_skip ?_
    refine k2 ?_
    refine c_seq fun Q6 k6 t6 => ?_
    refine c_reg fun ops => ?_
    refine ls hF rfl rfl rfl (r_fieldaddr0 hF rfl rfl fd49_4) fun a hF => ?_
    refine ls hF rfl rfl rfl (r_load hF rfl rfl fl47 (own_cell (i := 0) hH rfl rfl)) fun a hF => ?_
    refine ls hF rfl rfl rfl (r_ix1 hF 0 rfl rfl rfl Tryd.underlying47 ti9 (by omega)) fun a hF => ?_
    refine ls hF rfl rfl rfl (r_load hF rfl rfl fl9 (hH.cell hc)) fun a hF => ?_
    refine ls_call hF rfl rfl rfl rfl rfl fn25 (fold_spec _ (by omega) _) ?_
    rintro _ w ⟨rfl, hE⟩ a hF
    replace hH := hH.ext hE
    refine ls hF rfl rfl rfl (r_assign hF rfl rfl) fun a hF => ?_
    refine ls hF rfl rfl rfl (r_assign hF rfl rfl) fun a hF => ?_
    refine wpList_nil ?_
    replace hF := hF.sel [2, 3]
    simp only [sel, lk, Nat.reduceBEq, cond_true, cond_false] at hF
    refine k6 ?_
    refine wp_ret ?_
    refine hret (ret2 (fn := Tryd.f44) (t := 2) (u := 3) hF Tryd.results44 rfl rfl ?_)
    exact ⟨by rw [ht]; rfl, hH.below⟩
end Go.Proofs.YtcelgjabccgnmaaDoor
