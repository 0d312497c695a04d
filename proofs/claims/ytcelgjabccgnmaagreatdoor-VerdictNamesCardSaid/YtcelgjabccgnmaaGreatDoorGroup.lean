/-
  The walk of package rrset's Group. Nothing is claimed here.
-/
import Derived.Test.YtcelgjabccgnmaaGreatDoorOwn
namespace Go.Proofs.YtcelgjabccgnmaaGreatDoor
open Go.RowKit
set_option linter.unusedVariables false
set_option linter.unusedSimpArgs false
set_option maxHeartbeats 1000000

theorem groupN_step {l : List Rec} {i : Nat} (h : i < l.length) : groupN (l.take (i + 1)) = addRec (groupN (l.take i)) l[i] := by
  unfold groupN
  rw [List.take_succ_eq_append_getElem h, List.foldl_append]; rfl
theorem pm_a {α : Type} (x y : α) (A B C : List α) : (B ++ x :: y :: (A ++ C)).Perm (x :: y :: (A ++ (B ++ C))) :=
  List.perm_middle.trans (.cons x (List.perm_middle.trans (.cons y (List.perm_append_comm_assoc B A C))))
theorem pm_b {α : Type} (x : α) (A B C : List α) : (x :: (A ++ (B ++ C))).Perm (x :: (B ++ (A ++ C))) := .cons x (List.perm_append_comm_assoc A B C)
theorem pm_e {α : Type} (x y z : α) (E : List α) : (x :: y :: z :: E).Perm (y :: ([z] ++ ([x] ++ E))) := (List.Perm.swap y x _).trans (.cons y (List.Perm.swap z x _))
theorem pm_c {α : Type} (x y z u : α) {E A F : List α} (h : E.Perm (A ++ F)) : (A ++ x :: y :: z :: u :: F).Perm (x :: y :: z :: u :: E) :=
  List.perm_middle.trans (.cons x (List.perm_middle.trans (.cons y (List.perm_middle.trans (.cons z (List.perm_middle.trans (.cons u h.symm)))))))
theorem pm_d {α : Type} (x y z u : α) (A F : List α) : (y :: x :: z :: u :: (A ++ F)).Perm (A ++ x :: y :: z :: u :: F) :=
  ((List.perm_middle.trans (.cons x (List.perm_middle.trans (.cons y (List.perm_middle.trans (.cons z List.perm_middle)))))).trans (.swap ..)).symm
theorem back_a {w0 w : World} {x y : Nat × Obj} {B A E1 E2 : List (Nat × Obj)} (h : Hp w0 w (B ++ x :: y :: (A ++ (E1 ++ E2)))) : Hp w0 w (B ++ (E1 ++ (A ++ E2))) :=
  (h.sub (List.Sublist.append_left (((List.Sublist.refl _).cons _).cons _) B)).perm (List.Perm.append_left B (List.perm_append_comm_assoc E1 A E2))
theorem set_name_le (r : Rec) : (setOf r).name.length ≤ 255 := by
  unfold setOf; split
  · exact fold_le255 _
  · simp
theorem groupN_name {l : List Rec} {s : RSet} (h : s ∈ groupN l) : s.name.length ≤ 255 := by
  obtain ⟨r, -, hr, -⟩ := ((group_mem l s).1 h).at'
  rw [← hr.2.1]; exact fold_le255 _
theorem group_mono (l : List Rec) (s : RSet) (hs : mayB s.name = true) : ∀ a b, a ≤ b → b < (groupN l).length → scmp ((groupN l).getD b noSet) s < 0 → scmp ((groupN l).getD a noSet) s < 0 := by
  intro a b hab hb h
  rw [getD_eq hb] at h
  rw [getD_eq (show a < (groupN l).length by omega)]
  rcases Nat.lt_or_ge a b with hlt | hge
  · have hh := group_holds l
    exact scmp_trans (hh.1.is _ (List.getElem_mem _)).good.may (hh.1.is _ (List.getElem_mem hb)).good.may hs (List.pairwise_iff_getElem.1 hh.2 a b (by omega) hb hlt) h
  · obtain rfl : a = b := by omega
    exact h
theorem ahead_of {u : List RSet} {s : RSet} {k : Nat} (hk : k ≤ u.length) (hlo : ∀ j < k, scmp (u.getD j noSet) s < 0) (hhi : ∀ j, k ≤ j → j < u.length → ¬ scmp (u.getD j noSet) s < 0) : ahead (before s) u = k :=
  ahead_eq hk (fun j hj => decide_eq_true (by have := hlo j hj; rwa [getD_eq (by omega)] at this)) fun h => decide_eq_false (by have := hhi k (Nat.le_refl _) h; rwa [getD_eq h] at this)
theorem aheadT_of {u : List Bs} {s : Bs} {k : Nat} (hk : k ≤ u.length) (hlo : ∀ j < k, bless (u.getD j []) s = true) (hhi : ∀ j, k ≤ j → j < u.length → bless (u.getD j []) s = false) : ahead (fun x => bless x s) u = k := by
  have e : ∀ i (h : i < u.length), u.getD i [] = u[i] := fun i h => by simp [List.getD_eq_getElem?_getD, h]
  exact ahead_eq hk (fun j hj => by have := hlo j hj; rwa [e _ (by omega)] at this) fun h => by have := hhi k (Nat.le_refl _) h; rwa [e _ h] at this

theorem row_sl {es : List Ent} {n g cp : Nat} {cur : Array Value} (hn : es.length = n) (h1 : n ≤ cp) (h2 : cp ≤ maxLen) (h3 : cur.size = cp * 5) (h4 : cur.toList.take (n * 5) = entV es) : Sl 27 5 [(g, .cells cur 27 (0, 0))] (.slice (some ⟨g, 0, none⟩) n cp) es.length (entV es) := by
  subst hn
  exact ⟨entV_length es, .inr ⟨g, cp, cur, rfl, rfl, h1, h2, h3, h4⟩⟩
theorem map_ent (es : List Ent) (k : Nat) (x : Ent) : (es.set k x).map (·.1) = (es.map (·.1)).set k x.1 := List.map_set
theorem ent_len {es : List Ent} {k i : Nat} {x : Ent} (h : ∀ e ∈ es, e.1.data.length ≤ i) (hx : x.1.data.length ≤ i + 1) : ∀ e ∈ es.set k x, e.1.data.length ≤ i + 1 := by
  intro e he
  rcases List.mem_or_eq_of_mem_set he with he | rfl
  · have := h e he; omega
  · exact hx
theorem group_spec (l : List Rec) (v : Value) (w0 : World) (hR : RSl w0 5 v l.length (recsV l)) (hl : l.length < 1000000) (hb : ∀ r ∈ l, r.name.length < 1000000 ∧ r.data.length < 1000000) (hG : GW w0) :
    Rets Tryz.prog 26 [v] w0 fun r w' => ∃ B es, Hp w0 w' (B ++ entB es) ∧ Sl 27 5 B r es.length (entV es) ∧ EntOk es ∧ es.map (·.1) = groupN l := by
  have hH := Hp.refl w0
  obtain ⟨ad, cap, rfl⟩ := hR.shape
  refine rets_start Tryz.func26 rfl Tryz.ntmps26 rfl fun a Q0 hF hret hend => ?_
  simp only [argsFrom, Nat.zero_add, Nat.reduceAdd] at hF
  refine c_sr fun ops => ?_
  refine zm 1 hF rfl fun a hF => ?_
  refine c_n ?_
  replace hF := hF.sel [0]
  simp only [ss, Nat.reduceBEq] at hF
  refine c_sr fun ops => ?_
  refine zm 1 hF rfl fun a hF => ?_
  refine c_n ?_
  replace hF := hF.sel [0, 3]
  simp only [ss, Nat.reduceBEq] at hF
  refine c_seq fun Q1 k1 t1 => ?_
  refine c_sr fun ops => ?_
  refine zm 1 hF rfl fun a hF => ?_
  refine zl hF rfl (r_len_sl hF rfl rfl Tryz.underlying34) fun a hF => ?_
  refine zm 1 hF rfl fun a hF => ?_
  refine c_n ?_
  replace hF := hF.sel [0, 3, 12, 13]
  simp only [ss, Nat.reduceBEq] at hF
  refine c_block fun Q2 t2 => ?_
  refine c_loop (fun n a w => ∃ i B es rv, n = l.length - i ∧ i ≤ l.length ∧ Fr 84 [(0, .slice ad l.length cap), (3, rv), (12, .int .i64 l.length), (13, .int .i64 i)] a ∧ Hp w0 w (B ++ entB es) ∧ Sl 27 5 B rv es.length (entV es) ∧ EntOk es ∧ es.map (·.1) = groupN (l.take i) ∧ es.length ≤ i ∧ ∀ e ∈ es, e.1.data.length ≤ i) ?_ ?_
  ·
   exact ⟨_, 0, [], [], _, rfl, Nat.zero_le _, hF.keep [0, 3, 12, 13] rfl, hH, Sl.nil _ _, fun _ h => (List.not_mem_nil h).elim, rfl, Nat.le_refl _, fun _ h => (List.not_mem_nil h).elim⟩
  clear hH hF
  intro n a w hI Q3 k3 t3
  obtain ⟨i, B, es, rv, hm, hi, hF, hH, hS, hK, hg, hel, hed⟩ := hI
  refine c_sr fun ops => ?_
  refine zb hF rfl rfl rfl (b_ltn _ _ _ _) fun a hF => ?_
  refine c_n ?_
  refine c_seq fun Q4 k4 t4 => ?_
  refine c_fi hF rfl (fun h14 => ?_) (fun h14 => ?_)
  ·
   try simp only [qq] at h14
   have hil : i = l.length := by omega
   rw [hil, List.take_length] at hg
   refine wp_exit (t4.exit (t3.exit (t2.here (?_))))
   refine k1 ?_
   refine c_sr fun ops => ?_
   refine zm 2 hF rfl fun a hF => ?_
   refine c_n ?_
   replace hF := hF.sel [2]
   simp only [ss, Nat.reduceBEq] at hF
   refine wp_ret (hret (ret1 hF Tryz.results26 rfl ?_))
   exact ⟨B, es, hH, hS, hK, hg⟩
  try simp only [qq] at h14
  obtain ⟨b, off, rfl, -, hrec⟩ := hR.rec h14
  have hmem := List.getElem_mem h14
  obtain ⟨hnl, hdl⟩ := hb _ hmem
  have hstep := groupN_step h14
  rw [← hg] at hstep
  refine wp_skip ?_
  refine k4 ?_
  refine c_cut (fun a w => ∃ B' es' rv', Fr 84 [(0, .slice (some ⟨b, off, none⟩) l.length cap), (3, rv'), (12, .int .i64 l.length), (13, .int .i64 i)] a ∧ Hp w0 w (B' ++ entB es') ∧ Sl 27 5 B' rv' es'.length (entV es') ∧ EntOk es' ∧ es'.map (·.1) = groupN (l.take (i + 1)) ∧ es'.length ≤ i + 1 ∧ ∀ e ∈ es', e.1.data.length ≤ i + 1) (fun Q5 k5 t5 => ?_) ?_
  ·
   refine c_block fun Q6 t6 => ?_
   refine c_sr fun ops => ?_
   refine zm 2 hF rfl fun a hF => ?_
   refine c_n ?_
   refine c_sr fun ops => ?_
   refine zm 2 hF rfl fun a hF => ?_
   refine zl hF rfl (r_indexaddr hF _ rfl rfl rfl Tryz.underlying34 ti38 (by omega)) fun a hF => ?_
   refine zl hF rfl (r_loadagg hF rfl rfl Tryz.underlying38 ti38 rfl (fun j u hu => hH.cell (hrec j u hu))) fun a hF => ?_
   refine zc hF rfl rfl fn58 (one_spec l[i] hnl hdl _ (hG.ext hH.below)) ?_
   rintro _ w ⟨dv, Bd, rfl, hB, hSd⟩ a hF
   replace hH := hH.join hB
   refine zm 3 hF rfl fun a hF => ?_
   refine ls_alloc hF hH rfl rfl rfl rfl zv27 ?_
   intro a w g5_8 hH hE hF
   refine ls_storeagg 0 hF hH rfl rfl rfl rfl rfl ti27 rfl (rfl) (rfl) (by have := hSd.shape; obtain ⟨_, _, rfl⟩ := this; simp [setV, Value.oneCell']) ?_
   intro w hH
   simp only [List.set_cons_zero] at hH
   refine zm 1 hF rfl fun a hF => ?_
   refine c_n ?_
   refine c_seq fun Q7 k7 t7 => ?_
   refine c_sr fun ops => ?_
   refine zm 1 hF rfl fun a hF => ?_
   refine zl hF rfl (r_not hF rfl rfl) fun a hF => ?_
   refine c_n ?_
   refine c_if hF rfl (fun h25 => ?_) (fun h25 => ?_)
   ·
    try simp only [qq] at h25
    have hHn : Hp w0 w (B ++ entB es) := hH.sub ((List.sublist_append_right _ _).cons _)
    have hSn := hS
    have hEn := hK
    have hgn : es.map (·.1) = groupN (l.take (i + 1)) := by rw [hstep, addRec, if_neg (by simp [h25])]
    have hln : es.length ≤ i + 1 := by omega
    have hdn : ∀ e ∈ es, e.1.data.length ≤ i + 1 := fun e he => by have := hed e he; omega
    refine wp_exit (t7.exit (t6.here (?_)))
    refine k5 ?_
    exact ⟨_, _, _, hF.keep [0, 3, 12, 13] rfl, hHn, hSn, hEn, hgn, hln, hdn⟩
   try simp only [qq] at h25
   have hm : rmay l[i] = true := h25
   rw [addRec, if_pos hm] at hstep
   have hgood := (setOf_key hm).good
   have hs1 : (setOf l[i]).data = [dfold l[i].kind l[i].data] := by rw [setOf_yes hm]
   refine wp_skip ?_
   refine k7 ?_
   have hSR : SetsR w rv (es.map (·.1)) := sets_read hH hS hK (fun p hp => List.mem_cons_of_mem _ (List.mem_append_right _ (List.mem_append_left _ hp))) (fun p hp => List.mem_cons_of_mem _ (List.mem_append_right _ (List.mem_append_right _ hp)))
   have hmono : ∀ a b, a ≤ b → b < (es.map (·.1)).length → scmp ((es.map (·.1)).getD b noSet) (setOf l[i]) < 0 → scmp ((es.map (·.1)).getD a noSet) (setOf l[i]) < 0 := by rw [hg]; exact group_mono _ _ hgood.may
   have hnmx : ∀ s ∈ es.map (·.1), s.name.length < 1000000 := fun s hs => by rw [hg] at hs; have := groupN_name hs; omega
   have hlm : (es.map (·.1)).length = es.length := by simp
   refine c_sr fun ops => ?_
   refine zm 1 hF rfl fun a hF => ?_
   refine zl hF rfl (r_loadagg hF rfl rfl Tryz.underlying27 ti27 rfl (own_agg (i := 0) hH rfl)) fun a hF => ?_
   refine zc hF rfl rfl fn59 (searchF_spec (setOf l[i]) hSR (by omega) hnmx (by have := set_name_le l[i]; omega) hmono) ?_
   rintro _ w ⟨⟨k, rfl, hk, hlo, hhi⟩, hE2⟩ a hF
   replace hH := hH.ext hE2
   refine zm 5 hF rfl fun a hF => ?_
   refine c_n ?_
   refine c_seq fun Q8 k8 t8 => ?_
   have hah := ahead_of hk hlo hhi
   rw [addSet, hah] at hstep
   refine c_sr fun ops => ?_
   refine zm 1 hF rfl fun a hF => ?_
   refine zl hF rfl (r_not hF rfl rfl) fun a hF => ?_
   refine c_n ?_
   refine c_if hF rfl (fun h33 => ?_) (fun h33 => ?_)
   ·
    try simp only [qq] at h33
    have hno : ¬ (k < (es.map (·.1)).length ∧ scmp ((es.map (·.1)).getD k noSet) (setOf l[i]) = 0) := fun e => h33.elim (fun h => h e.1) (fun h => h e.2)
    rw [if_neg hno] at hstep
    refine c_sr fun ops => ?_
    refine zm 2 hF rfl fun a hF => ?_
    refine zl hF rfl (r_loadagg hF rfl rfl Tryz.underlying27 ti27 rfl (own_agg (i := 0) hH rfl)) fun a hF => ?_
    refine ls_build1 hF hH rfl rfl rfl rfl rfl Tryz.underlying22 ti27 rfl (by decide) ?_
    intro a w g9_3 hH hE hF
    replace hH := hH.perm (pm_a _ _ Bd B (entB es))
    refine zc hF rfl rfl fn61 (insert_set (news := setV (setOf l[i]) dv) hH hS (by omega) rfl hK.one (by have := hSd.shape; obtain ⟨_, _, rfl⟩ := this; simp [setV, Value.oneCell']) (by omega)) ?_
    rintro r9 w ⟨B', hHb, hSb⟩ a hF
    refine zm 1 hF rfl fun a hF => ?_
    refine c_n ?_
    have hkl : k ≤ es.length := by omega
    rw [entV_insert ((setOf l[i], dv, Bd) : Ent) hkl] at hSb
    have hEl : (es.take k ++ ((setOf l[i], dv, Bd) : Ent) :: es.drop k).length = es.length + 1 := by simp; omega
    have hHn : Hp w0 w (B' ++ entB (es.take k ++ ((setOf l[i], dv, Bd) : Ent) :: es.drop k)) := by
      rw [entB_append, entB_cons]
      have e : entB es = entB (es.take k) ++ entB (es.drop k) := by rw [← entB_append, List.take_append_drop]
      rw [e] at hHb
      exact back_a hHb
    have hSn : Sl 27 5 B' r9 (es.take k ++ ((setOf l[i], dv, Bd) : Ent) :: es.drop k).length (entV (es.take k ++ ((setOf l[i], dv, Bd) : Ent) :: es.drop k)) := by rw [hEl]; exact hSb
    have hEn := hK.put (x := (setOf l[i], dv, Bd)) hSd k
    have hgn : (es.take k ++ ((setOf l[i], dv, Bd) : Ent) :: es.drop k).map (·.1) = groupN (l.take (i + 1)) := by rw [hstep]; simp
    have hln : (es.take k ++ ((setOf l[i], dv, Bd) : Ent) :: es.drop k).length ≤ i + 1 := by omega
    have hdn : ∀ e ∈ es.take k ++ ((setOf l[i], dv, Bd) : Ent) :: es.drop k, e.1.data.length ≤ i + 1 := by
      intro e he
      rcases List.mem_append.1 he with he | he
      · have := hed e (List.mem_of_mem_take he); omega
      · rcases List.mem_cons.1 he with rfl | he
        · rw [hs1]; simp
        · have := hed e (List.mem_of_mem_drop he); omega
    refine wp_exit (t8.exit (t6.here (?_)))
    refine k5 ?_
    exact ⟨_, _, _, hF.keep [0, 3, 12, 13] rfl, hHn, hSn, hEn, hgn, hln, hdn⟩
   try simp only [qq] at h33
   have hyes : k < (es.map (·.1)).length ∧ scmp ((es.map (·.1)).getD k noSet) (setOf l[i]) = 0 := by simpa using h33
   rw [if_pos hyes] at hstep
   have hkl : k < es.length := by omega
   have hgk : (es.map (·.1)).getD k noSet = es[k].1 := by simp [List.getD_eq_getElem?_getD, hkl]
   rw [hgk] at hstep
   obtain ⟨g, cp, cur, rfl, rfl, hcp, hcm, hcs, hct⟩ := hS.open (by omega)
   obtain ⟨gd, cpd, curd, rfl, rfl, hcpd, hcmd, hcsd, hctd⟩ := hSd.open (by rw [hs1]; simp)
   rw [hs1] at hctd
   replace hH := hH.perm (pm_e _ _ _ _)
   refine wp_skip ?_
   refine k8 ?_
   refine c_seq fun Q9 k9 t9 => ?_
   refine c_flow [0, 1, 2, 3, 4, 5, 7] [6, 8, 9, 10, 11] [12] [] (by kernel_rfl) (by kernel_rfl) fun hB => ?_
   refine ps hF rfl rfl rfl rfl (fun w => r_move hF rfl rfl) fun a hF => ?_
   refine ps hF rfl rfl rfl rfl (fun w => r_move hF rfl rfl) fun a hF => ?_
   refine ps hF rfl rfl rfl rfl (fun w => r_move hF rfl rfl) fun a hF => ?_
   refine ps hF rfl rfl rfl rfl (fun w => r_move hF rfl rfl) fun a hF => ?_
   refine ps hF rfl rfl rfl rfl (fun w => r_ixown hF _ rfl rfl rfl Tryz.underlying22 ti27 (by omega)) fun a hF => ?_
   refine ps hF rfl rfl rfl rfl (fun w => r_fieldaddr hF rfl rfl fd27_3) fun a hF => ?_
   refine ps hF rfl rfl rfl rfl (fun w => r_fieldaddr0 hF rfl rfl fd27_3) fun a hF => ?_
   refine fl_start [45, 47, 48, 49, 50] hB (by kernel_rfl) hF ?_
   simp only [wo, hasN, Nat.reduceBEq, cond_true, cond_false] at hF ⊢
   refine fs1 rfl (by
    intro a w Lr hE hC hl
    replace hH := hH.ext hE
    have hF := hC.fr
    exact zl hF rfl (r_load hF rfl rfl fl24 (own_cell (i := 0) hH rfl (take_get hct (entV_get hkl 3 _ rfl)))) fun a' hF' => wpList_nil (fl_end hC hF' (Ext.refl _) rfl)) ?_
   refine fs1 rfl (by
    intro a w Lr hE hC hl
    replace hH := hH.ext hE
    have hF := hC.fr
    exact zl hF rfl (r_load hF rfl rfl fl24 (own_cell (i := 1) hH rfl rfl)) fun a' hF' => wpList_nil (fl_end hC hF' (Ext.refl _) rfl)) ?_
   refine fs1 rfl (by
    intro a w Lr hE hC hl
    replace hH := hH.ext hE
    obtain ⟨_, s45, rfl⟩ := hl 45 (by decide) _ rfl
    replace hC := hC.more s45
    obtain ⟨_, s47, rfl⟩ := hl 47 (by decide) _ rfl
    replace hC := hC.more s47
    have hF := hC.fr
    exact zl hF rfl (r_minn hF rfl rfl rfl) fun a' hF' => wpList_nil (fl_end hC hF' (Ext.refl _) rfl)) ?_
   refine fs1 rfl (by
    intro a w Lr hE hC hl
    replace hH := hH.ext hE
    have hF := hC.fr
    exact zl hF rfl (r_ixown hF _ rfl rfl rfl Tryz.underlying22 ti27 (by omega)) fun a' hF' => wpList_nil (fl_end hC hF' (Ext.refl _) rfl)) ?_
   refine fs1 rfl (by
    intro a w Lr hE hC hl
    replace hH := hH.ext hE
    obtain ⟨_, s49, rfl⟩ := hl 49 (by decide) _ rfl
    replace hC := hC.more s49
    have hF := hC.fr
    exact zl hF rfl (r_fieldaddr hF rfl rfl fd27_3) fun a' hF' => wpList_nil (fl_end hC hF' (Ext.refl _) rfl)) ?_
   intro a w hE hF hall
   replace hH := hH.ext hE
   obtain ⟨_, s45, rfl⟩ := hall 45 _ rfl
   replace hF := hF.more s45
   obtain ⟨_, s47, rfl⟩ := hall 47 _ rfl
   replace hF := hF.more s47
   obtain ⟨_, s48, rfl⟩ := hall 48 _ rfl
   replace hF := hF.more s48
   obtain ⟨_, s49, rfl⟩ := hall 49 _ rfl
   replace hF := hF.more s49
   obtain ⟨_, s50, rfl⟩ := hall 50 _ rfl
   replace hF := hF.more s50
   clear hall
   refine ls_store 0 hF hH rfl rfl rfl rfl rfl fl24 ti24 rfl (by omega) (by simp [noFreeze]) (rfl) ?_
   intro w hH
   simp only [List.set_cons_zero] at hH
   refine wpList_nil ?_
   have hmk := List.getElem_mem hkl
   have hSk := hK _ hmk
   have hct1 := take_set' (j := k * 5 + 3) (u := .int .u32 ((min es[k].1.ttl (setOf l[i]).ttl : Nat) : Int)) hct
   rw [entV_set hkl (show 3 < 5 by decide) ((⟨es[k].1.name, es[k].1.kind, es[k].1.cls, min es[k].1.ttl (setOf l[i]).ttl, es[k].1.data⟩, es[k].2.1, es[k].2.2) : Ent) _ rfl] at hct1
   have hmem2 : es[k].1 ∈ groupN (l.take i) := by rw [← hg]; exact List.mem_map_of_mem hmk
   have hrise := ((group_holds (l.take i)).1.is _ hmem2).rise
   have hdk := hed _ hmk
   generalize hcu : cur.setIfInBounds (k * 5 + 3) (.int .u32 ((min es[k].1.ttl (setOf l[i]).ttl : Nat) : Int)) = cur1 at hH hct1
   have hcs1 : cur1.size = cp * 5 := by rw [← hcu]; simp [hcs]
   generalize he1 : (((⟨es[k].1.name, es[k].1.kind, es[k].1.cls, min es[k].1.ttl (setOf l[i]).ttl, es[k].1.data⟩ : RSet), es[k].2.1, es[k].2.2) : Ent) = e1 at hct1
   have hk1 : k < (es.set k e1).length := by simpa using hkl
   have hg1 : (es.set k e1)[k] = e1 := by simp
   refine k9 ?_
   refine c_seq fun Q10 k10 t10 => ?_
   refine c_flow [0, 1, 2, 3, 5] [4, 6, 7, 8] [9] [10, 11, 12, 13, 14] (by kernel_rfl) (by kernel_rfl) fun hB => ?_
   refine ps hF rfl rfl rfl rfl (fun w => r_move hF rfl rfl) fun a hF => ?_
   refine ps hF rfl rfl rfl rfl (fun w => r_move hF rfl rfl) fun a hF => ?_
   refine ps hF rfl rfl rfl rfl (fun w => r_ixown hF _ rfl rfl rfl Tryz.underlying22 ti27 (by omega)) fun a hF => ?_
   refine ps hF rfl rfl rfl rfl (fun w => r_fieldaddr hF rfl rfl fd27_4) fun a hF => ?_
   refine ps hF rfl rfl rfl rfl (fun w => r_fieldaddr0 hF rfl rfl fd27_4) fun a hF => ?_
   refine fl_start [56, 58, 59, 60] hB (by kernel_rfl) hF ?_
   simp only [wo, hasN, Nat.reduceBEq, cond_true, cond_false] at hF ⊢
   refine fs1 rfl (by
    intro a w Lr hE hC hl
    replace hH := hH.ext hE
    have hF := hC.fr
    exact zl hF rfl (r_load hF rfl rfl fl25 (own_cell (i := 0) hH rfl (take_get hct1 (entV_get (es := es.set k e1) hk1 4 es[k].2.1 (by rw [hg1, ← he1]; rfl))))) fun a' hF' => wpList_nil (fl_end hC hF' (Ext.refl _) rfl)) ?_
   refine fs1 rfl (by
    intro a w Lr hE hC hl
    replace hH := hH.ext hE
    have hF := hC.fr
    exact zl hF rfl (r_load hF rfl rfl fl25 (own_cell (i := 1) hH rfl rfl)) fun a' hF' => wpList_nil (fl_end hC hF' (Ext.refl _) rfl)) ?_
   refine fs1 rfl (by
    intro a w Lr hE hC hl
    replace hH := hH.ext hE
    obtain ⟨_, s58, rfl⟩ := hl 58 (by decide) _ rfl
    replace hC := hC.more s58
    have hF := hC.fr
    exact zl hF rfl (r_ixown1 hF 0 rfl rfl rfl Tryz.underlying25 ti9 (by rw [hs1]; simp)) fun a' hF' => wpList_nil (fl_end hC hF' (Ext.refl _) rfl)) ?_
   refine fs1 rfl (by
    intro a w Lr hE hC hl
    replace hH := hH.ext hE
    obtain ⟨_, s59, rfl⟩ := hl 59 (by decide) _ rfl
    replace hC := hC.more s59
    have hF := hC.fr
    exact zl hF rfl (r_load hF rfl rfl fl9 (own_cell (i := 2) hH rfl (take_get hctd rfl))) fun a' hF' => wpList_nil (fl_end hC hF' (Ext.refl _) rfl)) ?_
   intro a w hE hF hall
   replace hH := hH.ext hE
   obtain ⟨_, s56, rfl⟩ := hall 56 _ rfl
   replace hF := hF.more s56
   obtain ⟨_, s58, rfl⟩ := hall 58 _ rfl
   replace hF := hF.more s58
   obtain ⟨_, s59, rfl⟩ := hall 59 _ rfl
   replace hF := hF.more s59
   obtain ⟨_, s60, rfl⟩ := hall 60 _ rfl
   replace hF := hF.more s60
   clear hall
   have hvk := hSk.rsl hH (fun p hp => List.mem_cons_of_mem _ (List.mem_cons_of_mem _ (List.mem_cons_of_mem _ (mem_entB hmk hp))))
   refine zc hF rfl rfl fn62 (search_spec (dfold l[i].kind l[i].data) hvk (by omega) (fun a b hab hb h => rise_mono hrise hab hb h)) ?_
   rintro _ w ⟨⟨ka, rfl, hka, hlo2, hhi2⟩, hE3⟩ a hF
   replace hH := hH.ext hE3
   refine wpList_nil ?_
   refine ps hF rfl rfl rfl rfl (fun w => r_move hF rfl rfl) fun a hF => ?_
   refine ps hF rfl rfl rfl rfl (fun w => r_extract hF rfl rfl rfl) fun a hF => ?_
   refine ps hF rfl rfl rfl rfl (fun w => r_extract hF rfl rfl rfl) fun a hF => ?_
   refine ps hF rfl rfl rfl rfl (fun w => r_assign hF rfl rfl) fun a hF => ?_
   refine ps hF rfl rfl rfl rfl (fun w => r_assign hF rfl rfl) fun a hF => ?_
   refine k10 ?_
   have hah2 := aheadT_of hka hlo2 hhi2
   refine c_sr fun ops => ?_
   refine zm 1 hF rfl fun a hF => ?_
   refine zl hF rfl (r_not hF rfl rfl) fun a hF => ?_
   refine c_n ?_
   refine c_fi hF rfl (fun h65 => ?_) (fun h65 => ?_)
   ·
    try simp only [qq] at h65
    have hye2 : es[k].1.data.getD ka [] = dfold l[i].kind l[i].data ∧ ka < es[k].1.data.length := by simpa [and_comm] using h65
    have hins : insText es[k].1.data (dfold l[i].kind l[i].data) = es[k].1.data := by unfold insText; rw [hah2, if_pos hye2]
    subst he1
    have hHn := (hH.sub (List.Sublist.cons_cons _ (((List.Sublist.refl _).cons _).cons _))).perm (List.Perm.cons _ (List.Perm.of_eq (entB_same hkl ((⟨es[k].1.name, es[k].1.kind, es[k].1.cls, min es[k].1.ttl (setOf l[i]).ttl, es[k].1.data⟩, es[k].2.1, es[k].2.2) : Ent) rfl)))
    have hEn := hK.set (x := (⟨es[k].1.name, es[k].1.kind, es[k].1.cls, min es[k].1.ttl (setOf l[i]).ttl, es[k].1.data⟩, es[k].2.1, es[k].2.2)) hSk k
    have hSn := row_sl (es := es.set k ((⟨es[k].1.name, es[k].1.kind, es[k].1.cls, min es[k].1.ttl (setOf l[i]).ttl, es[k].1.data⟩, es[k].2.1, es[k].2.2) : Ent)) (n := es.length) (by simp) (g := g) hcp hcm hcs1 hct1
    have hgn : (es.set k ((⟨es[k].1.name, es[k].1.kind, es[k].1.cls, min es[k].1.ttl (setOf l[i]).ttl, es[k].1.data⟩, es[k].2.1, es[k].2.2) : Ent)).map (·.1) = groupN (l.take (i + 1)) := by rw [map_ent, hstep, hs1, List.getD_cons_zero, hins]
    have hln : (es.set k ((⟨es[k].1.name, es[k].1.kind, es[k].1.cls, min es[k].1.ttl (setOf l[i]).ttl, es[k].1.data⟩, es[k].2.1, es[k].2.2) : Ent)).length ≤ i + 1 := by simp; omega
    have hdn := ent_len (k := k) (x := ((⟨es[k].1.name, es[k].1.kind, es[k].1.cls, min es[k].1.ttl (setOf l[i]).ttl, es[k].1.data⟩, es[k].2.1, es[k].2.2) : Ent)) hed (by simp only; omega)
    refine wp_skip ?_
    refine t6.norm ?_
    refine k5 ?_
    exact ⟨_, _, _, hF.keep [0, 3, 12, 13] rfl, hHn, hSn, hEn, hgn, hln, hdn⟩
   try simp only [qq] at h65
   have hno2 : ¬ (es[k].1.data.getD ka [] = dfold l[i].kind l[i].data ∧ ka < es[k].1.data.length) := fun e => h65.elim (fun h => h e.2) (fun h => h e.1)
   have hHR := hH
   refine c_flow [0, 1, 2, 3, 4, 5, 7, 8] [6, 9, 10, 11, 12] [13, 14, 15, 16] [] (by kernel_rfl) (by kernel_rfl) fun hB => ?_
   refine ps hF rfl rfl rfl rfl (fun w => r_move hF rfl rfl) fun a hF => ?_
   refine ps hF rfl rfl rfl rfl (fun w => r_move hF rfl rfl) fun a hF => ?_
   refine ps hF rfl rfl rfl rfl (fun w => r_move hF rfl rfl) fun a hF => ?_
   refine ps hF rfl rfl rfl rfl (fun w => r_move hF rfl rfl) fun a hF => ?_
   refine ps hF rfl rfl rfl rfl (fun w => r_ixown hF _ rfl rfl rfl Tryz.underlying22 ti27 (by omega)) fun a hF => ?_
   refine ps hF rfl rfl rfl rfl (fun w => r_fieldaddr hF rfl rfl fd27_4) fun a hF => ?_
   refine ps hF rfl rfl rfl rfl (fun w => r_move hF rfl rfl) fun a hF => ?_
   refine ps hF rfl rfl rfl rfl (fun w => r_fieldaddr0 hF rfl rfl fd27_4) fun a hF => ?_
   refine fl_start [72, 75, 76, 77, 78] hB (by kernel_rfl) hF ?_
   simp only [wo, hasN, Nat.reduceBEq, cond_true, cond_false] at hF ⊢
   refine fs1 rfl (by
    intro a w Lr hE hC hl
    replace hH := hH.ext hE
    have hF := hC.fr
    exact zl hF rfl (r_load hF rfl rfl fl25 (own_cell (i := 0) hH rfl (take_get hct1 (entV_get (es := es.set k e1) hk1 4 es[k].2.1 (by rw [hg1, ← he1]; rfl))))) fun a' hF' => wpList_nil (fl_end hC hF' (Ext.refl _) rfl)) ?_
   refine fs1 rfl (by
    intro a w Lr hE hC hl
    replace hH := hH.ext hE
    have hF := hC.fr
    exact zl hF rfl (r_load hF rfl rfl fl25 (own_cell (i := 1) hH rfl rfl)) fun a' hF' => wpList_nil (fl_end hC hF' (Ext.refl _) rfl)) ?_
   refine fs1 rfl (by
    intro a w Lr hE hC hl
    replace hH := hH.ext hE
    obtain ⟨_, s75, rfl⟩ := hl 75 (by decide) _ rfl
    replace hC := hC.more s75
    have hF := hC.fr
    exact zl hF rfl (r_ixown1 hF 0 rfl rfl rfl Tryz.underlying25 ti9 (by rw [hs1]; simp)) fun a' hF' => wpList_nil (fl_end hC hF' (Ext.refl _) rfl)) ?_
   refine fs1 rfl (by
    intro a w Lr hE hC hl
    replace hH := hH.ext hE
    obtain ⟨_, s76, rfl⟩ := hl 76 (by decide) _ rfl
    replace hC := hC.more s76
    have hF := hC.fr
    exact zl hF rfl (r_load hF rfl rfl fl9 (own_cell (i := 2) hH rfl (take_get hctd rfl))) fun a' hF' => wpList_nil (fl_end hC hF' (Ext.refl _) rfl)) ?_
   refine fs (fun v w' => ∃ g, v = .slice (some ⟨g, 0, none⟩) 1 1 ∧ Hp w w' [(g, .cells #[.string (mk (dfold l[i].kind l[i].data))] 9 (0, 0))]) rfl (fun _ _ _ he h => let ⟨g, h1, h2⟩ := h; ⟨g, h1, h2.ext he⟩) ?_ ?_
   ·
    intro a w Lr hE hC hl
    replace hH := hH.ext hE
    obtain ⟨_, s77, rfl⟩ := hl 77 (by decide) _ rfl
    replace hC := hC.more s77
    have hF := hC.fr
    refine ls_build1 hF (Hp.refl w) rfl rfl rfl rfl rfl Tryz.underlying25 ti9 rfl (by decide) ?_
    intro a' w' g hH' hE' hF'
    exact wpList_nil (fl_end hC hF' hE' (by exact ⟨_, rfl, Hp.base hE hH'⟩))
   intro a w hE hF hall
   replace hH := hH.ext hE
   obtain ⟨_, s72, rfl⟩ := hall 72 _ rfl
   replace hF := hF.more s72
   obtain ⟨_, s75, rfl⟩ := hall 75 _ rfl
   replace hF := hF.more s75
   obtain ⟨_, s76, rfl⟩ := hall 76 _ rfl
   replace hF := hF.more s76
   obtain ⟨_, s77, rfl⟩ := hall 77 _ rfl
   replace hF := hF.more s77
   obtain ⟨v78, s78, p78⟩ := hall 78 _ rfl
   replace hF := hF.more s78
   clear hall
   obtain ⟨g13, rfl, q13⟩ := p78
   replace hH := hHR.join q13
   simp only [List.cons_append, List.nil_append] at hH
   replace hH := hH.perm (pm_c _ _ _ _ (entB_pick hkl))
   refine zc hF rfl rfl fn63 (insert_str (news := [.string (mk (dfold l[i].kind l[i].data))]) hH hSk hka rfl (strV_one _) (strV_one [_]) (by omega)) ?_
   rintro r13 w ⟨B', hHb, hSb⟩ a hF
   refine zl hF rfl (r_ixown hF _ rfl rfl rfl Tryz.underlying22 ti27 (by omega)) fun a hF => ?_
   refine zl hF rfl (r_fieldaddr hF rfl rfl fd27_4) fun a hF => ?_
   have hH := hHb.perm (pm_d _ _ _ _ _ _)
   refine ls_store 0 hF hH rfl rfl rfl rfl rfl fl25 ti25 rfl (by omega) (by simp [noFreeze]) (hSb.one) ?_
   intro w hH
   simp only [List.set_cons_zero] at hH
   refine wpList_nil ?_
   subst he1
   have hct2 := take_set' (j := k * 5 + 4) (u := r13) hct1
   have hins : insText es[k].1.data (dfold l[i].kind l[i].data) = es[k].1.data.take ka ++ dfold l[i].kind l[i].data :: es[k].1.data.drop ka := by unfold insText; rw [hah2, if_neg hno2]
   have hnv : strV (insText es[k].1.data (dfold l[i].kind l[i].data)) = (strV es[k].1.data).take (ka * 1) ++ [.string (mk (dfold l[i].kind l[i].data))] ++ (strV es[k].1.data).drop (ka * 1) := by rw [hins]; simp [strV]
   have hnn : (insText es[k].1.data (dfold l[i].kind l[i].data)).length = es[k].1.data.length + 1 := by rw [hins]; simp; omega
   rw [← hnv, ← hnn] at hSb
   rw [entV_set hk1 (show 4 < 5 by decide) ((⟨es[k].1.name, es[k].1.kind, es[k].1.cls, min es[k].1.ttl (setOf l[i]).ttl, insText es[k].1.data (dfold l[i].kind l[i].data)⟩, r13, B') : Ent) r13 (by rw [hg1]; rfl), List.set_set] at hct2
   have hHn := (hH.sub (List.Sublist.cons_cons _ (((List.Sublist.refl _).cons _).cons _ |>.cons _))).perm (List.Perm.cons _ (entB_set hkl ((⟨es[k].1.name, es[k].1.kind, es[k].1.cls, min es[k].1.ttl (setOf l[i]).ttl, insText es[k].1.data (dfold l[i].kind l[i].data)⟩, r13, B') : Ent)))
   have hEn := hK.set (x := (⟨es[k].1.name, es[k].1.kind, es[k].1.cls, min es[k].1.ttl (setOf l[i]).ttl, insText es[k].1.data (dfold l[i].kind l[i].data)⟩, r13, B')) hSb k
   have hSn := row_sl (es := es.set k ((⟨es[k].1.name, es[k].1.kind, es[k].1.cls, min es[k].1.ttl (setOf l[i]).ttl, insText es[k].1.data (dfold l[i].kind l[i].data)⟩, r13, B') : Ent)) (n := es.length) (by simp) (g := g) hcp hcm (by rw [Array.size_setIfInBounds]; exact hcs1) hct2
   have hgn : (es.set k ((⟨es[k].1.name, es[k].1.kind, es[k].1.cls, min es[k].1.ttl (setOf l[i]).ttl, insText es[k].1.data (dfold l[i].kind l[i].data)⟩, r13, B') : Ent)).map (·.1) = groupN (l.take (i + 1)) := by rw [map_ent, hstep, hs1]; rfl
   have hln : (es.set k ((⟨es[k].1.name, es[k].1.kind, es[k].1.cls, min es[k].1.ttl (setOf l[i]).ttl, insText es[k].1.data (dfold l[i].kind l[i].data)⟩, r13, B') : Ent)).length ≤ i + 1 := by simp; omega
   have hdn := ent_len (k := k) (x := ((⟨es[k].1.name, es[k].1.kind, es[k].1.cls, min es[k].1.ttl (setOf l[i]).ttl, insText es[k].1.data (dfold l[i].kind l[i].data)⟩, r13, B') : Ent)) hed (by simp only; omega)
   refine t6.norm ?_
   refine k5 ?_
   exact ⟨_, _, _, hF.keep [0, 3, 12, 13] rfl, hHn, hSn, hEn, hgn, hln, hdn⟩
  clear hH hF hS hK
  rintro a w ⟨B', es', rv', hF, hH, hS, hK, hg', hel', hed'⟩
  refine c_reg fun ops => ?_
  refine zb hF rfl rfl rfl (b_addn _ _ 1 (by omega)) fun a hF => ?_
  refine zm 1 hF rfl fun a hF => ?_
  refine wpList_nil ?_
  refine k3 ?_
  exact ⟨l.length - (i + 1), by omega, i + 1, B', es', rv', rfl, by omega, hF.keep [0, 3, 12, 13] rfl, hH, hS, hK, hg', hel', hed'⟩
end Go.Proofs.YtcelgjabccgnmaaGreatDoor
