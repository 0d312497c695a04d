/-
  The walk of hustingsref09.Follow. Nothing is claimed here.
-/
import Derived.Test.YtcelgjabccgnmaaDoorChain
namespace Go.Proofs.YtcelgjabccgnmaaDoor
open Go.RowKit
set_option linter.unusedVariables false
set_option linter.unusedSimpArgs false
set_option maxHeartbeats 1000000

theorem SetsR.nil (w : World) : SetsR w (.slice none 0 0) [] := ⟨[], rfl, RSl.nil _ _, fun i h => absurd h (by simp)⟩
/-- Sets whose data are read in a world. -/
def EntR (w : World) (es : List Ent) : Prop := ∀ e ∈ es, RSl w 1 e.2.1 e.1.data.length (strV e.1.data)
theorem EntR.one {w : World} {e : Ent} (h : RSl w 1 e.2.1 e.1.data.length (strV e.1.data)) : ∀ u ∈ setV e.1 e.2.1, u.oneCell' = true := ent_one (by obtain ⟨_, _, h⟩ := h.shape; rw [h]; rfl)
theorem sets_read2 {w0 w : World} {v : Value} {es : List Ent} (hv : RSl w 5 v es.length (entV es)) (hE : EntR w0 es) (he : Ext w0 w) : SetsR w v (es.map (·.1)) := by
  refine ⟨es.map (·.2.1), by simp, ?_, fun i h => ?_⟩
  · rw [setsV_ent, List.length_map]; exact hv
  · rw [List.length_map] at h
    have := (hE _ (List.getElem_mem h)).ext he
    simpa using this

theorem follow9_spec (nm : Bs) (kind cls : Nat) (l : List RSet) (v : Value) (w0 : World) (hR : SetsR w0 v l) (hl : l.length < 1000000) (hn : nm.length < 1000000) (hnm : ∀ s ∈ l, s.name.length < 1000000) (hdm : ∀ s ∈ l, s.data.length < 1000000) (hdd : ∀ s ∈ l, ∀ d ∈ s.data, d.length < 1000000) :
    Rets Tryd.prog 18 [.agg (queV nm kind cls).toArray, v] w0
      fun r w' => ∃ cv ev, r = .tuple #[cv, .string (mk (followC nm kind cls l).2.2), ev, .int .i64 ((followC nm kind cls l).1 : Nat)] ∧ Ext w0 w' ∧ SetsR w' cv (followC nm kind cls l).2.1 ∧ SetsR w' ev (endsOf (followC nm kind cls l) kind cls l) := by
  have hH := Hp.refl w0
  refine rets_start Tryd.func18 rfl Tryd.ntmps18 rfl fun a Q0 hF hret hend => ?_
  simp only [argsFrom, Nat.zero_add, Nat.reduceAdd] at hF
  refine c_seq fun Q1 k1 t1 => ?_
  refine c_reg fun ops => ?_
  refine ls_box hF hH rfl rfl rfl rfl rfl ?_
  intro a w g0_0 hH hE hF
  refine ls hF rfl rfl rfl (r_assign hF rfl rfl) fun a hF => ?_
  refine ls hF rfl rfl rfl (r_assign hF rfl rfl) fun a hF => ?_
  refine ls hF rfl rfl rfl (r_assign hF rfl rfl) fun a hF => ?_
  refine ls hF rfl rfl rfl (r_assign hF rfl rfl) fun a hF => ?_
  refine wpList_nil ?_
  replace hF := hF.sel [1, 2]
  simp only [sel, lk, Nat.reduceBEq, cond_true, cond_false] at hF
  refine k1 ?_
  refine c_seq fun Q2 k2 t2 => ?_
  refine c_seq fun Q3 k3 t3 => ?_
  simp only [cells_agg] at hH
  refine c_reg fun ops => ?_
  refine ls hF rfl rfl rfl (r_fieldaddr0 hF rfl rfl fd33_0) fun a hF => ?_
  refine ls hF rfl rfl rfl (r_load hF rfl rfl fl9 (own_cell (i := 0) hH rfl rfl)) fun a hF => ?_
  refine ls_call hF rfl rfl rfl rfl rfl fn35 (refMay_spec _ (by omega) _) ?_
  rintro _ w ⟨rfl, hE⟩ a hF
  replace hH := hH.ext hE
  refine ls hF rfl rfl rfl (r_not hF rfl rfl) fun a hF => ?_
  refine wpList_nil ?_
  replace hF := hF.sel [1, 2, 21]
  simp only [sel, lk, Nat.reduceBEq, cond_true, cond_false] at hF
  refine k3 ?_
  refine c_if hF rfl (fun h21 => ?_) (fun h21 => ?_)
  ·
   try simp only [q1, q2, q3, q4, q5, q6, q7, q8, q9, qa, qb] at h21
   have hF0 : followC nm kind cls l = (1, [], []) := by unfold followC; rw [if_neg (by simp [h21])]
   refine c_seq fun Q4 k4 t4 => ?_
   refine c_reg fun ops => ?_
   refine ls hF rfl rfl rfl (r_assign hF rfl rfl) fun a hF => ?_
   refine ls hF rfl rfl rfl (r_assign hF rfl rfl) fun a hF => ?_
   refine ls hF rfl rfl rfl (r_assign hF rfl rfl) fun a hF => ?_
   refine ls hF rfl rfl rfl (r_assign hF rfl rfl) fun a hF => ?_
   refine wpList_nil ?_
   replace hF := hF.sel [4, 5, 6, 7]
   simp only [sel, lk, Nat.reduceBEq, cond_true, cond_false] at hF
   refine k4 ?_
   refine wp_ret ?_
   refine t2.ret (hret (ret4 (fn := Tryd.f18) (t := 4) (u := 5) (s := 6) (r := 7) hF Tryd.results18 rfl rfl rfl rfl ?_))
   exact ⟨_, _, by rw [hF0]; rfl, hH.below, by rw [hF0]; exact SetsR.nil _, by rw [hF0]; exact SetsR.nil _⟩
  ·
   try simp only [q1, q2, q3, q4, q5, q6, q7, q8, q9, qa, qb] at h21
   have hF0 : followC nm kind cls l = followG l kind cls 8 (fold nm) [fold nm] [] := by unfold followC; rw [if_pos (by simpa using h21)]
   refine wp_skip ?_
   refine k2 ?_
   refine c_seq fun Q5 k5 t5 => ?_
   refine c_reg fun ops => ?_
   refine ls hF rfl rfl rfl (r_fieldaddr0 hF rfl rfl fd33_0) fun a hF => ?_
   refine ls hF rfl rfl rfl (r_load hF rfl rfl fl9 (own_cell (i := 0) hH rfl rfl)) fun a hF => ?_
   refine ls_call hF rfl rfl rfl rfl rfl fn37 (refFold_spec _ (by omega) _) ?_
   rintro _ w ⟨rfl, hE⟩ a hF
   replace hH := hH.ext hE
   refine ls hF rfl rfl rfl (r_assign hF rfl rfl) fun a hF => ?_
   refine wpList_nil ?_
   replace hF := hF.sel [1, 2, 8]
   simp only [sel, lk, Nat.reduceBEq, cond_true, cond_false] at hF
   refine k5 ?_
   refine c_seq fun Q6 k6 t6 => ?_
   refine c_reg fun ops => ?_
   refine ls hF rfl rfl rfl (r_move hF rfl rfl) fun a hF => ?_
   refine ls_build1 hF hH rfl rfl rfl rfl rfl Tryd.underlying47 ti9 rfl (by decide) ?_
   intro a w g4_1 hH hE hF
   refine ls hF rfl rfl rfl (r_assign hF rfl rfl) fun a hF => ?_
   refine wpList_nil ?_
   replace hF := hF.sel [1, 2, 8, 9]
   simp only [sel, lk, Nat.reduceBEq, cond_true, cond_false] at hF
   have hM : Sl 9 1 [(g4_1, .cells (Value.string (mk (fold nm))).cells 9 (0, 0))] (.slice (some ⟨g4_1, 0, none⟩) 1 1) 1 (strV [fold nm]) := ⟨rfl, .inr ⟨_, 1, _, rfl, rfl, Nat.le_refl _, by unfold maxLen; omega, rfl, rfl⟩⟩
   refine k6 ?_
   refine c_seq fun Q7 k7 t7 => ?_
   refine c_reg fun ops => ?_
   refine ls hF rfl rfl rfl (r_assign hF rfl rfl) fun a hF => ?_
   refine wpList_nil ?_
   replace hF := hF.sel [1, 2, 8, 9, 10]
   simp only [sel, lk, Nat.reduceBEq, cond_true, cond_false] at hF
   refine k7 ?_
   refine c_cut (fun a w => ∃ p es B rv, followC nm kind cls l = (0, es.map (·.1), p) ∧ Fr 111 [(1, v), (2, ptr g0_0), (8, .string (mk p)), (10, rv)] a ∧ Hp w0 w ((g0_0, .cells (queV nm kind cls).toArray 33 (0, 0)) :: B) ∧ Sl 49 5 B rv es.length (entV es) ∧ EntR w0 es ∧ p.length ≤ 255) (fun Q8 k8 t8 => ?_) ?_
   ·
    refine c_block fun Q9 t9 => ?_
    refine c_loop (fun n a w => ∃ p met es B rv B' mv, es.length + n = 8 ∧ followG l kind cls n p met (es.map (·.1)) = followC nm kind cls l ∧ Fr 111 [(1, v), (2, ptr g0_0), (8, .string (mk p)), (9, mv), (10, rv)] a ∧ Hp w0 w ((g0_0, .cells (queV nm kind cls).toArray 33 (0, 0)) :: (B' ++ B)) ∧ Sl 9 1 B' mv met.length (strV met) ∧ Sl 49 5 B rv es.length (entV es) ∧ EntR w0 es ∧ p.length ≤ 255 ∧ met.length = es.length + 1) ?_ ?_
    ·
     exact ⟨8, fold nm, [fold nm], [], [], _, _, _, rfl, hF0.symm, hF.keep [1, 2, 8, 9, 10] rfl, hH.of [] (by classical
       rw [List.perm_iff_count]; intro x; simp only [List.count_append, List.count_cons, List.count_nil]; omega), hM, Sl.nil _ _, fun _ h => (List.not_mem_nil h).elim, fold_le255 _, rfl⟩
    ·
     clear hH hF hM
     intro n a w hI Q10 k10 t10
     obtain ⟨p, met, es, B, rv, B', mv, hfu, hfo, hF, hH, hM, hS, hK, hpl, hml⟩ := hI
     obtain ⟨fu, hfun⟩ : ∃ fu, fu = n := ⟨n, rfl⟩
     obtain ⟨rad, rcp, rfl⟩ := hS.shape
     obtain ⟨mad, mcp, rfl⟩ := hM.shape
     have hdv1 := findS_all (n := p) (kind := 5) (cls := cls) hdm (by decide)
     have hdv2 := findS_all (n := p) (kind := 5) (cls := cls) (p := fun s => ∀ d ∈ s.data, d.length < 1000000) hdd (by intro d hd; cases hd)
     generalize hs0 : (findS l p 5 cls).getD noSet = s0 at *
     have hml2 : (es.map (·.1)).length = es.length := by simp
     refine c_seq fun Q11 k11 t11 => ?_
     refine c_seq fun Q12 k12 t12 => ?_
     refine c_reg fun ops => ?_
     refine ls hF rfl rfl rfl (r_fieldaddr0 hF rfl rfl fd33_1) fun a hF => ?_
     refine ls hF rfl rfl rfl (r_load hF rfl rfl fl24 (own_cell (i := 0) hH rfl rfl)) fun a hF => ?_
     refine ls hF rfl rfl rfl (r_bin hF rfl rfl rfl rfl (b_nen _ _ _ 5)) fun a hF => ?_
     refine wpList_nil ?_
     refine k12 ?_
     refine c_if hF rfl (fun h29 => ?_) (fun h29 => ?_)
     ·
      try simp only [q1, q2, q3, q4, q5, q6, q7, q8, q9, qa, qb] at h29
      refine wp_skip ?_
      refine k11 ?_
      refine c_block fun Q13 t13 => ?_
      refine c_seq fun Q14 k14 t14 => ?_
      refine c_reg fun ops => ?_
      refine ls hF rfl rfl rfl (r_move hF rfl rfl) fun a hF => ?_
      refine ls hF rfl rfl rfl (r_move hF rfl rfl) fun a hF => ?_
      refine ls hF rfl rfl rfl (r_fieldaddr0 hF rfl rfl fd33_2) fun a hF => ?_
      refine ls hF rfl rfl rfl (r_load hF rfl rfl fl24 (own_cell (i := 0) hH rfl rfl)) fun a hF => ?_
      refine ls_call hF rfl rfl rfl rfl rfl fn42 (find8_spec l v p 5 cls _ hR hH.below hl (by omega) hnm) ?_
      rintro _ w ⟨dv, rfl, hE, hdv⟩ a hF
      replace hH := hH.ext hE
      rw [hs0] at hdv hF
      refine ls hF rfl rfl rfl (r_move hF rfl rfl) fun a hF => ?_
      refine ls hF rfl rfl rfl (r_extract hF rfl rfl rfl) fun a hF => ?_
      refine ls hF rfl rfl rfl (r_extract hF rfl rfl rfl) fun a hF => ?_
      refine ls_alloc hF hH rfl rfl rfl rfl zv49 ?_
      intro a w g7_8 hH hE hF
      refine ls_storeagg 0 hF hH rfl rfl rfl rfl rfl ti49 rfl (rfl) (rfl) (by have := hdv.shape; obtain ⟨_, _, rfl⟩ := this; simp [setV, cells_agg, Value.oneCell']) ?_
      intro w hH
      simp only [List.set_cons_zero] at hH
      refine ls hF rfl rfl rfl (r_assign hF rfl rfl) fun a hF => ?_
      refine wpList_nil ?_
      refine k14 ?_
      refine c_seq fun Q15 k15 t15 => ?_
      refine c_seq fun Q16 k16 t16 => ?_
      refine c_reg fun ops => ?_
      refine ls hF rfl rfl rfl (r_move hF rfl rfl) fun a hF => ?_
      refine ls hF rfl rfl rfl (r_not hF rfl rfl) fun a hF => ?_
      refine wpList_nil ?_
      refine k16 ?_
      refine c_if hF rfl (fun h39 => ?_) (fun h39 => ?_)
      ·
       try simp only [q1, q2, q3, q4, q5, q6, q7, q8, q9, qa, qb] at h39
       have hst := follow_stop (l := l) (kind := kind) (cls := cls) (f := n) (p := p) (met := met) (ch := es.map (·.1)) (.inr (by simpa using h39))
       refine wp_exit (t15.exit (t13.exit (by decide) (t10.exit (t9.here (?_)))))
       refine k8 ?_
       first
         | exact ⟨p, es, B, _, by rw [← hfo, hst], hF.keep [1, 2, 8, 10] rfl, hH.of B' (by classical
                      rw [List.perm_iff_count]; intro x; simp only [List.count_append, List.count_cons, List.count_nil]; omega), hS, hK, hpl⟩
         | exact ⟨p, es, B, _, by rw [← hfo, hst], hF.keep [1, 2, 8, 10] rfl, hH.of ((g7_8, .cells (setV s0 dv).toArray 49 (0, 0)) :: B') (by classical
                      rw [List.perm_iff_count]; intro x; simp only [List.count_append, List.count_cons, List.count_nil]; omega), hS, hK, hpl⟩
      ·
       try simp only [q1, q2, q3, q4, q5, q6, q7, q8, q9, qa, qb] at h39
       have hfe := follow_err (f := n) (met := met) (ch := es.map (·.1)) h29 (by simpa using h39) (by omega)
       rw [hfo, hs0] at hfe
       refine wp_skip ?_
       refine k15 ?_
       refine c_seq fun Q17 k17 t17 => ?_
       refine c_seq fun Q18 k18 t18 => ?_
       refine c_reg fun ops => ?_
       refine ls hF rfl rfl rfl (r_move hF rfl rfl) fun a hF => ?_
       refine ls hF rfl rfl rfl (r_len_sl hF rfl rfl Tryd.underlying38) fun a hF => ?_
       refine ls hF rfl rfl rfl (r_bin hF rfl rfl rfl rfl (b_gen _ _ _ 8)) fun a hF => ?_
       refine wpList_nil ?_
       refine k18 ?_
       refine c_if hF rfl (fun h42 => ?_) (fun h42 => ?_)
       ·
        try simp only [q1, q2, q3, q4, q5, q6, q7, q8, q9, qa, qb] at h42
        have hE5 : followC nm kind cls l = (5, [], []) := by rw [hfe, if_pos (by omega)]
        refine c_seq fun Q19 k19 t19 => ?_
        refine c_reg fun ops => ?_
        refine ls hF rfl rfl rfl (r_assign hF rfl rfl) fun a hF => ?_
        refine ls hF rfl rfl rfl (r_assign hF rfl rfl) fun a hF => ?_
        refine ls hF rfl rfl rfl (r_assign hF rfl rfl) fun a hF => ?_
        refine ls hF rfl rfl rfl (r_assign hF rfl rfl) fun a hF => ?_
        refine wpList_nil ?_
        refine k19 ?_
        refine wp_ret ?_
        refine t17.ret (t13.ret (t10.ret (t9.ret (t8.ret (hret (ret4 (fn := Tryd.f18) (t := 4) (u := 5) (s := 6) (r := 7) hF Tryd.results18 rfl rfl rfl rfl ?_))))))
        exact ⟨_, _, by rw [hE5]; rfl, hH.below, by rw [hE5]; exact SetsR.nil _, by rw [hE5]; exact SetsR.nil _⟩
       ·
        try simp only [q1, q2, q3, q4, q5, q6, q7, q8, q9, qa, qb] at h42
        rw [if_neg (by omega)] at hfe
        refine wp_skip ?_
        refine k17 ?_
        refine c_seq fun Q20 k20 t20 => ?_
        refine c_reg fun ops => ?_
        refine ls hF rfl rfl rfl (r_move hF rfl rfl) fun a hF => ?_
        refine ls hF rfl rfl rfl (r_move hF rfl rfl) fun a hF => ?_
        refine ls hF rfl rfl rfl (r_fieldaddr0 hF rfl rfl fd33_1) fun a hF => ?_
        refine ls hF rfl rfl rfl (r_load hF rfl rfl fl24 (own_cell (i := 1) hH rfl rfl)) fun a hF => ?_
        refine ls hF rfl rfl rfl (r_fieldaddr0 hF rfl rfl fd33_2) fun a hF => ?_
        refine ls hF rfl rfl rfl (r_load hF rfl rfl fl24 (own_cell (i := 1) hH rfl rfl)) fun a hF => ?_
        refine ls_call hF rfl rfl rfl rfl rfl fn42 (find8_spec l v p kind cls _ hR hH.below hl (by omega) hnm) ?_
        rintro _ w ⟨dv2, rfl, hE, hdv2'⟩ a hF
        replace hH := hH.ext hE
        refine ls hF rfl rfl rfl (r_move hF rfl rfl) fun a hF => ?_
        refine ls hF rfl rfl rfl (r_extract hF rfl rfl rfl) fun a hF => ?_
        refine ls hF rfl rfl rfl (r_extract hF rfl rfl rfl) fun a hF => ?_
        refine ls_alloc hF hH rfl rfl rfl rfl zv49 ?_
        intro a w g11_10 hH hE hF
        refine ls_storeagg 0 hF hH rfl rfl rfl rfl rfl ti49 rfl (rfl) (rfl) (by have := hdv2'.shape; obtain ⟨_, _, rfl⟩ := this; simp [setV, cells_agg, Value.oneCell']) ?_
        intro w hH
        refine ls hF rfl rfl rfl (r_assign hF rfl rfl) fun a hF => ?_
        refine wpList_nil ?_
        replace hH := hH.drop
        obtain ⟨dad, dcp, rfl⟩ := hdv.shape
        refine k20 ?_
        refine c_seq fun Q21 k21 t21 => ?_
        refine c_seq fun Q22 k22 t22 => ?_
        refine c_regg ?_
        refine ls hF rfl rfl rfl (r_fieldaddr0 hF rfl rfl fd49_4) fun a hF => ?_
        refine ls hF rfl rfl rfl (r_load hF rfl rfl fl47 (own_cell (i := 0) hH rfl rfl)) fun a hF => ?_
        refine ls hF rfl rfl rfl (r_len_sl hF rfl rfl Tryd.underlying47) fun a hF => ?_
        refine ls hF rfl rfl rfl (r_bin hF rfl rfl rfl rfl (b_nen _ _ _ 1)) fun a hF => ?_
        refine ls hF rfl rfl rfl (r_move hF rfl rfl) fun a hF => ?_
        refine ls_ask (d := 57) hF rfl (fun g12_4 => ?_) (fun g12_4 => ?_)
        ·
         have g12_4' := g12_4; try simp only [q1, q2, q3, q4, q5, q6, q7, q8, q9, qa, qb] at g12_4'
         have hE3 : followC nm kind cls l = (3, [], []) := by rw [hfe, if_pos (.inl (by unfold targetS; rw [if_neg (fun e => g12_4' e.1)]; rfl))]
         refine lsn hF rfl rfl rfl g12_4 rfl rfl fun a hF => ?_
         refine lsn hF rfl rfl rfl g12_4 rfl rfl fun a hF => ?_
         refine lsn hF rfl rfl rfl g12_4 rfl rfl fun a hF => ?_
         refine lsn hF rfl rfl rfl g12_4 rfl rfl fun a hF => ?_
         refine lsn hF rfl rfl rfl g12_4 rfl rfl fun a hF => ?_
         refine lsn hF rfl rfl rfl g12_4 rfl rfl fun a hF => ?_
         refine ls hF rfl rfl rfl (r_pickt hF rfl rfl g12_4 rfl) fun a hF => ?_
         refine ls hF rfl rfl rfl (r_move hF rfl rfl) fun a hF => ?_
         refine lsn hF rfl rfl rfl rfl rfl rfl fun a hF => ?_
         refine ls hF rfl rfl rfl (r_pickt hF rfl rfl rfl rfl) fun a hF => ?_
         refine wpList_nil ?_
         refine k22 ?_
         refine c_yes hF rfl rfl ?_
         refine c_seq fun Q23 k23 t23 => ?_
         refine c_reg fun ops => ?_
         refine ls hF rfl rfl rfl (r_assign hF rfl rfl) fun a hF => ?_
         refine ls hF rfl rfl rfl (r_assign hF rfl rfl) fun a hF => ?_
         refine ls hF rfl rfl rfl (r_assign hF rfl rfl) fun a hF => ?_
         refine ls hF rfl rfl rfl (r_assign hF rfl rfl) fun a hF => ?_
         refine wpList_nil ?_
         refine k23 ?_
         refine wp_ret ?_
         refine t21.ret (t13.ret (t10.ret (t9.ret (t8.ret (hret (ret4 (fn := Tryd.f18) (t := 4) (u := 5) (s := 6) (r := 7) hF Tryd.results18 rfl rfl rfl rfl ?_))))))
         exact ⟨_, _, by rw [hE3]; rfl, hH.below, by rw [hE3]; exact SetsR.nil _, by rw [hE3]; exact SetsR.nil _⟩
        ·
         have g12_4' := g12_4; try simp only [q1, q2, q3, q4, q5, q6, q7, q8, q9, qa, qb] at g12_4'
         obtain ⟨b, off, had, hc⟩ := hdv.at (i := 0) (by omega)
         have hd0 : s0.data.getD 0 [] ∈ s0.data := by rw [List.getD_eq_getElem?_getD, List.getElem?_eq_getElem (show 0 < s0.data.length by omega)]; exact List.getElem_mem _
         have hdl := hdv2 _ hd0
         rw [had] at hH
         refine lsy hF rfl rfl rfl g12_4 rfl rfl (r_fieldaddr0 hF rfl rfl fd49_4) fun a hF => ?_
         refine lsy hF rfl rfl rfl g12_4 rfl rfl (r_load hF rfl rfl fl47 (own_cell (i := 0) hH rfl rfl)) fun a hF => ?_
         refine lsy hF rfl rfl rfl g12_4 rfl rfl (r_ix1 hF 0 rfl rfl rfl Tryd.underlying47 ti9 (by omega)) fun a hF => ?_
         refine lsy hF rfl rfl rfl g12_4 rfl rfl (r_load hF rfl rfl fl9 (hH.cell hc)) fun a hF => ?_
         refine lsy_call hF rfl rfl rfl g12_4 rfl rfl rfl rfl fn35 (refMay_spec _ hdl _) ?_
         rintro _ w ⟨rfl, hE⟩ a hF
         replace hH := hH.ext hE
         refine lsy hF rfl rfl rfl g12_4 rfl rfl (r_not hF rfl rfl) fun a hF => ?_
         refine ls hF rfl rfl rfl (r_pickf hF rfl rfl g12_4 rfl) fun a hF => ?_
         refine ls hF rfl rfl rfl (r_move hF rfl rfl) fun a hF => ?_
         refine ls_ask (d := 65) hF rfl (fun g12_12 => ?_) (fun g12_12 => ?_)
         ·
          have g12_12' := g12_12; try simp only [q1, q2, q3, q4, q5, q6, q7, q8, q9, qa, qb] at g12_12'
          have hE3 : followC nm kind cls l = (3, [], []) := by rw [hfe, if_pos (.inl (by unfold targetS; rw [if_neg (fun e => by rw [e.2] at g12_12; cases g12_12)]; rfl))]
          refine lsn hF rfl rfl rfl g12_12 rfl rfl fun a hF => ?_
          refine ls hF rfl rfl rfl (r_pickt hF rfl rfl g12_12 rfl) fun a hF => ?_
          refine wpList_nil ?_
          refine k22 ?_
          refine c_yes hF rfl rfl ?_
          refine c_seq fun Q24 k24 t24 => ?_
          refine c_reg fun ops => ?_
          refine ls hF rfl rfl rfl (r_assign hF rfl rfl) fun a hF => ?_
          refine ls hF rfl rfl rfl (r_assign hF rfl rfl) fun a hF => ?_
          refine ls hF rfl rfl rfl (r_assign hF rfl rfl) fun a hF => ?_
          refine ls hF rfl rfl rfl (r_assign hF rfl rfl) fun a hF => ?_
          refine wpList_nil ?_
          refine k24 ?_
          refine wp_ret ?_
          refine t21.ret (t13.ret (t10.ret (t9.ret (t8.ret (hret (ret4 (fn := Tryd.f18) (t := 4) (u := 5) (s := 6) (r := 7) hF Tryd.results18 rfl rfl rfl rfl ?_))))))
          exact ⟨_, _, by rw [hE3]; rfl, hH.below, by rw [hE3]; exact SetsR.nil _, by rw [hE3]; exact SetsR.nil _⟩
         ·
          have g12_12' := g12_12; try simp only [q1, q2, q3, q4, q5, q6, q7, q8, q9, qa, qb] at g12_12'
          refine lsy hF rfl rfl rfl g12_12 rfl rfl (r_move hF rfl rfl) fun a hF => ?_
          refine ls hF rfl rfl rfl (r_pickf hF rfl rfl g12_12 rfl) fun a hF => ?_
          refine wpList_nil ?_
          refine k22 ?_
          refine c_if hF rfl (fun h67 => ?_) (fun h67 => ?_)
          ·
           try simp only [q1, q2, q3, q4, q5, q6, q7, q8, q9, qa, qb] at h67
           have hE3 : followC nm kind cls l = (3, [], []) := by rw [hfe, if_pos (.inr h67)]
           refine c_seq fun Q25 k25 t25 => ?_
           refine c_reg fun ops => ?_
           refine ls hF rfl rfl rfl (r_assign hF rfl rfl) fun a hF => ?_
           refine ls hF rfl rfl rfl (r_assign hF rfl rfl) fun a hF => ?_
           refine ls hF rfl rfl rfl (r_assign hF rfl rfl) fun a hF => ?_
           refine ls hF rfl rfl rfl (r_assign hF rfl rfl) fun a hF => ?_
           refine wpList_nil ?_
           refine k25 ?_
           refine wp_ret ?_
           refine t21.ret (t13.ret (t10.ret (t9.ret (t8.ret (hret (ret4 (fn := Tryd.f18) (t := 4) (u := 5) (s := 6) (r := 7) hF Tryd.results18 rfl rfl rfl rfl ?_))))))
           exact ⟨_, _, by rw [hE3]; rfl, hH.below, by rw [hE3]; exact SetsR.nil _, by rw [hE3]; exact SetsR.nil _⟩
          ·
           try simp only [q1, q2, q3, q4, q5, q6, q7, q8, q9, qa, qb] at h67
           have hm1 : mayB (s0.data.getD 0 []) = true := by simpa using g12_12'
           have hT : targetS s0 = some (fold (s0.data.getD 0 [])) := by unfold targetS; rw [if_pos ⟨g12_4', hm1⟩]
           rw [hT, if_neg (by rw [h67]; simp)] at hfe
           simp only [Option.getD_some] at hfe
           refine wp_skip ?_
           refine k21 ?_
           refine c_seq fun Q26 k26 t26 => ?_
           refine c_reg fun ops => ?_
           refine ls hF rfl rfl rfl (r_fieldaddr0 hF rfl rfl fd49_4) fun a hF => ?_
           refine ls hF rfl rfl rfl (r_load hF rfl rfl fl47 (own_cell (i := 0) hH rfl rfl)) fun a hF => ?_
           refine ls hF rfl rfl rfl (r_ix1 hF 0 rfl rfl rfl Tryd.underlying47 ti9 (by omega)) fun a hF => ?_
           refine ls hF rfl rfl rfl (r_load hF rfl rfl fl9 (hH.cell hc)) fun a hF => ?_
           refine ls_call hF rfl rfl rfl rfl rfl fn37 (refFold_spec _ hdl _) ?_
           rintro _ w ⟨rfl, hE⟩ a hF
           replace hH := hH.ext hE
           refine ls hF rfl rfl rfl (r_assign hF rfl rfl) fun a hF => ?_
           refine wpList_nil ?_
           rw [← had] at hH
           generalize hnx : fold (s0.data.getD 0 []) = nx at *
           have hnl : nx.length ≤ 255 := by rw [← hnx]; exact fold_le255 _
           refine k26 ?_
           refine c_seq fun Q27 k27 t27 => ?_
           refine c_seq fun Q28 k28 t28 => ?_
           refine c_reg fun ops => ?_
           refine ls hF rfl rfl rfl (r_assign hF rfl rfl) fun a hF => ?_
           refine wpList_nil ?_
           refine k28 ?_
           refine c_block fun Q29 t29 => ?_
           refine c_loop (fun n a w => ∃ i, n = met.length - i ∧ i ≤ met.length ∧ (∀ j < i, met.getD j [] ≠ nx) ∧ Fr 111 [(1, v), (2, ptr g0_0), (8, .string (mk nx)), (9, .slice mad met.length mcp), (10, .slice rad es.length rcp), (11, ptr g7_8), (15, .int .i64 (i : Nat))] a ∧ Hp w0 w ((g7_8, .cells (setV s0 (.slice dad s0.data.length dcp)).toArray 49 (0, 0)) :: (g0_0, .cells (queV nm kind cls).toArray 33 (0, 0)) :: (B' ++ B))) ?_ ?_
           ·
            exact ⟨_, 0, rfl, Nat.zero_le _, fun _ h => (Nat.not_lt_zero _ h).elim, hF.keep [1, 2, 8, 9, 10, 11, 15] rfl, hH⟩
           ·
            clear hH hF
            intro n a w hI Q30 k30 t30
            obtain ⟨i, hm, hi, hno, hF, hH⟩ := hI
            refine c_seq fun Q31 k31 t31 => ?_
            refine c_seq fun Q32 k32 t32 => ?_
            refine c_reg fun ops => ?_
            refine ls hF rfl rfl rfl (r_move hF rfl rfl) fun a hF => ?_
            refine ls hF rfl rfl rfl (r_move hF rfl rfl) fun a hF => ?_
            refine ls hF rfl rfl rfl (r_len_sl hF rfl rfl Tryd.underlying47) fun a hF => ?_
            refine ls hF rfl rfl rfl (r_bin hF rfl rfl rfl rfl (b_ltn _ _ _ _)) fun a hF => ?_
            refine wpList_nil ?_
            refine k32 ?_
            refine c_if hF rfl (fun h76 => ?_) (fun h76 => ?_)
            ·
             try simp only [q1, q2, q3, q4, q5, q6, q7, q8, q9, qa, qb] at h76
             have hmr := hM.rsl hH (fun p hp => List.mem_cons_of_mem _ (List.mem_cons_of_mem _ (List.mem_append_left _ hp)))
             obtain ⟨mb, moff, rfl, hmc⟩ := hmr.at h76
             refine wp_skip ?_
             refine k31 ?_
             refine c_seq fun Q33 k33 t33 => ?_
             refine c_block fun Q34 t34 => ?_
             refine c_seq fun Q35 k35 t35 => ?_
             refine c_reg fun ops => ?_
             refine ls hF rfl rfl rfl (r_move hF rfl rfl) fun a hF => ?_
             refine ls hF rfl rfl rfl (r_move hF rfl rfl) fun a hF => ?_
             refine ls hF rfl rfl rfl (r_ix1 hF _ rfl rfl rfl Tryd.underlying47 ti9 (by omega)) fun a hF => ?_
             refine ls hF rfl rfl rfl (r_load hF rfl rfl fl9 (hmc)) fun a hF => ?_
             refine ls hF rfl rfl rfl (r_move hF rfl rfl) fun a hF => ?_
             refine ls hF rfl rfl rfl (r_bin hF rfl rfl rfl rfl (b_seq _ _ _)) fun a hF => ?_
             refine wpList_nil ?_
             refine k35 ?_
             refine c_if hF rfl (fun h84 => ?_) (fun h84 => ?_)
             ·
              try simp only [q1, q2, q3, q4, q5, q6, q7, q8, q9, qa, qb] at h84
              have hmm : nx ∈ met := by rw [← h84, List.getD_eq_getElem?_getD, List.getElem?_eq_getElem h76]; exact List.getElem_mem _
              have hE8 : followC nm kind cls l = (8, [], []) := by rw [hfe, if_pos hmm]
              refine c_seq fun Q36 k36 t36 => ?_
              refine c_reg fun ops => ?_
              refine ls hF rfl rfl rfl (r_assign hF rfl rfl) fun a hF => ?_
              refine ls hF rfl rfl rfl (r_assign hF rfl rfl) fun a hF => ?_
              refine ls hF rfl rfl rfl (r_assign hF rfl rfl) fun a hF => ?_
              refine ls hF rfl rfl rfl (r_assign hF rfl rfl) fun a hF => ?_
              refine wpList_nil ?_
              refine k36 ?_
              refine wp_ret ?_
              refine t34.ret (t33.ret (t30.ret (t29.ret (t27.ret (t13.ret (t10.ret (t9.ret (t8.ret (hret (ret4 (fn := Tryd.f18) (t := 4) (u := 5) (s := 6) (r := 7) hF Tryd.results18 rfl rfl rfl rfl ?_))))))))))
              exact ⟨_, _, by rw [hE8]; rfl, hH.below, by rw [hE8]; exact SetsR.nil _, by rw [hE8]; exact SetsR.nil _⟩
             ·
              try simp only [q1, q2, q3, q4, q5, q6, q7, q8, q9, qa, qb] at h84
              refine wp_skip ?_
              refine t34.norm ?_
              refine k33 ?_
              refine c_reg fun ops => ?_
              refine ls hF rfl rfl rfl (r_move hF rfl rfl) fun a hF => ?_
              refine ls hF rfl rfl rfl (r_bin hF rfl rfl rfl rfl (b_addn _ _ 1 (by omega))) fun a hF => ?_
              refine ls hF rfl rfl rfl (r_assign hF rfl rfl) fun a hF => ?_
              refine wpList_nil ?_
              refine k30 ?_
              exact ⟨met.length - (i + 1), by omega, i + 1, rfl, by omega, fun j hj => (Nat.lt_succ_iff_lt_or_eq.1 hj).elim (hno j) (fun e => by subst e; exact h84), hF.keep [1, 2, 8, 9, 10, 11, 15] rfl, hH⟩
            ·
             try simp only [q1, q2, q3, q4, q5, q6, q7, q8, q9, qa, qb] at h76
             have hnm2 : nx ∉ met := fun hm => by
               obtain ⟨j, hj, e⟩ := List.mem_iff_getElem.1 hm
               exact hno j (by omega) (by rw [← e]; simp [List.getD_eq_getElem?_getD, hj])
             rw [if_neg hnm2] at hfe
             refine wp_exit (t31.exit (t30.exit (t29.here (?_))))
             refine k27 ?_
             refine c_seq fun Q37 k37 t37 => ?_
             refine c_reg fun ops => ?_
             refine ls hF rfl rfl rfl (r_move hF rfl rfl) fun a hF => ?_
             refine ls hF rfl rfl rfl (r_move hF rfl rfl) fun a hF => ?_
             refine ls_build1 hF hH rfl rfl rfl rfl rfl Tryd.underlying47 ti9 rfl (by decide) ?_
             intro a w g20_2 hH hE hF
             have hR := rsl_lit (n := 1) (size := 1) hH rfl (by decide)
             replace hH := hH.drop
             replace hH := hH.of (H' := B' ++ ((g7_8, .cells (setV s0 (.slice dad s0.data.length dcp)).toArray 49 (0, 0)) :: (g0_0, .cells (queV nm kind cls).toArray 33 (0, 0)) :: B)) [] (by classical
               rw [List.perm_iff_count]; intro x; simp only [List.count_append, List.count_cons, List.count_nil]; omega)
             refine ls_append hF hH rfl rfl rfl rfl rfl rfl Tryd.underlying47 ti9 hM hR (one_of rfl) (by decide) (by omega) ?_
             intro a v20_3 w B20_3 hH hM hF
             refine ls hF rfl rfl rfl (r_assign hF rfl rfl) fun a hF => ?_
             refine wpList_nil ?_
             replace hH := hH.of (H' := (g7_8, .cells (setV s0 (.slice dad s0.data.length dcp)).toArray 49 (0, 0)) :: (g0_0, .cells (queV nm kind cls).toArray 33 (0, 0)) :: (B20_3 ++ B)) [] (by classical
               rw [List.perm_iff_count]; intro x; simp only [List.count_append, List.count_cons, List.count_nil]; omega)
             refine k37 ?_
             refine c_reg fun ops => ?_
             refine ls hF rfl rfl rfl (r_move hF rfl rfl) fun a hF => ?_
             refine ls hF rfl rfl rfl (r_loadagg hF rfl rfl Tryd.underlying49 ti49 rfl (own_agg (i := 0) hH rfl)) fun a hF => ?_
             refine ls_build1 hF hH rfl rfl rfl rfl rfl Tryd.underlying38 ti49 rfl (by decide) ?_
             intro a w g21_2 hH hE hF
             have hR := rsl_lit (n := 1) (size := 5) hH rfl (by decide)
             replace hH := hH.drop
             replace hH := hH.of (H' := B ++ ((g0_0, .cells (queV nm kind cls).toArray 33 (0, 0)) :: B20_3)) [(g7_8, .cells (setV s0 (.slice dad s0.data.length dcp)).toArray 49 (0, 0))] (by classical
               rw [List.perm_iff_count]; intro x; simp only [List.count_append, List.count_cons, List.count_nil]; omega)
             refine ls_append hF hH rfl rfl rfl rfl rfl rfl Tryd.underlying38 ti49 hS hR (EntR.one (e := (s0, .slice dad s0.data.length dcp, [])) hdv) (by decide) (by omega) ?_
             intro a v21_3 w B21_3 hH hS hF
             refine ls hF rfl rfl rfl (r_assign hF rfl rfl) fun a hF => ?_
             refine wpList_nil ?_
             refine t13.norm ?_
             refine k10 ?_
             refine ⟨fu - 1, by omega, nx, met ++ [nx], es ++ [((s0, .slice dad s0.data.length dcp, []) : Ent)], B21_3, _, B20_3, _, by simp; omega, by rw [hfe, List.map_append, hfun]; rfl, hF.keep [1, 2, 8, 9, 10] rfl, hH.of [] (by classical
               rw [List.perm_iff_count]; intro x; simp only [List.count_append, List.count_cons, List.count_nil]; omega), ?_, ?_, ?_, hnl, by simp [hml]⟩
             · rw [List.length_append, ← strV_snoc]; exact hM
             · rw [entV_append, List.length_append]; exact hS
             · intro e he
               rcases List.mem_append.1 he with he | he
               · exact hK e he
               · rw [List.mem_singleton.1 he]; exact hdv
     ·
      try simp only [q1, q2, q3, q4, q5, q6, q7, q8, q9, qa, qb] at h29
      have hst := follow_stop (l := l) (cls := cls) (f := n) (p := p) (met := met) (ch := es.map (·.1)) (.inl h29)
      refine wp_exit (t11.exit (t10.exit (t9.here (?_))))
      refine k8 ?_
      first
        | exact ⟨p, es, B, _, by rw [← hfo, hst], hF.keep [1, 2, 8, 10] rfl, hH.of B' (by classical
                     rw [List.perm_iff_count]; intro x; simp only [List.count_append, List.count_cons, List.count_nil]; omega), hS, hK, hpl⟩
        | exact ⟨p, es, B, _, by rw [← hfo, hst], hF.keep [1, 2, 8, 10] rfl, hH.of ((g7_8, .cells (setV s0 dv).toArray 49 (0, 0)) :: B') (by classical
                     rw [List.perm_iff_count]; intro x; simp only [List.count_append, List.count_cons, List.count_nil]; omega), hS, hK, hpl⟩
   ·
    clear hH hF hM
    rintro a w ⟨p, es, B, rv, hfc, hF, hH, hS, hK, hpl⟩
    refine c_seq fun Q38 k38 t38 => ?_
    generalize hs0 : (findS l p kind cls).getD noSet = s0 at *
    refine c_reg fun ops => ?_
    refine ls hF rfl rfl rfl (r_move hF rfl rfl) fun a hF => ?_
    refine ls hF rfl rfl rfl (r_move hF rfl rfl) fun a hF => ?_
    refine ls hF rfl rfl rfl (r_fieldaddr0 hF rfl rfl fd33_1) fun a hF => ?_
    refine ls hF rfl rfl rfl (r_load hF rfl rfl fl24 (own_cell (i := 0) hH rfl rfl)) fun a hF => ?_
    refine ls hF rfl rfl rfl (r_fieldaddr0 hF rfl rfl fd33_2) fun a hF => ?_
    refine ls hF rfl rfl rfl (r_load hF rfl rfl fl24 (own_cell (i := 0) hH rfl rfl)) fun a hF => ?_
    refine ls_call hF rfl rfl rfl rfl rfl fn42 (find8_spec l v p kind cls _ hR hH.below hl (by omega) hnm) ?_
    rintro _ w ⟨dv, rfl, hE, hdv⟩ a hF
    replace hH := hH.ext hE
    rw [hs0] at hdv hF
    refine ls hF rfl rfl rfl (r_move hF rfl rfl) fun a hF => ?_
    refine ls hF rfl rfl rfl (r_extract hF rfl rfl rfl) fun a hF => ?_
    refine ls hF rfl rfl rfl (r_extract hF rfl rfl rfl) fun a hF => ?_
    refine ls_alloc hF hH rfl rfl rfl rfl zv49 ?_
    intro a w g22_10 hH hE hF
    refine ls_storeagg 0 hF hH rfl rfl rfl rfl rfl ti49 rfl (rfl) (rfl) (by have := hdv.shape; obtain ⟨_, _, rfl⟩ := this; simp [setV, cells_agg, Value.oneCell']) ?_
    intro w hH
    simp only [List.set_cons_zero] at hH
    refine ls hF rfl rfl rfl (r_assign hF rfl rfl) fun a hF => ?_
    refine wpList_nil ?_
    replace hF := hF.sel [8, 10, 16, 17]
    simp only [sel, lk, Nat.reduceBEq, cond_true, cond_false] at hF
    refine k38 ?_
    refine c_seq fun Q39 k39 t39 => ?_
    refine c_seq fun Q40 k40 t40 => ?_
    refine c_reg fun ops => ?_
    refine ls hF rfl rfl rfl (r_move hF rfl rfl) fun a hF => ?_
    refine ls hF rfl rfl rfl (r_not hF rfl rfl) fun a hF => ?_
    refine wpList_nil ?_
    replace hF := hF.sel [8, 10, 16, 104]
    simp only [sel, lk, Nat.reduceBEq, cond_true, cond_false] at hF
    refine k40 ?_
    refine c_if hF rfl (fun h104 => ?_) (fun h104 => ?_)
    ·
     try simp only [q1, q2, q3, q4, q5, q6, q7, q8, q9, qa, qb] at h104
     have hso : findS l p kind cls = none := by simpa using h104
     have hCR := sets_read2 (hS.rsl hH (fun p hp => List.mem_cons_of_mem _ (List.mem_cons_of_mem _ hp))) hK hH.below
     refine c_seq fun Q41 k41 t41 => ?_
     refine c_reg fun ops => ?_
     refine ls hF rfl rfl rfl (r_move hF rfl rfl) fun a hF => ?_
     refine ls hF rfl rfl rfl (r_move hF rfl rfl) fun a hF => ?_
     refine ls hF rfl rfl rfl (r_assign hF rfl rfl) fun a hF => ?_
     refine ls hF rfl rfl rfl (r_assign hF rfl rfl) fun a hF => ?_
     refine ls hF rfl rfl rfl (r_assign hF rfl rfl) fun a hF => ?_
     refine ls hF rfl rfl rfl (r_assign hF rfl rfl) fun a hF => ?_
     refine wpList_nil ?_
     replace hF := hF.sel [4, 5, 6, 7]
     simp only [sel, lk, Nat.reduceBEq, cond_true, cond_false] at hF
     refine k41 ?_
     refine wp_ret ?_
     refine t39.ret (hret (ret4 (fn := Tryd.f18) (t := 4) (u := 5) (s := 6) (r := 7) hF Tryd.results18 rfl rfl rfl rfl ?_))
     exact ⟨rv, _, by rw [hfc]; rfl, hH.below, by rw [hfc]; exact hCR, by rw [hfc, endsOf, if_pos rfl, hso]; exact SetsR.nil _⟩
    ·
     try simp only [q1, q2, q3, q4, q5, q6, q7, q8, q9, qa, qb] at h104
     have hso : findS l p kind cls = some s0 := by obtain ⟨s, hs⟩ := Option.isSome_iff_exists.1 (show (findS l p kind cls).isSome = true by simpa using h104); rw [hs] at hs0 ⊢; rw [← hs0]; rfl
     refine wp_skip ?_
     refine k39 ?_
     refine c_seq fun Q42 k42 t42 => ?_
     refine c_flow [0, 1, 4, 5] [2, 3] [] [6, 7] (by kernel_rfl) (by kernel_rfl) fun hB => ?_
     refine ps hF rfl rfl rfl rfl (fun w => r_move hF rfl rfl) fun a hF => ?_
     refine ps hF rfl rfl rfl rfl (fun w => r_move hF rfl rfl) fun a hF => ?_
     refine ps hF rfl rfl rfl rfl (fun w => r_assign hF rfl rfl) fun a hF => ?_
     refine ps hF rfl rfl rfl rfl (fun w => r_assign hF rfl rfl) fun a hF => ?_
     refine fl_start [109, 110] hB (by kernel_rfl) hF ?_
     simp only [wo, hasN, Nat.reduceBEq, cond_true, cond_false] at hF ⊢
     refine fs1 rfl (by
      intro a w Lr hE hC hl
      replace hH := hH.ext hE
      have hF := hC.fr
      exact ls hF rfl rfl rfl (r_loadagg hF rfl rfl Tryd.underlying49 ti49 rfl (own_agg (i := 0) hH rfl)) fun a' hF' => wpList_nil (fl_end hC hF' (Ext.refl _) rfl)) ?_
     refine fsr rfl (by
      intro a w Lr hE hC hl
      replace hH := hH.ext hE
      obtain ⟨_, s109, rfl⟩ := hl 109 (by decide) _ rfl
      replace hC := hC.more s109
      have hF := hC.fr
      refine ls_build1 hF (Hp.refl w) rfl rfl rfl rfl rfl Tryd.underlying38 ti49 rfl (by decide) ?_
      intro a' w' g hH' hE' hF'
      exact wpList_nil (fl_end hC hF' hE' (rsl_lit (n := 1) (size := 5) hH' rfl (by decide)))) ?_
     intro a w hE hF hall
     replace hH := hH.ext hE
     obtain ⟨v110, s110, p110⟩ := hall 110 _ rfl
     replace hF := hF.more s110
     clear hall
     have hCR := sets_read2 (hS.rsl hH (fun p hp => List.mem_cons_of_mem _ (List.mem_cons_of_mem _ hp))) hK hH.below
     have hER := sets_read2 (es := [((s0, dv, []) : Ent)]) (v := v110) p110 (fun e he => by rw [List.mem_singleton.1 he]; exact hdv) hH.below
     refine wpList_nil ?_
     refine ps hF rfl rfl rfl rfl (fun w => r_assign hF rfl rfl) fun a hF => ?_
     refine ps hF rfl rfl rfl rfl (fun w => r_assign hF rfl rfl) fun a hF => ?_
     replace hF := hF.sel [4, 5, 6, 7]
     simp only [sel, lk, Nat.reduceBEq, cond_true, cond_false] at hF
     refine k42 ?_
     refine wp_ret ?_
     refine hret (ret4 (fn := Tryd.f18) (t := 4) (u := 5) (s := 6) (r := 7) hF Tryd.results18 rfl rfl rfl rfl ?_)
     exact ⟨rv, _, by rw [hfc]; rfl, hH.below, by rw [hfc]; exact hCR, by rw [hfc, endsOf, if_pos rfl, hso]; exact hER⟩
end Go.Proofs.YtcelgjabccgnmaaDoor
