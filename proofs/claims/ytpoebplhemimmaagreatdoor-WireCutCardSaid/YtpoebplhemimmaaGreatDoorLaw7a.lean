/-
  The walks of hustingslaw07's measures. Nothing is claimed here.
  The walk of hustingslaw07.whole. Nothing is claimed here.
  The walk of hustingslaw07.awake. Nothing is claimed here.
-/
import Derived.Test.YtpoebplhemimmaaGreatDoorSame7
import Derived.Laws.MakeOwn
namespace Go.Proofs.YtpoebplhemimmaaGreatDoor
open Go.RowKit
set_option linter.unusedVariables false
set_option linter.unusedSimpArgs false
set_option maxHeartbeats 1000000

def recSz (r : Rec) : Nat := 12 + r.name.length + r.data.length
def queSz (q : Que) : Nat := 5 + q.name.length
def optSz (o : Opt) : Nat := 5 + o.data.length
theorem sum_take {α : Type} (f : α → Nat) (l : List α) {i : Nat} (hi : i < l.length) : ((l.take (i + 1)).map f).sum = ((l.take i).map f).sum + f l[i] := by
  rw [List.take_succ_eq_append_getElem hi, List.map_append, List.sum_append]; simp
theorem RSl.small {w : World} {size n : Nat} {v : Value} {xs : List Value} (h : RSl w size v n xs) : n < 9223372036854775808 := by
  obtain ⟨_, a, c, _, h1, h2, _⟩ := h
  unfold maxLen at h2; omega
theorem lrecords_spec (l : List Rec) (v : Value) (w0 : World) (hR : RSl w0 5 v l.length (recsV l)) :
    Rets Tryz.prog 36 [v] w0 fun r w' => (∃ n : Nat, r = .int .i64 (n : Nat) ∧ n < 16000 ∧ (n < 5000 → (l.map recSz).sum = n)) ∧ Ext w0 w' := by
  have hH := Hp.refl w0
  have hsm := hR.small
  obtain ⟨ad, cap, rfl⟩ := hR.shape
  refine rets_start Tryz.func36 rfl Tryz.ntmps36 rfl fun a Q0 hF hret hend => ?_
  simp only [argsFrom, Nat.zero_add, Nat.reduceAdd] at hF
  refine c_sr fun ops => ?_
  refine zm 1 hF rfl fun a hF => ?_
  refine c_n ?_
  replace hF := hF.sel [0]
  simp only [ss, Nat.reduceBEq] at hF
  refine c_sr fun ops => ?_
  refine zm 1 hF rfl fun a hF => ?_
  refine c_n ?_
  replace hF := hF.sel [0, 3]
  simp only [ss, Nat.reduceBEq] at hF
  refine c_seq fun Q1 k1 t1 => ?_
  refine c_sr fun ops => ?_
  refine zm 1 hF rfl fun a hF => ?_
  refine c_n ?_
  replace hF := hF.sel [0, 3, 4]
  simp only [ss, Nat.reduceBEq] at hF
  refine c_block fun Q2 t2 => ?_
  refine c_loop (fun n a w => ∃ i s, n = l.length - i ∧ i ≤ l.length ∧ s < 16000 ∧ (s < 5000 → ((l.take i).map recSz).sum = s) ∧ Fr 34 [(0, .slice ad l.length cap), (3, .int .i64 (s : Nat)), (4, .int .i64 (i : Nat))] a ∧ Hp w0 w []) ?_ ?_
  ·
   exact ⟨_, 0, 0, rfl, Nat.zero_le _, by omega, fun _ => rfl, hF.keep [0, 3, 4] rfl, hH⟩
  clear hH hF
  intro n a w hI Q3 k3 t3
  obtain ⟨i, s, hm, hi, hs, hsum, hF, hH⟩ := hI
  refine c_seq fun Q4 k4 t4 => ?_
  refine c_sg ?_
  refine zm 2 hF rfl fun a hF => ?_
  refine zl hF rfl (r_len_sl hF rfl rfl Tryz.underlying32) fun a hF => ?_
  refine zb hF rfl rfl rfl (b_ltn _ _ _ _) fun a hF => ?_
  refine zm 1 hF rfl fun a hF => ?_
  refine l_ask (d := 9) hF rfl (fun g3_4 => ?_) (fun g3_4 => ?_)
  ·
   have g3_4' := g3_4; try simp only [qq] at g3_4'
   refine zn hF rfl g3_4 fun a hF => ?_
   refine zn hF rfl g3_4 fun a hF => ?_
   refine zl hF rfl (r_pickf hF rfl rfl g3_4 rfl) fun a hF => ?_
   refine c_n ?_
   refine c_no hF rfl rfl ?_
   refine wp_exit (t4.exit (t3.exit (t2.here (?_))))
   refine k1 ?_
   refine c_sr fun ops => ?_
   refine zm 2 hF rfl fun a hF => ?_
   refine c_n ?_
   replace hF := hF.sel [2]
   simp only [ss, Nat.reduceBEq] at hF
   refine wp_ret (hret (ret1 hF Tryz.results36 rfl ?_))
   first
     | exact ⟨⟨s, rfl, hs, fun h => by rw [← hsum h, List.take_of_length_le (by omega)]⟩, hH.below⟩
     | exact ⟨⟨s, rfl, hs, fun h => by omega⟩, hH.below⟩
  have g3_4' := g3_4; try simp only [qq] at g3_4'
  refine zy hF rfl g3_4 (r_move hF rfl rfl) fun a hF => ?_
  refine zy hF rfl g3_4 (zr hF rfl rfl (b_ltn _ _ _ 5000)) fun a hF => ?_
  refine zl hF rfl (r_pickt hF rfl rfl g3_4 rfl) fun a hF => ?_
  refine c_n ?_
  refine c_fi hF rfl (fun h12 => ?_) (fun h12 => ?_)
  ·
   try simp only [qq] at h12
   refine wp_exit (t4.exit (t3.exit (t2.here (?_))))
   refine k1 ?_
   refine c_sr fun ops => ?_
   refine zm 2 hF rfl fun a hF => ?_
   refine c_n ?_
   replace hF := hF.sel [2]
   simp only [ss, Nat.reduceBEq] at hF
   refine wp_ret (hret (ret1 hF Tryz.results36 rfl ?_))
   first
     | exact ⟨⟨s, rfl, hs, fun h => by rw [← hsum h, List.take_of_length_le (by omega)]⟩, hH.below⟩
     | exact ⟨⟨s, rfl, hs, fun h => by omega⟩, hH.below⟩
  try simp only [qq] at h12
  have hil : i < l.length := by omega
  obtain ⟨b1, off1, rfl, -, hr1⟩ := hR.rec hil
  refine wp_skip ?_
  refine k4 ?_
  refine c_seq fun Q5 k5 t5 => ?_
  refine c_block fun Q6 t6 => ?_
  refine c_flow [0, 1, 2, 3, 4, 5, 10, 11, 12, 13] [6, 7, 8, 9, 14, 15, 16, 17, 18] [] [] (by kernel_rfl) (by kernel_rfl) fun hB => ?_
  refine ps hF rfl rfl rfl rfl (fun w => r_move hF rfl rfl) fun a hF => ?_
  refine ps hF rfl rfl rfl rfl (fun w => zr hF rfl rfl (b_addn _ _ 12 (by omega))) fun a hF => ?_
  refine ps hF rfl rfl rfl rfl (fun w => r_move hF rfl rfl) fun a hF => ?_
  refine ps hF rfl rfl rfl rfl (fun w => r_move hF rfl rfl) fun a hF => ?_
  refine ps hF rfl rfl rfl rfl (fun w => r_indexaddr hF _ rfl rfl rfl Tryz.underlying32 ti56 (by omega)) fun a hF => ?_
  refine ps hF rfl rfl rfl rfl (fun w => r_fieldaddr hF rfl rfl fd56_0) fun a hF => ?_
  refine ps hF rfl rfl rfl rfl (fun w => r_move hF rfl rfl) fun a hF => ?_
  refine ps hF rfl rfl rfl rfl (fun w => r_move hF rfl rfl) fun a hF => ?_
  refine ps hF rfl rfl rfl rfl (fun w => r_indexaddr hF _ rfl rfl rfl Tryz.underlying32 ti56 (by omega)) fun a hF => ?_
  refine ps hF rfl rfl rfl rfl (fun w => r_fieldaddr hF rfl rfl fd56_4) fun a hF => ?_
  refine fl_start [21, 22, 23, 24, 29, 30, 31, 32, 3] hB (by kernel_rfl) hF ?_
  simp only [wo, hasN, Nat.reduceBEq, cond_true, cond_false] at hF ⊢
  refine fs1 rfl (by
   intro a w Lr hE hC hl
   replace hH := hH.ext hE
   have hF := hC.fr
   exact zl hF rfl (r_load hF rfl rfl fl9 (hH.cell (hr1 0 (.string (mk l[i].name)) rfl))) fun a' hF' => wpList_nil (fl_end hC hF' (Ext.refl _) rfl)) ?_
  refine fs1 rfl (by
   intro a w Lr hE hC hl
   replace hH := hH.ext hE
   obtain ⟨_, s21, rfl⟩ := hl 21 (by decide) _ rfl
   replace hC := hC.more s21
   have hF := hC.fr
   exact zl hF rfl (r_len_str hF rfl rfl Tryz.underlying9) fun a' hF' => wpList_nil (fl_end hC hF' (Ext.refl _) rfl)) ?_
  refine fs1 rfl (by
   intro a w Lr hE hC hl
   replace hH := hH.ext hE
   obtain ⟨_, s22, rfl⟩ := hl 22 (by decide) _ rfl
   replace hC := hC.more s22
   have hF := hC.fr
   exact zl hF rfl (r_minn (n := 5000) hF rfl rfl rfl) fun a' hF' => wpList_nil (fl_end hC hF' (Ext.refl _) rfl)) ?_
  refine fs1 rfl (by
   intro a w Lr hE hC hl
   replace hH := hH.ext hE
   obtain ⟨_, s23, rfl⟩ := hl 23 (by decide) _ rfl
   replace hC := hC.more s23
   have hF := hC.fr
   exact zl hF rfl (zr hF rfl rfl (b_addn _ _ _ (by omega))) fun a' hF' => wpList_nil (fl_end hC hF' (Ext.refl _) rfl)) ?_
  refine fs1 rfl (by
   intro a w Lr hE hC hl
   replace hH := hH.ext hE
   have hF := hC.fr
   exact zl hF rfl (r_load hF rfl rfl fl9 (hH.cell (hr1 4 (.string (mk l[i].data)) rfl))) fun a' hF' => wpList_nil (fl_end hC hF' (Ext.refl _) rfl)) ?_
  refine fs1 rfl (by
   intro a w Lr hE hC hl
   replace hH := hH.ext hE
   obtain ⟨_, s29, rfl⟩ := hl 29 (by decide) _ rfl
   replace hC := hC.more s29
   have hF := hC.fr
   exact zl hF rfl (r_len_str hF rfl rfl Tryz.underlying9) fun a' hF' => wpList_nil (fl_end hC hF' (Ext.refl _) rfl)) ?_
  refine fs1 rfl (by
   intro a w Lr hE hC hl
   replace hH := hH.ext hE
   obtain ⟨_, s30, rfl⟩ := hl 30 (by decide) _ rfl
   replace hC := hC.more s30
   have hF := hC.fr
   exact zl hF rfl (r_minn (n := 5000) hF rfl rfl rfl) fun a' hF' => wpList_nil (fl_end hC hF' (Ext.refl _) rfl)) ?_
  refine fs1 rfl (by
   intro a w Lr hE hC hl
   replace hH := hH.ext hE
   obtain ⟨_, s24, rfl⟩ := hl 24 (by decide) _ rfl
   replace hC := hC.more s24
   obtain ⟨_, s31, rfl⟩ := hl 31 (by decide) _ rfl
   replace hC := hC.more s31
   have hF := hC.fr
   exact zl hF rfl (zr hF rfl rfl (b_addn _ _ _ (by omega))) fun a' hF' => wpList_nil (fl_end hC hF' (Ext.refl _) rfl)) ?_
  refine fs1 rfl (by
   intro a w Lr hE hC hl
   replace hH := hH.ext hE
   obtain ⟨_, s32, rfl⟩ := hl 32 (by decide) _ rfl
   replace hC := hC.more s32
   have hF := hC.fr
   exact zl hF rfl (r_assign hF rfl rfl) fun a' hF' => wpList_nil (fl_end hC hF' (Ext.refl _) rfl)) ?_
  intro a w hE hF hall
  replace hH := hH.ext hE
  obtain ⟨_, s21, rfl⟩ := hall 21 _ rfl
  replace hF := hF.more s21
  obtain ⟨_, s22, rfl⟩ := hall 22 _ rfl
  replace hF := hF.more s22
  obtain ⟨_, s23, rfl⟩ := hall 23 _ rfl
  replace hF := hF.more s23
  obtain ⟨_, s24, rfl⟩ := hall 24 _ rfl
  replace hF := hF.more s24
  obtain ⟨_, s29, rfl⟩ := hall 29 _ rfl
  replace hF := hF.more s29
  obtain ⟨_, s30, rfl⟩ := hall 30 _ rfl
  replace hF := hF.more s30
  obtain ⟨_, s31, rfl⟩ := hall 31 _ rfl
  replace hF := hF.more s31
  obtain ⟨_, s32, rfl⟩ := hall 32 _ rfl
  replace hF := hF.more s32
  obtain ⟨_, s3, rfl⟩ := hall 3 _ rfl
  replace hF := hF.more s3
  clear hall
  refine wpList_nil ?_
  refine t6.norm ?_
  refine k5 ?_
  refine c_reg fun ops => ?_
  refine zm 1 hF rfl fun a hF => ?_
  refine zb hF rfl rfl rfl (b_addn _ _ 1 (by omega)) fun a hF => ?_
  refine zm 1 hF rfl fun a hF => ?_
  refine wpList_nil ?_
  refine k3 ?_
  exact ⟨l.length - (i + 1), by omega, i + 1, _, rfl, by omega, by omega, (fun h => by rw [sum_take _ _ hil, hsum (by omega)]; unfold recSz; omega), hF.keep [0, 3, 4] rfl, hH⟩
theorem large_spec (m : Msg) (qv av uv xv ov : Value) (w0 : World) (hR : MsgR w0 m qv av uv xv ov) :
    Rets Tryz.prog 13 [.agg (msgV m qv av uv xv ov).toArray] w0 fun r w' => (∃ b : Bool, r = .bool b ∧ (b = false → (m.ans.map recSz).sum + (m.auth.map recSz).sum + (m.extra.map recSz).sum + (m.qs.map queSz).sum + (m.ed.opts.map optSz).sum < 5000)) ∧ Ext w0 w' := by
  have hH := Hp.refl w0
  have hq := hR.qs.small; have hol := hR.opts.small
  obtain ⟨qad, qcp, hqv⟩ := hR.qs.shape
  obtain ⟨oad, ocp, hov⟩ := hR.opts.shape
  subst hqv hov
  refine rets_start Tryz.func13 rfl Tryz.ntmps13 rfl fun a Q0 hF hret hend => ?_
  simp only [argsFrom, Nat.zero_add, Nat.reduceAdd] at hF
  refine c_sr fun ops => ?_
  refine ls_box hF hH rfl rfl rfl rfl rfl ?_
  intro a w g0_0 hH hE hF
  refine zm 1 hF rfl fun a hF => ?_
  refine c_n ?_
  replace hF := hF.sel [1]
  simp only [ss, Nat.reduceBEq] at hF
  refine c_seq fun Q1 k1 t1 => ?_
  refine c_planF hF [] [0, 3, 7] [.p 1, .p 4, .p 8, .o 2, .o 5, .p 6, .o 9] [] [10, 11] [0, 3, 7, 1, 4, 8, 2, 5, 6, 9] (hH.S) (by kernel_rfl) (by kernel_rfl) rfl ?_
  refine ps hF rfl rfl rfl rfl (fun w => r_fieldaddr0 hF rfl rfl fd37_2) fun a hF => ?_
  refine ps hF rfl rfl rfl rfl (fun w => r_fieldaddr0 hF rfl rfl fd37_3) fun a hF => ?_
  refine ps hF rfl rfl rfl rfl (fun w => r_fieldaddr0 hF rfl rfl fd37_4) fun a hF => ?_
  refine pl_start fun w hE => ?_
  replace hH := hH.ext hE
  refine ⟨hH, ?_⟩
  refine pp hF rfl rfl rfl rfl (fun w hH => r_load hF rfl rfl fl32 (own_cell (i := 0) (v := av) hH rfl rfl)) fun a hF => ?_
  refine pp hF rfl rfl rfl rfl (fun w hH => r_load hF rfl rfl fl32 (own_cell (i := 0) (v := uv) hH rfl rfl)) fun a hF => ?_
  refine pp hF rfl rfl rfl rfl (fun w hH => r_load hF rfl rfl fl32 (own_cell (i := 0) (v := xv) hH rfl rfl)) fun a hF => ?_
  refine po ?_
  refine zc hF rfl rfl fn36 (lrecords_spec m.ans av _ (hR.ans.ext hH.below)) ?_
  rintro _ w ⟨⟨na, rfl, hna, hsa⟩, hE⟩ a hF
  replace hH := hH.ext hE
  refine wpList_nil (po_end (hH) ?_)
  refine po ?_
  refine zc hF rfl rfl fn36 (lrecords_spec m.auth uv _ (hR.auth.ext hH.below)) ?_
  rintro _ w ⟨⟨nu, rfl, hnu, hsu⟩, hE⟩ a hF
  replace hH := hH.ext hE
  refine wpList_nil (po_end (hH) ?_)
  refine pp hF rfl rfl rfl rfl (fun w hH => zr hF rfl rfl (b_addn _ _ _ (by omega))) fun a hF => ?_
  refine po ?_
  refine zc hF rfl rfl fn36 (lrecords_spec m.extra xv _ (hR.extra.ext hH.below)) ?_
  rintro _ w ⟨⟨nx, rfl, hnx, hsx⟩, hE⟩ a hF
  replace hH := hH.ext hE
  refine wpList_nil (po_end (hH) ?_)
  refine pt ?_
  refine tt ?_
  refine zb hF rfl rfl rfl (b_addn _ _ _ (by omega)) fun a hF => ?_
  refine zm 1 hF rfl fun a hF => ?_
  refine pt_end ?_
  replace hF := hF.sel [1, 3]
  simp only [ss, Nat.reduceBEq] at hF
  refine k1 ?_
  refine c_cut (fun a w => ∃ s, s < 60000 ∧ (s < 5000 → (m.ans.map recSz).sum + (m.auth.map recSz).sum + (m.extra.map recSz).sum + (m.qs.map queSz).sum = s) ∧ Fr 65 [(1, ptr g0_0), (3, .int .i64 (s : Nat))] a ∧ Hp w0 w [(g0_0, .cells (msgV m (.slice qad m.qs.length qcp) av uv xv (.slice oad m.ed.opts.length ocp)).toArray 37 (0, 0))]) (fun Q2 k2 t2 => ?_) ?_
  ·
   refine c_sr fun ops => ?_
   refine zm 1 hF rfl fun a hF => ?_
   refine c_n ?_
   refine c_block fun Q3 t3 => ?_
   refine c_loop (fun n a w => ∃ i s, n = m.qs.length - i ∧ i ≤ m.qs.length ∧ s < 60000 ∧ (s < 5000 → (m.ans.map recSz).sum + (m.auth.map recSz).sum + (m.extra.map recSz).sum + ((m.qs.take i).map queSz).sum = s) ∧ Fr 65 [(1, ptr g0_0), (3, .int .i64 (s : Nat)), (4, .int .i64 (i : Nat))] a ∧ Hp w0 w [(g0_0, .cells (msgV m (.slice qad m.qs.length qcp) av uv xv (.slice oad m.ed.opts.length ocp)).toArray 37 (0, 0))]) ?_ ?_
   ·
    exact ⟨_, 0, na + nu + nx, rfl, Nat.zero_le _, by omega, (fun h => by rw [hsa (by omega), hsu (by omega), hsx (by omega)]; rfl), hF.keep [1, 3, 4] rfl, hH⟩
   clear hH hF
   intro n a w hI Q4 k4 t4
   obtain ⟨i, s, hm, hi, hs, hsum, hF, hH⟩ := hI
   refine c_seq fun Q5 k5 t5 => ?_
   refine c_sg ?_
   refine zm 1 hF rfl fun a hF => ?_
   refine zl hF rfl (r_fieldaddr0 hF rfl rfl fd37_1) fun a hF => ?_
   refine zl hF rfl (r_load hF rfl rfl fl31 (own_cell (i := 0) (v := .slice qad m.qs.length qcp) hH rfl rfl)) fun a hF => ?_
   refine zl hF rfl (r_len_sl hF rfl rfl Tryz.underlying31) fun a hF => ?_
   refine zb hF rfl rfl rfl (b_ltn _ _ _ _) fun a hF => ?_
   refine zm 1 hF rfl fun a hF => ?_
   refine l_ask (d := 22) hF rfl (fun g3_5 => ?_) (fun g3_5 => ?_)
   ·
    have g3_5' := g3_5; try simp only [qq] at g3_5'
    refine zn hF rfl g3_5 fun a hF => ?_
    refine zn hF rfl g3_5 fun a hF => ?_
    refine zl hF rfl (r_pickf hF rfl rfl g3_5 rfl) fun a hF => ?_
    refine c_n ?_
    refine c_no hF rfl rfl ?_
    refine wp_exit (t5.exit (t4.exit (t3.here (?_))))
    refine k2 ?_
    exact ⟨s, hs, (fun h => by rw [← hsum h, List.take_of_length_le (by omega)]), hF.keep [1, 3] rfl, hH⟩
   have g3_5' := g3_5; try simp only [qq] at g3_5'
   refine zy hF rfl g3_5 (r_move hF rfl rfl) fun a hF => ?_
   refine zy hF rfl g3_5 (zr hF rfl rfl (b_ltn _ _ _ 5000)) fun a hF => ?_
   refine zl hF rfl (r_pickt hF rfl rfl g3_5 rfl) fun a hF => ?_
   refine c_n ?_
   refine c_fi hF rfl (fun h25 => ?_) (fun h25 => ?_)
   ·
    try simp only [qq] at h25
    refine wp_exit (t5.exit (t4.exit (t3.here (?_))))
    refine k2 ?_
    exact ⟨s, hs, (fun h => by rw [← hsum h, List.take_of_length_le (by omega)]), hF.keep [1, 3] rfl, hH⟩
   try simp only [qq] at h25
   have hil : i < m.qs.length := by omega
   obtain ⟨b1, off1, e1, hr1⟩ := hR.qs.elem (f := quV) (fun _ => rfl) hil
   replace hr1 := fun j u hu => hH.below.cell (hr1 j u hu)
   refine wp_skip ?_
   refine k5 ?_
   refine c_seq fun Q6 k6 t6 => ?_
   refine c_block fun Q7 t7 => ?_
   refine c_reg fun ops => ?_
   refine zm 1 hF rfl fun a hF => ?_
   refine zb hF rfl rfl rfl (b_addn _ _ 5 (by omega)) fun a hF => ?_
   refine zl hF rfl (r_fieldaddr0 hF rfl rfl fd37_1) fun a hF => ?_
   refine zl hF rfl (r_load hF rfl rfl fl31 (own_cell (i := 0) (v := .slice (some ⟨b1, off1, none⟩) m.qs.length qcp) hH rfl (by rw [e1]; rfl))) fun a hF => ?_
   refine zm 1 hF rfl fun a hF => ?_
   refine zl hF rfl (r_indexaddr hF _ rfl rfl rfl Tryz.underlying31 ti53 (by omega)) fun a hF => ?_
   refine zl hF rfl (r_fieldaddr hF rfl rfl fd53_0) fun a hF => ?_
   refine zl hF rfl (r_load hF rfl rfl fl9 (hr1 0 (.string (mk m.qs[i].name)) rfl)) fun a hF => ?_
   refine zl hF rfl (r_len_str hF rfl rfl Tryz.underlying9) fun a hF => ?_
   refine zl hF rfl (r_minn (n := 5000) hF rfl rfl rfl) fun a hF => ?_
   refine zb hF rfl rfl rfl (b_addn _ _ _ (by omega)) fun a hF => ?_
   refine zm 1 hF rfl fun a hF => ?_
   refine wpList_nil ?_
   refine t7.norm ?_
   refine k6 ?_
   refine c_reg fun ops => ?_
   refine zm 1 hF rfl fun a hF => ?_
   refine zb hF rfl rfl rfl (b_addn _ _ 1 (by omega)) fun a hF => ?_
   refine zm 1 hF rfl fun a hF => ?_
   refine wpList_nil ?_
   refine k4 ?_
   exact ⟨m.qs.length - (i + 1), by omega, i + 1, _, rfl, by omega, by omega, (fun h => by rw [sum_take _ _ hil, ← Nat.add_assoc, hsum (by omega)]; unfold queSz; omega), hF.keep [1, 3, 4] rfl, hH⟩
  clear hH hF
  rintro a w ⟨s, hs, hsq, hF, hH⟩
  refine c_seq fun Q8 k8 t8 => ?_
  refine c_sr fun ops => ?_
  refine zm 1 hF rfl fun a hF => ?_
  refine c_n ?_
  replace hF := hF.sel [1, 3, 5]
  simp only [ss, Nat.reduceBEq] at hF
  refine c_block fun Q9 t9 => ?_
  refine c_loop (fun n a w => ∃ i s, n = m.ed.opts.length - i ∧ i ≤ m.ed.opts.length ∧ s < 70000 ∧ (s < 5000 → (m.ans.map recSz).sum + (m.auth.map recSz).sum + (m.extra.map recSz).sum + (m.qs.map queSz).sum + ((m.ed.opts.take i).map optSz).sum = s) ∧ Fr 65 [(1, ptr g0_0), (3, .int .i64 (s : Nat)), (5, .int .i64 (i : Nat))] a ∧ Hp w0 w [(g0_0, .cells (msgV m (.slice qad m.qs.length qcp) av uv xv (.slice oad m.ed.opts.length ocp)).toArray 37 (0, 0))]) ?_ ?_
  ·
   exact ⟨_, 0, s, rfl, Nat.zero_le _, by omega, (fun h => by rw [hsq h]; rfl), hF.keep [1, 3, 5] rfl, hH⟩
  clear hH hF
  intro n a w hI Q10 k10 t10
  obtain ⟨i, s, hm, hi, hs, hsum, hF, hH⟩ := hI
  refine c_seq fun Q11 k11 t11 => ?_
  refine c_sg ?_
  refine zm 1 hF rfl fun a hF => ?_
  refine zl hF rfl (r_fieldaddr0 hF rfl rfl fd37_6) fun a hF => ?_
  refine zl hF rfl (r_fieldaddr hF rfl rfl fd35_4) fun a hF => ?_
  refine zl hF rfl (r_load hF rfl rfl fl33 (own_cell (i := 0) (v := .slice oad m.ed.opts.length ocp) hH rfl rfl)) fun a hF => ?_
  refine zl hF rfl (r_len_sl hF rfl rfl Tryz.underlying33) fun a hF => ?_
  refine zb hF rfl rfl rfl (b_ltn _ _ _ _) fun a hF => ?_
  refine zm 1 hF rfl fun a hF => ?_
  refine l_ask (d := 45) hF rfl (fun g7_6 => ?_) (fun g7_6 => ?_)
  ·
   have g7_6' := g7_6; try simp only [qq] at g7_6'
   refine zn hF rfl g7_6 fun a hF => ?_
   refine zn hF rfl g7_6 fun a hF => ?_
   refine zl hF rfl (r_pickf hF rfl rfl g7_6 rfl) fun a hF => ?_
   refine c_n ?_
   refine c_no hF rfl rfl ?_
   refine wp_exit (t11.exit (t10.exit (t9.here (?_))))
   refine k8 ?_
   have hso : s < 5000 → (m.ans.map recSz).sum + (m.auth.map recSz).sum + (m.extra.map recSz).sum + (m.qs.map queSz).sum + (m.ed.opts.map optSz).sum = s := fun h => by
     rw [← hsum h, List.take_of_length_le (by omega)]
   refine c_sr fun ops => ?_
   refine zm 1 hF rfl fun a hF => ?_
   refine zb hF rfl rfl rfl (b_gen _ _ _ 5000) fun a hF => ?_
   refine zm 1 hF rfl fun a hF => ?_
   refine c_n ?_
   replace hF := hF.sel [2]
   simp only [ss, Nat.reduceBEq] at hF
   refine wp_ret (hret (ret1 hF Tryz.results13 rfl ?_))
   exact ⟨⟨_, rfl, fun h => by simp at h; have := hso (by omega); omega⟩, hH.below⟩
  have g7_6' := g7_6; try simp only [qq] at g7_6'
  refine zy hF rfl g7_6 (r_move hF rfl rfl) fun a hF => ?_
  refine zy hF rfl g7_6 (zr hF rfl rfl (b_ltn _ _ _ 5000)) fun a hF => ?_
  refine zl hF rfl (r_pickt hF rfl rfl g7_6 rfl) fun a hF => ?_
  refine c_n ?_
  refine c_fi hF rfl (fun h48 => ?_) (fun h48 => ?_)
  ·
   try simp only [qq] at h48
   refine wp_exit (t11.exit (t10.exit (t9.here (?_))))
   refine k8 ?_
   have hso : s < 5000 → (m.ans.map recSz).sum + (m.auth.map recSz).sum + (m.extra.map recSz).sum + (m.qs.map queSz).sum + (m.ed.opts.map optSz).sum = s := fun h => by
     rw [← hsum h, List.take_of_length_le (by omega)]
   refine c_sr fun ops => ?_
   refine zm 1 hF rfl fun a hF => ?_
   refine zb hF rfl rfl rfl (b_gen _ _ _ 5000) fun a hF => ?_
   refine zm 1 hF rfl fun a hF => ?_
   refine c_n ?_
   replace hF := hF.sel [2]
   simp only [ss, Nat.reduceBEq] at hF
   refine wp_ret (hret (ret1 hF Tryz.results13 rfl ?_))
   exact ⟨⟨_, rfl, fun h => by simp at h; have := hso (by omega); omega⟩, hH.below⟩
  try simp only [qq] at h48
  have hil : i < m.ed.opts.length := by omega
  obtain ⟨b1, off1, e1, hr1⟩ := hR.opts.elem (f := optV) optV_len hil
  replace hr1 := fun j u hu => hH.below.cell (hr1 j u hu)
  refine wp_skip ?_
  refine k11 ?_
  refine c_seq fun Q12 k12 t12 => ?_
  refine c_block fun Q13 t13 => ?_
  refine c_reg fun ops => ?_
  refine zm 1 hF rfl fun a hF => ?_
  refine zb hF rfl rfl rfl (b_addn _ _ 5 (by omega)) fun a hF => ?_
  refine zl hF rfl (r_fieldaddr0 hF rfl rfl fd37_6) fun a hF => ?_
  refine zl hF rfl (r_fieldaddr hF rfl rfl fd35_4) fun a hF => ?_
  refine zl hF rfl (r_load hF rfl rfl fl33 (own_cell (i := 0) (v := .slice (some ⟨b1, off1, none⟩) m.ed.opts.length ocp) hH rfl (by rw [e1]; rfl))) fun a hF => ?_
  refine zm 1 hF rfl fun a hF => ?_
  refine zl hF rfl (r_indexaddr hF _ rfl rfl rfl Tryz.underlying33 ti85 (by omega)) fun a hF => ?_
  refine zl hF rfl (r_fieldaddr hF rfl rfl fd85_1) fun a hF => ?_
  refine zl hF rfl (r_load hF rfl rfl fl9 (hr1 1 (.string (mk m.ed.opts[i].data)) rfl)) fun a hF => ?_
  refine zl hF rfl (r_len_str hF rfl rfl Tryz.underlying9) fun a hF => ?_
  refine zl hF rfl (r_minn (n := 5000) hF rfl rfl rfl) fun a hF => ?_
  refine zb hF rfl rfl rfl (b_addn _ _ _ (by omega)) fun a hF => ?_
  refine zm 1 hF rfl fun a hF => ?_
  refine wpList_nil ?_
  refine t13.norm ?_
  refine k12 ?_
  refine c_reg fun ops => ?_
  refine zm 1 hF rfl fun a hF => ?_
  refine zb hF rfl rfl rfl (b_addn _ _ 1 (by omega)) fun a hF => ?_
  refine zm 1 hF rfl fun a hF => ?_
  refine wpList_nil ?_
  refine k10 ?_
  exact ⟨m.ed.opts.length - (i + 1), by omega, i + 1, _, rfl, by omega, by omega, (fun h => by rw [sum_take _ _ hil, ← Nat.add_assoc, hsum (by omega)]; unfold optSz; omega), hF.keep [1, 3, 5] rfl, hH⟩
end Go.Proofs.YtpoebplhemimmaaGreatDoor
namespace Go.Proofs.YtpoebplhemimmaaGreatDoor
open Go.RowKit
set_option linter.unusedVariables false
set_option linter.unusedSimpArgs false
set_option maxHeartbeats 1000000

theorem RSl.one7 {w : World} {size n : Nat} {v : Value} {xs : List Value} (h : RSl w size v n xs) : v.oneCell' = true := by
  obtain ⟨_, a, c, rfl, _⟩ := h
  rfl
theorem sum_take_le {α : Type} (f : α → Nat) : ∀ (l : List α) (i : Nat), ((l.take i).map f).sum ≤ (l.map f).sum
  | [], i => by simp
  | a :: l, 0 => by simp
  | a :: l, i + 1 => by have := sum_take_le f l i; simp only [List.take_succ_cons, List.map_cons, List.sum_cons]; omega
theorem sum_le {α : Type} {f g : α → Nat} : ∀ {l : List α}, (∀ a ∈ l, f a ≤ g a) → (l.map f).sum ≤ (l.map g).sum
  | [], _ => by simp
  | a :: l, h => by
    have h1 := h a List.mem_cons_self
    have h2 := sum_le (l := l) fun b hb => h b (List.mem_cons_of_mem _ hb)
    simp only [List.map_cons, List.sum_cons]; omega
theorem len_sum {α : Type} {f : α → Nat} : ∀ {l : List α}, (∀ a ∈ l, 1 ≤ f a) → l.length ≤ (l.map f).sum
  | [], _ => by simp
  | a :: l, h => by
    have h1 := h a List.mem_cons_self
    have h2 := len_sum (l := l) fun b hb => h b (List.mem_cons_of_mem _ hb)
    simp only [List.map_cons, List.sum_cons, List.length_cons]; omega
theorem mem_sum {α : Type} {f : α → Nat} : ∀ {l : List α} {a : α}, a ∈ l → f a ≤ (l.map f).sum
  | b :: l, a, h => by
    simp only [List.map_cons, List.sum_cons]
    rcases List.mem_cons.1 h with rfl | h
    · omega
    · have := mem_sum (f := f) h; omega
/-- The measure that large takes. -/
def SmallM (m : Msg) : Prop := (m.ans.map recSz).sum + (m.auth.map recSz).sum + (m.extra.map recSz).sum + (m.qs.map queSz).sum + (m.ed.opts.map optSz).sum < 5000
def rwS (r : Rec) : Nat := r.name.length + 10 + r.data.length
def qwS (q : Que) : Nat := q.name.length + 4
def owS (o : Opt) : Nat := 4 + o.data.length
def secsW (m : Msg) (i : Nat) : Nat := ((List.range i).map fun j => ((secL m (j + 1)).map rwS).sum).sum
def wholeN (m : Msg) : Nat := 12 + (m.qs.map qwS).sum + secsW m 3 + if m.has = true then 11 + (m.ed.opts.map owS).sum else 0
theorem secsW_succ (m : Msg) (i : Nat) : secsW m (i + 1) = secsW m i + ((secL m (i + 1)).map rwS).sum := by
  unfold secsW; rw [List.range_succ]; simp
theorem rw_le (l : List Rec) : (l.map rwS).sum ≤ (l.map recSz).sum := sum_le fun r _ => by unfold rwS recSz; omega
theorem qw_le (l : List Que) : (l.map qwS).sum ≤ (l.map queSz).sum := sum_le fun r _ => by unfold qwS queSz; omega
theorem ow_le (l : List Opt) : (l.map owS).sum ≤ (l.map optSz).sum := sum_le fun r _ => by unfold owS optSz; omega
theorem sec_le {m : Msg} (h : SmallM m) {i : Nat} (hi : i < 3) : ((secL m (i + 1)).map rwS).sum < 5000 := by
  unfold SmallM at h
  have h1 := rw_le m.ans; have h2 := rw_le m.auth; have h3 := rw_le m.extra
  rcases (show i = 0 ∨ i = 1 ∨ i = 2 by omega) with rfl | rfl | rfl
  · show (m.ans.map rwS).sum < 5000; omega
  · show (m.auth.map rwS).sum < 5000; omega
  · show (m.extra.map rwS).sum < 5000; omega
theorem secsW_le {m : Msg} (h : SmallM m) : ∀ i, i ≤ 3 → secsW m i ≤ i * 5000
  | 0, _ => by simp [secsW]
  | i + 1, hi => by
    have h1 := secsW_le h i (by omega)
    have h2 := sec_le h (i := i) (by omega)
    rw [secsW_succ]; omega
theorem secV_at {w0 : World} {m : Msg} {qv av uv xv ov : Value} (hR : MsgR w0 m qv av uv xv ov) {i : Nat} (hi : i < 3) : ∃ ad cp, (#[av, uv, xv] : Array Value)[0 + i]? = some (.slice ad (secL m (i + 1)).length cp) ∧ RSl w0 5 (.slice ad (secL m (i + 1)).length cp) (secL m (i + 1)).length (recsV (secL m (i + 1))) := by
  rcases (show i = 0 ∨ i = 1 ∨ i = 2 by omega) with rfl | rfl | rfl
  · obtain ⟨ad, cp, e⟩ := hR.ans.shape; exact ⟨ad, cp, by rw [e]; rfl, (show RSl w0 5 (.slice ad m.ans.length cp) m.ans.length (recsV m.ans) from e ▸ hR.ans)⟩
  · obtain ⟨ad, cp, e⟩ := hR.auth.shape; exact ⟨ad, cp, by rw [e]; rfl, (show RSl w0 5 (.slice ad m.auth.length cp) m.auth.length (recsV m.auth) from e ▸ hR.auth)⟩
  · obtain ⟨ad, cp, e⟩ := hR.extra.shape; exact ⟨ad, cp, by rw [e]; rfl, (show RSl w0 5 (.slice ad m.extra.length cp) m.extra.length (recsV m.extra) from e ▸ hR.extra)⟩
theorem whole_spec (m : Msg) (qv av uv xv ov : Value) (w0 : World) (hR : MsgR w0 m qv av uv xv ov) (hS : SmallM m) :
    Rets Tryz.prog 17 [.agg (msgV m qv av uv xv ov).toArray] w0 fun r w' => r = .int .i64 (wholeN m : Nat) ∧ Ext w0 w' := by
  have hH := Hp.refl w0
  have hq := hR.qs.small; have hol := hR.opts.small
  have hqw := qw_le m.qs; have how := ow_le m.ed.opts
  have hS2 := hS
  unfold SmallM at hS2
  obtain ⟨qad, qcp, hqv⟩ := hR.qs.shape
  obtain ⟨oad, ocp, hov⟩ := hR.opts.shape
  obtain ⟨aad, acp, hav⟩ := hR.ans.shape; obtain ⟨uad, ucp, huv⟩ := hR.auth.shape; obtain ⟨xad, xcp, hxv⟩ := hR.extra.shape
  subst hav huv hxv
  obtain ⟨mv, hmv⟩ : ∃ mv, mv = (msgV m qv (.slice aad m.ans.length acp) (.slice uad m.auth.length ucp) (.slice xad m.extra.length xcp) ov).toArray := ⟨_, rfl⟩
  have hm1 : mv[11]? = some (.slice qad m.qs.length qcp) := by rw [hmv, hqv]; rfl
  have hm2 : mv[12]? = some (.slice aad m.ans.length acp) := by rw [hmv]; rfl
  have hm3 : mv[13]? = some (.slice uad m.auth.length ucp) := by rw [hmv]; rfl
  have hm4 : mv[14]? = some (.slice xad m.extra.length xcp) := by rw [hmv]; rfl
  have hm5 : mv[15]? = some (.bool m.has) := by rw [hmv]; rfl
  have hm6 : mv[20]? = some (.slice oad m.ed.opts.length ocp) := by rw [hmv, hov]; rfl
  rw [← hmv]
  refine rets_start Tryz.func17 rfl Tryz.ntmps17 rfl fun a Q0 hF hret hend => ?_
  simp only [argsFrom, Nat.zero_add, Nat.reduceAdd] at hF
  refine c_sr fun ops => ?_
  refine ls_box hF hH rfl rfl rfl rfl rfl ?_
  intro a w g0_0 hH hE hF
  refine zm 1 hF rfl fun a hF => ?_
  refine c_n ?_
  replace hF := hF.sel [1]
  simp only [ss, Nat.reduceBEq] at hF
  refine c_sr fun ops => ?_
  refine zm 1 hF rfl fun a hF => ?_
  refine c_n ?_
  replace hF := hF.sel [1, 3]
  simp only [ss, Nat.reduceBEq] at hF
  refine c_seq fun Q1 k1 t1 => ?_
  refine c_sr fun ops => ?_
  refine zm 1 hF rfl fun a hF => ?_
  refine c_n ?_
  replace hF := hF.sel [1, 3, 4]
  simp only [ss, Nat.reduceBEq] at hF
  refine c_block fun Q2 t2 => ?_
  refine c_loop (fun n a w => ∃ i, n = m.qs.length - i ∧ i ≤ m.qs.length ∧ Fr 94 [(1, ptr g0_0), (3, .int .i64 (12 + ((m.qs.take i).map qwS).sum : Nat)), (4, .int .i64 (i : Nat))] a ∧ Hp w0 w [(g0_0, .cells mv 37 (0, 0))]) ?_ ?_
  ·
   exact ⟨_, 0, rfl, Nat.zero_le _, hF.keep [1, 3, 4] rfl, hH⟩
  clear hH hF
  intro n a w hI Q3 k3 t3
  obtain ⟨i, hm, hi, hF, hH⟩ := hI
  refine c_seq fun Q4 k4 t4 => ?_
  refine c_sr fun ops => ?_
  refine zm 1 hF rfl fun a hF => ?_
  refine zl hF rfl (r_fieldaddr0 hF rfl rfl fd37_1) fun a hF => ?_
  refine zl hF rfl (r_load hF rfl rfl fl31 (own_cell (i := 0) hH rfl hm1)) fun a hF => ?_
  refine zl hF rfl (r_len_sl hF rfl rfl Tryz.underlying31) fun a hF => ?_
  refine zb hF rfl rfl rfl (b_ltn _ _ _ _) fun a hF => ?_
  refine c_n ?_
  refine c_if hF rfl (fun h13 => ?_) (fun h13 => ?_)
  ·
   try simp only [qq] at h13
   obtain ⟨b1, off1, e1, hr1⟩ := (hqv ▸ hR.qs).elem (f := quV) (fun _ => rfl) h13
   replace hr1 := fun j u hu => hH.below.cell (hr1 j u hu)
   have hst := sum_take qwS m.qs h13
   have hsl := sum_take_le qwS m.qs (i + 1)
   have hqe : qwS m.qs[i] = m.qs[i].name.length + 4 := rfl
   refine wp_skip ?_
   refine k4 ?_
   refine c_seq fun Q5 k5 t5 => ?_
   refine c_block fun Q6 t6 => ?_
   refine c_reg fun ops => ?_
   refine zm 1 hF rfl fun a hF => ?_
   refine zl hF rfl (r_fieldaddr0 hF rfl rfl fd37_1) fun a hF => ?_
   refine zl hF rfl (r_load hF rfl rfl fl31 (own_cell (i := 0) (v := .slice (some ⟨b1, off1, none⟩) m.qs.length qcp) hH rfl (by rw [← e1]; exact hm1))) fun a hF => ?_
   refine zm 1 hF rfl fun a hF => ?_
   refine zl hF rfl (r_indexaddr hF _ rfl rfl rfl Tryz.underlying31 ti53 (by omega)) fun a hF => ?_
   refine zl hF rfl (r_fieldaddr hF rfl rfl fd53_0) fun a hF => ?_
   refine zl hF rfl (r_load hF rfl rfl fl9 (hr1 0 (.string (mk m.qs[i].name)) rfl)) fun a hF => ?_
   refine zl hF rfl (r_len_str hF rfl rfl Tryz.underlying9) fun a hF => ?_
   refine zb hF rfl rfl rfl (b_addn _ _ _ (by omega)) fun a hF => ?_
   refine zb hF rfl rfl rfl (b_addn _ _ 4 (by omega)) fun a hF => ?_
   refine zm 1 hF rfl fun a hF => ?_
   refine wpList_nil ?_
   refine t6.norm ?_
   refine k5 ?_
   refine c_reg fun ops => ?_
   refine zm 1 hF rfl fun a hF => ?_
   refine zb hF rfl rfl rfl (b_addn _ _ 1 (by omega)) fun a hF => ?_
   refine zm 1 hF rfl fun a hF => ?_
   refine wpList_nil ?_
   refine k3 ?_
   exact ⟨m.qs.length - (i + 1), by omega, i + 1, rfl, by omega, by rw [hst, hqe, ← Nat.add_assoc, ← Nat.add_assoc]; exact hF.keep [1, 3, 4] rfl, hH⟩
  try simp only [qq] at h13
  rw [List.take_of_length_le (by omega)] at hF
  refine wp_exit (t4.exit (t3.exit (t2.here (?_))))
  refine k1 ?_
  refine c_sr fun ops => ?_
  refine zl hF rfl (r_fieldaddr0 hF rfl rfl fd37_2) fun a hF => ?_
  refine zl hF rfl (r_load hF rfl rfl fl32 (own_cell (i := 0) hH rfl hm2)) fun a hF => ?_
  refine zl hF rfl (r_fieldaddr0 hF rfl rfl fd37_3) fun a hF => ?_
  refine zl hF rfl (r_load hF rfl rfl fl32 (own_cell (i := 0) hH rfl hm3)) fun a hF => ?_
  refine zl hF rfl (r_fieldaddr0 hF rfl rfl fd37_4) fun a hF => ?_
  refine zl hF rfl (r_load hF rfl rfl fl32 (own_cell (i := 0) hH rfl hm4)) fun a hF => ?_
  refine ls_buildN (us := [_, _, _]) hF hH rfl rfl rfl rfl rfl rfl Tryz.underlying108 ti32 (by intro u hu; simp only [List.mem_cons, List.not_mem_nil, or_false] at hu; rcases hu with rfl | rfl | rfl <;> rfl) (by decide) ?_
  intro a w g6_6 hH hE hF
  refine zm 1 hF rfl fun a hF => ?_
  refine c_n ?_
  replace hF := hF.sel [1, 3, 5]
  simp only [ss, Nat.reduceBEq] at hF
  refine c_seq fun Q7 k7 t7 => ?_
  refine c_sr fun ops => ?_
  refine zm 1 hF rfl fun a hF => ?_
  refine c_n ?_
  replace hF := hF.sel [1, 3, 5, 6]
  simp only [ss, Nat.reduceBEq] at hF
  refine c_block fun Q8 t8 => ?_
  refine c_loop (fun n a w => ∃ i, n = 3 - i ∧ i ≤ 3 ∧ Fr 94 [(1, ptr g0_0), (3, .int .i64 (12 + (m.qs.map qwS).sum + secsW m i : Nat)), (5, .slice (some ⟨g6_6, 0, none⟩) 3 3), (6, .int .i64 (i : Nat))] a ∧ Hp w0 w [(g6_6, .cells #[.slice aad m.ans.length acp, .slice uad m.auth.length ucp, .slice xad m.extra.length xcp] 32 (0, 0)), (g0_0, .cells mv 37 (0, 0))]) ?_ ?_
  ·
   exact ⟨_, 0, rfl, Nat.zero_le _, hF.keep [1, 3, 5, 6] rfl, hH⟩
  clear hH hF
  intro n a w hI Q9 k9 t9
  obtain ⟨i, hm, hi, hF, hH⟩ := hI
  refine c_seq fun Q10 k10 t10 => ?_
  refine c_sr fun ops => ?_
  refine zm 2 hF rfl fun a hF => ?_
  refine zl hF rfl (r_len_sl hF rfl rfl Tryz.underlying108) fun a hF => ?_
  refine zb hF rfl rfl rfl (b_ltn _ _ _ _) fun a hF => ?_
  refine c_n ?_
  refine c_fi hF rfl (fun h36 => ?_) (fun h36 => ?_)
  ·
   try simp only [qq] at h36
   obtain rfl : i = 3 := by omega
   have hs3 := secsW_le hS 3 (by omega)
   refine wp_exit (t10.exit (t9.exit (t8.here (?_))))
   refine k7 ?_
   refine c_seq fun Q18 k18 t18 => ?_
   refine c_sr fun ops => ?_
   refine zl hF rfl (r_fieldaddr0 hF rfl rfl fd37_5) fun a hF => ?_
   refine zl hF rfl (r_load hF rfl rfl fl4 (own_cell (i := 1) hH rfl hm5)) fun a hF => ?_
   refine c_n ?_
   replace hF := hF.sel [1, 3, 71]
   simp only [ss, Nat.reduceBEq] at hF
   refine c_fi hF rfl (fun h71 => ?_) (fun h71 => ?_)
   ·
    try simp only [qq] at h71
    refine wp_skip ?_
    refine k18 ?_
    refine c_sr fun ops => ?_
    refine zm 2 hF rfl fun a hF => ?_
    refine c_n ?_
    replace hF := hF.sel [2]
    simp only [ss, Nat.reduceBEq] at hF
    refine wp_ret (hret (ret1 hF Tryz.results17 rfl ?_))
    first
      | exact ⟨by unfold wholeN; rw [if_pos h71, ← Nat.add_assoc], hH.below⟩
      | exact ⟨by unfold wholeN; rw [if_neg (by simp [h71]), Nat.add_zero], hH.below⟩
   try simp only [qq] at h71
   skip
   refine c_sr fun ops => ?_
   refine zm 1 hF rfl fun a hF => ?_
   refine zb hF rfl rfl rfl (b_addn _ _ 11 (by omega)) fun a hF => ?_
   refine zm 1 hF rfl fun a hF => ?_
   refine c_n ?_
   replace hF := hF.sel [1, 3]
   simp only [ss, Nat.reduceBEq] at hF
   refine c_sr fun ops => ?_
   refine zm 1 hF rfl fun a hF => ?_
   refine c_n ?_
   replace hF := hF.sel [1, 3, 8]
   simp only [ss, Nat.reduceBEq] at hF
   refine c_block fun Q19 t19 => ?_
   refine c_loop (fun n a w => ∃ i, n = m.ed.opts.length - i ∧ i ≤ m.ed.opts.length ∧ Fr 94 [(1, ptr g0_0), (3, .int .i64 (12 + (m.qs.map qwS).sum + secsW m 3 + 11 + ((m.ed.opts.take i).map owS).sum : Nat)), (8, .int .i64 (i : Nat))] a ∧ Hp w0 w [(g6_6, .cells #[.slice aad m.ans.length acp, .slice uad m.auth.length ucp, .slice xad m.extra.length xcp] 32 (0, 0)), (g0_0, .cells mv 37 (0, 0))]) ?_ ?_
   ·
    exact ⟨_, 0, rfl, Nat.zero_le _, hF.keep [1, 3, 8] rfl, hH⟩
   clear hH hF
   intro n a w hI Q20 k20 t20
   obtain ⟨i, hm, hi, hF, hH⟩ := hI
   refine c_seq fun Q21 k21 t21 => ?_
   refine c_sr fun ops => ?_
   refine zm 1 hF rfl fun a hF => ?_
   refine zl hF rfl (r_fieldaddr0 hF rfl rfl fd37_6) fun a hF => ?_
   refine zl hF rfl (r_fieldaddr hF rfl rfl fd35_4) fun a hF => ?_
   refine zl hF rfl (r_load hF rfl rfl fl33 (own_cell (i := 1) hH rfl hm6)) fun a hF => ?_
   refine zl hF rfl (r_len_sl hF rfl rfl Tryz.underlying33) fun a hF => ?_
   refine zb hF rfl rfl rfl (b_ltn _ _ _ _) fun a hF => ?_
   refine c_n ?_
   refine c_fi hF rfl (fun h79 => ?_) (fun h79 => ?_)
   ·
    try simp only [qq] at h79
    rw [List.take_of_length_le (by omega)] at hF
    refine wp_exit (t21.exit (t20.exit (t19.here (?_))))
    refine k18 ?_
    refine c_sr fun ops => ?_
    refine zm 2 hF rfl fun a hF => ?_
    refine c_n ?_
    replace hF := hF.sel [2]
    simp only [ss, Nat.reduceBEq] at hF
    refine wp_ret (hret (ret1 hF Tryz.results17 rfl ?_))
    first
      | exact ⟨by unfold wholeN; rw [if_pos h71, ← Nat.add_assoc], hH.below⟩
      | exact ⟨by unfold wholeN; rw [if_neg (by simp [h71]), Nat.add_zero], hH.below⟩
   try simp only [qq] at h79
   obtain ⟨b1, off1, e1, hr1⟩ := (hov ▸ hR.opts).elem (f := optV) optV_len h79
   replace hr1 := fun j u hu => hH.below.cell (hr1 j u hu)
   have hst := sum_take owS m.ed.opts h79
   have hsl := sum_take_le owS m.ed.opts (i + 1)
   have hoe : owS m.ed.opts[i] = 4 + m.ed.opts[i].data.length := rfl
   refine wp_skip ?_
   refine k21 ?_
   refine c_seq fun Q22 k22 t22 => ?_
   refine c_block fun Q23 t23 => ?_
   refine c_reg fun ops => ?_
   refine zm 1 hF rfl fun a hF => ?_
   refine zb hF rfl rfl rfl (b_addn _ _ 4 (by omega)) fun a hF => ?_
   refine zl hF rfl (r_fieldaddr0 hF rfl rfl fd37_6) fun a hF => ?_
   refine zl hF rfl (r_fieldaddr hF rfl rfl fd35_4) fun a hF => ?_
   refine zl hF rfl (r_load hF rfl rfl fl33 (own_cell (i := 1) (v := .slice (some ⟨b1, off1, none⟩) m.ed.opts.length ocp) hH rfl (by rw [← e1]; exact hm6))) fun a hF => ?_
   refine zm 1 hF rfl fun a hF => ?_
   refine zl hF rfl (r_indexaddr hF _ rfl rfl rfl Tryz.underlying33 ti85 (by omega)) fun a hF => ?_
   refine zl hF rfl (r_fieldaddr hF rfl rfl fd85_1) fun a hF => ?_
   refine zl hF rfl (r_load hF rfl rfl fl9 (hr1 1 (.string (mk m.ed.opts[i].data)) rfl)) fun a hF => ?_
   refine zl hF rfl (r_len_str hF rfl rfl Tryz.underlying9) fun a hF => ?_
   refine zb hF rfl rfl rfl (b_addn _ _ _ (by omega)) fun a hF => ?_
   refine zm 1 hF rfl fun a hF => ?_
   refine wpList_nil ?_
   refine t23.norm ?_
   refine k22 ?_
   refine c_reg fun ops => ?_
   refine zm 1 hF rfl fun a hF => ?_
   refine zb hF rfl rfl rfl (b_addn _ _ 1 (by omega)) fun a hF => ?_
   refine zm 1 hF rfl fun a hF => ?_
   refine wpList_nil ?_
   refine k20 ?_
   exact ⟨m.ed.opts.length - (i + 1), by omega, i + 1, rfl, by omega, by rw [hst, hoe, ← Nat.add_assoc, ← Nat.add_assoc]; exact hF.keep [1, 3, 8] rfl, hH⟩
  try simp only [qq] at h36
  obtain ⟨ad, cp, hcell, hsl⟩ := secV_at hR h36
  have hsz := hsl.small
  have hse := sec_le hS h36
  have hsW := secsW_le hS i (by omega)
  refine wp_skip ?_
  refine k10 ?_
  refine c_seq fun Q11 k11 t11 => ?_
  refine c_block fun Q12 t12 => ?_
  refine c_sr fun ops => ?_
  refine zm 1 hF rfl fun a hF => ?_
  refine c_n ?_
  refine c_block fun Q13 t13 => ?_
  refine c_loop (fun n a w => ∃ j, n = (secL m (i + 1)).length - j ∧ j ≤ (secL m (i + 1)).length ∧ Fr 94 [(1, ptr g0_0), (3, .int .i64 (12 + (m.qs.map qwS).sum + secsW m i + (((secL m (i + 1)).take j).map rwS).sum : Nat)), (5, .slice (some ⟨g6_6, 0, none⟩) 3 3), (6, .int .i64 (i : Nat)), (7, .int .i64 (j : Nat))] a ∧ Hp w0 w [(g6_6, .cells #[.slice aad m.ans.length acp, .slice uad m.auth.length ucp, .slice xad m.extra.length xcp] 32 (0, 0)), (g0_0, .cells mv 37 (0, 0))]) ?_ ?_
  ·
   exact ⟨_, 0, rfl, Nat.zero_le _, hF.keep [1, 3, 5, 6, 7] rfl, hH⟩
  clear hH hF
  intro n a w hI Q14 k14 t14
  obtain ⟨j, hmj, hj, hF, hH⟩ := hI
  refine c_seq fun Q15 k15 t15 => ?_
  refine c_sr fun ops => ?_
  refine zm 3 hF rfl fun a hF => ?_
  refine zl hF rfl (r_ix1 hF _ rfl rfl rfl Tryz.underlying108 ti32 (by omega)) fun a hF => ?_
  refine zl hF rfl (r_load hF rfl rfl fl32 (own_cell (i := 0) hH rfl hcell)) fun a hF => ?_
  refine zl hF rfl (r_len_sl hF rfl rfl Tryz.underlying32) fun a hF => ?_
  refine zb hF rfl rfl rfl (b_ltn _ _ _ _) fun a hF => ?_
  refine c_n ?_
  refine c_fi hF rfl (fun h45 => ?_) (fun h45 => ?_)
  ·
   try simp only [qq] at h45
   rw [List.take_of_length_le (by omega)] at hF
   refine wp_exit (t15.exit (t14.exit (t13.here (?_))))
   refine t12.norm ?_
   refine k11 ?_
   refine c_reg fun ops => ?_
   refine zm 1 hF rfl fun a hF => ?_
   refine zb hF rfl rfl rfl (b_addn _ _ 1 (by omega)) fun a hF => ?_
   refine zm 1 hF rfl fun a hF => ?_
   refine wpList_nil ?_
   refine k9 ?_
   exact ⟨3 - (i + 1), by omega, i + 1, rfl, by omega, by rw [secsW_succ, ← Nat.add_assoc]; exact hF.keep [1, 3, 5, 6] rfl, hH⟩
  try simp only [qq] at h45
  obtain ⟨b1, off1, e1, -, hr1⟩ := hsl.rec h45
  have hst := sum_take rwS (secL m (i + 1)) h45
  have hsj := sum_take_le rwS (secL m (i + 1)) (j + 1)
  have hre : rwS (secL m (i + 1))[j] = (secL m (i + 1))[j].name.length + 10 + (secL m (i + 1))[j].data.length := rfl
  rw [e1] at hcell
  refine wp_skip ?_
  refine k15 ?_
  refine c_seq fun Q16 k16 t16 => ?_
  refine c_block fun Q17 t17 => ?_
  refine c_planF hF [] [0, 1, 2, 3, 5, 12, 13, 14, 16] [.p 4, .p 6, .p 7, .p 8, .p 9, .p 10, .p 11, .p 15, .p 17, .p 18, .p 19, .p 20] [] [21, 22] [0, 1, 2, 3, 5, 12, 13, 14, 16, 4, 6, 7, 8, 9, 10, 11, 15, 17, 18, 19, 20] (hH.S) (by kernel_rfl) (by kernel_rfl) rfl ?_
  refine ps hF rfl rfl rfl rfl (fun w => r_move hF rfl rfl) fun a hF => ?_
  refine ps hF rfl rfl rfl rfl (fun w => r_move hF rfl rfl) fun a hF => ?_
  refine ps hF rfl rfl rfl rfl (fun w => r_move hF rfl rfl) fun a hF => ?_
  refine ps hF rfl rfl rfl rfl (fun w => r_ix1 hF _ rfl rfl rfl Tryz.underlying108 ti32 (by omega)) fun a hF => ?_
  refine ps hF rfl rfl rfl rfl (fun w => r_move hF rfl rfl) fun a hF => ?_
  refine ps hF rfl rfl rfl rfl (fun w => r_move hF rfl rfl) fun a hF => ?_
  refine ps hF rfl rfl rfl rfl (fun w => r_move hF rfl rfl) fun a hF => ?_
  refine ps hF rfl rfl rfl rfl (fun w => r_ix1 hF _ rfl rfl rfl Tryz.underlying108 ti32 (by omega)) fun a hF => ?_
  refine ps hF rfl rfl rfl rfl (fun w => r_move hF rfl rfl) fun a hF => ?_
  refine pl_start fun w hE => ?_
  replace hH := hH.ext hE
  refine ⟨hH, ?_⟩
  refine pp hF rfl rfl rfl rfl (fun w hH => r_load hF rfl rfl fl32 (own_cell (i := 0) hH rfl hcell)) fun a hF => ?_
  refine pp hF rfl rfl rfl rfl (fun w hH => r_indexaddr hF _ rfl rfl rfl Tryz.underlying32 ti56 (by omega)) fun a hF => ?_
  refine pp hF rfl rfl rfl rfl (fun w hH => r_fieldaddr hF rfl rfl fd56_0) fun a hF => ?_
  refine pp hF rfl rfl rfl rfl (fun w hH => r_load hF rfl rfl fl9 (hH.below.cell (hr1 0 (.string (mk (secL m (i + 1))[j].name)) rfl))) fun a hF => ?_
  refine pp hF rfl rfl rfl rfl (fun w hH => r_len_str hF rfl rfl Tryz.underlying9) fun a hF => ?_
  refine pp hF rfl rfl rfl rfl (fun w hH => zr hF rfl rfl (b_addn _ _ _ (by omega))) fun a hF => ?_
  refine pp hF rfl rfl rfl rfl (fun w hH => zr hF rfl rfl (b_addn _ _ 10 (by omega))) fun a hF => ?_
  refine pp hF rfl rfl rfl rfl (fun w hH => r_load hF rfl rfl fl32 (own_cell (i := 0) hH rfl hcell)) fun a hF => ?_
  refine pp hF rfl rfl rfl rfl (fun w hH => r_indexaddr hF _ rfl rfl rfl Tryz.underlying32 ti56 (by omega)) fun a hF => ?_
  refine pp hF rfl rfl rfl rfl (fun w hH => r_fieldaddr hF rfl rfl fd56_4) fun a hF => ?_
  refine pp hF rfl rfl rfl rfl (fun w hH => r_load hF rfl rfl fl9 (hH.below.cell (hr1 4 (.string (mk (secL m (i + 1))[j].data)) rfl))) fun a hF => ?_
  refine pp hF rfl rfl rfl rfl (fun w hH => r_len_str hF rfl rfl Tryz.underlying9) fun a hF => ?_
  refine pt ?_
  refine tt ?_
  refine zb hF rfl rfl rfl (b_addn _ _ _ (by omega)) fun a hF => ?_
  refine zm 1 hF rfl fun a hF => ?_
  refine pt_end ?_
  refine t17.norm ?_
  refine k16 ?_
  refine c_reg fun ops => ?_
  refine zm 1 hF rfl fun a hF => ?_
  refine zb hF rfl rfl rfl (b_addn _ _ 1 (by omega)) fun a hF => ?_
  refine zm 1 hF rfl fun a hF => ?_
  refine wpList_nil ?_
  refine k14 ?_
  exact ⟨(secL m (i + 1)).length - (j + 1), by omega, j + 1, rfl, by omega, by rw [hst, hre, ← Nat.add_assoc, ← Nat.add_assoc, ← Nat.add_assoc]; exact hF.keep [1, 3, 5, 6, 7] rfl, hH⟩
end Go.Proofs.YtpoebplhemimmaaGreatDoor
namespace Go.Proofs.YtpoebplhemimmaaGreatDoor
open Go.RowKit
set_option linter.unusedVariables false
set_option linter.unusedSimpArgs false
set_option maxHeartbeats 1000000

section
variable {Ds : List Deferred} {P : Program} {ops : Array Oper} {Q : Exit → Act → World → Prop} {rest : List Oper} {o : Oper} {a : Act} {w w0 : World} {N dd : Nat} {L : List (Nat × Value)} {H : List (Nat × Obj)}
theorem ls_maken {x y : Operand} {t e : TypeId} {n bytes : Nat} {z : Value} (hF : FrD Ds N L a) (hH : Hp w0 w H) (hg : o.guard = none) (hdst : o.dst = some dd) (hd : Nat.blt dd N = true) (ho : o.op = .makeSlice t x y)
    (hx : ev L x = some (.int .i64 (n : Int))) (hy : ev L y = some (.int .i64 (n : Int))) (ht : P.underlying t = some (.slice e)) (hti : TI P e 1 bytes) (hz : ZV P e z) (hn : n ≤ 1000000) (hb : bytes ≤ 1000)
    (k : ∀ a' w' g, Hp w0 w' ((g, .cells (madeCells z.cells n) e (0, 0)) :: H) → Ext w w' → FrD Ds N ((dd, .slice (some ⟨g, 0, none⟩) n n) :: L) a' → wpList P ops Q rest a' w') : wpList P ops Q (o :: rest) a w := by
  obtain ⟨i, z', hi, hz', h1, h2, _⟩ := hti
  obtain ⟨i2, hi2, hz2⟩ := hz
  rw [hi] at hi2
  obtain rfl := Option.some.inj hi2
  have hnb : bytes * n ≤ 1000 * 1000000 := Nat.mul_le_mul hb hn
  have hr := run_makeSlice (P := P) (w := w) t e i z ht hi hz2 .i64 .i64 (n : Int) (n : Int) (by omega) (by omega) (by simp [h1]; omega) (by rw [h2]; have : ((bytes * n : Nat) : Int) = (bytes : Int) * (n : Int) := Int.natCast_mul ..; omega) (by omega)
  rw [h1] at hr
  simp only [Int.toNat_natCast, Nat.mul_one] at hr
  refine ls hF hg hdst hd (v := .slice (some ⟨w.heap.size, 0, none⟩) n n) (w' := w.alloc (.cells (madeCells z.cells n) e)) (.inl ?_) fun a' hF' => k a' _ _ (hH.alloc _) (Ext.alloc _ _) hF'
  unfold execOp
  simp [ho, hF.ev hx, hF.ev hy, hr]
end
theorem made10 : (madeCells (Value.int .u8 0).cells 10).toList = bytV (List.replicate 10 0) := by kernel_rfl
theorem made11 : (madeCells (Value.int .u8 0).cells 11).toList = bytV (List.replicate 11 0) := by kernel_rfl
def exB : Bs := [2, 101, 120, 0]
def aw1 : Msg := ⟨⟨1, false, 0, false, false, true, false, false, false, false, 0⟩, [⟨exB, 1, 1⟩], [], [], [], false, noEd⟩
def aw2 : Msg := ⟨⟨1, true, 0, false, false, true, false, false, false, false, 0⟩, [⟨exB, 1, 1⟩], [⟨exB, 1, 1, 5, [10, 0, 0, 1]⟩], [], [], false, noEd⟩
def aw3 : Msg := ⟨⟨7, false, 0, false, false, false, false, false, false, false, 0⟩, [], [], [], [], false, noEd⟩
def aw4 : Msg := ⟨⟨0, false, 0, false, false, false, false, false, false, false, 0⟩, [], [], [], [], true, ⟨1232, 0, 0, 0, []⟩⟩
def aws1 : Bs := [0, 1, 1, 0, 0, 1, 0, 0, 0, 0, 0, 0, 2, 101, 120, 0, 0, 1, 0, 1]
def aws2 : Bs := [0, 1, 129, 0, 0, 1, 0, 1, 0, 0, 0, 0] ++ aws1.drop 12 ++ [192, 12, 0, 1, 0, 1, 0, 0, 0, 5, 0, 4, 10, 0, 0, 1]
def aws3 : Bs := [0, 7] ++ List.replicate 10 0
def aws4 : Bs := List.replicate 11 0 ++ [1, 0, 0, 41, 4, 208, 0, 0, 0, 0, 0, 0]
theorem aw1_enc : encN aw1 = (0, aws1) := by decide +kernel
theorem aw2_enc : encN aw2 = (0, aws2) := by decide +kernel
theorem aw3_enc : encN aw3 = (0, aws3) := by decide +kernel
theorem aw4_enc : encN aw4 = (0, aws4) := by decide +kernel
theorem aw2_dec : decN aws2 = (0, aw2) := by decide +kernel
theorem que1 (q : Que) (h : q = ⟨exB, 1, 1⟩) : QueL q ∧ q.name.length < 300000 := by subst h; exact ⟨⟨by decide, by decide, by decide⟩, by decide⟩
theorem rec1 (r : Rec) (h : r = ⟨exB, 1, 1, 5, [10, 0, 0, 1]⟩) : RecL r ∧ r.name.length < 300000 ∧ r.data.length < 300000 := by subst h; exact ⟨⟨by decide, by decide, by decide, by decide, by decide⟩, by decide, by decide⟩
theorem noneR (P : Rec → Prop) : ∀ r ∈ ([] : List Rec), P r := fun r h => by cases h
theorem aw1_LB : MsgL aw1 ∧ MsgB aw1 := ⟨⟨⟨by decide, by decide, by decide⟩, fun q h => (que1 q (List.mem_singleton.1 h)).1, noneR _, noneR _, noneR _, ⟨by decide, by decide, by decide, by decide, fun o h => by cases h⟩⟩,
  ⟨⟨by decide, fun q h => (que1 q (List.mem_singleton.1 h)).2⟩, ⟨by decide, noneR _⟩, ⟨by decide, noneR _⟩, ⟨by decide, noneR _⟩, ⟨by decide, fun o h => by cases h⟩⟩⟩
theorem aw2_LB : MsgL aw2 ∧ MsgB aw2 := ⟨⟨⟨by decide, by decide, by decide⟩, fun q h => (que1 q (List.mem_singleton.1 h)).1, fun r h => (rec1 r (List.mem_singleton.1 h)).1, noneR _, noneR _, ⟨by decide, by decide, by decide, by decide, fun o h => by cases h⟩⟩,
  ⟨⟨by decide, fun q h => (que1 q (List.mem_singleton.1 h)).2⟩, ⟨by decide, fun r h => (rec1 r (List.mem_singleton.1 h)).2⟩, ⟨by decide, noneR _⟩, ⟨by decide, noneR _⟩, ⟨by decide, fun o h => by cases h⟩⟩⟩
theorem aw3_LB : MsgL aw3 ∧ MsgB aw3 := ⟨⟨⟨by decide, by decide, by decide⟩, fun q h => (by cases h), noneR _, noneR _, noneR _, ⟨by decide, by decide, by decide, by decide, fun o h => by cases h⟩⟩,
  ⟨⟨by decide, fun q h => by cases h⟩, ⟨by decide, noneR _⟩, ⟨by decide, noneR _⟩, ⟨by decide, noneR _⟩, ⟨by decide, fun o h => by cases h⟩⟩⟩
theorem aw4_LB : MsgL aw4 ∧ MsgB aw4 := ⟨⟨⟨by decide, by decide, by decide⟩, fun q h => (by cases h), noneR _, noneR _, noneR _, ⟨by decide, by decide, by decide, by decide, fun o h => by cases h⟩⟩,
  ⟨⟨by decide, fun q h => by cases h⟩, ⟨by decide, noneR _⟩, ⟨by decide, noneR _⟩, ⟨by decide, noneR _⟩, ⟨by decide, fun o h => by cases h⟩⟩⟩
abbrev nilS : Value := .slice none 0 0
theorem bare_R (w : World) (m : Msg) (h1 : m.qs = []) (h2 : m.ans = []) (h3 : m.auth = []) (h4 : m.extra = []) (h5 : m.ed.opts = []) : MsgR w m nilS nilS nilS nilS nilS := by
  refine ⟨?_, ?_, ?_, ?_, ?_⟩
  · rw [h1]; exact RSl.nil _ _
  · rw [h2]; exact RSl.nil _ _
  · rw [h3]; exact RSl.nil _ _
  · rw [h4]; exact RSl.nil _ _
  · rw [h5]; exact RSl.nil _ _
theorem MB.msgR2 {w0 w : World} {H : List (Nat × Obj)} {m : Msg} {BM : List (Nat × Obj)} {qw aw uw xw ow : Value} (h : MB m (msgV m qw aw uw xw ow).toArray BM) (hH : Hp w0 w H) (hB : ∀ p ∈ BM, p ∈ H) : MsgR w m qw aw uw xw ow := by
  obtain ⟨qv, av, uv, xv, ov, he, hR⟩ := h.msgR hH hB
  have e1 := congrArg (fun a => a[11]?) he
  have e2 := congrArg (fun a => a[12]?) he
  have e3 := congrArg (fun a => a[13]?) he
  have e4 := congrArg (fun a => a[14]?) he
  have e5 := congrArg (fun a => a[20]?) he
  obtain rfl : qw = qv := Option.some.inj e1
  obtain rfl : aw = av := Option.some.inj e2
  obtain rfl : uw = uv := Option.some.inj e3
  obtain rfl : xw = xv := Option.some.inj e4
  obtain rfl : ow = ov := Option.some.inj e5
  exact hR
theorem aws1_len : aws1.length = 20 := by decide
theorem awake_spec (w0 : World) (hG : GX w0) : Rets Tryz.prog 8 [] w0 fun v w' => v = .bool true ∧ Ext w0 w' := by
  have hH := Hp.refl w0
  refine rets_start Tryz.func8 rfl Tryz.ntmps8 rfl fun a Q0 hF hret hend => ?_
  simp only [argsFrom, Nat.zero_add, Nat.reduceAdd] at hF
  refine c_sr fun ops => ?_
  refine zm 1 hF rfl fun a hF => ?_
  refine c_n ?_
  replace hF := hF.sel []
  simp only [ss, Nat.reduceBEq] at hF
  refine c_sr fun ops => ?_
  refine zm 1 hF rfl fun a hF => ?_
  refine c_n ?_
  replace hF := hF.sel [1]
  simp only [ss, Nat.reduceBEq] at hF
  refine c_sr fun ops => ?_
  refine zl hF rfl (r_build hF rfl rfl (bd30_0_5 _ _ _ (rfl) (rfl))) fun a hF => ?_
  refine zm 1 hF rfl fun a hF => ?_
  refine zl hF rfl (r_build hF rfl rfl (bd53_0_1_2 _ _ _ _ (rfl) (rfl) (rfl))) fun a hF => ?_
  refine ls_build1 hF hH rfl rfl rfl rfl rfl Tryz.underlying31 ti53 rfl (by decide) ?_
  intro a w g2_3 hH hE hF
  refine zl hF rfl (r_build hF rfl rfl (bd37_0_1 _ _ _ _ _ _ _ _ _ _ _ _ _ (rfl))) fun a hF => ?_
  refine ls_alloc hF hH rfl rfl rfl rfl zv37 ?_
  intro a w g2_5 hH hE hF
  refine ls_storeagg 0 hF hH rfl rfl rfl rfl rfl ti37 rfl (rfl) (rfl) (by simp [Value.oneCell']) ?_
  intro w hH
  refine c_n ?_
  replace hF := hF.sel [1, 2]
  simp only [ss, Nat.reduceBEq] at hF
  replace hH : Hp w0 w [(g2_5, .cells (msgV aw1 (.slice (some ⟨g2_3, 0, none⟩) 1 1) nilS nilS nilS nilS).toArray 37 (0, 0)), (g2_3, .cells (quV ⟨exB, 1, 1⟩).toArray 53 (0, 0))] := hH
  have hR1 : MsgR w aw1 (.slice (some ⟨g2_3, 0, none⟩) 1 1) nilS nilS nilS nilS := ⟨rsl_lit (n := 1) (size := 3) hH.drop rfl (by decide), RSl.nil _ _, RSl.nil _ _, RSl.nil _ _, RSl.nil _ _⟩
  refine c_sr fun ops => ?_
  refine zl hF rfl (r_loadagg hF rfl rfl Tryz.underlying37 ti37 rfl (own_agg (i := 0) (cs := (msgV aw1 (.slice (some ⟨g2_3, 0, none⟩) 1 1) nilS nilS nilS nilS).toArray) hH rfl)) fun a hF => ?_
  refine zc hF rfl rfl fn14 (encode_spec aw1 _ _ _ _ _ _ (hG.ext hH.below) hR1 aw1_LB.1 aw1_LB.2) ?_
  rintro _ w ⟨rfl, hE⟩ a hF
  rw [aw1_enc] at hF; replace hH := hH.ext hE
  refine zm 5 hF rfl fun a hF => ?_
  refine c_n ?_
  replace hF := hF.sel [1, 2, 3, 4]
  simp only [ss, Nat.reduceBEq] at hF
  refine c_seq fun Q1 k1 t1 => ?_
  refine c_sg ?_
  refine zm 1 hF rfl fun a hF => ?_
  refine zb hF rfl rfl rfl (b_nen _ _ _ 0) fun a hF => ?_
  refine zm 1 hF rfl fun a hF => ?_
  refine ls_ask (d := 25) hF rfl (fun g4_2 => ?_) (fun g4_2 => ?_)
  ·
   have g4_2' := g4_2; try simp only [qq] at g4_2'
   refine zn hF rfl g4_2 fun a hF => ?_
   refine zn hF rfl g4_2 fun a hF => ?_
   refine zl hF rfl (r_pickt hF rfl rfl g4_2 rfl) fun a hF => ?_
   refine c_n ?_
   replace hF := hF.sel [1, 2, 3, 28]
   simp only [ss, Nat.reduceBEq] at hF
   refine c_yes hF rfl rfl ?_
   refine c_sr fun ops => ?_
   refine zm 1 hF rfl fun a hF => ?_
   refine c_n ?_
   replace hF := hF.sel [0]
   simp only [ss, Nat.reduceBEq] at hF
   refine wp_ret (t1.ret (hret (ret1 hF Tryz.results8 rfl ?_)))
   first
     | exact absurd trivial g4_2'
     | exact absurd (by decide) h28
  have g4_2' := g4_2; try simp only [qq] at g4_2'
  refine zy hF rfl g4_2 (r_move hF rfl rfl) fun a hF => ?_
  refine zy hF rfl g4_2 (zr hF rfl rfl (b_sne _ _ [0, 1, 1, 0, 0, 1, 0, 0, 0, 0, 0, 0, 2, 101, 120, 0, 0, 1, 0, 1])) fun a hF => ?_
  refine zl hF rfl (r_pickf hF rfl rfl g4_2 rfl) fun a hF => ?_
  refine c_n ?_
  replace hF := hF.sel [1, 2, 3, 28]
  simp only [ss, Nat.reduceBEq] at hF
  refine c_if hF rfl (fun h28 => ?_) (fun h28 => ?_)
  ·
   try simp only [qq] at h28
   refine c_sr fun ops => ?_
   refine zm 1 hF rfl fun a hF => ?_
   refine c_n ?_
   replace hF := hF.sel [0]
   simp only [ss, Nat.reduceBEq] at hF
   refine wp_ret (t1.ret (hret (ret1 hF Tryz.results8 rfl ?_)))
   first
     | exact absurd trivial g4_2'
     | exact absurd (by decide) h28
  try simp only [qq] at h28
  refine wp_skip ?_
  refine k1 ?_
  refine c_sr fun ops => ?_
  refine zl hF rfl (r_fieldaddr0 hF rfl rfl fd37_0) fun a hF => ?_
  refine zl hF rfl (r_fieldaddr0 hF rfl rfl fd30_1) fun a hF => ?_
  refine ls_store 0 hF hH rfl rfl rfl rfl rfl fl4 ti4 rfl ((show 1 < 21 by omega)) (by simp [noFreeze]) (rfl) ?_
  intro w hH
  refine c_n ?_
  replace hF := hF.sel [1, 2, 3]
  simp only [ss, Nat.reduceBEq] at hF
  refine c_sr fun ops => ?_
  refine zm 1 hF rfl fun a hF => ?_
  refine zl hF rfl (r_build hF rfl rfl (bd56_0_1_2_3_4 _ _ _ _ _ _ (rfl) (rfl) (rfl) (rfl) (rfl))) fun a hF => ?_
  refine ls_build1 hF hH rfl rfl rfl rfl rfl Tryz.underlying32 ti56 rfl (by decide) ?_
  intro a w g7_2 hH hE hF
  refine zl hF rfl (r_fieldaddr0 hF rfl rfl fd37_2) fun a hF => ?_
  replace hH : Hp w0 w ([(g7_2, .cells (recV ⟨exB, 1, 1, 5, [10, 0, 0, 1]⟩).toArray 56 (0, 0))] ++ ([(g2_5, .cells (msgV { aw2 with ans := [] } (.slice (some ⟨g2_3, 0, none⟩) 1 1) nilS nilS nilS nilS).toArray 37 (0, 0))] ++ [(g2_3, .cells (quV ⟨exB, 1, 1⟩).toArray 53 (0, 0))])) := hH
  refine ls_store 1 hF hH rfl rfl rfl rfl rfl fl32 ti32 rfl ((show 12 < 21 by omega)) (by simp [noFreeze]) (rfl) ?_
  intro w hH
  refine c_n ?_
  replace hF := hF.sel [2, 3]
  simp only [ss, Nat.reduceBEq] at hF
  replace hH : Hp w0 w [(g7_2, .cells (recV ⟨exB, 1, 1, 5, [10, 0, 0, 1]⟩).toArray 56 (0, 0)), (g2_5, .cells (msgV aw2 (.slice (some ⟨g2_3, 0, none⟩) 1 1) (.slice (some ⟨g7_2, 0, none⟩) 1 1) nilS nilS nilS).toArray 37 (0, 0)), (g2_3, .cells (quV ⟨exB, 1, 1⟩).toArray 53 (0, 0))] := hH
  have hR2 : MsgR w aw2 (.slice (some ⟨g2_3, 0, none⟩) 1 1) (.slice (some ⟨g7_2, 0, none⟩) 1 1) nilS nilS nilS := ⟨rsl_lit (n := 1) (size := 3) hH.drop.drop rfl (by decide), rsl_lit (n := 1) (size := 5) hH rfl (by decide), RSl.nil _ _, RSl.nil _ _, RSl.nil _ _⟩
  refine c_sr fun ops => ?_
  refine zl hF rfl (r_loadagg hF rfl rfl Tryz.underlying37 ti37 rfl (own_agg (i := 1) (cs := (msgV aw2 (.slice (some ⟨g2_3, 0, none⟩) 1 1) (.slice (some ⟨g7_2, 0, none⟩) 1 1) nilS nilS nilS).toArray) hH rfl)) fun a hF => ?_
  refine zc hF rfl rfl fn14 (encode_spec aw2 _ _ _ _ _ _ (hG.ext hH.below) hR2 aw2_LB.1 aw2_LB.2) ?_
  rintro _ w ⟨rfl, hE⟩ a hF
  rw [aw2_enc] at hF; replace hH := hH.ext hE; replace hR2 := hR2.ext hE
  refine zm 5 hF rfl fun a hF => ?_
  refine c_n ?_
  replace hF := hF.sel [2, 3, 5, 6]
  simp only [ss, Nat.reduceBEq] at hF
  refine c_sr fun ops => ?_
  refine zm 1 hF rfl fun a hF => ?_
  refine zc hF rfl rfl fn10 (decode_spec aws2 (by decide) _ (hG.ext hH.below)) ?_
  rintro _ w ⟨mv, BM, rfl, hM, hB⟩ a hF
  rw [aw2_dec] at hF hM; replace hH := hH.join hB; replace hR2 := hR2.ext hB.below; simp only at hF hM; obtain ⟨qw, aw, uw, xw, ow, rfl, hR3⟩ := hM.msgR hB (fun z hz => hz)
  refine zm 3 hF rfl fun a hF => ?_
  refine ls_alloc hF hH rfl rfl rfl rfl zv37 ?_
  intro a w g9_5 hH hE hF
  refine ls_storeagg 0 hF hH rfl rfl rfl rfl rfl ti37 rfl (rfl) (rfl) (hM.one) ?_
  intro w hH
  refine zm 1 hF rfl fun a hF => ?_
  refine c_n ?_
  replace hF := hF.sel [2, 3, 5, 6, 7, 8]
  simp only [ss, Nat.reduceBEq] at hF
  replace hH : Hp w0 w ([(g9_5, Obj.cells (msgV aw2 qw aw uw xw ow).toArray 37 (0, 0))] ++ ([(g7_2, .cells (recV ⟨exB, 1, 1, 5, [10, 0, 0, 1]⟩).toArray 56 (0, 0))] ++ ([(g2_5, .cells (msgV aw2 (.slice (some ⟨g2_3, 0, none⟩) 1 1) (.slice (some ⟨g7_2, 0, none⟩) 1 1) nilS nilS nilS).toArray 37 (0, 0))] ++ ([(g2_3, .cells (quV ⟨exB, 1, 1⟩).toArray 53 (0, 0))] ++ BM)))) := (show Hp w0 w ([(g9_5, Obj.cells (msgV aw2 qw aw uw xw ow).toArray 37 (0, 0))] ++ (BM ++ ([(g7_2, .cells (recV ⟨exB, 1, 1, 5, [10, 0, 0, 1]⟩).toArray 56 (0, 0))] ++ ([(g2_5, .cells (msgV aw2 (.slice (some ⟨g2_3, 0, none⟩) 1 1) (.slice (some ⟨g7_2, 0, none⟩) 1 1) nilS nilS nilS).toArray 37 (0, 0))] ++ [(g2_3, .cells (quV ⟨exB, 1, 1⟩).toArray 53 (0, 0))])))) from hH).pick (R := []) (fun z => by simp only [List.count_append, List.count_nil]; omega)
  refine c_sr fun ops => ?_
  refine zl hF rfl (r_build hF rfl rfl (bd30_0 _ _ (rfl))) fun a hF => ?_
  refine zl hF rfl (r_build hF rfl rfl (bd37_0 _ _ _ _ _ _ _ _ _ _ _ _)) fun a hF => ?_
  refine zc hF rfl rfl fn14 (encode_spec aw3 nilS nilS nilS nilS nilS _ (hG.ext hH.below) (bare_R _ _ rfl rfl rfl rfl rfl) aw3_LB.1 aw3_LB.2) ?_
  rintro _ w ⟨rfl, hE⟩ a hF
  rw [aw3_enc] at hF; replace hH := hH.ext hE
  refine zm 5 hF rfl fun a hF => ?_
  refine c_n ?_
  replace hF := hF.sel [2, 3, 5, 6, 7, 8, 9, 10]
  simp only [ss, Nat.reduceBEq] at hF
  refine c_sr fun ops => ?_
  refine zl hF rfl (r_build hF rfl rfl (bd35_0 _ _ (rfl))) fun a hF => ?_
  refine zl hF rfl (r_build hF rfl rfl (bd37_5_6 _ _ _ _ _ _ _ (rfl))) fun a hF => ?_
  refine zc hF rfl rfl fn14 (encode_spec aw4 nilS nilS nilS nilS nilS _ (hG.ext hH.below) (bare_R _ _ rfl rfl rfl rfl rfl) aw4_LB.1 aw4_LB.2) ?_
  rintro _ w ⟨rfl, hE⟩ a hF
  rw [aw4_enc] at hF; replace hH := hH.ext hE
  refine zm 5 hF rfl fun a hF => ?_
  refine c_n ?_
  replace hF := hF.sel [2, 3, 5, 6, 7, 8, 9, 10, 11, 12]
  simp only [ss, Nat.reduceBEq] at hF
  have hR3 := hM.msgR2 hH (fun z hz => List.mem_append_right _ (List.mem_append_right _ (List.mem_append_right _ (List.mem_append_right _ hz))))
  have hR2 : MsgR w aw2 (.slice (some ⟨g2_3, 0, none⟩) 1 1) (.slice (some ⟨g7_2, 0, none⟩) 1 1) nilS nilS nilS := ⟨rsl_lit (n := 1) (size := 3) hH.drop.drop.drop rfl (by decide), rsl_lit (n := 1) (size := 5) hH.drop rfl (by decide), RSl.nil _ _, RSl.nil _ _, RSl.nil _ _⟩
  refine c_sg ?_
  refine zm 1 hF rfl fun a hF => ?_
  refine zb hF rfl rfl rfl (b_eqn _ _ _ 0) fun a hF => ?_
  refine zm 1 hF rfl fun a hF => ?_
  refine l_ask (d := 59) hF rfl (fun g12_2 => ?_) (fun g12_2 => ?_)
  ·
   have g12_2' := g12_2; try simp only [qq] at g12_2'
   refine zn hF rfl g12_2 fun a hF => ?_
   refine zn hF rfl g12_2 fun a hF => ?_
   refine zn hF rfl g12_2 fun a hF => ?_
   refine zn hF rfl g12_2 fun a hF => ?_
   refine zn hF rfl g12_2 fun a hF => ?_
   refine zn hF rfl g12_2 fun a hF => ?_
   refine zl hF rfl (r_pickf hF rfl rfl g12_2 rfl) fun a hF => ?_
   refine zm 1 hF rfl fun a hF => ?_
   refine zn hF rfl rfl fun a hF => ?_
   refine zn hF rfl rfl fun a hF => ?_
   refine zl hF rfl (r_pickf hF rfl rfl rfl rfl) fun a hF => ?_
   refine zm 1 hF rfl fun a hF => ?_
   refine zn hF rfl rfl fun a hF => ?_
   refine zn hF rfl rfl fun a hF => ?_
   refine zn hF rfl rfl fun a hF => ?_
   refine zl hF rfl (r_pickf hF rfl rfl rfl rfl) fun a hF => ?_
   refine zm 1 hF rfl fun a hF => ?_
   refine zn hF rfl rfl fun a hF => ?_
   refine zn hF rfl rfl fun a hF => ?_
   refine zl hF rfl (r_pickf hF rfl rfl rfl rfl) fun a hF => ?_
   refine zm 1 hF rfl fun a hF => ?_
   refine zn hF rfl rfl fun a hF => ?_
   refine zn hF rfl rfl fun a hF => ?_
   refine zn hF rfl rfl fun a hF => ?_
   refine zn hF rfl rfl fun a hF => ?_
   refine zn hF rfl rfl fun a hF => ?_
   refine zl hF rfl (r_pickf hF rfl rfl rfl rfl) fun a hF => ?_
   refine zm 1 hF rfl fun a hF => ?_
   refine zn hF rfl rfl fun a hF => ?_
   refine zn hF rfl rfl fun a hF => ?_
   refine zl hF rfl (r_pickf hF rfl rfl rfl rfl) fun a hF => ?_
   refine zm 1 hF rfl fun a hF => ?_
   refine zn hF rfl rfl fun a hF => ?_
   refine zn hF rfl rfl fun a hF => ?_
   refine zn hF rfl rfl fun a hF => ?_
   refine zn hF rfl rfl fun a hF => ?_
   refine zn hF rfl rfl fun a hF => ?_
   refine zl hF rfl (r_pickf hF rfl rfl rfl rfl) fun a hF => ?_
   refine zm 1 hF rfl fun a hF => ?_
   refine c_n ?_
   replace hF := hF.sel [0]
   simp only [ss, Nat.reduceBEq] at hF
   refine wp_ret (hret (ret1 hF Tryz.results8 rfl ?_))
   first
     | exact ⟨rfl, hH.below⟩
     | exact absurd trivial (show ¬ True by assumption)
     | exact absurd rfl (show ¬ aw2 = aw2 by assumption)
     | exact absurd rfl g12_10'
     | exact absurd rfl (show ¬ aws3 = aws3 by assumption)
     | exact absurd rfl (show ¬ aws4 = aws4 by assumption)
     | trace_state; fail
  have g12_2' := g12_2; try simp only [qq] at g12_2'
  refine zy hF rfl g12_2 (r_move hF rfl rfl) fun a hF => ?_
  refine zy hF rfl g12_2 (r_move hF rfl rfl) fun a hF => ?_
  refine zy hF rfl g12_2 (r_slicefn hF 12 rfl rfl Tryz.underlying9 ⟨_, rfl⟩ (by rw [aws1_len]; omega)) fun a hF => ?_
  refine zy hF rfl g12_2 (zr hF rfl rfl (b_sadd _ [0, 1, 129, 0, 0, 1, 0, 1, 0, 0, 0, 0] _ (by decide))) fun a hF => ?_
  refine zy hF rfl g12_2 (zr hF rfl rfl (b_sadd _ _ [192, 12, 0, 1, 0, 1, 0, 0, 0, 5, 0, 4, 10, 0, 0, 1] (by decide))) fun a hF => ?_
  refine zy hF rfl g12_2 (zr hF rfl rfl (b_seq _ _ _)) fun a hF => ?_
  refine zl hF rfl (r_pickt hF rfl rfl g12_2 rfl) fun a hF => ?_
  refine zm 1 hF rfl fun a hF => ?_
  refine l_ask (d := 67) hF rfl (fun g12_10 => ?_) (fun g12_10 => ?_)
  ·
   have g12_10' := g12_10; try simp only [qq] at g12_10'
   refine zn hF rfl g12_10 fun a hF => ?_
   refine zn hF rfl g12_10 fun a hF => ?_
   refine zl hF rfl (r_pickf hF rfl rfl g12_10 rfl) fun a hF => ?_
   refine zm 1 hF rfl fun a hF => ?_
   refine zn hF rfl rfl fun a hF => ?_
   refine zn hF rfl rfl fun a hF => ?_
   refine zn hF rfl rfl fun a hF => ?_
   refine zl hF rfl (r_pickf hF rfl rfl rfl rfl) fun a hF => ?_
   refine zm 1 hF rfl fun a hF => ?_
   refine zn hF rfl rfl fun a hF => ?_
   refine zn hF rfl rfl fun a hF => ?_
   refine zl hF rfl (r_pickf hF rfl rfl rfl rfl) fun a hF => ?_
   refine zm 1 hF rfl fun a hF => ?_
   refine zn hF rfl rfl fun a hF => ?_
   refine zn hF rfl rfl fun a hF => ?_
   refine zn hF rfl rfl fun a hF => ?_
   refine zn hF rfl rfl fun a hF => ?_
   refine zn hF rfl rfl fun a hF => ?_
   refine zl hF rfl (r_pickf hF rfl rfl rfl rfl) fun a hF => ?_
   refine zm 1 hF rfl fun a hF => ?_
   refine zn hF rfl rfl fun a hF => ?_
   refine zn hF rfl rfl fun a hF => ?_
   refine zl hF rfl (r_pickf hF rfl rfl rfl rfl) fun a hF => ?_
   refine zm 1 hF rfl fun a hF => ?_
   refine zn hF rfl rfl fun a hF => ?_
   refine zn hF rfl rfl fun a hF => ?_
   refine zn hF rfl rfl fun a hF => ?_
   refine zn hF rfl rfl fun a hF => ?_
   refine zn hF rfl rfl fun a hF => ?_
   refine zl hF rfl (r_pickf hF rfl rfl rfl rfl) fun a hF => ?_
   refine zm 1 hF rfl fun a hF => ?_
   refine c_n ?_
   replace hF := hF.sel [0]
   simp only [ss, Nat.reduceBEq] at hF
   refine wp_ret (hret (ret1 hF Tryz.results8 rfl ?_))
   first
     | exact ⟨rfl, hH.below⟩
     | exact absurd trivial (show ¬ True by assumption)
     | exact absurd rfl (show ¬ aw2 = aw2 by assumption)
     | exact absurd rfl g12_10'
     | exact absurd rfl (show ¬ aws3 = aws3 by assumption)
     | exact absurd rfl (show ¬ aws4 = aws4 by assumption)
     | trace_state; fail
  have g12_10' := g12_10; try simp only [qq] at g12_10'
  refine zy hF rfl g12_10 (r_move hF rfl rfl) fun a hF => ?_
  refine zy hF rfl g12_10 (zr hF rfl rfl (b_eqn _ _ _ 0)) fun a hF => ?_
  refine zl hF rfl (r_pickt hF rfl rfl g12_10 rfl) fun a hF => ?_
  refine zm 1 hF rfl fun a hF => ?_
  refine l_ask (d := 71) hF rfl (fun g12_14 => ?_) (fun g12_14 => ?_)
  ·
   have g12_14' := g12_14; try simp only [qq] at g12_14'
   refine zn hF rfl g12_14 fun a hF => ?_
   refine zn hF rfl g12_14 fun a hF => ?_
   refine zn hF rfl g12_14 fun a hF => ?_
   refine zl hF rfl (r_pickf hF rfl rfl g12_14 rfl) fun a hF => ?_
   refine zm 1 hF rfl fun a hF => ?_
   refine zn hF rfl rfl fun a hF => ?_
   refine zn hF rfl rfl fun a hF => ?_
   refine zl hF rfl (r_pickf hF rfl rfl rfl rfl) fun a hF => ?_
   refine zm 1 hF rfl fun a hF => ?_
   refine zn hF rfl rfl fun a hF => ?_
   refine zn hF rfl rfl fun a hF => ?_
   refine zn hF rfl rfl fun a hF => ?_
   refine zn hF rfl rfl fun a hF => ?_
   refine zn hF rfl rfl fun a hF => ?_
   refine zl hF rfl (r_pickf hF rfl rfl rfl rfl) fun a hF => ?_
   refine zm 1 hF rfl fun a hF => ?_
   refine zn hF rfl rfl fun a hF => ?_
   refine zn hF rfl rfl fun a hF => ?_
   refine zl hF rfl (r_pickf hF rfl rfl rfl rfl) fun a hF => ?_
   refine zm 1 hF rfl fun a hF => ?_
   refine zn hF rfl rfl fun a hF => ?_
   refine zn hF rfl rfl fun a hF => ?_
   refine zn hF rfl rfl fun a hF => ?_
   refine zn hF rfl rfl fun a hF => ?_
   refine zn hF rfl rfl fun a hF => ?_
   refine zl hF rfl (r_pickf hF rfl rfl rfl rfl) fun a hF => ?_
   refine zm 1 hF rfl fun a hF => ?_
   refine c_n ?_
   replace hF := hF.sel [0]
   simp only [ss, Nat.reduceBEq] at hF
   refine wp_ret (hret (ret1 hF Tryz.results8 rfl ?_))
   first
     | exact ⟨rfl, hH.below⟩
     | exact absurd trivial (show ¬ True by assumption)
     | exact absurd rfl (show ¬ aw2 = aw2 by assumption)
     | exact absurd rfl g12_10'
     | exact absurd rfl (show ¬ aws3 = aws3 by assumption)
     | exact absurd rfl (show ¬ aws4 = aws4 by assumption)
     | trace_state; fail
  have g12_14' := g12_14; try simp only [qq] at g12_14'
  refine zy hF rfl g12_14 (r_loadagg hF rfl rfl Tryz.underlying37 ti37 rfl (own_agg (i := 0) hH rfl)) fun a hF => ?_
  refine zy hF rfl g12_14 (r_loadagg hF rfl rfl Tryz.underlying37 ti37 rfl (own_agg (i := 2) hH rfl)) fun a hF => ?_
  refine zyc hF rfl g12_14 rfl fn11 (same7_spec aw2 aw2 qw aw uw xw ow _ _ _ _ _ _ hR3 hR2 aw2_LB.2) ?_
  rintro _ w ⟨rfl, hE⟩ a hF
  replace hH := hH.ext hE
  refine zl hF rfl (r_pickt hF rfl rfl g12_14 rfl) fun a hF => ?_
  refine zm 1 hF rfl fun a hF => ?_
  refine l_ask (d := 76) hF rfl (fun g12_19 => ?_) (fun g12_19 => ?_)
  ·
   have g12_19' := g12_19; try simp only [qq] at g12_19'
   refine zn hF rfl g12_19 fun a hF => ?_
   refine zn hF rfl g12_19 fun a hF => ?_
   refine zl hF rfl (r_pickf hF rfl rfl g12_19 rfl) fun a hF => ?_
   refine zm 1 hF rfl fun a hF => ?_
   refine zn hF rfl rfl fun a hF => ?_
   refine zn hF rfl rfl fun a hF => ?_
   refine zn hF rfl rfl fun a hF => ?_
   refine zn hF rfl rfl fun a hF => ?_
   refine zn hF rfl rfl fun a hF => ?_
   refine zl hF rfl (r_pickf hF rfl rfl rfl rfl) fun a hF => ?_
   refine zm 1 hF rfl fun a hF => ?_
   refine zn hF rfl rfl fun a hF => ?_
   refine zn hF rfl rfl fun a hF => ?_
   refine zl hF rfl (r_pickf hF rfl rfl rfl rfl) fun a hF => ?_
   refine zm 1 hF rfl fun a hF => ?_
   refine zn hF rfl rfl fun a hF => ?_
   refine zn hF rfl rfl fun a hF => ?_
   refine zn hF rfl rfl fun a hF => ?_
   refine zn hF rfl rfl fun a hF => ?_
   refine zn hF rfl rfl fun a hF => ?_
   refine zl hF rfl (r_pickf hF rfl rfl rfl rfl) fun a hF => ?_
   refine zm 1 hF rfl fun a hF => ?_
   refine c_n ?_
   replace hF := hF.sel [0]
   simp only [ss, Nat.reduceBEq] at hF
   refine wp_ret (hret (ret1 hF Tryz.results8 rfl ?_))
   first
     | exact ⟨rfl, hH.below⟩
     | exact absurd trivial (show ¬ True by assumption)
     | exact absurd rfl (show ¬ aw2 = aw2 by assumption)
     | exact absurd rfl g12_10'
     | exact absurd rfl (show ¬ aws3 = aws3 by assumption)
     | exact absurd rfl (show ¬ aws4 = aws4 by assumption)
     | trace_state; fail
  have g12_19' := g12_19; try simp only [qq] at g12_19'
  refine zy hF rfl g12_19 (r_move hF rfl rfl) fun a hF => ?_
  refine zy hF rfl g12_19 (zr hF rfl rfl (b_eqn _ _ _ 0)) fun a hF => ?_
  refine zl hF rfl (r_pickt hF rfl rfl g12_19 rfl) fun a hF => ?_
  refine zm 1 hF rfl fun a hF => ?_
  refine l_ask (d := 80) hF rfl (fun g12_23 => ?_) (fun g12_23 => ?_)
  ·
   have g12_23' := g12_23; try simp only [qq] at g12_23'
   refine zn hF rfl g12_23 fun a hF => ?_
   refine zn hF rfl g12_23 fun a hF => ?_
   refine zn hF rfl g12_23 fun a hF => ?_
   refine zn hF rfl g12_23 fun a hF => ?_
   refine zn hF rfl g12_23 fun a hF => ?_
   refine zl hF rfl (r_pickf hF rfl rfl g12_23 rfl) fun a hF => ?_
   refine zm 1 hF rfl fun a hF => ?_
   refine zn hF rfl rfl fun a hF => ?_
   refine zn hF rfl rfl fun a hF => ?_
   refine zl hF rfl (r_pickf hF rfl rfl rfl rfl) fun a hF => ?_
   refine zm 1 hF rfl fun a hF => ?_
   refine zn hF rfl rfl fun a hF => ?_
   refine zn hF rfl rfl fun a hF => ?_
   refine zn hF rfl rfl fun a hF => ?_
   refine zn hF rfl rfl fun a hF => ?_
   refine zn hF rfl rfl fun a hF => ?_
   refine zl hF rfl (r_pickf hF rfl rfl rfl rfl) fun a hF => ?_
   refine zm 1 hF rfl fun a hF => ?_
   refine c_n ?_
   replace hF := hF.sel [0]
   simp only [ss, Nat.reduceBEq] at hF
   refine wp_ret (hret (ret1 hF Tryz.results8 rfl ?_))
   first
     | exact ⟨rfl, hH.below⟩
     | exact absurd trivial (show ¬ True by assumption)
     | exact absurd rfl (show ¬ aw2 = aw2 by assumption)
     | exact absurd rfl g12_10'
     | exact absurd rfl (show ¬ aws3 = aws3 by assumption)
     | exact absurd rfl (show ¬ aws4 = aws4 by assumption)
     | trace_state; fail
  have g12_23' := g12_23; try simp only [qq] at g12_23'
  refine zy hF rfl g12_23 (r_move hF rfl rfl) fun a hF => ?_
  refine g_on hF rfl rfl rfl g12_23 ?_
  refine ls_maken (n := 10) hF hH rfl rfl rfl rfl rfl rfl Tryz.underlying26 ti5 zv5 (by decide) (by decide) ?_
  intro a w g12_25 hH hE hF
  have h10 := rsl_lit (n := 10) (size := 1) hH (by rw [size_madeCells]) (by decide)
  rw [made10] at h10
  refine zy hF rfl g12_23 (r_convstr hF rfl rfl Tryz.underlying26 Tryz.underlying5 Tryz.underlying9 (h10)) fun a hF => ?_
  refine zy hF rfl g12_23 (zr hF rfl rfl (b_sadd _ [0, 7] _ (by decide))) fun a hF => ?_
  refine zy hF rfl g12_23 (zr hF rfl rfl (b_seq _ _ _)) fun a hF => ?_
  refine zl hF rfl (r_pickt hF rfl rfl g12_23 rfl) fun a hF => ?_
  refine zm 1 hF rfl fun a hF => ?_
  refine l_ask (d := 87) hF rfl (fun g12_30 => ?_) (fun g12_30 => ?_)
  ·
   have g12_30' := g12_30; try simp only [qq] at g12_30'
   refine zn hF rfl g12_30 fun a hF => ?_
   refine zn hF rfl g12_30 fun a hF => ?_
   refine zl hF rfl (r_pickf hF rfl rfl g12_30 rfl) fun a hF => ?_
   refine zm 1 hF rfl fun a hF => ?_
   refine zn hF rfl rfl fun a hF => ?_
   refine zn hF rfl rfl fun a hF => ?_
   refine zn hF rfl rfl fun a hF => ?_
   refine zn hF rfl rfl fun a hF => ?_
   refine zn hF rfl rfl fun a hF => ?_
   refine zl hF rfl (r_pickf hF rfl rfl rfl rfl) fun a hF => ?_
   refine zm 1 hF rfl fun a hF => ?_
   refine c_n ?_
   replace hF := hF.sel [0]
   simp only [ss, Nat.reduceBEq] at hF
   refine wp_ret (hret (ret1 hF Tryz.results8 rfl ?_))
   first
     | exact ⟨rfl, hH.below⟩
     | exact absurd trivial (show ¬ True by assumption)
     | exact absurd rfl (show ¬ aw2 = aw2 by assumption)
     | exact absurd rfl g12_10'
     | exact absurd rfl (show ¬ aws3 = aws3 by assumption)
     | exact absurd rfl (show ¬ aws4 = aws4 by assumption)
     | trace_state; fail
  have g12_30' := g12_30; try simp only [qq] at g12_30'
  refine zy hF rfl g12_30 (r_move hF rfl rfl) fun a hF => ?_
  refine zy hF rfl g12_30 (zr hF rfl rfl (b_eqn _ _ _ 0)) fun a hF => ?_
  refine zl hF rfl (r_pickt hF rfl rfl g12_30 rfl) fun a hF => ?_
  refine zm 1 hF rfl fun a hF => ?_
  refine l_ask (d := 91) hF rfl (fun g12_34 => ?_) (fun g12_34 => ?_)
  ·
   have g12_34' := g12_34; try simp only [qq] at g12_34'
   refine zn hF rfl g12_34 fun a hF => ?_
   refine zn hF rfl g12_34 fun a hF => ?_
   refine zn hF rfl g12_34 fun a hF => ?_
   refine zn hF rfl g12_34 fun a hF => ?_
   refine zn hF rfl g12_34 fun a hF => ?_
   refine zl hF rfl (r_pickf hF rfl rfl g12_34 rfl) fun a hF => ?_
   refine zm 1 hF rfl fun a hF => ?_
   refine c_n ?_
   replace hF := hF.sel [0]
   simp only [ss, Nat.reduceBEq] at hF
   refine wp_ret (hret (ret1 hF Tryz.results8 rfl ?_))
   first
     | exact ⟨rfl, hH.below⟩
     | exact absurd trivial (show ¬ True by assumption)
     | exact absurd rfl (show ¬ aw2 = aw2 by assumption)
     | exact absurd rfl g12_10'
     | exact absurd rfl (show ¬ aws3 = aws3 by assumption)
     | exact absurd rfl (show ¬ aws4 = aws4 by assumption)
     | trace_state; fail
  have g12_34' := g12_34; try simp only [qq] at g12_34'
  refine zy hF rfl g12_34 (r_move hF rfl rfl) fun a hF => ?_
  refine g_on hF rfl rfl rfl g12_34 ?_
  refine ls_maken (n := 11) hF hH rfl rfl rfl rfl rfl rfl Tryz.underlying26 ti5 zv5 (by decide) (by decide) ?_
  intro a w g12_36 hH hE hF
  have h11 := rsl_lit (n := 11) (size := 1) hH (by rw [size_madeCells]) (by decide)
  rw [made11] at h11
  refine zy hF rfl g12_34 (r_convstr hF rfl rfl Tryz.underlying26 Tryz.underlying5 Tryz.underlying9 (h11)) fun a hF => ?_
  refine zy hF rfl g12_34 (zr hF rfl rfl (b_sadd _ _ [1, 0, 0, 41, 4, 208, 0, 0, 0, 0, 0, 0] (by decide))) fun a hF => ?_
  refine zy hF rfl g12_34 (zr hF rfl rfl (b_seq _ _ _)) fun a hF => ?_
  refine zl hF rfl (r_pickt hF rfl rfl g12_34 rfl) fun a hF => ?_
  refine zm 1 hF rfl fun a hF => ?_
  refine c_n ?_
  replace hF := hF.sel [0]
  simp only [ss, Nat.reduceBEq] at hF
  refine wp_ret (hret (ret1 hF Tryz.results8 rfl ?_))
  first
    | exact ⟨rfl, hH.below⟩
    | exact absurd trivial (show ¬ True by assumption)
    | exact absurd rfl (show ¬ aw2 = aw2 by assumption)
    | exact absurd rfl g12_10'
    | exact absurd rfl (show ¬ aws3 = aws3 by assumption)
    | exact absurd rfl (show ¬ aws4 = aws4 by assumption)
    | trace_state; fail
end Go.Proofs.YtpoebplhemimmaaGreatDoor
