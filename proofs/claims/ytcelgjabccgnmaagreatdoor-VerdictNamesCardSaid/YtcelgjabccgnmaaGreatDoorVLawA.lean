/-
  The walks of the small functions of hustingslaw11: how large a message is, the examples. Nothing is claimed here.
-/
import Derived.Test.YtcelgjabccgnmaaGreatDoorVKeyW
import Derived.Test.YtcelgjabccgnmaaGreatDoorVParts
import Derived.Laws.MakeOwn
namespace Go.Proofs.YtcelgjabccgnmaaGreatDoor
open Go.RowKit
set_option linter.unusedVariables false
set_option linter.unusedSimpArgs false
set_option maxHeartbeats 1000000

/-! ### How large a message is -/
def recsN : List Rec → Nat → Nat
  | [], n => n
  | r :: l, n => if n < 4000 then recsN l (n + 12 + min 4000 r.name.length + min 4000 r.data.length) else n
theorem recsN_le : ∀ (l : List Rec) (n : Nat), n ≤ 20000 → recsN l n ≤ 20000
  | [], n, h => h
  | r :: l, n, h => by
    unfold recsN
    split
    · exact recsN_le l _ (by omega)
    · exact h
theorem recsN_small : ∀ (l : List Rec) (n : Nat), recsN l n < 4000 → n + 12 * l.length ≤ recsN l n ∧ ∀ r ∈ l, r.name.length < 4000 ∧ r.data.length < 4000
  | [], n, h => ⟨by simp [recsN], fun _ h => (List.not_mem_nil h).elim⟩
  | r :: l, n, h => by
    unfold recsN at h ⊢
    split at h
    · rename_i hn
      rw [if_pos hn]
      obtain ⟨h1, h2⟩ := recsN_small l _ h
      rw [List.length_cons]
      refine ⟨by omega, fun x hx => ?_⟩
      rcases List.mem_cons.1 hx with rfl | hx
      · omega
      · exact h2 x hx
    · rename_i hn; omega
theorem records11_spec (l : List Rec) (v : Value) (w0 : World) (hR : RSl w0 5 v l.length (recsV l)) (hlb : ∀ r ∈ l, RecL r) :
    Rets Tryz.prog 83 [v] w0 fun r w' => r = .int .i64 (recsN l 0 : Nat) ∧ Ext w0 w' := by
  have hH := Hp.refl w0
  obtain ⟨ad, cap, rfl⟩ := hR.shape
  have hlm : l.length ≤ 9223372036854775807 := by
    obtain ⟨_, _, _, e, h1, h2, _⟩ := hR
    cases e; unfold maxLen at h2; omega
  refine rets_start Tryz.func83 rfl Tryz.ntmps83 rfl fun a Q0 hF hret hend => ?_
  simp only [argsFrom, Nat.zero_add, Nat.reduceAdd] at hF
  refine c_sr fun ops => ?_
  refine zm 1 hF rfl fun a hF => ?_
  refine c_n ?_
  replace hF := hF.sel [0]
  simp only [ss, Nat.reduceBEq] at hF
  refine c_sr fun ops => ?_
  refine zm 1 hF rfl fun a hF => ?_
  refine c_n ?_
  replace hF := hF.sel [0, 3]
  simp only [ss, Nat.reduceBEq] at hF
  refine c_seq fun Q1 k1 t1 => ?_
  refine c_sr fun ops => ?_
  refine zm 1 hF rfl fun a hF => ?_
  refine c_n ?_
  replace hF := hF.sel [0, 3, 4]
  simp only [ss, Nat.reduceBEq] at hF
  refine c_block fun Q2 t2 => ?_
  refine c_loop (fun n a w => ∃ i m, n = l.length - i ∧ i ≤ l.length ∧ m ≤ 20000 ∧ recsN (l.drop i) m = recsN l 0 ∧ Fr 34 [(0, .slice ad l.length cap), (3, .int .i64 (m : Nat)), (4, .int .i64 (i : Nat))] a ∧ Hp w0 w []) ?_ ?_
  ·
   exact ⟨_, 0, 0, rfl, Nat.zero_le _, by omega, rfl, hF.keep [0, 3, 4] rfl, hH⟩
  clear hH hF
  intro n a w hI Q3 k3 t3
  obtain ⟨i, m, hn, hi, hm1, hrn, hF, hH⟩ := hI
  refine c_seq fun Q4 k4 t4 => ?_
  refine c_sg ?_
  refine zm 2 hF rfl fun a hF => ?_
  refine zl hF rfl (r_len_sl hF rfl rfl Tryz.underlying34) fun a hF => ?_
  refine zb hF rfl rfl rfl (b_ltn _ _ _ _) fun a hF => ?_
  refine zm 1 hF rfl fun a hF => ?_
  refine l_ask (d := 9) hF rfl (fun g3_4 => ?_) (fun g3_4 => ?_)
  ·
   have g3_4' := g3_4; try simp only [qq] at g3_4'
   refine zn hF rfl g3_4 fun a hF => ?_
   refine zn hF rfl g3_4 fun a hF => ?_
   refine zl hF rfl (r_pickf hF rfl rfl g3_4 rfl) fun a hF => ?_
   refine c_n ?_
   refine c_no hF rfl rfl ?_
   refine wp_exit (t4.exit (t3.exit (t2.here (?_))))
   refine k1 ?_
   refine c_sr fun ops => ?_
   refine zm 2 hF rfl fun a hF => ?_
   refine c_n ?_
   replace hF := hF.sel [2]
   simp only [ss, Nat.reduceBEq] at hF
   refine wp_ret (hret (ret1 hF Tryz.results83 rfl ?_))
   refine ⟨?_, hH.below⟩
   have e : m = recsN l 0 := by
     rw [← hrn]
     by_cases hl : i < l.length
     · rw [List.drop_eq_getElem_cons hl, recsN, if_neg (by omega)]
     · rw [List.drop_eq_nil_of_le (by omega)]; rfl
   rw [e]
  have g3_4' := g3_4; try simp only [qq] at g3_4'
  refine zy hF rfl g3_4 (r_move hF rfl rfl) fun a hF => ?_
  refine zy hF rfl g3_4 (zr hF rfl rfl (b_ltn _ _ _ 4000)) fun a hF => ?_
  refine zl hF rfl (r_pickt hF rfl rfl g3_4 rfl) fun a hF => ?_
  refine c_n ?_
  refine c_fi hF rfl (fun h12 => ?_) (fun h12 => ?_)
  ·
   try simp only [qq] at h12
   refine wp_exit (t4.exit (t3.exit (t2.here (?_))))
   refine k1 ?_
   refine c_sr fun ops => ?_
   refine zm 2 hF rfl fun a hF => ?_
   refine c_n ?_
   replace hF := hF.sel [2]
   simp only [ss, Nat.reduceBEq] at hF
   refine wp_ret (hret (ret1 hF Tryz.results83 rfl ?_))
   refine ⟨?_, hH.below⟩
   have e : m = recsN l 0 := by
     rw [← hrn]
     by_cases hl : i < l.length
     · rw [List.drop_eq_getElem_cons hl, recsN, if_neg (by omega)]
     · rw [List.drop_eq_nil_of_le (by omega)]; rfl
   rw [e]
  try simp only [qq] at h12
  obtain ⟨b, off, rfl, -, hrec⟩ := hR.rec g3_4'
  have hb1 := (hlb _ (List.getElem_mem g3_4')).name
  have hb2 := (hlb _ (List.getElem_mem g3_4')).data
  rw [List.drop_eq_getElem_cons g3_4', recsN, if_pos h12] at hrn
  refine wp_skip ?_
  refine k4 ?_
  refine c_seq fun Q5 k5 t5 => ?_
  refine c_block fun Q6 t6 => ?_
  refine c_flow [0, 1, 2, 3, 4, 5, 10, 11, 12, 13] [6, 7, 8, 9, 14, 15, 16, 17, 18] [] [] (by kernel_rfl) (by kernel_rfl) fun hB => ?_
  refine ps hF rfl rfl rfl rfl (fun w => r_move hF rfl rfl) fun a hF => ?_
  refine ps hF rfl rfl rfl rfl (fun w => zr hF rfl rfl (b_addn _ _ 12 (by omega))) fun a hF => ?_
  refine ps hF rfl rfl rfl rfl (fun w => r_move hF rfl rfl) fun a hF => ?_
  refine ps hF rfl rfl rfl rfl (fun w => r_move hF rfl rfl) fun a hF => ?_
  refine ps hF rfl rfl rfl rfl (fun w => r_indexaddr hF _ rfl rfl rfl Tryz.underlying34 ti38 (by omega)) fun a hF => ?_
  refine ps hF rfl rfl rfl rfl (fun w => r_fieldaddr hF rfl rfl fd38_0) fun a hF => ?_
  refine ps hF rfl rfl rfl rfl (fun w => r_move hF rfl rfl) fun a hF => ?_
  refine ps hF rfl rfl rfl rfl (fun w => r_move hF rfl rfl) fun a hF => ?_
  refine ps hF rfl rfl rfl rfl (fun w => r_indexaddr hF _ rfl rfl rfl Tryz.underlying34 ti38 (by omega)) fun a hF => ?_
  refine ps hF rfl rfl rfl rfl (fun w => r_fieldaddr hF rfl rfl fd38_4) fun a hF => ?_
  refine fl_start [21, 22, 23, 24, 29, 30, 31, 32, 3] hB (by kernel_rfl) hF ?_
  simp only [wo, hasN, Nat.reduceBEq, cond_true, cond_false] at hF ⊢
  refine fs1 rfl (by
   intro a w Lr hE hC hl
   replace hH := hH.ext hE
   have hF := hC.fr
   exact zl hF rfl (r_load hF rfl rfl fl9 (hH.cell (hrec 0 _ rfl))) fun a' hF' => wpList_nil (fl_end hC hF' (Ext.refl _) rfl)) ?_
  refine fs1 rfl (by
   intro a w Lr hE hC hl
   replace hH := hH.ext hE
   obtain ⟨_, s21, rfl⟩ := hl 21 (by decide) _ rfl
   replace hC := hC.more s21
   have hF := hC.fr
   exact zl hF rfl (r_len_str hF rfl rfl Tryz.underlying9) fun a' hF' => wpList_nil (fl_end hC hF' (Ext.refl _) rfl)) ?_
  refine fs1 rfl (by
   intro a w Lr hE hC hl
   replace hH := hH.ext hE
   obtain ⟨_, s22, rfl⟩ := hl 22 (by decide) _ rfl
   replace hC := hC.more s22
   have hF := hC.fr
   exact zl hF rfl (r_minn hF (n := 4000) rfl rfl rfl) fun a' hF' => wpList_nil (fl_end hC hF' (Ext.refl _) rfl)) ?_
  refine fs1 rfl (by
   intro a w Lr hE hC hl
   replace hH := hH.ext hE
   obtain ⟨_, s23, rfl⟩ := hl 23 (by decide) _ rfl
   replace hC := hC.more s23
   have hF := hC.fr
   exact zl hF rfl (zr hF rfl rfl (b_addn _ _ _ (by omega))) fun a' hF' => wpList_nil (fl_end hC hF' (Ext.refl _) rfl)) ?_
  refine fs1 rfl (by
   intro a w Lr hE hC hl
   replace hH := hH.ext hE
   have hF := hC.fr
   exact zl hF rfl (r_load hF rfl rfl fl9 (hH.cell (hrec 4 _ rfl))) fun a' hF' => wpList_nil (fl_end hC hF' (Ext.refl _) rfl)) ?_
  refine fs1 rfl (by
   intro a w Lr hE hC hl
   replace hH := hH.ext hE
   obtain ⟨_, s29, rfl⟩ := hl 29 (by decide) _ rfl
   replace hC := hC.more s29
   have hF := hC.fr
   exact zl hF rfl (r_len_str hF rfl rfl Tryz.underlying9) fun a' hF' => wpList_nil (fl_end hC hF' (Ext.refl _) rfl)) ?_
  refine fs1 rfl (by
   intro a w Lr hE hC hl
   replace hH := hH.ext hE
   obtain ⟨_, s30, rfl⟩ := hl 30 (by decide) _ rfl
   replace hC := hC.more s30
   have hF := hC.fr
   exact zl hF rfl (r_minn hF (n := 4000) rfl rfl rfl) fun a' hF' => wpList_nil (fl_end hC hF' (Ext.refl _) rfl)) ?_
  refine fs1 rfl (by
   intro a w Lr hE hC hl
   replace hH := hH.ext hE
   obtain ⟨_, s24, rfl⟩ := hl 24 (by decide) _ rfl
   replace hC := hC.more s24
   obtain ⟨_, s31, rfl⟩ := hl 31 (by decide) _ rfl
   replace hC := hC.more s31
   have hF := hC.fr
   exact zl hF rfl (zr hF rfl rfl (b_addn _ _ _ (by omega))) fun a' hF' => wpList_nil (fl_end hC hF' (Ext.refl _) rfl)) ?_
  refine fs1 rfl (by
   intro a w Lr hE hC hl
   replace hH := hH.ext hE
   obtain ⟨_, s32, rfl⟩ := hl 32 (by decide) _ rfl
   replace hC := hC.more s32
   have hF := hC.fr
   exact zl hF rfl (r_assign hF rfl rfl) fun a' hF' => wpList_nil (fl_end hC hF' (Ext.refl _) rfl)) ?_
  intro a w hE hF hall
  replace hH := hH.ext hE
  obtain ⟨_, s21, rfl⟩ := hall 21 _ rfl
  replace hF := hF.more s21
  obtain ⟨_, s22, rfl⟩ := hall 22 _ rfl
  replace hF := hF.more s22
  obtain ⟨_, s23, rfl⟩ := hall 23 _ rfl
  replace hF := hF.more s23
  obtain ⟨_, s24, rfl⟩ := hall 24 _ rfl
  replace hF := hF.more s24
  obtain ⟨_, s29, rfl⟩ := hall 29 _ rfl
  replace hF := hF.more s29
  obtain ⟨_, s30, rfl⟩ := hall 30 _ rfl
  replace hF := hF.more s30
  obtain ⟨_, s31, rfl⟩ := hall 31 _ rfl
  replace hF := hF.more s31
  obtain ⟨_, s32, rfl⟩ := hall 32 _ rfl
  replace hF := hF.more s32
  obtain ⟨_, s3, rfl⟩ := hall 3 _ rfl
  replace hF := hF.more s3
  clear hall
  refine wpList_nil ?_
  refine t6.norm ?_
  refine k5 ?_
  refine c_reg fun ops => ?_
  refine zm 1 hF rfl fun a hF => ?_
  refine zb hF rfl rfl rfl (b_addn _ _ 1 (by omega)) fun a hF => ?_
  refine zm 1 hF rfl fun a hF => ?_
  refine wpList_nil ?_
  refine k3 ?_
  exact ⟨l.length - (i + 1), by omega, i + 1, _, rfl, g3_4', by omega, hrn, hF.keep [0, 3, 4] rfl, hH⟩
theorem recsS_of {l : List Rec} (h : recsN l 0 < 4000) (hl : ∀ r ∈ l, RecL r) : RecsS l := by
  obtain ⟨h1, h2⟩ := recsN_small l 0 h
  exact ⟨by omega, fun r hr => ⟨(h2 r hr).1, (hl r hr).kind, (hl r hr).cls, (h2 r hr).2⟩⟩
/-- A question and a message that are small. -/
structure Small (q : Que) (m : Msg) : Prop where
  name : q.name.length ≤ 1000
  ans : RecsS m.ans
  auth : RecsS m.auth
  extra : RecsS m.extra
theorem RecsS.b {l : List Rec} (h : RecsS l) : RecsB l := ⟨h.recsB.1, h.recsB.2⟩
theorem large_spec (q : Que) (m : Msg) (qv av uv xv ov : Value) (w0 : World) (hR : MsgR w0 m qv av uv xv ov) (hl : MsgL m) :
    Rets Tryz.prog 38 [.agg (quV q).toArray, .agg (msgV m qv av uv xv ov).toArray] w0 fun r w' => (∃ b : Bool, r = .bool b ∧ (b = false → Small q m)) ∧ Ext w0 w' := by
  have hH := Hp.refl w0
  obtain ⟨qad, qcp, rfl⟩ := hR.qs.shape
  have n1 := recsN_le m.ans 0 (by omega)
  have n2 := recsN_le m.auth 0 (by omega)
  have n3 := recsN_le m.extra 0 (by omega)
  refine rets_start Tryz.func38 rfl Tryz.ntmps38 rfl fun a Q0 hF hret hend => ?_
  simp only [argsFrom, Nat.zero_add, Nat.reduceAdd] at hF
  refine c_sr fun ops => ?_
  refine ls_box hF hH rfl rfl rfl rfl rfl ?_
  intro a w g0_0 hH hE hF
  refine ls_box hF hH rfl rfl rfl rfl rfl ?_
  intro a w g0_1 hH hE hF
  refine zm 1 hF rfl fun a hF => ?_
  refine c_n ?_
  replace hF := hF.sel [2, 3]
  simp only [ss, Nat.reduceBEq] at hF
  refine c_seq fun Q1 k1 t1 => ?_
  simp only [cells_agg] at hH
  refine q_reg (by kernel_rfl) (by kernel_rfl) ?_
  refine qs hF rfl rfl rfl (fun w hw => r_fieldaddr0 hF rfl rfl fd49_0) fun a hF => ?_
  refine qs hF rfl rfl rfl (fun w hw => r_load hF rfl rfl fl9 (hw.cell (own_cell (i := 1) hH rfl rfl))) fun a hF => ?_
  refine qs hF rfl rfl rfl (fun w hw => r_len_str hF rfl rfl Tryz.underlying9) fun a hF => ?_
  refine qs hF rfl rfl rfl (fun w hw => zr hF rfl rfl (b_gtn _ _ _ 1000)) fun a hF => ?_
  refine qs hF rfl rfl rfl (fun w hw => r_move hF rfl rfl) fun a hF => ?_
  refine q_ask (d := 9) hF rfl (fun g1_4 => ?_) (fun g1_4 => ?_)
  ·
   have g1_4' := g1_4; try simp only [qq] at g1_4'
   refine qsn hF rfl rfl rfl g1_4 rfl rfl fun a hF => ?_
   refine qsn hF rfl rfl rfl g1_4 rfl rfl fun a hF => ?_
   refine qsn hF rfl rfl rfl g1_4 rfl rfl fun a hF => ?_
   refine qsn hF rfl rfl rfl g1_4 rfl rfl fun a hF => ?_
   refine qsn hF rfl rfl rfl g1_4 rfl rfl fun a hF => ?_
   refine qsn hF rfl rfl rfl g1_4 rfl rfl fun a hF => ?_
   refine qsn hF rfl rfl rfl g1_4 rfl rfl fun a hF => ?_
   refine qsn hF rfl rfl rfl g1_4 rfl rfl fun a hF => ?_
   refine qsn hF rfl rfl rfl g1_4 rfl rfl fun a hF => ?_
   refine qsn hF rfl rfl rfl g1_4 rfl rfl fun a hF => ?_
   refine qsn hF rfl rfl rfl g1_4 rfl rfl fun a hF => ?_
   refine qsn hF rfl rfl rfl g1_4 rfl rfl fun a hF => ?_
   refine qs hF rfl rfl rfl (fun w hw => r_pickt hF rfl rfl g1_4 rfl) fun a hF => ?_
   refine qs hF rfl rfl rfl (fun w hw => r_move hF rfl rfl) fun a hF => ?_
   refine qsn hF rfl rfl rfl rfl rfl rfl fun a hF => ?_
   refine qsn hF rfl rfl rfl rfl rfl rfl fun a hF => ?_
   refine qsn hF rfl rfl rfl rfl rfl rfl fun a hF => ?_
   refine qsn hF rfl rfl rfl rfl rfl rfl fun a hF => ?_
   refine qs hF rfl rfl rfl (fun w hw => r_pickt hF rfl rfl rfl rfl) fun a hF => ?_
   refine qs hF rfl rfl rfl (fun w hw => r_assign hF rfl rfl) fun a hF => ?_
   refine q_nil fun w hE => ?_
   replace hH := hH.ext hE
   replace hF := hF.sel [4]
   simp only [ss, Nat.reduceBEq] at hF
   refine k1 ?_
   refine wp_ret (hret (ret1 hF Tryz.results38 rfl ?_))
   refine ⟨⟨_, rfl, fun hb => ?_⟩, hH.below⟩
   first
     | cases hb
     | exact ⟨by omega, recsS_of (by omega) hl.ans, recsS_of (by omega) hl.auth, recsS_of (by omega) hl.extra⟩
  have g1_4' := g1_4; try simp only [qq] at g1_4'
  refine qsy hF rfl rfl rfl g1_4 rfl rfl (fun w hw => r_fieldaddr0 hF rfl rfl fd62_2) fun a hF => ?_
  refine qsy hF rfl rfl rfl g1_4 rfl rfl (fun w hw => r_load hF rfl rfl fl34 (hw.cell (own_cell (i := 0) hH rfl rfl))) fun a hF => ?_
  refine qsy_call hF rfl rfl rfl g1_4 rfl rfl rfl rfl fn83 (fun w hw => records11_spec m.ans av _ (hR.ans.ext (hH.below.trans hw)) hl.ans) fun a hF => ?_
  refine qsy hF rfl rfl rfl g1_4 rfl rfl (fun w hw => r_fieldaddr0 hF rfl rfl fd62_3) fun a hF => ?_
  refine qsy hF rfl rfl rfl g1_4 rfl rfl (fun w hw => r_load hF rfl rfl fl34 (hw.cell (own_cell (i := 0) hH rfl rfl))) fun a hF => ?_
  refine qsy_call hF rfl rfl rfl g1_4 rfl rfl rfl rfl fn83 (fun w hw => records11_spec m.auth uv _ (hR.auth.ext (hH.below.trans hw)) hl.auth) fun a hF => ?_
  refine qsy hF rfl rfl rfl g1_4 rfl rfl (fun w hw => zr hF rfl rfl (b_addn _ _ _ (by omega))) fun a hF => ?_
  refine qsy hF rfl rfl rfl g1_4 rfl rfl (fun w hw => r_fieldaddr0 hF rfl rfl fd62_4) fun a hF => ?_
  refine qsy hF rfl rfl rfl g1_4 rfl rfl (fun w hw => r_load hF rfl rfl fl34 (hw.cell (own_cell (i := 0) hH rfl rfl))) fun a hF => ?_
  refine qsy_call hF rfl rfl rfl g1_4 rfl rfl rfl rfl fn83 (fun w hw => records11_spec m.extra xv _ (hR.extra.ext (hH.below.trans hw)) hl.extra) fun a hF => ?_
  refine qsy hF rfl rfl rfl g1_4 rfl rfl (fun w hw => zr hF rfl rfl (b_addn _ _ _ (by omega))) fun a hF => ?_
  refine qsy hF rfl rfl rfl g1_4 rfl rfl (fun w hw => zr hF rfl rfl (b_gen _ _ _ 4000)) fun a hF => ?_
  refine qs hF rfl rfl rfl (fun w hw => r_pickf hF rfl rfl g1_4 rfl) fun a hF => ?_
  refine qs hF rfl rfl rfl (fun w hw => r_move hF rfl rfl) fun a hF => ?_
  refine q_ask (d := 23) hF rfl (fun g1_18 => ?_) (fun g1_18 => ?_)
  ·
   have g1_18' := g1_18; try simp only [qq] at g1_18'
   refine qsn hF rfl rfl rfl g1_18 rfl rfl fun a hF => ?_
   refine qsn hF rfl rfl rfl g1_18 rfl rfl fun a hF => ?_
   refine qsn hF rfl rfl rfl g1_18 rfl rfl fun a hF => ?_
   refine qsn hF rfl rfl rfl g1_18 rfl rfl fun a hF => ?_
   refine qs hF rfl rfl rfl (fun w hw => r_pickt hF rfl rfl g1_18 rfl) fun a hF => ?_
   refine qs hF rfl rfl rfl (fun w hw => r_assign hF rfl rfl) fun a hF => ?_
   refine q_nil fun w hE => ?_
   replace hH := hH.ext hE
   replace hF := hF.sel [4]
   simp only [ss, Nat.reduceBEq] at hF
   refine k1 ?_
   refine wp_ret (hret (ret1 hF Tryz.results38 rfl ?_))
   refine ⟨⟨_, rfl, fun hb => ?_⟩, hH.below⟩
   first
     | cases hb
     | exact ⟨by omega, recsS_of (by omega) hl.ans, recsS_of (by omega) hl.auth, recsS_of (by omega) hl.extra⟩
  have g1_18' := g1_18; try simp only [qq] at g1_18'
  refine qsy hF rfl rfl rfl g1_18 rfl rfl (fun w hw => r_fieldaddr0 hF rfl rfl fd62_1) fun a hF => ?_
  refine qsy hF rfl rfl rfl g1_18 rfl rfl (fun w hw => r_load hF rfl rfl fl57 (hw.cell (own_cell (i := 0) hH rfl rfl))) fun a hF => ?_
  refine qsy hF rfl rfl rfl g1_18 rfl rfl (fun w hw => r_len_sl hF rfl rfl Tryz.underlying57) fun a hF => ?_
  refine qsy hF rfl rfl rfl g1_18 rfl rfl (fun w hw => zr hF rfl rfl (b_gtn _ _ _ 100)) fun a hF => ?_
  refine qs hF rfl rfl rfl (fun w hw => r_pickf hF rfl rfl g1_18 rfl) fun a hF => ?_
  refine qs hF rfl rfl rfl (fun w hw => r_assign hF rfl rfl) fun a hF => ?_
  refine q_nil fun w hE => ?_
  replace hH := hH.ext hE
  replace hF := hF.sel [4]
  simp only [ss, Nat.reduceBEq] at hF
  refine k1 ?_
  refine wp_ret (hret (ret1 hF Tryz.results38 rfl ?_))
  refine ⟨⟨_, rfl, fun hb => ?_⟩, hH.below⟩
  first
    | cases hb
    | exact ⟨by omega, recsS_of (by omega) hl.ans, recsS_of (by omega) hl.auth, recsS_of (by omega) hl.extra⟩

/-! ### A text of zeros -/
section
variable {P : Program} {ops : Array Oper} {Q : Exit → Act → World → Prop} {rest : List Oper} {o : Oper} {a : Act} {w w0 : World} {N dd : Nat} {L : List (Nat × Value)} {H : List (Nat × Obj)}
theorem ls_make {x y : Operand} {t e : TypeId} {n bytes : Nat} {z : Value} (hF : Fr N L a) (hH : Hp w0 w H) (hg : o.guard = none) (hdst : o.dst = some dd) (hd : Nat.blt dd N = true) (ho : o.op = .makeSlice t x y)
    (hx : ev L x = some (.int .i64 (n : Int))) (hy : ev L y = some (.int .i64 (n : Int))) (ht : P.underlying t = some (.slice e)) (hti : TI P e 1 bytes) (hz : ZV P e z) (hn : n ≤ 1000) (hb : bytes ≤ 1000)
    (k : ∀ a' w' g, Hp w0 w' ((g, .cells (madeCells z.cells n) e (0, 0)) :: H) → Ext w w' → Fr N ((dd, .slice (some ⟨g, 0, none⟩) n n) :: L) a' → wpList P ops Q rest a' w') : wpList P ops Q (o :: rest) a w := by
  obtain ⟨i, z', hi, hz', h1, h2, _⟩ := hti
  obtain ⟨i2, hi2, hz2⟩ := hz
  rw [hi] at hi2
  obtain rfl := Option.some.inj hi2
  have hnb : bytes * n ≤ 1000 * 1000 := Nat.mul_le_mul hb hn
  have hr := run_makeSlice (P := P) (w := w) t e i z ht hi hz2 .i64 .i64 (n : Int) (n : Int) (by omega) (by omega) (by simp [h1]; omega) (by rw [h2]; have : ((bytes * n : Nat) : Int) = (bytes : Int) * (n : Int) := Int.natCast_mul ..; omega) (by omega)
  rw [h1] at hr
  simp only [Int.toNat_natCast, Nat.mul_one] at hr
  refine ls hF hg hdst hd (v := .slice (some ⟨w.heap.size, 0, none⟩) n n) (w' := w.alloc (.cells (madeCells z.cells n) e)) (.inl ?_) fun a' hF' => k a' _ _ (hH.alloc _) (Ext.alloc _ _) hF'
  unfold execOp
  simp [ho, hF.ev hx, hF.ev hy, hr]
end
theorem made19 : (madeCells (Value.int .u8 0).cells 19).toList = bytV (List.replicate 19 0) := by kernel_rfl
def zoneR (n : Bs) (ttl : Nat) (c : UInt8) : Rec := ⟨n, 6, 1, ttl, [0, 0] ++ List.replicate 19 0 ++ [c]⟩
theorem zone_spec (n : Bs) (ttl : Nat) (c : UInt8) (k : Nat) (hk : k = c.toNat) (w0 : World) : Rets Tryz.prog 44 [.string (mk n), .int .u32 (ttl : Nat), .int .u8 (k : Nat)] w0 fun v w' => v = .agg (recV (zoneR n ttl c)).toArray ∧ Ext w0 w' := by
  subst hk
  have hH := Hp.refl w0
  refine rets_start Tryz.func44 rfl Tryz.ntmps44 rfl fun a Q0 hF hret hend => ?_
  simp only [argsFrom, Nat.zero_add, Nat.reduceAdd] at hF
  refine c_sr fun ops => ?_
  refine ls_alloc hF hH rfl rfl rfl rfl zv38 ?_
  intro a w g0_0 hH hE hF
  refine c_n ?_
  replace hF := hF.sel [0, 1, 2, 6]
  simp only [ss, Nat.reduceBEq] at hF
  refine c_seq fun Q1 k1 t1 => ?_
  refine c_flow [0, 1, 5] [2, 3, 4, 6, 7, 8, 9] [10] [] (by kernel_rfl) (by kernel_rfl) fun hB => ?_
  refine ps hF rfl rfl rfl rfl (fun w => r_move hF rfl rfl) fun a hF => ?_
  refine ps hF rfl rfl rfl rfl (fun w => r_move hF rfl rfl) fun a hF => ?_
  refine ps hF rfl rfl rfl rfl (fun w => r_move hF rfl rfl) fun a hF => ?_
  refine fl_start [9, 10, 11, 13, 14, 15, 16] hB (by kernel_rfl) hF ?_
  simp only [wo, hasN, Nat.reduceBEq, cond_true, cond_false] at hF ⊢
  refine fs (fun v w' => RSl w' 1 v 19 (bytV (List.replicate 19 0))) rfl (fun _ _ _ he h => h.ext he) ?_ ?_
  ·
   intro a w Lr hE hC hl
   replace hH := hH.ext hE
   have hF := hC.fr
   refine ls_make (n := 19) hF (Hp.refl _) rfl rfl rfl rfl rfl rfl Tryz.underlying88 ti5 zv5 (by decide) (by decide) ?_
   intro a' w' g hH' hE' hF'
   have h19 := rsl_lit (n := 19) (size := 1) hH' (by rw [size_madeCells]) (by decide)
   rw [made19] at h19
   exact wpList_nil (fl_end hC hF' hE' h19)
  refine fs1 rfl (by
   intro a w Lr hE hC hl
   replace hH := hH.ext hE
   obtain ⟨v9, s9, p9⟩ := hl 9 (by decide) _ rfl
   replace hC := hC.more s9
   have hF := hC.fr
   exact zl hF rfl (r_convstr hF rfl rfl Tryz.underlying88 Tryz.underlying5 Tryz.underlying9 ((show RSl w 1 v9 19 (bytV (List.replicate 19 0)) from p9))) fun a' hF' => wpList_nil (fl_end hC hF' (Ext.refl _) rfl)) ?_
  refine fs1 rfl (by
   intro a w Lr hE hC hl
   replace hH := hH.ext hE
   obtain ⟨_, s10, rfl⟩ := hl 10 (by decide) _ rfl
   replace hC := hC.more s10
   have hF := hC.fr
   exact zl hF rfl (zr hF rfl rfl (b_sadd _ [0, 0] _ (by simp))) fun a' hF' => wpList_nil (fl_end hC hF' (Ext.refl _) rfl)) ?_
  refine fsr rfl (by
   intro a w Lr hE hC hl
   replace hH := hH.ext hE
   have hF := hC.fr
   refine ls_build1 hF (Hp.refl w) rfl rfl rfl rfl rfl Tryz.underlying88 ti5 rfl (by decide) ?_
   intro a' w' g hH' hE' hF'
   exact wpList_nil (fl_end hC hF' hE' (rsl_lit (n := 1) (size := 1) hH' rfl (by decide)))) ?_
  refine fs1 rfl (by
   intro a w Lr hE hC hl
   replace hH := hH.ext hE
   obtain ⟨v13, s13, p13⟩ := hl 13 (by decide) _ rfl
   replace hC := hC.more s13
   have hF := hC.fr
   exact zl hF rfl (r_convstr hF rfl rfl Tryz.underlying88 Tryz.underlying5 Tryz.underlying9 ((show RSl w 1 v13 1 (bytV [c]) from p13))) fun a' hF' => wpList_nil (fl_end hC hF' (Ext.refl _) rfl)) ?_
  refine fs1 rfl (by
   intro a w Lr hE hC hl
   replace hH := hH.ext hE
   obtain ⟨_, s11, rfl⟩ := hl 11 (by decide) _ rfl
   replace hC := hC.more s11
   obtain ⟨_, s14, rfl⟩ := hl 14 (by decide) _ rfl
   replace hC := hC.more s14
   have hF := hC.fr
   exact zl hF rfl (zr hF rfl rfl (b_sadd _ _ _ (by simp))) fun a' hF' => wpList_nil (fl_end hC hF' (Ext.refl _) rfl)) ?_
  refine fs1 rfl (by
   intro a w Lr hE hC hl
   replace hH := hH.ext hE
   obtain ⟨_, s15, rfl⟩ := hl 15 (by decide) _ rfl
   replace hC := hC.more s15
   have hF := hC.fr
   exact zl hF rfl (r_build hF rfl rfl (bd38_0_1_2_3_4 _ _ _ _ _ _ (rfl) (rfl) (rfl) (rfl) (rfl))) fun a' hF' => wpList_nil (fl_end hC hF' (Ext.refl _) rfl)) ?_
  intro a w hE hF hall
  replace hH := hH.ext hE
  obtain ⟨_, s16, rfl⟩ := hall 16 _ rfl
  replace hF := hF.more s16
  clear hall
  refine ls_storeagg 0 hF hH rfl rfl rfl rfl rfl ti38 rfl (rfl) (rfl) (by simp [Value.oneCell']) ?_
  intro w hH
  refine wpList_nil ?_
  replace hF := hF.sel [6]
  simp only [ss, Nat.reduceBEq] at hF
  refine k1 ?_
  refine wp_ret (hret (retc1 (fn := Tryz.f44) (t := 6) (i := 0) hF hH Tryz.results44 rfl (by kernel_rfl) ti38 rfl rfl ?_))
  exact ⟨rfl, hH.below⟩

/-! ### Messages that are built -/
theorem SZ_of {P : Program} {e size bytes : Nat} (h : TI P e size bytes) (w : World) : (sizeOf e).run P w = .ok size w := by
  obtain ⟨i, z, hi, _, h1, _⟩ := h
  simp [sizeOf, typeInfo, hi, h1]
def hd0 (code : Nat) : Hd := ⟨0, false, 0, false, false, false, false, false, false, false, code⟩
def msgOf (code : Nat) (ans auth : List Rec) : Msg := ⟨hd0 code, [], ans, auth, [], false, ⟨0, 0, 0, 0, []⟩⟩
def nilV : Value := .slice none 0 0
theorem bdm_a (w : World) (ans auth : List Rec) (u : Value) (h : u.oneCell' = true) : (Instr.build 62 #[(2, u)]).run Tryz.prog w = .ok (.agg (msgV (msgOf 0 ans auth) nilV u nilV nilV nilV).toArray) w := by
  obtain ⟨i, hi, hz⟩ := zv62
  unfold Instr.build
  simp [zeroValue, typeInfo, hi, hz, run_underlying Tryz.underlying62, Instr.fill, cells_agg, cells_one h, SZ_of (P := Tryz.prog) (ti_of (e := 56) (size := 11) (bytes := 12) (by kernel_rfl))]
  rfl
theorem bdm_h (w : World) (c : Nat) (ans auth : List Rec) : (Instr.build 62 #[(0, .agg (hdV (hd0 c)).toArray)]).run Tryz.prog w = .ok (.agg (msgV (msgOf c ans auth) nilV nilV nilV nilV nilV).toArray) w := by
  obtain ⟨i, hi, hz⟩ := zv62
  unfold Instr.build
  simp [zeroValue, typeInfo, hi, hz, run_underlying Tryz.underlying62, Instr.fill, cells_agg, hdV, hd0, SZ_of (P := Tryz.prog) (ti_of (e := 56) (size := 11) (bytes := 12) (by kernel_rfl))]
  rfl
theorem bdm_hu (w : World) (c : Nat) (ans auth : List Rec) (u : Value) (h : u.oneCell' = true) : (Instr.build 62 #[(0, .agg (hdV (hd0 c)).toArray), (3, u)]).run Tryz.prog w = .ok (.agg (msgV (msgOf c ans auth) nilV nilV u nilV nilV).toArray) w := by
  obtain ⟨i, hi, hz⟩ := zv62
  unfold Instr.build
  simp [zeroValue, typeInfo, hi, hz, run_underlying Tryz.underlying62, Instr.fill, cells_agg, hdV, hd0, cells_one h, SZ_of (P := Tryz.prog) (ti_of (e := 56) (size := 11) (bytes := 12) (by kernel_rfl))]
  rfl
theorem bdm_ha (w : World) (c : Nat) (ans auth : List Rec) (u : Value) (h : u.oneCell' = true) : (Instr.build 62 #[(0, .agg (hdV (hd0 c)).toArray), (2, u)]).run Tryz.prog w = .ok (.agg (msgV (msgOf c ans auth) nilV u nilV nilV nilV).toArray) w := by
  obtain ⟨i, hi, hz⟩ := zv62
  unfold Instr.build
  simp [zeroValue, typeInfo, hi, hz, run_underlying Tryz.underlying62, Instr.fill, cells_agg, hdV, hd0, cells_one h, SZ_of (P := Tryz.prog) (ti_of (e := 56) (size := 11) (bytes := 12) (by kernel_rfl))]
  rfl

/-- A message's verdict, read. -/
theorem verdOfX {q : Que} {m : Msg} {qv av uv xv ov : Value} {w0 : World} {x : Nat × Verd × Nat} (hx : verdN q.name q.kind q.cls m.hd.code m.ans m.auth = x) (hav : RSl w0 5 av m.ans.length (recsV m.ans)) (huv : RSl w0 5 uv m.auth.length (recsV m.auth)) (hba : RecsB m.ans) (hbu : RecsB m.auth) (hn : q.name.length < 1000000) (hG : GW w0) :
    Rets Tryz.prog 40 [.agg (quV q).toArray, .agg (msgV m qv av uv xv ov).toArray] w0 fun r w' => ∃ sv tv, r = .tuple #[.agg (verdV x.2.1 sv tv).toArray, .int .u32 (x.2.2 : Nat), .int .i64 (x.1 : Nat)] ∧ VerdR w' x.2.1 sv tv ∧ Ext w0 w' :=
  (verdOf_spec q m qv av uv xv ov w0 hav huv hba hbu hn hG).mono fun r w' ⟨sv, tv, e, h⟩ => ⟨sv, tv, by rw [e, hx], by rw [hx] at h; exact h.read.1, h.read.2⟩
def exQ : Que := ⟨[3, 119, 119, 119, 2, 101, 120, 0], 1, 1⟩
def exA : Rec := ⟨[1, 97, 2, 101, 120, 0], 1, 1, 5, [10, 0, 0, 1]⟩
def exB : Rec := ⟨[3, 119, 119, 119, 2, 101, 120, 0], 5, 1, 9, [1, 97, 2, 101, 120, 0]⟩
def exC : Rec := ⟨[3, 119, 119, 119, 2, 101, 120, 0], 1, 1, 5, [10, 0, 0, 1]⟩
def exZ : Rec := zoneR [2, 101, 120, 0] 9 3
def exV1 : Verd := ⟨0, [⟨[3, 119, 119, 119, 2, 101, 120, 0], 5, 1, 0, [[1, 97, 2, 101, 120, 0]]⟩, ⟨[1, 97, 2, 101, 120, 0], 1, 1, 0, [[10, 0, 0, 1]]⟩], []⟩
def exV2 : Verd := ⟨3, [], [⟨[2, 101, 120, 0], 6, 1, 0, [[0, 0] ++ List.replicate 19 0 ++ [3]]⟩]⟩
def exV3 : Verd := ⟨3, [], []⟩
theorem recsB_none : RecsB [] := recsB_of (by decide)
theorem row2 {a b : Rec} {j : Nat} {u : Value} (h : (recV a)[j]? = some u) : (recV a ++ recV b).toArray[0 * 5 + j]? = some u := by
  have := (List.getElem?_eq_some_iff.1 h).1
  rw [Nat.zero_mul, Nat.zero_add]
  simp only [List.getElem?_toArray]
  rw [List.getElem?_append_left this]; exact h
theorem SetsR.none {w : World} {v : Value} (h : SetsR w v []) (w' : World) : SetsR w' v [] := by
  obtain ⟨dvs, hd, ⟨h1, a, c, e, h2, h3, h4⟩, _⟩ := h
  exact ⟨[], rfl, ⟨rfl, a, c, e, h2, h3, h4.imp id fun ⟨b, off, e, _⟩ => ⟨b, off, e, fun j u hu => by simp [setsV] at hu⟩⟩, fun i h => absurd h (by simp)⟩
theorem awake11_spec (w0 : World) (hG : GW w0) : Rets Tryz.prog 39 [] w0 fun v w' => v = .bool true ∧ Ext w0 w' := by
  have hH := Hp.refl w0
  refine rets_start Tryz.func39 rfl Tryz.ntmps39 rfl fun a Q0 hF hret hend => ?_
  simp only [argsFrom, Nat.zero_add, Nat.reduceAdd] at hF
  refine c_sr fun ops => ?_
  refine zm 1 hF rfl fun a hF => ?_
  refine c_n ?_
  replace hF := hF.sel []
  simp only [ss, Nat.reduceBEq] at hF
  refine c_sr fun ops => ?_
  refine zl hF rfl (r_build hF rfl rfl (bd49_0_1_2 _ _ _ _ (rfl) (rfl) (rfl))) fun a hF => ?_
  refine ls_alloc hF hH rfl rfl rfl rfl zv49 ?_
  intro a w g1_1 hH hE hF
  refine ls_storeagg 0 hF hH rfl rfl rfl rfl rfl ti49 rfl (rfl) (rfl) (by simp [Value.oneCell']) ?_
  intro w hH
  refine c_n ?_
  replace hF := hF.sel [1]
  simp only [ss, Nat.reduceBEq] at hF
  simp only [List.set_cons_zero] at hH
  refine c_sr fun ops => ?_
  refine zl hF rfl (r_build hF rfl rfl (bd38_0_1_2_3_4 _ _ _ _ _ _ (rfl) (rfl) (rfl) (rfl) (rfl))) fun a hF => ?_
  refine zl hF rfl (r_build hF rfl rfl (bd38_0_1_2_3_4 _ _ _ _ _ _ (rfl) (rfl) (rfl) (rfl) (rfl))) fun a hF => ?_
  refine ls_buildN (us := [_, _]) hF hH rfl rfl rfl rfl rfl rfl Tryz.underlying34 ti38 (by intro u hu; simp only [List.mem_cons, List.not_mem_nil, or_false] at hu; rcases hu with rfl | rfl <;> rfl) (by decide) ?_
  intro a w g2_2 hH hE hF
  refine zm 1 hF rfl fun a hF => ?_
  refine c_n ?_
  replace hF := hF.sel [1, 2]
  simp only [ss, Nat.reduceBEq] at hF
  have hl2 : RSl w 5 (.slice (some ⟨g2_2, 0, none⟩) 2 2) 2 (recsV [exA, exB]) := rsl_lit (n := 2) (size := 5) hH rfl (by decide)
  refine c_sr fun ops => ?_
  refine zl hF rfl (r_loadagg hF rfl rfl Tryz.underlying49 ti49 rfl (own_agg (i := 1) hH rfl)) fun a hF => ?_
  refine zm 1 hF rfl fun a hF => ?_
  refine zl hF rfl (r_build hF rfl rfl (bdm_a _ [exA, exB] [] _ rfl)) fun a hF => ?_
  refine zc hF rfl rfl fn40 (verdOfX (q := exQ) (m := msgOf 0 [exA, exB] []) (x := (0, exV1, 5)) (by kernel_rfl) hl2 (RSl.nil _ _) (recsB_of (by decide)) recsB_none (by decide) (hG.ext hH.below)) ?_
  rintro _ w ⟨sv1, tv1, rfl, hV1, hE⟩ a hF
  replace hH := hH.ext hE; replace hl2 := hl2.ext hE; obtain ⟨a1, c1, rfl⟩ := hV1.sets.shapeK; obtain ⟨a2, c2, rfl⟩ := hV1.soa.shapeK
  refine zm 4 hF rfl fun a hF => ?_
  refine ls_alloc hF hH rfl rfl rfl rfl zv65 ?_
  intro a w g3_8 hH hE hF
  refine ls_storeagg 0 hF hH rfl rfl rfl rfl rfl ti65 rfl (rfl) (rfl) (by simp [Value.oneCell', verdV]) ?_
  intro w hH
  simp only [List.set_cons_zero] at hH
  refine zm 2 hF rfl fun a hF => ?_
  refine c_n ?_
  replace hF := hF.sel [1, 2, 3, 4, 5]
  simp only [ss, Nat.reduceBEq] at hF
  refine c_seq fun Q1 k1 t1 => ?_
  have hHR := hH
  have hH4 := hH.below
  refine c_flowz [] [0, 1, 2, 3, 4, 5, 6, 7, 10] [8, 9] [11] [12, 13] (by kernel_rfl) (by kernel_rfl) fun hB => ?_
  refine fl_startz [32, 33, 34, 35, 36, 37, 31, 38, 6, 39, 40] hB (by kernel_rfl) hF ?_
  simp only [wo, hasN, Nat.reduceBEq, cond_true, cond_false] at hF ⊢
  refine fs1 rfl (by
   intro a w Lr hE hC hl
   replace hH := hH.ext hE
   have hF := hC.fr
   exact zl hF rfl (r_loadagg hF rfl rfl Tryz.underlying49 ti49 rfl (own_agg (i := 2) hH rfl)) fun a' hF' => wpList_nil (fl_end hC hF' (Ext.refl _) rfl)) ?_
  refine fs1 rfl (by
   intro a w Lr hE hC hl
   replace hH := hH.ext hE
   have hF := hC.fr
   exact zl hF rfl (r_build hF rfl rfl (bd56_10 _ _ (rfl))) fun a' hF' => wpList_nil (fl_end hC hF' (Ext.refl _) rfl)) ?_
  refine fs1 rfl (by
   intro a w Lr hE hC hl
   replace hH := hH.ext hE
   have hF := hC.fr
   refine zc hF rfl rfl fn44 (zone_spec [2, 101, 120, 0] 9 3 3 rfl _) ?_
   rintro _ w' ⟨rfl, hE'⟩ a' hF'
   exact wpList_nil (fl_end hC hF' hE' rfl)) ?_
  refine fsr rfl (by
   intro a w Lr hE hC hl
   replace hH := hH.ext hE
   obtain ⟨_, s34, rfl⟩ := hl 34 (by decide) _ rfl
   replace hC := hC.more s34
   have hF := hC.fr
   refine ls_build1 hF (Hp.refl w) rfl rfl rfl rfl rfl Tryz.underlying34 ti38 rfl (by decide) ?_
   intro a' w' g hH' hE' hF'
   exact wpList_nil (fl_end hC hF' hE' (rsl_lit (n := 1) (size := 5) hH' rfl (by decide)))) ?_
  refine fs (fun v w' => ∃ u, v = .agg (msgV (msgOf 3 [] [exZ]) nilV nilV u nilV nilV).toArray ∧ RSl w' 5 u 1 (recsV [exZ])) rfl (fun _ _ _ he h => let ⟨u, h1, h2⟩ := h; ⟨u, h1, h2.ext he⟩) ?_ ?_
  ·
   intro a w Lr hE hC hl
   replace hH := hH.ext hE
   obtain ⟨_, s33, rfl⟩ := hl 33 (by decide) _ rfl
   replace hC := hC.more s33
   obtain ⟨v35, s35, p35⟩ := hl 35 (by decide) _ rfl
   replace hC := hC.more s35
   have hF := hC.fr
   refine zl hF rfl (r_build hF rfl rfl (bdm_hu _ 3 [] [exZ] _ (by have := p35.shape; obtain ⟨_, _, h⟩ := this; rw [h]; rfl))) fun a' hF' => wpList_nil (fl_end hC hF' (Ext.refl _) ?_)
   exact ⟨v35, rfl, p35⟩
  refine fs (fun v w' => ∃ sv tv, v = .tuple #[.agg (verdV exV2 sv tv).toArray, .int .u32 3, .int .i64 0] ∧ VerdR w' exV2 sv tv) rfl (fun _ _ _ he h => let ⟨s, t, h1, h2⟩ := h; ⟨s, t, h1, h2.ext he⟩) ?_ ?_
  ·
   intro a w Lr hE hC hl
   replace hH := hH.ext hE
   obtain ⟨_, s32, rfl⟩ := hl 32 (by decide) _ rfl
   replace hC := hC.more s32
   obtain ⟨v36, s36, p36⟩ := hl 36 (by decide) _ rfl
   replace hC := hC.more s36
   obtain ⟨u36, rfl, p36'⟩ := p36
   have hF := hC.fr
   refine zc hF rfl rfl fn40 (verdOfX (q := exQ) (m := msgOf 3 [] [exZ]) (x := (0, exV2, 3)) (by kernel_rfl) (RSl.nil _ _) p36' recsB_none (recsB_of (by decide)) (by decide) (hG.ext hH.below)) ?_
   rintro v37 w' ⟨sv, tv, rfl, hV, hE'⟩ a' hF'
   exact wpList_nil (fl_end hC hF' hE' (⟨sv, tv, rfl, hV⟩))
  refine fs (fun v w' => ∃ sv tv, v = .tuple #[.agg (verdV exV2 sv tv).toArray, .int .u32 3, .int .i64 0] ∧ VerdR w' exV2 sv tv) rfl (fun _ _ _ he h => let ⟨s, t, h1, h2⟩ := h; ⟨s, t, h1, h2.ext he⟩) ?_ ?_
  ·
   intro a w Lr hE hC hl
   replace hH := hH.ext hE
   obtain ⟨v37, s37, p37⟩ := hl 37 (by decide) _ rfl
   replace hC := hC.more s37
   have hF := hC.fr
   refine zl hF rfl (r_move hF rfl rfl) fun a' hF' => wpList_nil (fl_end hC hF' (Ext.refl _) ?_)
   exact p37
  refine fs (fun v w' => ∃ sv tv, v = .agg (verdV exV2 sv tv).toArray ∧ VerdR w' exV2 sv tv) rfl (fun _ _ _ he h => let ⟨s, t, h1, h2⟩ := h; ⟨s, t, h1, h2.ext he⟩) ?_ ?_
  ·
   intro a w Lr hE hC hl
   replace hH := hH.ext hE
   obtain ⟨v31, s31, p31⟩ := hl 31 (by decide) _ rfl
   replace hC := hC.more s31
   obtain ⟨sv, tv, rfl, hV⟩ := p31
   have hF := hC.fr
   refine zl hF rfl (r_extract hF rfl rfl rfl) fun a' hF' => wpList_nil (fl_end hC hF' (Ext.refl _) ?_)
   exact ⟨sv, tv, rfl, hV⟩
  refine fs (fun v w' => ∃ (g : Nat) (cs : Array Value), v = ptr g ∧ cs.size = 3 ∧ Hp w w' [(g, .cells cs 65 (0, 0))]) rfl (fun _ _ _ he h => let ⟨g, c, h1, h2, h3⟩ := h; ⟨g, c, h1, h2, h3.ext he⟩) ?_ ?_
  ·
   intro a w Lr hE hC hl
   replace hH := hH.ext hE
   have hF := hC.fr
   refine ls_alloc hF (Hp.refl _) rfl rfl rfl rfl zv65 ?_
   intro a' w' g hH' hE' hF'
   exact wpList_nil (fl_end hC hF' hE' ⟨_, _, rfl, rfl, Hp.base hE hH'⟩)
  refine fy (fun v w' => v = .int .u32 3) rfl (fun _ _ _ _ h => h) ?_ ?_
  ·
   intro a w Lr hE hC hl
   replace hH := hH.ext hE
   obtain ⟨v31, s31, p31⟩ := hl 31 (by decide) _ rfl
   replace hC := hC.more s31
   obtain ⟨sv, tv, rfl, hV⟩ := p31
   have hF := hC.fr
   refine y_of (p := fun v w' => v = .int .u32 3) (w := w) rfl rfl rfl (fun w => r_extract hF rfl rfl rfl) ?_
   exact rfl
  refine fy (fun v w' => v = .int .i64 0) rfl (fun _ _ _ _ h => h) ?_ ?_
  ·
   intro a w Lr hE hC hl
   replace hH := hH.ext hE
   obtain ⟨v31, s31, p31⟩ := hl 31 (by decide) _ rfl
   replace hC := hC.more s31
   obtain ⟨sv, tv, rfl, hV⟩ := p31
   have hF := hC.fr
   refine y_of (p := fun v w' => v = .int .i64 0) (w := w) rfl rfl rfl (fun w => r_extract hF rfl rfl rfl) ?_
   exact rfl
  intro a w hE hF hall
  replace hH := hH.ext hE
  obtain ⟨v31, s31, p31⟩ := hall 31 _ rfl
  replace hF := hF.more s31
  obtain ⟨v38, s38, p38⟩ := hall 38 _ rfl
  replace hF := hF.more s38
  obtain ⟨v6, s6, p6⟩ := hall 6 _ rfl
  replace hF := hF.more s6
  obtain ⟨v39, s39, p39⟩ := hall 39 _ rfl
  replace hF := hF.more s39
  obtain ⟨v40, s40, p40⟩ := hall 40 _ rfl
  replace hF := hF.more s40
  clear hall
  obtain ⟨sv2, tv2, rfl, hV2⟩ := p38
  obtain ⟨g6, cs6, rfl, hcs6, q6⟩ := p6
  obtain rfl := p39
  obtain rfl := p40
  replace hH := hHR.join q6
  simp only [List.cons_append, List.nil_append] at hH
  obtain ⟨a3, c3, rfl⟩ := hV2.sets.shapeK
  obtain ⟨a4, c4, rfl⟩ := hV2.soa.shapeK
  refine ls_storeagg 0 hF hH rfl rfl rfl rfl rfl ti65 rfl (hcs6) (rfl) (by simp [Value.oneCell', verdV]) ?_
  intro w hH
  simp only [List.set_cons_zero] at hH
  refine wpList_nil ?_
  refine ps hF rfl rfl rfl rfl (fun w => r_assign hF rfl rfl) fun a hF => ?_
  refine ps hF rfl rfl rfl rfl (fun w => r_assign hF rfl rfl) fun a hF => ?_
  replace hF := hF.sel [1, 2, 3, 4, 5, 6, 7, 8]
  simp only [ss, Nat.reduceBEq] at hF
  refine k1 ?_
  refine c_sr fun ops => ?_
  refine zl hF rfl (r_loadagg hF rfl rfl Tryz.underlying49 ti49 rfl (own_agg (i := 3) hH rfl)) fun a hF => ?_
  refine zl hF rfl (r_build hF rfl rfl (bd56_10 _ _ (rfl))) fun a hF => ?_
  refine zl hF rfl (r_build hF rfl rfl (bdm_h _ 3 [] [])) fun a hF => ?_
  refine zc hF rfl rfl fn40 (verdOfX (q := exQ) (m := msgOf 3 [] []) (x := (0, exV3, 0)) (by kernel_rfl) (RSl.nil _ _) (RSl.nil _ _) recsB_none recsB_none (by decide) (hG.ext hH.below)) ?_
  rintro _ w ⟨sv3, tv3, rfl, hV3, hE⟩ a hF
  replace hH := hH.ext hE; obtain ⟨a5, c5, rfl⟩ := hV3.sets.shapeK; obtain ⟨a6, c6, rfl⟩ := hV3.soa.shapeK
  refine zm 4 hF rfl fun a hF => ?_
  refine ls_alloc hF hH rfl rfl rfl rfl zv65 ?_
  intro a w g5_8 hH hE hF
  refine ls_storeagg 0 hF hH rfl rfl rfl rfl rfl ti65 rfl (rfl) (rfl) (by simp [Value.oneCell', verdV]) ?_
  intro w hH
  simp only [List.set_cons_zero] at hH
  refine zm 2 hF rfl fun a hF => ?_
  refine c_n ?_
  replace hF := hF.sel [1, 2, 3, 4, 5, 6, 7, 8, 9, 10, 11]
  simp only [ss, Nat.reduceBEq] at hF
  refine c_sr fun ops => ?_
  refine zl hF rfl (r_loadagg hF rfl rfl Tryz.underlying49 ti49 rfl (own_agg (i := 4) hH rfl)) fun a hF => ?_
  refine zl hF rfl (r_build hF rfl rfl (bd56_10 _ _ (rfl))) fun a hF => ?_
  refine zl hF rfl (r_build hF rfl rfl (bdm_h _ 2 [] [])) fun a hF => ?_
  refine zc hF rfl rfl fn40 (verdOfX (q := exQ) (m := msgOf 2 [] []) (x := (1, noVerd, 0)) (by kernel_rfl) (RSl.nil _ _) (RSl.nil _ _) recsB_none recsB_none (by decide) (hG.ext hH.below)) ?_
  rintro _ w ⟨sv4, tv4, rfl, hV4, hE⟩ a hF
  replace hH := hH.ext hE; obtain ⟨a7, c7, rfl⟩ := hV4.sets.shapeK; obtain ⟨a8, c8, rfl⟩ := hV4.soa.shapeK
  refine zm 4 hF rfl fun a hF => ?_
  refine ls_alloc hF hH rfl rfl rfl rfl zv65 ?_
  intro a w g6_8 hH hE hF
  refine ls_storeagg 0 hF hH rfl rfl rfl rfl rfl ti65 rfl (rfl) (rfl) (by simp [Value.oneCell', verdV]) ?_
  intro w hH
  simp only [List.set_cons_zero] at hH
  refine zm 2 hF rfl fun a hF => ?_
  refine c_n ?_
  replace hF := hF.sel [1, 2, 3, 4, 5, 6, 7, 8, 9, 10, 11, 14]
  simp only [ss, Nat.reduceBEq] at hF
  refine c_sr fun ops => ?_
  refine zm 1 hF rfl fun a hF => ?_
  refine zl hF rfl (r_ixown hF 0 rfl rfl rfl Tryz.underlying34 ti38 (by omega)) fun a hF => ?_
  refine zl hF rfl (r_loadagg hF rfl rfl Tryz.underlying38 ti38 rfl (fun j u hu => own_cell (i := 4) hH rfl (row2 (a := exA) (b := exB) hu))) fun a hF => ?_
  refine ls_alloc hF hH rfl rfl rfl rfl zv38 ?_
  intro a w g7_3 hH hE hF
  refine ls_storeagg 0 hF hH rfl rfl rfl rfl rfl ti38 rfl (rfl) (rfl) (by simp [recV, exA, Value.oneCell']) ?_
  intro w hH
  simp only [List.set_cons_zero] at hH
  refine c_n ?_
  replace hF := hF.sel [1, 3, 4, 5, 6, 7, 8, 9, 10, 11, 14, 15]
  simp only [ss, Nat.reduceBEq] at hF
  refine c_sr fun ops => ?_
  refine zl hF rfl (r_fieldaddr0 hF rfl rfl fd49_0) fun a hF => ?_
  refine zl hF rfl (r_load hF rfl rfl fl9 (own_cell (i := 6) hH rfl rfl)) fun a hF => ?_
  refine zl hF rfl (r_fieldaddr0 hF rfl rfl fd38_0) fun a hF => ?_
  refine ls_store 0 hF hH rfl rfl rfl rfl rfl fl9 ti9 rfl (by simp [recV]) (by simp [noFreeze]) (rfl) ?_
  intro w hH
  simp only [List.set_cons_zero] at hH
  refine c_n ?_
  replace hF := hF.sel [1, 3, 4, 5, 6, 7, 8, 9, 10, 11, 14, 15]
  simp only [ss, Nat.reduceBEq] at hF
  refine c_sr fun ops => ?_
  refine zl hF rfl (r_loadagg hF rfl rfl Tryz.underlying49 ti49 rfl (own_agg (i := 6) hH rfl)) fun a hF => ?_
  refine zl hF rfl (r_build hF rfl rfl (bd56_10 _ _ (rfl))) fun a hF => ?_
  refine zl hF rfl (r_loadagg hF rfl rfl Tryz.underlying38 ti38 rfl (own_agg (i := 0) hH rfl)) fun a hF => ?_
  refine ls_build1 hF hH rfl rfl rfl rfl rfl Tryz.underlying34 ti38 rfl (by decide) ?_
  intro a w g9_3 hH hE hF
  have hl9 : RSl w 5 (.slice (some ⟨g9_3, 0, none⟩) 1 1) 1 (recsV [exC]) := rsl_lit (n := 1) (size := 5) hH rfl (by decide)
  refine zl hF rfl (r_build hF rfl rfl (bdm_ha _ 3 [exC] [] _ rfl)) fun a hF => ?_
  refine zc hF rfl rfl fn40 (verdOfX (q := exQ) (m := msgOf 3 [exC] []) (x := (3, noVerd, 0)) (by kernel_rfl) hl9 (RSl.nil _ _) (recsB_of (by decide)) recsB_none (by decide) (hG.ext hH.below)) ?_
  rintro _ w ⟨sv5, tv5, rfl, hV5, hE⟩ a hF
  replace hH := hH.ext hE; obtain ⟨a9, c9, rfl⟩ := hV5.sets.shapeK; obtain ⟨a10, c10, rfl⟩ := hV5.soa.shapeK
  refine zm 4 hF rfl fun a hF => ?_
  refine ls_alloc hF hH rfl rfl rfl rfl zv65 ?_
  intro a w g9_10 hH hE hF
  refine ls_storeagg 0 hF hH rfl rfl rfl rfl rfl ti65 rfl (rfl) (rfl) (by simp [Value.oneCell', verdV]) ?_
  intro w hH
  simp only [List.set_cons_zero] at hH
  refine zm 2 hF rfl fun a hF => ?_
  refine c_n ?_
  replace hF := hF.sel [3, 4, 5, 6, 7, 8, 9, 10, 11, 14, 18]
  simp only [ss, Nat.reduceBEq] at hF
  refine c_sg ?_
  refine zm 1 hF rfl fun a hF => ?_
  refine zb hF rfl rfl rfl (b_eqn _ _ _ 0) fun a hF => ?_
  refine zm 1 hF rfl fun a hF => ?_
  refine l_ask (d := 75) hF rfl (fun g10_2 => ?_) (fun g10_2 => ?_)
  ·
   have g10_2' := g10_2; try simp only [qq] at g10_2'
   exact absurd g10_2 (by decide)
  have g10_2' := g10_2; try simp only [qq] at g10_2'
  refine zy hF rfl g10_2 (r_fieldaddr0 hF rfl rfl fd65_0) fun a hF => ?_
  refine zy hF rfl g10_2 (r_load hF rfl rfl fl5 (own_cell (i := 6) hH rfl rfl)) fun a hF => ?_
  refine zy hF rfl g10_2 (zr hF rfl rfl (b_eqn _ _ _ 0)) fun a hF => ?_
  refine zl hF rfl (r_pickt hF rfl rfl g10_2 rfl) fun a hF => ?_
  refine zm 1 hF rfl fun a hF => ?_
  refine l_ask (d := 80) hF rfl (fun g10_7 => ?_) (fun g10_7 => ?_)
  ·
   have g10_7' := g10_7; try simp only [qq] at g10_7'
   exact absurd g10_7 (by decide)
  have g10_7' := g10_7; try simp only [qq] at g10_7'
  refine zy hF rfl g10_7 (r_fieldaddr0 hF rfl rfl fd65_1) fun a hF => ?_
  refine zy hF rfl g10_7 (r_load hF rfl rfl fl22 (own_cell (i := 6) hH rfl rfl)) fun a hF => ?_
  refine zy hF rfl g10_7 (r_len_sl hF rfl rfl Tryz.underlying22) fun a hF => ?_
  refine zy hF rfl g10_7 (zr hF rfl rfl (b_eqn _ _ _ 2)) fun a hF => ?_
  refine zl hF rfl (r_pickt hF rfl rfl g10_7 rfl) fun a hF => ?_
  refine zm 1 hF rfl fun a hF => ?_
  refine l_ask (d := 86) hF rfl (fun g10_13 => ?_) (fun g10_13 => ?_)
  ·
   have g10_13' := g10_13; try simp only [qq] at g10_13'
   exact absurd g10_13 (by decide)
  have g10_13' := g10_13; try simp only [qq] at g10_13'
  refine zy hF rfl g10_13 (r_fieldaddr0 hF rfl rfl fd65_2) fun a hF => ?_
  refine zy hF rfl g10_13 (r_load hF rfl rfl fl22 (own_cell (i := 6) hH rfl rfl)) fun a hF => ?_
  refine zy hF rfl g10_13 (r_len_sl hF rfl rfl Tryz.underlying22) fun a hF => ?_
  refine zy hF rfl g10_13 (zr hF rfl rfl (b_eqn _ _ _ 0)) fun a hF => ?_
  refine zl hF rfl (r_pickt hF rfl rfl g10_13 rfl) fun a hF => ?_
  refine zm 1 hF rfl fun a hF => ?_
  refine l_ask (d := 92) hF rfl (fun g10_19 => ?_) (fun g10_19 => ?_)
  ·
   have g10_19' := g10_19; try simp only [qq] at g10_19'
   exact absurd g10_19 (by decide)
  have g10_19' := g10_19; try simp only [qq] at g10_19'
  refine zy hF rfl g10_19 (r_move hF rfl rfl) fun a hF => ?_
  refine zy hF rfl g10_19 (zr hF rfl rfl (b_eqn _ _ _ 5)) fun a hF => ?_
  refine zl hF rfl (r_pickt hF rfl rfl g10_19 rfl) fun a hF => ?_
  refine zm 1 hF rfl fun a hF => ?_
  refine l_ask (d := 96) hF rfl (fun g10_23 => ?_) (fun g10_23 => ?_)
  ·
   have g10_23' := g10_23; try simp only [qq] at g10_23'
   exact absurd g10_23 (by decide)
  have g10_23' := g10_23; try simp only [qq] at g10_23'
  refine zy hF rfl g10_23 (r_move hF rfl rfl) fun a hF => ?_
  refine zy hF rfl g10_23 (zr hF rfl rfl (b_eqn _ _ _ 0)) fun a hF => ?_
  refine zl hF rfl (r_pickt hF rfl rfl g10_23 rfl) fun a hF => ?_
  refine zm 1 hF rfl fun a hF => ?_
  refine l_ask (d := 100) hF rfl (fun g10_27 => ?_) (fun g10_27 => ?_)
  ·
   have g10_27' := g10_27; try simp only [qq] at g10_27'
   exact absurd g10_27 (by decide)
  have g10_27' := g10_27; try simp only [qq] at g10_27'
  refine zy hF rfl g10_27 (r_fieldaddr0 hF rfl rfl fd65_1) fun a hF => ?_
  refine zy hF rfl g10_27 (r_load hF rfl rfl fl22 (own_cell (i := 5) hH rfl rfl)) fun a hF => ?_
  refine zy hF rfl g10_27 (r_len_sl hF rfl rfl Tryz.underlying22) fun a hF => ?_
  refine zy hF rfl g10_27 (zr hF rfl rfl (b_eqn _ _ _ 0)) fun a hF => ?_
  refine zl hF rfl (r_pickt hF rfl rfl g10_27 rfl) fun a hF => ?_
  refine zm 1 hF rfl fun a hF => ?_
  refine l_ask (d := 106) hF rfl (fun g10_33 => ?_) (fun g10_33 => ?_)
  ·
   have g10_33' := g10_33; try simp only [qq] at g10_33'
   exact absurd g10_33 (by decide)
  have g10_33' := g10_33; try simp only [qq] at g10_33'
  refine zy hF rfl g10_33 (r_fieldaddr0 hF rfl rfl fd65_2) fun a hF => ?_
  refine zy hF rfl g10_33 (r_load hF rfl rfl fl22 (own_cell (i := 5) hH rfl rfl)) fun a hF => ?_
  refine zy hF rfl g10_33 (r_len_sl hF rfl rfl Tryz.underlying22) fun a hF => ?_
  refine zy hF rfl g10_33 (zr hF rfl rfl (b_eqn _ _ _ 1)) fun a hF => ?_
  refine zl hF rfl (r_pickt hF rfl rfl g10_33 rfl) fun a hF => ?_
  refine zm 1 hF rfl fun a hF => ?_
  refine l_ask (d := 112) hF rfl (fun g10_39 => ?_) (fun g10_39 => ?_)
  ·
   have g10_39' := g10_39; try simp only [qq] at g10_39'
   exact absurd g10_39 (by decide)
  have g10_39' := g10_39; try simp only [qq] at g10_39'
  refine zy hF rfl g10_39 (r_move hF rfl rfl) fun a hF => ?_
  refine zy hF rfl g10_39 (zr hF rfl rfl (b_eqn _ _ _ 3)) fun a hF => ?_
  refine zl hF rfl (r_pickt hF rfl rfl g10_39 rfl) fun a hF => ?_
  refine zm 1 hF rfl fun a hF => ?_
  refine l_ask (d := 116) hF rfl (fun g10_43 => ?_) (fun g10_43 => ?_)
  ·
   have g10_43' := g10_43; try simp only [qq] at g10_43'
   exact absurd g10_43 (by decide)
  have g10_43' := g10_43; try simp only [qq] at g10_43'
  refine zy hF rfl g10_43 (r_move hF rfl rfl) fun a hF => ?_
  refine zy hF rfl g10_43 (zr hF rfl rfl (b_eqn _ _ _ 0)) fun a hF => ?_
  refine zl hF rfl (r_pickt hF rfl rfl g10_43 rfl) fun a hF => ?_
  refine zm 1 hF rfl fun a hF => ?_
  refine l_ask (d := 120) hF rfl (fun g10_47 => ?_) (fun g10_47 => ?_)
  ·
   have g10_47' := g10_47; try simp only [qq] at g10_47'
   exact absurd g10_47 (by decide)
  have g10_47' := g10_47; try simp only [qq] at g10_47'
  refine zy hF rfl g10_47 (r_move hF rfl rfl) fun a hF => ?_
  refine zy hF rfl g10_47 (zr hF rfl rfl (b_eqn _ _ _ 0)) fun a hF => ?_
  refine zl hF rfl (r_pickt hF rfl rfl g10_47 rfl) fun a hF => ?_
  refine zm 1 hF rfl fun a hF => ?_
  refine l_ask (d := 124) hF rfl (fun g10_51 => ?_) (fun g10_51 => ?_)
  ·
   have g10_51' := g10_51; try simp only [qq] at g10_51'
   exact absurd g10_51 (by decide)
  have g10_51' := g10_51; try simp only [qq] at g10_51'
  refine zy hF rfl g10_51 (r_loadagg hF rfl rfl Tryz.underlying65 ti65 rfl (own_agg (i := 4) hH rfl)) fun a hF => ?_
  refine zyc hF rfl g10_51 rfl fn46 (key_spec exV3 _ _ _ ⟨hV3.sets.none _, hV3.soa.none _⟩ ⟨by decide, by decide, by decide, by simp [exV3], by simp [exV3], by decide, by decide⟩) ?_
  rintro _ w ⟨rfl, hE⟩ a hF
  replace hH := hH.ext hE
  refine zy hF rfl g10_51 (zr hF rfl rfl (b_seq _ _ [3, 0, 0])) fun a hF => ?_
  refine zl hF rfl (r_pickt hF rfl rfl g10_51 rfl) fun a hF => ?_
  refine zm 1 hF rfl fun a hF => ?_
  refine l_ask (d := 129) hF rfl (fun g10_56 => ?_) (fun g10_56 => ?_)
  ·
   have g10_56' := g10_56; try simp only [qq] at g10_56'
   exact absurd g10_56 (by decide)
  have g10_56' := g10_56; try simp only [qq] at g10_56'
  refine zy hF rfl g10_56 (r_move hF rfl rfl) fun a hF => ?_
  refine zy hF rfl g10_56 (zr hF rfl rfl (b_eqn _ _ _ 1)) fun a hF => ?_
  refine zl hF rfl (r_pickt hF rfl rfl g10_56 rfl) fun a hF => ?_
  refine zm 1 hF rfl fun a hF => ?_
  refine l_ask (d := 133) hF rfl (fun g10_60 => ?_) (fun g10_60 => ?_)
  ·
   have g10_60' := g10_60; try simp only [qq] at g10_60'
   exact absurd g10_60 (by decide)
  have g10_60' := g10_60; try simp only [qq] at g10_60'
  refine zy hF rfl g10_60 (r_move hF rfl rfl) fun a hF => ?_
  refine zy hF rfl g10_60 (zr hF rfl rfl (b_eqn _ _ _ 3)) fun a hF => ?_
  refine zl hF rfl (r_pickt hF rfl rfl g10_60 rfl) fun a hF => ?_
  refine zm 1 hF rfl fun a hF => ?_
  refine c_n ?_
  replace hF := hF.sel [0]
  simp only [ss, Nat.reduceBEq] at hF
  refine wp_ret (hret (ret1 hF Tryz.results39 rfl ?_))
  exact ⟨by simp, hH.below⟩
end Go.Proofs.YtcelgjabccgnmaaGreatDoor
