/-
  The walks of package rrset. Nothing is claimed here.
-/
import Derived.Test.YtcelgjabccgnmaaGreatDoorRef5
namespace Go.Proofs.YtcelgjabccgnmaaGreatDoor
open Go.RowKit
set_option linter.unusedVariables false
set_option linter.unusedSimpArgs false
set_option maxHeartbeats 1000000

/-- A record's cells; a set's, its data in a slice. -/
def recV (r : Rec) : List Value := [.string (mk r.name), .int .u16 r.kind, .int .u16 r.cls, .int .u32 r.ttl, .string (mk r.data)]
def setV (s : RSet) (dv : Value) : List Value := [.string (mk s.name), .int .u16 s.kind, .int .u16 s.cls, .int .u32 s.ttl, dv]

theorem time_spec (n : Nat) (w0 : World) : Rets Tryz.prog 92 [.int .u32 n] w0 fun v w' => v = .int .u32 (timeN n) ∧ Ext w0 w' := by
  have hH := Hp.refl w0
  refine rets_start Tryz.func92 rfl Tryz.ntmps92 rfl fun a Q0 hF hret hend => ?_
  simp only [argsFrom, Nat.zero_add, Nat.reduceAdd] at hF
  refine c_sr fun ops => ?_
  refine zm 1 hF rfl fun a hF => ?_
  refine c_n ?_
  replace hF := hF.sel [0]
  simp only [ss, Nat.reduceBEq] at hF
  refine c_seq fun Q1 k1 t1 => ?_
  refine c_sr fun ops => ?_
  refine zm 1 hF rfl fun a hF => ?_
  refine zb hF rfl rfl rfl (b_gtn _ _ _ 2147483647) fun a hF => ?_
  refine c_n ?_
  replace hF := hF.sel [0, 4]
  simp only [ss, Nat.reduceBEq] at hF
  refine c_if hF rfl (fun h4 => ?_) (fun h4 => ?_)
  ·
   try simp only [qq] at h4
   refine c_sr fun ops => ?_
   refine zm 1 hF rfl fun a hF => ?_
   refine c_n ?_
   replace hF := hF.sel [2]
   simp only [ss, Nat.reduceBEq] at hF
   refine wp_ret (t1.ret (hret (ret1 hF Tryz.results92 rfl ?_)))
   exact ⟨by rw [timeN, if_pos (by omega)]; rfl, hH.below⟩
  try simp only [qq] at h4
  refine wp_skip ?_
  refine k1 ?_
  refine c_sr fun ops => ?_
  refine zm 2 hF rfl fun a hF => ?_
  refine c_n ?_
  replace hF := hF.sel [2]
  simp only [ss, Nat.reduceBEq] at hF
  refine wp_ret (hret (ret1 hF Tryz.results92 rfl ?_))
  exact ⟨by rw [timeN, if_neg (by omega)], hH.below⟩

theorem order_spec (x y : RSet) (da db : Value) (h1 : x.name.length < 1000000) (h2 : y.name.length < 1000000) (w0 : World) : Rets Tryz.prog 60 [.agg (setV x da).toArray, .agg (setV y db).toArray] w0 fun v w' => v = .int .i64 (scmp x y) ∧ Ext w0 w' := by
  have hH := Hp.refl w0
  refine rets_start Tryz.func60 rfl Tryz.ntmps60 rfl fun a Q0 hF hret hend => ?_
  simp only [argsFrom, Nat.zero_add, Nat.reduceAdd] at hF
  refine c_sr fun ops => ?_
  refine ls_box hF hH rfl rfl rfl rfl rfl ?_
  intro a w g0_0 hH hE hF
  refine ls_box hF hH rfl rfl rfl rfl rfl ?_
  intro a w g0_1 hH hE hF
  refine zm 1 hF rfl fun a hF => ?_
  refine c_n ?_
  replace hF := hF.sel [2, 3]
  simp only [ss, Nat.reduceBEq] at hF
  refine c_seq fun Q1 k1 t1 => ?_
  refine c_flow [0, 2, 5, 7, 10, 12] [1, 3, 4, 6, 8, 9, 11, 13, 14, 15, 16, 17] [] [] (by kernel_rfl) (by kernel_rfl) fun hB => ?_
  refine ps hF rfl rfl rfl rfl (fun w => r_fieldaddr0 hF rfl rfl fd27_0) fun a hF => ?_
  refine ps hF rfl rfl rfl rfl (fun w => r_fieldaddr0 hF rfl rfl fd27_0) fun a hF => ?_
  refine ps hF rfl rfl rfl rfl (fun w => r_fieldaddr0 hF rfl rfl fd27_1) fun a hF => ?_
  refine ps hF rfl rfl rfl rfl (fun w => r_fieldaddr0 hF rfl rfl fd27_1) fun a hF => ?_
  refine ps hF rfl rfl rfl rfl (fun w => r_fieldaddr0 hF rfl rfl fd27_2) fun a hF => ?_
  refine ps hF rfl rfl rfl rfl (fun w => r_fieldaddr0 hF rfl rfl fd27_2) fun a hF => ?_
  refine fl_start [6, 8, 9, 11, 13, 14, 16, 18, 19, 20, 21, 4] hB (by kernel_rfl) hF ?_
  simp only [wo, hasN, Nat.reduceBEq, cond_true, cond_false] at hF ⊢
  refine fs1 rfl (by
   intro a w Lr hE hC hl
   replace hH := hH.ext hE
   have hF := hC.fr
   exact zl hF rfl (r_load hF rfl rfl fl9 (own_cell (i := 1) hH rfl rfl)) fun a' hF' => wpList_nil (fl_end hC hF' (Ext.refl _) rfl)) ?_
  refine fs1 rfl (by
   intro a w Lr hE hC hl
   replace hH := hH.ext hE
   have hF := hC.fr
   exact zl hF rfl (r_load hF rfl rfl fl9 (own_cell (i := 0) hH rfl rfl)) fun a' hF' => wpList_nil (fl_end hC hF' (Ext.refl _) rfl)) ?_
  refine fs1 rfl (by
   intro a w Lr hE hC hl
   replace hH := hH.ext hE
   obtain ⟨_, s6, rfl⟩ := hl 6 (by decide) _ rfl
   replace hC := hC.more s6
   obtain ⟨_, s8, rfl⟩ := hl 8 (by decide) _ rfl
   replace hC := hC.more s8
   have hF := hC.fr
   refine zc hF rfl rfl fn94 (ncompare_spec _ _ h1 h2 _) ?_
   rintro _ w' ⟨rfl, hE'⟩ a' hF'
   exact wpList_nil (fl_end hC hF' hE' rfl)) ?_
  refine fs1 rfl (by
   intro a w Lr hE hC hl
   replace hH := hH.ext hE
   have hF := hC.fr
   exact zl hF rfl (r_load hF rfl rfl fl23 (own_cell (i := 1) hH rfl rfl)) fun a' hF' => wpList_nil (fl_end hC hF' (Ext.refl _) rfl)) ?_
  refine fs1 rfl (by
   intro a w Lr hE hC hl
   replace hH := hH.ext hE
   have hF := hC.fr
   exact zl hF rfl (r_load hF rfl rfl fl23 (own_cell (i := 0) hH rfl rfl)) fun a' hF' => wpList_nil (fl_end hC hF' (Ext.refl _) rfl)) ?_
  refine fs1 rfl (by
   intro a w Lr hE hC hl
   replace hH := hH.ext hE
   obtain ⟨_, s11, rfl⟩ := hl 11 (by decide) _ rfl
   replace hC := hC.more s11
   obtain ⟨_, s13, rfl⟩ := hl 13 (by decide) _ rfl
   replace hC := hC.more s13
   have hF := hC.fr
   refine zc hF rfl rfl fn95 (cmpu_spec _ _ _) ?_
   rintro _ w' ⟨rfl, hE'⟩ a' hF'
   exact wpList_nil (fl_end hC hF' hE' rfl)) ?_
  refine fs1 rfl (by
   intro a w Lr hE hC hl
   replace hH := hH.ext hE
   have hF := hC.fr
   exact zl hF rfl (r_load hF rfl rfl fl23 (own_cell (i := 1) hH rfl rfl)) fun a' hF' => wpList_nil (fl_end hC hF' (Ext.refl _) rfl)) ?_
  refine fs1 rfl (by
   intro a w Lr hE hC hl
   replace hH := hH.ext hE
   have hF := hC.fr
   exact zl hF rfl (r_load hF rfl rfl fl23 (own_cell (i := 0) hH rfl rfl)) fun a' hF' => wpList_nil (fl_end hC hF' (Ext.refl _) rfl)) ?_
  refine fs1 rfl (by
   intro a w Lr hE hC hl
   replace hH := hH.ext hE
   obtain ⟨_, s16, rfl⟩ := hl 16 (by decide) _ rfl
   replace hC := hC.more s16
   obtain ⟨_, s18, rfl⟩ := hl 18 (by decide) _ rfl
   replace hC := hC.more s18
   have hF := hC.fr
   refine zc hF rfl rfl fn95 (cmpu_spec _ _ _) ?_
   rintro _ w' ⟨rfl, hE'⟩ a' hF'
   exact wpList_nil (fl_end hC hF' hE' rfl)) ?_
  refine fsr rfl (by
   intro a w Lr hE hC hl
   replace hH := hH.ext hE
   obtain ⟨_, s9, rfl⟩ := hl 9 (by decide) _ rfl
   replace hC := hC.more s9
   obtain ⟨_, s14, rfl⟩ := hl 14 (by decide) _ rfl
   replace hC := hC.more s14
   obtain ⟨_, s19, rfl⟩ := hl 19 (by decide) _ rfl
   replace hC := hC.more s19
   have hF := hC.fr
   refine ls_buildN (us := [_, _, _]) hF (Hp.refl w) rfl rfl rfl rfl rfl rfl Tryz.underlying168 ti3 (by intro u hu; simp only [List.mem_cons, List.not_mem_nil, or_false] at hu; rcases hu with rfl | rfl | rfl <;> rfl) (by decide) ?_
   intro a' w' g hH' hE' hF'
   exact wpList_nil (fl_end hC hF' hE' (by exact (show RSl _ 1 _ 3 ([ncmp x.name y.name, icmp x.kind y.kind, icmp x.cls y.cls].map fun z => .int .i64 z) from rsl_lit (n := 3) (size := 1) hH' rfl (by decide))))) ?_
  refine fs1 rfl (by
   intro a w Lr hE hC hl
   replace hH := hH.ext hE
   obtain ⟨v20, s20, p20⟩ := hl 20 (by decide) _ rfl
   replace hC := hC.more s20
   have hF := hC.fr
   refine zc hF rfl rfl fn93 (or_spec p20 (by decide)) ?_
   rintro _ w' ⟨rfl, hE'⟩ a' hF'
   exact wpList_nil (fl_end hC hF' hE' rfl)) ?_
  refine fs1 rfl (by
   intro a w Lr hE hC hl
   replace hH := hH.ext hE
   obtain ⟨_, s21, rfl⟩ := hl 21 (by decide) _ rfl
   replace hC := hC.more s21
   have hF := hC.fr
   exact zl hF rfl (r_assign hF rfl rfl) fun a' hF' => wpList_nil (fl_end hC hF' (Ext.refl _) rfl)) ?_
  intro a w hE hF hall
  replace hH := hH.ext hE
  obtain ⟨_, s4, rfl⟩ := hall 4 _ rfl
  replace hF := hF.more s4
  clear hall
  refine wpList_nil ?_
  replace hF := hF.sel [4]
  simp only [ss, Nat.reduceBEq] at hF
  refine k1 ?_
  refine wp_ret (hret (ret1 hF Tryz.results60 rfl ?_))
  exact ⟨rfl, hH.below⟩

theorem same_set_spec (x y : RSet) (da db : Value) (w0 : World) (ha : RSl w0 1 da x.data.length (strV x.data)) (hb : RSl w0 1 db y.data.length (strV y.data)) (hx : x.data.length < 1000000) (hy : y.data.length < 1000000) :
    Rets Tryz.prog 21 [.agg (setV x da).toArray, .agg (setV y db).toArray] w0 fun v w' => v = .bool (sameS x y) ∧ Ext w0 w' := by
  have hH := Hp.refl w0
  refine rets_start Tryz.func21 rfl Tryz.ntmps21 rfl fun a Q0 hF hret hend => ?_
  simp only [argsFrom, Nat.zero_add, Nat.reduceAdd] at hF
  refine c_sr fun ops => ?_
  refine ls_box hF hH rfl rfl rfl rfl rfl ?_
  intro a w g0_0 hH hE hF
  refine ls_box hF hH rfl rfl rfl rfl rfl ?_
  intro a w g0_1 hH hE hF
  refine zm 1 hF rfl fun a hF => ?_
  refine c_n ?_
  replace hF := hF.sel [2, 3]
  simp only [ss, Nat.reduceBEq] at hF
  refine c_sg ?_
  refine zl hF rfl (r_fieldaddr0 hF rfl rfl fd27_0) fun a hF => ?_
  refine zl hF rfl (r_load hF rfl rfl fl9 (own_cell (i := 1) hH rfl rfl)) fun a hF => ?_
  refine zl hF rfl (r_fieldaddr0 hF rfl rfl fd27_0) fun a hF => ?_
  refine zl hF rfl (r_load hF rfl rfl fl9 (own_cell (i := 0) hH rfl rfl)) fun a hF => ?_
  refine zb hF rfl rfl rfl (b_seq _ _ _) fun a hF => ?_
  refine zm 1 hF rfl fun a hF => ?_
  refine l_ask (d := 10) hF rfl (fun g1_5 => ?_) (fun g1_5 => ?_)
  ·
   have g1_5' := g1_5; try simp only [qq] at g1_5'
   refine zn hF rfl g1_5 fun a hF => ?_
   refine zn hF rfl g1_5 fun a hF => ?_
   refine zn hF rfl g1_5 fun a hF => ?_
   refine zn hF rfl g1_5 fun a hF => ?_
   refine zn hF rfl g1_5 fun a hF => ?_
   refine zl hF rfl (r_pickf hF rfl rfl g1_5 rfl) fun a hF => ?_
   refine zm 1 hF rfl fun a hF => ?_
   refine zn hF rfl rfl fun a hF => ?_
   refine zn hF rfl rfl fun a hF => ?_
   refine zn hF rfl rfl fun a hF => ?_
   refine zn hF rfl rfl fun a hF => ?_
   refine zn hF rfl rfl fun a hF => ?_
   refine zl hF rfl (r_pickf hF rfl rfl rfl rfl) fun a hF => ?_
   refine zm 1 hF rfl fun a hF => ?_
   refine zn hF rfl rfl fun a hF => ?_
   refine zn hF rfl rfl fun a hF => ?_
   refine zn hF rfl rfl fun a hF => ?_
   refine zn hF rfl rfl fun a hF => ?_
   refine zn hF rfl rfl fun a hF => ?_
   refine zl hF rfl (r_pickf hF rfl rfl rfl rfl) fun a hF => ?_
   refine zm 1 hF rfl fun a hF => ?_
   refine zn hF rfl rfl fun a hF => ?_
   refine zn hF rfl rfl fun a hF => ?_
   refine zn hF rfl rfl fun a hF => ?_
   refine zn hF rfl rfl fun a hF => ?_
   refine zn hF rfl rfl fun a hF => ?_
   refine zl hF rfl (r_pickf hF rfl rfl rfl rfl) fun a hF => ?_
   refine zm 1 hF rfl fun a hF => ?_
   refine c_n ?_
   replace hF := hF.sel [4]
   simp only [ss, Nat.reduceBEq] at hF
   refine wp_ret (hret (ret1 hF Tryz.results21 rfl ?_))
   refine ⟨?_, hH.below⟩
   simp_all [sameS]
  have g1_5' := g1_5; try simp only [qq] at g1_5'
  refine zy hF rfl g1_5 (r_fieldaddr0 hF rfl rfl fd27_1) fun a hF => ?_
  refine zy hF rfl g1_5 (r_load hF rfl rfl fl23 (own_cell (i := 1) hH rfl rfl)) fun a hF => ?_
  refine zy hF rfl g1_5 (r_fieldaddr0 hF rfl rfl fd27_1) fun a hF => ?_
  refine zy hF rfl g1_5 (r_load hF rfl rfl fl23 (own_cell (i := 0) hH rfl rfl)) fun a hF => ?_
  refine zy hF rfl g1_5 (zr hF rfl rfl (b_eqn _ _ _ _)) fun a hF => ?_
  refine zl hF rfl (r_pickt hF rfl rfl g1_5 rfl) fun a hF => ?_
  refine zm 1 hF rfl fun a hF => ?_
  refine l_ask (d := 17) hF rfl (fun g1_12 => ?_) (fun g1_12 => ?_)
  ·
   have g1_12' := g1_12; try simp only [qq] at g1_12'
   refine zn hF rfl g1_12 fun a hF => ?_
   refine zn hF rfl g1_12 fun a hF => ?_
   refine zn hF rfl g1_12 fun a hF => ?_
   refine zn hF rfl g1_12 fun a hF => ?_
   refine zn hF rfl g1_12 fun a hF => ?_
   refine zl hF rfl (r_pickf hF rfl rfl g1_12 rfl) fun a hF => ?_
   refine zm 1 hF rfl fun a hF => ?_
   refine zn hF rfl rfl fun a hF => ?_
   refine zn hF rfl rfl fun a hF => ?_
   refine zn hF rfl rfl fun a hF => ?_
   refine zn hF rfl rfl fun a hF => ?_
   refine zn hF rfl rfl fun a hF => ?_
   refine zl hF rfl (r_pickf hF rfl rfl rfl rfl) fun a hF => ?_
   refine zm 1 hF rfl fun a hF => ?_
   refine zn hF rfl rfl fun a hF => ?_
   refine zn hF rfl rfl fun a hF => ?_
   refine zn hF rfl rfl fun a hF => ?_
   refine zn hF rfl rfl fun a hF => ?_
   refine zn hF rfl rfl fun a hF => ?_
   refine zl hF rfl (r_pickf hF rfl rfl rfl rfl) fun a hF => ?_
   refine zm 1 hF rfl fun a hF => ?_
   refine c_n ?_
   replace hF := hF.sel [4]
   simp only [ss, Nat.reduceBEq] at hF
   refine wp_ret (hret (ret1 hF Tryz.results21 rfl ?_))
   refine ⟨?_, hH.below⟩
   simp_all [sameS]
  have g1_12' := g1_12; try simp only [qq] at g1_12'
  refine zy hF rfl g1_12 (r_fieldaddr0 hF rfl rfl fd27_2) fun a hF => ?_
  refine zy hF rfl g1_12 (r_load hF rfl rfl fl23 (own_cell (i := 1) hH rfl rfl)) fun a hF => ?_
  refine zy hF rfl g1_12 (r_fieldaddr0 hF rfl rfl fd27_2) fun a hF => ?_
  refine zy hF rfl g1_12 (r_load hF rfl rfl fl23 (own_cell (i := 0) hH rfl rfl)) fun a hF => ?_
  refine zy hF rfl g1_12 (zr hF rfl rfl (b_eqn _ _ _ _)) fun a hF => ?_
  refine zl hF rfl (r_pickt hF rfl rfl g1_12 rfl) fun a hF => ?_
  refine zm 1 hF rfl fun a hF => ?_
  refine l_ask (d := 24) hF rfl (fun g1_19 => ?_) (fun g1_19 => ?_)
  ·
   have g1_19' := g1_19; try simp only [qq] at g1_19'
   refine zn hF rfl g1_19 fun a hF => ?_
   refine zn hF rfl g1_19 fun a hF => ?_
   refine zn hF rfl g1_19 fun a hF => ?_
   refine zn hF rfl g1_19 fun a hF => ?_
   refine zn hF rfl g1_19 fun a hF => ?_
   refine zl hF rfl (r_pickf hF rfl rfl g1_19 rfl) fun a hF => ?_
   refine zm 1 hF rfl fun a hF => ?_
   refine zn hF rfl rfl fun a hF => ?_
   refine zn hF rfl rfl fun a hF => ?_
   refine zn hF rfl rfl fun a hF => ?_
   refine zn hF rfl rfl fun a hF => ?_
   refine zn hF rfl rfl fun a hF => ?_
   refine zl hF rfl (r_pickf hF rfl rfl rfl rfl) fun a hF => ?_
   refine zm 1 hF rfl fun a hF => ?_
   refine c_n ?_
   replace hF := hF.sel [4]
   simp only [ss, Nat.reduceBEq] at hF
   refine wp_ret (hret (ret1 hF Tryz.results21 rfl ?_))
   refine ⟨?_, hH.below⟩
   simp_all [sameS]
  have g1_19' := g1_19; try simp only [qq] at g1_19'
  refine zy hF rfl g1_19 (r_fieldaddr0 hF rfl rfl fd27_3) fun a hF => ?_
  refine zy hF rfl g1_19 (r_load hF rfl rfl fl24 (own_cell (i := 1) hH rfl rfl)) fun a hF => ?_
  refine zy hF rfl g1_19 (r_fieldaddr0 hF rfl rfl fd27_3) fun a hF => ?_
  refine zy hF rfl g1_19 (r_load hF rfl rfl fl24 (own_cell (i := 0) hH rfl rfl)) fun a hF => ?_
  refine zy hF rfl g1_19 (zr hF rfl rfl (b_eqn _ _ _ _)) fun a hF => ?_
  refine zl hF rfl (r_pickt hF rfl rfl g1_19 rfl) fun a hF => ?_
  refine zm 1 hF rfl fun a hF => ?_
  refine l_ask (d := 31) hF rfl (fun g1_26 => ?_) (fun g1_26 => ?_)
  ·
   have g1_26' := g1_26; try simp only [qq] at g1_26'
   refine zn hF rfl g1_26 fun a hF => ?_
   refine zn hF rfl g1_26 fun a hF => ?_
   refine zn hF rfl g1_26 fun a hF => ?_
   refine zn hF rfl g1_26 fun a hF => ?_
   refine zn hF rfl g1_26 fun a hF => ?_
   refine zl hF rfl (r_pickf hF rfl rfl g1_26 rfl) fun a hF => ?_
   refine zm 1 hF rfl fun a hF => ?_
   refine c_n ?_
   replace hF := hF.sel [4]
   simp only [ss, Nat.reduceBEq] at hF
   refine wp_ret (hret (ret1 hF Tryz.results21 rfl ?_))
   refine ⟨?_, hH.below⟩
   simp_all [sameS]
  have g1_26' := g1_26; try simp only [qq] at g1_26'
  refine zy hF rfl g1_26 (r_fieldaddr0 hF rfl rfl fd27_4) fun a hF => ?_
  refine zy hF rfl g1_26 (r_load hF rfl rfl fl25 (own_cell (i := 1) hH rfl rfl)) fun a hF => ?_
  refine zy hF rfl g1_26 (r_fieldaddr0 hF rfl rfl fd27_4) fun a hF => ?_
  refine zy hF rfl g1_26 (r_load hF rfl rfl fl25 (own_cell (i := 0) hH rfl rfl)) fun a hF => ?_
  refine zyc hF rfl g1_26 rfl fn55 (equal_spec (ha.ext hH.below) (hb.ext hH.below) hx hy) ?_
  rintro _ w ⟨rfl, hE⟩ a hF
  replace hH := hH.ext hE
  refine zl hF rfl (r_pickt hF rfl rfl g1_26 rfl) fun a hF => ?_
  refine zm 1 hF rfl fun a hF => ?_
  refine c_n ?_
  replace hF := hF.sel [4]
  simp only [ss, Nat.reduceBEq] at hF
  refine wp_ret (hret (ret1 hF Tryz.results21 rfl ?_))
  refine ⟨?_, hH.below⟩
  simp_all [sameS]

theorem one_spec (r : Rec) (hn : r.name.length < 1000000) (hd : r.data.length < 1000000) (w0 : World) (hG : GW w0) : Rets Tryz.prog 58 [.agg (recV r).toArray] w0
    fun v w' => ∃ dv B, v = .tuple #[.agg (setV (setOf r) dv).toArray, .bool (rmay r)] ∧ Hp w0 w' B ∧ Sl 9 1 B dv (setOf r).data.length (strV (setOf r).data) := by
  have hH := Hp.refl w0
  refine rets_start Tryz.func58 rfl Tryz.ntmps58 rfl fun a Q0 hF hret hend => ?_
  simp only [argsFrom, Nat.zero_add, Nat.reduceAdd] at hF
  refine c_sr fun ops => ?_
  refine ls_box hF hH rfl rfl rfl rfl rfl ?_
  intro a w g0_0 hH hE hF
  refine ls_alloc hF hH rfl rfl rfl rfl zv27 ?_
  intro a w g0_1 hH hE hF
  refine zm 1 hF rfl fun a hF => ?_
  refine c_n ?_
  replace hF := hF.sel [1, 2]
  simp only [ss, Nat.reduceBEq] at hF
  refine c_seq fun Q1 k1 t1 => ?_
  refine c_sg ?_
  refine zl hF rfl (r_fieldaddr0 hF rfl rfl fd38_0) fun a hF => ?_
  refine zl hF rfl (r_load hF rfl rfl fl9 (own_cell (i := 1) hH rfl rfl)) fun a hF => ?_
  refine zc hF rfl rfl fn56 (may_spec _ (by omega) _) ?_
  rintro _ w ⟨rfl, hE⟩ a hF
  replace hH := hH.ext hE
  refine zl hF rfl (r_not hF rfl rfl) fun a hF => ?_
  refine zm 1 hF rfl fun a hF => ?_
  refine ls_ask (d := 8) hF rfl (fun g1_4 => ?_) (fun g1_4 => ?_)
  ·
   have g1_4' := g1_4; try simp only [qq] at g1_4'
   refine zn hF rfl g1_4 fun a hF => ?_
   refine zn hF rfl g1_4 fun a hF => ?_
   refine zn hF rfl g1_4 fun a hF => ?_
   refine zn hF rfl g1_4 fun a hF => ?_
   refine zn hF rfl g1_4 fun a hF => ?_
   refine zn hF rfl g1_4 fun a hF => ?_
   refine zl hF rfl (r_pickt hF rfl rfl g1_4 rfl) fun a hF => ?_
   refine c_n ?_
   replace hF := hF.sel [1, 2, 15]
   simp only [ss, Nat.reduceBEq] at hF
   refine c_yes hF rfl rfl ?_
   refine c_sr fun ops => ?_
   refine zl hF rfl (r_build hF rfl rfl (bd27 _)) fun a hF => ?_
   refine ls_storeagg 0 hF hH rfl rfl rfl rfl rfl ti27 rfl (rfl) (rfl) (by simp [Value.oneCell']) ?_
   intro w hH
   refine zm 1 hF rfl fun a hF => ?_
   refine c_n ?_
   replace hF := hF.sel [2, 3]
   simp only [ss, Nat.reduceBEq] at hF
   refine wp_ret (t1.ret (hret (retc2 (fn := Tryz.f58) (t := 2) (u := 3) (i := 0) hF hH Tryz.results58 rfl rfl (by kernel_rfl) ti27 rfl rfl ?_)))
   have hm : rmay r = false := by simp_all [rmay]
   refine ⟨.slice none 0 0, [], by rw [hm, setOf, hm]; rfl, hH.sub (List.nil_sublist _), by rw [setOf, hm]; exact Sl.nil _ _⟩
  have g1_4' := g1_4; try simp only [qq] at g1_4'
  refine zy hF rfl g1_4 (r_fieldaddr0 hF rfl rfl fd38_1) fun a hF => ?_
  refine zy hF rfl g1_4 (r_load hF rfl rfl fl23 (own_cell (i := 1) hH rfl rfl)) fun a hF => ?_
  refine zy hF rfl g1_4 (r_fieldaddr0 hF rfl rfl fd38_4) fun a hF => ?_
  refine zy hF rfl g1_4 (r_load hF rfl rfl fl9 (own_cell (i := 1) hH rfl rfl)) fun a hF => ?_
  refine zyc hF rfl g1_4 rfl fn57 (dmay_spec _ _ hd _ (hG.ext hH.below)) ?_
  rintro _ w ⟨rfl, hE⟩ a hF
  replace hH := hH.ext hE
  refine zy hF rfl g1_4 (r_not hF rfl rfl) fun a hF => ?_
  refine zl hF rfl (r_pickf hF rfl rfl g1_4 rfl) fun a hF => ?_
  refine c_n ?_
  replace hF := hF.sel [1, 2, 15]
  simp only [ss, Nat.reduceBEq] at hF
  refine c_if hF rfl (fun h15 => ?_) (fun h15 => ?_)
  ·
   try simp only [qq] at h15
   refine c_sr fun ops => ?_
   refine zl hF rfl (r_build hF rfl rfl (bd27 _)) fun a hF => ?_
   refine ls_storeagg 0 hF hH rfl rfl rfl rfl rfl ti27 rfl (rfl) (rfl) (by simp [Value.oneCell']) ?_
   intro w hH
   refine zm 1 hF rfl fun a hF => ?_
   refine c_n ?_
   replace hF := hF.sel [2, 3]
   simp only [ss, Nat.reduceBEq] at hF
   refine wp_ret (t1.ret (hret (retc2 (fn := Tryz.f58) (t := 2) (u := 3) (i := 0) hF hH Tryz.results58 rfl rfl (by kernel_rfl) ti27 rfl rfl ?_)))
   have hm : rmay r = false := by simp_all [rmay]
   refine ⟨.slice none 0 0, [], by rw [hm, setOf, hm]; rfl, hH.sub (List.nil_sublist _), by rw [setOf, hm]; exact Sl.nil _ _⟩
  try simp only [qq] at h15
  refine wp_skip ?_
  refine k1 ?_
  refine c_seq fun Q2 k2 t2 => ?_
  have hm : rmay r = true := by simp_all [rmay]
  have hHR := hH
  refine c_flow [0, 3, 5, 7, 10, 12] [1, 2, 4, 6, 8, 9, 11, 13, 14, 15, 16] [17] [18] (by kernel_rfl) (by kernel_rfl) fun hB => ?_
  refine ps hF rfl rfl rfl rfl (fun w => r_fieldaddr0 hF rfl rfl fd38_0) fun a hF => ?_
  refine ps hF rfl rfl rfl rfl (fun w => r_fieldaddr0 hF rfl rfl fd38_1) fun a hF => ?_
  refine ps hF rfl rfl rfl rfl (fun w => r_fieldaddr0 hF rfl rfl fd38_2) fun a hF => ?_
  refine ps hF rfl rfl rfl rfl (fun w => r_fieldaddr0 hF rfl rfl fd38_3) fun a hF => ?_
  refine ps hF rfl rfl rfl rfl (fun w => r_fieldaddr0 hF rfl rfl fd38_1) fun a hF => ?_
  refine ps hF rfl rfl rfl rfl (fun w => r_fieldaddr0 hF rfl rfl fd38_4) fun a hF => ?_
  refine fl_start [18, 19, 21, 23, 25, 26, 28, 30, 31, 32, 33] hB (by kernel_rfl) hF ?_
  simp only [wo, hasN, Nat.reduceBEq, cond_true, cond_false] at hF ⊢
  refine fs1 rfl (by
   intro a w Lr hE hC hl
   replace hH := hH.ext hE
   have hF := hC.fr
   exact zl hF rfl (r_load hF rfl rfl fl9 (own_cell (i := 1) hH rfl rfl)) fun a' hF' => wpList_nil (fl_end hC hF' (Ext.refl _) rfl)) ?_
  refine fs1 rfl (by
   intro a w Lr hE hC hl
   replace hH := hH.ext hE
   obtain ⟨_, s18, rfl⟩ := hl 18 (by decide) _ rfl
   replace hC := hC.more s18
   have hF := hC.fr
   refine zc hF rfl rfl fn37 (fold_spec _ (by omega) _) ?_
   rintro _ w' ⟨rfl, hE'⟩ a' hF'
   exact wpList_nil (fl_end hC hF' hE' rfl)) ?_
  refine fs1 rfl (by
   intro a w Lr hE hC hl
   replace hH := hH.ext hE
   have hF := hC.fr
   exact zl hF rfl (r_load hF rfl rfl fl23 (own_cell (i := 1) hH rfl rfl)) fun a' hF' => wpList_nil (fl_end hC hF' (Ext.refl _) rfl)) ?_
  refine fs1 rfl (by
   intro a w Lr hE hC hl
   replace hH := hH.ext hE
   have hF := hC.fr
   exact zl hF rfl (r_load hF rfl rfl fl23 (own_cell (i := 1) hH rfl rfl)) fun a' hF' => wpList_nil (fl_end hC hF' (Ext.refl _) rfl)) ?_
  refine fs1 rfl (by
   intro a w Lr hE hC hl
   replace hH := hH.ext hE
   have hF := hC.fr
   exact zl hF rfl (r_load hF rfl rfl fl24 (own_cell (i := 1) hH rfl rfl)) fun a' hF' => wpList_nil (fl_end hC hF' (Ext.refl _) rfl)) ?_
  refine fs1 rfl (by
   intro a w Lr hE hC hl
   replace hH := hH.ext hE
   obtain ⟨_, s25, rfl⟩ := hl 25 (by decide) _ rfl
   replace hC := hC.more s25
   have hF := hC.fr
   refine zc hF rfl rfl fn92 (time_spec _ _) ?_
   rintro _ w' ⟨rfl, hE'⟩ a' hF'
   exact wpList_nil (fl_end hC hF' hE' rfl)) ?_
  refine fs1 rfl (by
   intro a w Lr hE hC hl
   replace hH := hH.ext hE
   have hF := hC.fr
   exact zl hF rfl (r_load hF rfl rfl fl23 (own_cell (i := 1) hH rfl rfl)) fun a' hF' => wpList_nil (fl_end hC hF' (Ext.refl _) rfl)) ?_
  refine fs1 rfl (by
   intro a w Lr hE hC hl
   replace hH := hH.ext hE
   have hF := hC.fr
   exact zl hF rfl (r_load hF rfl rfl fl9 (own_cell (i := 1) hH rfl rfl)) fun a' hF' => wpList_nil (fl_end hC hF' (Ext.refl _) rfl)) ?_
  refine fs1 rfl (by
   intro a w Lr hE hC hl
   replace hH := hH.ext hE
   obtain ⟨_, s28, rfl⟩ := hl 28 (by decide) _ rfl
   replace hC := hC.more s28
   obtain ⟨_, s30, rfl⟩ := hl 30 (by decide) _ rfl
   replace hC := hC.more s30
   have hF := hC.fr
   refine zc hF rfl rfl fn28 (dataFold_spec _ _ hd _ (hG.ext hH.below)) ?_
   rintro _ w' ⟨rfl, hE'⟩ a' hF'
   exact wpList_nil (fl_end hC hF' hE' rfl)) ?_
  refine fs (fun v w' => ∃ g, v = .slice (some ⟨g, 0, none⟩) 1 1 ∧ Hp w w' [(g, .cells #[.string (mk (dfold r.kind r.data))] 9 (0, 0))]) rfl (fun _ _ _ he h => let ⟨g, h1, h2⟩ := h; ⟨g, h1, h2.ext he⟩) ?_ ?_
  ·
   intro a w Lr hE hC hl
   replace hH := hH.ext hE
   obtain ⟨_, s31, rfl⟩ := hl 31 (by decide) _ rfl
   replace hC := hC.more s31
   have hF := hC.fr
   refine ls_build1 hF (Hp.refl w) rfl rfl rfl rfl rfl Tryz.underlying25 ti9 rfl (by decide) ?_
   intro a' w' g hH' hE' hF'
   exact wpList_nil (fl_end hC hF' hE' (by exact ⟨_, rfl, Hp.base hE hH'⟩))
  refine fs (fun v w' => ∃ g, v = .agg (setV ⟨fold r.name, r.kind, r.cls, timeN r.ttl, [dfold r.kind r.data]⟩ (.slice (some ⟨g, 0, none⟩) 1 1)).toArray ∧ Hp w w' [(g, .cells #[.string (mk (dfold r.kind r.data))] 9 (0, 0))]) rfl (fun _ _ _ he h => let ⟨g, h1, h2⟩ := h; ⟨g, h1, h2.ext he⟩) ?_ ?_
  ·
   intro a w Lr hE hC hl
   replace hH := hH.ext hE
   obtain ⟨_, s19, rfl⟩ := hl 19 (by decide) _ rfl
   replace hC := hC.more s19
   obtain ⟨_, s21, rfl⟩ := hl 21 (by decide) _ rfl
   replace hC := hC.more s21
   obtain ⟨_, s23, rfl⟩ := hl 23 (by decide) _ rfl
   replace hC := hC.more s23
   obtain ⟨_, s26, rfl⟩ := hl 26 (by decide) _ rfl
   replace hC := hC.more s26
   obtain ⟨v32, s32, p32⟩ := hl 32 (by decide) _ rfl
   replace hC := hC.more s32
   obtain ⟨g32, rfl, q32⟩ := p32
   have hF := hC.fr
   refine zl hF rfl (r_build hF rfl rfl (bd27_0_1_2_3_4 _ _ _ _ _ _ (rfl) (rfl) (rfl) (rfl) (rfl))) fun a' hF' => wpList_nil (fl_end hC hF' (Ext.refl _) ?_)
   exact ⟨_, rfl, q32⟩
  intro a w hE hF hall
  replace hH := hH.ext hE
  obtain ⟨v33, s33, p33⟩ := hall 33 _ rfl
  replace hF := hF.more s33
  clear hall
  obtain ⟨g33, rfl, q33⟩ := p33
  replace hH := hHR.join q33
  refine ls_storeagg 1 hF hH rfl rfl rfl rfl rfl ti27 rfl (rfl) (rfl) (by simp [setV, Value.oneCell']) ?_
  intro w hH
  refine wpList_nil ?_
  refine ps hF rfl rfl rfl rfl (fun w => r_assign hF rfl rfl) fun a hF => ?_
  replace hF := hF.sel [2, 3]
  simp only [ss, Nat.reduceBEq] at hF
  refine k2 ?_
  refine wp_ret (hret (retc2 (fn := Tryz.f58) (t := 2) (u := 3) (i := 1) hF hH Tryz.results58 rfl rfl (by kernel_rfl) ti27 rfl rfl ?_))
  have hs : setOf r = ⟨fold r.name, r.kind, r.cls, timeN r.ttl, [dfold r.kind r.data]⟩ := by rw [setOf, if_pos hm]
  refine ⟨_, [(g33, _)], by rw [hs, hm], hH.sub (List.Sublist.cons_cons _ (List.nil_sublist _)), by rw [hs]; exact ⟨rfl, .inr ⟨_, 1, _, rfl, rfl, Nat.le_refl _, by unfold maxLen; omega, rfl, rfl⟩⟩⟩

/-- The cells of sets. -/
def setsV (l : List RSet) (dvs : List Value) : List Value := (List.zipWith setV l dvs).flatten
theorem setsV_cons (s : RSet) (l : List RSet) (d : Value) (ds : List Value) : setsV (s :: l) (d :: ds) = setV s d ++ setsV l ds := rfl
theorem setsV_get : ∀ {l : List RSet} {dvs : List Value} {i : Nat} (h : i < l.length) (h2 : i < dvs.length) (j : Nat) (u : Value), (setV l[i] dvs[i])[j]? = some u → (setsV l dvs)[i * 5 + j]? = some u
  | [], _, _, h, _, _, _, _ => by simp at h
  | _ :: _, [], _, _, h, _, _, _ => by simp at h
  | s :: l, d :: ds, 0, h, h2, j, u, hu => by
    rw [setsV_cons, Nat.zero_mul, Nat.zero_add, List.getElem?_append_left]
    · exact hu
    · exact (List.getElem?_eq_some_iff.1 hu).1
  | s :: l, d :: ds, i + 1, h, h2, j, u, hu => by
    rw [setsV_cons, List.getElem?_append_right (by simp [setV]; omega), show (i + 1) * 5 + j - (setV s d).length = i * 5 + j by simp [setV]; omega]
    exact setsV_get (l := l) (dvs := ds) (by simpa using h) (by simpa using h2) j u (by simpa using hu)
/-- Sets that are read. -/
def SetsR (w : World) (v : Value) (l : List RSet) : Prop := ∃ dvs : List Value, ∃ hd : dvs.length = l.length, RSl w 5 v l.length (setsV l dvs) ∧ ∀ i (h : i < l.length), RSl w 1 (dvs[i]'(by omega)) l[i].data.length (strV l[i].data)
theorem SetsR.ext {w w' : World} {v : Value} {l : List RSet} (h : SetsR w v l) (he : Ext w w') : SetsR w' v l := by
  obtain ⟨dvs, hd, h1, h2⟩ := h
  exact ⟨dvs, hd, h1.ext he, fun i h => (h2 i h).ext he⟩
theorem SetsR.at {w : World} {ad : Option Addr} {cap : Nat} {l : List RSet} (h : SetsR w (.slice ad l.length cap) l) {i : Nat} (hi : i < l.length) :
    ∃ b off dv, ad = some ⟨b, off, none⟩ ∧ (∀ j u, (setV l[i] dv)[j]? = some u → w.cell? ⟨b, off + i * 5 + j, none⟩ = some u) ∧ RSl w 1 dv l[i].data.length (strV l[i].data) := by
  obtain ⟨dvs, hd, ⟨h1, ad', cap', hv, _, _, h3⟩, h2⟩ := h
  cases hv
  rcases h3 with ⟨_, _, h0⟩ | ⟨b, off, rfl, hc⟩
  · omega
  · exact ⟨b, off, dvs[i]'(by omega), rfl, fun j u hu => by rw [Nat.add_assoc]; exact hc _ u (setsV_get hi (by omega) j u hu), h2 i hi⟩

theorem find_spec (l : List RSet) (v : Value) (nm : Bs) (kind cls : Nat) (w0 : World) (hR : SetsR w0 v l) (hl : l.length < 1000000) (hn : nm.length < 1000000) (hnm : ∀ s ∈ l, s.name.length < 1000000) (hdm : ∀ s ∈ l, s.data.length < 1000000) :
    Rets Tryz.prog 18 [v, .string (mk nm), .int .u16 kind, .int .u16 cls] w0
      fun r w' => ∃ dv B, r = .tuple #[.agg (setV ((findS l nm kind cls).getD noSet) dv).toArray, .bool (findS l nm kind cls).isSome] ∧ Hp w0 w' B ∧ Sl 9 1 B dv ((findS l nm kind cls).getD noSet).data.length (strV ((findS l nm kind cls).getD noSet).data) := by
  have hH := Hp.refl w0
  obtain ⟨ad, cap, rfl⟩ : ∃ ad cap, v = .slice ad l.length cap := by
    obtain ⟨_, _, h, _⟩ := hR; exact h.shape
  refine rets_start Tryz.func18 rfl Tryz.ntmps18 rfl fun a Q0 hF hret hend => ?_
  simp only [argsFrom, Nat.zero_add, Nat.reduceAdd] at hF
  refine c_sr fun ops => ?_
  refine ls_alloc hF hH rfl rfl rfl rfl zv27 ?_
  intro a w g0_0 hH hE hF
  refine zm 1 hF rfl fun a hF => ?_
  refine c_n ?_
  replace hF := hF.sel [0, 1, 2, 3, 8]
  simp only [ss, Nat.reduceBEq] at hF
  refine c_seq fun Q1 k1 t1 => ?_
  refine c_sr fun ops => ?_
  refine zm 1 hF rfl fun a hF => ?_
  refine zl hF rfl (r_len_sl hF rfl rfl Tryz.underlying22) fun a hF => ?_
  refine zm 1 hF rfl fun a hF => ?_
  refine c_n ?_
  replace hF := hF.sel [0, 1, 2, 3, 8, 13, 14]
  simp only [ss, Nat.reduceBEq] at hF
  refine c_block fun Q2 t2 => ?_
  refine c_loop (fun n a w => ∃ i, n = l.length - i ∧ i ≤ l.length ∧ findS l nm kind cls = findS (l.drop i) nm kind cls ∧ Fr 53 [(0, .slice ad l.length cap), (1, .string (mk nm)), (2, .int .u16 kind), (3, .int .u16 cls), (8, ptr g0_0), (13, .int .i64 l.length), (14, .int .i64 i)] a ∧ Hp w0 w [(g0_0, .cells #[.string (mk []), .int .u16 0, .int .u16 0, .int .u32 0, .slice none 0 0] 27 (0, 0))]) ?_ ?_
  ·
   exact ⟨_, 0, rfl, Nat.zero_le _, rfl, hF.keep [0, 1, 2, 3, 8, 13, 14] rfl, hH⟩
  clear hH hF
  intro n a w hI Q3 k3 t3
  obtain ⟨i, hm, hi, he, hF, hH⟩ := hI
  refine c_sr fun ops => ?_
  refine zb hF rfl rfl rfl (b_ltn _ _ _ _) fun a hF => ?_
  refine c_n ?_
  refine c_seq fun Q4 k4 t4 => ?_
  refine c_fi hF rfl (fun h15 => ?_) (fun h15 => ?_)
  ·
   try simp only [qq] at h15
   rw [List.drop_eq_nil_of_le (by omega)] at he
   refine wp_exit (t4.exit (t3.exit (t2.here (?_))))
   refine k1 ?_
   refine c_sr fun ops => ?_
   refine zl hF rfl (r_build hF rfl rfl (bd27 _)) fun a hF => ?_
   refine ls_storeagg 0 hF hH rfl rfl rfl rfl rfl ti27 rfl (rfl) (rfl) (by simp [Value.oneCell']) ?_
   intro w hH
   refine zm 1 hF rfl fun a hF => ?_
   refine c_n ?_
   replace hF := hF.sel [8, 9]
   simp only [ss, Nat.reduceBEq] at hF
   refine wp_ret (hret (retc2 (fn := Tryz.f18) (t := 8) (u := 9) (i := 0) hF hH Tryz.results18 rfl rfl (by kernel_rfl) ti27 rfl rfl ?_))
   refine ⟨.slice none 0 0, [], by rw [he]; rfl, hH.sub (List.nil_sublist _), by rw [he]; exact Sl.nil _ _⟩
  try simp only [qq] at h15
  obtain ⟨b, off, dv, rfl, hset, hdv⟩ := hR.at h15
  have hmem := List.getElem_mem h15
  have hnl := hnm _ hmem
  have hdl := hdm _ hmem
  have hdr : l.drop i = l[i] :: l.drop (i + 1) := List.drop_eq_getElem_cons h15
  rw [hdr, findS_cons] at he
  refine wp_skip ?_
  refine k4 ?_
  refine c_seq fun Q5 k5 t5 => ?_
  refine c_block fun Q6 t6 => ?_
  refine c_sr fun ops => ?_
  refine zm 2 hF rfl fun a hF => ?_
  refine c_n ?_
  refine c_sg ?_
  refine zm 2 hF rfl fun a hF => ?_
  refine zl hF rfl (r_indexaddr hF _ rfl rfl rfl Tryz.underlying22 ti27 (by omega)) fun a hF => ?_
  refine zl hF rfl (r_fieldaddr hF rfl rfl fd27_1) fun a hF => ?_
  refine zl hF rfl (r_load hF rfl rfl fl23 (hH.cell (hset 1 _ rfl))) fun a hF => ?_
  refine zm 1 hF rfl fun a hF => ?_
  refine zb hF rfl rfl rfl (b_eqn _ _ _ _) fun a hF => ?_
  refine zm 1 hF rfl fun a hF => ?_
  refine l_ask (d := 24) hF rfl (fun g4_7 => ?_) (fun g4_7 => ?_)
  ·
   have g4_7' := g4_7; try simp only [qq] at g4_7'
   refine zn hF rfl g4_7 fun a hF => ?_
   refine zn hF rfl g4_7 fun a hF => ?_
   refine zn hF rfl g4_7 fun a hF => ?_
   refine zn hF rfl g4_7 fun a hF => ?_
   refine zn hF rfl g4_7 fun a hF => ?_
   refine zn hF rfl g4_7 fun a hF => ?_
   refine zn hF rfl g4_7 fun a hF => ?_
   refine zl hF rfl (r_pickf hF rfl rfl g4_7 rfl) fun a hF => ?_
   refine zm 1 hF rfl fun a hF => ?_
   refine zn hF rfl rfl fun a hF => ?_
   refine zn hF rfl rfl fun a hF => ?_
   refine zn hF rfl rfl fun a hF => ?_
   refine zn hF rfl rfl fun a hF => ?_
   refine zn hF rfl rfl fun a hF => ?_
   refine zn hF rfl rfl fun a hF => ?_
   refine zn hF rfl rfl fun a hF => ?_
   refine zl hF rfl (r_pickf hF rfl rfl rfl rfl) fun a hF => ?_
   refine c_n ?_
   refine c_no hF rfl rfl ?_
   refine wp_skip ?_
   refine t6.norm ?_
   refine k5 ?_
   refine c_reg fun ops => ?_
   refine zb hF rfl rfl rfl (b_addn _ _ 1 (by omega)) fun a hF => ?_
   refine zm 1 hF rfl fun a hF => ?_
   refine wpList_nil ?_
   refine k3 ?_
   have hi1 : isS nm kind cls l[i] = false := by simp_all [isS]
   rw [if_neg (by simp [hi1])] at he
   exact ⟨l.length - (i + 1), by omega, i + 1, rfl, by omega, he, hF.keep [0, 1, 2, 3, 8, 13, 14] rfl, hH⟩
  have g4_7' := g4_7; try simp only [qq] at g4_7'
  refine zy hF rfl g4_7 (r_move hF rfl rfl) fun a hF => ?_
  refine zy hF rfl g4_7 (r_move hF rfl rfl) fun a hF => ?_
  refine zy hF rfl g4_7 (r_indexaddr hF _ rfl rfl rfl Tryz.underlying22 ti27 (by omega)) fun a hF => ?_
  refine zy hF rfl g4_7 (r_fieldaddr hF rfl rfl fd27_2) fun a hF => ?_
  refine zy hF rfl g4_7 (r_load hF rfl rfl fl23 (hH.cell (hset 2 _ rfl))) fun a hF => ?_
  refine zy hF rfl g4_7 (r_move hF rfl rfl) fun a hF => ?_
  refine zy hF rfl g4_7 (zr hF rfl rfl (b_eqn _ _ _ _)) fun a hF => ?_
  refine zl hF rfl (r_pickt hF rfl rfl g4_7 rfl) fun a hF => ?_
  refine zm 1 hF rfl fun a hF => ?_
  refine l_ask (d := 33) hF rfl (fun g4_16 => ?_) (fun g4_16 => ?_)
  ·
   have g4_16' := g4_16; try simp only [qq] at g4_16'
   refine zn hF rfl g4_16 fun a hF => ?_
   refine zn hF rfl g4_16 fun a hF => ?_
   refine zn hF rfl g4_16 fun a hF => ?_
   refine zn hF rfl g4_16 fun a hF => ?_
   refine zn hF rfl g4_16 fun a hF => ?_
   refine zn hF rfl g4_16 fun a hF => ?_
   refine zn hF rfl g4_16 fun a hF => ?_
   refine zl hF rfl (r_pickf hF rfl rfl g4_16 rfl) fun a hF => ?_
   refine c_n ?_
   refine c_no hF rfl rfl ?_
   refine wp_skip ?_
   refine t6.norm ?_
   refine k5 ?_
   refine c_reg fun ops => ?_
   refine zb hF rfl rfl rfl (b_addn _ _ 1 (by omega)) fun a hF => ?_
   refine zm 1 hF rfl fun a hF => ?_
   refine wpList_nil ?_
   refine k3 ?_
   have hi1 : isS nm kind cls l[i] = false := by simp_all [isS]
   rw [if_neg (by simp [hi1])] at he
   exact ⟨l.length - (i + 1), by omega, i + 1, rfl, by omega, he, hF.keep [0, 1, 2, 3, 8, 13, 14] rfl, hH⟩
  have g4_16' := g4_16; try simp only [qq] at g4_16'
  refine zy hF rfl g4_16 (r_move hF rfl rfl) fun a hF => ?_
  refine zy hF rfl g4_16 (r_move hF rfl rfl) fun a hF => ?_
  refine zy hF rfl g4_16 (r_indexaddr hF _ rfl rfl rfl Tryz.underlying22 ti27 (by omega)) fun a hF => ?_
  refine zy hF rfl g4_16 (r_fieldaddr hF rfl rfl fd27_0) fun a hF => ?_
  refine zy hF rfl g4_16 (r_load hF rfl rfl fl9 (hH.cell (hset 0 _ rfl))) fun a hF => ?_
  refine zy hF rfl g4_16 (r_move hF rfl rfl) fun a hF => ?_
  refine zyc hF rfl g4_16 rfl fn29 (same_spec _ _ (by omega) (by omega) _) ?_
  rintro _ w ⟨rfl, hE⟩ a hF
  replace hH := hH.ext hE
  refine zl hF rfl (r_pickt hF rfl rfl g4_16 rfl) fun a hF => ?_
  refine c_n ?_
  refine c_fi hF rfl (fun h41 => ?_) (fun h41 => ?_)
  ·
   try simp only [qq] at h41
   refine wp_skip ?_
   refine t6.norm ?_
   refine k5 ?_
   refine c_reg fun ops => ?_
   refine zb hF rfl rfl rfl (b_addn _ _ 1 (by omega)) fun a hF => ?_
   refine zm 1 hF rfl fun a hF => ?_
   refine wpList_nil ?_
   refine k3 ?_
   have hi1 : isS nm kind cls l[i] = false := by simp_all [isS]
   rw [if_neg (by simp [hi1])] at he
   exact ⟨l.length - (i + 1), by omega, i + 1, rfl, by omega, he, hF.keep [0, 1, 2, 3, 8, 13, 14] rfl, hH⟩
  try simp only [qq] at h41
  have hi1 : isS nm kind cls l[i] = true := by simp_all [isS]
  rw [if_pos hi1] at he
  refine c_sr fun ops => ?_
  refine zm 2 hF rfl fun a hF => ?_
  refine zl hF rfl (r_indexaddr hF _ rfl rfl rfl Tryz.underlying22 ti27 (by omega)) fun a hF => ?_
  refine zl hF rfl (r_loadagg hF rfl rfl Tryz.underlying27 ti27 rfl (fun j u hu => hH.cell (hset j u hu))) fun a hF => ?_
  refine ls_alloc hF hH rfl rfl rfl rfl zv27 ?_
  intro a w g5_4 hH hE hF
  refine ls_storeagg 0 hF hH rfl rfl rfl rfl rfl ti27 rfl (rfl) (rfl) (by have := hdv.shape; obtain ⟨_, _, rfl⟩ := this; simp [setV, Value.oneCell']) ?_
  intro w hH
  refine c_n ?_
  refine c_sr fun ops => ?_
  refine zl hF rfl (r_fieldaddr0 hF rfl rfl fd27_4) fun a hF => ?_
  refine zl hF rfl (r_load hF rfl rfl fl25 (own_cell (i := 0) (v := dv) hH rfl rfl)) fun a hF => ?_
  refine zc hF rfl rfl fn53 (clone_spec (hdv.ext hH.below) hdl) ?_
  rintro dv2 w ⟨B, hB, hS⟩ a hF
  replace hH := (hH.join hB).fromB2
  refine zl hF rfl (r_fieldaddr0 hF rfl rfl fd27_4) fun a hF => ?_
  refine ls_store 0 hF hH rfl rfl rfl rfl rfl fl25 ti25 rfl (by simp [setV]) (by simp [noFreeze]) (hS.one) ?_
  intro w hH
  refine c_n ?_
  refine c_sr fun ops => ?_
  refine zl hF rfl (r_loadagg hF rfl rfl Tryz.underlying27 ti27 rfl (own_agg (i := 0) hH rfl)) fun a hF => ?_
  refine ls_storeagg 1 hF hH rfl rfl rfl rfl rfl ti27 rfl (rfl) (rfl) (by have := hS.shape; obtain ⟨_, _, rfl⟩ := this; simp [setV, Value.oneCell']) ?_
  intro w hH
  refine zm 1 hF rfl fun a hF => ?_
  refine c_n ?_
  refine wp_ret (t6.ret (t5.ret (t3.ret (t2.ret (t1.ret (hret (retc2 (fn := Tryz.f18) (t := 8) (u := 9) (i := 1) hF hH Tryz.results18 rfl rfl (by kernel_rfl) ti27 rfl rfl ?_)))))))
  refine ⟨dv2, B, by rw [he]; rfl, hH.sub (.cons _ (.cons _ (List.sublist_append_left _ _))), by rw [he]; exact hS⟩
end Go.Proofs.YtcelgjabccgnmaaGreatDoor
