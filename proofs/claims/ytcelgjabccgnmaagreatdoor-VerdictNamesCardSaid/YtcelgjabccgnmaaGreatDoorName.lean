/-
  The walks of package name: what each function computes, by plain functions on lists of bytes.
-/
import Derived.Test.YtcelgjabccgnmaaGreatDoorBuild
import Derived.Test.YtcelgjabccgnmaaGreatDoorSpec
namespace Go.Proofs.YtcelgjabccgnmaaGreatDoor
open Go.RowKit
set_option linter.unusedVariables false

set_option linter.unusedSimpArgs false
set_option maxHeartbeats 1000000

theorem first_spec (l : Bs) (hl : l.length < 4611686018427387904) (w : World) : Rets Tryz.prog 123 [.string (mk l)] w fun v w' => v = .tuple #[.string (mk (firstLabel l)), .string (mk (firstRest l)), .bool (firstB l)] ∧ Ext w w' := by
  have hH := Hp.refl w
  have hc := (l.getD 0 0).toNat_lt
  refine rets_start Tryz.func123 rfl Tryz.ntmps123 rfl fun a Q0 hF hret hend => ?_
  simp only [argsFrom, Nat.zero_add, Nat.reduceAdd] at hF
  refine c_sr fun ops => ?_
  refine zm 3 hF rfl fun a hF => ?_
  refine c_n ?_
  replace hF := hF.sel [0]
  simp only [ss, Nat.reduceBEq] at hF
  refine c_seq fun Q1 k1 t1 => ?_
  refine c_sg ?_
  refine zm 1 hF rfl fun a hF => ?_
  refine zb hF rfl rfl rfl (b_seq _ _ []) fun a hF => ?_
  refine zm 1 hF rfl fun a hF => ?_
  refine ls_ask (d := 8) hF rfl (fun g1_2 => ?_) (fun g1_2 => ?_)
  ·
   have g1_2' := g1_2; try simp only [qq] at g1_2'
   subst g1_2'
   refine zn hF rfl g1_2 fun a hF => ?_
   refine zn hF rfl g1_2 fun a hF => ?_
   refine zn hF rfl g1_2 fun a hF => ?_
   refine zl hF rfl (r_pickt hF rfl rfl g1_2 rfl) fun a hF => ?_
   refine zm 1 hF rfl fun a hF => ?_
   refine zn hF rfl rfl fun a hF => ?_
   refine zn hF rfl rfl fun a hF => ?_
   refine zn hF rfl rfl fun a hF => ?_
   refine zl hF rfl (r_pickt hF rfl rfl rfl rfl) fun a hF => ?_
   refine zm 1 hF rfl fun a hF => ?_
   refine zn hF rfl rfl fun a hF => ?_
   refine zn hF rfl rfl fun a hF => ?_
   refine zn hF rfl rfl fun a hF => ?_
   refine zn hF rfl rfl fun a hF => ?_
   refine zn hF rfl rfl fun a hF => ?_
   refine zn hF rfl rfl fun a hF => ?_
   refine zn hF rfl rfl fun a hF => ?_
   refine zl hF rfl (r_pickt hF rfl rfl rfl rfl) fun a hF => ?_
   refine c_n ?_
   replace hF := hF.sel [0, 26]
   simp only [ss, Nat.reduceBEq] at hF
   refine c_yes hF rfl rfl ?_
   refine c_sr fun ops => ?_
   refine zm 3 hF rfl fun a hF => ?_
   refine c_n ?_
   replace hF := hF.sel [2, 3, 4]
   simp only [ss, Nat.reduceBEq] at hF
   refine wp_ret (t1.ret (hret (ret3 hF Tryz.results123 rfl rfl rfl ?_)))
   exact ⟨rfl, hH.below⟩
  have g1_2' := g1_2; try simp only [qq] at g1_2'
  have hp := List.length_pos_iff.2 g1_2'
  refine zy hF rfl g1_2 (r_move hF rfl rfl) fun a hF => ?_
  refine zy hF rfl g1_2 (r_indexn hF 0 rfl rfl rfl Tryz.underlying9 (by omega)) fun a hF => ?_
  refine zy hF rfl g1_2 (zr hF rfl rfl (b_eqn _ _ _ 0)) fun a hF => ?_
  refine zl hF rfl (r_pickf hF rfl rfl g1_2 rfl) fun a hF => ?_
  refine zm 1 hF rfl fun a hF => ?_
  refine ls_ask (d := 13) hF rfl (fun g1_7 => ?_) (fun g1_7 => ?_)
  ·
   have g1_7' := g1_7; try simp only [qq] at g1_7'
   refine zn hF rfl g1_7 fun a hF => ?_
   refine zn hF rfl g1_7 fun a hF => ?_
   refine zn hF rfl g1_7 fun a hF => ?_
   refine zl hF rfl (r_pickt hF rfl rfl g1_7 rfl) fun a hF => ?_
   refine zm 1 hF rfl fun a hF => ?_
   refine zn hF rfl rfl fun a hF => ?_
   refine zn hF rfl rfl fun a hF => ?_
   refine zn hF rfl rfl fun a hF => ?_
   refine zn hF rfl rfl fun a hF => ?_
   refine zn hF rfl rfl fun a hF => ?_
   refine zn hF rfl rfl fun a hF => ?_
   refine zn hF rfl rfl fun a hF => ?_
   refine zl hF rfl (r_pickt hF rfl rfl rfl rfl) fun a hF => ?_
   refine c_n ?_
   replace hF := hF.sel [0, 26]
   simp only [ss, Nat.reduceBEq] at hF
   refine c_yes hF rfl rfl ?_
   refine c_sr fun ops => ?_
   refine zm 3 hF rfl fun a hF => ?_
   refine c_n ?_
   replace hF := hF.sel [2, 3, 4]
   simp only [ss, Nat.reduceBEq] at hF
   refine wp_ret (t1.ret (hret (ret3 hF Tryz.results123 rfl rfl rfl ?_)))
   have hb : firstB l = false := firstB_no (by omega)
   exact ⟨by simp only [firstLabel, firstRest, hb]; rfl, hH.below⟩
  have g1_7' := g1_7; try simp only [qq] at g1_7'
  refine zy hF rfl g1_7 (r_move hF rfl rfl) fun a hF => ?_
  refine zy hF rfl g1_7 (r_indexn hF 0 rfl rfl rfl Tryz.underlying9 (by omega)) fun a hF => ?_
  refine zy hF rfl g1_7 (zr hF rfl rfl (b_gtn _ _ _ 63)) fun a hF => ?_
  refine zl hF rfl (r_pickf hF rfl rfl g1_7 rfl) fun a hF => ?_
  refine zm 1 hF rfl fun a hF => ?_
  refine ls_ask (d := 18) hF rfl (fun g1_12 => ?_) (fun g1_12 => ?_)
  ·
   have g1_12' := g1_12; try simp only [qq] at g1_12'
   refine zn hF rfl g1_12 fun a hF => ?_
   refine zn hF rfl g1_12 fun a hF => ?_
   refine zn hF rfl g1_12 fun a hF => ?_
   refine zn hF rfl g1_12 fun a hF => ?_
   refine zn hF rfl g1_12 fun a hF => ?_
   refine zn hF rfl g1_12 fun a hF => ?_
   refine zn hF rfl g1_12 fun a hF => ?_
   refine zl hF rfl (r_pickt hF rfl rfl g1_12 rfl) fun a hF => ?_
   refine c_n ?_
   replace hF := hF.sel [0, 26]
   simp only [ss, Nat.reduceBEq] at hF
   refine c_yes hF rfl rfl ?_
   refine c_sr fun ops => ?_
   refine zm 3 hF rfl fun a hF => ?_
   refine c_n ?_
   replace hF := hF.sel [2, 3, 4]
   simp only [ss, Nat.reduceBEq] at hF
   refine wp_ret (t1.ret (hret (ret3 hF Tryz.results123 rfl rfl rfl ?_)))
   have hb : firstB l = false := firstB_no (by omega)
   exact ⟨by simp only [firstLabel, firstRest, hb]; rfl, hH.below⟩
  have g1_12' := g1_12; try simp only [qq] at g1_12'
  refine zy hF rfl g1_12 (r_move hF rfl rfl) fun a hF => ?_
  refine zy hF rfl g1_12 (r_len_str hF rfl rfl Tryz.underlying9) fun a hF => ?_
  refine zy hF rfl g1_12 (r_move hF rfl rfl) fun a hF => ?_
  refine zy hF rfl g1_12 (r_indexn hF 0 rfl rfl rfl Tryz.underlying9 (by omega)) fun a hF => ?_
  refine zy hF rfl g1_12 (r_convin hF rfl rfl (by rw [Tryz.underlying5]; rfl) Tryz.underlying3 (-9223372036854775808) 9223372036854775807 mn_i64 mx_i64 (by omega)) fun a hF => ?_
  refine zy hF rfl g1_12 (zr hF rfl rfl (b_addn _ _ 2 (by omega))) fun a hF => ?_
  refine zy hF rfl g1_12 (zr hF rfl rfl (b_ltn _ _ _ _)) fun a hF => ?_
  refine zl hF rfl (r_pickf hF rfl rfl g1_12 rfl) fun a hF => ?_
  refine c_n ?_
  replace hF := hF.sel [0, 26]
  simp only [ss, Nat.reduceBEq] at hF
  refine c_if hF rfl (fun h26 => ?_) (fun h26 => ?_)
  ·
   try simp only [qq] at h26
   refine c_sr fun ops => ?_
   refine zm 3 hF rfl fun a hF => ?_
   refine c_n ?_
   replace hF := hF.sel [2, 3, 4]
   simp only [ss, Nat.reduceBEq] at hF
   refine wp_ret (t1.ret (hret (ret3 hF Tryz.results123 rfl rfl rfl ?_)))
   have hb : firstB l = false := firstB_no (by omega)
   exact ⟨by simp only [firstLabel, firstRest, hb]; rfl, hH.below⟩
  try simp only [qq] at h26
  refine wp_skip ?_
  refine k1 ?_
  refine c_sr fun ops => ?_
  refine zm 1 hF rfl fun a hF => ?_
  refine zl hF rfl (r_indexn hF 0 rfl rfl rfl Tryz.underlying9 (by omega)) fun a hF => ?_
  refine zl hF rfl (r_convin hF rfl rfl (by rw [Tryz.underlying5]; rfl) Tryz.underlying3 (-9223372036854775808) 9223372036854775807 mn_i64 mx_i64 (by omega)) fun a hF => ?_
  refine zb hF rfl rfl rfl (b_addn _ _ 1 (by omega)) fun a hF => ?_
  refine zm 1 hF rfl fun a hF => ?_
  refine c_n ?_
  replace hF := hF.sel [0, 5]
  simp only [ss, Nat.reduceBEq] at hF
  refine c_seq fun Q2 k2 t2 => ?_
  refine q_reg (by kernel_rfl) (by kernel_rfl) ?_
  refine qs hF rfl rfl rfl (fun w hw => r_move hF rfl rfl) fun a hF => ?_
  refine qs hF rfl rfl rfl (fun w hw => r_move hF rfl rfl) fun a hF => ?_
  refine qs hF rfl rfl rfl (fun w hw => r_slicen hF 1 _ rfl rfl Tryz.underlying9 ⟨_, rfl⟩ ⟨_, rfl⟩ (by omega)) fun a hF => ?_
  refine qs hF rfl rfl rfl (fun w hw => r_move hF rfl rfl) fun a hF => ?_
  refine qs hF rfl rfl rfl (fun w hw => r_move hF rfl rfl) fun a hF => ?_
  refine qs hF rfl rfl rfl (fun w hw => r_slicefn hF _ rfl rfl Tryz.underlying9 ⟨_, rfl⟩ (by omega)) fun a hF => ?_
  refine qs hF rfl rfl rfl (fun w hw => r_assign hF rfl rfl) fun a hF => ?_
  refine qs hF rfl rfl rfl (fun w hw => r_assign hF rfl rfl) fun a hF => ?_
  refine qs hF rfl rfl rfl (fun w hw => r_assign hF rfl rfl) fun a hF => ?_
  refine q_nil fun w hE => ?_
  replace hH := hH.ext hE
  replace hF := hF.sel [2, 3, 4]
  simp only [ss, Nat.reduceBEq] at hF
  refine k2 ?_
  refine wp_ret (hret (ret3 hF Tryz.results123 rfl rfl rfl ?_))
  have hb : firstB l = true := firstB_iff.2 (by omega)
  exact ⟨by simp only [firstLabel, firstRest, hb]; rfl, hH.below⟩

theorem split_spec (l : Bs) (hl : l.length < 4611686018427387904) (w0 : World) : Rets Tryz.prog 91 [.string (mk l)] w0 fun v w' => ∃ sv B, v = .tuple #[sv, .bool (mayB l)] ∧ Hp w0 w' B ∧ Sl 9 1 B sv ((split l).getD []).length (strV ((split l).getD [])) := by
  have hH := Hp.refl w0
  refine rets_start Tryz.func91 rfl Tryz.ntmps91 rfl fun a Q0 hF hret hend => ?_
  simp only [argsFrom, Nat.zero_add, Nat.reduceAdd] at hF
  refine c_sr fun ops => ?_
  refine zm 2 hF rfl fun a hF => ?_
  refine c_n ?_
  replace hF := hF.sel [0, 2]
  simp only [ss, Nat.reduceBEq] at hF
  refine c_seq fun Q1 k1 t1 => ?_
  refine c_sr fun ops => ?_
  refine zm 1 hF rfl fun a hF => ?_
  refine zl hF rfl (r_len_str hF rfl rfl Tryz.underlying9) fun a hF => ?_
  refine zb hF rfl rfl rfl (b_gtn _ _ _ 255) fun a hF => ?_
  refine c_n ?_
  replace hF := hF.sel [0, 2, 9]
  simp only [ss, Nat.reduceBEq] at hF
  refine c_if hF rfl (fun h9 => ?_) (fun h9 => ?_)
  ·
   try simp only [qq] at h9
   have h9' : 255 < l.length := by simpa using h9
   refine c_sr fun ops => ?_
   refine zm 2 hF rfl fun a hF => ?_
   refine c_n ?_
   replace hF := hF.sel [2, 3]
   simp only [ss, Nat.reduceBEq] at hF
   refine wp_ret (t1.ret (hret (ret2 hF Tryz.results91 rfl rfl ?_)))
   have hs : split l = none := by simp [split, h9']
   exact ⟨_, _, by rw [mayB, hs]; rfl, hH, by rw [hs]; exact Sl.nil _ _⟩
  try simp only [qq] at h9
  have h9' : l.length ≤ 255 := by simpa using h9
  refine wp_skip ?_
  refine k1 ?_
  refine c_seq fun Q2 k2 t2 => ?_
  refine c_block fun Q3 t3 => ?_
  refine c_loop (fun n a w => ∃ m acc sv B, n = m.length ∧ m.length ≤ 255 ∧ acc.length + m.length ≤ 255 ∧ labelsOf l = (labelsOf m).map (acc ++ ·) ∧ Fr 26 [(0, .string (mk m)), (2, sv)] a ∧ Hp w0 w B ∧ Sl 9 1 B sv acc.length (strV acc)) ?_ ?_
  ·
   refine ⟨_, l, [], _, _, rfl, h9', by simpa using h9', by simp, hF.keep [0, 2] rfl, hH, Sl.nil _ _⟩
  intro n a w hI Q4 k4 t4
  obtain ⟨m, acc, sv, B, hn, hm, hlm, hsp, hF, hH, hS⟩ := hI
  refine c_seq fun Q5 k5 t5 => ?_
  refine c_sr fun ops => ?_
  refine zm 1 hF rfl fun a hF => ?_
  refine zb hF rfl rfl rfl (b_sne _ _ [0]) fun a hF => ?_
  refine c_n ?_
  refine c_fi hF rfl (fun h11 => ?_) (fun h11 => ?_)
  ·
   try simp only [qq] at h11
   have h11' : m = [0] := by simpa using h11
   refine wp_exit (t5.exit (t4.exit (t3.here (?_))))
   refine k2 ?_
   refine c_sr fun ops => ?_
   refine zm 3 hF rfl fun a hF => ?_
   refine c_n ?_
   replace hF := hF.sel [2, 3]
   simp only [ss, Nat.reduceBEq] at hF
   refine wp_ret (hret (ret2 hF Tryz.results91 rfl rfl ?_))
   have hs : split l = some acc := by simp [split, hsp, h11', labelsOf_root]; omega
   exact ⟨_, _, by rw [mayB, hs]; rfl, hH, by rw [hs]; exact hS⟩
  try simp only [qq] at h11
  have h11' : m ≠ [0] := by simpa using h11
  refine wp_skip ?_
  refine k5 ?_
  refine c_block fun Q6 t6 => ?_
  refine c_sr fun ops => ?_
  refine zm 1 hF rfl fun a hF => ?_
  refine zc hF rfl rfl fn123 (first_spec m (by omega) w) ?_
  rintro _ w ⟨rfl, hE⟩ a hF
  replace hH := hH.ext hE
  refine zm 7 hF rfl fun a hF => ?_
  refine c_n ?_
  refine c_seq fun Q7 k7 t7 => ?_
  refine c_sr fun ops => ?_
  refine zm 1 hF rfl fun a hF => ?_
  refine zl hF rfl (r_not hF rfl rfl) fun a hF => ?_
  refine c_n ?_
  refine c_if hF rfl (fun h19 => ?_) (fun h19 => ?_)
  ·
   try simp only [qq] at h19
   have h19' : firstB m = false := by simpa using h19
   refine c_sr fun ops => ?_
   refine zm 2 hF rfl fun a hF => ?_
   refine c_n ?_
   refine wp_ret (t7.ret (t6.ret (t4.ret (t3.ret (t2.ret (hret (ret2 hF Tryz.results91 rfl rfl ?_)))))))
   have hs : split l = none := by simp [split, hsp, labelsOf_no h11' h19']
   exact ⟨_, _, by rw [mayB, hs]; rfl, (hH.sub (List.nil_sublist _)), by rw [hs]; exact Sl.nil _ _⟩
  try simp only [qq] at h19
  have h19' : firstB m = true := by simpa using h19
  refine wp_skip ?_
  refine k7 ?_
  refine c_reg fun ops => ?_
  refine zm 2 hF rfl fun a hF => ?_
  refine ls_build1 hF hH rfl rfl rfl rfl rfl Tryz.underlying25 ti9 rfl (by decide) ?_
  intro a w g7_2 hH hE hF
  have hR := rsl_lit (n := 1) (size := 1) hH rfl (by decide)
  replace hH := hH.drop
  refine ls_append0 hF hH rfl rfl rfl rfl rfl rfl Tryz.underlying25 ti9 hS hR (one_of rfl) (by decide) (by omega) ?_
  intro a v7_3 w B7_3 hH hS hF
  refine zm 3 hF rfl fun a hF => ?_
  refine wpList_nil ?_
  refine t6.norm ?_
  refine k4 ?_
  have hlt := firstRest_lt h19'
  refine ⟨(firstRest m).length, by omega, firstRest m, acc ++ [firstLabel m], _, _, rfl, by omega, by simp; omega, ?_, hF.keep [0, 2] rfl, hH, ?_⟩
  · rw [hsp, labelsOf_cons h11' h19']; cases labelsOf (firstRest m) <;> simp
  · rw [← strV_snoc, List.length_append]; exact hS

theorem may_spec (l : Bs) (hl : l.length < 4611686018427387904) (w0 : World) : Rets Tryz.prog 56 [.string (mk l)] w0 fun v w' => v = .bool (mayB l) ∧ Ext w0 w' := by
  have hH := Hp.refl w0
  refine rets_start Tryz.func56 rfl Tryz.ntmps56 rfl fun a Q0 hF hret hend => ?_
  simp only [argsFrom, Nat.zero_add, Nat.reduceAdd] at hF
  refine c_sr fun ops => ?_
  refine zm 1 hF rfl fun a hF => ?_
  refine c_n ?_
  replace hF := hF.sel [0]
  simp only [ss, Nat.reduceBEq] at hF
  refine c_sr fun ops => ?_
  refine zm 1 hF rfl fun a hF => ?_
  refine zc hF rfl rfl fn91 (split_spec l hl _) ?_
  rintro _ w ⟨sv, B, rfl, hB, hS⟩ a hF
  replace hH := hH.ext hB.below
  refine zm 5 hF rfl fun a hF => ?_
  refine c_n ?_
  replace hF := hF.sel [4]
  simp only [ss, Nat.reduceBEq] at hF
  refine c_sr fun ops => ?_
  refine zm 2 hF rfl fun a hF => ?_
  refine c_n ?_
  replace hF := hF.sel [2]
  simp only [ss, Nat.reduceBEq] at hF
  refine wp_ret (hret (ret1 hF Tryz.results56 rfl ?_))
  exact ⟨rfl, hH.below⟩

theorem lower_spec (c : UInt8) (w0 : World) : Rets Tryz.prog 138 [.int .u8 (c.toNat : Int)] w0 fun v w' => v = .int .u8 ((lowB c).toNat : Int) ∧ Ext w0 w' := by
  have hH := Hp.refl w0
  have hc := c.toNat_lt
  refine rets_start Tryz.func138 rfl Tryz.ntmps138 rfl fun a Q0 hF hret hend => ?_
  simp only [argsFrom, Nat.zero_add, Nat.reduceAdd] at hF
  refine c_sr fun ops => ?_
  refine zm 1 hF rfl fun a hF => ?_
  refine c_n ?_
  replace hF := hF.sel [0]
  simp only [ss, Nat.reduceBEq] at hF
  refine c_seq fun Q1 k1 t1 => ?_
  refine c_sg ?_
  refine zm 1 hF rfl fun a hF => ?_
  refine zb hF rfl rfl rfl (b_gen _ _ _ 65) fun a hF => ?_
  refine zm 1 hF rfl fun a hF => ?_
  refine l_ask (d := 5) hF rfl (fun g1_2 => ?_) (fun g1_2 => ?_)
  ·
   have g1_2' := g1_2; try simp only [qq] at g1_2'
   refine zn hF rfl g1_2 fun a hF => ?_
   refine zn hF rfl g1_2 fun a hF => ?_
   refine zl hF rfl (r_pickf hF rfl rfl g1_2 rfl) fun a hF => ?_
   refine c_n ?_
   replace hF := hF.sel [0, 8]
   simp only [ss, Nat.reduceBEq] at hF
   refine c_no hF rfl rfl ?_
   refine wp_skip ?_
   refine k1 ?_
   refine c_sr fun ops => ?_
   refine zm 2 hF rfl fun a hF => ?_
   refine c_n ?_
   replace hF := hF.sel [2]
   simp only [ss, Nat.reduceBEq] at hF
   refine wp_ret (hret (ret1 hF Tryz.results138 rfl ?_))
   refine ⟨?_, hH.below⟩
   have h1 : ¬ (65 ≤ c.toNat ∧ c.toNat ≤ 90) := by omega
   simp only [lowB, if_neg h1]
  have g1_2' := g1_2; try simp only [qq] at g1_2'
  refine zy hF rfl g1_2 (r_move hF rfl rfl) fun a hF => ?_
  refine zy hF rfl g1_2 (zr hF rfl rfl (b_len _ _ _ 90)) fun a hF => ?_
  refine zl hF rfl (r_pickt hF rfl rfl g1_2 rfl) fun a hF => ?_
  refine c_n ?_
  replace hF := hF.sel [0, 8]
  simp only [ss, Nat.reduceBEq] at hF
  refine c_fi hF rfl (fun h8 => ?_) (fun h8 => ?_)
  ·
   try simp only [qq] at h8
   refine wp_skip ?_
   refine k1 ?_
   refine c_sr fun ops => ?_
   refine zm 2 hF rfl fun a hF => ?_
   refine c_n ?_
   replace hF := hF.sel [2]
   simp only [ss, Nat.reduceBEq] at hF
   refine wp_ret (hret (ret1 hF Tryz.results138 rfl ?_))
   refine ⟨?_, hH.below⟩
   have h1 : ¬ (65 ≤ c.toNat ∧ c.toNat ≤ 90) := by omega
   simp only [lowB, if_neg h1]
  try simp only [qq] at h8
  refine c_sr fun ops => ?_
  refine zm 1 hF rfl fun a hF => ?_
  refine zb hF rfl rfl rfl (b_add _ _ _ _) fun a hF => ?_
  refine zm 1 hF rfl fun a hF => ?_
  refine c_n ?_
  replace hF := hF.sel [2]
  simp only [ss, Nat.reduceBEq] at hF
  refine wp_ret (t1.ret (hret (ret1 hF Tryz.results138 rfl ?_)))
  refine ⟨?_, hH.below⟩
  have h1 : 65 ≤ c.toNat ∧ c.toNat ≤ 90 := by omega
  have h2 : (c + 32).toNat = c.toNat + 32 := by rw [UInt8.toNat_add]; simp; omega
  rw [lowB, if_pos h1, h2, IntWalk.u8_in _ (by omega)]; rfl

/-- The bytes that are folded so far, and the others. -/
theorem mid_get {cur : Array Value} {k j : Nat} {m : Bs} {u : Value} (h : cur.toList.take k = bytV m) (hj : (bytV m)[j]? = some u) : cur[j]? = some u := by
  rw [← h, List.getElem?_take] at hj
  split at hj
  · simpa using hj
  · cases hj
theorem cell_mid {cur : Array Value} {l : Bs} {i : Nat} (h : cur.toList.take l.length = bytV (low (l.take i) ++ l.drop i)) (hi : i < l.length) : cur[i]? = some (.int .u8 ((l.getD i 0).toNat : Int)) := by
  refine mid_get h ?_
  have e : (low (l.take i) ++ l.drop i).getD i 0 = l.getD i 0 := by
    have : (low (l.take i)).length = i := by simp [low]; omega
    simp [List.getD_eq_getElem?_getD, List.getElem?_append, this]
  rw [bytV_get (by simp [low]; omega), e]
theorem set_mid {cur : Array Value} {l : Bs} {i : Nat} (h : cur.toList.take l.length = bytV (low (l.take i) ++ l.drop i)) (hi : i < l.length) (hs : l.length ≤ cur.size) :
    (cur.setIfInBounds i (.int .u8 ((lowB (l.getD i 0)).toNat : Int))).toList.take l.length = bytV (low (l.take (i + 1)) ++ l.drop (i + 1)) := by
  have hl : (low (l.take i)).length = i := by simp [low]; omega
  have hg : l.getD i 0 = l[i] := by simp [List.getD_eq_getElem?_getD, hi]
  have h1 : l.take (i + 1) = l.take i ++ [l[i]] := by rw [List.take_succ_eq_append_getElem hi]
  rw [Array.toList_setIfInBounds, List.take_set, h, hg, List.drop_eq_getElem_cons hi, h1]
  simp only [low, bytV, List.map_append, List.map_cons, List.map_nil]
  have hl' : (List.map (fun b : UInt8 => Value.int IntKind.u8 (b.toNat : Int)) (List.map lowB (l.take i))).length = i := by simp; omega
  rw [List.set_append_right _ _ (by rw [hl']; exact Nat.le_refl _), hl']
  simp

theorem folded_spec (l : Bs) (hl : l.length < 4611686018427387904) (w0 : World) : Rets Tryz.prog 114 [.string (mk l)] w0 fun v w' => v = .string (mk (low l)) ∧ Ext w0 w' := by
  have hH := Hp.refl w0
  refine rets_start Tryz.func114 rfl Tryz.ntmps114 rfl fun a Q0 hF hret hend => ?_
  simp only [argsFrom, Nat.zero_add, Nat.reduceAdd] at hF
  refine c_sr fun ops => ?_
  refine zm 1 hF rfl fun a hF => ?_
  refine c_n ?_
  replace hF := hF.sel [0]
  simp only [ss, Nat.reduceBEq] at hF
  refine c_sr fun ops => ?_
  refine zm 1 hF rfl fun a hF => ?_
  refine ls_convbytes hF hH rfl rfl rfl rfl rfl Tryz.underlying9 Tryz.underlying88 Tryz.underlying5 (by unfold maxLen; omega) ?_
  intro a w g1_1 cap1_1 cur1_1 hH hE hcap1_1 hmx1_1 hsz1_1 htk1_1 hF
  refine zm 1 hF rfl fun a hF => ?_
  refine c_n ?_
  replace hF := hF.sel [3]
  simp only [ss, Nat.reduceBEq] at hF
  have h1 : cur1_1.toList.take l.length = bytV (low (l.take 0) ++ l.drop 0) := by simpa [low] using htk1_1
  refine c_seq fun Q1 k1 t1 => ?_
  refine c_sr fun ops => ?_
  refine zm 1 hF rfl fun a hF => ?_
  refine zl hF rfl (r_len_sl hF rfl rfl Tryz.underlying88) fun a hF => ?_
  refine zm 1 hF rfl fun a hF => ?_
  refine c_n ?_
  replace hF := hF.sel [3, 8, 9, 10]
  simp only [ss, Nat.reduceBEq] at hF
  refine c_block fun Q2 t2 => ?_
  refine c_loop (fun n a w => ∃ i cur, n = l.length - i ∧ i ≤ l.length ∧ cur.size = cap1_1 ∧ cur.toList.take l.length = bytV (low (l.take i) ++ l.drop i) ∧ Fr 23 [(3, .slice (some ⟨g1_1, 0, none⟩) l.length cap1_1), (8, .slice (some ⟨g1_1, 0, none⟩) l.length cap1_1), (9, .int .i64 l.length), (10, .int .i64 i)] a ∧ Hp w0 w [(g1_1, .cells cur 5 (cap1_1, cap1_1 + 1))]) ?_ ?_
  ·
   exact ⟨_, 0, cur1_1, rfl, Nat.zero_le _, hsz1_1, h1, hF.keep [3, 8, 9, 10] rfl, by rw [← hsz1_1]; exact hH⟩
  intro n a w hI Q3 k3 t3
  obtain ⟨i, cur, hn, hi, hsz, htk, hF, hH⟩ := hI
  refine c_sr fun ops => ?_
  refine zb hF rfl rfl rfl (b_ltn _ _ _ _) fun a hF => ?_
  refine c_n ?_
  refine c_seq fun Q4 k4 t4 => ?_
  refine c_fi hF rfl (fun h11 => ?_) (fun h11 => ?_)
  ·
   try simp only [qq] at h11
   refine wp_exit (t4.exit (t3.exit (t2.here (?_))))
   refine k1 ?_
   have hR : RSl w 1 (.slice (some ⟨g1_1, 0, none⟩) l.length cap1_1) l.length (bytV (low l)) := by
     have e : i = l.length := by omega
     subst e
     refine ⟨by simp [bytV, low], _, _, rfl, hcap1_1, hmx1_1, .inr ⟨g1_1, 0, rfl, fun j u hu => ?_⟩⟩
     rw [Nat.zero_add]
     refine own_cell (i := 0) hH rfl (mid_get htk ?_)
     simpa using hu
   refine c_sr fun ops => ?_
   refine zm 1 hF rfl fun a hF => ?_
   refine zl hF rfl (r_convstr hF rfl rfl Tryz.underlying88 Tryz.underlying5 Tryz.underlying9 (hR)) fun a hF => ?_
   refine zm 1 hF rfl fun a hF => ?_
   refine c_n ?_
   replace hF := hF.sel [2]
   simp only [ss, Nat.reduceBEq] at hF
   refine wp_ret (hret (ret1 hF Tryz.results114 rfl ?_))
   exact ⟨rfl, hH.below⟩
  try simp only [qq] at h11
  have hcell := cell_mid htk h11
  refine wp_skip ?_
  refine k4 ?_
  refine c_seq fun Q5 k5 t5 => ?_
  refine c_block fun Q6 t6 => ?_
  refine c_sr fun ops => ?_
  refine zm 1 hF rfl fun a hF => ?_
  refine zl hF rfl (r_ix1 hF _ rfl rfl rfl Tryz.underlying88 ti5 (by omega)) fun a hF => ?_
  refine zl hF rfl (r_load hF rfl rfl fl5 (own_cell (i := 0) hH rfl (by simpa using hcell))) fun a hF => ?_
  refine zm 2 hF rfl fun a hF => ?_
  refine c_n ?_
  refine c_reg fun ops => ?_
  refine zm 3 hF rfl fun a hF => ?_
  refine zc hF rfl rfl fn138 (lower_spec _ _) ?_
  rintro _ w ⟨rfl, hE⟩ a hF
  replace hH := hH.ext hE
  refine zl hF rfl (r_ix1 hF _ rfl rfl rfl Tryz.underlying88 ti5 (by omega)) fun a hF => ?_
  refine ls_store 0 hF hH rfl rfl rfl rfl rfl fl5 ti5 rfl (by simp; omega) (by simp [noFreeze]; omega) (rfl) ?_
  intro w hH
  refine wpList_nil ?_
  refine t6.norm ?_
  refine k5 ?_
  refine c_reg fun ops => ?_
  refine zb hF rfl rfl rfl (b_addn _ _ 1 (by omega)) fun a hF => ?_
  refine zm 1 hF rfl fun a hF => ?_
  refine wpList_nil ?_
  refine k3 ?_
  exact ⟨l.length - (i + 1), by omega, i + 1, _, rfl, by omega, by simpa using hsz, set_mid htk h11 (by omega), hF.keep [3, 8, 9, 10] rfl, by simpa using hH⟩

theorem strV_mid {acc : List Bs} {i : Nat} (h : i < acc.length) : (strV ((acc.take i).map low ++ acc.drop i))[i]? = some (.string (mk (acc.getD i []))) := by
  have hl : ((acc.take i).map low).length = i := by simp; omega
  rw [strV_get (by simp; omega)]
  congr 3
  rw [List.getD_eq_getElem?_getD, List.getElem?_append_right (by omega), hl]
  simp
theorem strV_midset {acc : List Bs} {i : Nat} (h : i < acc.length) : (strV ((acc.take i).map low ++ acc.drop i)).set i (.string (mk (low (acc.getD i [])))) = strV ((acc.take (i + 1)).map low ++ acc.drop (i + 1)) := by
  have hl : ((acc.take i).map low).length = i := by simp; omega
  have hg : acc.getD i [] = acc[i] := by simp [List.getD_eq_getElem?_getD, h]
  rw [List.take_succ_eq_append_getElem h, hg, List.drop_eq_getElem_cons h]
  simp only [strV, List.map_append, List.map_cons, List.map_nil]
  have hl' : (List.map (fun b => Value.string (mk b)) (List.map low (acc.take i))).length = i := by simp; omega
  rw [List.set_append_right _ _ (by rw [hl']; exact Nat.le_refl _), hl']
  simp

/-- The labels of a name that may be are not long. -/
theorem labelsOf_le : ∀ (k : Nat) {n : Bs} {l : List Bs}, splitN k n = some l → (∀ x ∈ l, x.length ≤ 63) ∧ l.length ≤ n.length ∧ (joinL l).length + 1 = n.length ∧ (∀ x ∈ l, 0 < x.length)
  | 0, n, l, h => by simp [splitN] at h
  | k + 1, n, l, h => by
    unfold splitN at h
    split at h
    · rename_i h0
      cases h; subst h0; simp [joinL]
    · split at h
      · rename_i h1 h2
        obtain ⟨m, hm, rfl⟩ := Option.map_eq_some_iff.1 h
        obtain ⟨i1, i2, i3, i4⟩ := labelsOf_le k hm
        have hf := firstB_iff.1 h2
        have e1 : (firstLabel n).length = (n.getD 0 0).toNat := by rw [firstLabel, if_pos h2, List.length_drop, List.length_take]; omega
        have e2 : (firstRest n).length = n.length - ((n.getD 0 0).toNat + 1) := by rw [firstRest, if_pos h2, List.length_drop]
        refine ⟨?_, ?_, ?_, ?_⟩
        · intro x hx
          rcases List.mem_cons.1 hx with rfl | hx
          · omega
          · exact i1 x hx
        · simp; omega
        · simp [joinL]; omega
        · intro x hx
          rcases List.mem_cons.1 hx with rfl | hx
          · omega
          · exact i4 x hx
      · cases h
theorem split_le {n : Bs} {l : List Bs} (h : split n = some l) : n.length ≤ 255 ∧ (∀ x ∈ l, x.length ≤ 63) ∧ l.length ≤ n.length ∧ (joinL l).length + 1 = n.length ∧ (∀ x ∈ l, 0 < x.length) := by
  unfold split at h
  split at h
  · cases h
  · exact ⟨by omega, labelsOf_le _ h⟩
theorem split_getD_le (n : Bs) : ((split n).getD []).length ≤ 255 ∧ ∀ x ∈ (split n).getD [], x.length ≤ 63 := by
  cases h : split n with
  | none => simp
  | some l => have := split_le h; exact ⟨by simp; omega, by simpa using this.2.1⟩
theorem getD_mem {l : List Bs} {i : Nat} (h : i < l.length) : l.getD i [] ∈ l := by
  rw [List.getD_eq_getElem?_getD, List.getElem?_eq_getElem h]; exact List.getElem_mem h

theorem all_spec (l : Bs) (hl : l.length < 4611686018427387904) (w0 : World) : Rets Tryz.prog 81 [.string (mk l)] w0 fun v w' => ∃ sv B, v = .tuple #[sv, .bool (mayB l)] ∧ Hp w0 w' B ∧ Sl 9 1 B sv ((split l).getD []).length (strV (((split l).getD []).map low)) := by
  have hH := Hp.refl w0
  obtain ⟨hn1, hn2⟩ := split_getD_le l
  refine rets_start Tryz.func81 rfl Tryz.ntmps81 rfl fun a Q0 hF hret hend => ?_
  simp only [argsFrom, Nat.zero_add, Nat.reduceAdd] at hF
  refine c_sr fun ops => ?_
  refine zm 2 hF rfl fun a hF => ?_
  refine c_n ?_
  replace hF := hF.sel [0]
  simp only [ss, Nat.reduceBEq] at hF
  refine c_sr fun ops => ?_
  refine zm 1 hF rfl fun a hF => ?_
  refine zc hF rfl rfl fn91 (split_spec l hl _) ?_
  rintro _ w ⟨sv, B, rfl, hB, hS⟩ a hF
  replace hH := hB
  refine zm 5 hF rfl fun a hF => ?_
  refine c_n ?_
  replace hF := hF.sel [4, 5]
  simp only [ss, Nat.reduceBEq] at hF
  generalize hacc : (split l).getD [] = acc at *
  refine c_seq fun Q1 k1 t1 => ?_
  obtain ⟨ad, cp, hsv⟩ := hS.shape
  have hS' : Sl 9 1 B sv acc.length (strV ((acc.take 0).map low ++ acc.drop 0)) := by simpa using hS
  subst hsv
  refine c_sr fun ops => ?_
  refine zm 1 hF rfl fun a hF => ?_
  refine zl hF rfl (r_len_sl hF rfl rfl Tryz.underlying25) fun a hF => ?_
  refine zm 1 hF rfl fun a hF => ?_
  refine c_n ?_
  replace hF := hF.sel [4, 5, 13, 14, 15]
  simp only [ss, Nat.reduceBEq] at hF
  refine c_block fun Q2 t2 => ?_
  refine c_loop (fun n a w => ∃ i B, n = acc.length - i ∧ i ≤ acc.length ∧ Sl 9 1 B (.slice ad acc.length cp) acc.length (strV ((acc.take i).map low ++ acc.drop i)) ∧ Fr 28 [(4, .slice ad acc.length cp), (5, .bool (mayB l)), (13, .slice ad acc.length cp), (14, .int .i64 acc.length), (15, .int .i64 i)] a ∧ Hp w0 w B) ?_ ?_
  ·
   exact ⟨_, 0, B, rfl, Nat.zero_le _, hS', hF.keep [4, 5, 13, 14, 15] rfl, hH⟩
  clear hS hS' hH hF
  intro n a w hI Q3 k3 t3
  obtain ⟨i, B, hn, hi, hS, hF, hH⟩ := hI
  refine c_sr fun ops => ?_
  refine zb hF rfl rfl rfl (b_ltn _ _ _ _) fun a hF => ?_
  refine c_n ?_
  refine c_seq fun Q4 k4 t4 => ?_
  refine c_fi hF rfl (fun h16 => ?_) (fun h16 => ?_)
  ·
   try simp only [qq] at h16
   refine wp_exit (t4.exit (t3.exit (t2.here (?_))))
   refine k1 ?_
   refine c_sr fun ops => ?_
   refine zm 4 hF rfl fun a hF => ?_
   refine c_n ?_
   replace hF := hF.sel [2, 3]
   simp only [ss, Nat.reduceBEq] at hF
   refine wp_ret (hret (ret2 hF Tryz.results81 rfl rfl ?_))
   have e : i = acc.length := by omega
   subst e
   exact ⟨_, _, rfl, hH, by simpa using hS⟩
  try simp only [qq] at h16
  obtain ⟨g, cap, cur, hv, rfl, h3, h4, h5, h6⟩ := hS.open (by omega)
  cases hv
  have hcell := take_get h6 (strV_mid h16)
  have hlab := hn2 _ (getD_mem h16)
  have hi255 : i < 1000000 := by omega
  refine wp_skip ?_
  refine k4 ?_
  refine c_seq fun Q5 k5 t5 => ?_
  refine c_block fun Q6 t6 => ?_
  refine c_sr fun ops => ?_
  refine zm 1 hF rfl fun a hF => ?_
  refine zl hF rfl (r_ixown1 hF _ rfl rfl rfl Tryz.underlying25 ti9 (by omega)) fun a hF => ?_
  refine zl hF rfl (r_load hF rfl rfl fl9 (own_cell (i := 0) hH rfl hcell)) fun a hF => ?_
  refine zm 2 hF rfl fun a hF => ?_
  refine c_n ?_
  refine c_reg fun ops => ?_
  refine zm 3 hF rfl fun a hF => ?_
  refine zc hF rfl rfl fn114 (folded_spec _ (by omega) _) ?_
  rintro _ w ⟨rfl, hE⟩ a hF
  replace hH := hH.ext hE
  refine zl hF rfl (r_ixown1 hF _ rfl rfl rfl Tryz.underlying25 ti9 (by omega)) fun a hF => ?_
  refine ls_store 0 hF hH rfl rfl rfl rfl rfl fl9 ti9 rfl (by omega) (by simp [noFreeze]) (rfl) ?_
  intro w hH
  refine wpList_nil ?_
  refine t6.norm ?_
  refine k5 ?_
  refine c_reg fun ops => ?_
  refine zb hF rfl rfl rfl (b_addn _ _ 1 (by omega)) fun a hF => ?_
  refine zm 1 hF rfl fun a hF => ?_
  refine wpList_nil ?_
  refine k3 ?_
  exact ⟨acc.length - (i + 1), by omega, i + 1, _, rfl, by omega, by rw [← strV_midset h16]; exact Sl.set _ _ hS.len h3 h4 h5 h6, hF.keep [4, 5, 13, 14, 15] rfl, hH⟩

theorem joinL_append : ∀ (a b : List Bs), joinL (a ++ b) = joinL a ++ joinL b
  | [], b => rfl
  | x :: a, b => by simp [joinL, joinL_append a b]
theorem joinL_take {acc : List Bs} {i : Nat} (h : i < acc.length) : joinL (acc.take (i + 1)) = joinL (acc.take i) ++ UInt8.ofNat (acc.getD i []).length :: acc.getD i [] := by
  have hg : acc.getD i [] = acc[i] := by simp [List.getD_eq_getElem?_getD, h]
  rw [List.take_succ_eq_append_getElem h, joinL_append, hg]; simp [joinL]
theorem joinL_take_le (acc : List Bs) (k : Nat) : (joinL (acc.take k)).length ≤ (joinL acc).length := by
  have := joinL_append (acc.take k) (acc.drop k)
  rw [List.take_append_drop] at this
  rw [this]; simp
theorem joinL_low : ∀ (acc : List Bs), (joinL (acc.map low)).length = (joinL acc).length
  | [] => rfl
  | x :: a => by simp [joinL, joinL_low a, low]
theorem low_le {acc : List Bs} {k : Nat} (h : ∀ x ∈ acc, x.length ≤ k) : ∀ x ∈ acc.map low, x.length ≤ k := by
  intro x hx
  obtain ⟨y, hy, rfl⟩ := List.mem_map.1 hx
  simpa [low] using h y hy

theorem joined_spec (ls' : List Bs) (v : Value) (w0 : World) (hR : RSl w0 1 v ls'.length (strV ls')) (hlen : (joinL ls').length < 1000000) (hlen2 : ls'.length ≤ 1000000) (h63 : ∀ x ∈ ls', x.length ≤ 63) : Rets Tryz.prog 82 [v] w0 fun v w' => v = .string (mk (joinL ls' ++ [0])) ∧ Ext w0 w' := by
  have hH := Hp.refl w0
  obtain ⟨hl1, ad, cap, rfl, hc1, hc2, hc3⟩ := hR
  refine rets_start Tryz.func82 rfl Tryz.ntmps82 rfl fun a Q0 hF hret hend => ?_
  simp only [argsFrom, Nat.zero_add, Nat.reduceAdd] at hF
  refine c_sr fun ops => ?_
  refine zm 1 hF rfl fun a hF => ?_
  refine c_n ?_
  replace hF := hF.sel [0]
  simp only [ss, Nat.reduceBEq] at hF
  refine c_sr fun ops => ?_
  refine ls_alloc hF hH rfl rfl rfl rfl zv146 ?_
  intro a w g1_0 hH hE hF
  refine c_n ?_
  replace hF := hF.sel [0, 3]
  simp only [ss, Nat.reduceBEq] at hF
  refine c_seq fun Q1 k1 t1 => ?_
  refine c_sr fun ops => ?_
  refine zm 1 hF rfl fun a hF => ?_
  refine zl hF rfl (r_len_sl hF rfl rfl Tryz.underlying25) fun a hF => ?_
  refine zm 1 hF rfl fun a hF => ?_
  refine c_n ?_
  replace hF := hF.sel [3, 6, 7, 8]
  simp only [ss, Nat.reduceBEq] at hF
  refine c_block fun Q2 t2 => ?_
  refine c_loop (fun n a w => ∃ i BB, n = ls'.length - i ∧ i ≤ ls'.length ∧ Bld g1_0 BB (joinL (ls'.take i)) ∧ Fr 21 [(3, .pointer (some ⟨g1_0, 0, none⟩)), (6, .slice ad ls'.length cap), (7, .int .i64 ls'.length), (8, .int .i64 i)] a ∧ Hp w0 w BB) ?_ ?_
  ·
   exact ⟨_, 0, _, rfl, Nat.zero_le _, Bld.new _, hF.keep [3, 6, 7, 8] rfl, hH⟩
  clear hH hF
  intro n a w hI Q3 k3 t3
  obtain ⟨i, BB, hn, hi, hb, hF, hH⟩ := hI
  refine c_sr fun ops => ?_
  refine zb hF rfl rfl rfl (b_ltn _ _ _ _) fun a hF => ?_
  refine c_n ?_
  refine c_seq fun Q4 k4 t4 => ?_
  refine c_fi hF rfl (fun h9 => ?_) (fun h9 => ?_)
  ·
   try simp only [qq] at h9
   refine wp_exit (t4.exit (t3.exit (t2.here (?_))))
   refine k1 ?_
   have e : i = ls'.length := by omega
   subst e
   rw [List.take_length] at hb
   refine c_sr fun ops => ?_
   refine zc hF rfl rfl fn107 (string_spec (H := []) (by rw [List.append_nil]; exact hH) hb) ?_
   rintro _ w ⟨rfl, hE⟩ a hF
   
   refine zb hF rfl rfl rfl (b_sadd _ _ [0] (by simp; omega)) fun a hF => ?_
   refine zm 1 hF rfl fun a hF => ?_
   refine c_n ?_
   replace hF := hF.sel [2]
   simp only [ss, Nat.reduceBEq] at hF
   refine wp_ret (hret (ret1 hF Tryz.results82 rfl ?_))
   exact ⟨rfl, hE⟩
  try simp only [qq] at h9
  obtain ⟨b, off, rfl, hc⟩ : ∃ b off, ad = some ⟨b, off, none⟩ ∧ ∀ j u, (strV ls')[j]? = some u → w0.cell? ⟨b, off + j, none⟩ = some u := by
    rcases hc3 with ⟨_, _, h0⟩ | h
    · omega
    · exact h
  have hcell := hc i _ (strV_get h9)
  have hx := h63 _ (getD_mem h9)
  have hj := joinL_take h9
  have hjl : (joinL (ls'.take (i + 1))).length ≤ (joinL ls').length := joinL_take_le _ _
  rw [hj] at hjl
  simp only [List.length_append, List.length_cons] at hjl
  generalize ls'.getD i [] = y at *
  have hi63 : i < 2000000 := by omega
  refine wp_skip ?_
  refine k4 ?_
  refine c_seq fun Q5 k5 t5 => ?_
  refine c_block fun Q6 t6 => ?_
  refine c_sr fun ops => ?_
  refine zl hF rfl (r_ix1 hF _ rfl rfl rfl Tryz.underlying25 ti9 (by omega)) fun a hF => ?_
  refine zl hF rfl (r_load hF rfl rfl fl9 (hH.cell hcell)) fun a hF => ?_
  refine zm 1 hF rfl fun a hF => ?_
  refine c_n ?_
  refine c_sr fun ops => ?_
  refine zm 1 hF rfl fun a hF => ?_
  refine zl hF rfl (r_len_str hF rfl rfl Tryz.underlying9) fun a hF => ?_
  refine zl hF rfl (r_convin hF rfl rfl (by rw [Tryz.underlying3]; rfl) Tryz.underlying5 (0) 255 mn_u8 mx_u8 (by omega)) fun a hF => ?_
  refine zc hF rfl rfl fn115 (writeByte_spec (H := []) (by rw [List.append_nil]; exact hH) hb (UInt8.ofNat y.length) _ (by rw [UInt8.toNat_ofNat_of_lt' (by simp [UInt8.size]; omega)]) (by omega)) ?_
  rintro _ w ⟨rfl, BB, hH, hb⟩ a hF
  refine c_n ?_
  refine c_reg fun ops => ?_
  refine zm 1 hF rfl fun a hF => ?_
  refine zc hF rfl rfl fn106 (writeString_spec hH hb _ (by simp; omega)) ?_
  rintro _ w ⟨rfl, BB, hH, hb⟩ a hF
  refine wpList_nil ?_
  refine t6.norm ?_
  refine k5 ?_
  refine c_reg fun ops => ?_
  refine zb hF rfl rfl rfl (b_addn _ _ 1 (by omega)) fun a hF => ?_
  refine zm 1 hF rfl fun a hF => ?_
  refine wpList_nil ?_
  refine k3 ?_
  exact ⟨ls'.length - (i + 1), by omega, i + 1, BB, rfl, by omega, by rw [hj]; simpa using hb, hF.keep [3, 6, 7, 8] rfl, by simpa using hH⟩

theorem fold_spec (l : Bs) (hl : l.length < 4611686018427387904) (w0 : World) : Rets Tryz.prog 37 [.string (mk l)] w0 fun v w' => v = .string (mk (fold l)) ∧ Ext w0 w' := by
  have hH := Hp.refl w0
  refine rets_start Tryz.func37 rfl Tryz.ntmps37 rfl fun a Q0 hF hret hend => ?_
  simp only [argsFrom, Nat.zero_add, Nat.reduceAdd] at hF
  refine c_sr fun ops => ?_
  refine zm 1 hF rfl fun a hF => ?_
  refine c_n ?_
  replace hF := hF.sel [0]
  simp only [ss, Nat.reduceBEq] at hF
  refine c_sr fun ops => ?_
  refine zm 1 hF rfl fun a hF => ?_
  refine zc hF rfl rfl fn81 (all_spec l hl _) ?_
  rintro _ w ⟨sv, B, rfl, hH, hS⟩ a hF
  
  refine zm 5 hF rfl fun a hF => ?_
  refine c_n ?_
  replace hF := hF.sel [3, 4]
  simp only [ss, Nat.reduceBEq] at hF
  refine c_seq fun Q1 k1 t1 => ?_
  refine c_sr fun ops => ?_
  refine zm 1 hF rfl fun a hF => ?_
  refine zl hF rfl (r_not hF rfl rfl) fun a hF => ?_
  refine c_n ?_
  replace hF := hF.sel [3, 11]
  simp only [ss, Nat.reduceBEq] at hF
  refine c_if hF rfl (fun h11 => ?_) (fun h11 => ?_)
  ·
   try simp only [qq] at h11
   refine c_sr fun ops => ?_
   refine zm 1 hF rfl fun a hF => ?_
   refine c_n ?_
   replace hF := hF.sel [2]
   simp only [ss, Nat.reduceBEq] at hF
   refine wp_ret (t1.ret (hret (ret1 hF Tryz.results37 rfl ?_)))
   have h : split l = none := by simpa [mayB] using h11
   exact ⟨by rw [fold, h]; rfl, hH.below⟩
  try simp only [qq] at h11
  obtain ⟨acc, hacc⟩ : ∃ acc, split l = some acc := Option.isSome_iff_exists.1 (by simpa [mayB] using h11)
  rw [hacc] at hS
  simp only [Option.getD_some] at hS
  obtain ⟨hb1, hb2, hb3, hb4, hb5⟩ := split_le hacc
  refine wp_skip ?_
  refine k1 ?_
  refine c_sr fun ops => ?_
  refine zm 1 hF rfl fun a hF => ?_
  refine zc hF rfl rfl fn82 (joined_spec (acc.map low) sv _ (by simpa using hS.rsl hH fun p hp => hp) (by rw [joinL_low]; omega) (by simp; omega) (low_le hb2)) ?_
  rintro _ w ⟨rfl, hE⟩ a hF
  replace hH := hH.ext hE
  refine zm 1 hF rfl fun a hF => ?_
  refine c_n ?_
  replace hF := hF.sel [2]
  simp only [ss, Nat.reduceBEq] at hF
  refine wp_ret (hret (ret1 hF Tryz.results37 rfl ?_))
  exact ⟨by rw [fold, hacc], hH.below⟩

theorem same_spec (l m : Bs) (hl : l.length < 4611686018427387904) (hm : m.length < 4611686018427387904) (w0 : World) : Rets Tryz.prog 29 [.string (mk l), .string (mk m)] w0 fun v w' => v = .bool (sameB l m) ∧ Ext w0 w' := by
  have hH := Hp.refl w0
  refine rets_start Tryz.func29 rfl Tryz.ntmps29 rfl fun a Q0 hF hret hend => ?_
  simp only [argsFrom, Nat.zero_add, Nat.reduceAdd] at hF
  refine c_sr fun ops => ?_
  refine zm 1 hF rfl fun a hF => ?_
  refine c_n ?_
  replace hF := hF.sel [0, 1]
  simp only [ss, Nat.reduceBEq] at hF
  refine c_sg ?_
  refine zm 1 hF rfl fun a hF => ?_
  refine zc hF rfl rfl fn56 (may_spec l hl _) ?_
  rintro _ w ⟨rfl, hE⟩ a hF
  replace hH := hH.ext hE
  refine zm 1 hF rfl fun a hF => ?_
  refine l_ask (d := 7) hF rfl (fun g1_2 => ?_) (fun g1_2 => ?_)
  ·
   have g1_2' := g1_2; try simp only [qq] at g1_2'
   refine zn hF rfl g1_2 fun a hF => ?_
   refine zn hF rfl g1_2 fun a hF => ?_
   refine zl hF rfl (r_pickf hF rfl rfl g1_2 rfl) fun a hF => ?_
   refine zm 1 hF rfl fun a hF => ?_
   refine zn hF rfl rfl fun a hF => ?_
   refine zn hF rfl rfl fun a hF => ?_
   refine zn hF rfl rfl fun a hF => ?_
   refine zn hF rfl rfl fun a hF => ?_
   refine zn hF rfl rfl fun a hF => ?_
   refine zl hF rfl (r_pickf hF rfl rfl rfl rfl) fun a hF => ?_
   refine zm 1 hF rfl fun a hF => ?_
   refine c_n ?_
   replace hF := hF.sel [4]
   simp only [ss, Nat.reduceBEq] at hF
   refine wp_ret (hret (ret1 hF Tryz.results29 rfl ?_))
   refine ⟨?_, hH.below⟩
   simp_all [sameB]
  have g1_2' := g1_2; try simp only [qq] at g1_2'
  refine zy hF rfl g1_2 (r_move hF rfl rfl) fun a hF => ?_
  refine zyc hF rfl g1_2 rfl fn56 (may_spec m hm _) ?_
  rintro _ w ⟨rfl, hE⟩ a hF
  replace hH := hH.ext hE
  refine zl hF rfl (r_pickt hF rfl rfl g1_2 rfl) fun a hF => ?_
  refine zm 1 hF rfl fun a hF => ?_
  refine l_ask (d := 11) hF rfl (fun g1_6 => ?_) (fun g1_6 => ?_)
  ·
   have g1_6' := g1_6; try simp only [qq] at g1_6'
   refine zn hF rfl g1_6 fun a hF => ?_
   refine zn hF rfl g1_6 fun a hF => ?_
   refine zn hF rfl g1_6 fun a hF => ?_
   refine zn hF rfl g1_6 fun a hF => ?_
   refine zn hF rfl g1_6 fun a hF => ?_
   refine zl hF rfl (r_pickf hF rfl rfl g1_6 rfl) fun a hF => ?_
   refine zm 1 hF rfl fun a hF => ?_
   refine c_n ?_
   replace hF := hF.sel [4]
   simp only [ss, Nat.reduceBEq] at hF
   refine wp_ret (hret (ret1 hF Tryz.results29 rfl ?_))
   refine ⟨?_, hH.below⟩
   simp_all [sameB]
  have g1_6' := g1_6; try simp only [qq] at g1_6'
  refine zy hF rfl g1_6 (r_move hF rfl rfl) fun a hF => ?_
  refine zyc hF rfl g1_6 rfl fn37 (fold_spec l hl _) ?_
  rintro _ w ⟨rfl, hE⟩ a hF
  replace hH := hH.ext hE
  refine zy hF rfl g1_6 (r_move hF rfl rfl) fun a hF => ?_
  refine zyc hF rfl g1_6 rfl fn37 (fold_spec m hm _) ?_
  rintro _ w ⟨rfl, hE⟩ a hF
  replace hH := hH.ext hE
  refine zy hF rfl g1_6 (zr hF rfl rfl (b_seq _ _ _)) fun a hF => ?_
  refine zl hF rfl (r_pickt hF rfl rfl g1_6 rfl) fun a hF => ?_
  refine zm 1 hF rfl fun a hF => ?_
  refine c_n ?_
  replace hF := hF.sel [4]
  simp only [ss, Nat.reduceBEq] at hF
  refine wp_ret (hret (ret1 hF Tryz.results29 rfl ?_))
  refine ⟨?_, hH.below⟩
  simp_all [sameB]
end Go.Proofs.YtcelgjabccgnmaaGreatDoor
