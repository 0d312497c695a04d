/-
  The walks of package name: what each function computes, by plain functions on lists of bytes.
-/
import Derived.Test.YtpoebplhemimmaaGreatDoorBuild
import Derived.Test.YtpoebplhemimmaaGreatDoorSpec
namespace Go.Proofs.YtpoebplhemimmaaGreatDoor
open Go.RowKit
set_option linter.unusedVariables false

set_option linter.unusedSimpArgs false
set_option maxHeartbeats 1000000

theorem first_spec (l : Bs) (hl : l.length < 4611686018427387904) (w : World) : Rets Tryz.prog 90 [.string (mk l)] w fun v w' => v = .tuple #[.string (mk (firstLabel l)), .string (mk (firstRest l)), .bool (firstB l)] ∧ Ext w w' := by
  have hH := Hp.refl w
  have hc := (l.getD 0 0).toNat_lt
  refine rets_start Tryz.func90 rfl Tryz.ntmps90 rfl fun a Q0 hF hret hend => ?_
  simp only [argsFrom, Nat.zero_add, Nat.reduceAdd] at hF
  refine c_sr fun ops => ?_
  refine zm 3 hF rfl fun a hF => ?_
  refine c_n ?_
  replace hF := hF.sel [0]
  simp only [ss, Nat.reduceBEq] at hF
  refine c_seq fun Q1 k1 t1 => ?_
  refine c_sg ?_
  refine zm 1 hF rfl fun a hF => ?_
  refine zb hF rfl rfl rfl (b_seq _ _ []) fun a hF => ?_
  refine zm 1 hF rfl fun a hF => ?_
  refine ls_ask (d := 8) hF rfl (fun g1_2 => ?_) (fun g1_2 => ?_)
  ·
   have g1_2' := g1_2; try simp only [qq] at g1_2'
   subst g1_2'
   refine zn hF rfl g1_2 fun a hF => ?_
   refine zn hF rfl g1_2 fun a hF => ?_
   refine zn hF rfl g1_2 fun a hF => ?_
   refine zl hF rfl (r_pickt hF rfl rfl g1_2 rfl) fun a hF => ?_
   refine zm 1 hF rfl fun a hF => ?_
   refine zn hF rfl rfl fun a hF => ?_
   refine zn hF rfl rfl fun a hF => ?_
   refine zn hF rfl rfl fun a hF => ?_
   refine zl hF rfl (r_pickt hF rfl rfl rfl rfl) fun a hF => ?_
   refine zm 1 hF rfl fun a hF => ?_
   refine zn hF rfl rfl fun a hF => ?_
   refine zn hF rfl rfl fun a hF => ?_
   refine zn hF rfl rfl fun a hF => ?_
   refine zn hF rfl rfl fun a hF => ?_
   refine zn hF rfl rfl fun a hF => ?_
   refine zn hF rfl rfl fun a hF => ?_
   refine zn hF rfl rfl fun a hF => ?_
   refine zl hF rfl (r_pickt hF rfl rfl rfl rfl) fun a hF => ?_
   refine c_n ?_
   replace hF := hF.sel [0, 26]
   simp only [ss, Nat.reduceBEq] at hF
   refine c_yes hF rfl rfl ?_
   refine c_sr fun ops => ?_
   refine zm 3 hF rfl fun a hF => ?_
   refine c_n ?_
   replace hF := hF.sel [2, 3, 4]
   simp only [ss, Nat.reduceBEq] at hF
   refine wp_ret (t1.ret (hret (ret3 hF Tryz.results90 rfl rfl rfl ?_)))
   exact ⟨rfl, hH.below⟩
  have g1_2' := g1_2; try simp only [qq] at g1_2'
  have hp := List.length_pos_iff.2 g1_2'
  refine zy hF rfl g1_2 (r_move hF rfl rfl) fun a hF => ?_
  refine zy hF rfl g1_2 (r_indexn hF 0 rfl rfl rfl Tryz.underlying9 (by omega)) fun a hF => ?_
  refine zy hF rfl g1_2 (zr hF rfl rfl (b_eqn _ _ _ 0)) fun a hF => ?_
  refine zl hF rfl (r_pickf hF rfl rfl g1_2 rfl) fun a hF => ?_
  refine zm 1 hF rfl fun a hF => ?_
  refine ls_ask (d := 13) hF rfl (fun g1_7 => ?_) (fun g1_7 => ?_)
  ·
   have g1_7' := g1_7; try simp only [qq] at g1_7'
   refine zn hF rfl g1_7 fun a hF => ?_
   refine zn hF rfl g1_7 fun a hF => ?_
   refine zn hF rfl g1_7 fun a hF => ?_
   refine zl hF rfl (r_pickt hF rfl rfl g1_7 rfl) fun a hF => ?_
   refine zm 1 hF rfl fun a hF => ?_
   refine zn hF rfl rfl fun a hF => ?_
   refine zn hF rfl rfl fun a hF => ?_
   refine zn hF rfl rfl fun a hF => ?_
   refine zn hF rfl rfl fun a hF => ?_
   refine zn hF rfl rfl fun a hF => ?_
   refine zn hF rfl rfl fun a hF => ?_
   refine zn hF rfl rfl fun a hF => ?_
   refine zl hF rfl (r_pickt hF rfl rfl rfl rfl) fun a hF => ?_
   refine c_n ?_
   replace hF := hF.sel [0, 26]
   simp only [ss, Nat.reduceBEq] at hF
   refine c_yes hF rfl rfl ?_
   refine c_sr fun ops => ?_
   refine zm 3 hF rfl fun a hF => ?_
   refine c_n ?_
   replace hF := hF.sel [2, 3, 4]
   simp only [ss, Nat.reduceBEq] at hF
   refine wp_ret (t1.ret (hret (ret3 hF Tryz.results90 rfl rfl rfl ?_)))
   have hb : firstB l = false := firstB_no (by omega)
   exact ⟨by simp only [firstLabel, firstRest, hb]; rfl, hH.below⟩
  have g1_7' := g1_7; try simp only [qq] at g1_7'
  refine zy hF rfl g1_7 (r_move hF rfl rfl) fun a hF => ?_
  refine zy hF rfl g1_7 (r_indexn hF 0 rfl rfl rfl Tryz.underlying9 (by omega)) fun a hF => ?_
  refine zy hF rfl g1_7 (zr hF rfl rfl (b_gtn _ _ _ 63)) fun a hF => ?_
  refine zl hF rfl (r_pickf hF rfl rfl g1_7 rfl) fun a hF => ?_
  refine zm 1 hF rfl fun a hF => ?_
  refine ls_ask (d := 18) hF rfl (fun g1_12 => ?_) (fun g1_12 => ?_)
  ·
   have g1_12' := g1_12; try simp only [qq] at g1_12'
   refine zn hF rfl g1_12 fun a hF => ?_
   refine zn hF rfl g1_12 fun a hF => ?_
   refine zn hF rfl g1_12 fun a hF => ?_
   refine zn hF rfl g1_12 fun a hF => ?_
   refine zn hF rfl g1_12 fun a hF => ?_
   refine zn hF rfl g1_12 fun a hF => ?_
   refine zn hF rfl g1_12 fun a hF => ?_
   refine zl hF rfl (r_pickt hF rfl rfl g1_12 rfl) fun a hF => ?_
   refine c_n ?_
   replace hF := hF.sel [0, 26]
   simp only [ss, Nat.reduceBEq] at hF
   refine c_yes hF rfl rfl ?_
   refine c_sr fun ops => ?_
   refine zm 3 hF rfl fun a hF => ?_
   refine c_n ?_
   replace hF := hF.sel [2, 3, 4]
   simp only [ss, Nat.reduceBEq] at hF
   refine wp_ret (t1.ret (hret (ret3 hF Tryz.results90 rfl rfl rfl ?_)))
   have hb : firstB l = false := firstB_no (by omega)
   exact ⟨by simp only [firstLabel, firstRest, hb]; rfl, hH.below⟩
  have g1_12' := g1_12; try simp only [qq] at g1_12'
  refine zy hF rfl g1_12 (r_move hF rfl rfl) fun a hF => ?_
  refine zy hF rfl g1_12 (r_len_str hF rfl rfl Tryz.underlying9) fun a hF => ?_
  refine zy hF rfl g1_12 (r_move hF rfl rfl) fun a hF => ?_
  refine zy hF rfl g1_12 (r_indexn hF 0 rfl rfl rfl Tryz.underlying9 (by omega)) fun a hF => ?_
  refine zy hF rfl g1_12 (r_convin hF rfl rfl (by rw [Tryz.underlying5]; rfl) Tryz.underlying3 (-9223372036854775808) 9223372036854775807 mn_i64 mx_i64 (by omega)) fun a hF => ?_
  refine zy hF rfl g1_12 (zr hF rfl rfl (b_addn _ _ 2 (by omega))) fun a hF => ?_
  refine zy hF rfl g1_12 (zr hF rfl rfl (b_ltn _ _ _ _)) fun a hF => ?_
  refine zl hF rfl (r_pickf hF rfl rfl g1_12 rfl) fun a hF => ?_
  refine c_n ?_
  replace hF := hF.sel [0, 26]
  simp only [ss, Nat.reduceBEq] at hF
  refine c_if hF rfl (fun h26 => ?_) (fun h26 => ?_)
  ·
   try simp only [qq] at h26
   refine c_sr fun ops => ?_
   refine zm 3 hF rfl fun a hF => ?_
   refine c_n ?_
   replace hF := hF.sel [2, 3, 4]
   simp only [ss, Nat.reduceBEq] at hF
   refine wp_ret (t1.ret (hret (ret3 hF Tryz.results90 rfl rfl rfl ?_)))
   have hb : firstB l = false := firstB_no (by omega)
   exact ⟨by simp only [firstLabel, firstRest, hb]; rfl, hH.below⟩
  try simp only [qq] at h26
  refine wp_skip ?_
  refine k1 ?_
  refine c_sr fun ops => ?_
  refine zm 1 hF rfl fun a hF => ?_
  refine zl hF rfl (r_indexn hF 0 rfl rfl rfl Tryz.underlying9 (by omega)) fun a hF => ?_
  refine zl hF rfl (r_convin hF rfl rfl (by rw [Tryz.underlying5]; rfl) Tryz.underlying3 (-9223372036854775808) 9223372036854775807 mn_i64 mx_i64 (by omega)) fun a hF => ?_
  refine zb hF rfl rfl rfl (b_addn _ _ 1 (by omega)) fun a hF => ?_
  refine zm 1 hF rfl fun a hF => ?_
  refine c_n ?_
  replace hF := hF.sel [0, 5]
  simp only [ss, Nat.reduceBEq] at hF
  refine c_seq fun Q2 k2 t2 => ?_
  refine q_reg (by kernel_rfl) (by kernel_rfl) ?_
  refine qs hF rfl rfl rfl (fun w hw => r_move hF rfl rfl) fun a hF => ?_
  refine qs hF rfl rfl rfl (fun w hw => r_move hF rfl rfl) fun a hF => ?_
  refine qs hF rfl rfl rfl (fun w hw => r_slicen hF 1 _ rfl rfl Tryz.underlying9 ⟨_, rfl⟩ ⟨_, rfl⟩ (by omega)) fun a hF => ?_
  refine qs hF rfl rfl rfl (fun w hw => r_move hF rfl rfl) fun a hF => ?_
  refine qs hF rfl rfl rfl (fun w hw => r_move hF rfl rfl) fun a hF => ?_
  refine qs hF rfl rfl rfl (fun w hw => r_slicefn hF _ rfl rfl Tryz.underlying9 ⟨_, rfl⟩ (by omega)) fun a hF => ?_
  refine qs hF rfl rfl rfl (fun w hw => r_assign hF rfl rfl) fun a hF => ?_
  refine qs hF rfl rfl rfl (fun w hw => r_assign hF rfl rfl) fun a hF => ?_
  refine qs hF rfl rfl rfl (fun w hw => r_assign hF rfl rfl) fun a hF => ?_
  refine q_nil fun w hE => ?_
  replace hH := hH.ext hE
  replace hF := hF.sel [2, 3, 4]
  simp only [ss, Nat.reduceBEq] at hF
  refine k2 ?_
  refine wp_ret (hret (ret3 hF Tryz.results90 rfl rfl rfl ?_))
  have hb : firstB l = true := firstB_iff.2 (by omega)
  exact ⟨by simp only [firstLabel, firstRest, hb]; rfl, hH.below⟩

theorem split_spec (l : Bs) (hl : l.length < 4611686018427387904) (w0 : World) : Rets Tryz.prog 74 [.string (mk l)] w0 fun v w' => ∃ sv B, v = .tuple #[sv, .bool (mayB l)] ∧ Hp w0 w' B ∧ Sl 9 1 B sv ((split l).getD []).length (strV ((split l).getD [])) := by
  have hH := Hp.refl w0
  refine rets_start Tryz.func74 rfl Tryz.ntmps74 rfl fun a Q0 hF hret hend => ?_
  simp only [argsFrom, Nat.zero_add, Nat.reduceAdd] at hF
  refine c_sr fun ops => ?_
  refine zm 2 hF rfl fun a hF => ?_
  refine c_n ?_
  replace hF := hF.sel [0, 2]
  simp only [ss, Nat.reduceBEq] at hF
  refine c_seq fun Q1 k1 t1 => ?_
  refine c_sr fun ops => ?_
  refine zm 1 hF rfl fun a hF => ?_
  refine zl hF rfl (r_len_str hF rfl rfl Tryz.underlying9) fun a hF => ?_
  refine zb hF rfl rfl rfl (b_gtn _ _ _ 255) fun a hF => ?_
  refine c_n ?_
  replace hF := hF.sel [0, 2, 9]
  simp only [ss, Nat.reduceBEq] at hF
  refine c_if hF rfl (fun h9 => ?_) (fun h9 => ?_)
  ·
   try simp only [qq] at h9
   have h9' : 255 < l.length := by simpa using h9
   refine c_sr fun ops => ?_
   refine zm 2 hF rfl fun a hF => ?_
   refine c_n ?_
   replace hF := hF.sel [2, 3]
   simp only [ss, Nat.reduceBEq] at hF
   refine wp_ret (t1.ret (hret (ret2 hF Tryz.results74 rfl rfl ?_)))
   have hs : split l = none := by simp [split, h9']
   exact ⟨_, _, by rw [mayB, hs]; rfl, hH, by rw [hs]; exact Sl.nil _ _⟩
  try simp only [qq] at h9
  have h9' : l.length ≤ 255 := by simpa using h9
  refine wp_skip ?_
  refine k1 ?_
  refine c_seq fun Q2 k2 t2 => ?_
  refine c_block fun Q3 t3 => ?_
  refine c_loop (fun n a w => ∃ m acc sv B, n = m.length ∧ m.length ≤ 255 ∧ acc.length + m.length ≤ 255 ∧ labelsOf l = (labelsOf m).map (acc ++ ·) ∧ Fr 26 [(0, .string (mk m)), (2, sv)] a ∧ Hp w0 w B ∧ Sl 9 1 B sv acc.length (strV acc)) ?_ ?_
  ·
   refine ⟨_, l, [], _, _, rfl, h9', by simpa using h9', by simp, hF.keep [0, 2] rfl, hH, Sl.nil _ _⟩
  intro n a w hI Q4 k4 t4
  obtain ⟨m, acc, sv, B, hn, hm, hlm, hsp, hF, hH, hS⟩ := hI
  refine c_seq fun Q5 k5 t5 => ?_
  refine c_sr fun ops => ?_
  refine zm 1 hF rfl fun a hF => ?_
  refine zb hF rfl rfl rfl (b_sne _ _ [0]) fun a hF => ?_
  refine c_n ?_
  refine c_fi hF rfl (fun h11 => ?_) (fun h11 => ?_)
  ·
   try simp only [qq] at h11
   have h11' : m = [0] := by simpa using h11
   refine wp_exit (t5.exit (t4.exit (t3.here (?_))))
   refine k2 ?_
   refine c_sr fun ops => ?_
   refine zm 3 hF rfl fun a hF => ?_
   refine c_n ?_
   replace hF := hF.sel [2, 3]
   simp only [ss, Nat.reduceBEq] at hF
   refine wp_ret (hret (ret2 hF Tryz.results74 rfl rfl ?_))
   have hs : split l = some acc := by simp [split, hsp, h11', labelsOf_root]; omega
   exact ⟨_, _, by rw [mayB, hs]; rfl, hH, by rw [hs]; exact hS⟩
  try simp only [qq] at h11
  have h11' : m ≠ [0] := by simpa using h11
  refine wp_skip ?_
  refine k5 ?_
  refine c_block fun Q6 t6 => ?_
  refine c_sr fun ops => ?_
  refine zm 1 hF rfl fun a hF => ?_
  refine zc hF rfl rfl fn90 (first_spec m (by omega) w) ?_
  rintro _ w ⟨rfl, hE⟩ a hF
  replace hH := hH.ext hE
  refine zm 7 hF rfl fun a hF => ?_
  refine c_n ?_
  refine c_seq fun Q7 k7 t7 => ?_
  refine c_sr fun ops => ?_
  refine zm 1 hF rfl fun a hF => ?_
  refine zl hF rfl (r_not hF rfl rfl) fun a hF => ?_
  refine c_n ?_
  refine c_if hF rfl (fun h19 => ?_) (fun h19 => ?_)
  ·
   try simp only [qq] at h19
   have h19' : firstB m = false := by simpa using h19
   refine c_sr fun ops => ?_
   refine zm 2 hF rfl fun a hF => ?_
   refine c_n ?_
   refine wp_ret (t7.ret (t6.ret (t4.ret (t3.ret (t2.ret (hret (ret2 hF Tryz.results74 rfl rfl ?_)))))))
   have hs : split l = none := by simp [split, hsp, labelsOf_no h11' h19']
   exact ⟨_, _, by rw [mayB, hs]; rfl, (hH.sub (List.nil_sublist _)), by rw [hs]; exact Sl.nil _ _⟩
  try simp only [qq] at h19
  have h19' : firstB m = true := by simpa using h19
  refine wp_skip ?_
  refine k7 ?_
  refine c_reg fun ops => ?_
  refine zm 2 hF rfl fun a hF => ?_
  refine ls_build1 hF hH rfl rfl rfl rfl rfl Tryz.underlying143 ti9 rfl (by decide) ?_
  intro a w g7_2 hH hE hF
  have hR := rsl_lit (n := 1) (size := 1) hH rfl (by decide)
  replace hH := hH.drop
  refine ls_append0 hF hH rfl rfl rfl rfl rfl rfl Tryz.underlying143 ti9 hS hR (one_of rfl) (by decide) (by omega) ?_
  intro a v7_3 w B7_3 hH hS hF
  refine zm 3 hF rfl fun a hF => ?_
  refine wpList_nil ?_
  refine t6.norm ?_
  refine k4 ?_
  have hlt := firstRest_lt h19'
  refine ⟨(firstRest m).length, by omega, firstRest m, acc ++ [firstLabel m], _, _, rfl, by omega, by simp; omega, ?_, hF.keep [0, 2] rfl, hH, ?_⟩
  · rw [hsp, labelsOf_cons h11' h19']; cases labelsOf (firstRest m) <;> simp
  · rw [← strV_snoc, List.length_append]; exact hS

theorem may_spec (l : Bs) (hl : l.length < 4611686018427387904) (w0 : World) : Rets Tryz.prog 50 [.string (mk l)] w0 fun v w' => v = .bool (mayB l) ∧ Ext w0 w' := by
  have hH := Hp.refl w0
  refine rets_start Tryz.func50 rfl Tryz.ntmps50 rfl fun a Q0 hF hret hend => ?_
  simp only [argsFrom, Nat.zero_add, Nat.reduceAdd] at hF
  refine c_sr fun ops => ?_
  refine zm 1 hF rfl fun a hF => ?_
  refine c_n ?_
  replace hF := hF.sel [0]
  simp only [ss, Nat.reduceBEq] at hF
  refine c_sr fun ops => ?_
  refine zm 1 hF rfl fun a hF => ?_
  refine zc hF rfl rfl fn74 (split_spec l hl _) ?_
  rintro _ w ⟨sv, B, rfl, hB, hS⟩ a hF
  replace hH := hH.ext hB.below
  refine zm 5 hF rfl fun a hF => ?_
  refine c_n ?_
  replace hF := hF.sel [4]
  simp only [ss, Nat.reduceBEq] at hF
  refine c_sr fun ops => ?_
  refine zm 2 hF rfl fun a hF => ?_
  refine c_n ?_
  replace hF := hF.sel [2]
  simp only [ss, Nat.reduceBEq] at hF
  refine wp_ret (hret (ret1 hF Tryz.results50 rfl ?_))
  exact ⟨rfl, hH.below⟩


/-- The bytes that are folded so far, and the others. -/
theorem mid_get {cur : Array Value} {k j : Nat} {m : Bs} {u : Value} (h : cur.toList.take k = bytV m) (hj : (bytV m)[j]? = some u) : cur[j]? = some u := by
  rw [← h, List.getElem?_take] at hj
  split at hj
  · simpa using hj
  · cases hj
theorem cell_mid {cur : Array Value} {l : Bs} {i : Nat} (h : cur.toList.take l.length = bytV (low (l.take i) ++ l.drop i)) (hi : i < l.length) : cur[i]? = some (.int .u8 ((l.getD i 0).toNat : Int)) := by
  refine mid_get h ?_
  have e : (low (l.take i) ++ l.drop i).getD i 0 = l.getD i 0 := by
    have : (low (l.take i)).length = i := by simp [low]; omega
    simp [List.getD_eq_getElem?_getD, List.getElem?_append, this]
  rw [bytV_get (by simp [low]; omega), e]
theorem set_mid {cur : Array Value} {l : Bs} {i : Nat} (h : cur.toList.take l.length = bytV (low (l.take i) ++ l.drop i)) (hi : i < l.length) (hs : l.length ≤ cur.size) :
    (cur.setIfInBounds i (.int .u8 ((lowB (l.getD i 0)).toNat : Int))).toList.take l.length = bytV (low (l.take (i + 1)) ++ l.drop (i + 1)) := by
  have hl : (low (l.take i)).length = i := by simp [low]; omega
  have hg : l.getD i 0 = l[i] := by simp [List.getD_eq_getElem?_getD, hi]
  have h1 : l.take (i + 1) = l.take i ++ [l[i]] := by rw [List.take_succ_eq_append_getElem hi]
  rw [Array.toList_setIfInBounds, List.take_set, h, hg, List.drop_eq_getElem_cons hi, h1]
  simp only [low, bytV, List.map_append, List.map_cons, List.map_nil]
  have hl' : (List.map (fun b : UInt8 => Value.int IntKind.u8 (b.toNat : Int)) (List.map lowB (l.take i))).length = i := by simp; omega
  rw [List.set_append_right _ _ (by rw [hl']; exact Nat.le_refl _), hl']
  simp


theorem strV_mid {acc : List Bs} {i : Nat} (h : i < acc.length) : (strV ((acc.take i).map low ++ acc.drop i))[i]? = some (.string (mk (acc.getD i []))) := by
  have hl : ((acc.take i).map low).length = i := by simp; omega
  rw [strV_get (by simp; omega)]
  congr 3
  rw [List.getD_eq_getElem?_getD, List.getElem?_append_right (by omega), hl]
  simp
theorem strV_midset {acc : List Bs} {i : Nat} (h : i < acc.length) : (strV ((acc.take i).map low ++ acc.drop i)).set i (.string (mk (low (acc.getD i [])))) = strV ((acc.take (i + 1)).map low ++ acc.drop (i + 1)) := by
  have hl : ((acc.take i).map low).length = i := by simp; omega
  have hg : acc.getD i [] = acc[i] := by simp [List.getD_eq_getElem?_getD, h]
  rw [List.take_succ_eq_append_getElem h, hg, List.drop_eq_getElem_cons h]
  simp only [strV, List.map_append, List.map_cons, List.map_nil]
  have hl' : (List.map (fun b => Value.string (mk b)) (List.map low (acc.take i))).length = i := by simp; omega
  rw [List.set_append_right _ _ (by rw [hl']; exact Nat.le_refl _), hl']
  simp

/-- The labels of a name that may be are not long. -/
theorem labelsOf_le : ∀ (k : Nat) {n : Bs} {l : List Bs}, splitN k n = some l → (∀ x ∈ l, x.length ≤ 63) ∧ l.length ≤ n.length ∧ (joinL l).length + 1 = n.length ∧ (∀ x ∈ l, 0 < x.length)
  | 0, n, l, h => by simp [splitN] at h
  | k + 1, n, l, h => by
    unfold splitN at h
    split at h
    · rename_i h0
      cases h; subst h0; simp [joinL]
    · split at h
      · rename_i h1 h2
        obtain ⟨m, hm, rfl⟩ := Option.map_eq_some_iff.1 h
        obtain ⟨i1, i2, i3, i4⟩ := labelsOf_le k hm
        have hf := firstB_iff.1 h2
        have e1 : (firstLabel n).length = (n.getD 0 0).toNat := by rw [firstLabel, if_pos h2, List.length_drop, List.length_take]; omega
        have e2 : (firstRest n).length = n.length - ((n.getD 0 0).toNat + 1) := by rw [firstRest, if_pos h2, List.length_drop]
        refine ⟨?_, ?_, ?_, ?_⟩
        · intro x hx
          rcases List.mem_cons.1 hx with rfl | hx
          · omega
          · exact i1 x hx
        · simp; omega
        · simp [joinL]; omega
        · intro x hx
          rcases List.mem_cons.1 hx with rfl | hx
          · omega
          · exact i4 x hx
      · cases h
theorem split_le {n : Bs} {l : List Bs} (h : split n = some l) : n.length ≤ 255 ∧ (∀ x ∈ l, x.length ≤ 63) ∧ l.length ≤ n.length ∧ (joinL l).length + 1 = n.length ∧ (∀ x ∈ l, 0 < x.length) := by
  unfold split at h
  split at h
  · cases h
  · exact ⟨by omega, labelsOf_le _ h⟩
theorem split_getD_le (n : Bs) : ((split n).getD []).length ≤ 255 ∧ ∀ x ∈ (split n).getD [], x.length ≤ 63 := by
  cases h : split n with
  | none => simp
  | some l => have := split_le h; exact ⟨by simp; omega, by simpa using this.2.1⟩
theorem getD_mem {l : List Bs} {i : Nat} (h : i < l.length) : l.getD i [] ∈ l := by
  rw [List.getD_eq_getElem?_getD, List.getElem?_eq_getElem h]; exact List.getElem_mem h


theorem joinL_append : ∀ (a b : List Bs), joinL (a ++ b) = joinL a ++ joinL b
  | [], b => rfl
  | x :: a, b => by simp [joinL, joinL_append a b]
theorem joinL_take {acc : List Bs} {i : Nat} (h : i < acc.length) : joinL (acc.take (i + 1)) = joinL (acc.take i) ++ UInt8.ofNat (acc.getD i []).length :: acc.getD i [] := by
  have hg : acc.getD i [] = acc[i] := by simp [List.getD_eq_getElem?_getD, h]
  rw [List.take_succ_eq_append_getElem h, joinL_append, hg]; simp [joinL]
theorem joinL_take_le (acc : List Bs) (k : Nat) : (joinL (acc.take k)).length ≤ (joinL acc).length := by
  have := joinL_append (acc.take k) (acc.drop k)
  rw [List.take_append_drop] at this
  rw [this]; simp
theorem joinL_low : ∀ (acc : List Bs), (joinL (acc.map low)).length = (joinL acc).length
  | [] => rfl
  | x :: a => by simp [joinL, joinL_low a, low]
theorem low_le {acc : List Bs} {k : Nat} (h : ∀ x ∈ acc, x.length ≤ k) : ∀ x ∈ acc.map low, x.length ≤ k := by
  intro x hx
  obtain ⟨y, hy, rfl⟩ := List.mem_map.1 hx
  simpa [low] using h y hy



end Go.Proofs.YtpoebplhemimmaaGreatDoor
