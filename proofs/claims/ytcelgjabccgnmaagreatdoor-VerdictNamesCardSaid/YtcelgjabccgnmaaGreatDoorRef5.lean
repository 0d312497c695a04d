/-
  The walks of the document's layer 5: data by their types. Nothing is claimed here.
  Data: the program's functions and the document's compute the same plain functions. Nothing is claimed here.
-/
import Derived.Test.YtcelgjabccgnmaaGreatDoorFold
import Derived.Test.YtcelgjabccgnmaaGreatDoorLaw5
namespace Go.Proofs.YtcelgjabccgnmaaGreatDoor
open Go.RowKit
set_option linter.unusedVariables false
set_option linter.unusedSimpArgs false
set_option maxHeartbeats 1000000

theorem refTexts_spec (s : Bs) (hs : s.length < 1000000) (w0 : World) : Rets Tryz.prog 153 [.string (mk s)] w0 fun v w' => ∃ sv B, v = .tuple #[sv, .int .i64 (rTexts s).1] ∧ Hp w0 w' B ∧ Sl 156 2 B sv (rTexts s).2.length (pcV (rTexts s).2) := by
  have hH := Hp.refl w0
  have hT : rTexts s = if s = [] then (4, []) else if rTextsG s (s.length + 1) 0 = true then (0, [(s, false)]) else (4, []) := by rw [rTexts]
  have hr0 : rTextsG s (s.length + 1) 0 = rTextsG s (s.length + 1) 0 := rfl
  generalize h00 : rTextsG s (s.length + 1) 0 = r0 at hT
  replace hr0 := h00.symm
  refine rets_start Tryz.func153 rfl Tryz.ntmps153 rfl fun a Q0 hF hret hend => ?_
  simp only [argsFrom, Nat.zero_add, Nat.reduceAdd] at hF
  refine c_sr fun ops => ?_
  refine zm 2 hF rfl fun a hF => ?_
  refine c_n ?_
  replace hF := hF.sel [0]
  simp only [ss, Nat.reduceBEq] at hF
  refine c_seq fun Q1 k1 t1 => ?_
  refine c_sr fun ops => ?_
  refine zm 1 hF rfl fun a hF => ?_
  refine zb hF rfl rfl rfl (b_seq _ _ []) fun a hF => ?_
  refine c_n ?_
  replace hF := hF.sel [0, 6]
  simp only [ss, Nat.reduceBEq] at hF
  refine c_if hF rfl (fun h6 => ?_) (fun h6 => ?_)
  ·
   try simp only [qq] at h6
   have hr : rTexts s = (4, []) := by rw [hT, if_pos h6]
   refine c_sr fun ops => ?_
   refine zm 2 hF rfl fun a hF => ?_
   refine c_n ?_
   replace hF := hF.sel [2, 3]
   simp only [ss, Nat.reduceBEq] at hF
   refine wp_ret (t1.ret (hret (ret2 hF Tryz.results153 rfl rfl ?_)))
   exact ⟨_, [], by rw [hr]; rfl, hH, by rw [hr]; exact Sl.nil _ _⟩
  try simp only [qq] at h6
  refine wp_skip ?_
  refine k1 ?_
  refine c_seq fun Q2 k2 t2 => ?_
  refine c_sr fun ops => ?_
  refine zm 1 hF rfl fun a hF => ?_
  refine c_n ?_
  replace hF := hF.sel [0, 4]
  simp only [ss, Nat.reduceBEq] at hF
  refine c_block fun Q3 t3 => ?_
  refine c_loop (fun n a w => ∃ p, s.length - p < n ∧ r0 = rTextsG s n p ∧ p ≤ s.length ∧ Fr 31 [(0, .string (mk s)), (4, .int .i64 (p : Nat))] a ∧ Hp w0 w []) ?_ ?_
  ·
   exact ⟨s.length + 1, 0, by omega, hr0, Nat.zero_le _, hF.keep [0, 4] rfl, hH⟩
  intro n a w hI Q4 k4 t4
  obtain ⟨p, hn, he, hp, hF, hH⟩ := hI
  cases n with
  | zero => omega
  | succ n =>
  rw [rTextsG] at he
  have hc8 := (s.getD p 0).toNat_lt
  refine c_seq fun Q5 k5 t5 => ?_
  refine c_sr fun ops => ?_
  refine zm 2 hF rfl fun a hF => ?_
  refine zl hF rfl (r_len_str hF rfl rfl Tryz.underlying9) fun a hF => ?_
  refine zb hF rfl rfl rfl (b_ltn _ _ _ _) fun a hF => ?_
  refine c_n ?_
  refine c_fi hF rfl (fun h10 => ?_) (fun h10 => ?_)
  ·
   try simp only [qq] at h10
   rw [if_pos (by omega)] at he
   have hr : rTexts s = (0, [(s, false)]) := by rw [hT, if_neg h6, he, if_pos rfl]
   refine wp_exit (t5.exit (t4.exit (t3.here (?_))))
   refine k2 ?_
   refine c_sr fun ops => ?_
   refine zm 1 hF rfl fun a hF => ?_
   refine zl hF rfl (r_build hF rfl rfl (bd156_0 _ _ (rfl))) fun a hF => ?_
   refine ls_build1 hF hH rfl rfl rfl rfl rfl Tryz.underlying152 ti156 rfl (by decide) ?_
   intro a w g8_2 hH hE hF
   refine zm 2 hF rfl fun a hF => ?_
   refine c_n ?_
   replace hF := hF.sel [2, 3]
   simp only [ss, Nat.reduceBEq] at hF
   refine wp_ret (hret (ret2 hF Tryz.results153 rfl rfl ?_))
   exact ⟨_, _, by rw [hr]; rfl, hH, by rw [hr]; exact ⟨rfl, .inr ⟨_, 1, _, rfl, rfl, Nat.le_refl _, by unfold maxLen; omega, rfl, rfl⟩⟩⟩
  try simp only [qq] at h10
  rw [if_neg (by omega)] at he
  refine wp_skip ?_
  refine k5 ?_
  refine c_block fun Q6 t6 => ?_
  refine c_seq fun Q7 k7 t7 => ?_
  refine c_sr fun ops => ?_
  refine zm 1 hF rfl fun a hF => ?_
  refine zb hF rfl rfl rfl (b_addn _ _ 1 (by omega)) fun a hF => ?_
  refine zm 2 hF rfl fun a hF => ?_
  refine zl hF rfl (r_indexn hF _ rfl rfl rfl Tryz.underlying9 (by omega)) fun a hF => ?_
  refine zl hF rfl (r_convin hF rfl rfl (by rw [Tryz.underlying5]; rfl) Tryz.underlying3 (-9223372036854775808) 9223372036854775807 mn_i64 mx_i64 (by omega)) fun a hF => ?_
  refine zb hF rfl rfl rfl (b_addn _ _ _ (by omega)) fun a hF => ?_
  refine zm 1 hF rfl fun a hF => ?_
  refine zl hF rfl (r_len_str hF rfl rfl Tryz.underlying9) fun a hF => ?_
  refine zb hF rfl rfl rfl (b_gtn _ _ _ _) fun a hF => ?_
  refine c_n ?_
  refine c_if hF rfl (fun h20 => ?_) (fun h20 => ?_)
  ·
   try simp only [qq] at h20
   rw [if_pos (by omega)] at he
   have hr : rTexts s = (4, []) := by rw [hT, if_neg h6, he]; rfl
   refine c_sr fun ops => ?_
   refine zm 2 hF rfl fun a hF => ?_
   refine c_n ?_
   refine wp_ret (t7.ret (t6.ret (t4.ret (t3.ret (t2.ret (hret (ret2 hF Tryz.results153 rfl rfl ?_)))))))
   exact ⟨_, [], by rw [hr]; rfl, hH, by rw [hr]; exact Sl.nil _ _⟩
  try simp only [qq] at h20
  rw [if_neg (by omega)] at he
  refine wp_skip ?_
  refine k7 ?_
  refine c_reg fun ops => ?_
  refine zm 1 hF rfl fun a hF => ?_
  refine zb hF rfl rfl rfl (b_addn _ _ 1 (by omega)) fun a hF => ?_
  refine zm 2 hF rfl fun a hF => ?_
  refine zl hF rfl (r_indexn hF _ rfl rfl rfl Tryz.underlying9 (by omega)) fun a hF => ?_
  refine zl hF rfl (r_convin hF rfl rfl (by rw [Tryz.underlying5]; rfl) Tryz.underlying3 (-9223372036854775808) 9223372036854775807 mn_i64 mx_i64 (by omega)) fun a hF => ?_
  refine zb hF rfl rfl rfl (b_addn _ _ _ (by omega)) fun a hF => ?_
  refine zm 1 hF rfl fun a hF => ?_
  refine wpList_nil ?_
  refine t6.norm ?_
  refine k4 ?_
  exact ⟨n, Nat.lt_succ_self _, p + 1 + (s.getD p 0).toNat, by omega, he, by omega, hF.keep [0, 4] rfl, hH⟩

theorem layout_spec (kind : Nat) (w0 : World) : Rets Tryz.prog 154 [.int .u16 kind] w0 fun v w' => v = .tuple #[.int .i64 (layoutF kind).1, .int .i64 (layoutF kind).2.1, .int .i64 (layoutF kind).2.2.1, .bool (layoutF kind).2.2.2] ∧ Ext w0 w' := by
  have hH := Hp.refl w0
  refine rets_start Tryz.func154 rfl Tryz.ntmps154 rfl fun a Q0 hF hret hend => ?_
  simp only [argsFrom, Nat.zero_add, Nat.reduceAdd] at hF
  refine c_sr fun ops => ?_
  refine zm 4 hF rfl fun a hF => ?_
  refine c_n ?_
  replace hF := hF.sel [0]
  simp only [ss, Nat.reduceBEq] at hF
  refine c_seq fun Q1 k1 t1 => ?_
  refine c_sr fun ops => ?_
  refine zm 1 hF rfl fun a hF => ?_
  refine c_n ?_
  replace hF := hF.sel [6]
  simp only [ss, Nat.reduceBEq] at hF
  refine c_block fun Q2 t2 => ?_
  refine c_sr fun ops => ?_
  refine zb hF rfl rfl rfl (b_eqn _ _ _ 1) fun a hF => ?_
  refine zm 1 hF rfl fun a hF => ?_
  refine c_n ?_
  replace hF := hF.sel [6, 7]
  simp only [ss, Nat.reduceBEq] at hF
  refine c_if hF rfl (fun h7 => ?_) (fun h7 => ?_)
  ·
   try simp only [qq] at h7
   refine c_sr fun ops => ?_
   refine zm 4 hF rfl fun a hF => ?_
   refine c_n ?_
   replace hF := hF.sel [2, 3, 4, 5]
   simp only [ss, Nat.reduceBEq] at hF
   refine wp_ret (t2.ret (t1.ret (hret (ret4 hF Tryz.results154 rfl rfl rfl rfl ?_))))
   exact ⟨by rw [show layoutF kind = (4, 0, 0, true) by simp [layoutF, *]]; rfl, hH.below⟩
  try simp only [qq] at h7
  refine c_sr fun ops => ?_
  refine zb hF rfl rfl rfl (b_eqn _ _ _ 28) fun a hF => ?_
  refine zm 1 hF rfl fun a hF => ?_
  refine c_n ?_
  replace hF := hF.sel [6, 9]
  simp only [ss, Nat.reduceBEq] at hF
  refine c_if hF rfl (fun h9 => ?_) (fun h9 => ?_)
  ·
   try simp only [qq] at h9
   refine c_sr fun ops => ?_
   refine zm 4 hF rfl fun a hF => ?_
   refine c_n ?_
   replace hF := hF.sel [2, 3, 4, 5]
   simp only [ss, Nat.reduceBEq] at hF
   refine wp_ret (t2.ret (t1.ret (hret (ret4 hF Tryz.results154 rfl rfl rfl rfl ?_))))
   exact ⟨by rw [show layoutF kind = (16, 0, 0, true) by simp [layoutF, *]]; rfl, hH.below⟩
  try simp only [qq] at h9
  refine c_seq fun Q3 k3 t3 => ?_
  refine c_sr fun ops => ?_
  refine zb hF rfl rfl rfl (b_eqn _ _ _ 2) fun a hF => ?_
  refine zm 1 hF rfl fun a hF => ?_
  refine c_n ?_
  replace hF := hF.sel [6, 11]
  simp only [ss, Nat.reduceBEq] at hF
  refine c_if hF rfl (fun h11 => ?_) (fun h11 => ?_)
  ·
   try simp only [qq] at h11
   refine wp_skip ?_
   refine k3 ?_
   refine c_if hF rfl (fun h11 => ?_) (fun h11 => ?_)
   ·
    try simp only [qq] at h11
    refine c_sr fun ops => ?_
    refine zm 4 hF rfl fun a hF => ?_
    refine c_n ?_
    replace hF := hF.sel [2, 3, 4, 5]
    simp only [ss, Nat.reduceBEq] at hF
    refine wp_ret (t2.ret (t1.ret (hret (ret4 hF Tryz.results154 rfl rfl rfl rfl ?_))))
    exact ⟨by rw [show layoutF kind = (0, 1, 0, true) by first | (exfalso; omega) | (simp [layoutF, *]; done)]; rfl, hH.below⟩
   try simp only [qq] at h11
   refine c_sr fun ops => ?_
   refine zb hF rfl rfl rfl (b_eqn _ _ _ 15) fun a hF => ?_
   refine zm 1 hF rfl fun a hF => ?_
   refine c_n ?_
   replace hF := hF.sel [6, 15]
   simp only [ss, Nat.reduceBEq] at hF
   refine c_if hF rfl (fun h15 => ?_) (fun h15 => ?_)
   ·
    try simp only [qq] at h15
    refine c_sr fun ops => ?_
    refine zm 4 hF rfl fun a hF => ?_
    refine c_n ?_
    replace hF := hF.sel [2, 3, 4, 5]
    simp only [ss, Nat.reduceBEq] at hF
    refine wp_ret (t2.ret (t1.ret (hret (ret4 hF Tryz.results154 rfl rfl rfl rfl ?_))))
    exact ⟨by rw [show layoutF kind = (2, 1, 0, true) by first | (exfalso; omega) | (simp [layoutF, *]; done)]; rfl, hH.below⟩
   try simp only [qq] at h15
   refine c_sr fun ops => ?_
   refine zb hF rfl rfl rfl (b_eqn _ _ _ 6) fun a hF => ?_
   refine zm 1 hF rfl fun a hF => ?_
   refine c_n ?_
   replace hF := hF.sel [6, 17]
   simp only [ss, Nat.reduceBEq] at hF
   refine c_if hF rfl (fun h17 => ?_) (fun h17 => ?_)
   ·
    try simp only [qq] at h17
    refine c_sr fun ops => ?_
    refine zm 4 hF rfl fun a hF => ?_
    refine c_n ?_
    replace hF := hF.sel [2, 3, 4, 5]
    simp only [ss, Nat.reduceBEq] at hF
    refine wp_ret (t2.ret (t1.ret (hret (ret4 hF Tryz.results154 rfl rfl rfl rfl ?_))))
    exact ⟨by rw [show layoutF kind = (0, 2, 20, true) by first | (exfalso; omega) | (simp [layoutF, *]; done)]; rfl, hH.below⟩
   try simp only [qq] at h17
   refine c_sr fun ops => ?_
   refine zb hF rfl rfl rfl (b_eqn _ _ _ 33) fun a hF => ?_
   refine zm 1 hF rfl fun a hF => ?_
   refine c_n ?_
   replace hF := hF.sel [19]
   simp only [ss, Nat.reduceBEq] at hF
   refine c_if hF rfl (fun h19 => ?_) (fun h19 => ?_)
   ·
    try simp only [qq] at h19
    refine c_sr fun ops => ?_
    refine zm 4 hF rfl fun a hF => ?_
    refine c_n ?_
    replace hF := hF.sel [2, 3, 4, 5]
    simp only [ss, Nat.reduceBEq] at hF
    refine wp_ret (t2.ret (t1.ret (hret (ret4 hF Tryz.results154 rfl rfl rfl rfl ?_))))
    exact ⟨by rw [show layoutF kind = (6, 1, 0, true) by first | (exfalso; omega) | (simp [layoutF, *]; done)]; rfl, hH.below⟩
   try simp only [qq] at h19
   refine wp_skip ?_
   refine t2.norm ?_
   refine k1 ?_
   refine c_sr fun ops => ?_
   refine zm 4 hF rfl fun a hF => ?_
   refine c_n ?_
   replace hF := hF.sel [2, 3, 4, 5]
   simp only [ss, Nat.reduceBEq] at hF
   refine wp_ret (hret (ret4 hF Tryz.results154 rfl rfl rfl rfl ?_))
   exact ⟨by rw [show layoutF kind = (0, 0, 0, false) by first | (exfalso; omega) | (simp [layoutF, *]; done)]; rfl, hH.below⟩
  try simp only [qq] at h11
  refine c_sr fun ops => ?_
  refine zb hF rfl rfl rfl (b_eqn _ _ _ 5) fun a hF => ?_
  refine zm 1 hF rfl fun a hF => ?_
  refine c_n ?_
  replace hF := hF.sel [6, 11]
  simp only [ss, Nat.reduceBEq] at hF
  refine c_if hF rfl (fun h11 => ?_) (fun h11 => ?_)
  ·
   try simp only [qq] at h11
   refine wp_skip ?_
   refine k3 ?_
   refine c_if hF rfl (fun h11 => ?_) (fun h11 => ?_)
   ·
    try simp only [qq] at h11
    refine c_sr fun ops => ?_
    refine zm 4 hF rfl fun a hF => ?_
    refine c_n ?_
    replace hF := hF.sel [2, 3, 4, 5]
    simp only [ss, Nat.reduceBEq] at hF
    refine wp_ret (t2.ret (t1.ret (hret (ret4 hF Tryz.results154 rfl rfl rfl rfl ?_))))
    exact ⟨by rw [show layoutF kind = (0, 1, 0, true) by first | (exfalso; omega) | (simp [layoutF, *]; done)]; rfl, hH.below⟩
   try simp only [qq] at h11
   refine c_sr fun ops => ?_
   refine zb hF rfl rfl rfl (b_eqn _ _ _ 15) fun a hF => ?_
   refine zm 1 hF rfl fun a hF => ?_
   refine c_n ?_
   replace hF := hF.sel [6, 15]
   simp only [ss, Nat.reduceBEq] at hF
   refine c_if hF rfl (fun h15 => ?_) (fun h15 => ?_)
   ·
    try simp only [qq] at h15
    refine c_sr fun ops => ?_
    refine zm 4 hF rfl fun a hF => ?_
    refine c_n ?_
    replace hF := hF.sel [2, 3, 4, 5]
    simp only [ss, Nat.reduceBEq] at hF
    refine wp_ret (t2.ret (t1.ret (hret (ret4 hF Tryz.results154 rfl rfl rfl rfl ?_))))
    exact ⟨by rw [show layoutF kind = (2, 1, 0, true) by first | (exfalso; omega) | (simp [layoutF, *]; done)]; rfl, hH.below⟩
   try simp only [qq] at h15
   refine c_sr fun ops => ?_
   refine zb hF rfl rfl rfl (b_eqn _ _ _ 6) fun a hF => ?_
   refine zm 1 hF rfl fun a hF => ?_
   refine c_n ?_
   replace hF := hF.sel [6, 17]
   simp only [ss, Nat.reduceBEq] at hF
   refine c_if hF rfl (fun h17 => ?_) (fun h17 => ?_)
   ·
    try simp only [qq] at h17
    refine c_sr fun ops => ?_
    refine zm 4 hF rfl fun a hF => ?_
    refine c_n ?_
    replace hF := hF.sel [2, 3, 4, 5]
    simp only [ss, Nat.reduceBEq] at hF
    refine wp_ret (t2.ret (t1.ret (hret (ret4 hF Tryz.results154 rfl rfl rfl rfl ?_))))
    exact ⟨by rw [show layoutF kind = (0, 2, 20, true) by first | (exfalso; omega) | (simp [layoutF, *]; done)]; rfl, hH.below⟩
   try simp only [qq] at h17
   refine c_sr fun ops => ?_
   refine zb hF rfl rfl rfl (b_eqn _ _ _ 33) fun a hF => ?_
   refine zm 1 hF rfl fun a hF => ?_
   refine c_n ?_
   replace hF := hF.sel [19]
   simp only [ss, Nat.reduceBEq] at hF
   refine c_if hF rfl (fun h19 => ?_) (fun h19 => ?_)
   ·
    try simp only [qq] at h19
    refine c_sr fun ops => ?_
    refine zm 4 hF rfl fun a hF => ?_
    refine c_n ?_
    replace hF := hF.sel [2, 3, 4, 5]
    simp only [ss, Nat.reduceBEq] at hF
    refine wp_ret (t2.ret (t1.ret (hret (ret4 hF Tryz.results154 rfl rfl rfl rfl ?_))))
    exact ⟨by rw [show layoutF kind = (6, 1, 0, true) by first | (exfalso; omega) | (simp [layoutF, *]; done)]; rfl, hH.below⟩
   try simp only [qq] at h19
   refine wp_skip ?_
   refine t2.norm ?_
   refine k1 ?_
   refine c_sr fun ops => ?_
   refine zm 4 hF rfl fun a hF => ?_
   refine c_n ?_
   replace hF := hF.sel [2, 3, 4, 5]
   simp only [ss, Nat.reduceBEq] at hF
   refine wp_ret (hret (ret4 hF Tryz.results154 rfl rfl rfl rfl ?_))
   exact ⟨by rw [show layoutF kind = (0, 0, 0, false) by first | (exfalso; omega) | (simp [layoutF, *]; done)]; rfl, hH.below⟩
  try simp only [qq] at h11
  refine c_reg fun ops => ?_
  refine zb hF rfl rfl rfl (b_eqn _ _ _ 12) fun a hF => ?_
  refine zm 1 hF rfl fun a hF => ?_
  refine wpList_nil ?_
  replace hF := hF.sel [6, 11]
  simp only [ss, Nat.reduceBEq] at hF
  refine k3 ?_
  refine c_if hF rfl (fun h11 => ?_) (fun h11 => ?_)
  ·
   try simp only [qq] at h11
   refine c_sr fun ops => ?_
   refine zm 4 hF rfl fun a hF => ?_
   refine c_n ?_
   replace hF := hF.sel [2, 3, 4, 5]
   simp only [ss, Nat.reduceBEq] at hF
   refine wp_ret (t2.ret (t1.ret (hret (ret4 hF Tryz.results154 rfl rfl rfl rfl ?_))))
   exact ⟨by rw [show layoutF kind = (0, 1, 0, true) by first | (exfalso; omega) | (simp [layoutF, *]; done)]; rfl, hH.below⟩
  try simp only [qq] at h11
  refine c_sr fun ops => ?_
  refine zb hF rfl rfl rfl (b_eqn _ _ _ 15) fun a hF => ?_
  refine zm 1 hF rfl fun a hF => ?_
  refine c_n ?_
  replace hF := hF.sel [6, 15]
  simp only [ss, Nat.reduceBEq] at hF
  refine c_if hF rfl (fun h15 => ?_) (fun h15 => ?_)
  ·
   try simp only [qq] at h15
   refine c_sr fun ops => ?_
   refine zm 4 hF rfl fun a hF => ?_
   refine c_n ?_
   replace hF := hF.sel [2, 3, 4, 5]
   simp only [ss, Nat.reduceBEq] at hF
   refine wp_ret (t2.ret (t1.ret (hret (ret4 hF Tryz.results154 rfl rfl rfl rfl ?_))))
   exact ⟨by rw [show layoutF kind = (2, 1, 0, true) by first | (exfalso; omega) | (simp [layoutF, *]; done)]; rfl, hH.below⟩
  try simp only [qq] at h15
  refine c_sr fun ops => ?_
  refine zb hF rfl rfl rfl (b_eqn _ _ _ 6) fun a hF => ?_
  refine zm 1 hF rfl fun a hF => ?_
  refine c_n ?_
  replace hF := hF.sel [6, 17]
  simp only [ss, Nat.reduceBEq] at hF
  refine c_if hF rfl (fun h17 => ?_) (fun h17 => ?_)
  ·
   try simp only [qq] at h17
   refine c_sr fun ops => ?_
   refine zm 4 hF rfl fun a hF => ?_
   refine c_n ?_
   replace hF := hF.sel [2, 3, 4, 5]
   simp only [ss, Nat.reduceBEq] at hF
   refine wp_ret (t2.ret (t1.ret (hret (ret4 hF Tryz.results154 rfl rfl rfl rfl ?_))))
   exact ⟨by rw [show layoutF kind = (0, 2, 20, true) by first | (exfalso; omega) | (simp [layoutF, *]; done)]; rfl, hH.below⟩
  try simp only [qq] at h17
  refine c_sr fun ops => ?_
  refine zb hF rfl rfl rfl (b_eqn _ _ _ 33) fun a hF => ?_
  refine zm 1 hF rfl fun a hF => ?_
  refine c_n ?_
  replace hF := hF.sel [19]
  simp only [ss, Nat.reduceBEq] at hF
  refine c_if hF rfl (fun h19 => ?_) (fun h19 => ?_)
  ·
   try simp only [qq] at h19
   refine c_sr fun ops => ?_
   refine zm 4 hF rfl fun a hF => ?_
   refine c_n ?_
   replace hF := hF.sel [2, 3, 4, 5]
   simp only [ss, Nat.reduceBEq] at hF
   refine wp_ret (t2.ret (t1.ret (hret (ret4 hF Tryz.results154 rfl rfl rfl rfl ?_))))
   exact ⟨by rw [show layoutF kind = (6, 1, 0, true) by first | (exfalso; omega) | (simp [layoutF, *]; done)]; rfl, hH.below⟩
  try simp only [qq] at h19
  refine wp_skip ?_
  refine t2.norm ?_
  refine k1 ?_
  refine c_sr fun ops => ?_
  refine zm 4 hF rfl fun a hF => ?_
  refine c_n ?_
  replace hF := hF.sel [2, 3, 4, 5]
  simp only [ss, Nat.reduceBEq] at hF
  refine wp_ret (hret (ret4 hF Tryz.results154 rfl rfl rfl rfl ?_))
  exact ⟨by rw [show layoutF kind = (0, 0, 0, false) by first | (exfalso; omega) | (simp [layoutF, *]; done)]; rfl, hH.below⟩

theorem layoutF_le (kind : Nat) : (layoutF kind).1 ≤ 16 ∧ (layoutF kind).2.1 ≤ 2 ∧ (layoutF kind).2.2.1 ≤ 20 := by
  unfold layoutF
  repeat' split
  all_goals simp

theorem refPieces_spec (msg : Bs) (at' kind : Nat) (hs : msg.length < 1000000) (hat : at' ≤ msg.length) (w0 : World) : Rets Tryz.prog 136 [.string (mk msg), .int .i64 at', .int .u16 kind] w0
    fun v w' => ∃ sv B, v = .tuple #[sv, .int .i64 (refP msg at' kind).1] ∧ Hp w0 w' B ∧ Sl 156 2 B sv (refP msg at' kind).2.length (pcV (refP msg at' kind).2) := by
  have hH := Hp.refl w0
  obtain ⟨hl1, hl2, hl3⟩ := layoutF_le kind
  refine rets_start Tryz.func136 rfl Tryz.ntmps136 rfl fun a Q0 hF hret hend => ?_
  simp only [argsFrom, Nat.zero_add, Nat.reduceAdd] at hF
  refine c_sr fun ops => ?_
  refine zm 2 hF rfl fun a hF => ?_
  refine c_n ?_
  replace hF := hF.sel [0, 1, 2]
  simp only [ss, Nat.reduceBEq] at hF
  refine c_seq fun Q1 k1 t1 => ?_
  refine c_sr fun ops => ?_
  refine zm 1 hF rfl fun a hF => ?_
  refine zb hF rfl rfl rfl (b_eqn _ _ _ 41) fun a hF => ?_
  refine c_n ?_
  replace hF := hF.sel [0, 1, 2, 18]
  simp only [ss, Nat.reduceBEq] at hF
  refine c_if hF rfl (fun h18 => ?_) (fun h18 => ?_)
  ·
   try simp only [qq] at h18
   have hr : refP msg at' kind = (3, []) := by rw [refP, if_pos h18]
   refine c_sr fun ops => ?_
   refine zm 2 hF rfl fun a hF => ?_
   refine c_n ?_
   replace hF := hF.sel [6, 7]
   simp only [ss, Nat.reduceBEq] at hF
   refine wp_ret (t1.ret (hret (ret2 hF Tryz.results136 rfl rfl ?_)))
   exact ⟨_, [], by rw [hr]; rfl, hH, by rw [hr]; exact Sl.nil _ _⟩
  try simp only [qq] at h18
  refine wp_skip ?_
  refine k1 ?_
  refine c_seq fun Q2 k2 t2 => ?_
  refine c_sr fun ops => ?_
  refine zm 1 hF rfl fun a hF => ?_
  refine zb hF rfl rfl rfl (b_eqn _ _ _ 16) fun a hF => ?_
  refine c_n ?_
  replace hF := hF.sel [0, 1, 2, 20]
  simp only [ss, Nat.reduceBEq] at hF
  refine c_if hF rfl (fun h20 => ?_) (fun h20 => ?_)
  ·
   try simp only [qq] at h20
   have hr : refP msg at' kind = rTexts (msg.drop at') := by rw [refP, if_neg h18, if_pos h20]
   refine c_sr fun ops => ?_
   refine zm 2 hF rfl fun a hF => ?_
   refine zl hF rfl (r_slicefn hF _ rfl rfl Tryz.underlying9 ⟨_, rfl⟩ (by omega)) fun a hF => ?_
   refine zc hF rfl rfl fn153 (refTexts_spec (msg.drop at') (by rw [List.length_drop]; omega) _) ?_
   rintro _ w ⟨sv, B, rfl, hB, hS⟩ a hF
   replace hH := hH.join hB
   refine zm 4 hF rfl fun a hF => ?_
   refine c_n ?_
   replace hF := hF.sel [6, 7]
   simp only [ss, Nat.reduceBEq] at hF
   refine wp_ret (t2.ret (hret (ret2 hF Tryz.results136 rfl rfl ?_)))
   exact ⟨sv, B, by rw [hr], by simpa using hH, by rw [hr]; exact hS⟩
  try simp only [qq] at h20
  refine wp_skip ?_
  refine k2 ?_
  refine c_sr fun ops => ?_
  refine zm 1 hF rfl fun a hF => ?_
  refine zc hF rfl rfl fn154 (layout_spec kind _) ?_
  rintro _ w ⟨rfl, hE⟩ a hF
  replace hH := hH.ext hE
  refine zm 9 hF rfl fun a hF => ?_
  refine c_n ?_
  replace hF := hF.sel [0, 1, 8, 9, 10, 11]
  simp only [ss, Nat.reduceBEq] at hF
  refine c_seq fun Q3 k3 t3 => ?_
  refine c_sr fun ops => ?_
  refine zm 1 hF rfl fun a hF => ?_
  refine zl hF rfl (r_not hF rfl rfl) fun a hF => ?_
  refine c_n ?_
  replace hF := hF.sel [0, 1, 8, 9, 10, 35]
  simp only [ss, Nat.reduceBEq] at hF
  refine c_if hF rfl (fun h35 => ?_) (fun h35 => ?_)
  ·
   try simp only [qq] at h35
   have hr : refP msg at' kind = (0, [(msg.drop at', false)]) := by rw [refP, if_neg h18, if_neg h20, if_pos h35]
   refine c_sr fun ops => ?_
   refine zm 2 hF rfl fun a hF => ?_
   refine zl hF rfl (r_slicefn hF _ rfl rfl Tryz.underlying9 ⟨_, rfl⟩ (by omega)) fun a hF => ?_
   refine zl hF rfl (r_build hF rfl rfl (bd156_0 _ _ (rfl))) fun a hF => ?_
   refine ls_build1 hF hH rfl rfl rfl rfl rfl Tryz.underlying152 ti156 rfl (by decide) ?_
   intro a w g7_4 hH hE hF
   refine zm 2 hF rfl fun a hF => ?_
   refine c_n ?_
   replace hF := hF.sel [6, 7]
   simp only [ss, Nat.reduceBEq] at hF
   refine wp_ret (t3.ret (hret (ret2 hF Tryz.results136 rfl rfl ?_)))
   exact ⟨_, _, by rw [hr]; rfl, hH, by rw [hr]; exact ⟨rfl, .inr ⟨_, 1, _, rfl, rfl, Nat.le_refl _, by unfold maxLen; omega, rfl, rfl⟩⟩⟩
  try simp only [qq] at h35
  have hrp : refP msg at' kind = refP msg at' kind := rfl
  conv at hrp => rhs; rw [refP, if_neg h18, if_neg h20, if_neg (by simp [h35])]
  refine wp_skip ?_
  refine k3 ?_
  refine c_seq fun Q4 k4 t4 => ?_
  refine c_sr fun ops => ?_
  refine zm 1 hF rfl fun a hF => ?_
  refine zl hF rfl (r_len_str hF rfl rfl Tryz.underlying9) fun a hF => ?_
  refine zm 1 hF rfl fun a hF => ?_
  refine zb hF rfl rfl rfl (b_subn _ _ _ (by omega)) fun a hF => ?_
  refine zm 1 hF rfl fun a hF => ?_
  refine zb hF rfl rfl rfl (b_ltn _ _ _ _) fun a hF => ?_
  refine c_n ?_
  replace hF := hF.sel [0, 1, 8, 9, 10, 46]
  simp only [ss, Nat.reduceBEq] at hF
  refine c_if hF rfl (fun h46 => ?_) (fun h46 => ?_)
  ·
   try simp only [qq] at h46
   rw [if_pos h46] at hrp
   refine c_sr fun ops => ?_
   refine zm 2 hF rfl fun a hF => ?_
   refine c_n ?_
   replace hF := hF.sel [6, 7]
   simp only [ss, Nat.reduceBEq] at hF
   refine wp_ret (t4.ret (hret (ret2 hF Tryz.results136 rfl rfl ?_)))
   exact ⟨_, [], by rw [hrp]; rfl, hH, by rw [hrp]; exact Sl.nil _ _⟩
  try simp only [qq] at h46
  rw [if_neg h46] at hrp
  generalize hR : rNames msg (layoutF kind).2.1 (at' + (layoutF kind).1) [((msg.take (at' + (layoutF kind).1)).drop at', false)] = R at hrp
  refine wp_skip ?_
  refine k4 ?_
  refine c_sr fun ops => ?_
  refine zm 4 hF rfl fun a hF => ?_
  refine zb hF rfl rfl rfl (b_addn _ _ _ (by omega)) fun a hF => ?_
  refine zl hF rfl (r_slicen hF _ _ rfl rfl Tryz.underlying9 ⟨_, rfl⟩ ⟨_, rfl⟩ (by omega)) fun a hF => ?_
  refine zl hF rfl (r_build hF rfl rfl (bd156_0 _ _ (rfl))) fun a hF => ?_
  refine ls_build1 hF hH rfl rfl rfl rfl rfl Tryz.underlying152 ti156 rfl (by decide) ?_
  intro a w g10_7 hH hE hF
  refine zm 1 hF rfl fun a hF => ?_
  refine c_n ?_
  replace hF := hF.sel [0, 1, 8, 9, 10, 12]
  simp only [ss, Nat.reduceBEq] at hF
  have hS : Sl 156 2 [(g10_7, .cells #[.string (mk ((msg.take (at' + (layoutF kind).1)).drop at')), .bool false] 156 (0, 0))] (.slice (some ⟨g10_7, 0, none⟩) 1 1) 1 (pcV [((msg.take (at' + (layoutF kind).1)).drop at', false)]) := ⟨rfl, .inr ⟨_, 1, _, rfl, rfl, Nat.le_refl _, by unfold maxLen; omega, rfl, rfl⟩⟩
  refine c_sr fun ops => ?_
  refine zm 2 hF rfl fun a hF => ?_
  refine zb hF rfl rfl rfl (b_addn _ _ _ (by omega)) fun a hF => ?_
  refine zm 1 hF rfl fun a hF => ?_
  refine c_n ?_
  replace hF := hF.sel [0, 1, 9, 10, 12]
  simp only [ss, Nat.reduceBEq] at hF
  refine c_seq fun Q5 k5 t5 => ?_
  refine c_sr fun ops => ?_
  refine zm 1 hF rfl fun a hF => ?_
  refine c_n ?_
  replace hF := hF.sel [0, 1, 9, 10, 12, 13]
  simp only [ss, Nat.reduceBEq] at hF
  refine c_block fun Q6 t6 => ?_
  refine c_loop (fun n a w => ∃ i p q sv B, n = (layoutF kind).2.1 - i ∧ i ≤ (layoutF kind).2.1 ∧ p ≤ msg.length ∧ q.length = 1 + i ∧ R = rNames msg ((layoutF kind).2.1 - i) p q ∧ Fr 98 [(0, .string (mk msg)), (1, .int .i64 (p : Nat)), (9, .int .i64 (layoutF kind).2.1), (10, .int .i64 (layoutF kind).2.2.1), (12, sv), (13, .int .i64 (i : Nat))] a ∧ Hp w0 w B ∧ Sl 156 2 B sv q.length (pcV q)) ?_ ?_
  ·
   exact ⟨_, 0, at' + (layoutF kind).1, _, _, _, rfl, Nat.zero_le _, by omega, rfl, hR.symm, hF.keep [0, 1, 9, 10, 12, 13] rfl, hH, hS⟩
  clear hS hH hF
  intro n a w hI Q7 k7 t7
  obtain ⟨i, p, q, sv, B, hn, hi, hp, hq, he, hF, hH, hS⟩ := hI
  refine c_seq fun Q8 k8 t8 => ?_
  refine c_sr fun ops => ?_
  refine zm 2 hF rfl fun a hF => ?_
  refine zb hF rfl rfl rfl (b_ltn _ _ _ _) fun a hF => ?_
  refine c_n ?_
  refine c_if hF rfl (fun h60 => ?_) (fun h60 => ?_)
  ·
   try simp only [qq] at h60
   obtain ⟨k, hk⟩ : ∃ k, (layoutF kind).2.1 - i = k + 1 := ⟨(layoutF kind).2.1 - i - 1, by omega⟩
   rw [hk, rNames] at he
   refine wp_skip ?_
   refine k8 ?_
   refine c_seq fun Q9 k9 t9 => ?_
   refine c_block fun Q10 t10 => ?_
   refine c_sr fun ops => ?_
   refine zm 2 hF rfl fun a hF => ?_
   refine zc hF rfl rfl fn155 (refRead_spec msg p hs (by omega) _) ?_
   rintro _ w ⟨rfl, hE⟩ a hF
   replace hH := hH.ext hE
   refine zm 7 hF rfl fun a hF => ?_
   refine c_n ?_
   refine c_seq fun Q11 k11 t11 => ?_
   refine c_sr fun ops => ?_
   refine zm 1 hF rfl fun a hF => ?_
   refine zb hF rfl rfl rfl (b_nen _ _ _ 0) fun a hF => ?_
   refine c_n ?_
   refine c_if hF rfl (fun h71 => ?_) (fun h71 => ?_)
   ·
    try simp only [qq] at h71
    refine c_sr fun ops => ?_
    refine zm 3 hF rfl fun a hF => ?_
    refine c_n ?_
    refine wp_ret (t11.ret (t10.ret (t9.ret (t7.ret (t6.ret (t5.ret (hret (ret2 hF Tryz.results136 rfl rfl ?_))))))))
    rw [if_pos (by omega)] at he
    rw [he, if_pos (by simp only; omega)] at hrp
    exact ⟨_, [], by rw [hrp], hH.sub (List.nil_sublist _), by rw [hrp]; exact Sl.nil _ _⟩
   try simp only [qq] at h71
   rw [if_neg (by omega)] at he
   have hnx := readAt_next (msg := msg) (q := p) (by omega)
   refine wp_skip ?_
   refine k11 ?_
   refine c_sr fun ops => ?_
   refine zm 2 hF rfl fun a hF => ?_
   refine zl hF rfl (r_build hF rfl rfl (bd156_0_1 _ _ _ (rfl) (rfl))) fun a hF => ?_
   refine ls_build1 hF hH rfl rfl rfl rfl rfl Tryz.underlying152 ti156 rfl (by decide) ?_
   intro a w g18_3 hH hE hF
   have hR2 := rsl_lit (n := 1) (size := 2) hH rfl (by decide)
   replace hH := hH.drop
   refine ls_append0 hF hH rfl rfl rfl rfl rfl rfl Tryz.underlying152 ti156 hS hR2 (pcV_one [(_, true)]) (by decide) (by omega) ?_
   intro a v18_4 w B18_4 hH hS hF
   refine zm 1 hF rfl fun a hF => ?_
   refine c_n ?_
   refine c_reg fun ops => ?_
   refine zm 2 hF rfl fun a hF => ?_
   refine wpList_nil ?_
   refine t10.norm ?_
   refine k9 ?_
   refine c_reg fun ops => ?_
   refine zm 1 hF rfl fun a hF => ?_
   refine zb hF rfl rfl rfl (b_addn _ _ 1 (by omega)) fun a hF => ?_
   refine zm 1 hF rfl fun a hF => ?_
   refine wpList_nil ?_
   refine k7 ?_
   exact ⟨k, by omega, i + 1, (readAt msg p).2.2, q ++ [((readAt msg p).2.1, true)], _, _, by omega, by omega, hnx.2, by rw [List.length_append, List.length_singleton]; omega, by rw [show (layoutF kind).2.1 - (i + 1) = k by omega]; exact he, hF.keep [0, 1, 9, 10, 12, 13] rfl, hH, by rw [pcV_append, List.length_append]; exact hS⟩
  try simp only [qq] at h60
  rw [show (layoutF kind).2.1 - i = 0 by omega, rNames] at he
  rw [he, if_neg (by simp)] at hrp
  simp only at hrp
  refine wp_exit (t8.exit (t7.exit (t6.here (?_))))
  refine k5 ?_
  refine c_seq fun Q12 k12 t12 => ?_
  refine c_sr fun ops => ?_
  refine zm 1 hF rfl fun a hF => ?_
  refine zl hF rfl (r_len_str hF rfl rfl Tryz.underlying9) fun a hF => ?_
  refine zm 1 hF rfl fun a hF => ?_
  refine zb hF rfl rfl rfl (b_subn _ _ _ (by omega)) fun a hF => ?_
  refine zm 1 hF rfl fun a hF => ?_
  refine zb hF rfl rfl rfl (b_ltn _ _ _ _) fun a hF => ?_
  refine c_n ?_
  replace hF := hF.sel [0, 1, 10, 12, 84]
  simp only [ss, Nat.reduceBEq] at hF
  refine c_if hF rfl (fun h84 => ?_) (fun h84 => ?_)
  ·
   try simp only [qq] at h84
   rw [if_pos h84] at hrp
   refine c_sr fun ops => ?_
   refine zm 2 hF rfl fun a hF => ?_
   refine c_n ?_
   replace hF := hF.sel [6, 7]
   simp only [ss, Nat.reduceBEq] at hF
   refine wp_ret (t12.ret (hret (ret2 hF Tryz.results136 rfl rfl ?_)))
   exact ⟨_, [], by rw [hrp]; rfl, hH.sub (List.nil_sublist _), by rw [hrp]; exact Sl.nil _ _⟩
  try simp only [qq] at h84
  rw [if_neg h84] at hrp
  refine wp_skip ?_
  refine k12 ?_
  refine c_seq fun Q13 k13 t13 => ?_
  refine c_sr fun ops => ?_
  refine zm 1 hF rfl fun a hF => ?_
  refine zl hF rfl (r_len_str hF rfl rfl Tryz.underlying9) fun a hF => ?_
  refine zm 1 hF rfl fun a hF => ?_
  refine zb hF rfl rfl rfl (b_subn _ _ _ (by omega)) fun a hF => ?_
  refine zm 1 hF rfl fun a hF => ?_
  refine zb hF rfl rfl rfl (b_gtn _ _ _ _) fun a hF => ?_
  refine c_n ?_
  replace hF := hF.sel [0, 1, 12, 90]
  simp only [ss, Nat.reduceBEq] at hF
  refine c_if hF rfl (fun h90 => ?_) (fun h90 => ?_)
  ·
   try simp only [qq] at h90
   rw [if_pos h90] at hrp
   refine c_sr fun ops => ?_
   refine zm 2 hF rfl fun a hF => ?_
   refine c_n ?_
   replace hF := hF.sel [6, 7]
   simp only [ss, Nat.reduceBEq] at hF
   refine wp_ret (t13.ret (hret (ret2 hF Tryz.results136 rfl rfl ?_)))
   exact ⟨_, [], by rw [hrp]; rfl, hH.sub (List.nil_sublist _), by rw [hrp]; exact Sl.nil _ _⟩
  try simp only [qq] at h90
  rw [if_neg h90] at hrp
  refine wp_skip ?_
  refine k13 ?_
  refine c_sr fun ops => ?_
  refine zm 3 hF rfl fun a hF => ?_
  refine zl hF rfl (r_slicefn hF _ rfl rfl Tryz.underlying9 ⟨_, rfl⟩ (by omega)) fun a hF => ?_
  refine zl hF rfl (r_build hF rfl rfl (bd156_0 _ _ (rfl))) fun a hF => ?_
  refine ls_build1 hF hH rfl rfl rfl rfl rfl Tryz.underlying152 ti156 rfl (by decide) ?_
  intro a w g24_5 hH hE hF
  have hR2 := rsl_lit (n := 1) (size := 2) hH rfl (by decide)
  replace hH := hH.drop
  refine ls_append0 hF hH rfl rfl rfl rfl rfl rfl Tryz.underlying152 ti156 hS hR2 (pcV_one [(_, false)]) (by decide) (by omega) ?_
  intro a v24_6 w B24_6 hH hS hF
  refine zm 2 hF rfl fun a hF => ?_
  refine c_n ?_
  replace hF := hF.sel [6, 7]
  simp only [ss, Nat.reduceBEq] at hF
  refine wp_ret (hret (ret2 hF Tryz.results136 rfl rfl ?_))
  exact ⟨_, _, by rw [hrp]; rfl, hH, by rw [hrp]; simp only; rw [pcV_append, List.length_append]; exact hS⟩
  -- UNUSED HOOK post 15.2

/-- Reading a row of pieces. -/
theorem RSl.atP {w : World} {ad : Option Addr} {cap : Nat} {l : Pieces} (h : RSl w 2 (.slice ad l.length cap) l.length (pcV l)) {i : Nat} (hi : i < l.length) :
    ∃ b off, ad = some ⟨b, off, none⟩ ∧ w.cell? ⟨b, off + i * 2, none⟩ = some (.string (mk l[i].1)) ∧ w.cell? ⟨b, off + i * 2 + 1, none⟩ = some (.bool l[i].2) := by
  obtain ⟨h1, ad', cap', hv, _, _, h3⟩ := h
  cases hv
  rcases h3 with ⟨_, _, h0⟩ | ⟨b, off, rfl, hc⟩
  · omega
  · refine ⟨b, off, rfl, ?_, ?_⟩
    · have := hc (i * 2 + 0) _ (pcV_get hi 0 _ rfl); simpa using this
    · have := hc (i * 2 + 1) _ (pcV_get hi 1 _ rfl); rwa [← Nat.add_assoc] at this

theorem refJoined_spec (l : Pieces) (v : Value) (w0 : World) (hR : RSl w0 2 v l.length (pcV l)) (hlen : (flatP l).length < 1000000000) (hl : l.length < 5000000) : Rets Tryz.prog 137 [v] w0 fun v w' => v = .string (mk (flatP l)) ∧ Ext w0 w' := by
  have hH := Hp.refl w0
  obtain ⟨ad, cap, rfl⟩ := hR.shape
  refine rets_start Tryz.func137 rfl Tryz.ntmps137 rfl fun a Q0 hF hret hend => ?_
  simp only [argsFrom, Nat.zero_add, Nat.reduceAdd] at hF
  refine c_sr fun ops => ?_
  refine zm 1 hF rfl fun a hF => ?_
  refine c_n ?_
  replace hF := hF.sel [0]
  simp only [ss, Nat.reduceBEq] at hF
  refine c_sr fun ops => ?_
  refine zm 1 hF rfl fun a hF => ?_
  refine c_n ?_
  replace hF := hF.sel [0, 3]
  simp only [ss, Nat.reduceBEq] at hF
  refine c_seq fun Q1 k1 t1 => ?_
  refine c_sr fun ops => ?_
  refine zm 1 hF rfl fun a hF => ?_
  refine c_n ?_
  replace hF := hF.sel [0, 3, 4]
  simp only [ss, Nat.reduceBEq] at hF
  refine c_block fun Q2 t2 => ?_
  refine c_loop (fun n a w => ∃ i, n = l.length - i ∧ i ≤ l.length ∧ Fr 19 [(0, .slice ad l.length cap), (3, .string (mk (flatP (l.take i)))), (4, .int .i64 i)] a ∧ Hp w0 w []) ?_ ?_
  ·
   exact ⟨_, 0, rfl, Nat.zero_le _, hF.keep [0, 3, 4] rfl, hH⟩
  intro n a w hI Q3 k3 t3
  obtain ⟨i, hn, hi, hF, hH⟩ := hI
  refine c_seq fun Q4 k4 t4 => ?_
  refine c_sr fun ops => ?_
  refine zm 2 hF rfl fun a hF => ?_
  refine zl hF rfl (r_len_sl hF rfl rfl Tryz.underlying152) fun a hF => ?_
  refine zb hF rfl rfl rfl (b_ltn _ _ _ _) fun a hF => ?_
  refine c_n ?_
  refine c_fi hF rfl (fun h8 => ?_) (fun h8 => ?_)
  ·
   try simp only [qq] at h8
   refine wp_exit (t4.exit (t3.exit (t2.here (?_))))
   refine k1 ?_
   refine c_sr fun ops => ?_
   refine zm 2 hF rfl fun a hF => ?_
   refine c_n ?_
   replace hF := hF.sel [2]
   simp only [ss, Nat.reduceBEq] at hF
   refine wp_ret (hret (ret1 hF Tryz.results137 rfl ?_))
   have e : i = l.length := by omega
   subst e
   exact ⟨by rw [List.take_length], hH.below⟩
  try simp only [qq] at h8
  obtain ⟨b, off, rfl, hc1, hc2⟩ := hR.atP h8
  have hj := flatP_take h8
  have hjl := flatP_le l (i + 1)
  rw [hj, List.length_append] at hjl
  refine wp_skip ?_
  refine k4 ?_
  refine c_seq fun Q5 k5 t5 => ?_
  refine c_block fun Q6 t6 => ?_
  refine c_reg fun ops => ?_
  refine zm 3 hF rfl fun a hF => ?_
  refine zl hF rfl (r_indexaddr hF _ rfl rfl rfl Tryz.underlying152 ti156 (by omega)) fun a hF => ?_
  refine zl hF rfl (r_fieldaddr hF rfl rfl fd156_0) fun a hF => ?_
  refine zl hF rfl (r_load hF rfl rfl fl9 (hH.cell hc1)) fun a hF => ?_
  refine zb hF rfl rfl rfl (b_sadd _ _ _ (by omega)) fun a hF => ?_
  refine zm 1 hF rfl fun a hF => ?_
  refine wpList_nil ?_
  refine t6.norm ?_
  refine k5 ?_
  refine c_reg fun ops => ?_
  refine zm 1 hF rfl fun a hF => ?_
  refine zb hF rfl rfl rfl (b_addn _ _ 1 (by omega)) fun a hF => ?_
  refine zm 1 hF rfl fun a hF => ?_
  refine wpList_nil ?_
  refine k3 ?_
  exact ⟨l.length - (i + 1), by omega, i + 1, rfl, by omega, by rw [hj]; exact hF.keep [0, 3, 4] rfl, hH⟩

theorem refWhole_spec (kind : Nat) (data : Bs) (hs : data.length < 1000000) (hl : (refP data 0 kind).2.length < 5000000) (hf : (flatP (refP data 0 kind).2).length < 1000000000) (w0 : World) : Rets Tryz.prog 109 [.int .u16 kind, .string (mk data)] w0
    fun v w' => ∃ sv B, v = .tuple #[sv, .bool (refW kind data).isSome] ∧ Hp w0 w' B ∧ Sl 156 2 B sv ((refW kind data).getD []).length (pcV ((refW kind data).getD [])) := by
  have hH := Hp.refl w0
  have hW : refW kind data = if (refP data 0 kind).1 ≠ 0 ∨ flatP (refP data 0 kind).2 ≠ data then none else some (refP data 0 kind).2 := rfl
  refine rets_start Tryz.func109 rfl Tryz.ntmps109 rfl fun a Q0 hF hret hend => ?_
  simp only [argsFrom, Nat.zero_add, Nat.reduceAdd] at hF
  refine c_sr fun ops => ?_
  refine zm 2 hF rfl fun a hF => ?_
  refine c_n ?_
  replace hF := hF.sel [0, 1]
  simp only [ss, Nat.reduceBEq] at hF
  refine c_sr fun ops => ?_
  refine zm 2 hF rfl fun a hF => ?_
  refine zc hF rfl rfl fn136 (refPieces_spec data 0 kind hs (Nat.zero_le _) _) ?_
  rintro _ w ⟨sv, B, rfl, hB, hS⟩ a hF
  replace hH := hH.join hB
  refine zm 5 hF rfl fun a hF => ?_
  refine c_n ?_
  replace hF := hF.sel [1, 6, 7]
  simp only [ss, Nat.reduceBEq] at hF
  rw [List.append_nil] at hH
  refine c_seq fun Q1 k1 t1 => ?_
  refine c_sg ?_
  refine zm 1 hF rfl fun a hF => ?_
  refine zb hF rfl rfl rfl (b_nen _ _ _ 0) fun a hF => ?_
  refine zm 1 hF rfl fun a hF => ?_
  refine ls_ask (d := 16) hF rfl (fun g2_2 => ?_) (fun g2_2 => ?_)
  ·
   have g2_2' := g2_2; try simp only [qq] at g2_2'
   refine zn hF rfl g2_2 fun a hF => ?_
   refine zn hF rfl g2_2 fun a hF => ?_
   refine zn hF rfl g2_2 fun a hF => ?_
   refine zn hF rfl g2_2 fun a hF => ?_
   refine zl hF rfl (r_pickt hF rfl rfl g2_2 rfl) fun a hF => ?_
   refine c_n ?_
   replace hF := hF.sel [6, 21]
   simp only [ss, Nat.reduceBEq] at hF
   refine c_yes hF rfl rfl ?_
   refine c_sr fun ops => ?_
   refine zm 2 hF rfl fun a hF => ?_
   refine c_n ?_
   replace hF := hF.sel [4, 5]
   simp only [ss, Nat.reduceBEq] at hF
   refine wp_ret (t1.ret (hret (ret2 hF Tryz.results109 rfl rfl ?_)))
   have hn : refW kind data = none := by rw [hW, if_pos (by simp_all)]
   exact ⟨_, [], by rw [hn]; rfl, hH.sub (List.nil_sublist _), by rw [hn]; exact Sl.nil _ _⟩
  have g2_2' := g2_2; try simp only [qq] at g2_2'
  refine zy hF rfl g2_2 (r_move hF rfl rfl) fun a hF => ?_
  refine zyc hF rfl g2_2 rfl fn137 (refJoined_spec _ _ _ (hS.rsl hH fun p hp => hp) hf hl) ?_
  rintro _ w ⟨rfl, hE⟩ a hF
  replace hH := hH.ext hE
  refine zy hF rfl g2_2 (r_move hF rfl rfl) fun a hF => ?_
  refine zy hF rfl g2_2 (zr hF rfl rfl (b_sne _ _ _)) fun a hF => ?_
  refine zl hF rfl (r_pickf hF rfl rfl g2_2 rfl) fun a hF => ?_
  refine c_n ?_
  replace hF := hF.sel [6, 21]
  simp only [ss, Nat.reduceBEq] at hF
  refine c_if hF rfl (fun h21 => ?_) (fun h21 => ?_)
  ·
   try simp only [qq] at h21
   refine c_sr fun ops => ?_
   refine zm 2 hF rfl fun a hF => ?_
   refine c_n ?_
   replace hF := hF.sel [4, 5]
   simp only [ss, Nat.reduceBEq] at hF
   refine wp_ret (t1.ret (hret (ret2 hF Tryz.results109 rfl rfl ?_)))
   have hn : refW kind data = none := by rw [hW, if_pos (by simp_all)]
   exact ⟨_, [], by rw [hn]; rfl, hH.sub (List.nil_sublist _), by rw [hn]; exact Sl.nil _ _⟩
  try simp only [qq] at h21
  refine wp_skip ?_
  refine k1 ?_
  refine c_sr fun ops => ?_
  refine zm 3 hF rfl fun a hF => ?_
  refine c_n ?_
  replace hF := hF.sel [4, 5]
  simp only [ss, Nat.reduceBEq] at hF
  refine wp_ret (hret (ret2 hF Tryz.results109 rfl rfl ?_))
  have hn : refW kind data = some (refP data 0 kind).2 := by rw [hW, if_neg (by simp_all)]
  exact ⟨_, _, by rw [hn]; rfl, hH, by rw [hn]; exact hS⟩

theorem refDMay_spec (kind : Nat) (data : Bs) (hs : data.length < 1000000) (hl : (refP data 0 kind).2.length < 5000000) (hf : (flatP (refP data 0 kind).2).length < 1000000000) (w0 : World) : Rets Tryz.prog 67 [.int .u16 kind, .string (mk data)] w0
    fun v w' => v = .bool (refW kind data).isSome ∧ Ext w0 w' := by
  have hH := Hp.refl w0
  refine rets_start Tryz.func67 rfl Tryz.ntmps67 rfl fun a Q0 hF hret hend => ?_
  simp only [argsFrom, Nat.zero_add, Nat.reduceAdd] at hF
  refine c_sr fun ops => ?_
  refine zm 1 hF rfl fun a hF => ?_
  refine c_n ?_
  replace hF := hF.sel [0, 1]
  simp only [ss, Nat.reduceBEq] at hF
  refine c_sr fun ops => ?_
  refine zm 2 hF rfl fun a hF => ?_
  refine zc hF rfl rfl fn109 (refWhole_spec kind data hs hl hf _) ?_
  rintro _ w ⟨sv, B, rfl, hB, hS⟩ a hF
  replace hH := hH.ext hB.below
  refine zm 5 hF rfl fun a hF => ?_
  refine c_n ?_
  replace hF := hF.sel [6]
  simp only [ss, Nat.reduceBEq] at hF
  refine c_sr fun ops => ?_
  refine zm 2 hF rfl fun a hF => ?_
  refine c_n ?_
  replace hF := hF.sel [4]
  simp only [ss, Nat.reduceBEq] at hF
  refine wp_ret (hret (ret1 hF Tryz.results67 rfl ?_))
  exact ⟨rfl, hH.below⟩

theorem refDFold_spec (kind : Nat) (data : Bs) (hs : data.length < 1000000) (hl : (refP data 0 kind).2.length < 5000000) (hf : (flatP (refP data 0 kind).2).length < 1000000000) (hn : ∀ p ∈ (refW kind data).getD [], p.1.length < 1000000) (hf2 : (flatP ((refW kind data).getD [])).length < 1000000000) (hl2 : ((refW kind data).getD []).length < 5000000) (w0 : World) :
    Rets Tryz.prog 69 [.int .u16 kind, .string (mk data)] w0 fun v w' => v = .string (mk (refFold kind data)) ∧ Ext w0 w' := by
  have hH := Hp.refl w0
  have hdf : refFold kind data = flatP (((refW kind data).getD []).map fpc) := by rw [refFold, flatP, List.map_map]; rfl
  refine rets_start Tryz.func69 rfl Tryz.ntmps69 rfl fun a Q0 hF hret hend => ?_
  simp only [argsFrom, Nat.zero_add, Nat.reduceAdd] at hF
  refine c_sr fun ops => ?_
  refine zm 1 hF rfl fun a hF => ?_
  refine c_n ?_
  replace hF := hF.sel [0, 1]
  simp only [ss, Nat.reduceBEq] at hF
  refine c_sr fun ops => ?_
  refine zm 2 hF rfl fun a hF => ?_
  refine zc hF rfl rfl fn109 (refWhole_spec kind data hs hl hf _) ?_
  rintro _ w1 ⟨sv, B, rfl, hB, hS⟩ a hF
  replace hH := hH.ext hB.below
  refine zm 5 hF rfl fun a hF => ?_
  refine c_n ?_
  replace hF := hF.sel [5]
  simp only [ss, Nat.reduceBEq] at hF
  have hL := hS.rsl hB fun p hp => hp
  generalize (refW kind data).getD [] = q at *
  obtain ⟨ad, cp, rfl⟩ := hL.shape
  have hE0 := hH.below
  replace hH := Hp.refl w1
  refine c_sr fun ops => ?_
  refine zm 1 hF rfl fun a hF => ?_
  refine c_n ?_
  replace hF := hF.sel [5, 7]
  simp only [ss, Nat.reduceBEq] at hF
  refine c_seq fun Q1 k1 t1 => ?_
  refine c_sr fun ops => ?_
  refine zm 1 hF rfl fun a hF => ?_
  refine c_n ?_
  replace hF := hF.sel [5, 7, 8]
  simp only [ss, Nat.reduceBEq] at hF
  refine c_block fun Q2 t2 => ?_
  refine c_loop (fun n a w => ∃ i, n = q.length - i ∧ i ≤ q.length ∧ Fr 42 [(5, .slice ad q.length cp), (7, .string (mk (flatP ((q.take i).map fpc)))), (8, .int .i64 i)] a ∧ Hp w1 w []) ?_ ?_
  ·
   exact ⟨_, 0, rfl, Nat.zero_le _, hF.keep [5, 7, 8] rfl, hH⟩
  clear hS hB hH hF
  intro n a w hI Q3 k3 t3
  obtain ⟨i, hn', hi, hF, hH⟩ := hI
  refine c_seq fun Q4 k4 t4 => ?_
  refine c_sr fun ops => ?_
  refine zm 2 hF rfl fun a hF => ?_
  refine zl hF rfl (r_len_sl hF rfl rfl Tryz.underlying152) fun a hF => ?_
  refine zb hF rfl rfl rfl (b_ltn _ _ _ _) fun a hF => ?_
  refine c_n ?_
  refine c_fi hF rfl (fun h18 => ?_) (fun h18 => ?_)
  ·
   try simp only [qq] at h18
   refine wp_exit (t4.exit (t3.exit (t2.here (?_))))
   refine k1 ?_
   refine c_sr fun ops => ?_
   refine zm 2 hF rfl fun a hF => ?_
   refine c_n ?_
   replace hF := hF.sel [4]
   simp only [ss, Nat.reduceBEq] at hF
   refine wp_ret (hret (ret1 hF Tryz.results69 rfl ?_))
   have e : i = q.length := by omega
   subst e
   exact ⟨by rw [hdf, List.take_length], hE0.trans hH.below⟩
  try simp only [qq] at h18
  obtain ⟨b, off, rfl, hc1, hc2⟩ := hL.atP h18
  have hql := hn _ (List.getElem_mem h18)
  have hfl := fold_le q[i].1
  have h3 := flatP_fpc (q.take i)
  have h4 := flatP_le q i
  have hj : flatP ((q.take (i + 1)).map fpc) = flatP ((q.take i).map fpc) ++ (fpc q[i]).1 := by
    rw [List.take_succ_eq_append_getElem h18, List.map_append]; simp [flatP]
  refine wp_skip ?_
  refine k4 ?_
  refine c_seq fun Q5 k5 t5 => ?_
  refine c_block fun Q6 t6 => ?_
  refine c_sr fun ops => ?_
  refine zm 2 hF rfl fun a hF => ?_
  refine zl hF rfl (r_indexaddr hF _ rfl rfl rfl Tryz.underlying152 ti156 (by omega)) fun a hF => ?_
  refine zl hF rfl (r_fieldaddr hF rfl rfl fd156_1) fun a hF => ?_
  refine zl hF rfl (r_load hF rfl rfl fl4 (hH.cell hc2)) fun a hF => ?_
  refine c_n ?_
  refine c_fi hF rfl (fun h25 => ?_) (fun h25 => ?_)
  ·
   try simp only [qq] at h25
   refine c_reg fun ops => ?_
   refine zm 3 hF rfl fun a hF => ?_
   refine zl hF rfl (r_indexaddr hF _ rfl rfl rfl Tryz.underlying152 ti156 (by omega)) fun a hF => ?_
   refine zl hF rfl (r_fieldaddr hF rfl rfl fd156_0) fun a hF => ?_
   refine zl hF rfl (r_load hF rfl rfl fl9 (hH.cell hc1)) fun a hF => ?_
   refine zb hF rfl rfl rfl (b_sadd _ _ _ (by omega)) fun a hF => ?_
   refine zm 1 hF rfl fun a hF => ?_
   refine wpList_nil ?_
   refine t6.norm ?_
   refine k5 ?_
   refine c_reg fun ops => ?_
   refine zm 1 hF rfl fun a hF => ?_
   refine zb hF rfl rfl rfl (b_addn _ _ 1 (by omega)) fun a hF => ?_
   refine zm 1 hF rfl fun a hF => ?_
   refine wpList_nil ?_
   refine k3 ?_
   refine ⟨q.length - (i + 1), by omega, i + 1, rfl, by omega, ?_, hH⟩
   rw [hj, fpc]
   first
     | (rw [if_pos h25]; exact hF.keep [5, 7, 8] rfl)
     | (rw [if_neg (by simp [h25])]; exact hF.keep [5, 7, 8] rfl)
  try simp only [qq] at h25
  refine c_reg fun ops => ?_
  refine zm 3 hF rfl fun a hF => ?_
  refine zl hF rfl (r_indexaddr hF _ rfl rfl rfl Tryz.underlying152 ti156 (by omega)) fun a hF => ?_
  refine zl hF rfl (r_fieldaddr hF rfl rfl fd156_0) fun a hF => ?_
  refine zl hF rfl (r_load hF rfl rfl fl9 (hH.cell hc1)) fun a hF => ?_
  refine zc hF rfl rfl fn68 (refFold_spec _ (by omega) _) ?_
  rintro _ w ⟨rfl, hE⟩ a hF
  replace hH := hH.ext hE
  refine zb hF rfl rfl rfl (b_sadd _ _ _ (by omega)) fun a hF => ?_
  refine zm 1 hF rfl fun a hF => ?_
  refine wpList_nil ?_
  refine t6.norm ?_
  refine k5 ?_
  refine c_reg fun ops => ?_
  refine zm 1 hF rfl fun a hF => ?_
  refine zb hF rfl rfl rfl (b_addn _ _ 1 (by omega)) fun a hF => ?_
  refine zm 1 hF rfl fun a hF => ?_
  refine wpList_nil ?_
  refine k3 ?_
  refine ⟨q.length - (i + 1), by omega, i + 1, rfl, by omega, ?_, hH⟩
  rw [hj, fpc]
  first
    | (rw [if_pos h25]; exact hF.keep [5, 7, 8] rfl)
    | (rw [if_neg (by simp [h25])]; exact hF.keep [5, 7, 8] rfl)
end Go.Proofs.YtcelgjabccgnmaaGreatDoor
namespace Go.Proofs.YtcelgjabccgnmaaGreatDoor
open Go.RowKit
set_option linter.unusedVariables false
set_option linter.unusedSimpArgs false
set_option maxHeartbeats 1000000

theorem doParts_le {msg : Bs} {whole : Bool} : ∀ (xs : List Part) (p : Nat) (q : Pieces), p ≤ msg.length → (doParts msg whole xs p q).1 = 0 → (doParts msg whole xs p q).2.2.length ≤ q.length + xs.length * (1 + msg.length)
  | [], p, q, _, _ => by simp [doParts]
  | x :: xs, p, q, hp, h => by
    rw [doParts_cons] at h ⊢
    split at h
    · rename_i h1
      rw [if_pos h1]
      obtain ⟨h2, h3⟩ := doPart_le (q := q) hp x h1
      have := doParts_le xs _ _ h2 h
      rw [List.length_cons, Nat.add_mul]; omega
    · rename_i h1; exact absurd h h1
theorem partsOf_len {kind : Nat} {l : List Part} (h : partsOf kind = some l) : l.length ≤ 3 := by
  unfold partsOf at h
  repeat' split at h
  all_goals first
    | (cases h; decide)
    | cases h
theorem readD_len (kind : Nat) (data : Bs) : (readD data 0 kind true).2.length ≤ 3 * (1 + data.length) := by
  rw [readD]
  cases h : partsOf kind with
  | none => simp
  | some l =>
    have hl := partsOf_len h
    simp only [readE]
    split
    · rename_i h0
      split
      · simp
      · have := doParts_le (whole := true) l 0 [] (Nat.zero_le _) h0
        have h2 : l.length * (1 + data.length) ≤ 3 * (1 + data.length) := Nat.mul_le_mul_right _ hl
        simp only [List.length_nil] at this ⊢; omega
    · simp
theorem readD_no {kind : Nat} {data : Bs} (h : dmayB kind data = false) : (readD data 0 kind true).2 = [] := by
  rw [dmayB] at h
  rw [readD] at h ⊢
  cases hp : partsOf kind with
  | none => rfl
  | some l =>
    simp only [hp, readE] at h ⊢
    split
    · rename_i h0
      rw [if_pos h0] at h
      split
      · rfl
      · rename_i h1; rw [if_neg h1] at h; simp at h
    · rfl
theorem readD_flat (kind : Nat) (data : Bs) : (flatP (readD data 0 kind true).2).length ≤ data.length := by
  cases h : dmayB kind data with
  | true => rw [show flatP (readD data 0 kind true).2 = data from (agree_all kind data).2.2 h]; exact Nat.le_refl _
  | false => rw [readD_no h]; simp [flatP]
theorem rNames_le {msg : Bs} : ∀ (k p : Nat) (q : Pieces), (rNames msg k p q).2.2.length ≤ q.length + k ∧ (flatP (rNames msg k p q).2.2).length ≤ (flatP q).length + k * 255
  | 0, p, q => by simp [rNames]
  | k + 1, p, q => by
    rw [rNames]
    split
    · simp [flatP]
    · obtain ⟨h1, h2⟩ := rNames_le (msg := msg) k (readAt msg p).2.2 (q ++ [((readAt msg p).2.1, true)])
      have h3 := readAt_255 msg p
      have h4 : (flatP (q ++ [((readAt msg p).2.1, true)])).length = (flatP q).length + (readAt msg p).2.1.length := by simp [flatP]
      rw [List.length_append, List.length_singleton] at h1
      rw [Nat.add_mul]
      omega
theorem refP_le (kind : Nat) (data : Bs) : (refP data 0 kind).2.length ≤ 5 ∧ (flatP (refP data 0 kind).2).length ≤ 2 * data.length + 1000 := by
  obtain ⟨h1, h2, h3⟩ := layoutF_le kind
  unfold refP
  split
  · simp [flatP]
  split
  · unfold rTexts; split
    · simp [flatP]
    · split
      · simp [flatP]; omega
      · simp [flatP]
  split
  · simp [flatP]; omega
  split
  · simp [flatP]
  obtain ⟨h4, h5⟩ := rNames_le (msg := data) (layoutF kind).2.1 (0 + (layoutF kind).1) [((data.take (0 + (layoutF kind).1)).drop 0, false)]
  have h6 : (flatP [((data.take (0 + (layoutF kind).1)).drop 0, false)]).length ≤ data.length := by simp [flatP]; omega
  have h7 : (layoutF kind).2.1 * 255 ≤ 2 * 255 := Nat.mul_le_mul_right _ h2
  split
  · simp [flatP]
  split
  · simp [flatP]
  split
  · simp [flatP]
  · simp only [List.length_append, List.length_singleton] at h4 ⊢
    refine ⟨by omega, ?_⟩
    have h8 : ∀ x : Bs, (flatP ((rNames data (layoutF kind).2.1 (0 + (layoutF kind).1) [((data.take (0 + (layoutF kind).1)).drop 0, false)]).2.2 ++ [(x, false)])).length = (flatP (rNames data (layoutF kind).2.1 (0 + (layoutF kind).1) [((data.take (0 + (layoutF kind).1)).drop 0, false)]).2.2).length + x.length := by
      intro x; simp [flatP]
    rw [h8, List.length_drop]
    omega
theorem refW_flat {kind : Nat} {data : Bs} : flatP ((refW kind data).getD []) = data ∨ (refW kind data).getD [] = [] := by
  rw [refW]; split
  · exact .inr rfl
  · rename_i h
    refine .inl ?_
    have := fun e => h (.inr e)
    exact Classical.not_not.1 this
theorem piece_le {l : Pieces} {p : Bs × Bool} (h : p ∈ l) : p.1.length ≤ (flatP l).length := by
  obtain ⟨i, hi, rfl⟩ := List.mem_iff_getElem.1 h
  have h1 := flatP_take hi
  have h2 := flatP_le l (i + 1)
  rw [h1, List.length_append] at h2; omega

theorem dataFold_spec (kind : Nat) (data : Bs) (hs : data.length < 1000000) (w0 : World) (hG : GW w0) : Rets Tryz.prog 28 [.int .u16 kind, .string (mk data)] w0 fun v w' => v = .string (mk (dfold kind data)) ∧ Ext w0 w' :=
  dfold_spec kind data hs (by have := readD_len kind data; omega) (by have := readD_flat kind data; omega) w0 hG
theorem refDataMay_spec (kind : Nat) (data : Bs) (hs : data.length < 1000000) (w0 : World) : Rets Tryz.prog 67 [.int .u16 kind, .string (mk data)] w0 fun v w' => v = .bool (dmayB kind data) ∧ Ext w0 w' := by
  obtain ⟨h1, h2⟩ := refP_le kind data
  have := refDMay_spec kind data hs (by omega) (by omega) w0
  rwa [(agree_all kind data).1] at this
theorem refDataFold_spec (kind : Nat) (data : Bs) (hs : data.length < 1000000) (w0 : World) : Rets Tryz.prog 69 [.int .u16 kind, .string (mk data)] w0 fun v w' => v = .string (mk (dfold kind data)) ∧ Ext w0 w' := by
  obtain ⟨h1, h2⟩ := refP_le kind data
  have hfl : (flatP ((refW kind data).getD [])).length ≤ data.length := by
    rcases refW_flat (kind := kind) (data := data) with h | h
    · rw [h]; exact Nat.le_refl _
    · rw [h]; simp [flatP]
  have hlen : ((refW kind data).getD []).length ≤ 5 := by
    rw [refW]; split
    · simp
    · simpa using h1
  have := refDFold_spec kind data hs (by omega) (by omega) (fun p hp => by have := piece_le hp; omega) (by omega) (by omega) w0
  rwa [(agree_all kind data).2.1] at this
end Go.Proofs.YtcelgjabccgnmaaGreatDoor
