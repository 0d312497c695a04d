/-
  The order of texts, as a plain function, and the operations that ask for it; comparisons of numbers. Nothing is claimed here.
-/
import Derived.Test.YtcelgjabccgnmaaGreatDoorFlow
import Derived.Test.YtcelgjabccgnmaaGreatDoorSpec
import Derived.Test.YtcelgjabccgnmaaGreatDoorFns
namespace Go.Proofs.YtcelgjabccgnmaaGreatDoor
open Go.RowKit
set_option linter.unusedVariables false
set_option linter.unusedSimpArgs false
set_option maxHeartbeats 1000000

theorem bless_eq : ∀ (x y : Bs), Op.bytesLess x y = bless x y
  | [], [] => rfl
  | _ :: _, [] => rfl
  | [], _ :: _ => rfl
  | a :: x, b :: y => by
    rw [Op.bytesLess, bless_eq x y, bless]
    by_cases h : a.toNat < b.toNat
    · have : a < b := UInt8.lt_iff_toNat_lt.2 h
      simp [h, this]
    · have h1 : ¬ a < b := fun e => h (UInt8.lt_iff_toNat_lt.1 e)
      by_cases h2 : a = b
      · subst h2; simp
      · have : ¬ a.toNat = b.toNat := fun e => h2 (UInt8.toNat_inj.1 e)
        simp [h, h1, h2, this]

section
variable {P : Program} {w : World}
theorem b_slt (t : TypeId) (x y : List UInt8) : (binOp .lss t (.string (mk x)) (.string (mk y))).run P w = .ok (.bool (bless x y)) w := by
  simp [go_sem]; exact bless_eq x y
theorem b_sgt (t : TypeId) (x y : List UInt8) : (binOp .gtr t (.string (mk x)) (.string (mk y))).run P w = .ok (.bool (bless y x)) w := by
  simp [go_sem]; rw [bless_eq, bless_gt]
theorem b_sle (t : TypeId) (x y : List UInt8) : (binOp .leq t (.string (mk x)) (.string (mk y))).run P w = .ok (.bool (!bless y x)) w := by
  simp [go_sem]; rw [bless_eq, bless_le]
theorem b_sge (t : TypeId) (x y : List UInt8) : (binOp .geq t (.string (mk x)) (.string (mk y))).run P w = .ok (.bool (!bless x y)) w := by
  simp [go_sem]; rw [bless_eq]
end

theorem isNaNi_spec (k : Int) (w0 : World) : Rets Tryz.prog 141 [.int .i64 k] w0 fun v w' => v = .bool false ∧ Ext w0 w' := by
  have hH := Hp.refl w0
  refine rets_start Tryz.func141 rfl Tryz.ntmps141 rfl fun a Q0 hF hret hend => ?_
  simp only [argsFrom, Nat.zero_add, Nat.reduceAdd] at hF
  refine c_sr fun ops => ?_
  refine zm 1 hF rfl fun a hF => ?_
  refine c_n ?_
  replace hF := hF.sel [0]
  simp only [ss, Nat.reduceBEq] at hF
  refine c_sr fun ops => ?_
  refine zm 2 hF rfl fun a hF => ?_
  refine zb hF rfl rfl rfl (b_ne _ _ _ _) fun a hF => ?_
  refine zm 1 hF rfl fun a hF => ?_
  refine c_n ?_
  replace hF := hF.sel [2]
  simp only [ss, Nat.reduceBEq] at hF
  refine wp_ret (hret (ret1 hF Tryz.results141 rfl ?_))
  exact ⟨by simp, hH.below⟩
theorem isNaNu_spec (k : Nat) (w0 : World) : Rets Tryz.prog 127 [.int .u16 k] w0 fun v w' => v = .bool false ∧ Ext w0 w' := by
  have hH := Hp.refl w0
  refine rets_start Tryz.func127 rfl Tryz.ntmps127 rfl fun a Q0 hF hret hend => ?_
  simp only [argsFrom, Nat.zero_add, Nat.reduceAdd] at hF
  refine c_sr fun ops => ?_
  refine zm 1 hF rfl fun a hF => ?_
  refine c_n ?_
  replace hF := hF.sel [0]
  simp only [ss, Nat.reduceBEq] at hF
  refine c_sr fun ops => ?_
  refine zm 2 hF rfl fun a hF => ?_
  refine zb hF rfl rfl rfl (b_nen _ _ _ _) fun a hF => ?_
  refine zm 1 hF rfl fun a hF => ?_
  refine c_n ?_
  replace hF := hF.sel [2]
  simp only [ss, Nat.reduceBEq] at hF
  refine wp_ret (hret (ret1 hF Tryz.results127 rfl ?_))
  exact ⟨by simp, hH.below⟩
theorem isNaNs_spec (l : Bs) (w0 : World) : Rets Tryz.prog 129 [.string (mk l)] w0 fun v w' => v = .bool false ∧ Ext w0 w' := by
  have hH := Hp.refl w0
  refine rets_start Tryz.func129 rfl Tryz.ntmps129 rfl fun a Q0 hF hret hend => ?_
  simp only [argsFrom, Nat.zero_add, Nat.reduceAdd] at hF
  refine c_sr fun ops => ?_
  refine zm 1 hF rfl fun a hF => ?_
  refine c_n ?_
  replace hF := hF.sel [0]
  simp only [ss, Nat.reduceBEq] at hF
  refine c_sr fun ops => ?_
  refine zm 2 hF rfl fun a hF => ?_
  refine zb hF rfl rfl rfl (b_sne _ _ _) fun a hF => ?_
  refine zm 1 hF rfl fun a hF => ?_
  refine c_n ?_
  replace hF := hF.sel [2]
  simp only [ss, Nat.reduceBEq] at hF
  refine wp_ret (hret (ret1 hF Tryz.results129 rfl ?_))
  exact ⟨by simp, hH.below⟩
theorem isNaNz_spec (l : Bs) (w0 : World) : Rets Tryz.prog 99 [.string (mk l)] w0 fun v w' => v = .bool false ∧ Ext w0 w' := by
  have hH := Hp.refl w0
  refine rets_start Tryz.func99 rfl Tryz.ntmps99 rfl fun a Q0 hF hret hend => ?_
  simp only [argsFrom, Nat.zero_add, Nat.reduceAdd] at hF
  refine c_sr fun ops => ?_
  refine zm 1 hF rfl fun a hF => ?_
  refine c_n ?_
  replace hF := hF.sel [0]
  simp only [ss, Nat.reduceBEq] at hF
  refine c_sr fun ops => ?_
  refine zm 2 hF rfl fun a hF => ?_
  refine zb hF rfl rfl rfl (b_sne _ _ _) fun a hF => ?_
  refine zm 1 hF rfl fun a hF => ?_
  refine c_n ?_
  replace hF := hF.sel [2]
  simp only [ss, Nat.reduceBEq] at hF
  refine wp_ret (hret (ret1 hF Tryz.results99 rfl ?_))
  exact ⟨by simp, hH.below⟩
theorem cmpi_spec (j k : Int) (w0 : World) : Rets Tryz.prog 125 [.int .i64 j, .int .i64 k] w0 fun v w' => v = .int .i64 (icmp j k) ∧ Ext w0 w' := by
  have hH := Hp.refl w0
  refine rets_start Tryz.func125 rfl Tryz.ntmps125 rfl fun a Q0 hF hret hend => ?_
  simp only [argsFrom, Nat.zero_add, Nat.reduceAdd] at hF
  refine c_sr fun ops => ?_
  refine zm 1 hF rfl fun a hF => ?_
  refine c_n ?_
  replace hF := hF.sel [0, 1]
  simp only [ss, Nat.reduceBEq] at hF
  refine c_sr fun ops => ?_
  refine zm 1 hF rfl fun a hF => ?_
  refine zc hF rfl rfl fn141 (isNaNi_spec _ _) ?_
  rintro _ w ⟨rfl, hE⟩ a hF
  replace hH := hH.ext hE
  refine zm 1 hF rfl fun a hF => ?_
  refine c_n ?_
  replace hF := hF.sel [0, 1, 5]
  simp only [ss, Nat.reduceBEq] at hF
  refine c_sr fun ops => ?_
  refine zm 1 hF rfl fun a hF => ?_
  refine zc hF rfl rfl fn141 (isNaNi_spec _ _) ?_
  rintro _ w ⟨rfl, hE⟩ a hF
  replace hH := hH.ext hE
  refine zm 1 hF rfl fun a hF => ?_
  refine c_n ?_
  replace hF := hF.sel [0, 1, 5, 6]
  simp only [ss, Nat.reduceBEq] at hF
  refine c_seq fun Q1 k1 t1 => ?_
  refine c_sr fun ops => ?_
  refine zm 1 hF rfl fun a hF => ?_
  refine c_n ?_
  replace hF := hF.sel [0, 1, 6, 11]
  simp only [ss, Nat.reduceBEq] at hF
  refine c_no hF rfl (rfl) ?_
  refine wp_skip ?_
  refine k1 ?_
  refine c_seq fun Q2 k2 t2 => ?_
  refine c_sr fun ops => ?_
  refine zm 1 hF rfl fun a hF => ?_
  refine c_n ?_
  replace hF := hF.sel [0, 1, 13]
  simp only [ss, Nat.reduceBEq] at hF
  refine c_no hF rfl (rfl) ?_
  refine wp_skip ?_
  refine k2 ?_
  refine c_seq fun Q3 k3 t3 => ?_
  refine c_sr fun ops => ?_
  refine zm 2 hF rfl fun a hF => ?_
  refine zb hF rfl rfl rfl (b_lt _ _ _ _) fun a hF => ?_
  refine c_n ?_
  replace hF := hF.sel [0, 1, 16]
  simp only [ss, Nat.reduceBEq] at hF
  refine c_if hF rfl (fun h16 => ?_) (fun h16 => ?_)
  ·
   try simp only [qq] at h16
   refine c_sr fun ops => ?_
   refine zm 1 hF rfl fun a hF => ?_
   refine c_n ?_
   replace hF := hF.sel [4]
   simp only [ss, Nat.reduceBEq] at hF
   refine wp_ret (t3.ret (hret (ret1 hF Tryz.results125 rfl ?_)))
   exact ⟨by rw [icmp, if_pos h16], hH.below⟩
  try simp only [qq] at h16
  refine wp_skip ?_
  refine k3 ?_
  refine c_seq fun Q4 k4 t4 => ?_
  refine c_sr fun ops => ?_
  refine zm 2 hF rfl fun a hF => ?_
  refine zb hF rfl rfl rfl (b_gt _ _ _ _) fun a hF => ?_
  refine c_n ?_
  replace hF := hF.sel [19]
  simp only [ss, Nat.reduceBEq] at hF
  refine c_if hF rfl (fun h19 => ?_) (fun h19 => ?_)
  ·
   try simp only [qq] at h19
   refine c_sr fun ops => ?_
   refine zm 1 hF rfl fun a hF => ?_
   refine c_n ?_
   replace hF := hF.sel [4]
   simp only [ss, Nat.reduceBEq] at hF
   refine wp_ret (t4.ret (hret (ret1 hF Tryz.results125 rfl ?_)))
   exact ⟨by rw [icmp, if_neg (by omega), if_pos h19], hH.below⟩
  try simp only [qq] at h19
  refine wp_skip ?_
  refine k4 ?_
  refine c_sr fun ops => ?_
  refine zm 1 hF rfl fun a hF => ?_
  refine c_n ?_
  replace hF := hF.sel [4]
  simp only [ss, Nat.reduceBEq] at hF
  refine wp_ret (hret (ret1 hF Tryz.results125 rfl ?_))
  exact ⟨by rw [icmp, if_neg (by omega), if_neg (by omega)], hH.below⟩
theorem cmpu_spec (j k : Nat) (w0 : World) : Rets Tryz.prog 95 [.int .u16 j, .int .u16 k] w0 fun v w' => v = .int .i64 (icmp j k) ∧ Ext w0 w' := by
  have hH := Hp.refl w0
  refine rets_start Tryz.func95 rfl Tryz.ntmps95 rfl fun a Q0 hF hret hend => ?_
  simp only [argsFrom, Nat.zero_add, Nat.reduceAdd] at hF
  refine c_sr fun ops => ?_
  refine zm 1 hF rfl fun a hF => ?_
  refine c_n ?_
  replace hF := hF.sel [0, 1]
  simp only [ss, Nat.reduceBEq] at hF
  refine c_sr fun ops => ?_
  refine zm 1 hF rfl fun a hF => ?_
  refine zc hF rfl rfl fn127 (isNaNu_spec _ _) ?_
  rintro _ w ⟨rfl, hE⟩ a hF
  replace hH := hH.ext hE
  refine zm 1 hF rfl fun a hF => ?_
  refine c_n ?_
  replace hF := hF.sel [0, 1, 5]
  simp only [ss, Nat.reduceBEq] at hF
  refine c_sr fun ops => ?_
  refine zm 1 hF rfl fun a hF => ?_
  refine zc hF rfl rfl fn127 (isNaNu_spec _ _) ?_
  rintro _ w ⟨rfl, hE⟩ a hF
  replace hH := hH.ext hE
  refine zm 1 hF rfl fun a hF => ?_
  refine c_n ?_
  replace hF := hF.sel [0, 1, 5, 6]
  simp only [ss, Nat.reduceBEq] at hF
  refine c_seq fun Q1 k1 t1 => ?_
  refine c_sr fun ops => ?_
  refine zm 1 hF rfl fun a hF => ?_
  refine c_n ?_
  replace hF := hF.sel [0, 1, 6, 11]
  simp only [ss, Nat.reduceBEq] at hF
  refine c_no hF rfl (rfl) ?_
  refine wp_skip ?_
  refine k1 ?_
  refine c_seq fun Q2 k2 t2 => ?_
  refine c_sr fun ops => ?_
  refine zm 1 hF rfl fun a hF => ?_
  refine c_n ?_
  replace hF := hF.sel [0, 1, 13]
  simp only [ss, Nat.reduceBEq] at hF
  refine c_no hF rfl (rfl) ?_
  refine wp_skip ?_
  refine k2 ?_
  refine c_seq fun Q3 k3 t3 => ?_
  refine c_sr fun ops => ?_
  refine zm 2 hF rfl fun a hF => ?_
  refine zb hF rfl rfl rfl (b_ltn _ _ _ _) fun a hF => ?_
  refine c_n ?_
  replace hF := hF.sel [0, 1, 16]
  simp only [ss, Nat.reduceBEq] at hF
  refine c_if hF rfl (fun h16 => ?_) (fun h16 => ?_)
  ·
   try simp only [qq] at h16
   refine c_sr fun ops => ?_
   refine zm 1 hF rfl fun a hF => ?_
   refine c_n ?_
   replace hF := hF.sel [4]
   simp only [ss, Nat.reduceBEq] at hF
   refine wp_ret (t3.ret (hret (ret1 hF Tryz.results95 rfl ?_)))
   exact ⟨by rw [icmp, if_pos (by omega)], hH.below⟩
  try simp only [qq] at h16
  refine wp_skip ?_
  refine k3 ?_
  refine c_seq fun Q4 k4 t4 => ?_
  refine c_sr fun ops => ?_
  refine zm 2 hF rfl fun a hF => ?_
  refine zb hF rfl rfl rfl (b_gtn _ _ _ _) fun a hF => ?_
  refine c_n ?_
  replace hF := hF.sel [19]
  simp only [ss, Nat.reduceBEq] at hF
  refine c_if hF rfl (fun h19 => ?_) (fun h19 => ?_)
  ·
   try simp only [qq] at h19
   refine c_sr fun ops => ?_
   refine zm 1 hF rfl fun a hF => ?_
   refine c_n ?_
   replace hF := hF.sel [4]
   simp only [ss, Nat.reduceBEq] at hF
   refine wp_ret (t4.ret (hret (ret1 hF Tryz.results95 rfl ?_)))
   exact ⟨by rw [icmp, if_neg (by omega), if_pos (by omega)], hH.below⟩
  try simp only [qq] at h19
  refine wp_skip ?_
  refine k4 ?_
  refine c_sr fun ops => ?_
  refine zm 1 hF rfl fun a hF => ?_
  refine c_n ?_
  replace hF := hF.sel [4]
  simp only [ss, Nat.reduceBEq] at hF
  refine wp_ret (hret (ret1 hF Tryz.results95 rfl ?_))
  exact ⟨by rw [icmp, if_neg (by omega), if_neg (by omega)], hH.below⟩
theorem cmps_spec (j k : Bs) (w0 : World) : Rets Tryz.prog 142 [.string (mk j), .string (mk k)] w0 fun v w' => v = .int .i64 (bcmp j k) ∧ Ext w0 w' := by
  have hH := Hp.refl w0
  refine rets_start Tryz.func142 rfl Tryz.ntmps142 rfl fun a Q0 hF hret hend => ?_
  simp only [argsFrom, Nat.zero_add, Nat.reduceAdd] at hF
  refine c_sr fun ops => ?_
  refine zm 1 hF rfl fun a hF => ?_
  refine c_n ?_
  replace hF := hF.sel [0, 1]
  simp only [ss, Nat.reduceBEq] at hF
  refine c_sr fun ops => ?_
  refine zm 1 hF rfl fun a hF => ?_
  refine zc hF rfl rfl fn129 (isNaNs_spec _ _) ?_
  rintro _ w ⟨rfl, hE⟩ a hF
  replace hH := hH.ext hE
  refine zm 1 hF rfl fun a hF => ?_
  refine c_n ?_
  replace hF := hF.sel [0, 1, 5]
  simp only [ss, Nat.reduceBEq] at hF
  refine c_sr fun ops => ?_
  refine zm 1 hF rfl fun a hF => ?_
  refine zc hF rfl rfl fn129 (isNaNs_spec _ _) ?_
  rintro _ w ⟨rfl, hE⟩ a hF
  replace hH := hH.ext hE
  refine zm 1 hF rfl fun a hF => ?_
  refine c_n ?_
  replace hF := hF.sel [0, 1, 5, 6]
  simp only [ss, Nat.reduceBEq] at hF
  refine c_seq fun Q1 k1 t1 => ?_
  refine c_sr fun ops => ?_
  refine zm 1 hF rfl fun a hF => ?_
  refine c_n ?_
  replace hF := hF.sel [0, 1, 6, 11]
  simp only [ss, Nat.reduceBEq] at hF
  refine c_no hF rfl (rfl) ?_
  refine wp_skip ?_
  refine k1 ?_
  refine c_seq fun Q2 k2 t2 => ?_
  refine c_sr fun ops => ?_
  refine zm 1 hF rfl fun a hF => ?_
  refine c_n ?_
  replace hF := hF.sel [0, 1, 13]
  simp only [ss, Nat.reduceBEq] at hF
  refine c_no hF rfl (rfl) ?_
  refine wp_skip ?_
  refine k2 ?_
  refine c_seq fun Q3 k3 t3 => ?_
  refine c_sr fun ops => ?_
  refine zm 2 hF rfl fun a hF => ?_
  refine zb hF rfl rfl rfl (b_slt _ _ _) fun a hF => ?_
  refine c_n ?_
  replace hF := hF.sel [0, 1, 16]
  simp only [ss, Nat.reduceBEq] at hF
  refine c_if hF rfl (fun h16 => ?_) (fun h16 => ?_)
  ·
   try simp only [qq] at h16
   refine c_sr fun ops => ?_
   refine zm 1 hF rfl fun a hF => ?_
   refine c_n ?_
   replace hF := hF.sel [4]
   simp only [ss, Nat.reduceBEq] at hF
   refine wp_ret (t3.ret (hret (ret1 hF Tryz.results142 rfl ?_)))
   exact ⟨by rw [bcmp, if_pos h16], hH.below⟩
  try simp only [qq] at h16
  refine wp_skip ?_
  refine k3 ?_
  refine c_seq fun Q4 k4 t4 => ?_
  refine c_sr fun ops => ?_
  refine zm 2 hF rfl fun a hF => ?_
  refine zb hF rfl rfl rfl (b_sgt _ _ _) fun a hF => ?_
  refine c_n ?_
  replace hF := hF.sel [19]
  simp only [ss, Nat.reduceBEq] at hF
  refine c_if hF rfl (fun h19 => ?_) (fun h19 => ?_)
  ·
   try simp only [qq] at h19
   refine c_sr fun ops => ?_
   refine zm 1 hF rfl fun a hF => ?_
   refine c_n ?_
   replace hF := hF.sel [4]
   simp only [ss, Nat.reduceBEq] at hF
   refine wp_ret (t4.ret (hret (ret1 hF Tryz.results142 rfl ?_)))
   exact ⟨by rw [bcmp, if_neg (by simp [h16]), if_pos h19], hH.below⟩
  try simp only [qq] at h19
  refine wp_skip ?_
  refine k4 ?_
  refine c_sr fun ops => ?_
  refine zm 1 hF rfl fun a hF => ?_
  refine c_n ?_
  replace hF := hF.sel [4]
  simp only [ss, Nat.reduceBEq] at hF
  refine wp_ret (hret (ret1 hF Tryz.results142 rfl ?_))
  exact ⟨by rw [bcmp, if_neg (by simp [h16]), if_neg (by simp [h19])], hH.below⟩
theorem lesss_spec (j k : Bs) (w0 : World) : Rets Tryz.prog 98 [.string (mk j), .string (mk k)] w0 fun v w' => v = .bool (bless j k) ∧ Ext w0 w' := by
  have hH := Hp.refl w0
  refine rets_start Tryz.func98 rfl Tryz.ntmps98 rfl fun a Q0 hF hret hend => ?_
  simp only [argsFrom, Nat.zero_add, Nat.reduceAdd] at hF
  refine c_sr fun ops => ?_
  refine zm 1 hF rfl fun a hF => ?_
  refine c_n ?_
  replace hF := hF.sel [0, 1]
  simp only [ss, Nat.reduceBEq] at hF
  refine c_sg ?_
  refine zm 1 hF rfl fun a hF => ?_
  refine zc hF rfl rfl fn129 (isNaNs_spec _ _) ?_
  rintro _ w ⟨rfl, hE⟩ a hF
  replace hH := hH.ext hE
  refine zm 1 hF rfl fun a hF => ?_
  refine ls_ask (d := 7) hF rfl (fun g1_2 => ?_) (fun g1_2 => ?_)
  ·
   have g1_2' := g1_2; try simp only [qq] at g1_2'
   cases g1_2
  have g1_2' := g1_2; try simp only [qq] at g1_2'
  refine zn hF rfl g1_2 fun a hF => ?_
  refine zn hF rfl g1_2 fun a hF => ?_
  refine zn hF rfl g1_2 fun a hF => ?_
  refine zl hF rfl (r_pickf hF rfl rfl g1_2 rfl) fun a hF => ?_
  refine zm 1 hF rfl fun a hF => ?_
  refine zy hF rfl rfl (r_move hF rfl rfl) fun a hF => ?_
  refine zy hF rfl rfl (r_move hF rfl rfl) fun a hF => ?_
  refine zy hF rfl rfl (zr hF rfl rfl (b_slt _ _ _)) fun a hF => ?_
  refine zl hF rfl (r_pickf hF rfl rfl rfl rfl) fun a hF => ?_
  refine zm 1 hF rfl fun a hF => ?_
  refine c_n ?_
  replace hF := hF.sel [4]
  simp only [ss, Nat.reduceBEq] at hF
  refine wp_ret (hret (ret1 hF Tryz.results98 rfl ?_))
  exact ⟨rfl, hH.below⟩
end Go.Proofs.YtcelgjabccgnmaaGreatDoor
