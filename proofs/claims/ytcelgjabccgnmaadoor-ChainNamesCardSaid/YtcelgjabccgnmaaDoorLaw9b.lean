/-
  The walk of hustingslaw09.ChainNames. Nothing is claimed here.
-/
import Derived.Test.YtcelgjabccgnmaaDoorLaw9a
namespace Go.Proofs.YtcelgjabccgnmaaDoor
open Go.RowKit
set_option linter.unusedVariables false
set_option linter.unusedSimpArgs false
set_option maxHeartbeats 1000000

theorem b_add8 {P : Program} {w : World} (t : TypeId) (n m : Nat) (h : n + m < 256) : (binOp .add t (.int .u8 (n : Int)) (.int .u8 (m : Int))).run P w = .ok (.int .u8 ((n + m : Nat) : Int)) w := by
  rw [b_add]
  have : IntKind.u8.wrap ((n : Int) + (m : Int)) = ((n + m : Nat) : Int) := by
    simp [IntKind.wrap, IntKind.bits, IntKind.signed]; omega
  rw [this]
def alis (i : Nat) : List Rec := (List.range i).map fun j => ⟨letterB (UInt8.ofNat (97 + j)), 5, 1, 0, letterB (UInt8.ofNat (98 + j))⟩
theorem alis_succ (i : Nat) : alis (i + 1) = alis i ++ [⟨letterB (UInt8.ofNat (97 + i)), 5, 1, 0, letterB (UInt8.ofNat (98 + i))⟩] := by simp [alis, List.range_succ]
theorem recsV_snoc (l : List Rec) (r : Rec) : recsV l ++ recV r = recsV (l ++ [r]) := by simp [recsV]
theorem rsnoc {w : World} {v : Value} {n : Nat} {l : List Rec} {r : Rec} (h : RSl w 5 v n (recsV l ++ recV r)) (hn : n = (l ++ [r]).length) : RSl w 5 v (l ++ [r]).length (recsV (l ++ [r])) := by
  rw [recsV_snoc, hn] at h; exact h
theorem rec_one (r : Rec) : ∀ u ∈ recV r, u.oneCell' = true := by intro u hu; simp only [recV, List.mem_cons, List.not_mem_nil, or_false] at hu; rcases hu with rfl | rfl | rfl | rfl | rfl <;> rfl
theorem toN8 {n : Nat} (h : n < 256) : n = (UInt8.ofNat n).toNat := by rw [UInt8.toNat_ofNat']; omega

theorem chainNames_spec (w0 : World) (hG : GW w0) : Rets Tryd.prog 3 [] w0 fun v w' => v = .bool true ∧ Ext w0 w' := by
  have hH := Hp.refl w0
  refine rets_start Tryd.func3 rfl Tryd.ntmps3 rfl fun a Q0 hF hret hend => ?_
  simp only [argsFrom, Nat.zero_add, Nat.reduceAdd] at hF
  refine c_seq fun Q1 k1 t1 => ?_
  refine c_reg fun ops => ?_
  refine ls hF rfl rfl rfl (r_assign hF rfl rfl) fun a hF => ?_
  refine wpList_nil ?_
  replace hF := hF.sel []
  simp only [sel, lk, Nat.reduceBEq, cond_true, cond_false] at hF
  refine k1 ?_
  refine c_seq fun Q2 k2 t2 => ?_
  refine c_seq fun Q3 k3 t3 => ?_
  refine c_reg fun ops => ?_
  refine ls_call hF rfl rfl rfl rfl rfl fn10 (awake9_spec _ (hG.ext hH.below)) ?_
  rintro _ w ⟨rfl, hE⟩ a hF
  replace hH := hH.ext hE
  refine ls hF rfl rfl rfl (r_not hF rfl rfl) fun a hF => ?_
  refine ls hF rfl rfl rfl (r_move hF rfl rfl) fun a hF => ?_
  refine ls hF rfl rfl rfl (r_pick hF rfl rfl rfl rfl) fun a hF => ?_
  refine ls hF rfl rfl rfl (r_move hF rfl rfl) fun a hF => ?_
  refine ls hF rfl rfl rfl (r_pick hF rfl rfl rfl rfl) fun a hF => ?_
  refine wpList_nil ?_
  replace hF := hF.sel [45]
  simp only [sel, lk, Nat.reduceBEq, cond_true, cond_false] at hF
  refine k3 ?_
  refine c_no hF rfl (rfl) ?_
  refine wp_skip ?_
  refine k2 ?_
  refine c_seq fun Q4 k4 t4 => ?_
  refine c_reg fun ops => ?_
  refine ls hF rfl rfl rfl (r_assign hF rfl rfl) fun a hF => ?_
  refine wpList_nil ?_
  replace hF := hF.sel [1]
  simp only [sel, lk, Nat.reduceBEq, cond_true, cond_false] at hF
  refine k4 ?_
  refine c_seq fun Q5 k5 t5 => ?_
  refine c_seq fun Q6 k6 t6 => ?_
  refine c_reg fun ops => ?_
  refine ls hF rfl rfl rfl (r_assign hF rfl rfl) fun a hF => ?_
  refine wpList_nil ?_
  replace hF := hF.sel [1, 2]
  simp only [sel, lk, Nat.reduceBEq, cond_true, cond_false] at hF
  refine k6 ?_
  refine c_block fun Q7 t7 => ?_
  refine c_loop (fun n a w => ∃ i B v, n = 8 - i ∧ i ≤ 8 ∧ Fr 238 [(1, v), (2, .int .u8 (i : Nat))] a ∧ Hp w0 w B ∧ Sl 27 5 B v i (recsV (alis i))) ?_ ?_
  ·
   exact ⟨_, 0, [], _, rfl, Nat.zero_le _, hF.keep [1, 2] rfl, hH, Sl.nil _ _⟩
  ·
   clear hH hF
   intro n a w hI Q8 k8 t8
   obtain ⟨i, B, v, hm, hi, hF, hH, hS⟩ := hI
   refine c_seq fun Q9 k9 t9 => ?_
   refine c_seq fun Q10 k10 t10 => ?_
   refine c_reg fun ops => ?_
   refine ls hF rfl rfl rfl (r_move hF rfl rfl) fun a hF => ?_
   refine ls hF rfl rfl rfl (r_bin hF rfl rfl rfl rfl (b_ltn _ _ _ 8)) fun a hF => ?_
   refine wpList_nil ?_
   refine k10 ?_
   refine c_if hF rfl (fun h47 => ?_) (fun h47 => ?_)
   ·
    try simp only [q1, q2, q3, q4, q5, q6, q7, q8, q9, qa, qb] at h47
    refine wp_skip ?_
    refine k9 ?_
    refine c_seq fun Q11 k11 t11 => ?_
    refine c_block fun Q12 t12 => ?_
    refine c_reg fun ops => ?_
    refine ls hF rfl rfl rfl (r_move hF rfl rfl) fun a hF => ?_
    refine ls hF rfl rfl rfl (r_move hF rfl rfl) fun a hF => ?_
    refine ls hF rfl rfl rfl (r_bin hF rfl rfl rfl rfl (b_add8 _ 97 i (by omega))) fun a hF => ?_
    refine ls hF rfl rfl rfl (r_move hF rfl rfl) fun a hF => ?_
    refine ls hF rfl rfl rfl (r_bin hF rfl rfl rfl rfl (b_add8 _ 98 i (by omega))) fun a hF => ?_
    refine ls_call hF rfl rfl rfl rfl rfl fn11 (alias_spec (UInt8.ofNat (97 + i)) (UInt8.ofNat (98 + i)) (97 + i) (98 + i) (toN8 (by omega)) (toN8 (by omega)) _) ?_
    rintro _ w ⟨rfl, hE⟩ a hF
    replace hH := hH.ext hE
    refine ls_build1 hF hH rfl rfl rfl rfl rfl Tryd.underlying23 ti27 rfl (by decide) ?_
    intro a w g7_6 hH hE hF
    have hR := rsl_lit (n := 1) (size := 5) hH rfl (by decide)
    replace hH := hH.drop
    refine ls_append0 hF hH rfl rfl rfl rfl rfl rfl Tryd.underlying23 ti27 hS hR (rec_one _) (by decide) (by omega) ?_
    intro a v7_7 w B7_7 hH hS hF
    refine ls hF rfl rfl rfl (r_assign hF rfl rfl) fun a hF => ?_
    refine wpList_nil ?_
    refine t12.norm ?_
    refine k11 ?_
    refine c_reg fun ops => ?_
    refine ls hF rfl rfl rfl (r_move hF rfl rfl) fun a hF => ?_
    refine ls hF rfl rfl rfl (r_bin hF rfl rfl rfl rfl (b_add8 _ i 1 (by omega))) fun a hF => ?_
    refine ls hF rfl rfl rfl (r_assign hF rfl rfl) fun a hF => ?_
    refine wpList_nil ?_
    refine k8 ?_
    exact ⟨8 - (i + 1), by omega, i + 1, _, _, rfl, by omega, hF.keep [1, 2] rfl, hH, by rw [alis_succ, ← recsV_snoc]; exact hS⟩
   ·
    try simp only [q1, q2, q3, q4, q5, q6, q7, q8, q9, qa, qb] at h47
    obtain rfl : i = 8 := by omega
    replace hH : Hp w0 w (B ++ []) := by rw [List.append_nil]; exact hH
    refine wp_exit (t9.exit (t8.exit (t7.here (?_))))
    refine k5 ?_
    refine c_seq fun Q13 k13 t13 => ?_
    refine c_reg fun ops => ?_
    refine ls_call hF rfl rfl rfl rfl rfl fn13 (of_spec 97 97 1 rfl _) ?_
    rintro _ w ⟨rfl, hE⟩ a hF
    replace hH := hH.ext hE
    refine ls hF rfl rfl rfl (r_move hF rfl rfl) fun a hF => ?_
    refine ls_call hF rfl rfl rfl rfl rfl fn14 (address_spec 105 105 rfl _) ?_
    rintro _ w ⟨rfl, hE⟩ a hF
    replace hH := hH.ext hE
    refine ls_build1 hF hH rfl rfl rfl rfl rfl Tryd.underlying23 ti27 rfl (by decide) ?_
    intro a w g8_3 hH hE hF
    have hR := rsl_lit (n := 1) (size := 5) hH rfl (by decide)
    replace hH := hH.drop
    refine ls_appendk hF hH rfl rfl rfl rfl rfl rfl Tryd.underlying23 ti27 hS hR (rec_one _) (by decide) (by omega) ?_
    intro a v8_4 w B8_4 hH hS hR8_4 hF
    refine ls_call hF rfl rfl rfl rfl rfl fn12 (told9_spec (alis 8 ++ [⟨letterB 105, 1, 1, 0, [10, 0, 0, 1]⟩]) (x := (8, [1, 105, 0], 1, 0)) (by kernel_rfl) (rsnoc hR8_4 rfl) (recsB_of (by decide)) (by decide) (hG.ext hH.below)) ?_
    rintro _ w ⟨rfl, hE⟩ a hF
    replace hH := hH.ext hE
    refine ls hF rfl rfl rfl (r_move hF rfl rfl) fun a hF => ?_
    refine ls hF rfl rfl rfl (r_extract hF rfl rfl rfl) fun a hF => ?_
    refine ls hF rfl rfl rfl (r_extract hF rfl rfl rfl) fun a hF => ?_
    refine ls hF rfl rfl rfl (r_extract hF rfl rfl rfl) fun a hF => ?_
    refine ls hF rfl rfl rfl (r_extract hF rfl rfl rfl) fun a hF => ?_
    refine ls hF rfl rfl rfl (r_assign hF rfl rfl) fun a hF => ?_
    refine ls hF rfl rfl rfl (r_assign hF rfl rfl) fun a hF => ?_
    refine ls hF rfl rfl rfl (r_assign hF rfl rfl) fun a hF => ?_
    refine ls hF rfl rfl rfl (r_assign hF rfl rfl) fun a hF => ?_
    refine wpList_nil ?_
    replace hF := hF.sel [1, 3, 4, 5, 6]
    simp only [sel, lk, Nat.reduceBEq, cond_true, cond_false] at hF
    refine k13 ?_
    refine c_seq fun Q14 k14 t14 => ?_
    refine c_reg fun ops => ?_
    refine ls_call hF rfl rfl rfl rfl rfl fn13 (of_spec 98 98 1 rfl _) ?_
    rintro _ w ⟨rfl, hE⟩ a hF
    replace hH := hH.ext hE
    refine ls hF rfl rfl rfl (r_move hF rfl rfl) fun a hF => ?_
    refine ls_call hF rfl rfl rfl rfl rfl fn11 (alias_spec 105 106 105 106 rfl rfl _) ?_
    rintro _ w ⟨rfl, hE⟩ a hF
    replace hH := hH.ext hE
    refine ls_build1 hF hH rfl rfl rfl rfl rfl Tryd.underlying23 ti27 rfl (by decide) ?_
    intro a w g9_3 hH hE hF
    have hR := rsl_lit (n := 1) (size := 5) hH rfl (by decide)
    replace hH := hH.drop
    refine ls_appendk hF hH rfl rfl rfl rfl rfl rfl Tryd.underlying23 ti27 hS hR (rec_one _) (by decide) (by omega) ?_
    intro a v9_4 w B9_4 hH hS hR9_4 hF
    refine ls_call hF rfl rfl rfl rfl rfl fn12 (told9_spec (alis 8 ++ [⟨letterB 105, 5, 1, 0, letterB 106⟩]) (x := (8, [1, 106, 0], 0, 0)) (by kernel_rfl) (rsnoc hR9_4 rfl) (recsB_of (by decide)) (by decide) (hG.ext hH.below)) ?_
    rintro _ w ⟨rfl, hE⟩ a hF
    replace hH := hH.ext hE
    refine ls hF rfl rfl rfl (r_move hF rfl rfl) fun a hF => ?_
    refine ls hF rfl rfl rfl (r_extract hF rfl rfl rfl) fun a hF => ?_
    refine ls hF rfl rfl rfl (r_extract hF rfl rfl rfl) fun a hF => ?_
    refine ls hF rfl rfl rfl (r_extract hF rfl rfl rfl) fun a hF => ?_
    refine ls hF rfl rfl rfl (r_extract hF rfl rfl rfl) fun a hF => ?_
    refine ls hF rfl rfl rfl (r_assign hF rfl rfl) fun a hF => ?_
    refine ls hF rfl rfl rfl (r_assign hF rfl rfl) fun a hF => ?_
    refine ls hF rfl rfl rfl (r_assign hF rfl rfl) fun a hF => ?_
    refine ls hF rfl rfl rfl (r_assign hF rfl rfl) fun a hF => ?_
    refine wpList_nil ?_
    replace hF := hF.sel [1, 3, 4, 5, 6, 7, 8, 9, 10]
    simp only [sel, lk, Nat.reduceBEq, cond_true, cond_false] at hF
    refine k14 ?_
    refine c_seq fun Q15 k15 t15 => ?_
    refine c_reg fun ops => ?_
    refine ls_call hF rfl rfl rfl rfl rfl fn13 (of_spec 97 97 1 rfl _) ?_
    rintro _ w ⟨rfl, hE⟩ a hF
    replace hH := hH.ext hE
    refine ls hF rfl rfl rfl (r_move hF rfl rfl) fun a hF => ?_
    refine ls_call hF rfl rfl rfl rfl rfl fn11 (alias_spec 105 106 105 106 rfl rfl _) ?_
    rintro _ w ⟨rfl, hE⟩ a hF
    replace hH := hH.ext hE
    refine ls_build1 hF hH rfl rfl rfl rfl rfl Tryd.underlying23 ti27 rfl (by decide) ?_
    intro a w g10_3 hH hE hF
    have hR := rsl_lit (n := 1) (size := 5) hH rfl (by decide)
    replace hH := hH.drop
    refine ls_appendk hF hH rfl rfl rfl rfl rfl rfl Tryd.underlying23 ti27 hS hR (rec_one _) (by decide) (by omega) ?_
    intro a v10_4 w B10_4 hH hS hR10_4 hF
    refine ls_call hF rfl rfl rfl rfl rfl fn12 (told9_spec (alis 8 ++ [⟨letterB 105, 5, 1, 0, letterB 106⟩]) (x := (0, [], 0, 5)) (by kernel_rfl) (rsnoc hR10_4 rfl) (recsB_of (by decide)) (by decide) (hG.ext hH.below)) ?_
    rintro _ w ⟨rfl, hE⟩ a hF
    replace hH := hH.ext hE
    refine ls hF rfl rfl rfl (r_move hF rfl rfl) fun a hF => ?_
    refine ls hF rfl rfl rfl (r_extract hF rfl rfl rfl) fun a hF => ?_
    refine ls hF rfl rfl rfl (r_extract hF rfl rfl rfl) fun a hF => ?_
    refine ls hF rfl rfl rfl (r_extract hF rfl rfl rfl) fun a hF => ?_
    refine ls hF rfl rfl rfl (r_extract hF rfl rfl rfl) fun a hF => ?_
    refine ls hF rfl rfl rfl (r_assign hF rfl rfl) fun a hF => ?_
    refine ls hF rfl rfl rfl (r_assign hF rfl rfl) fun a hF => ?_
    refine ls hF rfl rfl rfl (r_assign hF rfl rfl) fun a hF => ?_
    refine ls hF rfl rfl rfl (r_assign hF rfl rfl) fun a hF => ?_
    refine wpList_nil ?_
    replace hF := hF.sel [1, 3, 4, 5, 6, 7, 8, 9, 10, 14]
    simp only [sel, lk, Nat.reduceBEq, cond_true, cond_false] at hF
    refine k15 ?_
    refine c_seq fun Q16 k16 t16 => ?_
    refine c_reg fun ops => ?_
    refine ls_call hF rfl rfl rfl rfl rfl fn13 (of_spec 97 97 1 rfl _) ?_
    rintro _ w ⟨rfl, hE⟩ a hF
    replace hH := hH.ext hE
    refine ls hF rfl rfl rfl (r_move hF rfl rfl) fun a hF => ?_
    refine ls_call hF rfl rfl rfl rfl rfl fn11 (alias_spec 105 97 105 97 rfl rfl _) ?_
    rintro _ w ⟨rfl, hE⟩ a hF
    replace hH := hH.ext hE
    refine ls_build1 hF hH rfl rfl rfl rfl rfl Tryd.underlying23 ti27 rfl (by decide) ?_
    intro a w g11_3 hH hE hF
    have hR := rsl_lit (n := 1) (size := 5) hH rfl (by decide)
    replace hH := hH.drop
    refine ls_appendk hF hH rfl rfl rfl rfl rfl rfl Tryd.underlying23 ti27 hS hR (rec_one _) (by decide) (by omega) ?_
    intro a v11_4 w B11_4 hH hS hR11_4 hF
    refine ls_call hF rfl rfl rfl rfl rfl fn12 (told9_spec (alis 8 ++ [⟨letterB 105, 5, 1, 0, letterB 97⟩]) (x := (0, [], 0, 5)) (by kernel_rfl) (rsnoc hR11_4 rfl) (recsB_of (by decide)) (by decide) (hG.ext hH.below)) ?_
    rintro _ w ⟨rfl, hE⟩ a hF
    replace hH := hH.ext hE
    refine ls hF rfl rfl rfl (r_move hF rfl rfl) fun a hF => ?_
    refine ls hF rfl rfl rfl (r_extract hF rfl rfl rfl) fun a hF => ?_
    refine ls hF rfl rfl rfl (r_extract hF rfl rfl rfl) fun a hF => ?_
    refine ls hF rfl rfl rfl (r_extract hF rfl rfl rfl) fun a hF => ?_
    refine ls hF rfl rfl rfl (r_extract hF rfl rfl rfl) fun a hF => ?_
    refine ls hF rfl rfl rfl (r_assign hF rfl rfl) fun a hF => ?_
    refine ls hF rfl rfl rfl (r_assign hF rfl rfl) fun a hF => ?_
    refine ls hF rfl rfl rfl (r_assign hF rfl rfl) fun a hF => ?_
    refine ls hF rfl rfl rfl (r_assign hF rfl rfl) fun a hF => ?_
    refine wpList_nil ?_
    replace hF := hF.sel [1, 3, 4, 5, 6, 7, 8, 9, 10, 14, 18]
    simp only [sel, lk, Nat.reduceBEq, cond_true, cond_false] at hF
    refine k16 ?_
    refine c_seq fun Q17 k17 t17 => ?_
    refine c_reg fun ops => ?_
    refine ls_call hF rfl rfl rfl rfl rfl fn13 (of_spec 98 98 1 rfl _) ?_
    rintro _ w ⟨rfl, hE⟩ a hF
    replace hH := hH.ext hE
    refine ls hF rfl rfl rfl (r_move hF rfl rfl) fun a hF => ?_
    refine ls_call hF rfl rfl rfl rfl rfl fn11 (alias_spec 105 98 105 98 rfl rfl _) ?_
    rintro _ w ⟨rfl, hE⟩ a hF
    replace hH := hH.ext hE
    refine ls_build1 hF hH rfl rfl rfl rfl rfl Tryd.underlying23 ti27 rfl (by decide) ?_
    intro a w g12_3 hH hE hF
    have hR := rsl_lit (n := 1) (size := 5) hH rfl (by decide)
    replace hH := hH.drop
    refine ls_appendk hF hH rfl rfl rfl rfl rfl rfl Tryd.underlying23 ti27 hS hR (rec_one _) (by decide) (by omega) ?_
    intro a v12_4 w B12_4 hH hS hR12_4 hF
    refine ls_call hF rfl rfl rfl rfl rfl fn12 (told9_spec (alis 8 ++ [⟨letterB 105, 5, 1, 0, letterB 98⟩]) (x := (0, [], 0, 8)) (by kernel_rfl) (rsnoc hR12_4 rfl) (recsB_of (by decide)) (by decide) (hG.ext hH.below)) ?_
    rintro _ w ⟨rfl, hE⟩ a hF
    replace hH := hH.ext hE
    refine ls hF rfl rfl rfl (r_move hF rfl rfl) fun a hF => ?_
    refine ls hF rfl rfl rfl (r_extract hF rfl rfl rfl) fun a hF => ?_
    refine ls hF rfl rfl rfl (r_extract hF rfl rfl rfl) fun a hF => ?_
    refine ls hF rfl rfl rfl (r_extract hF rfl rfl rfl) fun a hF => ?_
    refine ls hF rfl rfl rfl (r_extract hF rfl rfl rfl) fun a hF => ?_
    refine ls hF rfl rfl rfl (r_assign hF rfl rfl) fun a hF => ?_
    refine ls hF rfl rfl rfl (r_assign hF rfl rfl) fun a hF => ?_
    refine ls hF rfl rfl rfl (r_assign hF rfl rfl) fun a hF => ?_
    refine ls hF rfl rfl rfl (r_assign hF rfl rfl) fun a hF => ?_
    refine wpList_nil ?_
    replace hF := hF.sel [3, 4, 5, 6, 7, 8, 9, 10, 14, 18, 22]
    simp only [sel, lk, Nat.reduceBEq, cond_true, cond_false] at hF
    refine k17 ?_
    refine c_seq fun Q18 k18 t18 => ?_
    refine c_reg fun ops => ?_
    refine ls_call hF rfl rfl rfl rfl rfl fn13 (of_spec 97 97 1 rfl _) ?_
    rintro _ w ⟨rfl, hE⟩ a hF
    replace hH := hH.ext hE
    refine ls_call hF rfl rfl rfl rfl rfl fn11 (alias_spec 97 98 97 98 rfl rfl _) ?_
    rintro _ w ⟨rfl, hE⟩ a hF
    replace hH := hH.ext hE
    refine ls_call hF rfl rfl rfl rfl rfl fn11 (alias_spec 97 99 97 99 rfl rfl _) ?_
    rintro _ w ⟨rfl, hE⟩ a hF
    replace hH := hH.ext hE
    refine ls_buildN (us := [_, _]) hF hH rfl rfl rfl rfl rfl rfl Tryd.underlying23 ti27 (by intro u hu; simp only [List.mem_cons, List.not_mem_nil, or_false] at hu; rcases hu with rfl | rfl <;> rfl) (by decide) ?_
    intro a w g13_3 hH hE hF
    refine ls_call hF rfl rfl rfl rfl rfl fn12 (told9_spec [⟨letterB 97, 5, 1, 0, letterB 98⟩, ⟨letterB 97, 5, 1, 0, letterB 99⟩] (x := (0, [], 0, 3)) (by kernel_rfl) (show RSl _ 5 _ 2 (recsV [⟨letterB 97, 5, 1, 0, letterB 98⟩, ⟨letterB 97, 5, 1, 0, letterB 99⟩]) from rsl_lit (n := 2) (size := 5) hH rfl (by decide)) (recsB_of (by decide)) (by decide) (hG.ext hH.below)) ?_
    rintro _ w ⟨rfl, hE⟩ a hF
    replace hH := hH.ext hE
    refine ls hF rfl rfl rfl (r_move hF rfl rfl) fun a hF => ?_
    refine ls hF rfl rfl rfl (r_extract hF rfl rfl rfl) fun a hF => ?_
    refine ls hF rfl rfl rfl (r_extract hF rfl rfl rfl) fun a hF => ?_
    refine ls hF rfl rfl rfl (r_extract hF rfl rfl rfl) fun a hF => ?_
    refine ls hF rfl rfl rfl (r_extract hF rfl rfl rfl) fun a hF => ?_
    refine ls hF rfl rfl rfl (r_assign hF rfl rfl) fun a hF => ?_
    refine ls hF rfl rfl rfl (r_assign hF rfl rfl) fun a hF => ?_
    refine ls hF rfl rfl rfl (r_assign hF rfl rfl) fun a hF => ?_
    refine ls hF rfl rfl rfl (r_assign hF rfl rfl) fun a hF => ?_
    refine wpList_nil ?_
    replace hF := hF.sel [3, 4, 5, 6, 7, 8, 9, 10, 14, 18, 22, 26]
    simp only [sel, lk, Nat.reduceBEq, cond_true, cond_false] at hF
    refine k18 ?_
    refine c_seq fun Q19 k19 t19 => ?_
    refine c_reg fun ops => ?_
    refine ls hF rfl rfl rfl (r_build hF rfl rfl (bd33_1_2 _ _ _ (rfl) (rfl))) fun a hF => ?_
    refine ls_call hF rfl rfl rfl rfl rfl fn11 (alias_spec 97 98 97 98 rfl rfl _) ?_
    rintro _ w ⟨rfl, hE⟩ a hF
    replace hH := hH.ext hE
    refine ls_build1 hF hH rfl rfl rfl rfl rfl Tryd.underlying23 ti27 rfl (by decide) ?_
    intro a w g14_2 hH hE hF
    refine ls_call hF rfl rfl rfl rfl rfl fn12 (told9_spec [⟨letterB 97, 5, 1, 0, letterB 98⟩] (x := (0, [], 0, 1)) (by kernel_rfl) (show RSl _ 5 _ 1 (recsV [⟨letterB 97, 5, 1, 0, letterB 98⟩]) from rsl_lit (n := 1) (size := 5) hH rfl (by decide)) (recsB_of (by decide)) (by decide) (hG.ext hH.below)) ?_
    rintro _ w ⟨rfl, hE⟩ a hF
    replace hH := hH.ext hE
    refine ls hF rfl rfl rfl (r_move hF rfl rfl) fun a hF => ?_
    refine ls hF rfl rfl rfl (r_extract hF rfl rfl rfl) fun a hF => ?_
    refine ls hF rfl rfl rfl (r_extract hF rfl rfl rfl) fun a hF => ?_
    refine ls hF rfl rfl rfl (r_extract hF rfl rfl rfl) fun a hF => ?_
    refine ls hF rfl rfl rfl (r_extract hF rfl rfl rfl) fun a hF => ?_
    refine ls hF rfl rfl rfl (r_assign hF rfl rfl) fun a hF => ?_
    refine ls hF rfl rfl rfl (r_assign hF rfl rfl) fun a hF => ?_
    refine ls hF rfl rfl rfl (r_assign hF rfl rfl) fun a hF => ?_
    refine ls hF rfl rfl rfl (r_assign hF rfl rfl) fun a hF => ?_
    refine wpList_nil ?_
    replace hF := hF.sel [3, 4, 5, 6, 7, 8, 9, 10, 14, 18, 22, 26, 30]
    simp only [sel, lk, Nat.reduceBEq, cond_true, cond_false] at hF
    refine k19 ?_
    refine c_seq fun Q20 k20 t20 => ?_
    refine c_reg fun ops => ?_
    refine ls_call hF rfl rfl rfl rfl rfl fn11 (alias_spec 97 98 97 98 rfl rfl _) ?_
    rintro _ w ⟨rfl, hE⟩ a hF
    replace hH := hH.ext hE
    refine ls_alloc hF hH rfl rfl rfl rfl zv27 ?_
    intro a w g15_1 hH hE hF
    refine ls_storeagg 0 hF hH rfl rfl rfl rfl rfl ti27 rfl (rfl) (rfl) (by simp [recV, Value.oneCell']) ?_
    intro w hH
    simp only [List.set_cons_zero] at hH
    refine wpList_nil ?_
    replace hF := hF.sel [3, 4, 5, 6, 7, 8, 9, 10, 14, 18, 22, 26, 30, 31]
    simp only [sel, lk, Nat.reduceBEq, cond_true, cond_false] at hF
    refine k20 ?_
    refine c_seq fun Q21 k21 t21 => ?_
    refine c_reg fun ops => ?_
    refine ls hF rfl rfl rfl (r_fieldaddr0 hF rfl rfl fd27_2) fun a hF => ?_
    refine ls_store 0 hF hH rfl rfl rfl rfl rfl fl24 ti24 rfl (by simp [recV]) (by simp [noFreeze]) (rfl) ?_
    intro w hH
    refine wpList_nil ?_
    replace hF := hF.sel [3, 4, 5, 6, 7, 8, 9, 10, 14, 18, 22, 26, 30, 31]
    simp only [sel, lk, Nat.reduceBEq, cond_true, cond_false] at hF
    replace hH : Hp w0 w ((g15_1, .cells (recV ⟨letterB 97, 5, 3, 0, letterB 98⟩).toArray 27 (0, 0)) :: _) := hH
    refine k21 ?_
    refine c_seq fun Q22 k22 t22 => ?_
    refine c_flow [] [0, 1, 2, 3] [4] [5, 6, 7, 8, 9, 10, 11, 12, 13] (by kernel_rfl) (by kernel_rfl) fun hB => ?_
    refine fl_start [135, 136, 137, 138] hB (by kernel_rfl) hF ?_
    simp only [wo, hasN, Nat.reduceBEq, cond_true, cond_false] at hF ⊢
    refine fs1 rfl (by
     intro a w Lr hE hC hl
     replace hH := hH.ext hE
     have hF := hC.fr
     refine ls_call hF rfl rfl rfl rfl rfl fn13 (of_spec 97 97 1 rfl _) ?_
     rintro _ w' ⟨rfl, hE'⟩ a' hF'
     exact wpList_nil (fl_end hC hF' hE' rfl)) ?_
    refine fs1 rfl (by
     intro a w Lr hE hC hl
     replace hH := hH.ext hE
     have hF := hC.fr
     exact ls hF rfl rfl rfl (r_loadagg hF rfl rfl Tryd.underlying27 ti27 rfl (own_agg (i := 0) hH rfl)) fun a' hF' => wpList_nil (fl_end hC hF' (Ext.refl _) rfl)) ?_
    refine fs1 rfl (by
     intro a w Lr hE hC hl
     replace hH := hH.ext hE
     have hF := hC.fr
     refine ls_call hF rfl rfl rfl rfl rfl fn14 (address_spec 97 97 rfl _) ?_
     rintro _ w' ⟨rfl, hE'⟩ a' hF'
     exact wpList_nil (fl_end hC hF' hE' rfl)) ?_
    refine fsr rfl (by
     intro a w Lr hE hC hl
     replace hH := hH.ext hE
     obtain ⟨_, s136, rfl⟩ := hl 136 (by decide) _ rfl
     replace hC := hC.more s136
     obtain ⟨_, s137, rfl⟩ := hl 137 (by decide) _ rfl
     replace hC := hC.more s137
     have hF := hC.fr
     refine ls_buildN (us := [_, _]) hF (Hp.refl w) rfl rfl rfl rfl rfl rfl Tryd.underlying23 ti27 (by intro u hu; simp only [List.mem_cons, List.not_mem_nil, or_false] at hu; rcases hu with rfl | rfl <;> rfl) (by decide) ?_
     intro a' w' g hH' hE' hF'
     exact wpList_nil (fl_end hC hF' hE' (rsl_lit (n := 2) (size := 5) hH' rfl (by decide)))) ?_
    intro a w hE hF hall
    replace hH := hH.ext hE
    obtain ⟨_, s135, rfl⟩ := hall 135 _ rfl
    replace hF := hF.more s135
    obtain ⟨v138, s138, p138⟩ := hall 138 _ rfl
    replace hF := hF.more s138
    clear hall
    refine ls_call hF rfl rfl rfl rfl rfl fn12 (told9_spec [⟨letterB 97, 5, 3, 0, letterB 98⟩, ⟨letterB 97, 1, 1, 0, [10, 0, 0, 1]⟩] (x := (0, [1, 97, 0], 1, 0)) (by kernel_rfl) p138 (recsB_of (by decide)) (by decide) (hG.ext hH.below)) ?_
    rintro _ w ⟨rfl, hE⟩ a hF
    replace hH := hH.ext hE
    refine wpList_nil ?_
    refine ps hF rfl rfl rfl rfl (fun w => r_move hF rfl rfl) fun a hF => ?_
    refine ps hF rfl rfl rfl rfl (fun w => r_extract hF rfl rfl rfl) fun a hF => ?_
    refine ps hF rfl rfl rfl rfl (fun w => r_extract hF rfl rfl rfl) fun a hF => ?_
    refine ps hF rfl rfl rfl rfl (fun w => r_extract hF rfl rfl rfl) fun a hF => ?_
    refine ps hF rfl rfl rfl rfl (fun w => r_extract hF rfl rfl rfl) fun a hF => ?_
    refine ps hF rfl rfl rfl rfl (fun w => r_assign hF rfl rfl) fun a hF => ?_
    refine ps hF rfl rfl rfl rfl (fun w => r_assign hF rfl rfl) fun a hF => ?_
    refine ps hF rfl rfl rfl rfl (fun w => r_assign hF rfl rfl) fun a hF => ?_
    refine ps hF rfl rfl rfl rfl (fun w => r_assign hF rfl rfl) fun a hF => ?_
    replace hF := hF.sel [3, 4, 5, 6, 7, 8, 9, 10, 14, 18, 22, 26, 30, 32, 33, 34, 35]
    simp only [sel, lk, Nat.reduceBEq, cond_true, cond_false] at hF
    refine k22 ?_
    refine c_seq fun Q23 k23 t23 => ?_
    refine c_reg fun ops => ?_
    refine ls_call hF rfl rfl rfl rfl rfl fn13 (of_spec 65 65 1 rfl _) ?_
    rintro _ w ⟨rfl, hE⟩ a hF
    replace hH := hH.ext hE
    refine ls_call hF rfl rfl rfl rfl rfl fn11 (alias_spec 97 0 97 0 rfl rfl _) ?_
    rintro _ w ⟨rfl, hE⟩ a hF
    replace hH := hH.ext hE
    refine ls_build1 hF hH rfl rfl rfl rfl rfl Tryd.underlying23 ti27 rfl (by decide) ?_
    intro a w g18_2 hH hE hF
    refine ls_call hF rfl rfl rfl rfl rfl fn12 (told9_spec [⟨letterB 97, 5, 1, 0, letterB 0⟩] (x := (1, [0], 0, 0)) (by kernel_rfl) (show RSl _ 5 _ 1 (recsV [⟨letterB 97, 5, 1, 0, letterB 0⟩]) from rsl_lit (n := 1) (size := 5) hH rfl (by decide)) (recsB_of (by decide)) (by decide) (hG.ext hH.below)) ?_
    rintro _ w ⟨rfl, hE⟩ a hF
    replace hH := hH.ext hE
    refine ls hF rfl rfl rfl (r_move hF rfl rfl) fun a hF => ?_
    refine ls hF rfl rfl rfl (r_extract hF rfl rfl rfl) fun a hF => ?_
    refine ls hF rfl rfl rfl (r_extract hF rfl rfl rfl) fun a hF => ?_
    refine ls hF rfl rfl rfl (r_extract hF rfl rfl rfl) fun a hF => ?_
    refine ls hF rfl rfl rfl (r_extract hF rfl rfl rfl) fun a hF => ?_
    refine ls hF rfl rfl rfl (r_assign hF rfl rfl) fun a hF => ?_
    refine ls hF rfl rfl rfl (r_assign hF rfl rfl) fun a hF => ?_
    refine ls hF rfl rfl rfl (r_assign hF rfl rfl) fun a hF => ?_
    refine ls hF rfl rfl rfl (r_assign hF rfl rfl) fun a hF => ?_
    refine wpList_nil ?_
    replace hF := hF.sel [3, 4, 5, 6, 7, 8, 9, 10, 14, 18, 22, 26, 30, 32, 33, 34, 35, 36, 37, 38, 39]
    simp only [sel, lk, Nat.reduceBEq, cond_true, cond_false] at hF
    refine k23 ?_
    refine c_seq fun Q24 k24 t24 => ?_
    refine c_regg ?_
    refine ls hF rfl rfl rfl (r_move hF rfl rfl) fun a hF => ?_
    refine ls hF rfl rfl rfl (r_bin hF rfl rfl rfl rfl (b_eqn _ _ _ 8)) fun a hF => ?_
    refine ls hF rfl rfl rfl (r_move hF rfl rfl) fun a hF => ?_
    refine ls_ask (d := 155) hF rfl (fun g19_2 => ?_) (fun g19_2 => ?_)
    ·
     have g19_2' := g19_2; try simp only [q1, q2, q3, q4, q5, q6, q7, q8, q9, qa, qb] at g19_2'
     refine lsy hF rfl rfl rfl g19_2 rfl rfl (r_move hF rfl rfl) fun a hF => ?_
     refine lsy_call hF rfl rfl rfl g19_2 rfl rfl rfl rfl fn15 (letter_spec 105 105 rfl _) ?_
     rintro _ w ⟨rfl, hE⟩ a hF
     replace hH := hH.ext hE
     refine lsy hF rfl rfl rfl g19_2 rfl rfl (r_bin hF rfl rfl rfl rfl (b_seq _ _ _)) fun a hF => ?_
     refine ls hF rfl rfl rfl (r_pickt hF rfl rfl g19_2 rfl) fun a hF => ?_
     refine ls hF rfl rfl rfl (r_move hF rfl rfl) fun a hF => ?_
     refine ls_ask (d := 160) hF rfl (fun g19_7 => ?_) (fun g19_7 => ?_)
     ·
      have g19_7' := g19_7; try simp only [q1, q2, q3, q4, q5, q6, q7, q8, q9, qa, qb] at g19_7'
      refine lsy hF rfl rfl rfl g19_7 rfl rfl (r_move hF rfl rfl) fun a hF => ?_
      refine lsy hF rfl rfl rfl g19_7 rfl rfl (r_bin hF rfl rfl rfl rfl (b_eqn _ _ _ 1)) fun a hF => ?_
      refine ls hF rfl rfl rfl (r_pickt hF rfl rfl g19_7 rfl) fun a hF => ?_
      refine ls hF rfl rfl rfl (r_move hF rfl rfl) fun a hF => ?_
      refine ls_ask (d := 164) hF rfl (fun g19_11 => ?_) (fun g19_11 => ?_)
      ·
       have g19_11' := g19_11; try simp only [q1, q2, q3, q4, q5, q6, q7, q8, q9, qa, qb] at g19_11'
       refine lsy hF rfl rfl rfl g19_11 rfl rfl (r_move hF rfl rfl) fun a hF => ?_
       refine lsy hF rfl rfl rfl g19_11 rfl rfl (r_bin hF rfl rfl rfl rfl (b_eqn _ _ _ 0)) fun a hF => ?_
       refine ls hF rfl rfl rfl (r_pickt hF rfl rfl g19_11 rfl) fun a hF => ?_
       refine ls hF rfl rfl rfl (r_move hF rfl rfl) fun a hF => ?_
       refine ls_ask (d := 168) hF rfl (fun g19_15 => ?_) (fun g19_15 => ?_)
       ·
        have g19_15' := g19_15; try simp only [q1, q2, q3, q4, q5, q6, q7, q8, q9, qa, qb] at g19_15'
        refine lsy hF rfl rfl rfl g19_15 rfl rfl (r_move hF rfl rfl) fun a hF => ?_
        refine lsy hF rfl rfl rfl g19_15 rfl rfl (r_bin hF rfl rfl rfl rfl (b_eqn _ _ _ 8)) fun a hF => ?_
        refine ls hF rfl rfl rfl (r_pickt hF rfl rfl g19_15 rfl) fun a hF => ?_
        refine ls hF rfl rfl rfl (r_move hF rfl rfl) fun a hF => ?_
        refine ls_ask (d := 172) hF rfl (fun g19_19 => ?_) (fun g19_19 => ?_)
        ·
         have g19_19' := g19_19; try simp only [q1, q2, q3, q4, q5, q6, q7, q8, q9, qa, qb] at g19_19'
         refine lsy hF rfl rfl rfl g19_19 rfl rfl (r_move hF rfl rfl) fun a hF => ?_
         refine lsy_call hF rfl rfl rfl g19_19 rfl rfl rfl rfl fn15 (letter_spec 106 106 rfl _) ?_
         rintro _ w ⟨rfl, hE⟩ a hF
         replace hH := hH.ext hE
         refine lsy hF rfl rfl rfl g19_19 rfl rfl (r_bin hF rfl rfl rfl rfl (b_seq _ _ _)) fun a hF => ?_
         refine ls hF rfl rfl rfl (r_pickt hF rfl rfl g19_19 rfl) fun a hF => ?_
         refine ls hF rfl rfl rfl (r_move hF rfl rfl) fun a hF => ?_
         refine ls_ask (d := 177) hF rfl (fun g19_24 => ?_) (fun g19_24 => ?_)
         ·
          have g19_24' := g19_24; try simp only [q1, q2, q3, q4, q5, q6, q7, q8, q9, qa, qb] at g19_24'
          refine lsy hF rfl rfl rfl g19_24 rfl rfl (r_move hF rfl rfl) fun a hF => ?_
          refine lsy hF rfl rfl rfl g19_24 rfl rfl (r_bin hF rfl rfl rfl rfl (b_eqn _ _ _ 0)) fun a hF => ?_
          refine ls hF rfl rfl rfl (r_pickt hF rfl rfl g19_24 rfl) fun a hF => ?_
          refine ls hF rfl rfl rfl (r_move hF rfl rfl) fun a hF => ?_
          refine ls_ask (d := 181) hF rfl (fun g19_28 => ?_) (fun g19_28 => ?_)
          ·
           have g19_28' := g19_28; try simp only [q1, q2, q3, q4, q5, q6, q7, q8, q9, qa, qb] at g19_28'
           refine lsy hF rfl rfl rfl g19_28 rfl rfl (r_move hF rfl rfl) fun a hF => ?_
           refine lsy hF rfl rfl rfl g19_28 rfl rfl (r_bin hF rfl rfl rfl rfl (b_eqn _ _ _ 0)) fun a hF => ?_
           refine ls hF rfl rfl rfl (r_pickt hF rfl rfl g19_28 rfl) fun a hF => ?_
           refine ls hF rfl rfl rfl (r_move hF rfl rfl) fun a hF => ?_
           refine ls_ask (d := 185) hF rfl (fun g19_32 => ?_) (fun g19_32 => ?_)
           ·
            have g19_32' := g19_32; try simp only [q1, q2, q3, q4, q5, q6, q7, q8, q9, qa, qb] at g19_32'
            refine lsy hF rfl rfl rfl g19_32 rfl rfl (r_move hF rfl rfl) fun a hF => ?_
            refine lsy hF rfl rfl rfl g19_32 rfl rfl (r_bin hF rfl rfl rfl rfl (b_eqn _ _ _ 5)) fun a hF => ?_
            refine ls hF rfl rfl rfl (r_pickt hF rfl rfl g19_32 rfl) fun a hF => ?_
            refine ls hF rfl rfl rfl (r_move hF rfl rfl) fun a hF => ?_
            refine ls_ask (d := 189) hF rfl (fun g19_36 => ?_) (fun g19_36 => ?_)
            ·
             have g19_36' := g19_36; try simp only [q1, q2, q3, q4, q5, q6, q7, q8, q9, qa, qb] at g19_36'
             refine lsy hF rfl rfl rfl g19_36 rfl rfl (r_move hF rfl rfl) fun a hF => ?_
             refine lsy hF rfl rfl rfl g19_36 rfl rfl (r_bin hF rfl rfl rfl rfl (b_eqn _ _ _ 5)) fun a hF => ?_
             refine ls hF rfl rfl rfl (r_pickt hF rfl rfl g19_36 rfl) fun a hF => ?_
             refine ls hF rfl rfl rfl (r_move hF rfl rfl) fun a hF => ?_
             refine ls_ask (d := 193) hF rfl (fun g19_40 => ?_) (fun g19_40 => ?_)
             ·
              have g19_40' := g19_40; try simp only [q1, q2, q3, q4, q5, q6, q7, q8, q9, qa, qb] at g19_40'
              refine lsy hF rfl rfl rfl g19_40 rfl rfl (r_move hF rfl rfl) fun a hF => ?_
              refine lsy hF rfl rfl rfl g19_40 rfl rfl (r_bin hF rfl rfl rfl rfl (b_eqn _ _ _ 8)) fun a hF => ?_
              refine ls hF rfl rfl rfl (r_pickt hF rfl rfl g19_40 rfl) fun a hF => ?_
              refine ls hF rfl rfl rfl (r_move hF rfl rfl) fun a hF => ?_
              refine ls_ask (d := 197) hF rfl (fun g19_44 => ?_) (fun g19_44 => ?_)
              ·
               have g19_44' := g19_44; try simp only [q1, q2, q3, q4, q5, q6, q7, q8, q9, qa, qb] at g19_44'
               refine lsy hF rfl rfl rfl g19_44 rfl rfl (r_move hF rfl rfl) fun a hF => ?_
               refine lsy hF rfl rfl rfl g19_44 rfl rfl (r_bin hF rfl rfl rfl rfl (b_eqn _ _ _ 3)) fun a hF => ?_
               refine ls hF rfl rfl rfl (r_pickt hF rfl rfl g19_44 rfl) fun a hF => ?_
               refine ls hF rfl rfl rfl (r_move hF rfl rfl) fun a hF => ?_
               refine ls_ask (d := 201) hF rfl (fun g19_48 => ?_) (fun g19_48 => ?_)
               ·
                have g19_48' := g19_48; try simp only [q1, q2, q3, q4, q5, q6, q7, q8, q9, qa, qb] at g19_48'
                refine lsy hF rfl rfl rfl g19_48 rfl rfl (r_move hF rfl rfl) fun a hF => ?_
                refine lsy hF rfl rfl rfl g19_48 rfl rfl (r_bin hF rfl rfl rfl rfl (b_eqn _ _ _ 1)) fun a hF => ?_
                refine ls hF rfl rfl rfl (r_pickt hF rfl rfl g19_48 rfl) fun a hF => ?_
                refine ls hF rfl rfl rfl (r_move hF rfl rfl) fun a hF => ?_
                refine ls_ask (d := 205) hF rfl (fun g19_52 => ?_) (fun g19_52 => ?_)
                ·
                 have g19_52' := g19_52; try simp only [q1, q2, q3, q4, q5, q6, q7, q8, q9, qa, qb] at g19_52'
                 refine lsy hF rfl rfl rfl g19_52 rfl rfl (r_move hF rfl rfl) fun a hF => ?_
                 refine lsy hF rfl rfl rfl g19_52 rfl rfl (r_bin hF rfl rfl rfl rfl (b_eqn _ _ _ 0)) fun a hF => ?_
                 refine ls hF rfl rfl rfl (r_pickt hF rfl rfl g19_52 rfl) fun a hF => ?_
                 refine ls hF rfl rfl rfl (r_move hF rfl rfl) fun a hF => ?_
                 refine ls_ask (d := 209) hF rfl (fun g19_56 => ?_) (fun g19_56 => ?_)
                 ·
                  have g19_56' := g19_56; try simp only [q1, q2, q3, q4, q5, q6, q7, q8, q9, qa, qb] at g19_56'
                  refine lsy hF rfl rfl rfl g19_56 rfl rfl (r_move hF rfl rfl) fun a hF => ?_
                  refine lsy_call hF rfl rfl rfl g19_56 rfl rfl rfl rfl fn15 (letter_spec 97 97 rfl _) ?_
                  rintro _ w ⟨rfl, hE⟩ a hF
                  replace hH := hH.ext hE
                  refine lsy hF rfl rfl rfl g19_56 rfl rfl (r_bin hF rfl rfl rfl rfl (b_seq _ _ _)) fun a hF => ?_
                  refine ls hF rfl rfl rfl (r_pickt hF rfl rfl g19_56 rfl) fun a hF => ?_
                  refine ls hF rfl rfl rfl (r_move hF rfl rfl) fun a hF => ?_
                  refine ls_ask (d := 214) hF rfl (fun g19_61 => ?_) (fun g19_61 => ?_)
                  ·
                   have g19_61' := g19_61; try simp only [q1, q2, q3, q4, q5, q6, q7, q8, q9, qa, qb] at g19_61'
                   refine lsy hF rfl rfl rfl g19_61 rfl rfl (r_move hF rfl rfl) fun a hF => ?_
                   refine lsy hF rfl rfl rfl g19_61 rfl rfl (r_bin hF rfl rfl rfl rfl (b_eqn _ _ _ 1)) fun a hF => ?_
                   refine ls hF rfl rfl rfl (r_pickt hF rfl rfl g19_61 rfl) fun a hF => ?_
                   refine ls hF rfl rfl rfl (r_move hF rfl rfl) fun a hF => ?_
                   refine ls_ask (d := 218) hF rfl (fun g19_65 => ?_) (fun g19_65 => ?_)
                   ·
                    have g19_65' := g19_65; try simp only [q1, q2, q3, q4, q5, q6, q7, q8, q9, qa, qb] at g19_65'
                    refine lsy hF rfl rfl rfl g19_65 rfl rfl (r_move hF rfl rfl) fun a hF => ?_
                    refine lsy hF rfl rfl rfl g19_65 rfl rfl (r_bin hF rfl rfl rfl rfl (b_eqn _ _ _ 0)) fun a hF => ?_
                    refine ls hF rfl rfl rfl (r_pickt hF rfl rfl g19_65 rfl) fun a hF => ?_
                    refine ls hF rfl rfl rfl (r_move hF rfl rfl) fun a hF => ?_
                    refine ls_ask (d := 222) hF rfl (fun g19_69 => ?_) (fun g19_69 => ?_)
                    ·
                     have g19_69' := g19_69; try simp only [q1, q2, q3, q4, q5, q6, q7, q8, q9, qa, qb] at g19_69'
                     refine lsy hF rfl rfl rfl g19_69 rfl rfl (r_move hF rfl rfl) fun a hF => ?_
                     refine lsy hF rfl rfl rfl g19_69 rfl rfl (r_bin hF rfl rfl rfl rfl (b_eqn _ _ _ 1)) fun a hF => ?_
                     refine ls hF rfl rfl rfl (r_pickt hF rfl rfl g19_69 rfl) fun a hF => ?_
                     refine ls hF rfl rfl rfl (r_move hF rfl rfl) fun a hF => ?_
                     refine ls_ask (d := 226) hF rfl (fun g19_73 => ?_) (fun g19_73 => ?_)
                     ·
                      have g19_73' := g19_73; try simp only [q1, q2, q3, q4, q5, q6, q7, q8, q9, qa, qb] at g19_73'
                      refine lsy hF rfl rfl rfl g19_73 rfl rfl (r_move hF rfl rfl) fun a hF => ?_
                      refine lsy hF rfl rfl rfl g19_73 rfl rfl (r_bin hF rfl rfl rfl rfl (b_seq _ _ [0])) fun a hF => ?_
                      refine ls hF rfl rfl rfl (r_pickt hF rfl rfl g19_73 rfl) fun a hF => ?_
                      refine ls hF rfl rfl rfl (r_move hF rfl rfl) fun a hF => ?_
                      refine ls_ask (d := 230) hF rfl (fun g19_77 => ?_) (fun g19_77 => ?_)
                      ·
                       have g19_77' := g19_77; try simp only [q1, q2, q3, q4, q5, q6, q7, q8, q9, qa, qb] at g19_77'
                       refine lsy hF rfl rfl rfl g19_77 rfl rfl (r_move hF rfl rfl) fun a hF => ?_
                       refine lsy hF rfl rfl rfl g19_77 rfl rfl (r_bin hF rfl rfl rfl rfl (b_eqn _ _ _ 0)) fun a hF => ?_
                       refine ls hF rfl rfl rfl (r_pickt hF rfl rfl g19_77 rfl) fun a hF => ?_
                       refine ls hF rfl rfl rfl (r_move hF rfl rfl) fun a hF => ?_
                       refine ls_ask (d := 234) hF rfl (fun g19_81 => ?_) (fun g19_81 => ?_)
                       ·
                        have g19_81' := g19_81; try simp only [q1, q2, q3, q4, q5, q6, q7, q8, q9, qa, qb] at g19_81'
                        refine lsy hF rfl rfl rfl g19_81 rfl rfl (r_move hF rfl rfl) fun a hF => ?_
                        refine lsy hF rfl rfl rfl g19_81 rfl rfl (r_bin hF rfl rfl rfl rfl (b_eqn _ _ _ 0)) fun a hF => ?_
                        refine ls hF rfl rfl rfl (r_pickt hF rfl rfl g19_81 rfl) fun a hF => ?_
                        refine ls hF rfl rfl rfl (r_assign hF rfl rfl) fun a hF => ?_
                        refine wpList_nil ?_
                        replace hF := hF.sel [0]
                        simp only [sel, lk, Nat.reduceBEq, cond_true, cond_false] at hF
                        refine k24 ?_
                        refine wp_ret ?_
                        refine hret (ret1 (fn := Tryd.f3) (t := 0) hF Tryd.results3 rfl ?_)
                        exact ⟨by simp, hH.below⟩
                       ·
                        have g19_81' := g19_81; try simp only [q1, q2, q3, q4, q5, q6, q7, q8, q9, qa, qb] at g19_81'
                        exact absurd g19_81 (by decide)
                      ·
                       have g19_77' := g19_77; try simp only [q1, q2, q3, q4, q5, q6, q7, q8, q9, qa, qb] at g19_77'
                       exact absurd g19_77 (by decide)
                     ·
                      have g19_73' := g19_73; try simp only [q1, q2, q3, q4, q5, q6, q7, q8, q9, qa, qb] at g19_73'
                      exact absurd g19_73 (by decide)
                    ·
                     have g19_69' := g19_69; try simp only [q1, q2, q3, q4, q5, q6, q7, q8, q9, qa, qb] at g19_69'
                     exact absurd g19_69 (by decide)
                   ·
                    have g19_65' := g19_65; try simp only [q1, q2, q3, q4, q5, q6, q7, q8, q9, qa, qb] at g19_65'
                    exact absurd g19_65 (by decide)
                  ·
                   have g19_61' := g19_61; try simp only [q1, q2, q3, q4, q5, q6, q7, q8, q9, qa, qb] at g19_61'
                   exact absurd g19_61 (by decide)
                 ·
                  have g19_56' := g19_56; try simp only [q1, q2, q3, q4, q5, q6, q7, q8, q9, qa, qb] at g19_56'
                  exact absurd g19_56 (by decide)
                ·
                 have g19_52' := g19_52; try simp only [q1, q2, q3, q4, q5, q6, q7, q8, q9, qa, qb] at g19_52'
                 exact absurd g19_52 (by decide)
               ·
                have g19_48' := g19_48; try simp only [q1, q2, q3, q4, q5, q6, q7, q8, q9, qa, qb] at g19_48'
                exact absurd g19_48 (by decide)
              ·
               have g19_44' := g19_44; try simp only [q1, q2, q3, q4, q5, q6, q7, q8, q9, qa, qb] at g19_44'
               exact absurd g19_44 (by decide)
             ·
              have g19_40' := g19_40; try simp only [q1, q2, q3, q4, q5, q6, q7, q8, q9, qa, qb] at g19_40'
              exact absurd g19_40 (by decide)
            ·
             have g19_36' := g19_36; try simp only [q1, q2, q3, q4, q5, q6, q7, q8, q9, qa, qb] at g19_36'
             exact absurd g19_36 (by decide)
           ·
            have g19_32' := g19_32; try simp only [q1, q2, q3, q4, q5, q6, q7, q8, q9, qa, qb] at g19_32'
            exact absurd g19_32 (by decide)
          ·
           have g19_28' := g19_28; try simp only [q1, q2, q3, q4, q5, q6, q7, q8, q9, qa, qb] at g19_28'
           exact absurd g19_28 (by decide)
         ·
          have g19_24' := g19_24; try simp only [q1, q2, q3, q4, q5, q6, q7, q8, q9, qa, qb] at g19_24'
          exact absurd g19_24 (by decide)
        ·
         have g19_19' := g19_19; try simp only [q1, q2, q3, q4, q5, q6, q7, q8, q9, qa, qb] at g19_19'
         exact absurd g19_19 (by decide)
       ·
        have g19_15' := g19_15; try simp only [q1, q2, q3, q4, q5, q6, q7, q8, q9, qa, qb] at g19_15'
        exact absurd g19_15 (by decide)
      ·
       have g19_11' := g19_11; try simp only [q1, q2, q3, q4, q5, q6, q7, q8, q9, qa, qb] at g19_11'
       exact absurd g19_11 (by decide)
     ·
      have g19_7' := g19_7; try simp only [q1, q2, q3, q4, q5, q6, q7, q8, q9, qa, qb] at g19_7'
      exact absurd g19_7 (by decide)
    ·
     have g19_2' := g19_2; try simp only [q1, q2, q3, q4, q5, q6, q7, q8, q9, qa, qb] at g19_2'
     exact absurd g19_2 (by decide)
end Go.Proofs.YtcelgjabccgnmaaDoor
