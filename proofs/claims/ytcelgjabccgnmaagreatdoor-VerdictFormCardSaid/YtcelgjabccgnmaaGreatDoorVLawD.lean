/-
  The walks of hustingslaw11.lettered, turned, and VerdictForm. Nothing is claimed here.
-/
import Derived.Test.YtcelgjabccgnmaaGreatDoorVLawB
import Derived.Test.YtcelgjabccgnmaaGreatDoorHeld
namespace Go.Proofs.YtcelgjabccgnmaaGreatDoor
open Go.RowKit
set_option linter.unusedVariables false
set_option linter.unusedSimpArgs false
set_option maxHeartbeats 1000000

/-! ### Letters -/
def letAt (k : Nat) (c : UInt8) : UInt8 := if isLet c = true ∧ k % 2 = 0 then c ^^^ 32 else c
theorem letF_snoc {k : Nat} {l : Bs} {i : Nat} (h : i < l.length) : letF k (l.take (i + 1)) = letF k (l.take i) ++ [letAt (k + i) (l.getD i 0)] := by
  have hg : l.getD i 0 = l[i] := by simp [List.getD_eq_getElem?_getD, h]
  rw [List.take_succ_eq_append_getElem h, letF_append, List.length_take, Nat.min_eq_left (by omega), hg]
  rfl
theorem mid_let {k : Nat} {l : Bs} {i : Nat} (h : i < l.length) : (letF k (l.take i) ++ l.drop i).getD i 0 = l.getD i 0 := by
  have : (letF k (l.take i)).length = i := by rw [letF_len, List.length_take]; omega
  simp [List.getD_eq_getElem?_getD, List.getElem?_append, this]
theorem cell_let {cur : Array Value} {l : Bs} {i k : Nat} (h : cur.toList.take l.length = bytV (letF k (l.take i) ++ l.drop i)) (hi : i < l.length) : cur[i]? = some (.int .u8 ((l.getD i 0).toNat : Int)) := by
  refine mid_get h ?_
  rw [bytV_get (by rw [List.length_append, letF_len, List.length_take, List.length_drop]; omega), mid_let hi]
theorem let_next {k : Nat} {l : Bs} {i : Nat} (hi : i < l.length) (h : letAt (k + i) (l.getD i 0) = l.getD i 0) : letF k (l.take i) ++ l.drop i = letF k (l.take (i + 1)) ++ l.drop (i + 1) := by
  have hg : l.getD i 0 = l[i] := by simp [List.getD_eq_getElem?_getD, hi]
  rw [letF_snoc hi, h, hg, List.drop_eq_getElem_cons hi, List.append_assoc]; rfl
theorem bytV_set (l : Bs) (i : Nat) (c : UInt8) : (bytV l).set i (.int .u8 (c.toNat : Int)) = bytV (l.set i c) := by simp [bytV, List.map_set]
theorem set_let {cur : Array Value} {l : Bs} {i k : Nat} (h : cur.toList.take l.length = bytV (letF k (l.take i) ++ l.drop i)) (hi : i < l.length) (hc : letAt (k + i) (l.getD i 0) = l.getD i 0 ^^^ 32) :
    (cur.setIfInBounds i (.int .u8 ((l.getD i 0 ^^^ 32).toNat : Int))).toList.take l.length = bytV (letF k (l.take (i + 1)) ++ l.drop (i + 1)) := by
  have hl : (letF k (l.take i)).length = i := by rw [letF_len, List.length_take]; omega
  rw [Array.toList_setIfInBounds, List.take_set, h, bytV_set, List.set_append_right _ _ (by omega), hl, Nat.sub_self, List.drop_eq_getElem_cons hi, List.set_cons_zero, letF_snoc hi, hc, List.append_assoc]; rfl
section
variable {P : Program} {w : World}
theorem xor32 : ∀ n : Fin 256, bits .xor .u8 ((n.val : Nat) : Int) 32 = (((UInt8.ofNat n.val ^^^ 32).toNat : Nat) : Int) := by decide +kernel
theorem b_xor32 (t : TypeId) (c : UInt8) : (binOp .xor t (.int .u8 (c.toNat : Int)) (.int .u8 32)).run P w = .ok (.int .u8 ((c ^^^ 32).toNat : Int)) w := by
  have := xor32 ⟨c.toNat, c.toNat_lt⟩
  simp only [UInt8.ofNat_toNat] at this
  simp [go_sem, this]
end
theorem letAt_yes {k : Nat} {c : UInt8} (h1 : (97 ≤ c.toNat ∧ c.toNat ≤ 122) ∨ (65 ≤ c.toNat ∧ c.toNat ≤ 90)) (h2 : k % 2 = 0) : letAt k c = c ^^^ 32 := by
  unfold letAt
  rw [if_pos ⟨by unfold isLet; simp; omega, h2⟩]
theorem letAt_no {k : Nat} {c : UInt8} (h : ¬ (((97 ≤ c.toNat ∧ c.toNat ≤ 122) ∨ (65 ≤ c.toNat ∧ c.toNat ≤ 90)) ∧ k % 2 = 0)) : letAt k c = c := by
  unfold letAt
  rw [if_neg]
  rintro ⟨h1, h2⟩
  unfold isLet at h1
  simp at h1
  exact h ⟨by omega, h2⟩
theorem lettered_spec (l : Bs) (k : Nat) (hk : k < 256) (hl : l.length < 1000000) (w0 : World) : Rets Tryz.prog 42 [.string (mk l), .int .u8 (k : Nat)] w0 fun v w' => v = .string (mk (letF k l)) ∧ Ext w0 w' := by
  have hH := Hp.refl w0
  refine rets_start Tryz.func42 rfl Tryz.ntmps42 rfl fun a Q0 hF hret hend => ?_
  simp only [argsFrom, Nat.zero_add, Nat.reduceAdd] at hF
  refine c_sr fun ops => ?_
  refine zm 1 hF rfl fun a hF => ?_
  refine c_n ?_
  replace hF := hF.sel [0, 1]
  simp only [ss, Nat.reduceBEq] at hF
  refine c_sr fun ops => ?_
  refine zm 1 hF rfl fun a hF => ?_
  refine ls_convbytes hF hH rfl rfl rfl rfl rfl Tryz.underlying9 Tryz.underlying88 Tryz.underlying5 (by unfold maxLen; omega) ?_
  intro a w g1_1 cap1_1 cur1_1 hH hE hcap1_1 hmx1_1 hsz1_1 htk1_1 hF
  refine zm 1 hF rfl fun a hF => ?_
  refine c_n ?_
  replace hF := hF.sel [1, 5]
  simp only [ss, Nat.reduceBEq] at hF
  have h1 : cur1_1.toList.take l.length = bytV (letF k (l.take 0) ++ l.drop 0) := by simpa [letF] using htk1_1
  refine c_seq fun Q1 k1 t1 => ?_
  refine c_sr fun ops => ?_
  refine zm 1 hF rfl fun a hF => ?_
  refine c_n ?_
  replace hF := hF.sel [1, 5, 6]
  simp only [ss, Nat.reduceBEq] at hF
  refine c_block fun Q2 t2 => ?_
  refine c_loop (fun n a w => ∃ i cur, n = l.length - i ∧ i ≤ l.length ∧ cur.size = cap1_1 ∧ cur.toList.take l.length = bytV (letF k (l.take i) ++ l.drop i) ∧ Fr 49 [(1, .int .u8 (k : Nat)), (5, .slice (some ⟨g1_1, 0, none⟩) l.length cap1_1), (6, .int .i64 (i : Nat))] a ∧ Hp w0 w [(g1_1, .cells cur 5 (cap1_1, cap1_1 + 1))]) ?_ ?_
  ·
   exact ⟨_, 0, cur1_1, rfl, Nat.zero_le _, hsz1_1, h1, hF.keep [1, 5, 6] rfl, by rw [← hsz1_1]; exact hH⟩
  clear hH hF
  intro n a w hI Q3 k3 t3
  obtain ⟨i, cur, hn, hi, hsz, htk, hF, hH⟩ := hI
  refine c_seq fun Q4 k4 t4 => ?_
  refine c_sr fun ops => ?_
  refine zm 2 hF rfl fun a hF => ?_
  refine zl hF rfl (r_len_sl hF rfl rfl Tryz.underlying88) fun a hF => ?_
  refine zb hF rfl rfl rfl (b_ltn _ _ _ _) fun a hF => ?_
  refine c_n ?_
  refine c_fi hF rfl (fun h13 => ?_) (fun h13 => ?_)
  ·
   try simp only [qq] at h13
   refine wp_exit (t4.exit (t3.exit (t2.here (?_))))
   refine k1 ?_
   have hR : RSl w 1 (.slice (some ⟨g1_1, 0, none⟩) l.length cap1_1) l.length (bytV (letF k l)) := by
     obtain rfl : i = l.length := by omega
     refine ⟨by simp [bytV, letF_len], _, _, rfl, hcap1_1, hmx1_1, .inr ⟨g1_1, 0, rfl, fun j u hu => ?_⟩⟩
     rw [Nat.zero_add]
     refine own_cell (i := 0) hH rfl (mid_get htk ?_)
     simpa using hu
   refine c_sr fun ops => ?_
   refine zm 1 hF rfl fun a hF => ?_
   refine zl hF rfl (r_convstr hF rfl rfl Tryz.underlying88 Tryz.underlying5 Tryz.underlying9 (hR)) fun a hF => ?_
   refine zm 1 hF rfl fun a hF => ?_
   refine c_n ?_
   replace hF := hF.sel [4]
   simp only [ss, Nat.reduceBEq] at hF
   refine wp_ret (hret (ret1 hF Tryz.results42 rfl ?_))
   exact ⟨rfl, hH.below⟩
  try simp only [qq] at h13
  have hcell := cell_let htk h13
  have hc8 := (l.getD i 0).toNat_lt
  refine wp_skip ?_
  refine k4 ?_
  refine c_cut (fun a w => ∃ cur2, cur2.size = cap1_1 ∧ cur2.toList.take l.length = bytV (letF k (l.take (i + 1)) ++ l.drop (i + 1)) ∧ Fr 49 [(1, .int .u8 (k : Nat)), (5, .slice (some ⟨g1_1, 0, none⟩) l.length cap1_1), (6, .int .i64 (i : Nat))] a ∧ Hp w0 w [(g1_1, .cells cur2 5 (cap1_1, cap1_1 + 1))]) (fun Q5 k5 t5 => ?_) ?_
  ·
   refine c_block fun Q6 t6 => ?_
   refine c_sr fun ops => ?_
   refine zm 2 hF rfl fun a hF => ?_
   refine zl hF rfl (r_ix1 hF _ rfl rfl rfl Tryz.underlying88 ti5 (by omega)) fun a hF => ?_
   refine zl hF rfl (r_load hF rfl rfl fl5 (own_cell (i := 0) hH rfl (show cur[0 + i]? = some (.int .u8 ((l.getD i 0).toNat : Int)) by rw [Nat.zero_add]; exact hcell))) fun a hF => ?_
   refine zm 1 hF rfl fun a hF => ?_
   refine c_n ?_
   refine c_sg ?_
   refine zm 1 hF rfl fun a hF => ?_
   refine zb hF rfl rfl rfl (b_gen _ _ _ 97) fun a hF => ?_
   refine zm 1 hF rfl fun a hF => ?_
   refine l_ask (d := 22) hF rfl (fun g6_2 => ?_) (fun g6_2 => ?_)
   ·
    have g6_2' := g6_2; try simp only [qq] at g6_2'
    refine zn hF rfl g6_2 fun a hF => ?_
    refine zn hF rfl g6_2 fun a hF => ?_
    refine zl hF rfl (r_pickf hF rfl rfl g6_2 rfl) fun a hF => ?_
    refine zm 1 hF rfl fun a hF => ?_
    refine zy hF rfl rfl (r_move hF rfl rfl) fun a hF => ?_
    refine zy hF rfl rfl (zr hF rfl rfl (b_gen _ _ _ 65)) fun a hF => ?_
    refine zy hF rfl rfl (r_move hF rfl rfl) fun a hF => ?_
    refine l_ask (d := 29) hF rfl (fun g6_9 => ?_) (fun g6_9 => ?_)
    ·
     have g6_9' := g6_9; try simp only [qq] at g6_9'
     refine zn hF rfl g6_9 fun a hF => ?_
     refine zn hF rfl g6_9 fun a hF => ?_
     refine zy hF rfl rfl (r_pickf hF rfl rfl g6_9 rfl) fun a hF => ?_
     refine zl hF rfl (r_pickf hF rfl rfl rfl rfl) fun a hF => ?_
     refine zm 1 hF rfl fun a hF => ?_
     refine zn hF rfl rfl fun a hF => ?_
     refine zn hF rfl rfl fun a hF => ?_
     refine zn hF rfl rfl fun a hF => ?_
     refine zn hF rfl rfl fun a hF => ?_
     refine zn hF rfl rfl fun a hF => ?_
     refine zn hF rfl rfl fun a hF => ?_
     refine zl hF rfl (r_pickf hF rfl rfl rfl rfl) fun a hF => ?_
     refine c_n ?_
     refine c_no hF rfl rfl ?_
     refine wp_skip ?_
     refine t6.norm ?_
     refine k5 ?_
     first
       | exact ⟨_, by simpa using hsz, set_let htk h13 hyes, hF.keep [1, 5, 6] rfl, by simpa using hH⟩
       | exact ⟨cur, hsz, by rw [← let_next h13 (letAt_no (by omega))]; exact htk, hF.keep [1, 5, 6] rfl, hH⟩
    have g6_9' := g6_9; try simp only [qq] at g6_9'
    refine zy hF rfl g6_9 (r_move hF rfl rfl) fun a hF => ?_
    refine zy hF rfl g6_9 (zr hF rfl rfl (b_len _ _ _ 90)) fun a hF => ?_
    refine zy hF rfl rfl (r_pickt hF rfl rfl g6_9 rfl) fun a hF => ?_
    refine zl hF rfl (r_pickf hF rfl rfl rfl rfl) fun a hF => ?_
    refine zm 1 hF rfl fun a hF => ?_
    refine l_ask (d := 34) hF rfl (fun g6_14 => ?_) (fun g6_14 => ?_)
    ·
     have g6_14' := g6_14; try simp only [qq] at g6_14'
     refine zn hF rfl g6_14 fun a hF => ?_
     refine zn hF rfl g6_14 fun a hF => ?_
     refine zn hF rfl g6_14 fun a hF => ?_
     refine zn hF rfl g6_14 fun a hF => ?_
     refine zn hF rfl g6_14 fun a hF => ?_
     refine zn hF rfl g6_14 fun a hF => ?_
     refine zl hF rfl (r_pickf hF rfl rfl g6_14 rfl) fun a hF => ?_
     refine c_n ?_
     refine c_no hF rfl rfl ?_
     refine wp_skip ?_
     refine t6.norm ?_
     refine k5 ?_
     first
       | exact ⟨_, by simpa using hsz, set_let htk h13 hyes, hF.keep [1, 5, 6] rfl, by simpa using hH⟩
       | exact ⟨cur, hsz, by rw [← let_next h13 (letAt_no (by omega))]; exact htk, hF.keep [1, 5, 6] rfl, hH⟩
    have g6_14' := g6_14; try simp only [qq] at g6_14'
    refine zy hF rfl g6_14 (r_move hF rfl rfl) fun a hF => ?_
    refine zy hF rfl g6_14 (r_convin hF rfl rfl (by rw [Tryz.underlying5]; rfl) Tryz.underlying3 (-9223372036854775808) 9223372036854775807 mn_i64 mx_i64 (by omega)) fun a hF => ?_
    refine zy hF rfl g6_14 (r_move hF rfl rfl) fun a hF => ?_
    refine zy hF rfl g6_14 (zr hF rfl rfl (b_addn _ _ _ (by omega))) fun a hF => ?_
    refine zy hF rfl g6_14 (zr hF rfl rfl (b_remk _ _ 2 (by decide))) fun a hF => ?_
    refine zy hF rfl g6_14 (zr hF rfl rfl (b_eqn _ _ _ 0)) fun a hF => ?_
    refine zl hF rfl (r_pickt hF rfl rfl g6_14 rfl) fun a hF => ?_
    refine c_n ?_
    refine c_fi hF rfl (fun h41 => ?_) (fun h41 => ?_)
    ·
     try simp only [qq] at h41
     refine wp_skip ?_
     refine t6.norm ?_
     refine k5 ?_
     first
       | exact ⟨_, by simpa using hsz, set_let htk h13 hyes, hF.keep [1, 5, 6] rfl, by simpa using hH⟩
       | exact ⟨cur, hsz, by rw [← let_next h13 (letAt_no (by omega))]; exact htk, hF.keep [1, 5, 6] rfl, hH⟩
    try simp only [qq] at h41
    refine c_reg fun ops => ?_
    refine zm 3 hF rfl fun a hF => ?_
    refine zb hF rfl rfl rfl (b_xor32 _ (l.getD i 0)) fun a hF => ?_
    refine zl hF rfl (r_ix1 hF _ rfl rfl rfl Tryz.underlying88 ti5 (by omega)) fun a hF => ?_
    refine ls_store 0 hF hH rfl rfl rfl rfl rfl fl5 ti5 rfl (by simp; omega) (by simp [noFreeze]; omega) (rfl) ?_
    intro w hH
    refine wpList_nil ?_
    have hyes := letAt_yes (k := k + i) (c := l.getD i 0) (by omega) (by omega)
    refine t6.norm ?_
    refine k5 ?_
    first
      | exact ⟨_, by simpa using hsz, set_let htk h13 hyes, hF.keep [1, 5, 6] rfl, by simpa using hH⟩
      | exact ⟨cur, hsz, by rw [← let_next h13 (letAt_no (by omega))]; exact htk, hF.keep [1, 5, 6] rfl, hH⟩
   have g6_2' := g6_2; try simp only [qq] at g6_2'
   refine zy hF rfl g6_2 (r_move hF rfl rfl) fun a hF => ?_
   refine zy hF rfl g6_2 (zr hF rfl rfl (b_len _ _ _ 122)) fun a hF => ?_
   refine zl hF rfl (r_pickt hF rfl rfl g6_2 rfl) fun a hF => ?_
   refine zm 1 hF rfl fun a hF => ?_
   refine ls_ask (d := 26) hF rfl (fun g6_6 => ?_) (fun g6_6 => ?_)
   ·
    have g6_6' := g6_6; try simp only [qq] at g6_6'
    refine zn hF rfl g6_6 fun a hF => ?_
    refine zn hF rfl g6_6 fun a hF => ?_
    refine zn hF rfl g6_6 fun a hF => ?_
    refine lsu hF rfl rfl rfl rfl rfl fun a hF => ?_
    refine lsu hF rfl rfl rfl rfl rfl fun a hF => ?_
    refine zn hF rfl g6_6 fun a hF => ?_
    refine zl hF rfl (r_pickt hF rfl rfl g6_6 rfl) fun a hF => ?_
    refine zm 1 hF rfl fun a hF => ?_
    refine zy hF rfl rfl (r_move hF rfl rfl) fun a hF => ?_
    refine zy hF rfl rfl (r_convin hF rfl rfl (by rw [Tryz.underlying5]; rfl) Tryz.underlying3 (-9223372036854775808) 9223372036854775807 mn_i64 mx_i64 (by omega)) fun a hF => ?_
    refine zy hF rfl rfl (r_move hF rfl rfl) fun a hF => ?_
    refine zy hF rfl rfl (zr hF rfl rfl (b_addn _ _ _ (by omega))) fun a hF => ?_
    refine zy hF rfl rfl (zr hF rfl rfl (b_remk _ _ 2 (by decide))) fun a hF => ?_
    refine zy hF rfl rfl (zr hF rfl rfl (b_eqn _ _ _ 0)) fun a hF => ?_
    refine zl hF rfl (r_pickt hF rfl rfl rfl rfl) fun a hF => ?_
    refine c_n ?_
    refine c_fi hF rfl (fun h41 => ?_) (fun h41 => ?_)
    ·
     try simp only [qq] at h41
     refine wp_skip ?_
     refine t6.norm ?_
     refine k5 ?_
     first
       | exact ⟨_, by simpa using hsz, set_let htk h13 hyes, hF.keep [1, 5, 6] rfl, by simpa using hH⟩
       | exact ⟨cur, hsz, by rw [← let_next h13 (letAt_no (by omega))]; exact htk, hF.keep [1, 5, 6] rfl, hH⟩
    try simp only [qq] at h41
    refine c_reg fun ops => ?_
    refine zm 3 hF rfl fun a hF => ?_
    refine zb hF rfl rfl rfl (b_xor32 _ (l.getD i 0)) fun a hF => ?_
    refine zl hF rfl (r_ix1 hF _ rfl rfl rfl Tryz.underlying88 ti5 (by omega)) fun a hF => ?_
    refine ls_store 0 hF hH rfl rfl rfl rfl rfl fl5 ti5 rfl (by simp; omega) (by simp [noFreeze]; omega) (rfl) ?_
    intro w hH
    refine wpList_nil ?_
    have hyes := letAt_yes (k := k + i) (c := l.getD i 0) (by omega) (by omega)
    refine t6.norm ?_
    refine k5 ?_
    first
      | exact ⟨_, by simpa using hsz, set_let htk h13 hyes, hF.keep [1, 5, 6] rfl, by simpa using hH⟩
      | exact ⟨cur, hsz, by rw [← let_next h13 (letAt_no (by omega))]; exact htk, hF.keep [1, 5, 6] rfl, hH⟩
   have g6_6' := g6_6; try simp only [qq] at g6_6'
   refine zy hF rfl g6_6 (r_move hF rfl rfl) fun a hF => ?_
   refine zy hF rfl g6_6 (zr hF rfl rfl (b_gen _ _ _ 65)) fun a hF => ?_
   refine zy hF rfl g6_6 (r_move hF rfl rfl) fun a hF => ?_
   refine l_ask (d := 29) hF rfl (fun g6_9 => ?_) (fun g6_9 => ?_)
   ·
    have g6_9' := g6_9; try simp only [qq] at g6_9'
    refine zn hF rfl g6_9 fun a hF => ?_
    refine zn hF rfl g6_9 fun a hF => ?_
    refine zy hF rfl g6_6 (r_pickf hF rfl rfl g6_9 rfl) fun a hF => ?_
    refine zl hF rfl (r_pickf hF rfl rfl g6_6 rfl) fun a hF => ?_
    refine zm 1 hF rfl fun a hF => ?_
    refine zn hF rfl rfl fun a hF => ?_
    refine zn hF rfl rfl fun a hF => ?_
    refine zn hF rfl rfl fun a hF => ?_
    refine zn hF rfl rfl fun a hF => ?_
    refine zn hF rfl rfl fun a hF => ?_
    refine zn hF rfl rfl fun a hF => ?_
    refine zl hF rfl (r_pickf hF rfl rfl rfl rfl) fun a hF => ?_
    refine c_n ?_
    refine c_no hF rfl rfl ?_
    refine wp_skip ?_
    refine t6.norm ?_
    refine k5 ?_
    first
      | exact ⟨_, by simpa using hsz, set_let htk h13 hyes, hF.keep [1, 5, 6] rfl, by simpa using hH⟩
      | exact ⟨cur, hsz, by rw [← let_next h13 (letAt_no (by omega))]; exact htk, hF.keep [1, 5, 6] rfl, hH⟩
   have g6_9' := g6_9; try simp only [qq] at g6_9'
   refine zy hF rfl g6_9 (r_move hF rfl rfl) fun a hF => ?_
   refine zy hF rfl g6_9 (zr hF rfl rfl (b_len _ _ _ 90)) fun a hF => ?_
   refine zy hF rfl g6_6 (r_pickt hF rfl rfl g6_9 rfl) fun a hF => ?_
   refine zl hF rfl (r_pickf hF rfl rfl g6_6 rfl) fun a hF => ?_
   refine zm 1 hF rfl fun a hF => ?_
   refine l_ask (d := 34) hF rfl (fun g6_14 => ?_) (fun g6_14 => ?_)
   ·
    have g6_14' := g6_14; try simp only [qq] at g6_14'
    refine zn hF rfl g6_14 fun a hF => ?_
    refine zn hF rfl g6_14 fun a hF => ?_
    refine zn hF rfl g6_14 fun a hF => ?_
    refine zn hF rfl g6_14 fun a hF => ?_
    refine zn hF rfl g6_14 fun a hF => ?_
    refine zn hF rfl g6_14 fun a hF => ?_
    refine zl hF rfl (r_pickf hF rfl rfl g6_14 rfl) fun a hF => ?_
    refine c_n ?_
    refine c_no hF rfl rfl ?_
    refine wp_skip ?_
    refine t6.norm ?_
    refine k5 ?_
    first
      | exact ⟨_, by simpa using hsz, set_let htk h13 hyes, hF.keep [1, 5, 6] rfl, by simpa using hH⟩
      | exact ⟨cur, hsz, by rw [← let_next h13 (letAt_no (by omega))]; exact htk, hF.keep [1, 5, 6] rfl, hH⟩
   have g6_14' := g6_14; try simp only [qq] at g6_14'
   refine zy hF rfl g6_14 (r_move hF rfl rfl) fun a hF => ?_
   refine zy hF rfl g6_14 (r_convin hF rfl rfl (by rw [Tryz.underlying5]; rfl) Tryz.underlying3 (-9223372036854775808) 9223372036854775807 mn_i64 mx_i64 (by omega)) fun a hF => ?_
   refine zy hF rfl g6_14 (r_move hF rfl rfl) fun a hF => ?_
   refine zy hF rfl g6_14 (zr hF rfl rfl (b_addn _ _ _ (by omega))) fun a hF => ?_
   refine zy hF rfl g6_14 (zr hF rfl rfl (b_remk _ _ 2 (by decide))) fun a hF => ?_
   refine zy hF rfl g6_14 (zr hF rfl rfl (b_eqn _ _ _ 0)) fun a hF => ?_
   refine zl hF rfl (r_pickt hF rfl rfl g6_14 rfl) fun a hF => ?_
   refine c_n ?_
   refine c_fi hF rfl (fun h41 => ?_) (fun h41 => ?_)
   ·
    try simp only [qq] at h41
    refine wp_skip ?_
    refine t6.norm ?_
    refine k5 ?_
    first
      | exact ⟨_, by simpa using hsz, set_let htk h13 hyes, hF.keep [1, 5, 6] rfl, by simpa using hH⟩
      | exact ⟨cur, hsz, by rw [← let_next h13 (letAt_no (by omega))]; exact htk, hF.keep [1, 5, 6] rfl, hH⟩
   try simp only [qq] at h41
   refine c_reg fun ops => ?_
   refine zm 3 hF rfl fun a hF => ?_
   refine zb hF rfl rfl rfl (b_xor32 _ (l.getD i 0)) fun a hF => ?_
   refine zl hF rfl (r_ix1 hF _ rfl rfl rfl Tryz.underlying88 ti5 (by omega)) fun a hF => ?_
   refine ls_store 0 hF hH rfl rfl rfl rfl rfl fl5 ti5 rfl (by simp; omega) (by simp [noFreeze]; omega) (rfl) ?_
   intro w hH
   refine wpList_nil ?_
   have hyes := letAt_yes (k := k + i) (c := l.getD i 0) (by omega) (by omega)
   refine t6.norm ?_
   refine k5 ?_
   first
     | exact ⟨_, by simpa using hsz, set_let htk h13 hyes, hF.keep [1, 5, 6] rfl, by simpa using hH⟩
     | exact ⟨cur, hsz, by rw [← let_next h13 (letAt_no (by omega))]; exact htk, hF.keep [1, 5, 6] rfl, hH⟩
  clear hH hF
  rintro a w ⟨cur2, hsz2, htk2, hF, hH⟩
  refine c_reg fun ops => ?_
  refine zm 1 hF rfl fun a hF => ?_
  refine zb hF rfl rfl rfl (b_addn _ _ 1 (by omega)) fun a hF => ?_
  refine zm 1 hF rfl fun a hF => ?_
  refine wpList_nil ?_
  refine k3 ?_
  exact ⟨l.length - (i + 1), by omega, i + 1, cur2, rfl, h13, hsz2, htk2, hF.keep [1, 5, 6] rfl, hH⟩

/-! ### Turned records -/
def turnZ (l : List Rec) (m a : Nat) : List Rec := if l = [] then [] else turnN l (m % l.length) a
theorem turnZ_group (l : List Rec) (m a : Nat) : groupN (turnZ l m a) = groupN l := by
  unfold turnZ
  split
  · rename_i h; rw [h]
  · exact group_turn l _ a
/-- The row before the letters are turned. -/
def rowT (l : List Rec) (k : Nat) : List Rec := l.drop k ++ l.take k ++ (l[k]?).toList
theorem rowT_len {l : List Rec} {k : Nat} (h : k < l.length) : (rowT l k).length = l.length + 1 := by
  unfold rowT
  rw [List.getElem?_eq_getElem h]
  simp; omega
theorem rowT_mem {l : List Rec} {k : Nat} {r : Rec} (h : r ∈ rowT l k) : r ∈ l := by
  unfold rowT at h
  rcases List.mem_append.1 h with h | h
  · rcases List.mem_append.1 h with h | h
    · exact List.mem_of_mem_drop h
    · exact List.mem_of_mem_take h
  · cases hk : l[k]? with
    | none => rw [hk] at h; cases h
    | some x =>
      rw [hk] at h
      rw [show r = x by simpa using h]; exact List.mem_of_getElem? hk
theorem recsV_drop (l : List Rec) (k : Nat) : (recsV l).drop (k * 5) = recsV (l.drop k) := by
  have h1 := recsV_take l k
  have h2 : recsV l = recsV (l.take k) ++ recsV (l.drop k) := by rw [← recsV_append, List.take_append_drop]
  have h3 : (recsV (l.take k)).length = (l.take k).length * 5 := recsV_length _
  rcases Nat.lt_or_ge k l.length with h | h
  · have : (recsV (l.take k)).length = k * 5 := by rw [h3, List.length_take, Nat.min_eq_left (by omega)]
    rw [h2, ← this, List.drop_left]
  · rw [List.drop_eq_nil_of_le (by rw [recsV_length]; exact Nat.mul_le_mul_right 5 h), List.drop_eq_nil_of_le h]; rfl
theorem recsV_name : ∀ (l : List Rec) (k : Nat) (n : Bs) (h : k < l.length), (recsV l).set (k * 5 + 0) (.string (mk n)) = recsV (l.set k ⟨n, l[k].kind, l[k].cls, l[k].ttl, l[k].data⟩)
  | r :: l, 0, n, _ => rfl
  | r :: l, k + 1, n, h => by
    have h1 : recsV (r :: l) = recV r ++ recsV l := rfl
    have h2 := recsV_name l k n (Nat.lt_of_succ_lt_succ h)
    rw [h1, show (k + 1) * 5 + 0 = (recV r).length + (k * 5 + 0) by simp [recV]; omega, List.set_append_right _ _ (by omega), Nat.add_sub_cancel_left, h2]
    rfl
theorem turned_spec (l : List Rec) (v : Value) (z : Int) (m k : Nat) (hz : IntKind.u64.wrap z = (m : Int)) (hk : k < 256) (w0 : World) (hR : RSl w0 5 v l.length (recsV l)) (hl : RecsS l) :
    Rets Tryz.prog 41 [v, .int .i64 z, .int .u8 (k : Nat)] w0 fun r w' => ∃ B, Hp w0 w' B ∧ Sl 38 5 B r (turnZ l m k).length (recsV (turnZ l m k)) := by
  have hH := Hp.refl w0
  have hll := hl.len
  obtain ⟨ad, cap, rfl⟩ := hR.shape
  refine rets_start Tryz.func41 rfl Tryz.ntmps41 rfl fun a Q0 hF hret hend => ?_
  simp only [argsFrom, Nat.zero_add, Nat.reduceAdd] at hF
  refine c_sr fun ops => ?_
  refine zm 1 hF rfl fun a hF => ?_
  refine c_n ?_
  replace hF := hF.sel [0, 1, 2]
  simp only [ss, Nat.reduceBEq] at hF
  refine c_seq fun Q1 k1 t1 => ?_
  refine c_sr fun ops => ?_
  refine zm 1 hF rfl fun a hF => ?_
  refine zl hF rfl (r_len_sl hF rfl rfl Tryz.underlying34) fun a hF => ?_
  refine zb hF rfl rfl rfl (b_eqn _ _ _ 0) fun a hF => ?_
  refine c_n ?_
  replace hF := hF.sel [0, 1, 2, 12]
  simp only [ss, Nat.reduceBEq] at hF
  refine c_if hF rfl (fun h12 => ?_) (fun h12 => ?_)
  ·
   try simp only [qq] at h12
   have hn : l = [] := List.eq_nil_of_length_eq_zero h12
   have hz0 : turnZ l m k = [] := by unfold turnZ; rw [if_pos hn]
   refine c_sr fun ops => ?_
   refine zm 1 hF rfl fun a hF => ?_
   refine c_n ?_
   replace hF := hF.sel [6]
   simp only [ss, Nat.reduceBEq] at hF
   refine wp_ret (t1.ret (hret (ret1 hF Tryz.results41 rfl ?_)))
   rw [hz0]; exact ⟨[], hH, Sl.nil _ _⟩
  try simp only [qq] at h12
  have hl0 : 0 < l.length := by omega
  obtain ⟨b, off, rfl, -, -⟩ := hR.rec (i := 0) hl0
  have hk0 : m % l.length < l.length := Nat.mod_lt _ hl0
  refine wp_skip ?_
  refine k1 ?_
  refine c_sr fun ops => ?_
  refine zm 1 hF rfl fun a hF => ?_
  refine zl hF rfl (r_convw hF rfl rfl Tryz.underlying3 Tryz.underlying78 hz) fun a hF => ?_
  refine zm 1 hF rfl fun a hF => ?_
  refine zl hF rfl (r_len_sl hF rfl rfl Tryz.underlying34) fun a hF => ?_
  refine zl hF rfl (r_convin hF rfl rfl (by rw [Tryz.underlying3]; rfl) Tryz.underlying78 (0) 18446744073709551615 mn_u64 mx_u64 (by omega)) fun a hF => ?_
  refine zb hF rfl rfl rfl (b_remn _ _ m l.length (by omega)) fun a hF => ?_
  refine zl hF rfl (r_convin hF rfl rfl (by rw [Tryz.underlying78]; rfl) Tryz.underlying3 (-9223372036854775808) 9223372036854775807 mn_i64 mx_i64 (by omega)) fun a hF => ?_
  refine zm 1 hF rfl fun a hF => ?_
  refine c_n ?_
  replace hF := hF.sel [0, 2, 7]
  simp only [ss, Nat.reduceBEq] at hF
  have hz1 : turnZ l m k = turnN l (m % l.length) k := by unfold turnZ; rw [if_neg (fun e => by rw [e] at hl0; simp at hl0)]
  generalize m % l.length = j at *
  have hcl := hR.room.2
  refine c_seq fun Q2 k2 t2 => ?_
  have hHR := hH
  refine c_flow [1, 2, 3, 5, 6, 7] [0, 4] [8] [9] (by kernel_rfl) (by kernel_rfl) fun hB => ?_
  refine ps hF rfl rfl rfl rfl (fun w => r_move hF rfl rfl) fun a hF => ?_
  refine ps hF rfl rfl rfl rfl (fun w => r_move hF rfl rfl) fun a hF => ?_
  refine ps hF rfl rfl rfl rfl (fun w => r_slice_sl hF _ _ rfl rfl Tryz.underlying34 ti38 ⟨_, rfl⟩ rfl (⟨by omega, by omega⟩)) fun a hF => ?_
  refine ps hF rfl rfl rfl rfl (fun w => r_move hF rfl rfl) fun a hF => ?_
  refine ps hF rfl rfl rfl rfl (fun w => r_move hF rfl rfl) fun a hF => ?_
  refine ps hF rfl rfl rfl rfl (fun w => r_slice_sl hF 0 _ rfl rfl Tryz.underlying34 ti38 rfl ⟨_, rfl⟩ (⟨by omega, by omega⟩)) fun a hF => ?_
  refine fl_start [20, 24] hB (by kernel_rfl) hF ?_
  simp only [wo, hasN, Nat.reduceBEq, cond_true, cond_false] at hF ⊢
  refine fs (fun v w' => ∃ g0, v = .slice (some ⟨g0, 0, none⟩) 0 0 ∧ Hp w0 w' [(g0, .cells #[] 38 (0, 0))]) rfl (fun _ _ _ he h => let ⟨g, h1, h2⟩ := h; ⟨g, h1, h2.ext he⟩) ?_ ?_
  ·
   intro a w Lr hE hC hl
   replace hH := hH.ext hE
   have hF := hC.fr
   refine ls_buildN (us := []) hF (Hp.refl w) rfl rfl rfl rfl rfl rfl Tryz.underlying34 ti38 (fun _ h => (List.not_mem_nil h).elim) (by decide) ?_
   intro a' w' g hH' hE' hF'
   exact wpList_nil (fl_end hC hF' hE' (by exact ⟨_, rfl, Hp.base hE hH'⟩))
  refine fs (fun v w' => ∃ B, Hp w0 w' B ∧ Sl 38 5 B v (l.length - j) (recsV (l.drop j))) rfl (fun _ _ _ he h => let ⟨B, h1, h2⟩ := h; ⟨B, h1.ext he, h2⟩) ?_ ?_
  ·
   intro a w Lr hE hC hl
   replace hH := hH.ext hE
   obtain ⟨v20, s20, p20⟩ := hl 20 (by decide) _ rfl
   replace hC := hC.more s20
   obtain ⟨g0, rfl, q20⟩ := p20
   have hsub := sub_rsl (hR.ext hH.below) (l := j) (h := l.length) (by omega) (Nat.le_refl _)
   rw [recsV_drop, List.take_of_length_le (by rw [recsV_length, List.length_drop]; omega)] at hsub
   have hF := hC.fr
   refine ls_appende hF rfl rfl rfl rfl rfl rfl Tryz.underlying34 ti38 q20 hsub (by decide) (by omega) ?_
   intro a' v' w' B' hE' hB' hS' hF'
   exact wpList_nil (fl_end hC hF' hE' ⟨B', hB', hS'⟩)
  intro a w hE hF hall
  replace hH := hH.ext hE
  obtain ⟨v24, s24, p24⟩ := hall 24 _ rfl
  replace hF := hF.more s24
  clear hall
  obtain ⟨B, hB, hSB⟩ := p24
  replace hH := hHR.join hB
  have hsub := sub_rsl (hR.ext hH.below) (Nat.zero_le j) (by omega)
  rw [Nat.zero_mul, List.drop_zero, Nat.sub_zero, recsV_take] at hsub
  refine ls_append hF hH rfl rfl rfl rfl rfl rfl Tryz.underlying34 ti38 hSB hsub (recs_one _) (by decide) (by omega) ?_
  intro a v4_8 w B4_8 hH hSB hF
  refine wpList_nil ?_
  refine ps hF rfl rfl rfl rfl (fun w => r_assign hF rfl rfl) fun a hF => ?_
  replace hF := hF.sel [0, 2, 7, 8]
  simp only [ss, Nat.reduceBEq] at hF
  rw [← recsV_append] at hSB
  obtain ⟨b', off', e', -, hrec⟩ := hR.rec hk0
  cases e'
  refine k2 ?_
  refine c_sr fun ops => ?_
  refine zm 3 hF rfl fun a hF => ?_
  refine zl hF rfl (r_indexaddr hF _ rfl rfl rfl Tryz.underlying34 ti38 (by omega)) fun a hF => ?_
  refine zl hF rfl (r_loadagg hF rfl rfl Tryz.underlying38 ti38 rfl (fun i u hu => hH.cell (hrec i u hu))) fun a hF => ?_
  refine ls_build1 hF hH rfl rfl rfl rfl rfl Tryz.underlying34 ti38 rfl (by decide) ?_
  intro a w g5_5 hH hE hF
  simp only [cells_agg] at hH
  have hR := rsl_lit (n := 1) (size := 5) hH rfl (by decide)
  replace hH := hH.drop
  refine ls_append hF hH rfl rfl rfl rfl rfl rfl Tryz.underlying34 ti38 hSB hR (rec_one _) (by decide) (by omega) ?_
  intro a v5_6 w B5_6 hH hSB hF
  refine zm 1 hF rfl fun a hF => ?_
  refine c_n ?_
  replace hF := hF.sel [2, 8]
  simp only [ss, Nat.reduceBEq] at hF
  have e5 : recsV (l.drop j ++ l.take j) ++ recV l[j] = recsV (rowT l j) := by
    rw [recsV_snoc]; unfold rowT; rw [List.getElem?_eq_getElem hk0]; rfl
  rw [e5, show l.length - j + j + 1 = (rowT l j).length by rw [rowT_len hk0]; omega] at hSB
  rw [List.append_nil] at hH
  obtain ⟨g, cp, cur, rfl, rfl, hcp, hcm, hcs, hct⟩ := hSB.open (by rw [rowT_len hk0]; omega)
  have hTm : ∀ r ∈ rowT l j, r ∈ l := fun r hr => rowT_mem hr
  have hTl : (rowT l j).length ≤ 4000 := by rw [rowT_len hk0]; omega
  replace hz1 : turnZ l m k = (rowT l j).map (letR k) := hz1
  generalize rowT l j = T at *
  refine c_seq fun Q3 k3 t3 => ?_
  refine c_sr fun ops => ?_
  refine zm 1 hF rfl fun a hF => ?_
  refine c_n ?_
  replace hF := hF.sel [2, 8, 9]
  simp only [ss, Nat.reduceBEq] at hF
  refine c_block fun Q4 t4 => ?_
  refine c_loop (fun n a w => ∃ i cur, n = T.length - i ∧ i ≤ T.length ∧ cur.size = cp * 5 ∧ cur.toList.take (T.length * 5) = recsV ((T.take i).map (letR k) ++ T.drop i) ∧ Fr 54 [(2, .int .u8 (k : Nat)), (8, .slice (some ⟨g, 0, none⟩) T.length cp), (9, .int .i64 (i : Nat))] a ∧ Hp w0 w [(g, .cells cur 38 (0, 0))]) ?_ ?_
  ·
   exact ⟨_, 0, cur, rfl, Nat.zero_le _, hcs, by simpa using hct, hF.keep [2, 8, 9] rfl, hH⟩
  clear hH hF hSB hct hcs
  intro n a w hI Q5 k5 t5
  obtain ⟨i, cur, hm, hi, hcs, hct, hF, hH⟩ := hI
  refine c_seq fun Q6 k6 t6 => ?_
  refine c_sr fun ops => ?_
  refine zm 2 hF rfl fun a hF => ?_
  refine zl hF rfl (r_len_sl hF rfl rfl Tryz.underlying34) fun a hF => ?_
  refine zb hF rfl rfl rfl (b_ltn _ _ _ _) fun a hF => ?_
  refine c_n ?_
  refine c_fi hF rfl (fun h39 => ?_) (fun h39 => ?_)
  ·
   try simp only [qq] at h39
   obtain rfl : i = T.length := by omega
   rw [List.take_of_length_le (Nat.le_refl _), List.drop_eq_nil_of_le (Nat.le_refl _), List.append_nil] at hct
   refine wp_exit (t6.exit (t5.exit (t4.here (?_))))
   refine k3 ?_
   refine c_sr fun ops => ?_
   refine zm 2 hF rfl fun a hF => ?_
   refine c_n ?_
   replace hF := hF.sel [6]
   simp only [ss, Nat.reduceBEq] at hF
   refine wp_ret (hret (ret1 hF Tryz.results41 rfl ?_))
   rw [hz1, List.length_map]
   exact ⟨_, hH, by rw [recsV_length, List.length_map], .inr ⟨g, cp, cur, rfl, rfl, hcp, hcm, hcs, hct⟩⟩
  try simp only [qq] at h39
  have hml : ((T.take i).map (letR k) ++ T.drop i).length = T.length := by simp; omega
  have hXi : i < ((T.take i).map (letR k) ++ T.drop i).length := by omega
  have hgx := mid_getF (letR k) h39 hXi
  have hnl := (hl.each _ (hTm _ (List.getElem_mem h39))).1
  refine wp_skip ?_
  refine k6 ?_
  refine c_seq fun Q7 k7 t7 => ?_
  refine c_block fun Q8 t8 => ?_
  refine c_reg fun ops => ?_
  refine zm 4 hF rfl fun a hF => ?_
  refine zl hF rfl (r_ixown hF _ rfl rfl rfl Tryz.underlying34 ti38 (by omega)) fun a hF => ?_
  refine zl hF rfl (r_fieldaddr hF rfl rfl fd38_0) fun a hF => ?_
  refine zl hF rfl (r_load hF rfl rfl fl9 (own_cell (i := 0) hH rfl (take_get hct (recsV_get hXi 0 (.string (mk T[i].name)) (by rw [hgx]; rfl))))) fun a hF => ?_
  refine zm 1 hF rfl fun a hF => ?_
  refine zc hF rfl rfl fn42 (lettered_spec T[i].name k hk (by omega) _) ?_
  rintro _ w ⟨rfl, hE⟩ a hF
  replace hH := hH.ext hE
  refine zl hF rfl (r_ixown hF _ rfl rfl rfl Tryz.underlying34 ti38 (by omega)) fun a hF => ?_
  refine zl hF rfl (r_fieldaddr hF rfl rfl fd38_0) fun a hF => ?_
  refine ls_store 0 hF hH rfl rfl rfl rfl rfl fl9 ti9 rfl (by omega) (by simp [noFreeze]) (rfl) ?_
  intro w hH
  simp only [List.set_cons_zero] at hH
  refine wpList_nil ?_
  refine t8.norm ?_
  refine k7 ?_
  refine c_reg fun ops => ?_
  refine zm 1 hF rfl fun a hF => ?_
  refine zb hF rfl rfl rfl (b_addn _ _ 1 (by omega)) fun a hF => ?_
  refine zm 1 hF rfl fun a hF => ?_
  refine wpList_nil ?_
  refine k5 ?_
  refine ⟨T.length - (i + 1), by omega, i + 1, _, rfl, h39, by simpa using hcs, ?_, hF.keep [2, 8, 9] rfl, hH⟩
  rw [Array.toList_setIfInBounds, List.take_set, hct, recsV_name _ _ _ hXi, hgx]
  show recsV (((T.take i).map (letR k) ++ T.drop i).set i (letR k T[i])) = _
  rw [mid_set (letR k) h39]

/-! ### The law -/
theorem verdOfO {q : Que} {m : Msg} {qv av uv xv ov : Value} {w0 : World} {x : Nat × Verd × Nat} (hx : verdN q.name q.kind q.cls m.hd.code m.ans m.auth = x) (hav : RSl w0 5 av m.ans.length (recsV m.ans)) (huv : RSl w0 5 uv m.auth.length (recsV m.auth)) (hba : RecsB m.ans) (hbu : RecsB m.auth) (hn : q.name.length < 1000000) (hG : GW w0) :
    Rets Tryz.prog 40 [.agg (quV q).toArray, .agg (msgV m qv av uv xv ov).toArray] w0 fun r w' => ∃ sv tv, r = .tuple #[.agg (verdV x.2.1 sv tv).toArray, .int .u32 (x.2.2 : Nat), .int .i64 (x.1 : Nat)] ∧ VerdO w0 w' x.2.1 sv tv :=
  (verdOf_spec q m qv av uv xv ov w0 hav huv hba hbu hn hG).mono fun r w' ⟨sv, tv, e, h⟩ => ⟨sv, tv, by rw [e, hx], by rw [hx] at h; exact h⟩
/-- A verdict of one's own, among other things of one's own. -/
def VerdB (x : Verd) (sv ov : Value) (BV : List (Nat × Obj)) : Prop := ∃ B1 es1 B2 es2, BV = (B1 ++ entB es1) ++ (B2 ++ entB es2) ∧ Sl 27 5 B1 sv es1.length (entV es1) ∧ EntOk es1 ∧ es1.map (·.1) = x.sets ∧ Sl 27 5 B2 ov es2.length (entV es2) ∧ EntOk es2 ∧ es2.map (·.1) = x.soa
theorem VerdO.open {w0 w : World} {x : Verd} {sv ov : Value} (h : VerdO w0 w x sv ov) : ∃ BV, Hp w0 w BV ∧ VerdB x sv ov BV := by
  obtain ⟨B1, es1, B2, es2, hH, h⟩ := h
  exact ⟨_, hH, B1, es1, B2, es2, rfl, h⟩
theorem VerdB.read {w0 w : World} {x : Verd} {sv ov : Value} {BV H : List (Nat × Obj)} (h : VerdB x sv ov BV) (hH : Hp w0 w H) (hm : ∀ p ∈ BV, p ∈ H) : VerdR w x sv ov := by
  obtain ⟨B1, es1, B2, es2, rfl, hS1, hK1, h1, hS2, hK2, h2⟩ := h
  refine ⟨?_, ?_⟩
  · rw [← h1]; exact sets_read hH hS1 hK1 (fun p hp => hm p (List.mem_append_left _ (List.mem_append_left _ hp))) (fun p hp => hm p (List.mem_append_left _ (List.mem_append_right _ hp)))
  · rw [← h2]; exact sets_read hH hS2 hK2 (fun p hp => hm p (List.mem_append_right _ (List.mem_append_left _ hp))) (fun p hp => hm p (List.mem_append_right _ (List.mem_append_right _ hp)))
theorem VerdB.shape {x : Verd} {sv ov : Value} {BV : List (Nat × Obj)} (h : VerdB x sv ov BV) : (∃ ad cap, sv = .slice ad x.sets.length cap) ∧ ∃ ad cap, ov = .slice ad x.soa.length cap := by
  obtain ⟨B1, es1, B2, es2, rfl, hS1, hK1, h1, hS2, hK2, h2⟩ := h
  rw [← h1, ← h2, List.length_map, List.length_map]
  exact ⟨hS1.shape, hS2.shape⟩
theorem verdM_any {nm : Bs} {kind cls code : Nat} {ans auth : List Rec} {V : Nat × Verd × Nat} (h : verdN nm kind cls code ans auth = V) (h1 : RecsS ans) (h2 : RecsS auth) : VerdM V.2.1 := by
  by_cases h0 : V.1 = 0
  · exact (verdOk_zero h h0 h1 h2).verdM
  · have h3 : V.2 = (noVerd, 0) := by subst h; exact verdG_err h0
    rw [h3]
    exact ⟨by decide, by decide, fun _ h => (List.not_mem_nil h).elim, fun _ h => (List.not_mem_nil h).elim⟩
theorem turnN_b {l : List Rec} (h : RecsS l) (m k : Nat) : RecsB (turnZ l m k) := by
  unfold turnZ
  split
  · exact recsB_none
  · rename_i hn
    have hl : 0 < l.length := List.length_pos_iff.2 hn
    have hk : m % l.length < l.length := Nat.mod_lt _ hl
    have hll := h.len
    refine ⟨?_, fun r hr => ?_⟩
    · show ((rowT l (m % l.length)).map (letR k)).length < 1000000
      rw [List.length_map, rowT_len hk]; omega
    · obtain ⟨x, hx, rfl⟩ := List.mem_map.1 (show r ∈ (rowT l (m % l.length)).map (letR k) from hr)
      have := h.each x (rowT_mem hx)
      refine ⟨by show (letF k x.name).length < 1000000; rw [letF_len]; omega, by show x.data.length < 1000000; omega⟩
theorem verd_zero {g g' h h' : List RSet} (hg : g.map zeroT = g'.map zeroT) (hh : h.map zeroT = h'.map zeroT) (nm : Bs) (kind cls code : Nat) : (verdG g h nm kind cls code).1 = (verdG g' h' nm kind cls code).1 ∧ (verdG g h nm kind cls code).2.1 = (verdG g' h' nm kind cls code).2.1 := by
  have h1 := verdG_ttl ttl_zero ttl_zero g h nm kind cls code
  have h2 := verdG_ttl ttl_zero ttl_zero g' h' nm kind cls code
  rw [hg, hh] at h1
  exact ⟨h1.1.symm.trans h2.1, h1.2.symm.trans h2.2⟩
theorem verdN_let {q : Que} {m : Msg} {V : Nat × Verd × Nat} (h : verdN q.name q.kind q.cls m.hd.code m.ans m.auth = V) (mb k : Nat) : verdN (letF k q.name) q.kind q.cls m.hd.code (turnZ m.ans mb k) (turnZ m.auth mb k) = V := by
  unfold verdN at h ⊢
  rw [turnZ_group, turnZ_group, verdG_let]; exact h
theorem verdN_all {q : Que} {m : Msg} {V : Nat × Verd × Nat} (h : verdN q.name q.kind q.cls m.hd.code m.ans m.auth = V) (mb k t : Nat) :
    (verdN (letF k q.name) q.kind q.cls m.hd.code ((turnZ m.ans mb k).map fun r => reTtl r t) (turnZ m.auth mb k)).1 = V.1 ∧ (verdN (letF k q.name) q.kind q.cls m.hd.code ((turnZ m.ans mb k).map fun r => reTtl r t) (turnZ m.auth mb k)).2.1 = V.2.1 := by
  unfold verdN at h ⊢
  rw [verdG_let, turnZ_group]
  have := verd_zero (g := groupN ((turnZ m.ans mb k).map fun r => reTtl r t)) (g' := groupN m.ans) (h := groupN m.auth) (h' := groupN m.auth) (by rw [group_all, turnZ_group]) rfl q.name q.kind q.cls m.hd.code
  rw [h] at this; exact this
theorem recsV_ttl' : ∀ (l : List Rec) (k : Nat) (t : Nat) (h : k < l.length), (recsV l).set (k * 5 + 3) (.int .u32 (t : Nat)) = recsV (l.set k (reTtl l[k] t))
  | r :: l, 0, t, _ => rfl
  | r :: l, k + 1, t, h => by
    have h1 : recsV (r :: l) = recV r ++ recsV l := rfl
    have h2 := recsV_ttl' l k t (Nat.lt_of_succ_lt_succ h)
    rw [h1, show (k + 1) * 5 + 3 = (recV r).length + (k * 5 + 3) by simp [recV]; omega, List.set_append_right _ _ (by omega), Nat.add_sub_cancel_left, h2]
    rfl
theorem RSl.one' {w : World} {size n : Nat} {v : Value} {xs : List Value} (h : RSl w size v n xs) : v.oneCell' = true := by
  obtain ⟨_, _, e⟩ := h.shape; rw [e]; rfl
theorem msg_one' {w : World} {m : Msg} {qv av uv xv ov : Value} (h : MsgR w m qv av uv xv ov) : ∀ u ∈ msgV m qv av uv xv ov, u.oneCell' = true := by
  intro u hu
  have h1 := h.qs.one'
  have h2 := h.ans.one'
  have h3 := h.auth.one'
  have h4 := h.extra.one'
  have h5 := h.opts.one'
  simp only [msgV, hdV, edV, List.mem_append, List.mem_cons, List.not_mem_nil, or_false] at hu
  rcases hu with (rfl | rfl | rfl | rfl | rfl | rfl | rfl | rfl | rfl | rfl | rfl) | (rfl | rfl | rfl | rfl | rfl) | (rfl | rfl | rfl | rfl | rfl) <;> first | rfl | assumption
theorem pm3 {α : Type} (a b c : α) (B R : List α) : (a :: b :: c :: (B ++ R)).Perm (B ++ a :: b :: c :: R) :=
  (List.perm_middle.trans (.cons a (List.perm_middle.trans (.cons b List.perm_middle)))).symm
theorem pmF {α : Type} (v p n : α) (BV Bu Ba : List α) : (v :: p :: n :: (Ba ++ (Bu ++ BV))).Perm (v :: (BV ++ p :: n :: (Bu ++ Ba))) := by
  classical
  rw [List.perm_iff_count]; intro x; simp only [List.count_append, List.count_cons]; omega
/-- The message as it is turned. -/
def formM (m : Msg) (id : Nat) (an au : List Rec) : Msg := ⟨⟨id, m.hd.qr, m.hd.op, !m.hd.aa, m.hd.tc, !m.hd.rd, m.hd.ra, m.hd.z, m.hd.ad, m.hd.cd, m.hd.code⟩, [], an, au, m.ans, m.has, m.ed⟩
theorem verdictForm_spec (q : Que) (m : Msg) (qv av uv xv ov : Value) (z : Int) (k id t : Nat) (w0 : World) (hk : k < 256) (hm : MsgR w0 m qv av uv xv ov) (hlm : MsgL m) (hG : GW w0) :
    Rets Tryz.prog 10 [.agg (quV q).toArray, .agg (msgV m qv av uv xv ov).toArray, .int .i64 z, .int .u8 (k : Nat), .int .u16 (id : Nat), .int .u32 (t : Nat)] w0 fun r w' => r = .bool true ∧ Ext w0 w' := by
  have hH := Hp.refl w0
  obtain ⟨V, hV⟩ : ∃ V, verdN q.name q.kind q.cls m.hd.code m.ans m.auth = V := ⟨_, rfl⟩
  obtain ⟨mb, hmb, hmb2⟩ := u64_nat z
  obtain ⟨T, hT⟩ : ∃ T, T = turnZ m.ans mb k := ⟨_, rfl⟩
  obtain ⟨U, hU⟩ : ∃ U, U = turnZ m.auth mb k := ⟨_, rfl⟩
  obtain ⟨aad, acp, rfl⟩ := hm.ans.shape
  obtain ⟨uad, ucp, rfl⟩ := hm.auth.shape
  refine rets_start Tryz.func10 rfl Tryz.ntmps10 rfl fun a Q0 hF hret hend => ?_
  simp only [argsFrom, Nat.zero_add, Nat.reduceAdd] at hF
  refine c_sr fun ops => ?_
  refine ls_box hF hH rfl rfl rfl rfl rfl ?_
  intro a w g0_0 hH hE hF
  refine ls_box hF hH rfl rfl rfl rfl rfl ?_
  intro a w g0_1 hH hE hF
  refine zm 1 hF rfl fun a hF => ?_
  refine c_n ?_
  replace hF := hF.sel [2, 3, 4, 5, 6, 7]
  simp only [ss, Nat.reduceBEq] at hF
  refine c_seq fun Q1 k1 t1 => ?_
  simp only [cells_agg] at hH
  refine c_sg ?_
  refine zl hF rfl (r_loadagg hF rfl rfl Tryz.underlying49 ti49 rfl (own_agg (i := 1) hH rfl)) fun a hF => ?_
  refine zl hF rfl (r_loadagg hF rfl rfl Tryz.underlying62 ti62 rfl (own_agg (i := 0) hH rfl)) fun a hF => ?_
  refine zc hF rfl rfl fn38 (large_spec q m _ _ _ _ _ _ (hm.ext hH.below) hlm) ?_
  rintro _ w ⟨⟨b, rfl, hsm⟩, hE⟩ a hF
  replace hH := hH.ext hE
  refine zm 1 hF rfl fun a hF => ?_
  refine ls_ask (d := 25) hF rfl (fun g1_3 => ?_) (fun g1_3 => ?_)
  ·
   have g1_3' := g1_3; try simp only [qq] at g1_3'
   refine zn hF rfl g1_3 fun a hF => ?_
   refine zn hF rfl g1_3 fun a hF => ?_
   refine zl hF rfl (r_pickt hF rfl rfl g1_3 rfl) fun a hF => ?_
   refine c_n ?_
   replace hF := hF.sel [2, 3, 4, 5, 6, 7, 28]
   simp only [ss, Nat.reduceBEq] at hF
   refine c_yes hF rfl rfl ?_
   refine c_sr fun ops => ?_
   refine zc hF rfl rfl fn39 (awake11_spec _ (hG.ext hH.below)) ?_
   rintro _ w ⟨rfl, hE⟩ a hF
   replace hH := hH.ext hE
   refine zm 1 hF rfl fun a hF => ?_
   refine c_n ?_
   replace hF := hF.sel [12]
   simp only [ss, Nat.reduceBEq] at hF
   refine wp_ret (t1.ret (hret (ret1 hF Tryz.results10 rfl ?_)))
   exact ⟨rfl, hH.below⟩
  have g1_3' := g1_3; try simp only [qq] at g1_3'
  refine zyc hF rfl g1_3 rfl fn39 (awake11_spec _ (hG.ext hH.below)) ?_
  rintro _ w ⟨rfl, hE⟩ a hF
  replace hH := hH.ext hE
  refine zy hF rfl g1_3 (r_not hF rfl rfl) fun a hF => ?_
  refine zl hF rfl (r_pickf hF rfl rfl g1_3 rfl) fun a hF => ?_
  refine c_n ?_
  replace hF := hF.sel [2, 3, 4, 5, 6, 7, 28]
  simp only [ss, Nat.reduceBEq] at hF
  refine c_if hF rfl (fun h28 => ?_) (fun h28 => ?_)
  ·
   try simp only [qq] at h28
   refine c_sr fun ops => ?_
   refine zc hF rfl rfl fn39 (awake11_spec _ (hG.ext hH.below)) ?_
   rintro _ w ⟨rfl, hE⟩ a hF
   replace hH := hH.ext hE
   refine zm 1 hF rfl fun a hF => ?_
   refine c_n ?_
   replace hF := hF.sel [12]
   simp only [ss, Nat.reduceBEq] at hF
   refine wp_ret (t1.ret (hret (ret1 hF Tryz.results10 rfl ?_)))
   exact ⟨rfl, hH.below⟩
  try simp only [qq] at h28
  have hS := hsm g1_3'
  have hq1 := hS.name
  have hal := hS.ans.len
  have hVM := verdM_any hV hS.ans hS.auth
  have hx1 := hm.opts.one'
  have hx2 := hm.qs.one'
  have hx3 := hm.extra.one'
  refine wp_skip ?_
  refine k1 ?_
  refine c_sr fun ops => ?_
  refine zl hF rfl (r_loadagg hF rfl rfl Tryz.underlying49 ti49 rfl (own_agg (i := 1) hH rfl)) fun a hF => ?_
  refine zl hF rfl (r_loadagg hF rfl rfl Tryz.underlying62 ti62 rfl (own_agg (i := 0) hH rfl)) fun a hF => ?_
  refine zc hF rfl rfl fn40 (verdOfX hV (hm.ans.ext hH.below) (hm.auth.ext hH.below) hS.ans.b hS.auth.b (by omega) (hG.ext hH.below)) ?_
  rintro _ w ⟨sv1, tv1, rfl, hV1, hE⟩ a hF
  replace hH := hH.ext hE
  obtain ⟨a1, c1, rfl⟩ := hV1.sets.shapeK
  obtain ⟨a2, c2, rfl⟩ := hV1.soa.shapeK
  have fq := own_agg (i := 1) hH rfl
  have fm := own_agg (i := 0) hH rfl
  have hE0 := hH.below
  obtain ⟨w3, hw3⟩ : ∃ w3, w3 = w := ⟨w, rfl⟩
  rw [← hw3] at fq
  rw [← hw3] at fm
  rw [← hw3] at hV1
  rw [← hw3] at hE0
  replace hH : Hp w3 w [] := by rw [hw3]; exact Hp.refl _
  clear hw3
  refine zm 4 hF rfl fun a hF => ?_
  refine ls_alloc hF hH rfl rfl rfl rfl zv65 ?_
  intro a w g3_7 hH hE hF
  refine ls_storeagg 0 hF hH rfl rfl rfl rfl rfl ti65 rfl (rfl) (rfl) (own_verd rfl rfl) ?_
  intro w hH
  simp only [List.set_cons_zero] at hH
  have fv := own_agg (i := 0) hH rfl
  replace fq := fun j u hu => hH.cell (fq j u hu)
  replace fm := fun j u hu => hH.cell (fm j u hu)
  replace hV1 := hV1.ext hH.below
  replace hE0 := hE0.trans hH.below
  obtain ⟨w4, hw4⟩ : ∃ w4, w4 = w := ⟨w, rfl⟩
  rw [← hw4] at fv
  rw [← hw4] at fq
  rw [← hw4] at fm
  rw [← hw4] at hV1
  rw [← hw4] at hE0
  replace hH : Hp w4 w [] := by rw [hw4]; exact Hp.refl _
  clear hw4
  refine zm 2 hF rfl fun a hF => ?_
  refine c_n ?_
  replace hF := hF.sel [2, 3, 4, 5, 6, 7, 13, 14, 15]
  simp only [ss, Nat.reduceBEq] at hF
  refine c_sr fun ops => ?_
  refine zl hF rfl (r_loadagg hF rfl rfl Tryz.underlying62 ti62 rfl (fun j u hu => hH.cell (fm j u hu))) fun a hF => ?_
  refine ls_alloc hF hH rfl rfl rfl rfl zv62 ?_
  intro a w g4_1 hH hE hF
  refine ls_storeagg 0 hF hH rfl rfl rfl rfl rfl ti62 rfl (rfl) (rfl) (msg_one' hm) ?_
  intro w hH
  simp only [List.set_cons_zero] at hH
  refine c_n ?_
  replace hF := hF.sel [2, 3, 4, 5, 6, 7, 13, 14, 15, 16]
  simp only [ss, Nat.reduceBEq] at hF
  refine c_seq fun Q2 k2 t2 => ?_
  refine c_held [(true, 0), (true, 1), (true, 2), (true, 3), (true, 4), (true, 5), (true, 6), (true, 7), (true, 8), (true, 9), (true, 10), (true, 11), (true, 12), (false, 13), (true, 14), (true, 15), (false, 16), (true, 17), (true, 18), (false, 19), (true, 20), (false, 21), (true, 22), (false, 23)] (by kernel_rfl) (by kernel_rfl) hH.below fun w hE => ?_
  replace hH := hH.ext hE
  refine hp hF rfl rfl rfl rfl (fun w hH => r_move hF rfl rfl) fun a hF => ?_
  refine hp hF rfl rfl rfl rfl (fun w hH => r_fieldaddr0 hF rfl rfl fd62_0) fun a hF => ?_
  refine hp hF rfl rfl rfl rfl (fun w hH => r_fieldaddr0 hF rfl rfl fd56_3) fun a hF => ?_
  refine hp hF rfl rfl rfl rfl (fun w hH => r_load hF rfl rfl fl4 (hH.cell (fm 3 _ rfl))) fun a hF => ?_
  refine hp hF rfl rfl rfl rfl (fun w hH => r_not hF rfl rfl) fun a hF => ?_
  refine hp hF rfl rfl rfl rfl (fun w hH => r_fieldaddr0 hF rfl rfl fd62_0) fun a hF => ?_
  refine hp hF rfl rfl rfl rfl (fun w hH => r_fieldaddr0 hF rfl rfl fd56_5) fun a hF => ?_
  refine hp hF rfl rfl rfl rfl (fun w hH => r_load hF rfl rfl fl4 (hH.cell (fm 5 _ rfl))) fun a hF => ?_
  refine hp hF rfl rfl rfl rfl (fun w hH => r_not hF rfl rfl) fun a hF => ?_
  refine hp hF rfl rfl rfl rfl (fun w hH => r_fieldaddr0 hF rfl rfl fd62_2) fun a hF => ?_
  refine hp hF rfl rfl rfl rfl (fun w hH => r_load hF rfl rfl fl34 (hH.cell (fm 12 _ rfl))) fun a hF => ?_
  refine hp hF rfl rfl rfl rfl (fun w hH => r_fieldaddr0 hF rfl rfl fd62_0) fun a hF => ?_
  refine hp hF rfl rfl rfl rfl (fun w hH => r_fieldaddr0 hF rfl rfl fd56_0) fun a hF => ?_
  refine hd ?_
  refine ls_store 0 hF hH rfl rfl rfl rfl rfl fl23 ti23 rfl (by simp [msgV, hdV, edV]) (by simp [noFreeze]) (rfl) ?_
  intro w hH
  refine wpList_nil (hd_end hH.below ?_)
  refine hp hF rfl rfl rfl rfl (fun w hH => r_fieldaddr0 hF rfl rfl fd62_0) fun a hF => ?_
  refine hp hF rfl rfl rfl rfl (fun w hH => r_fieldaddr0 hF rfl rfl fd56_3) fun a hF => ?_
  refine hd ?_
  refine ls_store 0 hF hH rfl rfl rfl rfl rfl fl4 ti4 rfl (by simp [msgV, hdV, edV]) (by simp [noFreeze]) (rfl) ?_
  intro w hH
  refine wpList_nil (hd_end hH.below ?_)
  refine hp hF rfl rfl rfl rfl (fun w hH => r_fieldaddr0 hF rfl rfl fd62_0) fun a hF => ?_
  refine hp hF rfl rfl rfl rfl (fun w hH => r_fieldaddr0 hF rfl rfl fd56_5) fun a hF => ?_
  refine hd ?_
  refine ls_store 0 hF hH rfl rfl rfl rfl rfl fl4 ti4 rfl (by simp [msgV, hdV, edV]) (by simp [noFreeze]) (rfl) ?_
  intro w hH
  refine wpList_nil (hd_end hH.below ?_)
  refine hp hF rfl rfl rfl rfl (fun w hH => r_fieldaddr0 hF rfl rfl fd62_4) fun a hF => ?_
  refine hd ?_
  refine ls_store 0 hF hH rfl rfl rfl rfl rfl fl34 ti34 rfl (by simp [msgV, hdV, edV]) (by simp [noFreeze]) (rfl) ?_
  intro w hH
  refine wpList_nil (hd_end hH.below ?_)
  refine hp hF rfl rfl rfl rfl (fun w hH => r_fieldaddr0 hF rfl rfl fd62_1) fun a hF => ?_
  refine hd ?_
  refine ls_store 0 hF hH rfl rfl rfl rfl rfl fl57 ti57 rfl (by simp [msgV, hdV, edV]) (by simp [noFreeze]) (rfl) ?_
  intro w hH
  refine wpList_nil (hd_end hH.below ?_)
  refine hp_end ?_
  replace hF := hF.sel [2, 3, 5, 6, 7, 13, 14, 15, 16]
  simp only [ss, Nat.reduceBEq] at hF
  replace hH : Hp w4 w [(g4_1, .cells (msgV (formM m id m.ans m.auth) nilV (.slice aad m.ans.length acp) (.slice uad m.auth.length ucp) (.slice aad m.ans.length acp) ov).toArray 62 (0, 0))] := hH
  refine k2 ?_
  refine c_seq fun Q3 k3 t3 => ?_
  refine c_held [(true, 0), (true, 1), (true, 2), (true, 3), (true, 5), (true, 6), (true, 7), (true, 8), (false, 4), (true, 10), (false, 9), (false, 11), (true, 12), (false, 13)] (by kernel_rfl) (by kernel_rfl) hH.below fun w hE => ?_
  replace hH := hH.ext hE
  refine hp hF rfl rfl rfl rfl (fun w hH => r_fieldaddr0 hF rfl rfl fd62_2) fun a hF => ?_
  refine hp hF rfl rfl rfl rfl (fun w hH => r_load hF rfl rfl fl34 (hH.cell (fm 12 _ rfl))) fun a hF => ?_
  refine hp hF rfl rfl rfl rfl (fun w hH => r_move hF rfl rfl) fun a hF => ?_
  refine hp hF rfl rfl rfl rfl (fun w hH => r_move hF rfl rfl) fun a hF => ?_
  refine hp hF rfl rfl rfl rfl (fun w hH => r_fieldaddr0 hF rfl rfl fd62_3) fun a hF => ?_
  refine hp hF rfl rfl rfl rfl (fun w hH => r_load hF rfl rfl fl34 (hH.cell (fm 13 _ rfl))) fun a hF => ?_
  refine hp hF rfl rfl rfl rfl (fun w hH => r_move hF rfl rfl) fun a hF => ?_
  refine hp hF rfl rfl rfl rfl (fun w hH => r_move hF rfl rfl) fun a hF => ?_
  refine hd ?_
  refine zc hF rfl rfl fn41 (turned_spec m.ans _ z mb k hmb hk _ (hm.ans.ext (hE0.trans hH.below)) hS.ans) ?_
  rintro v61 w ⟨Ba, hBa, hSa⟩ a hF
  replace hH := hH.join hBa; rw [← hT] at hSa
  refine wpList_nil (hd_end hH.below ?_)
  refine hp hF rfl rfl rfl rfl (fun w hH => r_fieldaddr0 hF rfl rfl fd62_2) fun a hF => ?_
  refine hd ?_
  refine zc hF rfl rfl fn41 (turned_spec m.auth _ z mb k hmb hk _ (hm.auth.ext (hE0.trans hH.below)) hS.auth) ?_
  rintro v66 w ⟨Bu, hBu, hSu⟩ a hF
  replace hH := hH.join hBu; rw [← hU] at hSu
  refine wpList_nil (hd_end hH.below ?_)
  refine hd ?_
  obtain ⟨aA, cA, rfl⟩ := hSa.shape
  obtain ⟨aU, cU, rfl⟩ := hSu.shape
  rw [← List.append_assoc] at hH
  replace hH := hH.fromB
  rw [List.append_nil] at hH
  refine ls_store 0 hF hH rfl rfl rfl rfl rfl fl34 ti34 rfl (by simp [msgV, hdV, edV]) (by simp [noFreeze]) (rfl) ?_
  intro w hH
  refine wpList_nil (hd_end hH.below ?_)
  refine hp hF rfl rfl rfl rfl (fun w hH => r_fieldaddr0 hF rfl rfl fd62_3) fun a hF => ?_
  refine hd ?_
  refine ls_store 0 hF hH rfl rfl rfl rfl rfl fl34 ti34 rfl (by simp [msgV, hdV, edV]) (by simp [noFreeze]) (rfl) ?_
  intro w hH
  refine wpList_nil (hd_end hH.below ?_)
  refine hp_end ?_
  replace hF := hF.sel [3, 5, 6, 13, 14, 15, 16]
  simp only [ss, Nat.reduceBEq] at hF
  replace hH : Hp w4 w ((g4_1, .cells (msgV (formM m id T U) nilV (.slice aA T.length cA) (.slice aU U.length cU) (.slice aad m.ans.length acp) ov).toArray 62 (0, 0)) :: (Bu ++ Ba)) := hH
  refine k3 ?_
  refine c_sr fun ops => ?_
  refine zl hF rfl (r_loadagg hF rfl rfl Tryz.underlying49 ti49 rfl (fun j u hu => hH.cell (fq j u hu))) fun a hF => ?_
  refine ls_alloc hF hH rfl rfl rfl rfl zv49 ?_
  intro a w g7_1 hH hE hF
  refine ls_storeagg 0 hF hH rfl rfl rfl rfl rfl ti49 rfl (rfl) (rfl) (by simp [quV, Value.oneCell']) ?_
  intro w hH
  simp only [List.set_cons_zero] at hH
  refine c_n ?_
  replace hF := hF.sel [3, 5, 6, 13, 14, 15, 16, 17]
  simp only [ss, Nat.reduceBEq] at hF
  refine c_sr fun ops => ?_
  refine zl hF rfl (r_fieldaddr0 hF rfl rfl fd49_0) fun a hF => ?_
  refine zl hF rfl (r_load hF rfl rfl fl9 (hH.cell (fq 0 _ rfl))) fun a hF => ?_
  refine zm 1 hF rfl fun a hF => ?_
  refine zc hF rfl rfl fn42 (lettered_spec q.name k hk (by omega) _) ?_
  rintro _ w ⟨rfl, hE⟩ a hF
  replace hH := hH.ext hE
  refine zl hF rfl (r_fieldaddr0 hF rfl rfl fd49_0) fun a hF => ?_
  refine ls_store 0 hF hH rfl rfl rfl rfl rfl fl9 ti9 rfl (by simp [quV]) (by simp [noFreeze]) (rfl) ?_
  intro w hH
  refine c_n ?_
  replace hF := hF.sel [5, 13, 14, 15, 16, 17]
  simp only [ss, Nat.reduceBEq] at hF
  replace hH : Hp w4 w ((g7_1, .cells (quV ⟨letF k q.name, q.kind, q.cls⟩).toArray 49 (0, 0)) :: (g4_1, .cells (msgV (formM m id T U) nilV (.slice aA T.length cA) (.slice aU U.length cU) (.slice aad m.ans.length acp) ov).toArray 62 (0, 0)) :: (Bu ++ Ba)) := hH
  refine c_sr fun ops => ?_
  refine zl hF rfl (r_loadagg hF rfl rfl Tryz.underlying49 ti49 rfl (own_agg (i := 0) hH rfl)) fun a hF => ?_
  refine zl hF rfl (r_loadagg hF rfl rfl Tryz.underlying62 ti62 rfl (own_agg (i := 1) hH rfl)) fun a hF => ?_
  refine zc hF rfl rfl fn40 (verdOfO (q := ⟨letF k q.name, q.kind, q.cls⟩) (m := formM m id T U) (x := V) (by rw [hT, hU]; exact verdN_let hV mb k) (hSa.rsl hH fun p hp => List.mem_cons_of_mem _ (List.mem_cons_of_mem _ (List.mem_append_right _ hp))) (hSu.rsl hH fun p hp => List.mem_cons_of_mem _ (List.mem_cons_of_mem _ (List.mem_append_left _ hp))) (by rw [hT]; exact turnN_b hS.ans mb k) (by rw [hU]; exact turnN_b hS.auth mb k) (by show (letF k q.name).length < 1000000; rw [letF_len]; omega) (hG.ext (hE0.trans hH.below))) ?_
  rintro _ w ⟨sv2, tv2, rfl, hO⟩ a hF
  obtain ⟨BV, hBV, hO2⟩ := hO.open
  replace hH := hH.join hBV
  obtain ⟨⟨a3, c3, rfl⟩, a4, c4, rfl⟩ := hO2.shape
  refine zm 4 hF rfl fun a hF => ?_
  refine ls_alloc hF hH rfl rfl rfl rfl zv65 ?_
  intro a w g9_7 hH hE hF
  refine ls_storeagg 0 hF hH rfl rfl rfl rfl rfl ti65 rfl (rfl) (rfl) (own_verd rfl rfl) ?_
  intro w hH
  simp only [List.set_cons_zero] at hH
  refine zm 2 hF rfl fun a hF => ?_
  refine c_n ?_
  replace hF := hF.sel [5, 13, 14, 15, 16, 17, 18, 19, 20]
  simp only [ss, Nat.reduceBEq] at hF
  replace hH := hH.perm (pmF _ _ _ _ _ _)
  have hall := verdN_all hV mb k t
  rw [← hT, ← hU] at hall
  have hTb : RecsB T := by rw [hT]; exact turnN_b hS.ans mb k
  have hUb : RecsB U := by rw [hU]; exact turnN_b hS.auth mb k
  obtain ⟨X, hX⟩ : ∃ X, verdN (letF k q.name) q.kind q.cls m.hd.code (T.map fun r => reTtl r t) U = X := ⟨_, rfl⟩
  rw [hX] at hall
  have hTl := hTb.len
  refine c_seq fun Q4 k4 t4 => ?_
  refine c_sg ?_
  refine zm 2 hF rfl fun a hF => ?_
  refine zb hF rfl rfl rfl (b_nen _ _ _ _) fun a hF => ?_
  refine zm 1 hF rfl fun a hF => ?_
  refine ls_ask (d := 85) hF rfl (fun g10_3 => ?_) (fun g10_3 => ?_)
  ·
   have g10_3' := g10_3; try simp only [qq] at g10_3'
   exact absurd g10_3 (by simp)
  have g10_3' := g10_3; try simp only [qq] at g10_3'
  refine zy hF rfl g10_3 (r_move hF rfl rfl) fun a hF => ?_
  refine zy hF rfl g10_3 (r_move hF rfl rfl) fun a hF => ?_
  refine zy hF rfl g10_3 (zr hF rfl rfl (b_nen _ _ _ _)) fun a hF => ?_
  refine zl hF rfl (r_pickf hF rfl rfl g10_3 rfl) fun a hF => ?_
  refine zm 1 hF rfl fun a hF => ?_
  refine ls_ask (d := 90) hF rfl (fun g10_8 => ?_) (fun g10_8 => ?_)
  ·
   have g10_8' := g10_8; try simp only [qq] at g10_8'
   exact absurd g10_8 (by simp)
  have g10_8' := g10_8; try simp only [qq] at g10_8'
  refine zy hF rfl g10_8 (r_loadagg hF rfl rfl Tryz.underlying65 ti65 rfl (fun j u hu => hH.cell (fv j u hu))) fun a hF => ?_
  refine zy hF rfl g10_8 (r_loadagg hF rfl rfl Tryz.underlying65 ti65 rfl (own_agg (i := 0) hH rfl)) fun a hF => ?_
  refine zyc hF rfl g10_8 rfl fn43 (vsame11_spec V.2.1 V.2.1 _ _ _ _ _ (hV1.ext hH.below) (hO2.read hH fun p hp => List.mem_cons_of_mem _ (List.mem_cons_of_mem _ (List.mem_cons_of_mem _ (List.mem_append_right _ (List.mem_append_right _ hp))))) hVM hVM) ?_
  rintro _ w ⟨rfl, hE⟩ a hF
  replace hH := hH.ext hE
  refine zy hF rfl g10_8 (r_not hF rfl rfl) fun a hF => ?_
  refine zl hF rfl (r_pickf hF rfl rfl g10_8 rfl) fun a hF => ?_
  refine c_n ?_
  replace hF := hF.sel [5, 13, 15, 16, 17, 18, 95]
  simp only [ss, Nat.reduceBEq] at hF
  refine c_if hF rfl (fun h95 => ?_) (fun h95 => ?_)
  ·
   try simp only [qq] at h95
   exact absurd h95 (by simp)
  try simp only [qq] at h95
  refine wp_skip ?_
  refine k4 ?_
  refine c_seq fun Q5 k5 t5 => ?_
  refine c_sr fun ops => ?_
  refine zm 1 hF rfl fun a hF => ?_
  refine c_n ?_
  replace hF := hF.sel [5, 13, 15, 16, 17, 18, 21]
  simp only [ss, Nat.reduceBEq] at hF
  refine c_block fun Q6 t6 => ?_
  refine c_loop (fun n a w => ∃ i B, n = T.length - i ∧ i ≤ T.length ∧ Fr 124 [(5, .int .u32 (t : Nat)), (13, ptr g3_7), (15, .int .i64 (V.1 : Nat)), (16, ptr g4_1), (17, ptr g7_1), (18, ptr g9_7), (21, .int .i64 (i : Nat))] a ∧ Hp w4 w ((g9_7, .cells (verdV V.2.1 (.slice a3 V.2.1.sets.length c3) (.slice a4 V.2.1.soa.length c4)).toArray 65 (0, 0)) :: (g7_1, .cells (quV ⟨letF k q.name, q.kind, q.cls⟩).toArray 49 (0, 0)) :: (g4_1, .cells (msgV (formM m id T U) nilV (.slice aA T.length cA) (.slice aU U.length cU) (.slice aad m.ans.length acp) ov).toArray 62 (0, 0)) :: (B ++ (Bu ++ BV))) ∧ Sl 38 5 B (.slice aA T.length cA) T.length (recsV ((T.take i).map (fun r => reTtl r t) ++ T.drop i))) ?_ ?_
  ·
   exact ⟨_, 0, Ba, rfl, Nat.zero_le _, hF.keep [5, 13, 15, 16, 17, 18, 21] rfl, hH, by simpa using hSa⟩
  clear hH hF hSa
  intro n a w hI Q7 k7 t7
  obtain ⟨i, B, hm', hi, hF, hH, hS2⟩ := hI
  refine c_seq fun Q8 k8 t8 => ?_
  refine c_sr fun ops => ?_
  refine zm 1 hF rfl fun a hF => ?_
  refine zl hF rfl (r_fieldaddr0 hF rfl rfl fd62_2) fun a hF => ?_
  refine zl hF rfl (r_load hF rfl rfl fl34 (own_cell (i := 2) hH rfl rfl)) fun a hF => ?_
  refine zl hF rfl (r_len_sl hF rfl rfl Tryz.underlying34) fun a hF => ?_
  refine zb hF rfl rfl rfl (b_ltn _ _ _ _) fun a hF => ?_
  refine c_n ?_
  refine c_if hF rfl (fun h100 => ?_) (fun h100 => ?_)
  ·
   try simp only [qq] at h100
   obtain ⟨g, cp, cur, hv2, rfl, hcp, hcm, hcs, hct⟩ := hS2.open (by omega)
   injection hv2 with e1 e2 e3
   subst e3
   rw [e1] at hH
   simp only [List.cons_append, List.nil_append] at hH
   have hml : ((T.take i).map (fun r => reTtl r t) ++ T.drop i).length = T.length := by simp; omega
   have hXi : i < ((T.take i).map (fun r => reTtl r t) ++ T.drop i).length := by omega
   have hgx := mid_getF (fun r => reTtl r t) h100 hXi
   refine wp_skip ?_
   refine k8 ?_
   refine c_seq fun Q9 k9 t9 => ?_
   refine c_block fun Q10 t10 => ?_
   refine c_reg fun ops => ?_
   refine zl hF rfl (r_fieldaddr0 hF rfl rfl fd62_2) fun a hF => ?_
   refine zl hF rfl (r_load hF rfl rfl fl34 (own_cell (i := 2) hH rfl rfl)) fun a hF => ?_
   refine zm 2 hF rfl fun a hF => ?_
   refine zl hF rfl (r_ixown hF _ rfl rfl rfl Tryz.underlying34 ti38 (by omega)) fun a hF => ?_
   refine zl hF rfl (r_fieldaddr hF rfl rfl fd38_3) fun a hF => ?_
   refine ls_store 3 hF hH rfl rfl rfl rfl rfl fl24 ti24 rfl (by omega) (by simp [noFreeze]) (rfl) ?_
   intro w hH
   simp only [List.set_cons_succ, List.set_cons_zero] at hH
   refine wpList_nil ?_
   refine t10.norm ?_
   refine k9 ?_
   refine c_reg fun ops => ?_
   refine zm 1 hF rfl fun a hF => ?_
   refine zb hF rfl rfl rfl (b_addn _ _ 1 (by omega)) fun a hF => ?_
   refine zm 1 hF rfl fun a hF => ?_
   refine wpList_nil ?_
   refine k7 ?_
   have hSn := Sl.set (e := 38) (g := g) (i * 5 + 3) (.int .u32 (t : Nat)) (show (recsV ((T.take i).map (fun r => reTtl r t) ++ T.drop i)).length = T.length * 5 by rw [recsV_length, hml]) hcp hcm hcs hct
   rw [recsV_ttl' _ _ _ hXi, hgx, mid_set (fun r => reTtl r t) h100] at hSn
   refine ⟨T.length - (i + 1), by omega, i + 1, _, rfl, h100, hF.keep [5, 13, 15, 16, 17, 18, 21] rfl, ?_, by rw [e1]; exact hSn⟩
   rw [e1]; exact hH
  try simp only [qq] at h100
  obtain rfl : i = T.length := by omega
  rw [List.take_of_length_le (Nat.le_refl _), List.drop_eq_nil_of_le (Nat.le_refl _), List.append_nil] at hS2
  have hTb2 : RecsB (T.map fun r => reTtl r t) := ⟨by rw [List.length_map]; exact hTl, fun r hr => by
    obtain ⟨x, hx, rfl⟩ := List.mem_map.1 hr
    exact hTb.each x hx⟩
  refine wp_exit (t8.exit (t7.exit (t6.here (?_))))
  refine k5 ?_
  refine c_sr fun ops => ?_
  refine zl hF rfl (r_loadagg hF rfl rfl Tryz.underlying49 ti49 rfl (own_agg (i := 1) hH rfl)) fun a hF => ?_
  refine zl hF rfl (r_loadagg hF rfl rfl Tryz.underlying62 ti62 rfl (own_agg (i := 2) hH rfl)) fun a hF => ?_
  refine zc hF rfl rfl fn40 (verdOfO (q := ⟨letF k q.name, q.kind, q.cls⟩) (m := formM m id (T.map fun r => reTtl r t) U) hX (by show RSl _ 5 _ (T.map fun r => reTtl r t).length (recsV (T.map fun r => reTtl r t)); rw [List.length_map]; exact hS2.rsl hH fun p hp => List.mem_cons_of_mem _ (List.mem_cons_of_mem _ (List.mem_cons_of_mem _ (List.mem_append_left _ hp)))) (hSu.rsl hH fun p hp => List.mem_cons_of_mem _ (List.mem_cons_of_mem _ (List.mem_cons_of_mem _ (List.mem_append_right _ (List.mem_append_left _ hp))))) hTb2 hUb (by show (letF k q.name).length < 1000000; rw [letF_len]; omega) (hG.ext (hE0.trans hH.below))) ?_
  rintro _ w ⟨sv3, tv3, rfl, hO⟩ a hF
  obtain ⟨BV3, hBV3, hO3⟩ := hO.open
  replace hH := hH.join hBV3
  obtain ⟨⟨a5, c5, rfl⟩, a6, c6, rfl⟩ := hO3.shape
  replace hH := hH.fromB
  refine zm 4 hF rfl fun a hF => ?_
  refine ls_storeagg 0 hF hH rfl rfl rfl rfl rfl ti65 rfl (rfl) (rfl) (own_verd rfl rfl) ?_
  intro w hH
  simp only [List.set_cons_zero] at hH
  refine zm 1 hF rfl fun a hF => ?_
  refine c_n ?_
  replace hF := hF.sel [13, 15, 18, 20]
  simp only [ss, Nat.reduceBEq] at hF
  refine c_sg ?_
  refine zm 2 hF rfl fun a hF => ?_
  refine zb hF rfl rfl rfl (b_eqn _ _ _ _) fun a hF => ?_
  refine zm 1 hF rfl fun a hF => ?_
  refine l_ask (d := 119) hF rfl (fun g17_3 => ?_) (fun g17_3 => ?_)
  ·
   have g17_3' := g17_3; try simp only [qq] at g17_3'
   exact absurd hall.1 g17_3'
  have g17_3' := g17_3; try simp only [qq] at g17_3'
  refine zy hF rfl g17_3 (r_loadagg hF rfl rfl Tryz.underlying65 ti65 rfl (fun j u hu => hH.cell (fv j u hu))) fun a hF => ?_
  refine zy hF rfl g17_3 (r_loadagg hF rfl rfl Tryz.underlying65 ti65 rfl (own_agg (i := 0) hH rfl)) fun a hF => ?_
  refine zyc hF rfl g17_3 rfl fn43 (vsame11_spec V.2.1 X.2.1 _ _ _ _ _ (hV1.ext hH.below) (hO3.read hH fun p hp => List.mem_cons_of_mem _ (List.mem_append_left _ hp)) hVM (by rw [hall.2]; exact hVM)) ?_
  rintro _ w ⟨rfl, hE⟩ a hF
  replace hH := hH.ext hE
  refine zl hF rfl (r_pickt hF rfl rfl g17_3 rfl) fun a hF => ?_
  refine zm 1 hF rfl fun a hF => ?_
  refine c_n ?_
  replace hF := hF.sel [12]
  simp only [ss, Nat.reduceBEq] at hF
  refine wp_ret (hret (ret1 hF Tryz.results10 rfl ?_))
  exact ⟨by rw [decide_eq_true hall.2.symm], hE0.trans hH.below⟩
end Go.Proofs.YtcelgjabccgnmaaGreatDoor
