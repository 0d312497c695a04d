/-
  The walk of slices.Insert of one element into a row of one's own, of texts and of sets. Nothing is claimed here.
-/
import Derived.Test.YtcelgjabccgnmaaGreatDoorMore
namespace Go.Proofs.YtcelgjabccgnmaaGreatDoor
open Go.RowKit
set_option linter.unusedVariables false
set_option linter.unusedSimpArgs false
set_option maxHeartbeats 1000000

theorem ins_new {cur : Array Value} {xs news : List Value} {n i S cap : Nat} {zs1 zs2 : Array Value} (hx : xs.length = n * S) (hn : news.length = S) (hi : i < n) (h1 : zs1.size = (n + 1 - i) * S) (hc : n + 1 ≤ cap) (h2 : zs2.size = (cap - (n + 1)) * S) :
    (wr (wr ((xs.take (i * S)).toArray ++ zs1 ++ zs2) (i * S) news) ((i + 1) * S) (xs.drop (i * S))).size = cap * S ∧
    (wr (wr ((xs.take (i * S)).toArray ++ zs1 ++ zs2) (i * S) news) ((i + 1) * S) (xs.drop (i * S))).toList.take ((n + 1) * S) = xs.take (i * S) ++ news ++ xs.drop (i * S) := by
  have e1 : (i + 1) * S = i * S + S := by rw [Nat.add_mul, Nat.one_mul]
  have e2 : (n + 1) * S = n * S + S := by rw [Nat.add_mul, Nat.one_mul]
  have e3 : i * S ≤ n * S := Nat.mul_le_mul_right _ (by omega)
  have e4 : (n + 1 - i) * S = (n + 1) * S - i * S := Nat.sub_mul ..
  have e5 : (cap - (n + 1)) * S = cap * S - (n + 1) * S := Nat.sub_mul ..
  have e6 : (n + 1) * S ≤ cap * S := Nat.mul_le_mul_right _ hc
  have hsz : ((xs.take (i * S)).toArray ++ zs1 ++ zs2).size = cap * S := by simp [h1, h2]; omega
  have hA : (wr ((xs.take (i * S)).toArray ++ zs1 ++ zs2) (i * S) news).size = cap * S := by rw [wr_size (by omega), hsz]
  have hB : (xs.take (i * S)).length = i * S := by simp; omega
  refine ⟨by rw [wr_size (by rw [hA, List.length_drop]; omega), hA], ?_⟩
  have hl : (wr ((xs.take (i * S)).toArray ++ zs1 ++ zs2) (i * S) news).toList.take ((i + 1) * S) = xs.take (i * S) ++ news := by
    rw [wr_toList]
    have : (((xs.take (i * S)).toArray ++ zs1 ++ zs2).toList.take (i * S)) = xs.take (i * S) := by
      simp only [Array.toList_append, List.append_assoc]
      exact List.take_left' hB
    rw [this]
    exact List.take_left' (by simp only [List.length_append]; omega)
  rw [wr_toList, hl]
  exact List.take_left' (by simp only [List.length_append, List.length_drop]; omega)

theorem ins_old {cur : Array Value} {xs news : List Value} {n i S cap : Nat} (hx : xs.length = n * S) (hn : news.length = S) (hi : i < n) (hc : n + 1 ≤ cap) (hs : cur.size = cap * S) (ht : cur.toList.take (n * S) = xs) :
    (wr (wr cur ((i + 1) * S) (xs.drop (i * S))) (i * S) news).size = cap * S ∧
    (wr (wr cur ((i + 1) * S) (xs.drop (i * S))) (i * S) news).toList.take ((n + 1) * S) = xs.take (i * S) ++ news ++ xs.drop (i * S) := by
  have e1 : (i + 1) * S = i * S + S := by rw [Nat.add_mul, Nat.one_mul]
  have e2 : (n + 1) * S = n * S + S := by rw [Nat.add_mul, Nat.one_mul]
  have e3 : i * S ≤ n * S := Nat.mul_le_mul_right _ (by omega)
  have e6 : (n + 1) * S ≤ cap * S := Nat.mul_le_mul_right _ hc
  have hA : (wr cur ((i + 1) * S) (xs.drop (i * S))).size = cap * S := by rw [wr_size (by rw [List.length_drop]; omega), hs]
  refine ⟨by rw [wr_size (by rw [hA]; omega), hA], ?_⟩
  have hB : (xs.take (i * S)).length = i * S := by simp; omega
  have hC : (cur.toList.take ((i + 1) * S)).length = (i + 1) * S := by simp; omega
  have h1 : (wr cur ((i + 1) * S) (xs.drop (i * S))).toList.take (i * S) = xs.take (i * S) := by
    rw [wr_toList, List.append_assoc, List.take_append_of_le_length (by omega), List.take_take, Nat.min_eq_left (by omega), ← ht, List.take_take, Nat.min_eq_left (by omega)]
  have h2 : (wr cur ((i + 1) * S) (xs.drop (i * S))).toList.drop (i * S + news.length) = xs.drop (i * S) ++ cur.toList.drop ((i + 1) * S + (xs.drop (i * S)).length) := by
    rw [wr_toList, List.append_assoc, hn, ← e1, List.drop_left' hC]
  rw [wr_toList, h1, h2, ← List.append_assoc]
  exact List.take_left' (by simp only [List.length_append, List.length_drop]; omega)

theorem insert_str {w0 w : World} {B H : List (Nat × Obj)} {v : Value} {nn i gv : Nat} {xs news : List Value} (hH : Hp w0 w (B ++ (gv, .cells news.toArray 9 (0, 0)) :: H)) (hS : Sl 9 1 B v nn xs) (hi : i ≤ nn) (hnl : news.length = 1)
    (h1 : ∀ u ∈ xs, u.oneCell' = true) (h1n : ∀ u ∈ news, u.oneCell' = true) (hn : nn < 1000000) :
    Rets Tryz.prog 63 [v, .int .i64 i, .slice (some ⟨gv, 0, none⟩) 1 1] w fun r w' => ∃ B', Hp w0 w' (B' ++ (gv, .cells news.toArray 9 (0, 0)) :: H) ∧ Sl 9 1 B' r (nn + 1) (xs.take (i * 1) ++ news ++ xs.drop (i * 1)) := by
  have hR := hS.rsl hH fun p hp => List.mem_append_left _ hp
  obtain ⟨hxl, ad, cp, hsv, hnc, hcm, had⟩ := hR
  subst hsv
  have had' : ∀ a, ad = some a → ∃ b off, a = ⟨b, off, none⟩ := by
    intro a ha
    rcases hS.2 with ⟨h, _⟩ | ⟨g, c2, cur, h, _⟩
    · cases h; cases ha
    · cases h; cases ha; exact ⟨g, 0, rfl⟩
  unfold maxLen at hcm
  have hcl : i = nn ∨ i < nn := by omega
  have hN : RSl w 1 (.slice (some ⟨gv, 0, none⟩) 1 1) 1 news := ⟨by omega, _, 1, rfl, Nat.le_refl _, by unfold maxLen; omega, .inr ⟨gv, 0, rfl, fun j u hu => by
    rw [Nat.zero_add]
    exact own_cell (i := B.length) (cur := news.toArray) (e := 9) (fr := (0, 0)) hH (by simp) (by simpa using hu)⟩⟩
  refine rets_start Tryz.func63 rfl Tryz.ntmps63 rfl fun a Q0 hF hret hend => ?_
  simp only [argsFrom, Nat.zero_add, Nat.reduceAdd] at hF
  refine c_sr fun ops => ?_
  refine zm 1 hF rfl fun a hF => ?_
  refine c_n ?_
  replace hF := hF.sel [0, 1, 2]
  simp only [ss, Nat.reduceBEq] at hF
  refine c_sr fun ops => ?_
  refine zm 2 hF rfl fun a hF => ?_
  refine zl hF rfl (r_slice_sl hF _ _ rfl rfl Tryz.underlying25 ti9 ⟨_, rfl⟩ rfl (by omega)) fun a hF => ?_
  refine c_n ?_
  replace hF := hF.sel [0, 1, 2]
  simp only [ss, Nat.reduceBEq] at hF
  refine c_sr fun ops => ?_
  refine zm 1 hF rfl fun a hF => ?_
  refine zl hF rfl (r_len_sl hF rfl rfl Tryz.underlying25) fun a hF => ?_
  refine zm 1 hF rfl fun a hF => ?_
  refine c_n ?_
  replace hF := hF.sel [0, 1, 2, 7]
  simp only [ss, Nat.reduceBEq] at hF
  refine c_seq fun Q1 k1 t1 => ?_
  refine c_sr fun ops => ?_
  refine zm 1 hF rfl fun a hF => ?_
  refine zb hF rfl rfl rfl (b_eqn _ _ _ 0) fun a hF => ?_
  refine c_n ?_
  replace hF := hF.sel [0, 1, 2, 7, 16]
  simp only [ss, Nat.reduceBEq] at hF
  refine c_no hF rfl ((by decide)) ?_
  refine wp_skip ?_
  refine k1 ?_
  refine c_sr fun ops => ?_
  refine zm 1 hF rfl fun a hF => ?_
  refine zl hF rfl (r_len_sl hF rfl rfl Tryz.underlying25) fun a hF => ?_
  refine zm 1 hF rfl fun a hF => ?_
  refine c_n ?_
  replace hF := hF.sel [0, 1, 2, 7, 8]
  simp only [ss, Nat.reduceBEq] at hF
  refine c_seq fun Q2 k2 t2 => ?_
  refine c_sr fun ops => ?_
  refine zm 2 hF rfl fun a hF => ?_
  refine zb hF rfl rfl rfl (b_eqn _ _ _ _) fun a hF => ?_
  refine c_n ?_
  replace hF := hF.sel [0, 1, 2, 7, 8, 22]
  simp only [ss, Nat.reduceBEq] at hF
  refine c_if hF rfl (fun h22 => ?_) (fun h22 => ?_)
  ·
   try simp only [qq] at h22
   refine c_sr fun ops => ?_
   refine zm 2 hF rfl fun a hF => ?_
   refine ls_append hF hH rfl rfl rfl rfl rfl rfl Tryz.underlying25 ti9 hS hN (h1n) (by decide) (by omega) ?_
   intro a v7_2 w B7_2 hH hS hF
   refine zm 1 hF rfl fun a hF => ?_
   refine c_n ?_
   replace hF := hF.sel [6]
   simp only [ss, Nat.reduceBEq] at hF
   refine wp_ret (t2.ret (hret (ret1 hF Tryz.results63 rfl ?_)))
   subst h22
   refine ⟨_, hH, ?_⟩
   rw [List.drop_eq_nil_of_le (by omega), List.take_of_length_le (by omega), List.append_nil]; exact hS
  try simp only [qq] at h22
  obtain ⟨g, cap, cur, hv, rfl, hc1, hc2, hc3, hc4⟩ := hS.open (by omega)
  cases hv
  rw [List.cons_append, List.nil_append] at hH
  have hmul : i * 1 ≤ nn * 1 := Nat.mul_le_mul_right _ (by omega)
  have hsrc : ∀ (w : World), w.heap[g]? = some (.cells cur 9 (0, 0)) → ∀ j u, (xs.drop (i * 1))[j]? = some u → w.cell? ⟨g, 0 + i * 1 + j, none⟩ = some u := by
    intro w hw j u hu
    rw [List.getElem?_drop] at hu
    rw [Nat.zero_add, Sl.cell hw]
    exact take_get hc4 hu
  have hsrc2 : ∀ j u, (xs.take (i * 1))[j]? = some u → w.cell? ⟨g, 0 + j, none⟩ = some u := by
    intro j u hu
    rw [List.getElem?_take] at hu
    split at hu
    · rw [Nat.zero_add]; exact own_cell (i := 0) hH rfl (take_get hc4 hu)
    · cases hu
  refine wp_skip ?_
  refine k2 ?_
  refine c_seq fun Q3 k3 t3 => ?_
  refine c_sr fun ops => ?_
  refine zm 2 hF rfl fun a hF => ?_
  refine zb hF rfl rfl rfl (b_addn _ _ _ (by omega)) fun a hF => ?_
  refine zm 1 hF rfl fun a hF => ?_
  refine zl hF rfl (r_cap_sl hF rfl rfl Tryz.underlying25) fun a hF => ?_
  refine zb hF rfl rfl rfl (b_gtn _ _ _ _) fun a hF => ?_
  refine c_n ?_
  replace hF := hF.sel [0, 1, 2, 7, 8, 31]
  simp only [ss, Nat.reduceBEq] at hF
  refine c_fi hF rfl (fun h31 => ?_) (fun h31 => ?_)
  ·
   try simp only [qq] at h31
   have hq := ins_old (cur := cur) (cap := cp) hxl hnl (by omega : i < nn) (by omega) hc3 hc4
   refine wp_skip ?_
   refine k3 ?_
   refine c_sr fun ops => ?_
   refine zm 3 hF rfl fun a hF => ?_
   refine zb hF rfl rfl rfl (b_addn _ _ _ (by omega)) fun a hF => ?_
   refine zl hF rfl (r_slice_sl hF 0 _ rfl rfl Tryz.underlying25 ti9 rfl ⟨_, rfl⟩ (by omega)) fun a hF => ?_
   rw [subA_zero had'] at hF
   refine zm 1 hF rfl fun a hF => ?_
   refine c_n ?_
   replace hF := hF.sel [0, 1, 2, 7, 8]
   simp only [ss, Nat.reduceBEq] at hF
   refine c_seq fun Q5 k5 t5 => ?_
   refine c_sr fun ops => ?_
   refine zm 4 hF rfl fun a hF => ?_
   refine zb hF rfl rfl rfl (b_addn _ _ _ (by omega)) fun a hF => ?_
   refine zl hF rfl (r_slice_sl hF _ _ rfl rfl Tryz.underlying25 ti9 ⟨_, rfl⟩ rfl (by omega)) fun a hF => ?_
   rw [subA_lt (by omega)] at hF
   refine ls_overlaps (tb := 4) (i := 1) (j := 0) hF hH rfl rfl rfl rfl rfl Tryz.func100 (by kernel_rfl) (by kernel_rfl) (by kernel_rfl) (by kernel_rfl) Tryz.underlying25 ti9 rfl rfl (by decide) (by omega) fun a hF => ?_
   refine zl hF rfl (r_not hF rfl rfl) fun a hF => ?_
   refine c_n ?_
   replace hF := hF.sel [0, 1, 2, 7, 8, 68]
   simp only [ss, Nat.reduceBEq] at hF
   refine c_yes hF rfl (rfl) ?_
   refine c_seq fun Q6 k6 t6 => ?_
   refine c_flow [0, 1, 2, 3, 4, 5, 6, 7] [] [8] [] (by kernel_rfl) (by kernel_rfl) fun hB => ?_
   refine ps hF rfl rfl rfl rfl (fun w => r_move hF rfl rfl) fun a hF => ?_
   refine ps hF rfl rfl rfl rfl (fun w => r_move hF rfl rfl) fun a hF => ?_
   refine ps hF rfl rfl rfl rfl (fun w => r_move hF rfl rfl) fun a hF => ?_
   refine ps hF rfl rfl rfl rfl (fun w => zr hF rfl rfl (b_addn _ _ _ (by omega))) fun a hF => ?_
   refine ps hF rfl rfl rfl rfl (fun w => r_slice_sl hF _ _ rfl rfl Tryz.underlying25 ti9 ⟨_, rfl⟩ rfl (by omega)) fun a hF => ?_
   refine ps hF rfl rfl rfl rfl (fun w => r_move hF rfl rfl) fun a hF => ?_
   refine ps hF rfl rfl rfl rfl (fun w => r_move hF rfl rfl) fun a hF => ?_
   refine ps hF rfl rfl rfl rfl (fun w => r_slice_sl hF _ _ rfl rfl Tryz.underlying25 ti9 ⟨_, rfl⟩ rfl (by omega)) fun a hF => ?_
   refine fl_start [] hB (by kernel_rfl) hF ?_
   simp only [wo, hasN, Nat.reduceBEq, cond_true, cond_false] at hF ⊢
   intro a w hE hF hall
   replace hH := hH.ext hE
   clear hall
   rw [subA_lt (by omega), subA_lt (by omega)] at hF
   refine ls_copy (xs := xs.drop (i * 1)) 0 hF hH rfl rfl rfl rfl rfl rfl Tryz.underlying25 ti9 rfl (by rw [List.length_drop]; simp only [Nat.min_def]; split <;> omega) (.inr ⟨g, _, rfl, hsrc _ (hH.own _ (List.mem_cons_self ..)).1⟩) (by rw [List.length_drop]; omega) (fun u hu => h1 u (List.mem_of_mem_drop hu)) ?_
   intro a w hH hF
   simp only [List.set_cons_zero, Nat.zero_add] at hH
   refine wpList_nil ?_
   replace hF := hF.sel [0, 1, 2]
   simp only [ss, Nat.reduceBEq] at hF
   refine k6 ?_
   refine c_sr fun ops => ?_
   refine zm 2 hF rfl fun a hF => ?_
   refine zl hF rfl (r_slice_sl hF _ _ rfl rfl Tryz.underlying25 ti9 ⟨_, rfl⟩ rfl (by omega)) fun a hF => ?_
   refine zm 1 hF rfl fun a hF => ?_
   rw [subA_lt (by omega)] at hF
   refine ls_copy (xs := news) 0 hF hH rfl rfl rfl rfl rfl rfl Tryz.underlying25 ti9 rfl (by simp only [Nat.min_def]; split <;> omega) (.inr ⟨gv, 0, rfl, fun j u hu => by rw [Nat.zero_add]; exact own_cell (i := 1) hH rfl (by simpa using hu)⟩) (by rw [wr_size (by rw [List.length_drop]; omega)]; omega) (h1n) ?_
   intro a w hH hF
   simp only [List.set_cons_zero, Nat.zero_add] at hH
   refine c_n ?_
   replace hF := hF.sel [0]
   simp only [ss, Nat.reduceBEq] at hF
   refine c_sr fun ops => ?_
   refine zm 2 hF rfl fun a hF => ?_
   refine c_n ?_
   replace hF := hF.sel [6]
   simp only [ss, Nat.reduceBEq] at hF
   refine wp_ret (t5.ret (hret (ret1 hF Tryz.results63 rfl ?_)))
   exact ⟨[_], hH, by simp only [List.length_append, List.length_take, List.length_drop]; omega, .inr ⟨_, _, _, by simp, rfl, by omega, hc2, hq.1, hq.2⟩⟩
  try simp only [qq] at h31
  refine c_sr fun ops => ?_
  refine zm 2 hF rfl fun a hF => ?_
  refine zl hF rfl (r_slice_sl hF 0 _ rfl rfl Tryz.underlying25 ti9 rfl ⟨_, rfl⟩ (by omega)) fun a hF => ?_
  refine zm 2 hF rfl fun a hF => ?_
  refine zb hF rfl rfl rfl (b_addn _ _ _ (by omega)) fun a hF => ?_
  refine zm 1 hF rfl fun a hF => ?_
  refine zb hF rfl rfl rfl (b_subn _ _ _ (by omega)) fun a hF => ?_
  rw [subA_zero had'] at hF
  refine ls_appendz hF hH rfl rfl rfl rfl rfl rfl Tryz.underlying25 Tryz.underlying3 ti9 zv9 (by simp; omega) (.inr ⟨g, 0, rfl, hsrc2⟩) (by omega) (by decide) (by omega) (by omega) (by decide) ?_
  intro a w g9_8 cap9_8 hH hE hcap9_8 hmx9_8 hF
  have e1 : i - 0 + (nn + 1 - i) = nn + 1 := by omega
  rw [e1] at hcap9_8 hF hH
  rw [Nat.sub_zero] at hF
  have hz : ((xs.take (i * 1)).toArray ++ Builtin.zeroCells (Value.string (mk [])).cells (nn + 1 - i) ++ Builtin.zeroCells (Value.string (mk [])).cells (cap9_8 - (nn + 1))).size = cap9_8 * 1 := by
    simp only [Array.size_append, List.size_toArray, List.length_take, size_zeroCells]
    have : ((Value.string (mk [])).cells).size = 1 := rfl
    rw [this]; omega
  refine zm 1 hF rfl fun a hF => ?_
  refine c_n ?_
  replace hF := hF.sel [0, 1, 2, 7, 9]
  simp only [ss, Nat.reduceBEq] at hF
  refine c_sr fun ops => ?_
  refine zm 2 hF rfl fun a hF => ?_
  refine zl hF rfl (r_slice_sl hF _ _ rfl rfl Tryz.underlying25 ti9 ⟨_, rfl⟩ rfl (by omega)) fun a hF => ?_
  refine zm 1 hF rfl fun a hF => ?_
  rw [subA_lt (by omega)] at hF
  refine ls_copy (xs := news) 0 hF hH rfl rfl rfl rfl rfl rfl Tryz.underlying25 ti9 rfl (by simp only [Nat.min_def]; split <;> omega) (.inr ⟨gv, 0, rfl, fun j u hu => by rw [Nat.zero_add]; exact own_cell (i := 2) hH rfl (by simpa using hu)⟩) (by rw [hz]; omega) (h1n) ?_
  intro a w hH hF
  simp only [List.set_cons_zero, Nat.zero_add] at hH
  refine c_n ?_
  replace hF := hF.sel [0, 1, 7, 9]
  simp only [ss, Nat.reduceBEq] at hF
  refine c_seq fun Q4 k4 t4 => ?_
  refine c_flow [0, 1, 2, 3, 4, 5, 6, 7] [] [8] [] (by kernel_rfl) (by kernel_rfl) fun hB => ?_
  refine ps hF rfl rfl rfl rfl (fun w => r_move hF rfl rfl) fun a hF => ?_
  refine ps hF rfl rfl rfl rfl (fun w => r_move hF rfl rfl) fun a hF => ?_
  refine ps hF rfl rfl rfl rfl (fun w => r_move hF rfl rfl) fun a hF => ?_
  refine ps hF rfl rfl rfl rfl (fun w => zr hF rfl rfl (b_addn _ _ _ (by omega))) fun a hF => ?_
  refine ps hF rfl rfl rfl rfl (fun w => r_slice_sl hF _ _ rfl rfl Tryz.underlying25 ti9 ⟨_, rfl⟩ rfl (by omega)) fun a hF => ?_
  refine ps hF rfl rfl rfl rfl (fun w => r_move hF rfl rfl) fun a hF => ?_
  refine ps hF rfl rfl rfl rfl (fun w => r_move hF rfl rfl) fun a hF => ?_
  refine ps hF rfl rfl rfl rfl (fun w => r_slice_sl hF _ _ rfl rfl Tryz.underlying25 ti9 ⟨_, rfl⟩ rfl (by omega)) fun a hF => ?_
  refine fl_start [] hB (by kernel_rfl) hF ?_
  simp only [wo, hasN, Nat.reduceBEq, cond_true, cond_false] at hF ⊢
  intro a w hE hF hall
  replace hH := hH.ext hE
  clear hall
  rw [subA_lt (by omega), subA_lt (by omega)] at hF
  refine ls_copy (xs := xs.drop (i * 1)) 0 hF hH rfl rfl rfl rfl rfl rfl Tryz.underlying25 ti9 rfl (by rw [List.length_drop]; simp only [Nat.min_def]; split <;> omega) (.inr ⟨g, _, rfl, hsrc _ (hH.own _ (List.mem_cons_of_mem _ (List.mem_cons_self ..))).1⟩) (by rw [wr_size (by rw [hz]; omega), hz, List.length_drop]; omega) (fun u hu => h1 u (List.mem_of_mem_drop hu)) ?_
  intro a w hH hF
  simp only [List.set_cons_zero, Nat.zero_add] at hH
  refine wpList_nil ?_
  replace hF := hF.sel [9]
  simp only [ss, Nat.reduceBEq] at hF
  refine k4 ?_
  refine c_sr fun ops => ?_
  refine zm 2 hF rfl fun a hF => ?_
  refine c_n ?_
  replace hF := hF.sel [6]
  simp only [ss, Nat.reduceBEq] at hF
  refine wp_ret (t3.ret (hret (ret1 hF Tryz.results63 rfl ?_)))
  have hq := ins_new (cur := cur) (cap := cap9_8) hxl hnl (by omega : i < nn) (zs1 := Builtin.zeroCells (Value.string (mk [])).cells (nn + 1 - i)) (by rw [size_zeroCells]; rfl) hcap9_8 (zs2 := Builtin.zeroCells (Value.string (mk [])).cells (cap9_8 - (nn + 1))) (by rw [size_zeroCells]; rfl)
  exact ⟨[_], hH.sub (.cons_cons _ (.cons _ (List.Sublist.refl _))), by simp only [List.length_append, List.length_take, List.length_drop]; omega, .inr ⟨_, _, _, rfl, rfl, hcap9_8, hmx9_8, hq.1, hq.2⟩⟩

theorem insert_set {w0 w : World} {B H : List (Nat × Obj)} {v : Value} {nn i gv : Nat} {xs news : List Value} (hH : Hp w0 w (B ++ (gv, .cells news.toArray 27 (0, 0)) :: H)) (hS : Sl 27 5 B v nn xs) (hi : i ≤ nn) (hnl : news.length = 5)
    (h1 : ∀ u ∈ xs, u.oneCell' = true) (h1n : ∀ u ∈ news, u.oneCell' = true) (hn : nn < 1000000) :
    Rets Tryz.prog 61 [v, .int .i64 i, .slice (some ⟨gv, 0, none⟩) 1 1] w fun r w' => ∃ B', Hp w0 w' (B' ++ (gv, .cells news.toArray 27 (0, 0)) :: H) ∧ Sl 27 5 B' r (nn + 1) (xs.take (i * 5) ++ news ++ xs.drop (i * 5)) := by
  have hR := hS.rsl hH fun p hp => List.mem_append_left _ hp
  obtain ⟨hxl, ad, cp, hsv, hnc, hcm, had⟩ := hR
  subst hsv
  have had' : ∀ a, ad = some a → ∃ b off, a = ⟨b, off, none⟩ := by
    intro a ha
    rcases hS.2 with ⟨h, _⟩ | ⟨g, c2, cur, h, _⟩
    · cases h; cases ha
    · cases h; cases ha; exact ⟨g, 0, rfl⟩
  unfold maxLen at hcm
  have hcl : i = nn ∨ i < nn := by omega
  have hN : RSl w 5 (.slice (some ⟨gv, 0, none⟩) 1 1) 1 news := ⟨by omega, _, 1, rfl, Nat.le_refl _, by unfold maxLen; omega, .inr ⟨gv, 0, rfl, fun j u hu => by
    rw [Nat.zero_add]
    exact own_cell (i := B.length) (cur := news.toArray) (e := 27) (fr := (0, 0)) hH (by simp) (by simpa using hu)⟩⟩
  refine rets_start Tryz.func61 rfl Tryz.ntmps61 rfl fun a Q0 hF hret hend => ?_
  simp only [argsFrom, Nat.zero_add, Nat.reduceAdd] at hF
  refine c_sr fun ops => ?_
  refine zm 1 hF rfl fun a hF => ?_
  refine c_n ?_
  replace hF := hF.sel [0, 1, 2]
  simp only [ss, Nat.reduceBEq] at hF
  refine c_sr fun ops => ?_
  refine zm 2 hF rfl fun a hF => ?_
  refine zl hF rfl (r_slice_sl hF _ _ rfl rfl Tryz.underlying22 ti27 ⟨_, rfl⟩ rfl (by omega)) fun a hF => ?_
  refine c_n ?_
  replace hF := hF.sel [0, 1, 2]
  simp only [ss, Nat.reduceBEq] at hF
  refine c_sr fun ops => ?_
  refine zm 1 hF rfl fun a hF => ?_
  refine zl hF rfl (r_len_sl hF rfl rfl Tryz.underlying22) fun a hF => ?_
  refine zm 1 hF rfl fun a hF => ?_
  refine c_n ?_
  replace hF := hF.sel [0, 1, 2, 7]
  simp only [ss, Nat.reduceBEq] at hF
  refine c_seq fun Q1 k1 t1 => ?_
  refine c_sr fun ops => ?_
  refine zm 1 hF rfl fun a hF => ?_
  refine zb hF rfl rfl rfl (b_eqn _ _ _ 0) fun a hF => ?_
  refine c_n ?_
  replace hF := hF.sel [0, 1, 2, 7, 16]
  simp only [ss, Nat.reduceBEq] at hF
  refine c_no hF rfl ((by decide)) ?_
  refine wp_skip ?_
  refine k1 ?_
  refine c_sr fun ops => ?_
  refine zm 1 hF rfl fun a hF => ?_
  refine zl hF rfl (r_len_sl hF rfl rfl Tryz.underlying22) fun a hF => ?_
  refine zm 1 hF rfl fun a hF => ?_
  refine c_n ?_
  replace hF := hF.sel [0, 1, 2, 7, 8]
  simp only [ss, Nat.reduceBEq] at hF
  refine c_seq fun Q2 k2 t2 => ?_
  refine c_sr fun ops => ?_
  refine zm 2 hF rfl fun a hF => ?_
  refine zb hF rfl rfl rfl (b_eqn _ _ _ _) fun a hF => ?_
  refine c_n ?_
  replace hF := hF.sel [0, 1, 2, 7, 8, 22]
  simp only [ss, Nat.reduceBEq] at hF
  refine c_if hF rfl (fun h22 => ?_) (fun h22 => ?_)
  ·
   try simp only [qq] at h22
   refine c_sr fun ops => ?_
   refine zm 2 hF rfl fun a hF => ?_
   refine ls_append hF hH rfl rfl rfl rfl rfl rfl Tryz.underlying22 ti27 hS hN (h1n) (by decide) (by omega) ?_
   intro a v7_2 w B7_2 hH hS hF
   refine zm 1 hF rfl fun a hF => ?_
   refine c_n ?_
   replace hF := hF.sel [6]
   simp only [ss, Nat.reduceBEq] at hF
   refine wp_ret (t2.ret (hret (ret1 hF Tryz.results61 rfl ?_)))
   subst h22
   refine ⟨_, hH, ?_⟩
   rw [List.drop_eq_nil_of_le (by omega), List.take_of_length_le (by omega), List.append_nil]; exact hS
  try simp only [qq] at h22
  obtain ⟨g, cap, cur, hv, rfl, hc1, hc2, hc3, hc4⟩ := hS.open (by omega)
  cases hv
  rw [List.cons_append, List.nil_append] at hH
  have hmul : i * 5 ≤ nn * 5 := Nat.mul_le_mul_right _ (by omega)
  have hsrc : ∀ (w : World), w.heap[g]? = some (.cells cur 27 (0, 0)) → ∀ j u, (xs.drop (i * 5))[j]? = some u → w.cell? ⟨g, 0 + i * 5 + j, none⟩ = some u := by
    intro w hw j u hu
    rw [List.getElem?_drop] at hu
    rw [Nat.zero_add, Sl.cell hw]
    exact take_get hc4 hu
  have hsrc2 : ∀ j u, (xs.take (i * 5))[j]? = some u → w.cell? ⟨g, 0 + j, none⟩ = some u := by
    intro j u hu
    rw [List.getElem?_take] at hu
    split at hu
    · rw [Nat.zero_add]; exact own_cell (i := 0) hH rfl (take_get hc4 hu)
    · cases hu
  refine wp_skip ?_
  refine k2 ?_
  refine c_seq fun Q3 k3 t3 => ?_
  refine c_sr fun ops => ?_
  refine zm 2 hF rfl fun a hF => ?_
  refine zb hF rfl rfl rfl (b_addn _ _ _ (by omega)) fun a hF => ?_
  refine zm 1 hF rfl fun a hF => ?_
  refine zl hF rfl (r_cap_sl hF rfl rfl Tryz.underlying22) fun a hF => ?_
  refine zb hF rfl rfl rfl (b_gtn _ _ _ _) fun a hF => ?_
  refine c_n ?_
  replace hF := hF.sel [0, 1, 2, 7, 8, 31]
  simp only [ss, Nat.reduceBEq] at hF
  refine c_fi hF rfl (fun h31 => ?_) (fun h31 => ?_)
  ·
   try simp only [qq] at h31
   have hq := ins_old (cur := cur) (cap := cp) hxl hnl (by omega : i < nn) (by omega) hc3 hc4
   refine wp_skip ?_
   refine k3 ?_
   refine c_sr fun ops => ?_
   refine zm 3 hF rfl fun a hF => ?_
   refine zb hF rfl rfl rfl (b_addn _ _ _ (by omega)) fun a hF => ?_
   refine zl hF rfl (r_slice_sl hF 0 _ rfl rfl Tryz.underlying22 ti27 rfl ⟨_, rfl⟩ (by omega)) fun a hF => ?_
   rw [subA_zero had'] at hF
   refine zm 1 hF rfl fun a hF => ?_
   refine c_n ?_
   replace hF := hF.sel [0, 1, 2, 7, 8]
   simp only [ss, Nat.reduceBEq] at hF
   refine c_seq fun Q5 k5 t5 => ?_
   refine c_sr fun ops => ?_
   refine zm 4 hF rfl fun a hF => ?_
   refine zb hF rfl rfl rfl (b_addn _ _ _ (by omega)) fun a hF => ?_
   refine zl hF rfl (r_slice_sl hF _ _ rfl rfl Tryz.underlying22 ti27 ⟨_, rfl⟩ rfl (by omega)) fun a hF => ?_
   rw [subA_lt (by omega)] at hF
   refine ls_overlaps (tb := 4) (i := 1) (j := 0) hF hH rfl rfl rfl rfl rfl Tryz.func96 (by kernel_rfl) (by kernel_rfl) (by kernel_rfl) (by kernel_rfl) Tryz.underlying22 ti27 rfl rfl (by decide) (by omega) fun a hF => ?_
   refine zl hF rfl (r_not hF rfl rfl) fun a hF => ?_
   refine c_n ?_
   replace hF := hF.sel [0, 1, 2, 7, 8, 68]
   simp only [ss, Nat.reduceBEq] at hF
   refine c_yes hF rfl (rfl) ?_
   refine c_seq fun Q6 k6 t6 => ?_
   refine c_flow [0, 1, 2, 3, 4, 5, 6, 7] [] [8] [] (by kernel_rfl) (by kernel_rfl) fun hB => ?_
   refine ps hF rfl rfl rfl rfl (fun w => r_move hF rfl rfl) fun a hF => ?_
   refine ps hF rfl rfl rfl rfl (fun w => r_move hF rfl rfl) fun a hF => ?_
   refine ps hF rfl rfl rfl rfl (fun w => r_move hF rfl rfl) fun a hF => ?_
   refine ps hF rfl rfl rfl rfl (fun w => zr hF rfl rfl (b_addn _ _ _ (by omega))) fun a hF => ?_
   refine ps hF rfl rfl rfl rfl (fun w => r_slice_sl hF _ _ rfl rfl Tryz.underlying22 ti27 ⟨_, rfl⟩ rfl (by omega)) fun a hF => ?_
   refine ps hF rfl rfl rfl rfl (fun w => r_move hF rfl rfl) fun a hF => ?_
   refine ps hF rfl rfl rfl rfl (fun w => r_move hF rfl rfl) fun a hF => ?_
   refine ps hF rfl rfl rfl rfl (fun w => r_slice_sl hF _ _ rfl rfl Tryz.underlying22 ti27 ⟨_, rfl⟩ rfl (by omega)) fun a hF => ?_
   refine fl_start [] hB (by kernel_rfl) hF ?_
   simp only [wo, hasN, Nat.reduceBEq, cond_true, cond_false] at hF ⊢
   intro a w hE hF hall
   replace hH := hH.ext hE
   clear hall
   rw [subA_lt (by omega), subA_lt (by omega)] at hF
   refine ls_copy (xs := xs.drop (i * 5)) 0 hF hH rfl rfl rfl rfl rfl rfl Tryz.underlying22 ti27 rfl (by rw [List.length_drop]; simp only [Nat.min_def]; split <;> omega) (.inr ⟨g, _, rfl, hsrc _ (hH.own _ (List.mem_cons_self ..)).1⟩) (by rw [List.length_drop]; omega) (fun u hu => h1 u (List.mem_of_mem_drop hu)) ?_
   intro a w hH hF
   simp only [List.set_cons_zero, Nat.zero_add] at hH
   refine wpList_nil ?_
   replace hF := hF.sel [0, 1, 2]
   simp only [ss, Nat.reduceBEq] at hF
   refine k6 ?_
   refine c_sr fun ops => ?_
   refine zm 2 hF rfl fun a hF => ?_
   refine zl hF rfl (r_slice_sl hF _ _ rfl rfl Tryz.underlying22 ti27 ⟨_, rfl⟩ rfl (by omega)) fun a hF => ?_
   refine zm 1 hF rfl fun a hF => ?_
   rw [subA_lt (by omega)] at hF
   refine ls_copy (xs := news) 0 hF hH rfl rfl rfl rfl rfl rfl Tryz.underlying22 ti27 rfl (by simp only [Nat.min_def]; split <;> omega) (.inr ⟨gv, 0, rfl, fun j u hu => by rw [Nat.zero_add]; exact own_cell (i := 1) hH rfl (by simpa using hu)⟩) (by rw [wr_size (by rw [List.length_drop]; omega)]; omega) (h1n) ?_
   intro a w hH hF
   simp only [List.set_cons_zero, Nat.zero_add] at hH
   refine c_n ?_
   replace hF := hF.sel [0]
   simp only [ss, Nat.reduceBEq] at hF
   refine c_sr fun ops => ?_
   refine zm 2 hF rfl fun a hF => ?_
   refine c_n ?_
   replace hF := hF.sel [6]
   simp only [ss, Nat.reduceBEq] at hF
   refine wp_ret (t5.ret (hret (ret1 hF Tryz.results61 rfl ?_)))
   exact ⟨[_], hH, by simp only [List.length_append, List.length_take, List.length_drop]; omega, .inr ⟨_, _, _, by simp, rfl, by omega, hc2, hq.1, hq.2⟩⟩
  try simp only [qq] at h31
  refine c_sr fun ops => ?_
  refine zm 2 hF rfl fun a hF => ?_
  refine zl hF rfl (r_slice_sl hF 0 _ rfl rfl Tryz.underlying22 ti27 rfl ⟨_, rfl⟩ (by omega)) fun a hF => ?_
  refine zm 2 hF rfl fun a hF => ?_
  refine zb hF rfl rfl rfl (b_addn _ _ _ (by omega)) fun a hF => ?_
  refine zm 1 hF rfl fun a hF => ?_
  refine zb hF rfl rfl rfl (b_subn _ _ _ (by omega)) fun a hF => ?_
  rw [subA_zero had'] at hF
  refine ls_appendz hF hH rfl rfl rfl rfl rfl rfl Tryz.underlying22 Tryz.underlying3 ti27 zv27 (by simp; omega) (.inr ⟨g, 0, rfl, hsrc2⟩) (by omega) (by decide) (by omega) (by omega) (by decide) ?_
  intro a w g9_8 cap9_8 hH hE hcap9_8 hmx9_8 hF
  have e1 : i - 0 + (nn + 1 - i) = nn + 1 := by omega
  rw [e1] at hcap9_8 hF hH
  rw [Nat.sub_zero] at hF
  have hz : ((xs.take (i * 5)).toArray ++ Builtin.zeroCells (Value.agg #[Value.string (mk []), Value.int IntKind.u16 0, Value.int IntKind.u16 0, Value.int IntKind.u32 0, Value.slice none 0 0]).cells (nn + 1 - i) ++ Builtin.zeroCells (Value.agg #[Value.string (mk []), Value.int IntKind.u16 0, Value.int IntKind.u16 0, Value.int IntKind.u32 0, Value.slice none 0 0]).cells (cap9_8 - (nn + 1))).size = cap9_8 * 5 := by
    simp only [Array.size_append, List.size_toArray, List.length_take, size_zeroCells]
    have : ((Value.agg #[Value.string (mk []), Value.int IntKind.u16 0, Value.int IntKind.u16 0, Value.int IntKind.u32 0, Value.slice none 0 0]).cells).size = 5 := rfl
    rw [this]; omega
  refine zm 1 hF rfl fun a hF => ?_
  refine c_n ?_
  replace hF := hF.sel [0, 1, 2, 7, 9]
  simp only [ss, Nat.reduceBEq] at hF
  refine c_sr fun ops => ?_
  refine zm 2 hF rfl fun a hF => ?_
  refine zl hF rfl (r_slice_sl hF _ _ rfl rfl Tryz.underlying22 ti27 ⟨_, rfl⟩ rfl (by omega)) fun a hF => ?_
  refine zm 1 hF rfl fun a hF => ?_
  rw [subA_lt (by omega)] at hF
  refine ls_copy (xs := news) 0 hF hH rfl rfl rfl rfl rfl rfl Tryz.underlying22 ti27 rfl (by simp only [Nat.min_def]; split <;> omega) (.inr ⟨gv, 0, rfl, fun j u hu => by rw [Nat.zero_add]; exact own_cell (i := 2) hH rfl (by simpa using hu)⟩) (by rw [hz]; omega) (h1n) ?_
  intro a w hH hF
  simp only [List.set_cons_zero, Nat.zero_add] at hH
  refine c_n ?_
  replace hF := hF.sel [0, 1, 7, 9]
  simp only [ss, Nat.reduceBEq] at hF
  refine c_seq fun Q4 k4 t4 => ?_
  refine c_flow [0, 1, 2, 3, 4, 5, 6, 7] [] [8] [] (by kernel_rfl) (by kernel_rfl) fun hB => ?_
  refine ps hF rfl rfl rfl rfl (fun w => r_move hF rfl rfl) fun a hF => ?_
  refine ps hF rfl rfl rfl rfl (fun w => r_move hF rfl rfl) fun a hF => ?_
  refine ps hF rfl rfl rfl rfl (fun w => r_move hF rfl rfl) fun a hF => ?_
  refine ps hF rfl rfl rfl rfl (fun w => zr hF rfl rfl (b_addn _ _ _ (by omega))) fun a hF => ?_
  refine ps hF rfl rfl rfl rfl (fun w => r_slice_sl hF _ _ rfl rfl Tryz.underlying22 ti27 ⟨_, rfl⟩ rfl (by omega)) fun a hF => ?_
  refine ps hF rfl rfl rfl rfl (fun w => r_move hF rfl rfl) fun a hF => ?_
  refine ps hF rfl rfl rfl rfl (fun w => r_move hF rfl rfl) fun a hF => ?_
  refine ps hF rfl rfl rfl rfl (fun w => r_slice_sl hF _ _ rfl rfl Tryz.underlying22 ti27 ⟨_, rfl⟩ rfl (by omega)) fun a hF => ?_
  refine fl_start [] hB (by kernel_rfl) hF ?_
  simp only [wo, hasN, Nat.reduceBEq, cond_true, cond_false] at hF ⊢
  intro a w hE hF hall
  replace hH := hH.ext hE
  clear hall
  rw [subA_lt (by omega), subA_lt (by omega)] at hF
  refine ls_copy (xs := xs.drop (i * 5)) 0 hF hH rfl rfl rfl rfl rfl rfl Tryz.underlying22 ti27 rfl (by rw [List.length_drop]; simp only [Nat.min_def]; split <;> omega) (.inr ⟨g, _, rfl, hsrc _ (hH.own _ (List.mem_cons_of_mem _ (List.mem_cons_self ..))).1⟩) (by rw [wr_size (by rw [hz]; omega), hz, List.length_drop]; omega) (fun u hu => h1 u (List.mem_of_mem_drop hu)) ?_
  intro a w hH hF
  simp only [List.set_cons_zero, Nat.zero_add] at hH
  refine wpList_nil ?_
  replace hF := hF.sel [9]
  simp only [ss, Nat.reduceBEq] at hF
  refine k4 ?_
  refine c_sr fun ops => ?_
  refine zm 2 hF rfl fun a hF => ?_
  refine c_n ?_
  replace hF := hF.sel [6]
  simp only [ss, Nat.reduceBEq] at hF
  refine wp_ret (t3.ret (hret (ret1 hF Tryz.results61 rfl ?_)))
  have hq := ins_new (cur := cur) (cap := cap9_8) hxl hnl (by omega : i < nn) (zs1 := Builtin.zeroCells (Value.agg #[Value.string (mk []), Value.int IntKind.u16 0, Value.int IntKind.u16 0, Value.int IntKind.u32 0, Value.slice none 0 0]).cells (nn + 1 - i)) (by rw [size_zeroCells]; rfl) hcap9_8 (zs2 := Builtin.zeroCells (Value.agg #[Value.string (mk []), Value.int IntKind.u16 0, Value.int IntKind.u16 0, Value.int IntKind.u32 0, Value.slice none 0 0]).cells (cap9_8 - (nn + 1))) (by rw [size_zeroCells]; rfl)
  exact ⟨[_], hH.sub (.cons_cons _ (.cons _ (List.Sublist.refl _))), by simp only [List.length_append, List.length_take, List.length_drop]; omega, .inr ⟨_, _, _, rfl, rfl, hcap9_8, hmx9_8, hq.1, hq.2⟩⟩
end Go.Proofs.YtcelgjabccgnmaaGreatDoor
