/-
  The walks of package slices on rows of texts: reversal, comparison, search, copies. Nothing is claimed here.
-/
import Derived.Test.YtcelgjabccgnmaaGreatDoorOrd
namespace Go.Proofs.YtcelgjabccgnmaaGreatDoor
open Go.RowKit
set_option linter.unusedVariables false
set_option linter.unusedSimpArgs false
set_option maxHeartbeats 1000000

/-- The cells are turned about from both ends, i of them each. -/
def Turned (xs ys : List Value) (i : Nat) : Prop := ys.length = xs.length ∧ ∀ k, ys[k]? = if k < i ∨ xs.length ≤ k + i then xs.reverse[k]? else xs[k]?
theorem Turned.zero (xs : List Value) : Turned xs xs 0 := ⟨rfl, fun k => by
  split
  · rename_i h
    have : xs.length ≤ k := by omega
    rw [List.getElem?_eq_none this, List.getElem?_eq_none (by simpa using this)]
  · rfl⟩
theorem Turned.done {xs ys : List Value} {i : Nat} (h : Turned xs ys i) (hi : xs.length ≤ 2 * i + 1) : ys = xs.reverse := by
  refine List.ext_getElem? fun k => ?_
  rw [h.2 k]
  split
  · rfl
  · rename_i hk
    have hlt : k < xs.length := by omega
    rw [List.getElem?_reverse hlt]
    congr 1; omega
theorem Turned.step {xs ys : List Value} {i j : Nat} {u v : Value} (h : Turned xs ys i) (hj : i + j + 1 = xs.length) (hij : i < j) (hu : ys[j]? = some u) (hv : ys[i]? = some v) : Turned xs ((ys.set i u).set j v) (i + 1) := by
  refine ⟨by simpa using h.1, fun k => ?_⟩
  have hl := h.1
  have e1 : xs.reverse[i]? = some u := by
    rw [List.getElem?_reverse (by omega), show xs.length - 1 - i = j by omega, ← hu, h.2 j, if_neg (by omega)]
  have e2 : xs.reverse[j]? = some v := by
    rw [List.getElem?_reverse (by omega), show xs.length - 1 - j = i by omega, ← hv, h.2 i, if_neg (by omega)]
  rw [List.getElem?_set, List.getElem?_set]
  by_cases hk1 : j = k
  · subst hk1; rw [if_pos rfl, if_pos (by simp; omega), if_pos (by omega), e2]
  · rw [if_neg hk1]
    by_cases hk2 : i = k
    · subst hk2; rw [if_pos rfl, if_pos (by omega), if_pos (by omega), e1]
    · rw [if_neg hk2, h.2 k]
      have : (k < i ∨ xs.length ≤ k + i) ↔ (k < i + 1 ∨ xs.length ≤ k + (i + 1)) := by omega
      simp only [this]

theorem reverse_spec {w0 w : World} {B H : List (Nat × Obj)} {v : Value} {nn : Nat} {xs : List Value} (hH : Hp w0 w (B ++ H)) (hS : Sl 9 1 B v nn xs) (h1 : ∀ u ∈ xs, u.oneCell' = true) (hn : nn < 1000000) :
    Rets Tryz.prog 124 [v] w fun u w' => u = .tuple #[] ∧ ∃ B', Hp w0 w' (B' ++ H) ∧ Sl 9 1 B' v nn xs.reverse := by
  obtain ⟨ad, cp, hsv⟩ := hS.shape
  have hlen := hS.len
  subst hsv
  have h3 := Turned.zero xs
  refine rets_start Tryz.func124 rfl Tryz.ntmps124 rfl fun a Q0 hF hret hend => ?_
  simp only [argsFrom, Nat.zero_add, Nat.reduceAdd] at hF
  refine c_sr fun ops => ?_
  refine zm 1 hF rfl fun a hF => ?_
  refine zl hF rfl (r_len_sl hF rfl rfl Tryz.underlying25) fun a hF => ?_
  refine zb hF rfl rfl rfl (b_subi _ _ _ (by omega)) fun a hF => ?_
  refine zm 2 hF rfl fun a hF => ?_
  refine c_n ?_
  replace hF := hF.sel [0, 2, 3]
  simp only [ss, Nat.reduceBEq] at hF
  refine c_block fun Q1 t1 => ?_
  refine c_loop (fun n a w => ∃ i B ys, n = nn - i ∧ i ≤ nn ∧ Turned xs ys i ∧ (∀ u ∈ ys, u.oneCell' = true) ∧ Sl 9 1 B (.slice ad nn cp) nn ys ∧ Fr 28 [(0, .slice ad nn cp), (2, .int .i64 i), (3, .int .i64 ((nn : Int) - 1 - i))] a ∧ Hp w0 w (B ++ H)) ?_ ?_
  ·
   exact ⟨_, 0, B, xs, rfl, Nat.zero_le _, h3, h1, hS, hF.keep [0, 2, 3] (by simp [sel, lk]), hH⟩
  clear hS h3 hH hF
  intro n a w hI Q2 k2 t2
  obtain ⟨i, B, ys, hm, hi, h3, h1, hS, hF, hH⟩ := hI
  refine c_seq fun Q3 k3 t3 => ?_
  refine c_sr fun ops => ?_
  refine zm 2 hF rfl fun a hF => ?_
  refine zb hF rfl rfl rfl (b_lt _ _ _ _) fun a hF => ?_
  refine c_n ?_
  refine c_fi hF rfl (fun h9 => ?_) (fun h9 => ?_)
  ·
   try simp only [qq] at h9
   refine wp_exit (t3.exit (t2.exit (t1.here (?_))))
   refine hend (fall0 (fn := Tryz.f124) hF Tryz.results124 ?_)
   have := h3.done (by omega)
   subst this
   exact ⟨rfl, _, hH, hS⟩
  try simp only [qq] at h9
  obtain ⟨j, hj⟩ : ∃ j : Nat, (nn : Int) - 1 - i = j := ⟨nn - 1 - i, by omega⟩
  rw [hj] at hF h9
  obtain ⟨g, cap, cur, hv, rfl, hc1, hc2, hc3, hc4⟩ := hS.open (by omega)
  cases hv
  have hl := h3.1
  have hgi : ys[i]? = some (ys[i]'(by omega)) := by simp
  have hgj : ys[j]? = some (ys[j]'(by omega)) := by simp
  refine wp_skip ?_
  refine k3 ?_
  refine c_seq fun Q4 k4 t4 => ?_
  refine c_block fun Q5 t5 => ?_
  refine c_flow [0, 1, 2, 3, 4, 5, 6, 8, 9, 10] [7, 11, 12] [13, 14, 15] [] (by kernel_rfl) (by kernel_rfl) fun hB => ?_
  refine ps hF rfl rfl rfl rfl (fun w => r_move hF rfl rfl) fun a hF => ?_
  refine ps hF rfl rfl rfl rfl (fun w => r_move hF rfl rfl) fun a hF => ?_
  refine ps hF rfl rfl rfl rfl (fun w => r_move hF rfl rfl) fun a hF => ?_
  refine ps hF rfl rfl rfl rfl (fun w => r_move hF rfl rfl) fun a hF => ?_
  refine ps hF rfl rfl rfl rfl (fun w => r_move hF rfl rfl) fun a hF => ?_
  refine ps hF rfl rfl rfl rfl (fun w => r_move hF rfl rfl) fun a hF => ?_
  refine ps hF rfl rfl rfl rfl (fun w => r_ixown1 hF _ rfl rfl rfl Tryz.underlying25 ti9 (by omega)) fun a hF => ?_
  refine ps hF rfl rfl rfl rfl (fun w => r_move hF rfl rfl) fun a hF => ?_
  refine ps hF rfl rfl rfl rfl (fun w => r_move hF rfl rfl) fun a hF => ?_
  refine ps hF rfl rfl rfl rfl (fun w => r_ixown1 hF _ rfl rfl rfl Tryz.underlying25 ti9 (by omega)) fun a hF => ?_
  refine fl_start [21, 25, 26] hB (by kernel_rfl) hF ?_
  simp only [wo, hasN, Nat.reduceBEq, cond_true, cond_false] at hF ⊢
  refine fs1 rfl (by
   intro a w Lr hE hC hl
   replace hH := hH.ext hE
   have hF := hC.fr
   exact zl hF rfl (r_load hF rfl rfl fl9 (own_cell (i := 0) hH rfl (take_get hc4 hgj))) fun a' hF' => wpList_nil (fl_end hC hF' (Ext.refl _) rfl)) ?_
  refine fs1 rfl (by
   intro a w Lr hE hC hl
   replace hH := hH.ext hE
   have hF := hC.fr
   exact zl hF rfl (r_load hF rfl rfl fl9 (own_cell (i := 0) hH rfl (take_get hc4 hgi))) fun a' hF' => wpList_nil (fl_end hC hF' (Ext.refl _) rfl)) ?_
  refine fs1 rfl (by
   intro a w Lr hE hC hl
   replace hH := hH.ext hE
   have hF := hC.fr
   exact zl hF rfl (r_ixown1 hF _ rfl rfl rfl Tryz.underlying25 ti9 (by omega)) fun a' hF' => wpList_nil (fl_end hC hF' (Ext.refl _) rfl)) ?_
  intro a w hE hF hall
  replace hH := hH.ext hE
  obtain ⟨_, s21, rfl⟩ := hall 21 _ rfl
  replace hF := hF.more s21
  obtain ⟨_, s25, rfl⟩ := hall 25 _ rfl
  replace hF := hF.more s25
  obtain ⟨_, s26, rfl⟩ := hall 26 _ rfl
  replace hF := hF.more s26
  clear hall
  refine ls_store 0 hF hH rfl rfl rfl rfl rfl fl9 ti9 rfl (by omega) (by simp [noFreeze]) (h1 _ (List.getElem_mem _)) ?_
  intro w hH
  refine zl hF rfl (r_ixown1 hF _ rfl rfl rfl Tryz.underlying25 ti9 (by omega)) fun a hF => ?_
  refine ls_store 0 hF hH rfl rfl rfl rfl rfl fl9 ti9 rfl (by simp; omega) (by simp [noFreeze]) (h1 _ (List.getElem_mem _)) ?_
  intro w hH
  refine wpList_nil ?_
  refine t5.norm ?_
  refine k4 ?_
  refine c_reg fun ops => ?_
  refine zm 1 hF rfl fun a hF => ?_
  refine zb hF rfl rfl rfl (b_addn _ _ 1 (by omega)) fun a hF => ?_
  refine zm 1 hF rfl fun a hF => ?_
  refine zb hF rfl rfl rfl (b_subn _ _ 1 (by omega)) fun a hF => ?_
  refine zm 2 hF rfl fun a hF => ?_
  refine wpList_nil ?_
  refine k2 ?_
  refine ⟨nn - (i + 1), by omega, i + 1, _, _, rfl, by omega, h3.step (by omega) (by omega) hgj hgi, ?_, Sl.set _ _ (by simpa using hS.len) hc1 hc2 (by simpa using hc3) (by rw [Array.toList_setIfInBounds, List.take_set, hc4]), ?_, hH⟩
  · intro u hu
    rcases List.mem_or_eq_of_mem_set hu with hu | rfl
    · rcases List.mem_or_eq_of_mem_set hu with hu | rfl
      · exact h1 u hu
      · exact h1 _ (List.getElem_mem _)
    · exact h1 _ (List.getElem_mem _)
  · have : (nn : Int) - 1 - ((i + 1 : Nat) : Int) = ((j - 1 : Nat) : Int) := by omega
    rw [this]; exact hF.keep [0, 2, 3] rfl

/-- Reading a row of texts. -/
theorem RSl.at {w : World} {ad : Option Addr} {cap n : Nat} {xs : List Bs} (h : RSl w 1 (.slice ad n cap) n (strV xs)) {i : Nat} (hi : i < xs.length) :
    ∃ b off, ad = some ⟨b, off, none⟩ ∧ w.cell? ⟨b, off + i, none⟩ = some (.string (mk (xs.getD i []))) := by
  obtain ⟨h1, ad', cap', hv, _, _, h3⟩ := h
  cases hv
  rw [strV_length] at h1
  rcases h3 with ⟨_, _, h0⟩ | ⟨b, off, rfl, hc⟩
  · omega
  · exact ⟨b, off, rfl, hc i _ (strV_get hi)⟩
theorem RSl.shape {w : World} {size n : Nat} {v : Value} {xs : List Value} (h : RSl w size v n xs) : ∃ ad cap, v = .slice ad n cap := by
  obtain ⟨_, ad, cap, hv, _⟩ := h; exact ⟨ad, cap, hv⟩
theorem RSl.nlen {w : World} {v : Value} {n : Nat} {xs : List Bs} (h : RSl w 1 v n (strV xs)) : n = xs.length := by
  have := h.1; rw [strV_length] at this; omega

theorem lcmp_drop {xs ys : List Bs} {i : Nat} (h1 : i < xs.length) (h2 : i < ys.length) : lcmp (xs.drop i) (ys.drop i) = if bcmp (xs.getD i []) (ys.getD i []) = 0 then lcmp (xs.drop (i + 1)) (ys.drop (i + 1)) else bcmp (xs.getD i []) (ys.getD i []) := by
  have e1 : xs.getD i [] = xs[i] := by simp [List.getD_eq_getElem?_getD, h1]
  have e2 : ys.getD i [] = ys[i] := by simp [List.getD_eq_getElem?_getD, h2]
  rw [e1, e2, List.drop_eq_getElem_cons h1, List.drop_eq_getElem_cons h2, lcmp]

theorem compare_spec {w0 : World} {v u : Value} {n m : Nat} {xs ys : List Bs} (hv : RSl w0 1 v n (strV xs)) (hu : RSl w0 1 u m (strV ys)) (hn : n < 1000000) (hm : m < 1000000) :
    Rets Tryz.prog 126 [v, u] w0 fun r w' => r = .int .i64 (lcmp xs ys) ∧ Ext w0 w' := by
  have hH := Hp.refl w0
  obtain ⟨ad, cp, rfl⟩ := hv.shape
  obtain ⟨bd, cq, rfl⟩ := hu.shape
  have hln := hv.nlen
  have hlm := hu.nlen
  subst hln hlm
  refine rets_start Tryz.func126 rfl Tryz.ntmps126 rfl fun a Q0 hF hret hend => ?_
  simp only [argsFrom, Nat.zero_add, Nat.reduceAdd] at hF
  refine c_sr fun ops => ?_
  refine zm 1 hF rfl fun a hF => ?_
  refine c_n ?_
  replace hF := hF.sel [0, 1]
  simp only [ss, Nat.reduceBEq] at hF
  refine c_seq fun Q1 k1 t1 => ?_
  refine c_sr fun ops => ?_
  refine zm 1 hF rfl fun a hF => ?_
  refine zl hF rfl (r_len_sl hF rfl rfl Tryz.underlying25) fun a hF => ?_
  refine zm 1 hF rfl fun a hF => ?_
  refine c_n ?_
  replace hF := hF.sel [0, 1, 9, 10, 11]
  simp only [ss, Nat.reduceBEq] at hF
  refine c_block fun Q2 t2 => ?_
  refine c_loop (fun n a w => ∃ i, n = xs.length - i ∧ i ≤ xs.length ∧ i ≤ ys.length ∧ lcmp xs ys = lcmp (xs.drop i) (ys.drop i) ∧ Fr 36 [(0, .slice ad xs.length cp), (1, .slice bd ys.length cq), (9, .slice ad xs.length cp), (10, .int .i64 xs.length), (11, .int .i64 i)] a ∧ Hp w0 w []) ?_ ?_
  ·
   exact ⟨_, 0, rfl, Nat.zero_le _, Nat.zero_le _, rfl, hF.keep [0, 1, 9, 10, 11] rfl, hH⟩
  intro n a w hI Q3 k3 t3
  obtain ⟨i, hn', hi, hi2, he, hF, hH⟩ := hI
  refine c_sr fun ops => ?_
  refine zb hF rfl rfl rfl (b_ltn _ _ _ _) fun a hF => ?_
  refine c_n ?_
  refine c_seq fun Q4 k4 t4 => ?_
  refine c_fi hF rfl (fun h12 => ?_) (fun h12 => ?_)
  ·
   try simp only [qq] at h12
   have e1 : xs.drop i = [] := List.drop_eq_nil_of_le (by omega)
   refine wp_exit (t4.exit (t3.exit (t2.here (?_))))
   refine k1 ?_
   refine c_seq fun Q8 k8 t8 => ?_
   refine c_sr fun ops => ?_
   refine zm 1 hF rfl fun a hF => ?_
   refine zl hF rfl (r_len_sl hF rfl rfl Tryz.underlying25) fun a hF => ?_
   refine zm 1 hF rfl fun a hF => ?_
   refine zl hF rfl (r_len_sl hF rfl rfl Tryz.underlying25) fun a hF => ?_
   refine zb hF rfl rfl rfl (b_ltn _ _ _ _) fun a hF => ?_
   refine c_n ?_
   replace hF := hF.sel [35]
   simp only [ss, Nat.reduceBEq] at hF
   refine c_if hF rfl (fun h35 => ?_) (fun h35 => ?_)
   ·
    try simp only [qq] at h35
    refine c_sr fun ops => ?_
    refine zm 1 hF rfl fun a hF => ?_
    refine c_n ?_
    replace hF := hF.sel [4]
    simp only [ss, Nat.reduceBEq] at hF
    refine wp_ret (t8.ret (hret (ret1 hF Tryz.results126 rfl ?_)))
    rw [he, e1, List.drop_eq_getElem_cons (show i < ys.length by omega)]
    exact ⟨rfl, hH.below⟩
   try simp only [qq] at h35
   refine wp_skip ?_
   refine k8 ?_
   refine c_sr fun ops => ?_
   refine zm 1 hF rfl fun a hF => ?_
   refine c_n ?_
   replace hF := hF.sel [4]
   simp only [ss, Nat.reduceBEq] at hF
   refine wp_ret (hret (ret1 hF Tryz.results126 rfl ?_))
   rw [he, e1, List.drop_eq_nil_of_le (show ys.length ≤ i by omega)]
   exact ⟨rfl, hH.below⟩
  try simp only [qq] at h12
  obtain ⟨b, off, rfl, hc⟩ := hv.at h12
  refine wp_skip ?_
  refine k4 ?_
  refine c_seq fun Q5 k5 t5 => ?_
  refine c_block fun Q6 t6 => ?_
  refine c_sr fun ops => ?_
  refine zm 1 hF rfl fun a hF => ?_
  refine zl hF rfl (r_ix1 hF _ rfl rfl rfl Tryz.underlying25 ti9 (by omega)) fun a hF => ?_
  refine zl hF rfl (r_load hF rfl rfl fl9 (hH.cell hc)) fun a hF => ?_
  refine zm 2 hF rfl fun a hF => ?_
  refine c_n ?_
  refine c_seq fun Q7 k7 t7 => ?_
  refine c_sr fun ops => ?_
  refine zm 2 hF rfl fun a hF => ?_
  refine zl hF rfl (r_len_sl hF rfl rfl Tryz.underlying25) fun a hF => ?_
  refine zb hF rfl rfl rfl (b_gen _ _ _ _) fun a hF => ?_
  refine c_n ?_
  refine c_if hF rfl (fun h19 => ?_) (fun h19 => ?_)
  ·
   try simp only [qq] at h19
   have e2 : ys.drop i = [] := List.drop_eq_nil_of_le h19
   refine c_sr fun ops => ?_
   refine zm 1 hF rfl fun a hF => ?_
   refine c_n ?_
   refine wp_ret (t7.ret (t6.ret (t5.ret (t3.ret (t2.ret (t1.ret (hret (ret1 hF Tryz.results126 rfl ?_))))))))
   rw [he, List.drop_eq_getElem_cons h12, e2]
   exact ⟨rfl, hH.below⟩
  try simp only [qq] at h19
  obtain ⟨b', off', rfl, hc'⟩ := hu.at (i := i) (by omega)
  refine wp_skip ?_
  refine k7 ?_
  refine c_sr fun ops => ?_
  refine zm 2 hF rfl fun a hF => ?_
  refine zl hF rfl (r_ix1 hF _ rfl rfl rfl Tryz.underlying25 ti9 (by omega)) fun a hF => ?_
  refine zl hF rfl (r_load hF rfl rfl fl9 (hH.cell hc')) fun a hF => ?_
  refine zm 1 hF rfl fun a hF => ?_
  refine c_n ?_
  refine c_sr fun ops => ?_
  refine zm 2 hF rfl fun a hF => ?_
  refine zc hF rfl rfl fn142 (cmps_spec _ _ _) ?_
  rintro _ w ⟨rfl, hE⟩ a hF
  replace hH := hH.ext hE
  refine zm 1 hF rfl fun a hF => ?_
  refine c_n ?_
  refine c_sr fun ops => ?_
  refine zm 1 hF rfl fun a hF => ?_
  refine zb hF rfl rfl rfl (b_ne _ _ _ _) fun a hF => ?_
  refine c_n ?_
  refine c_if hF rfl (fun h28 => ?_) (fun h28 => ?_)
  ·
   try simp only [qq] at h28
   refine c_sr fun ops => ?_
   refine zm 2 hF rfl fun a hF => ?_
   refine c_n ?_
   refine wp_ret (t6.ret (t5.ret (t3.ret (t2.ret (t1.ret (hret (ret1 hF Tryz.results126 rfl ?_)))))))
   rw [he, lcmp_drop h12 (by omega), if_neg h28]
   exact ⟨rfl, hH.below⟩
  try simp only [qq] at h28
  refine wp_skip ?_
  refine t6.norm ?_
  refine k5 ?_
  refine c_reg fun ops => ?_
  refine zb hF rfl rfl rfl (b_addn _ _ 1 (by omega)) fun a hF => ?_
  refine zm 1 hF rfl fun a hF => ?_
  refine wpList_nil ?_
  refine k3 ?_
  exact ⟨xs.length - (i + 1), by omega, i + 1, rfl, by omega, by omega, by rw [he, lcmp_drop h12 (by omega), if_pos h28], hF.keep [0, 1, 9, 10, 11] rfl, hH⟩

/-- Where a text stands first. -/
def ixOf : List Bs → Bs → Nat → Int
  | [], _, _ => -1
  | x :: xs, y, i => if y = x then i else ixOf xs y (i + 1)
theorem ixOf_drop {xs : List Bs} {y : Bs} {i : Nat} (h1 : i < xs.length) : ixOf (xs.drop i) y i = if y = xs.getD i [] then (i : Int) else ixOf (xs.drop (i + 1)) y (i + 1) := by
  have e1 : xs.getD i [] = xs[i] := by simp [List.getD_eq_getElem?_getD, h1]
  rw [e1, List.drop_eq_getElem_cons h1, ixOf]
theorem ixOf_mem : ∀ (xs : List Bs) (y : Bs) (i : Nat), decide (0 ≤ ixOf xs y i) = decide (y ∈ xs)
  | [], y, i => by simp [ixOf]
  | x :: xs, y, i => by
    unfold ixOf
    by_cases h : y = x
    · subst h; simp
    · rw [if_neg h, ixOf_mem xs y (i + 1)]; simp [h]

theorem index_spec {w0 : World} {v : Value} {n : Nat} {xs : List Bs} (y : Bs) (hv : RSl w0 1 v n (strV xs)) (hn : n < 1000000) :
    Rets Tryz.prog 113 [v, .string (mk y)] w0 fun r w' => r = .int .i64 (ixOf xs y 0) ∧ Ext w0 w' := by
  have hH := Hp.refl w0
  obtain ⟨ad, cp, rfl⟩ := hv.shape
  have hln := hv.nlen
  subst hln
  refine rets_start Tryz.func113 rfl Tryz.ntmps113 rfl fun a Q0 hF hret hend => ?_
  simp only [argsFrom, Nat.zero_add, Nat.reduceAdd] at hF
  refine c_sr fun ops => ?_
  refine zm 1 hF rfl fun a hF => ?_
  refine c_n ?_
  replace hF := hF.sel [0, 1]
  simp only [ss, Nat.reduceBEq] at hF
  refine c_seq fun Q1 k1 t1 => ?_
  refine c_sr fun ops => ?_
  refine zm 1 hF rfl fun a hF => ?_
  refine zl hF rfl (r_len_sl hF rfl rfl Tryz.underlying25) fun a hF => ?_
  refine zm 1 hF rfl fun a hF => ?_
  refine c_n ?_
  replace hF := hF.sel [0, 1, 7, 8]
  simp only [ss, Nat.reduceBEq] at hF
  refine c_block fun Q2 t2 => ?_
  refine c_loop (fun n a w => ∃ i, n = xs.length - i ∧ i ≤ xs.length ∧ ixOf xs y 0 = ixOf (xs.drop i) y i ∧ Fr 19 [(0, .slice ad xs.length cp), (1, .string (mk y)), (7, .int .i64 xs.length), (8, .int .i64 i)] a ∧ Hp w0 w []) ?_ ?_
  ·
   exact ⟨_, 0, rfl, Nat.zero_le _, rfl, hF.keep [0, 1, 7, 8] rfl, hH⟩
  intro n a w hI Q3 k3 t3
  obtain ⟨i, hn', hi, he, hF, hH⟩ := hI
  refine c_sr fun ops => ?_
  refine zb hF rfl rfl rfl (b_ltn _ _ _ _) fun a hF => ?_
  refine c_n ?_
  refine c_seq fun Q4 k4 t4 => ?_
  refine c_fi hF rfl (fun h9 => ?_) (fun h9 => ?_)
  ·
   try simp only [qq] at h9
   refine wp_exit (t4.exit (t3.exit (t2.here (?_))))
   refine k1 ?_
   refine c_sr fun ops => ?_
   refine zm 1 hF rfl fun a hF => ?_
   refine c_n ?_
   replace hF := hF.sel [4]
   simp only [ss, Nat.reduceBEq] at hF
   refine wp_ret (hret (ret1 hF Tryz.results113 rfl ?_))
   rw [he, List.drop_eq_nil_of_le (by omega)]
   exact ⟨rfl, hH.below⟩
  try simp only [qq] at h9
  obtain ⟨b, off, rfl, hc⟩ := hv.at h9
  refine wp_skip ?_
  refine k4 ?_
  refine c_seq fun Q5 k5 t5 => ?_
  refine c_block fun Q6 t6 => ?_
  refine c_sr fun ops => ?_
  refine zm 2 hF rfl fun a hF => ?_
  refine c_n ?_
  refine c_sr fun ops => ?_
  refine zm 3 hF rfl fun a hF => ?_
  refine zl hF rfl (r_ix1 hF _ rfl rfl rfl Tryz.underlying25 ti9 (by omega)) fun a hF => ?_
  refine zl hF rfl (r_load hF rfl rfl fl9 (hH.cell hc)) fun a hF => ?_
  refine zb hF rfl rfl rfl (b_seq _ _ _) fun a hF => ?_
  refine c_n ?_
  refine c_if hF rfl (fun h16 => ?_) (fun h16 => ?_)
  ·
   try simp only [qq] at h16
   refine c_sr fun ops => ?_
   refine zm 2 hF rfl fun a hF => ?_
   refine c_n ?_
   refine wp_ret (t6.ret (t5.ret (t3.ret (t2.ret (t1.ret (hret (ret1 hF Tryz.results113 rfl ?_)))))))
   rw [he, ixOf_drop h9, if_pos h16]
   exact ⟨rfl, hH.below⟩
  try simp only [qq] at h16
  refine wp_skip ?_
  refine t6.norm ?_
  refine k5 ?_
  refine c_reg fun ops => ?_
  refine zb hF rfl rfl rfl (b_addn _ _ 1 (by omega)) fun a hF => ?_
  refine zm 1 hF rfl fun a hF => ?_
  refine wpList_nil ?_
  refine k3 ?_
  exact ⟨xs.length - (i + 1), by omega, i + 1, rfl, by omega, by rw [he, ixOf_drop h9, if_neg h16], hF.keep [0, 1, 7, 8] rfl, hH⟩
theorem contains_spec {w0 : World} {v : Value} {n : Nat} {xs : List Bs} (y : Bs) (hv : RSl w0 1 v n (strV xs)) (hn : n < 1000000) :
    Rets Tryz.prog 79 [v, .string (mk y)] w0 fun r w' => r = .bool (decide (y ∈ xs)) ∧ Ext w0 w' := by
  have hH := Hp.refl w0
  refine rets_start Tryz.func79 rfl Tryz.ntmps79 rfl fun a Q0 hF hret hend => ?_
  simp only [argsFrom, Nat.zero_add, Nat.reduceAdd] at hF
  refine c_sr fun ops => ?_
  refine zm 1 hF rfl fun a hF => ?_
  refine c_n ?_
  replace hF := hF.sel [0, 1]
  simp only [ss, Nat.reduceBEq] at hF
  refine c_sr fun ops => ?_
  refine zm 2 hF rfl fun a hF => ?_
  refine zc hF rfl rfl fn113 (index_spec y (by simpa using hv.ext hH.below) hn) ?_
  rintro _ w ⟨rfl, hE⟩ a hF
  replace hH := hH.ext hE
  refine zb hF rfl rfl rfl (b_ge _ _ _ _) fun a hF => ?_
  refine zm 1 hF rfl fun a hF => ?_
  refine c_n ?_
  replace hF := hF.sel [4]
  simp only [ss, Nat.reduceBEq] at hF
  refine wp_ret (hret (ret1 hF Tryz.results79 rfl ?_))
  exact ⟨by rw [ixOf_mem], hH.below⟩

theorem equal_spec {w0 : World} {v u : Value} {n m : Nat} {xs ys : List Bs} (hv : RSl w0 1 v n (strV xs)) (hu : RSl w0 1 u m (strV ys)) (hn : n < 1000000) (hm : m < 1000000) :
    Rets Tryz.prog 55 [v, u] w0 fun r w' => r = .bool (decide (xs = ys)) ∧ Ext w0 w' := by
  have hH := Hp.refl w0
  obtain ⟨ad, cp, rfl⟩ := hv.shape
  obtain ⟨bd, cq, rfl⟩ := hu.shape
  have hln := hv.nlen
  have hlm := hu.nlen
  subst hln hlm
  refine rets_start Tryz.func55 rfl Tryz.ntmps55 rfl fun a Q0 hF hret hend => ?_
  simp only [argsFrom, Nat.zero_add, Nat.reduceAdd] at hF
  refine c_sr fun ops => ?_
  refine zm 1 hF rfl fun a hF => ?_
  refine c_n ?_
  replace hF := hF.sel [0, 1]
  simp only [ss, Nat.reduceBEq] at hF
  refine c_seq fun Q1 k1 t1 => ?_
  refine c_sr fun ops => ?_
  refine zm 1 hF rfl fun a hF => ?_
  refine zl hF rfl (r_len_sl hF rfl rfl Tryz.underlying25) fun a hF => ?_
  refine zm 1 hF rfl fun a hF => ?_
  refine zl hF rfl (r_len_sl hF rfl rfl Tryz.underlying25) fun a hF => ?_
  refine zb hF rfl rfl rfl (b_nen _ _ _ _) fun a hF => ?_
  refine c_n ?_
  replace hF := hF.sel [0, 1, 10]
  simp only [ss, Nat.reduceBEq] at hF
  refine c_if hF rfl (fun h10 => ?_) (fun h10 => ?_)
  ·
   try simp only [qq] at h10
   refine c_sr fun ops => ?_
   refine zm 1 hF rfl fun a hF => ?_
   refine c_n ?_
   replace hF := hF.sel [4]
   simp only [ss, Nat.reduceBEq] at hF
   refine wp_ret (t1.ret (hret (ret1 hF Tryz.results55 rfl ?_)))
   exact ⟨by rw [decide_eq_false (fun e => h10 (by rw [e]))], hH.below⟩
  try simp only [qq] at h10
  refine wp_skip ?_
  refine k1 ?_
  refine c_seq fun Q2 k2 t2 => ?_
  refine c_sr fun ops => ?_
  refine zm 1 hF rfl fun a hF => ?_
  refine zl hF rfl (r_len_sl hF rfl rfl Tryz.underlying25) fun a hF => ?_
  refine zm 1 hF rfl fun a hF => ?_
  refine c_n ?_
  replace hF := hF.sel [0, 1, 12, 13]
  simp only [ss, Nat.reduceBEq] at hF
  refine c_block fun Q3 t3 => ?_
  refine c_loop (fun n a w => ∃ i, n = xs.length - i ∧ i ≤ xs.length ∧ xs.take i = ys.take i ∧ Fr 26 [(0, .slice ad xs.length cp), (1, .slice bd ys.length cq), (12, .int .i64 xs.length), (13, .int .i64 i)] a ∧ Hp w0 w []) ?_ ?_
  ·
   exact ⟨_, 0, rfl, Nat.zero_le _, rfl, hF.keep [0, 1, 12, 13] rfl, hH⟩
  intro n a w hI Q4 k4 t4
  obtain ⟨i, hn', hi, he, hF, hH⟩ := hI
  refine c_sr fun ops => ?_
  refine zb hF rfl rfl rfl (b_ltn _ _ _ _) fun a hF => ?_
  refine c_n ?_
  refine c_seq fun Q5 k5 t5 => ?_
  refine c_fi hF rfl (fun h14 => ?_) (fun h14 => ?_)
  ·
   try simp only [qq] at h14
   refine wp_exit (t5.exit (t4.exit (t3.here (?_))))
   refine k2 ?_
   refine c_sr fun ops => ?_
   refine zm 1 hF rfl fun a hF => ?_
   refine c_n ?_
   replace hF := hF.sel [4]
   simp only [ss, Nat.reduceBEq] at hF
   refine wp_ret (hret (ret1 hF Tryz.results55 rfl ?_))
   rw [List.take_of_length_le (by omega), List.take_of_length_le (by omega)] at he
   exact ⟨by rw [decide_eq_true he], hH.below⟩
  try simp only [qq] at h14
  obtain ⟨b, off, rfl, hc⟩ := hv.at h14
  obtain ⟨b', off', rfl, hc'⟩ := hu.at (i := i) (by omega)
  have e1 : xs.getD i [] = xs[i] := by simp [List.getD_eq_getElem?_getD, h14]
  have e2 : ys.getD i [] = ys[i]'(by omega) := by simp [List.getD_eq_getElem?_getD, show i < ys.length by omega]
  refine wp_skip ?_
  refine k5 ?_
  refine c_seq fun Q6 k6 t6 => ?_
  refine c_block fun Q7 t7 => ?_
  refine c_sr fun ops => ?_
  refine zm 2 hF rfl fun a hF => ?_
  refine c_n ?_
  refine c_seq fun Q8 k8 t8 => ?_
  refine q_reg (by kernel_rfl) (by kernel_rfl) ?_
  refine qs hF rfl rfl rfl (fun w hw => r_move hF rfl rfl) fun a hF => ?_
  refine qs hF rfl rfl rfl (fun w hw => r_move hF rfl rfl) fun a hF => ?_
  refine qs hF rfl rfl rfl (fun w hw => r_ix1 hF _ rfl rfl rfl Tryz.underlying25 ti9 (by omega)) fun a hF => ?_
  refine qs hF rfl rfl rfl (fun w hw => r_load hF rfl rfl fl9 (hw.cell (hH.cell hc))) fun a hF => ?_
  refine qs hF rfl rfl rfl (fun w hw => r_move hF rfl rfl) fun a hF => ?_
  refine qs hF rfl rfl rfl (fun w hw => r_move hF rfl rfl) fun a hF => ?_
  refine qs hF rfl rfl rfl (fun w hw => r_ix1 hF _ rfl rfl rfl Tryz.underlying25 ti9 (by omega)) fun a hF => ?_
  refine qs hF rfl rfl rfl (fun w hw => r_load hF rfl rfl fl9 (hw.cell (hH.cell hc'))) fun a hF => ?_
  refine qs hF rfl rfl rfl (fun w hw => zr hF rfl rfl (b_sne _ _ _)) fun a hF => ?_
  refine q_nil fun w hE => ?_
  replace hH := hH.ext hE
  refine k8 ?_
  refine c_if hF rfl (fun h24 => ?_) (fun h24 => ?_)
  ·
   try simp only [qq] at h24
   refine c_sr fun ops => ?_
   refine zm 1 hF rfl fun a hF => ?_
   refine c_n ?_
   refine wp_ret (t7.ret (t6.ret (t4.ret (t3.ret (t2.ret (hret (ret1 hF Tryz.results55 rfl ?_)))))))
   exact ⟨by rw [decide_eq_false (fun e => h24 (by rw [e]))], hH.below⟩
  try simp only [qq] at h24
  refine wp_skip ?_
  refine t7.norm ?_
  refine k6 ?_
  refine c_reg fun ops => ?_
  refine zb hF rfl rfl rfl (b_addn _ _ 1 (by omega)) fun a hF => ?_
  refine zm 1 hF rfl fun a hF => ?_
  refine wpList_nil ?_
  refine k4 ?_
  refine ⟨xs.length - (i + 1), by omega, i + 1, rfl, by omega, ?_, hF.keep [0, 1, 12, 13] rfl, hH⟩
  rw [List.take_succ_eq_append_getElem h14, List.take_succ_eq_append_getElem (by omega), he, ← e1, ← e2, h24]
end Go.Proofs.YtcelgjabccgnmaaGreatDoor
