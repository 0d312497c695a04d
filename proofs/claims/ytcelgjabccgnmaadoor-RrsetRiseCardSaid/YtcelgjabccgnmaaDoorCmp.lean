/-
  The walk of name.Compare; copies of rows of texts; the first number that is not 0; where a text stands in a rising row. Nothing is claimed here.
-/
import Derived.Test.YtcelgjabccgnmaaDoorInsert
import Derived.Test.YtcelgjabccgnmaaDoorRef1
namespace Go.Proofs.YtcelgjabccgnmaaDoor
open Go.RowKit
set_option linter.unusedVariables false
set_option linter.unusedSimpArgs false
set_option maxHeartbeats 1000000

/-- What a call has made joins what is one's own. -/
theorem Hp.join {w0 w w' : World} {H B : List (Nat × Obj)} (h : Hp w0 w H) (hB : Hp w w' B) : Hp w0 w' (B ++ H) := by
  have h' := h.ext hB.below
  refine ⟨h'.below, fun p hp => ?_, ?_⟩
  · rcases List.mem_append.1 hp with hp | hp
    · have := hB.own p hp
      exact ⟨this.1, Nat.le_trans h.below.size this.2⟩
    · exact h'.own p hp
  · rw [List.map_append, List.nodup_append]
    refine ⟨hB.nodup, h.nodup, fun a ha b hb e => ?_⟩
    obtain ⟨p, hp, rfl⟩ := List.mem_map.1 ha
    obtain ⟨q, hq, rfl⟩ := List.mem_map.1 hb
    have h1 := (hB.own p hp).2
    have h2 := (Array.getElem?_eq_some_iff.1 (h.own q hq).1).1
    omega

theorem bcmp_cases (x y : Bs) : bcmp x y = -1 ∨ bcmp x y = 0 ∨ bcmp x y = 1 := by
  unfold bcmp; split
  · exact .inl rfl
  · split
    · exact .inr (.inr rfl)
    · exact .inr (.inl rfl)
theorem lcmp_cases : ∀ (x y : List Bs), lcmp x y = -1 ∨ lcmp x y = 0 ∨ lcmp x y = 1
  | [], [] => .inr (.inl rfl)
  | [], _ :: _ => .inl rfl
  | _ :: _, [] => .inr (.inr rfl)
  | x :: xs, y :: ys => by
    unfold lcmp; split
    · exact lcmp_cases xs ys
    · exact bcmp_cases x y
theorem icmp_lcmp (x y : List Bs) : icmp (lcmp x y) 0 = lcmp x y := by
  rcases lcmp_cases x y with h | h | h <;> rw [h] <;> rfl

theorem ncompare_spec (l m : Bs) (hl : l.length < 1000000) (hm : m.length < 1000000) (w0 : World) : Rets Tryd.prog 27 [.string (mk l), .string (mk m)] w0 fun v w' => v = .int .i64 (ncmp l m) ∧ Ext w0 w' := by
  have hH := Hp.refl w0
  refine rets_start Tryd.func27 rfl Tryd.ntmps27 rfl fun a Q0 hF hret hend => ?_
  simp only [argsFrom, Nat.zero_add, Nat.reduceAdd] at hF
  refine c_seq fun Q1 k1 t1 => ?_
  refine c_reg fun ops => ?_
  refine ls hF rfl rfl rfl (r_assign hF rfl rfl) fun a hF => ?_
  refine wpList_nil ?_
  replace hF := hF.sel [0, 1]
  simp only [sel, lk, Nat.reduceBEq, cond_true, cond_false] at hF
  refine k1 ?_
  refine c_seq fun Q2 k2 t2 => ?_
  refine c_reg fun ops => ?_
  refine ls hF rfl rfl rfl (r_move hF rfl rfl) fun a hF => ?_
  refine ls_call hF rfl rfl rfl rfl rfl fn54 (all_spec l (by omega) _) ?_
  rintro _ w ⟨sv, B, rfl, hB, hS⟩ a hF
  replace hH := hH.join hB
  refine ls hF rfl rfl rfl (r_move hF rfl rfl) fun a hF => ?_
  refine ls hF rfl rfl rfl (r_extract hF rfl rfl rfl) fun a hF => ?_
  refine ls hF rfl rfl rfl (r_extract hF rfl rfl rfl) fun a hF => ?_
  refine ls hF rfl rfl rfl (r_assign hF rfl rfl) fun a hF => ?_
  refine ls hF rfl rfl rfl (r_assign hF rfl rfl) fun a hF => ?_
  refine wpList_nil ?_
  replace hF := hF.sel [1, 5, 6]
  simp only [sel, lk, Nat.reduceBEq, cond_true, cond_false] at hF
  refine k2 ?_
  refine c_seq fun Q3 k3 t3 => ?_
  refine c_reg fun ops => ?_
  refine ls hF rfl rfl rfl (r_move hF rfl rfl) fun a hF => ?_
  refine ls_call hF rfl rfl rfl rfl rfl fn54 (all_spec m (by omega) _) ?_
  rintro _ w ⟨sv2, B2, rfl, hB2, hS2⟩ a hF
  replace hH := hH.join hB2
  refine ls hF rfl rfl rfl (r_move hF rfl rfl) fun a hF => ?_
  refine ls hF rfl rfl rfl (r_extract hF rfl rfl rfl) fun a hF => ?_
  refine ls hF rfl rfl rfl (r_extract hF rfl rfl rfl) fun a hF => ?_
  refine ls hF rfl rfl rfl (r_assign hF rfl rfl) fun a hF => ?_
  refine ls hF rfl rfl rfl (r_assign hF rfl rfl) fun a hF => ?_
  refine wpList_nil ?_
  replace hF := hF.sel [5, 6, 7, 8]
  simp only [sel, lk, Nat.reduceBEq, cond_true, cond_false] at hF
  refine k3 ?_
  refine c_seq fun Q4 k4 t4 => ?_
  refine c_seq fun Q5 k5 t5 => ?_
  refine c_regg ?_
  refine ls hF rfl rfl rfl (r_move hF rfl rfl) fun a hF => ?_
  refine ls hF rfl rfl rfl (r_not hF rfl rfl) fun a hF => ?_
  refine ls hF rfl rfl rfl (r_move hF rfl rfl) fun a hF => ?_
  refine ls_ask (d := 21) hF rfl (fun g3_2 => ?_) (fun g3_2 => ?_)
  ·
   have g3_2' := g3_2; try simp only [q1, q2, q3, q4, q5, q6, q7, q8, q9, qa, qb] at g3_2'
   refine lsn hF rfl rfl rfl g3_2 rfl rfl fun a hF => ?_
   refine lsn hF rfl rfl rfl g3_2 rfl rfl fun a hF => ?_
   refine ls hF rfl rfl rfl (r_pickt hF rfl rfl g3_2 rfl) fun a hF => ?_
   refine wpList_nil ?_
   replace hF := hF.sel [5, 7, 24]
   simp only [sel, lk, Nat.reduceBEq, cond_true, cond_false] at hF
   refine k5 ?_
   refine c_yes hF rfl rfl ?_
   refine c_seq fun Q6 k6 t6 => ?_
   refine c_reg fun ops => ?_
   refine ls hF rfl rfl rfl (r_assign hF rfl rfl) fun a hF => ?_
   refine wpList_nil ?_
   replace hF := hF.sel [4]
   simp only [sel, lk, Nat.reduceBEq, cond_true, cond_false] at hF
   refine k6 ?_
   refine wp_ret ?_
   refine t4.ret (hret (ret1 (fn := Tryd.f27) (t := 4) hF Tryd.results27 rfl ?_))
   exact ⟨by rw [ncmp_no (by simp_all)], hH.below⟩
  ·
   have g3_2' := g3_2; try simp only [q1, q2, q3, q4, q5, q6, q7, q8, q9, qa, qb] at g3_2'
   refine lsy hF rfl rfl rfl g3_2 rfl rfl (r_move hF rfl rfl) fun a hF => ?_
   refine lsy hF rfl rfl rfl g3_2 rfl rfl (r_not hF rfl rfl) fun a hF => ?_
   refine ls hF rfl rfl rfl (r_pickf hF rfl rfl g3_2 rfl) fun a hF => ?_
   refine wpList_nil ?_
   replace hF := hF.sel [5, 7, 24]
   simp only [sel, lk, Nat.reduceBEq, cond_true, cond_false] at hF
   refine k5 ?_
   refine c_if hF rfl (fun h24 => ?_) (fun h24 => ?_)
   ·
    try simp only [q1, q2, q3, q4, q5, q6, q7, q8, q9, qa, qb] at h24
    refine c_seq fun Q7 k7 t7 => ?_
    refine c_reg fun ops => ?_
    refine ls hF rfl rfl rfl (r_assign hF rfl rfl) fun a hF => ?_
    refine wpList_nil ?_
    replace hF := hF.sel [4]
    simp only [sel, lk, Nat.reduceBEq, cond_true, cond_false] at hF
    refine k7 ?_
    refine wp_ret ?_
    refine t4.ret (hret (ret1 (fn := Tryd.f27) (t := 4) hF Tryd.results27 rfl ?_))
    exact ⟨by rw [ncmp_no (by simp_all)], hH.below⟩
   ·
    try simp only [q1, q2, q3, q4, q5, q6, q7, q8, q9, qa, qb] at h24
    obtain ⟨xs, hxs⟩ : ∃ acc, split l = some acc := Option.isSome_iff_exists.1 (show (split l).isSome = true by simp_all [mayB])
    obtain ⟨ys, hys⟩ : ∃ acc, split m = some acc := Option.isSome_iff_exists.1 (show (split m).isSome = true by simp_all [mayB])
    have hn : ncmp l m = lcmp (xs.map low).reverse (ys.map low).reverse := by rw [ncmp, hxs, hys]
    have hlx := split_le hxs
    have hly := split_le hys
    rw [hxs] at hS
    rw [hys] at hS2
    simp only [Option.getD_some] at hS hS2
    refine wp_skip ?_
    refine k4 ?_
    refine c_seq fun Q8 k8 t8 => ?_
    refine c_reg fun ops => ?_
    refine ls hF rfl rfl rfl (r_move hF rfl rfl) fun a hF => ?_
    refine ls_call hF rfl rfl rfl rfl rfl fn58 (reverse_spec (H := B2) (B := B) (by simpa using hH.perm List.perm_append_comm) hS (strV_one _) (by omega)) ?_
    rintro _ w ⟨rfl, B', hH, hS⟩ a hF
    refine wpList_nil ?_
    replace hF := hF.sel [5, 7]
    simp only [sel, lk, Nat.reduceBEq, cond_true, cond_false] at hF
    refine k8 ?_
    refine c_seq fun Q9 k9 t9 => ?_
    refine c_reg fun ops => ?_
    refine ls hF rfl rfl rfl (r_move hF rfl rfl) fun a hF => ?_
    refine ls_call hF rfl rfl rfl rfl rfl fn58 (reverse_spec (H := B') (B := B2) (hH.perm List.perm_append_comm) hS2 (strV_one _) (by omega)) ?_
    rintro _ w ⟨rfl, B2', hH, hS2⟩ a hF
    refine wpList_nil ?_
    replace hF := hF.sel [5, 7]
    simp only [sel, lk, Nat.reduceBEq, cond_true, cond_false] at hF
    refine k9 ?_
    refine c_seq fun Q10 k10 t10 => ?_
    refine c_reg fun ops => ?_
    refine ls hF rfl rfl rfl (r_move hF rfl rfl) fun a hF => ?_
    refine ls hF rfl rfl rfl (r_move hF rfl rfl) fun a hF => ?_
    refine ls_call hF rfl rfl rfl rfl rfl fn60 (compare_spec (xs := (xs.map low).reverse) (ys := (ys.map low).reverse) (by simpa [strV, List.map_reverse] using hS.rsl hH fun p hp => List.mem_append_right _ hp) (by simpa [strV, List.map_reverse] using hS2.rsl hH fun p hp => List.mem_append_left _ hp) (by omega) (by omega)) ?_
    rintro _ w ⟨rfl, hE⟩ a hF
    replace hH := hH.ext hE
    refine ls_call hF rfl rfl rfl rfl rfl fn59 (cmpi_spec _ _ _) ?_
    rintro _ w ⟨rfl, hE⟩ a hF
    replace hH := hH.ext hE
    refine ls hF rfl rfl rfl (r_assign hF rfl rfl) fun a hF => ?_
    refine wpList_nil ?_
    replace hF := hF.sel [4]
    simp only [sel, lk, Nat.reduceBEq, cond_true, cond_false] at hF
    refine k10 ?_
    refine wp_ret ?_
    refine hret (ret1 (fn := Tryd.f27) (t := 4) hF Tryd.results27 rfl ?_)
    exact ⟨by rw [hn, icmp_lcmp], hH.below⟩

theorem clone_spec {w0 : World} {v : Value} {n : Nat} {xs : List Bs} (hv : RSl w0 1 v n (strV xs)) (hn : n < 1000000) :
    Rets Tryd.prog 63 [v] w0 fun r w' => ∃ B, Hp w0 w' B ∧ Sl 9 1 B r n (strV xs) := by
  have hH := Hp.refl w0
  have hv' := hv
  obtain ⟨hx, ad, cp, rfl, hnc, hcm, had⟩ := hv
  refine rets_start Tryd.func63 rfl Tryd.ntmps63 rfl fun a Q0 hF hret hend => ?_
  simp only [argsFrom, Nat.zero_add, Nat.reduceAdd] at hF
  refine c_seq fun Q1 k1 t1 => ?_
  refine c_reg fun ops => ?_
  refine ls hF rfl rfl rfl (r_assign hF rfl rfl) fun a hF => ?_
  refine wpList_nil ?_
  replace hF := hF.sel [0]
  simp only [sel, lk, Nat.reduceBEq, cond_true, cond_false] at hF
  refine k1 ?_
  refine c_seq fun Q2 k2 t2 => ?_
  refine c_seq fun Q3 k3 t3 => ?_
  refine c_reg fun ops => ?_
  refine ls hF rfl rfl rfl (r_move hF rfl rfl) fun a hF => ?_
  refine ls hF rfl rfl rfl (r_bin hF rfl rfl rfl rfl (b_slnil Tryd.underlying47)) fun a hF => ?_
  refine wpList_nil ?_
  replace hF := hF.sel [0, 4]
  simp only [sel, lk, Nat.reduceBEq, cond_true, cond_false] at hF
  refine k3 ?_
  refine c_if hF rfl (fun h4 => ?_) (fun h4 => ?_)
  ·
   try simp only [q1, q2, q3, q4, q5, q6, q7, q8, q9, qa, qb] at h4
   have hd : ad = none := by simpa using h4
   subst hd
   refine c_seq fun Q4 k4 t4 => ?_
   refine c_reg fun ops => ?_
   refine ls hF rfl rfl rfl (r_assign hF rfl rfl) fun a hF => ?_
   refine wpList_nil ?_
   replace hF := hF.sel [2]
   simp only [sel, lk, Nat.reduceBEq, cond_true, cond_false] at hF
   refine k4 ?_
   refine wp_ret ?_
   refine t2.ret (hret (ret1 (fn := Tryd.f63) (t := 2) hF Tryd.results63 rfl ?_))
   rcases had with ⟨_, _, rfl⟩ | ⟨b, off, h, _⟩
   · have : xs = [] := List.eq_nil_of_length_eq_zero (by simpa [strV] using hx)
     subst this
     exact ⟨[], hH, Sl.nil _ _⟩
   · cases h
  ·
   try simp only [q1, q2, q3, q4, q5, q6, q7, q8, q9, qa, qb] at h4
   refine wp_skip ?_
   refine k2 ?_
   refine c_seq fun Q5 k5 t5 => ?_
   refine c_reg fun ops => ?_
   refine ls_buildN (us := []) hF hH rfl rfl rfl rfl rfl rfl Tryd.underlying47 ti9 (fun _ h => (List.not_mem_nil h).elim) (by decide) ?_
   intro a w g3_0 hH hE hF
   have hS : Sl 9 1 [(g3_0, .cells #[] 9 (0, 0))] (.slice (some ⟨g3_0, 0, none⟩) 0 0) 0 [] := ⟨rfl, .inr ⟨g3_0, 0, _, rfl, rfl, Nat.le_refl _, Nat.zero_le _, rfl, rfl⟩⟩
   refine ls hF rfl rfl rfl (r_move hF rfl rfl) fun a hF => ?_
   refine ls_append0 hF hH rfl rfl rfl rfl rfl rfl Tryd.underlying47 ti9 hS (hv'.ext hH.below) (strV_one _) (by decide) (by omega) ?_
   intro a v3_2 w B3_2 hH hS hF
   refine ls hF rfl rfl rfl (r_assign hF rfl rfl) fun a hF => ?_
   refine wpList_nil ?_
   replace hF := hF.sel [2]
   simp only [sel, lk, Nat.reduceBEq, cond_true, cond_false] at hF
   refine k5 ?_
   refine wp_ret ?_
   refine hret (ret1 (fn := Tryd.f63) (t := 2) hF Tryd.results63 rfl ?_)
   rw [Nat.zero_add, List.nil_append] at hS
   exact ⟨_, hH, hS⟩

theorem orI_drop {xs : List Int} {i : Nat} (h : i < xs.length) : orI (xs.drop i) = if xs.getD i 0 ≠ 0 then xs.getD i 0 else orI (xs.drop (i + 1)) := by
  have e : xs.getD i 0 = xs[i] := by simp [List.getD_eq_getElem?_getD, h]
  rw [e, List.drop_eq_getElem_cons h, orI]
theorem or_spec {w0 : World} {v : Value} {n : Nat} {xs : List Int} (hv : RSl w0 1 v n (xs.map fun x => .int .i64 x)) (hn : n < 1000000) :
    Rets Tryd.prog 73 [v] w0 fun r w' => r = .int .i64 (orI xs) ∧ Ext w0 w' := by
  have hH := Hp.refl w0
  obtain ⟨hx, ad, cp, rfl, hnc, hcm, had⟩ := hv
  have hxl : n = xs.length := by rw [List.length_map] at hx; omega
  subst hxl
  refine rets_start Tryd.func73 rfl Tryd.ntmps73 rfl fun a Q0 hF hret hend => ?_
  simp only [argsFrom, Nat.zero_add, Nat.reduceAdd] at hF
  refine c_seq fun Q1 k1 t1 => ?_
  refine c_reg fun ops => ?_
  refine ls hF rfl rfl rfl (r_assign hF rfl rfl) fun a hF => ?_
  refine wpList_nil ?_
  replace hF := hF.sel [0]
  simp only [sel, lk, Nat.reduceBEq, cond_true, cond_false] at hF
  refine k1 ?_
  refine c_seq fun Q2 k2 t2 => ?_
  refine c_reg fun ops => ?_
  refine ls hF rfl rfl rfl (r_assign hF rfl rfl) fun a hF => ?_
  refine wpList_nil ?_
  replace hF := hF.sel [0, 3]
  simp only [sel, lk, Nat.reduceBEq, cond_true, cond_false] at hF
  refine k2 ?_
  refine c_seq fun Q3 k3 t3 => ?_
  refine c_seq fun Q4 k4 t4 => ?_
  refine c_reg fun ops => ?_
  refine ls hF rfl rfl rfl (r_move hF rfl rfl) fun a hF => ?_
  refine ls hF rfl rfl rfl (r_len_sl hF rfl rfl Tryd.underlying129) fun a hF => ?_
  refine ls hF rfl rfl rfl (r_move hF rfl rfl) fun a hF => ?_
  refine wpList_nil ?_
  replace hF := hF.sel [3, 6, 7, 8]
  simp only [sel, lk, Nat.reduceBEq, cond_true, cond_false] at hF
  refine k4 ?_
  refine c_block fun Q5 t5 => ?_
  refine c_loop (fun n a w => ∃ i, n = xs.length - i ∧ i ≤ xs.length ∧ orI xs = orI (xs.drop i) ∧ Fr 18 [(3, .int .i64 0), (6, .slice ad xs.length cp), (7, .int .i64 xs.length), (8, .int .i64 i)] a ∧ Hp w0 w []) ?_ ?_
  ·
   exact ⟨_, 0, rfl, Nat.zero_le _, rfl, hF.keep [3, 6, 7, 8] rfl, hH⟩
  ·
   intro n a w hI Q6 k6 t6
   obtain ⟨i, hn', hi, he, hF, hH⟩ := hI
   refine c_seq fun Q7 k7 t7 => ?_
   refine c_reg fun ops => ?_
   refine ls hF rfl rfl rfl (r_bin hF rfl rfl rfl rfl (b_ltn _ _ _ _)) fun a hF => ?_
   refine wpList_nil ?_
   refine k7 ?_
   refine c_seq fun Q8 k8 t8 => ?_
   refine c_if hF rfl (fun h9 => ?_) (fun h9 => ?_)
   ·
    try simp only [q1, q2, q3, q4, q5, q6, q7, q8, q9, qa, qb] at h9
    obtain ⟨b, off, rfl, hc⟩ : ∃ b off, ad = some ⟨b, off, none⟩ ∧ ∀ j u, (xs.map fun x => Value.int .i64 x)[j]? = some u → w0.cell? ⟨b, off + j, none⟩ = some u := by
      rcases had with ⟨_, _, h0⟩ | h
      · omega
      · exact h
    have hcell := hc i (.int .i64 (xs.getD i 0)) (by simp [List.getD_eq_getElem?_getD, h9])
    refine wp_skip ?_
    refine k8 ?_
    refine c_seq fun Q9 k9 t9 => ?_
    refine c_block fun Q10 t10 => ?_
    refine c_seq fun Q11 k11 t11 => ?_
    refine c_reg fun ops => ?_
    refine ls hF rfl rfl rfl (r_ix1 hF _ rfl rfl rfl Tryd.underlying129 ti3 (by omega)) fun a hF => ?_
    refine ls hF rfl rfl rfl (r_load hF rfl rfl fl3 (hH.cell hcell)) fun a hF => ?_
    refine ls hF rfl rfl rfl (r_assign hF rfl rfl) fun a hF => ?_
    refine wpList_nil ?_
    refine k11 ?_
    refine c_seq fun Q12 k12 t12 => ?_
    refine c_reg fun ops => ?_
    refine ls hF rfl rfl rfl (r_move hF rfl rfl) fun a hF => ?_
    refine ls hF rfl rfl rfl (r_move hF rfl rfl) fun a hF => ?_
    refine ls hF rfl rfl rfl (r_bin hF rfl rfl rfl rfl (b_ne _ _ _ _)) fun a hF => ?_
    refine wpList_nil ?_
    refine k12 ?_
    refine c_if hF rfl (fun h14 => ?_) (fun h14 => ?_)
    ·
     try simp only [q1, q2, q3, q4, q5, q6, q7, q8, q9, qa, qb] at h14
     refine c_seq fun Q13 k13 t13 => ?_
     refine c_reg fun ops => ?_
     refine ls hF rfl rfl rfl (r_move hF rfl rfl) fun a hF => ?_
     refine ls hF rfl rfl rfl (r_assign hF rfl rfl) fun a hF => ?_
     refine wpList_nil ?_
     refine k13 ?_
     refine wp_ret ?_
     refine t10.ret (t9.ret (t6.ret (t5.ret (t3.ret (hret (ret1 (fn := Tryd.f73) (t := 2) hF Tryd.results73 rfl ?_))))))
     exact ⟨by rw [he, orI_drop h9, if_pos h14], hH.below⟩
    ·
     try simp only [q1, q2, q3, q4, q5, q6, q7, q8, q9, qa, qb] at h14
     refine wp_skip ?_
     refine t10.norm ?_
     refine k9 ?_
     refine c_reg fun ops => ?_
     refine ls hF rfl rfl rfl (r_bin hF rfl rfl rfl rfl (b_addn _ _ 1 (by omega))) fun a hF => ?_
     refine ls hF rfl rfl rfl (r_move hF rfl rfl) fun a hF => ?_
     refine wpList_nil ?_
     refine k6 ?_
     exact ⟨xs.length - (i + 1), by omega, i + 1, rfl, by omega, by rw [he, orI_drop h9, if_neg (fun h => h h14)], hF.keep [3, 6, 7, 8] rfl, hH⟩
   ·
    try simp only [q1, q2, q3, q4, q5, q6, q7, q8, q9, qa, qb] at h9
    refine wp_exit (t8.exit (t6.exit (t5.here (?_))))
    refine k3 ?_
    refine c_seq fun Q14 k14 t14 => ?_
    refine c_reg fun ops => ?_
    refine ls hF rfl rfl rfl (r_move hF rfl rfl) fun a hF => ?_
    refine ls hF rfl rfl rfl (r_assign hF rfl rfl) fun a hF => ?_
    refine wpList_nil ?_
    replace hF := hF.sel [2]
    simp only [sel, lk, Nat.reduceBEq, cond_true, cond_false] at hF
    refine k14 ?_
    refine wp_ret ?_
    refine hret (ret1 (fn := Tryd.f73) (t := 2) hF Tryd.results73 rfl ?_)
    exact ⟨by rw [he, List.drop_eq_nil_of_le (by omega)]; rfl, hH.below⟩

/-- Data that rise. -/
def Rising : List Bs → Prop
  | [] => True
  | [_] => True
  | x :: y :: xs => bless x y = true ∧ Rising (y :: xs)
/-- How many stand ahead of a text. -/
def below (xs : List Bs) (y : Bs) : Nat := (xs.takeWhile fun x => bless x y).length
end Go.Proofs.YtcelgjabccgnmaaDoor
