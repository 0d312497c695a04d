/-
  The walks of comp.Read and of the document's layer 4: a name at a place of a message. Nothing is claimed here.
-/
import Derived.Test.YtpoebplhemimmaaGreatDoorCur
namespace Go.Proofs.YtpoebplhemimmaaGreatDoor
open Go.RowKit
set_option linter.unusedVariables false
set_option linter.unusedSimpArgs false
set_option maxHeartbeats 1000000

def rdV (r : Nat × Bs × Nat) : Value := .tuple #[.string (mk r.2.1), .int .i64 r.2.2, .int .i64 r.1]

theorem label_eq {msg : Bs} {p k : Nat} (h : p < msg.length) : (msg.take (p + 1 + k)).drop p = msg.getD p 0 :: (msg.drop (p + 1)).take k := by
  have e : msg.getD p 0 = msg[p] := by simp [List.getD_eq_getElem?_getD, h]
  rw [e, List.drop_take, List.drop_eq_getElem_cons h, show p + 1 + k - p = k + 1 by omega, List.take_succ_cons]


theorem compRead_spec (msg : Bs) (q : Nat) (hs : msg.length < 1000000) (w0 : World) (hG : GW w0) : Rets Tryz.prog 56 [.string (mk msg), .int .i64 q] w0 fun v w' => v = rdV (readAt msg q) ∧ Ext w0 w' := by
  have hH := Hp.refl w0
  refine rets_start Tryz.func56 rfl Tryz.ntmps56 rfl fun a Q0 hF hret hend => ?_
  simp only [argsFrom, Nat.zero_add, Nat.reduceAdd] at hF
  refine c_sr fun ops => ?_
  refine zm 3 hF rfl fun a hF => ?_
  refine c_n ?_
  replace hF := hF.sel [0, 1, 5]
  simp only [ss, Nat.reduceBEq] at hF
  refine c_sr fun ops => ?_
  refine zm 1 hF rfl fun a hF => ?_
  refine zc hF rfl rfl fn22 (new_spec msg _) ?_
  rintro _ w ⟨g, rfl, hC⟩ a hF
  replace hH := hH.join hC
  refine zm 1 hF rfl fun a hF => ?_
  refine c_n ?_
  replace hF := hF.sel [1, 5, 7]
  simp only [ss, Nat.reduceBEq] at hF
  refine c_seq fun Q1 k1 t1 => ?_
  refine c_sr fun ops => ?_
  refine zm 2 hF rfl fun a hF => ?_
  refine zc hF rfl rfl fn23 (seek_spec' q hH hs) ?_
  rintro _ w ⟨rfl, hH⟩ a hF
  refine zb hF rfl rfl rfl (b_nen _ _ _ 0) fun a hF => ?_
  refine c_n ?_
  replace hF := hF.sel [1, 5, 7, 23]
  simp only [ss, Nat.reduceBEq] at hF
  refine c_if hF rfl (fun h23 => ?_) (fun h23 => ?_)
  ·
   try simp only [qq] at h23
   have h23' : msg.length < q := by
     by_cases hx : q ≤ msg.length
     · rw [if_pos hx] at h23; simp at h23
     · omega
   refine c_sr fun ops => ?_
   refine zm 3 hF rfl fun a hF => ?_
   refine c_n ?_
   replace hF := hF.sel [4, 5, 6]
   simp only [ss, Nat.reduceBEq] at hF
   refine wp_ret (t1.ret (hret (ret3 hF Tryz.results56 rfl rfl rfl ?_)))
   exact ⟨by rw [readAt, if_pos h23']; rfl, hH.below⟩
  try simp only [qq] at h23
  have hq' : q ≤ msg.length := by
    by_cases hx : q ≤ msg.length
    · exact hx
    · rw [if_neg hx] at h23; simp at h23
  rw [if_pos hq'] at hH
  refine wp_skip ?_
  refine k1 ?_
  refine c_sr fun ops => ?_
  refine zm 1 hF rfl fun a hF => ?_
  refine c_n ?_
  replace hF := hF.sel [1, 5, 7, 8]
  simp only [ss, Nat.reduceBEq] at hF
  refine c_sr fun ops => ?_
  refine zm 3 hF rfl fun a hF => ?_
  refine c_n ?_
  replace hF := hF.sel [5, 7, 8, 9, 10]
  simp only [ss, Nat.reduceBEq] at hF
  refine c_block fun Q2 t2 => ?_
  refine c_loop (fun n a w => ∃ p ahead nx acc sv B, readM msg p ahead < n ∧ p ≤ msg.length ∧ ahead ≤ msg.length ∧ acc.length ≤ 254 ∧ (∀ x, nx = some x → x ≤ msg.length) ∧ readAt msg q = readG msg n p ahead nx acc ∧ Fr 99 [(5, .int .i64 ((nx.getD 0 : Nat) : Int)), (7, ptr g), (8, sv), (9, .int .i64 (ahead : Nat)), (10, .bool nx.isSome)] a ∧ Hp w0 w ((g, curO msg p) :: (B ++ [])) ∧ Sl 5 1 B sv acc.length (bytV acc)) ?_ ?_
  ·
   exact ⟨readM msg q q + 1, q, q, none, [], _, [], Nat.lt_succ_self _, hq', hq', by simp, nofun, by rw [readAt, if_neg (by omega)], hF.keep [5, 7, 8, 9, 10] rfl, hH, Sl.nil _ _⟩
  clear hH hF
  intro n a w hI Q3 k3 t3
  obtain ⟨p, ahead, nx, acc, sv, B, hm, hp, hah, hacc, hnx, he, hF, hH, hS⟩ := hI
  cases n with
  | zero => omega
  | succ n =>
  rw [readG] at he
  have hc8 := (msg.getD p 0).toNat_lt
  have hd8 := (msg.getD (p + 1) 0).toNat_lt
  refine c_block fun Q4 t4 => ?_
  refine c_sr fun ops => ?_
  refine zm 1 hF rfl fun a hF => ?_
  refine zc hF rfl rfl fn78 (byte_spec' hG hH hp hs) ?_
  rintro _ w ⟨rfl, hH⟩ a hF
  refine zm 5 hF rfl fun a hF => ?_
  refine c_n ?_
  refine c_block fun Q5 t5 => ?_
  refine c_sr fun ops => ?_
  refine zm 1 hF rfl fun a hF => ?_
  refine zb hF rfl rfl rfl (b_nen _ _ _ 0) fun a hF => ?_
  refine zm 1 hF rfl fun a hF => ?_
  refine c_n ?_
  refine c_if hF rfl (fun h50 => ?_) (fun h50 => ?_)
  ·
   try simp only [qq] at h50
   have h50' : msg.length ≤ p := by
     by_cases hx : msg.length ≤ p
     · exact hx
     · rw [if_neg hx] at h50; simp at h50
   refine c_sr fun ops => ?_
   refine zm 4 hF rfl fun a hF => ?_
   refine c_n ?_
   replace hF := hF.sel [4, 5, 6]
   simp only [ss, Nat.reduceBEq] at hF
   refine wp_ret (t5.ret (t4.ret (t3.ret (t2.ret (hret (ret3 hF Tryz.results56 rfl rfl rfl ?_))))))
   rw [if_pos h50'] at he ⊢
   exact ⟨by rw [he]; rfl, hH.below⟩
  try simp only [qq] at h50
  have h50' : ¬ msg.length ≤ p := by
    intro hx; rw [if_pos hx] at h50; simp at h50
  rw [if_neg h50'] at he hH
  refine c_sr fun ops => ?_
  refine zm 1 hF rfl fun a hF => ?_
  refine zb hF rfl rfl rfl (b_eqn _ _ _ 0) fun a hF => ?_
  refine zm 1 hF rfl fun a hF => ?_
  refine c_n ?_
  refine c_if hF rfl (fun h54 => ?_) (fun h54 => ?_)
  ·
   try simp only [qq] at h54
   rw [if_pos h54] at he
   refine c_cut (fun a w => Fr 99 [(5, .int .i64 ((nx.getD (p + 1) : Nat) : Int)), (8, sv)] a ∧ Hp w0 w ((g, curO msg (p + 1)) :: (B ++ []))) (fun Q6 k6 t6 => ?_) ?_
   ·
    refine c_sr fun ops => ?_
    refine zm 1 hF rfl fun a hF => ?_
    refine zl hF rfl (r_not hF rfl rfl) fun a hF => ?_
    refine c_n ?_
    refine c_fi hF rfl (fun h58 => ?_) (fun h58 => ?_)
    ·
     try simp only [qq] at h58
     refine wp_skip ?_
     refine k6 ?_
     refine ⟨?_, hH⟩
     cases nx with
     | none => first | exact hF.keep [5, 8] rfl | (exfalso; simp at h58)
     | some x => first | exact hF.keep [5, 8] rfl | (exfalso; simp at h58)
    try simp only [qq] at h58
    refine c_reg fun ops => ?_
    refine zm 1 hF rfl fun a hF => ?_
    refine zc hF rfl rfl fn57 (at_spec hH) ?_
    rintro _ w ⟨rfl, hH⟩ a hF
    refine zm 1 hF rfl fun a hF => ?_
    refine wpList_nil ?_
    refine k6 ?_
    refine ⟨?_, hH⟩
    cases nx with
    | none => first | exact hF.keep [5, 8] rfl | (exfalso; simp at h58)
    | some x => first | exact hF.keep [5, 8] rfl | (exfalso; simp at h58)
   intro a w ⟨hF, hH⟩
   refine c_sr fun ops => ?_
   refine zm 1 hF rfl fun a hF => ?_
   refine zl hF rfl (r_convstr hF rfl rfl Tryz.underlying26 Tryz.underlying5 Tryz.underlying9 (hS.rsl hH.toB fun x hx => List.mem_append_left _ hx)) fun a hF => ?_
   refine zb hF rfl rfl rfl (b_sadd _ _ [0] (by simp; omega)) fun a hF => ?_
   refine zm 4 hF rfl fun a hF => ?_
   refine c_n ?_
   replace hF := hF.sel [4, 5, 6]
   simp only [ss, Nat.reduceBEq] at hF
   refine wp_ret (t5.ret (t4.ret (t3.ret (t2.ret (hret (ret3 hF Tryz.results56 rfl rfl rfl ?_))))))
   exact ⟨by rw [he]; rfl, hH.below⟩
  try simp only [qq] at h54
  rw [if_neg h54] at he
  refine c_sr fun ops => ?_
  refine zm 1 hF rfl fun a hF => ?_
  refine zb hF rfl rfl rfl (b_and192 _ _ (by omega)) fun a hF => ?_
  refine zb hF rfl rfl rfl (b_eqn _ _ _ 192) fun a hF => ?_
  refine zm 1 hF rfl fun a hF => ?_
  refine c_n ?_
  refine c_if hF rfl (fun h65 => ?_) (fun h65 => ?_)
  ·
   try simp only [qq] at h65
   rw [if_pos (show 192 ≤ (msg.getD p 0).toNat by omega)] at he
   refine c_sr fun ops => ?_
   refine zm 1 hF rfl fun a hF => ?_
   refine zc hF rfl rfl fn78 (byte_spec' hG hH (by omega) hs) ?_
   rintro _ w ⟨rfl, hH⟩ a hF
   refine zm 5 hF rfl fun a hF => ?_
   refine c_n ?_
   refine c_seq fun Q7 k7 t7 => ?_
   refine c_sr fun ops => ?_
   refine zm 1 hF rfl fun a hF => ?_
   refine zb hF rfl rfl rfl (b_nen _ _ _ 0) fun a hF => ?_
   refine c_n ?_
   refine c_if hF rfl (fun h75 => ?_) (fun h75 => ?_)
   ·
    try simp only [qq] at h75
    have h75' : msg.length ≤ p + 1 := by
      by_cases hx : msg.length ≤ p + 1
      · exact hx
      · rw [if_neg hx] at h75; simp at h75
    refine c_sr fun ops => ?_
    refine zm 4 hF rfl fun a hF => ?_
    refine c_n ?_
    refine wp_ret (t7.ret (t5.ret (t4.ret (t3.ret (t2.ret (hret (ret3 hF Tryz.results56 rfl rfl rfl ?_)))))))
    rw [if_pos h75'] at he ⊢
    exact ⟨by rw [he]; rfl, hH.below⟩
   try simp only [qq] at h75
   have h75' : ¬ msg.length ≤ p + 1 := by
     intro hx; rw [if_pos hx] at h75; simp at h75
   rw [if_neg h75'] at he hH
   refine wp_skip ?_
   refine k7 ?_
   refine c_cut (fun a w => Fr 99 [(5, .int .i64 ((nx.getD (p + 2) : Nat) : Int)), (7, ptr g), (8, sv), (9, .int .i64 (ahead : Nat)), (10, .bool true), (11, .int .u8 ((msg.getD p 0).toNat : Int)), (13, .int .u8 ((msg.getD (p + 1) 0).toNat : Int))] a ∧ Hp w0 w ((g, curO msg (p + 1 + 1)) :: (B ++ []))) (fun Q8 k8 t8 => ?_) ?_
   ·
    refine c_sr fun ops => ?_
    refine zm 1 hF rfl fun a hF => ?_
    refine zl hF rfl (r_not hF rfl rfl) fun a hF => ?_
    refine c_n ?_
    refine c_fi hF rfl (fun h78 => ?_) (fun h78 => ?_)
    ·
     try simp only [qq] at h78
     refine wp_skip ?_
     refine k8 ?_
     refine ⟨?_, hH⟩
     cases nx with
     | none => first | exact hF.keep [5, 7, 8, 9, 10, 11, 13] rfl | (exfalso; simp at h78)
     | some x => first | exact hF.keep [5, 7, 8, 9, 10, 11, 13] rfl | (exfalso; simp at h78)
    try simp only [qq] at h78
    refine c_reg fun ops => ?_
    refine zm 1 hF rfl fun a hF => ?_
    refine zc hF rfl rfl fn57 (at_spec hH) ?_
    rintro _ w ⟨rfl, hH⟩ a hF
    refine zm 2 hF rfl fun a hF => ?_
    refine wpList_nil ?_
    refine k8 ?_
    refine ⟨?_, hH⟩
    cases nx with
    | none => first | exact hF.keep [5, 7, 8, 9, 10, 11, 13] rfl | (exfalso; simp at h78)
    | some x => first | exact hF.keep [5, 7, 8, 9, 10, 11, 13] rfl | (exfalso; simp at h78)
   intro a w ⟨hF, hH⟩
   refine c_sr fun ops => ?_
   refine zm 1 hF rfl fun a hF => ?_
   refine zb hF rfl rfl rfl (b_andNot192 _ _ (by omega)) fun a hF => ?_
   refine zl hF rfl (r_convin hF rfl rfl (by rw [Tryz.underlying5]; rfl) Tryz.underlying3 (-9223372036854775808) 9223372036854775807 mn_i64 mx_i64 (by omega)) fun a hF => ?_
   refine zb hF rfl rfl rfl (b_shl8 _ _ (by omega)) fun a hF => ?_
   refine zm 1 hF rfl fun a hF => ?_
   refine zl hF rfl (r_convin hF rfl rfl (by rw [Tryz.underlying5]; rfl) Tryz.underlying3 (-9223372036854775808) 9223372036854775807 mn_i64 mx_i64 (by omega)) fun a hF => ?_
   refine zb hF rfl rfl rfl (b_orj _ _ _ (by omega) (by omega)) fun a hF => ?_
   refine zm 1 hF rfl fun a hF => ?_
   refine c_n ?_
   have hpl : (msg.getD p 0).toNat % 64 * 256 + (msg.getD (p + 1) 0).toNat = ((msg.getD p 0).toNat - 192) * 256 + (msg.getD (p + 1) 0).toNat := by omega
   rw [hpl] at hF
   refine c_seq fun Q9 k9 t9 => ?_
   refine c_sr fun ops => ?_
   refine zm 2 hF rfl fun a hF => ?_
   refine zb hF rfl rfl rfl (b_gen _ _ _ _) fun a hF => ?_
   refine c_n ?_
   refine c_if hF rfl (fun h90 => ?_) (fun h90 => ?_)
   ·
    try simp only [qq] at h90
    refine c_sr fun ops => ?_
    refine zm 3 hF rfl fun a hF => ?_
    refine c_n ?_
    refine wp_ret (t9.ret (t5.ret (t4.ret (t3.ret (t2.ret (hret (ret3 hF Tryz.results56 rfl rfl rfl ?_)))))))
    rw [if_pos (by omega)] at he
    exact ⟨by rw [he]; rfl, hH.below⟩
   try simp only [qq] at h90
   refine wp_skip ?_
   refine k9 ?_
   refine c_sr fun ops => ?_
   refine zm 2 hF rfl fun a hF => ?_
   refine c_n ?_
   refine c_reg fun ops => ?_
   refine zm 2 hF rfl fun a hF => ?_
   refine zc hF rfl rfl fn23 (seek_spec' _ hH hs) ?_
   rintro _ w ⟨rfl, hH⟩ a hF
   refine wpList_nil ?_
   refine t5.norm ?_
   refine t4.norm ?_
   refine k3 ?_
   first
     | (rw [if_neg (by omega)] at he
        have hm' := readM_jump (msg := msg) (p := p) (show ((msg.getD p 0).toNat - 192) * 256 + (msg.getD (p + 1) 0).toNat < ahead by omega) (by omega)
        rw [if_pos (by omega)] at hH
        exact ⟨n, Nat.lt_succ_self _, _, _, some (nx.getD (p + 2)), acc, _, _, by omega, by omega, by omega, hacc, fun x hx => by
          cases nx with
          | none => simp at hx; omega
          | some y => simp at hx; have := hnx y rfl; omega, he, hF.keep [5, 7, 8, 9, 10] rfl, hH, hS⟩)
     | (rw [if_neg (by omega)] at he
        have hm' := readM_step (msg := msg) (ahead := ahead) (show p < p + 1 + (msg.getD p 0).toNat by omega) (by omega)
        exact ⟨n, Nat.lt_succ_self _, _, _, nx, _, _, _, by omega, by omega, hah, by omega, hnx, he, hF.keep [5, 7, 8, 9, 10] rfl, hH, hS'⟩)
  try simp only [qq] at h65
  rw [if_neg (show ¬ 192 ≤ (msg.getD p 0).toNat by omega)] at he
  refine c_sr fun ops => ?_
  refine zm 1 hF rfl fun a hF => ?_
  refine zb hF rfl rfl rfl (b_and192 _ _ (by omega)) fun a hF => ?_
  refine zb hF rfl rfl rfl (b_nen _ _ _ 0) fun a hF => ?_
  refine zm 1 hF rfl fun a hF => ?_
  refine c_n ?_
  refine c_if hF rfl (fun h95 => ?_) (fun h95 => ?_)
  ·
   try simp only [qq] at h95
   refine c_sr fun ops => ?_
   refine zm 3 hF rfl fun a hF => ?_
   refine c_n ?_
   replace hF := hF.sel [4, 5, 6]
   simp only [ss, Nat.reduceBEq] at hF
   refine wp_ret (t5.ret (t4.ret (t3.ret (t2.ret (hret (ret3 hF Tryz.results56 rfl rfl rfl ?_))))))
   rw [if_pos (by omega)] at he
   exact ⟨by rw [he]; rfl, hH.below⟩
  try simp only [qq] at h95
  rw [if_neg (show ¬ 64 ≤ (msg.getD p 0).toNat by omega)] at he
  refine c_sr fun ops => ?_
  refine zm 2 hF rfl fun a hF => ?_
  refine zl hF rfl (r_convin hF rfl rfl (by rw [Tryz.underlying5]; rfl) Tryz.underlying3 (-9223372036854775808) 9223372036854775807 mn_i64 mx_i64 (by omega)) fun a hF => ?_
  refine zc hF rfl rfl fn61 (take_spec' _ hG hH (by omega) hs) ?_
  rintro _ w ⟨rfl, hH⟩ a hF
  refine zm 5 hF rfl fun a hF => ?_
  refine c_n ?_
  refine c_seq fun Q10 k10 t10 => ?_
  refine c_sr fun ops => ?_
  refine zm 1 hF rfl fun a hF => ?_
  refine zb hF rfl rfl rfl (b_nen _ _ _ 0) fun a hF => ?_
  refine c_n ?_
  refine c_if hF rfl (fun h38 => ?_) (fun h38 => ?_)
  ·
   try simp only [qq] at h38
   have h38' : msg.length < p + 1 + (msg.getD p 0).toNat := by
     by_cases hx : msg.length < p + 1 + (msg.getD p 0).toNat
     · exact hx
     · rw [if_neg hx] at h38; simp at h38
   refine c_sr fun ops => ?_
   refine zm 4 hF rfl fun a hF => ?_
   refine c_n ?_
   refine wp_ret (t10.ret (t5.ret (t4.ret (t3.ret (t2.ret (hret (ret3 hF Tryz.results56 rfl rfl rfl ?_)))))))
   rw [if_pos h38'] at he ⊢
   exact ⟨by rw [he]; rfl, hH.below⟩
  try simp only [qq] at h38
  have h38' : ¬ msg.length < p + 1 + (msg.getD p 0).toNat := by
    intro hx; rw [if_pos hx] at h38; simp at h38
  simp only [h38', if_false] at he hH hF
  rw [label_eq (by omega)] at he
  have hlab : ((msg.drop (p + 1)).take (msg.getD p 0).toNat).length = (msg.getD p 0).toNat := by rw [List.length_take, List.length_drop]; omega
  generalize (msg.drop (p + 1)).take (msg.getD p 0).toNat = lab at *
  replace hH := hH.toB
  refine wp_skip ?_
  refine k10 ?_
  refine c_sr fun ops => ?_
  refine zm 2 hF rfl fun a hF => ?_
  refine ls_build1 hF hH rfl rfl rfl rfl rfl Tryz.underlying26 ti5 rfl (by decide) ?_
  intro a w g10_2 hH hE hF
  have hR := rsl_lit (n := 1) (size := 1) hH rfl (by decide)
  replace hH := hH.drop
  refine ls_append hF hH rfl rfl rfl rfl rfl rfl Tryz.underlying26 ti5 hS hR (one_of rfl) (by decide) (by omega) ?_
  intro a v10_3 w B10_3 hH hS hF
  refine zm 1 hF rfl fun a hF => ?_
  refine ls_appendstr hF hH rfl rfl rfl rfl rfl rfl Tryz.underlying26 Tryz.underlying9 ti5 zv5 hS (by omega) ?_
  intro a v10_5 w B10_5 hH hS hF
  refine zm 1 hF rfl fun a hF => ?_
  refine c_n ?_
  replace hH := hH.fromB
  have hS' : Sl 5 1 B10_5 v10_5 (acc ++ msg.getD p 0 :: lab).length (bytV (acc ++ msg.getD p 0 :: lab)) := by
    have e : bytV acc ++ (Value.int .u8 ((msg.getD p 0).toNat : Int)).cells.toList ++ bytV lab = bytV (acc ++ msg.getD p 0 :: lab) := by rw [bytV_append]; simp [bytV]; rfl
    rw [e] at hS
    have e2 : acc.length + 1 + lab.length = (acc ++ msg.getD p 0 :: lab).length := by simp; omega
    rwa [e2] at hS
  obtain ⟨ad10, cp10, rfl⟩ := hS'.shape
  have hlen2 : (acc ++ msg.getD p 0 :: lab).length = acc.length + 1 + lab.length := by rw [List.length_append, List.length_cons]; omega
  refine c_sr fun ops => ?_
  refine zm 1 hF rfl fun a hF => ?_
  refine zl hF rfl (r_len_sl hF rfl rfl Tryz.underlying26) fun a hF => ?_
  refine zb hF rfl rfl rfl (b_addn _ _ 1 (by omega)) fun a hF => ?_
  refine zb hF rfl rfl rfl (b_gtn _ _ _ 255) fun a hF => ?_
  refine c_n ?_
  refine c_if hF rfl (fun h49 => ?_) (fun h49 => ?_)
  ·
   try simp only [qq] at h49
   refine c_sr fun ops => ?_
   refine zm 3 hF rfl fun a hF => ?_
   refine c_n ?_
   replace hF := hF.sel [4, 5, 6]
   simp only [ss, Nat.reduceBEq] at hF
   refine wp_ret (t5.ret (t4.ret (t3.ret (t2.ret (hret (ret3 hF Tryz.results56 rfl rfl rfl ?_))))))
   rw [if_pos (by omega)] at he
   exact ⟨by rw [he]; rfl, hH.below⟩
  try simp only [qq] at h49
  refine wp_skip ?_
  refine t5.norm ?_
  refine t4.norm ?_
  refine k3 ?_
  first
    | (rw [if_neg (by omega)] at he
       have hm' := readM_jump (msg := msg) (p := p) (show ((msg.getD p 0).toNat - 192) * 256 + (msg.getD (p + 1) 0).toNat < ahead by omega) (by omega)
       rw [if_pos (by omega)] at hH
       exact ⟨n, Nat.lt_succ_self _, _, _, some (nx.getD (p + 2)), acc, _, _, by omega, by omega, by omega, hacc, fun x hx => by
         cases nx with
         | none => simp at hx; omega
         | some y => simp at hx; have := hnx y rfl; omega, he, hF.keep [5, 7, 8, 9, 10] rfl, hH, hS⟩)
    | (rw [if_neg (by omega)] at he
       have hm' := readM_step (msg := msg) (ahead := ahead) (show p < p + 1 + (msg.getD p 0).toNat by omega) (by omega)
       exact ⟨n, Nat.lt_succ_self _, _, _, nx, _, _, _, by omega, by omega, hah, by omega, hnx, he, hF.keep [5, 7, 8, 9, 10] rfl, hH, hS'⟩)
end Go.Proofs.YtpoebplhemimmaaGreatDoor
