/-
  The walks of hustingslaw11.wide, hustingsref11.Key and End, verdict.End, and hustingslaw11.spoil. Nothing is claimed here.
-/
import Derived.Test.YtcelgjabccgnmaaGreatDoorVLawB
namespace Go.Proofs.YtcelgjabccgnmaaGreatDoor
open Go.RowKit
set_option linter.unusedVariables false
set_option linter.unusedSimpArgs false
set_option maxHeartbeats 1000000

/-! ### How wide a verdict is -/
def SetW (s : RSet) : Prop := s.name.length < 4000 ∧ s.data.length < 1000 ∧ ∀ j (h : j < s.data.length), (s.data[j]).length < 4000
theorem SetW.setK {s : RSet} (h : SetW s) (hl : SetL s) : SetK s := by
  obtain ⟨h1, h2, h3⟩ := h
  have he : ∀ d ∈ s.data, d.length < 4000 := fun d hd => by
    obtain ⟨j, hj, rfl⟩ := List.mem_iff_getElem.1 hd
    exact h3 j hj
  have h4 := flat_bound keyT 4002 s.data fun d hd => by
    have := he d hd
    unfold keyT; rw [List.length_append, two_len]; omega
  have h5 : s.data.length * 4002 ≤ 1000 * 4002 := Nat.mul_le_mul_right _ (by omega)
  exact ⟨by omega, hl.kind, hl.cls, by omega, fun d hd => by have := he d hd; omega, by omega⟩
theorem SetW.keyS {s : RSet} (h : SetW s) : (keyS s).length ≤ 4006006 := by
  obtain ⟨h1, h2, h3⟩ := h
  have h4 := flat_bound keyT 4002 s.data fun d hd => by
    obtain ⟨j, hj, rfl⟩ := List.mem_iff_getElem.1 hd
    have := h3 j hj
    unfold keyT; rw [List.length_append, two_len]; omega
  have h5 : s.data.length * 4002 ≤ 999 * 4002 := Nat.mul_le_mul_right _ (by omega)
  simp only [Go.Proofs.YtcelgjabccgnmaaGreatDoor.keyS, List.length_append, two_len]; omega
structure VerdW (x : Verd) : Prop where
  len : x.sets.length + x.soa.length ≤ 100
  sets : ∀ s ∈ x.sets, SetW s
  soa : ∀ s ∈ x.soa, SetW s
theorem VerdW.verdK {x : Verd} (h : VerdW x) (hl : VerdL x) : VerdK x := by
  have hlen := h.len
  have h1 := flat_bound keyS 4006006 x.sets fun s hs => (h.sets s hs).keyS
  have h2 := flat_bound keyS 4006006 x.soa fun s hs => (h.soa s hs).keyS
  have h3 : x.sets.length * 4006006 ≤ 100 * 4006006 := Nat.mul_le_mul_right _ (by omega)
  have h4 : x.soa.length * 4006006 ≤ 100 * 4006006 := Nat.mul_le_mul_right _ (by omega)
  exact ⟨hl.code, by omega, by omega, fun s hs => (h.sets s hs).setK (hl.sets s hs), fun s hs => (h.soa s hs).setK (hl.soa s hs), by omega, by omega⟩
theorem VerdK.verdM {x : Verd} (h : VerdK x) : VerdM x := ⟨h.setsL, h.soaL, fun s hs => (h.sets s hs).data, fun s hs => (h.soa s hs).data⟩
theorem wide_spec (x : Verd) (sv ov : Value) (w0 : World) (hR : VerdR w0 x sv ov) (hl : VerdL x) :
    Rets Tryz.prog 48 [.agg (verdV x sv ov).toArray] w0 fun r w' => (∃ b : Bool, r = .bool b ∧ (b = false → VerdW x)) ∧ Ext w0 w' := by
  have hH := Hp.refl w0
  obtain ⟨sad, scp, rfl⟩ := hR.sets.shapeK
  obtain ⟨oad, ocp, rfl⟩ := hR.soa.shapeK
  have hs1 := hl.setsN
  have hs2 := hl.soaN
  obtain ⟨all, hall⟩ : ∃ all, all = x.sets ++ x.soa := ⟨_, rfl⟩
  have hal : all.length = x.sets.length + x.soa.length := by rw [hall, List.length_append]
  have hlb : ∀ s ∈ all, SetL s := fun s hs => by rw [hall] at hs; exact (List.mem_append.1 hs).elim (hl.sets s) (hl.soa s)
  refine rets_start Tryz.func48 rfl Tryz.ntmps48 rfl fun a Q0 hF hret hend => ?_
  simp only [argsFrom, Nat.zero_add, Nat.reduceAdd] at hF
  refine c_sr fun ops => ?_
  refine ls_box hF hH rfl rfl rfl rfl rfl ?_
  intro a w g0_0 hH hE hF
  refine zm 1 hF rfl fun a hF => ?_
  refine c_n ?_
  replace hF := hF.sel [1]
  simp only [ss, Nat.reduceBEq] at hF
  simp only [cells_agg] at hH
  refine c_sr fun ops => ?_
  refine zm 1 hF rfl fun a hF => ?_
  refine c_n ?_
  replace hF := hF.sel [1, 3]
  simp only [ss, Nat.reduceBEq] at hF
  refine c_seq fun Q1 k1 t1 => ?_
  refine c_sr fun ops => ?_
  refine zm 1 hF rfl fun a hF => ?_
  refine c_n ?_
  replace hF := hF.sel [1, 3, 4]
  simp only [ss, Nat.reduceBEq] at hF
  refine c_block fun Q2 t2 => ?_
  refine c_loop (fun n a w => ∃ i m, n = all.length - i ∧ i ≤ all.length ∧ m ≤ 20000 ∧ 40 * i ≤ m ∧ (m < 4000 → ∀ j (h : j < all.length), j < i → SetW all[j]) ∧ Fr 72 [(1, ptr g0_0), (3, .int .i64 (m : Nat)), (4, .int .i64 (i : Nat))] a ∧ Hp w0 w [(g0_0, .cells (verdV x (.slice sad x.sets.length scp) (.slice oad x.soa.length ocp)).toArray 65 (0, 0))]) ?_ ?_
  ·
   exact ⟨_, 0, 0, rfl, Nat.zero_le _, by omega, by omega, fun _ _ _ h => (Nat.not_lt_zero _ h).elim, hF.keep [1, 3, 4] rfl, hH⟩
  clear hH hF
  intro n a w hI Q3 k3 t3
  obtain ⟨i, m, hn, hi, hm1, hm2, hwid, hF, hH⟩ := hI
  refine c_seq fun Q4 k4 t4 => ?_
  refine c_sg ?_
  refine zm 1 hF rfl fun a hF => ?_
  refine zl hF rfl (r_fieldaddr0 hF rfl rfl fd65_1) fun a hF => ?_
  refine zl hF rfl (r_load hF rfl rfl fl22 (own_cell (i := 0) hH rfl rfl)) fun a hF => ?_
  refine zl hF rfl (r_len_sl hF rfl rfl Tryz.underlying22) fun a hF => ?_
  refine zl hF rfl (r_fieldaddr0 hF rfl rfl fd65_2) fun a hF => ?_
  refine zl hF rfl (r_load hF rfl rfl fl22 (own_cell (i := 0) hH rfl rfl)) fun a hF => ?_
  refine zl hF rfl (r_len_sl hF rfl rfl Tryz.underlying22) fun a hF => ?_
  refine zb hF rfl rfl rfl (b_addn _ _ _ (by omega)) fun a hF => ?_
  refine zb hF rfl rfl rfl (b_ltn _ _ _ _) fun a hF => ?_
  refine zm 1 hF rfl fun a hF => ?_
  refine l_ask (d := 16) hF rfl (fun g3_9 => ?_) (fun g3_9 => ?_)
  ·
   have g3_9' := g3_9; try simp only [qq] at g3_9'
   refine zn hF rfl g3_9 fun a hF => ?_
   refine zn hF rfl g3_9 fun a hF => ?_
   refine zl hF rfl (r_pickf hF rfl rfl g3_9 rfl) fun a hF => ?_
   refine c_n ?_
   refine c_no hF rfl rfl ?_
   refine wp_exit (t4.exit (t3.exit (t2.here (?_))))
   refine k1 ?_
   refine c_sr fun ops => ?_
   refine zm 1 hF rfl fun a hF => ?_
   refine zb hF rfl rfl rfl (b_gen _ _ _ 4000) fun a hF => ?_
   refine zm 1 hF rfl fun a hF => ?_
   refine c_n ?_
   replace hF := hF.sel [2]
   simp only [ss, Nat.reduceBEq] at hF
   refine wp_ret (hret (ret1 hF Tryz.results48 rfl ?_))
   refine ⟨⟨_, rfl, fun hb => ?_⟩, hH.below⟩
   have hb' := of_decide_eq_false hb
   have hil : i = all.length := by omega
   have hx : ∀ s ∈ all, SetW s := fun s hs => by
     obtain ⟨j, hj, rfl⟩ := List.mem_iff_getElem.1 hs
     exact hwid (by omega) j hj (by omega)
   exact ⟨by omega, fun s hs => hx s (by rw [hall]; exact List.mem_append_left _ hs), fun s hs => hx s (by rw [hall]; exact List.mem_append_right _ hs)⟩
  have g3_9' := g3_9; try simp only [qq] at g3_9'
  refine zy hF rfl g3_9 (r_move hF rfl rfl) fun a hF => ?_
  refine zy hF rfl g3_9 (zr hF rfl rfl (b_ltn _ _ _ 4000)) fun a hF => ?_
  refine zl hF rfl (r_pickt hF rfl rfl g3_9 rfl) fun a hF => ?_
  refine c_n ?_
  refine c_fi hF rfl (fun h19 => ?_) (fun h19 => ?_)
  ·
   try simp only [qq] at h19
   refine wp_exit (t4.exit (t3.exit (t2.here (?_))))
   refine k1 ?_
   refine c_sr fun ops => ?_
   refine zm 1 hF rfl fun a hF => ?_
   refine zb hF rfl rfl rfl (b_gen _ _ _ 4000) fun a hF => ?_
   refine zm 1 hF rfl fun a hF => ?_
   refine c_n ?_
   replace hF := hF.sel [2]
   simp only [ss, Nat.reduceBEq] at hF
   refine wp_ret (hret (ret1 hF Tryz.results48 rfl ?_))
   refine ⟨⟨_, rfl, fun hb => ?_⟩, hH.below⟩
   have hb' := of_decide_eq_false hb
   have hil : i = all.length := by omega
   have hx : ∀ s ∈ all, SetW s := fun s hs => by
     obtain ⟨j, hj, rfl⟩ := List.mem_iff_getElem.1 hs
     exact hwid (by omega) j hj (by omega)
   exact ⟨by omega, fun s hs => hx s (by rw [hall]; exact List.mem_append_left _ hs), fun s hs => hx s (by rw [hall]; exact List.mem_append_right _ hs)⟩
  try simp only [qq] at h19
  have hia : i < all.length := by omega
  have hsl := hlb _ (List.getElem_mem hia)
  have hsn := hsl.name
  refine wp_skip ?_
  refine k4 ?_
  refine c_seq fun Q5 k5 t5 => ?_
  refine c_block fun Q6 t6 => ?_
  refine c_sr fun ops => ?_
  refine zl hF rfl (r_build hF rfl rfl (bd27 _)) fun a hF => ?_
  refine ls_alloc hF hH rfl rfl rfl rfl zv27 ?_
  intro a w g5_1 hH hE hF
  refine ls_storeagg 0 hF hH rfl rfl rfl rfl rfl ti27 rfl (rfl) (rfl) (by simp [Value.oneCell']) ?_
  intro w hH
  simp only [List.set_cons_zero] at hH
  refine c_n ?_
  refine c_cut (fun a w => ∃ dv, RSl w0 1 dv all[i].data.length (strV all[i].data) ∧ Fr 72 [(1, ptr g0_0), (3, .int .i64 (m : Nat)), (4, .int .i64 (i : Nat)), (5, ptr g5_1)] a ∧ Hp w0 w [(g5_1, .cells (setV all[i] dv).toArray 27 (0, 0)), (g0_0, .cells (verdV x (.slice sad x.sets.length scp) (.slice oad x.soa.length ocp)).toArray 65 (0, 0))]) (fun Q7 k7 t7 => ?_) ?_
  ·
   refine c_sr fun ops => ?_
   refine zm 1 hF rfl fun a hF => ?_
   refine zl hF rfl (r_fieldaddr0 hF rfl rfl fd65_1) fun a hF => ?_
   refine zl hF rfl (r_load hF rfl rfl fl22 (own_cell (i := 1) hH rfl rfl)) fun a hF => ?_
   refine zl hF rfl (r_len_sl hF rfl rfl Tryz.underlying22) fun a hF => ?_
   refine zb hF rfl rfl rfl (b_ltn _ _ _ _) fun a hF => ?_
   refine c_n ?_
   refine c_if hF rfl (fun h27 => ?_) (fun h27 => ?_)
   ·
    try simp only [qq] at h27
    obtain ⟨b, off, dv, e1, hset, hdv⟩ := hR.sets.at h27
    have ex : all[i] = x.sets[i] := by simp [hall, List.getElem_append_left h27]
    have hH0 := hH
    rw [e1] at hH
    refine c_reg fun ops => ?_
    refine zl hF rfl (r_fieldaddr0 hF rfl rfl fd65_1) fun a hF => ?_
    refine zl hF rfl (r_load hF rfl rfl fl22 (own_cell (i := 1) hH rfl rfl)) fun a hF => ?_
    refine zm 1 hF rfl fun a hF => ?_
    refine zl hF rfl (r_indexaddr hF _ rfl rfl rfl Tryz.underlying22 ti27 (by omega)) fun a hF => ?_
    refine zl hF rfl (r_loadagg hF rfl rfl Tryz.underlying27 ti27 rfl (fun j u hu => hH.cell (hset j u hu))) fun a hF => ?_
    refine ls_storeagg 0 hF hH rfl rfl rfl rfl rfl ti27 rfl (rfl) (rfl) (by have := hdv.shape; obtain ⟨_, _, rfl⟩ := this; simp [setV, cells_agg, Value.oneCell']) ?_
    intro w hH
    simp only [List.set_cons_zero] at hH
    rw [← e1] at hH
    refine wpList_nil ?_
    refine k7 ?_
    exact ⟨dv, by rw [ex]; exact hdv, hF.keep [1, 3, 4, 5] rfl, by rw [ex]; exact hH⟩
   try simp only [qq] at h27
   obtain ⟨b, off, dv, e1, hset, hdv⟩ := hR.soa.at (i := i - x.sets.length) (by omega)
   have ex : all[i] = x.soa[i - x.sets.length]'(by omega) := by simp [hall, List.getElem_append_right (show x.sets.length ≤ i by omega)]
   rw [e1] at hH
   refine c_reg fun ops => ?_
   refine zl hF rfl (r_fieldaddr0 hF rfl rfl fd65_2) fun a hF => ?_
   refine zl hF rfl (r_load hF rfl rfl fl22 (own_cell (i := 1) hH rfl rfl)) fun a hF => ?_
   refine zm 1 hF rfl fun a hF => ?_
   refine zl hF rfl (r_fieldaddr0 hF rfl rfl fd65_1) fun a hF => ?_
   refine zl hF rfl (r_load hF rfl rfl fl22 (own_cell (i := 1) hH rfl rfl)) fun a hF => ?_
   refine zl hF rfl (r_len_sl hF rfl rfl Tryz.underlying22) fun a hF => ?_
   refine zb hF rfl rfl rfl (b_subn _ _ _ (by omega)) fun a hF => ?_
   refine zl hF rfl (r_indexaddr hF _ rfl rfl rfl Tryz.underlying22 ti27 (by omega)) fun a hF => ?_
   refine zl hF rfl (r_loadagg hF rfl rfl Tryz.underlying27 ti27 rfl (fun j u hu => hH.cell (hset j u hu))) fun a hF => ?_
   refine ls_storeagg 0 hF hH rfl rfl rfl rfl rfl ti27 rfl (rfl) (rfl) (by have := hdv.shape; obtain ⟨_, _, rfl⟩ := this; simp [setV, cells_agg, Value.oneCell']) ?_
   intro w hH
   simp only [List.set_cons_zero] at hH
   rw [← e1] at hH
   refine wpList_nil ?_
   refine k7 ?_
   exact ⟨dv, by rw [ex]; exact hdv, hF.keep [1, 3, 4, 5] rfl, by rw [ex]; exact hH⟩
  clear hH hF
  rintro a w ⟨dv, hdv, hF, hH⟩
  obtain ⟨dad, dcp, rfl⟩ := hdv.shape
  refine c_sr fun ops => ?_
  refine zm 1 hF rfl fun a hF => ?_
  refine zb hF rfl rfl rfl (b_addn _ _ 40 (by omega)) fun a hF => ?_
  refine zl hF rfl (r_fieldaddr0 hF rfl rfl fd27_0) fun a hF => ?_
  refine zl hF rfl (r_load hF rfl rfl fl9 (own_cell (i := 0) hH rfl rfl)) fun a hF => ?_
  refine zl hF rfl (r_len_str hF rfl rfl Tryz.underlying9) fun a hF => ?_
  refine zl hF rfl (r_minn hF (n := 4000) rfl rfl rfl) fun a hF => ?_
  refine zb hF rfl rfl rfl (b_addn _ _ _ (by omega)) fun a hF => ?_
  refine zm 1 hF rfl fun a hF => ?_
  refine c_n ?_
  refine c_sr fun ops => ?_
  refine zm 1 hF rfl fun a hF => ?_
  refine c_n ?_
  refine c_block fun Q8 t8 => ?_
  refine c_loop (fun n a w => ∃ k m2, n = all[i].data.length - k ∧ k ≤ all[i].data.length ∧ m2 ≤ 20000 ∧ m + 40 + min 4000 all[i].name.length + 4 * k ≤ m2 ∧ (m2 < 4000 → ∀ j (h : j < all[i].data.length), j < k → (all[i].data[j]).length < 4000) ∧ Fr 72 [(1, ptr g0_0), (3, .int .i64 (m2 : Nat)), (4, .int .i64 (i : Nat)), (5, ptr g5_1), (6, .int .i64 (k : Nat))] a ∧ Hp w0 w [(g5_1, .cells (setV all[i] (.slice dad all[i].data.length dcp)).toArray 27 (0, 0)), (g0_0, .cells (verdV x (.slice sad x.sets.length scp) (.slice oad x.soa.length ocp)).toArray 65 (0, 0))]) ?_ ?_
  ·
   exact ⟨_, 0, m + 40 + min 4000 all[i].name.length, rfl, Nat.zero_le _, by omega, by omega, fun _ _ _ h => (Nat.not_lt_zero _ h).elim, hF.keep [1, 3, 4, 5, 6] rfl, hH⟩
  clear hH hF
  intro n a w hI Q9 k9 t9
  obtain ⟨k, m2, hn2, hk, hm3, hm4, hall2, hF, hH⟩ := hI
  refine c_seq fun Q10 k10 t10 => ?_
  refine c_sg ?_
  refine zm 1 hF rfl fun a hF => ?_
  refine zl hF rfl (r_fieldaddr0 hF rfl rfl fd27_4) fun a hF => ?_
  refine zl hF rfl (r_load hF rfl rfl fl25 (own_cell (i := 0) hH rfl rfl)) fun a hF => ?_
  refine zl hF rfl (r_len_sl hF rfl rfl Tryz.underlying25) fun a hF => ?_
  refine zb hF rfl rfl rfl (b_ltn _ _ _ _) fun a hF => ?_
  refine zm 1 hF rfl fun a hF => ?_
  refine l_ask (d := 54) hF rfl (fun g11_5 => ?_) (fun g11_5 => ?_)
  ·
   have g11_5' := g11_5; try simp only [qq] at g11_5'
   refine zn hF rfl g11_5 fun a hF => ?_
   refine zn hF rfl g11_5 fun a hF => ?_
   refine zl hF rfl (r_pickf hF rfl rfl g11_5 rfl) fun a hF => ?_
   refine c_n ?_
   refine c_no hF rfl rfl ?_
   refine wp_exit (t10.exit (t9.exit (t8.here (?_))))
   refine t6.norm ?_
   refine k5 ?_
   refine c_reg fun ops => ?_
   refine zm 1 hF rfl fun a hF => ?_
   refine zb hF rfl rfl rfl (b_addn _ _ 1 (by omega)) fun a hF => ?_
   refine zm 1 hF rfl fun a hF => ?_
   refine wpList_nil ?_
   refine k3 ?_
   refine ⟨all.length - (i + 1), by omega, i + 1, m2, rfl, by omega, by omega, by omega, fun hlt j hj hji => ?_, hF.keep [1, 3, 4] rfl, hH.drop⟩
   have hkl : k = all[i].data.length := by omega
   rcases Nat.lt_succ_iff_lt_or_eq.1 hji with h | rfl
   · exact hwid h19 j hj h
   · exact ⟨by omega, by omega, fun j hj => hall2 hlt j hj (by omega)⟩
  have g11_5' := g11_5; try simp only [qq] at g11_5'
  refine zy hF rfl g11_5 (r_move hF rfl rfl) fun a hF => ?_
  refine zy hF rfl g11_5 (zr hF rfl rfl (b_ltn _ _ _ 4000)) fun a hF => ?_
  refine zl hF rfl (r_pickt hF rfl rfl g11_5 rfl) fun a hF => ?_
  refine c_n ?_
  refine c_fi hF rfl (fun h57 => ?_) (fun h57 => ?_)
  ·
   try simp only [qq] at h57
   refine wp_exit (t10.exit (t9.exit (t8.here (?_))))
   refine t6.norm ?_
   refine k5 ?_
   refine c_reg fun ops => ?_
   refine zm 1 hF rfl fun a hF => ?_
   refine zb hF rfl rfl rfl (b_addn _ _ 1 (by omega)) fun a hF => ?_
   refine zm 1 hF rfl fun a hF => ?_
   refine wpList_nil ?_
   refine k3 ?_
   refine ⟨all.length - (i + 1), by omega, i + 1, m2, rfl, by omega, by omega, by omega, fun hlt j hj hji => ?_, hF.keep [1, 3, 4] rfl, hH.drop⟩
   have hkl : k = all[i].data.length := by omega
   rcases Nat.lt_succ_iff_lt_or_eq.1 hji with h | rfl
   · exact hwid h19 j hj h
   · exact ⟨by omega, by omega, fun j hj => hall2 hlt j hj (by omega)⟩
  try simp only [qq] at h57
  obtain ⟨bd, od, e2, hcd⟩ := hdv.at g11_5'
  have hgd : all[i].data.getD k [] = all[i].data[k] := by simp [List.getD_eq_getElem?_getD, g11_5']
  rw [hgd] at hcd
  have hdl := hsl.data _ (List.getElem_mem g11_5')
  rw [e2] at hH
  refine wp_skip ?_
  refine k10 ?_
  refine c_seq fun Q11 k11 t11 => ?_
  refine c_block fun Q12 t12 => ?_
  refine c_reg fun ops => ?_
  refine zm 1 hF rfl fun a hF => ?_
  refine zb hF rfl rfl rfl (b_addn _ _ 4 (by omega)) fun a hF => ?_
  refine zl hF rfl (r_fieldaddr0 hF rfl rfl fd27_4) fun a hF => ?_
  refine zl hF rfl (r_load hF rfl rfl fl25 (own_cell (i := 0) hH rfl rfl)) fun a hF => ?_
  refine zm 1 hF rfl fun a hF => ?_
  refine zl hF rfl (r_ix1 hF _ rfl rfl rfl Tryz.underlying25 ti9 (by omega)) fun a hF => ?_
  refine zl hF rfl (r_load hF rfl rfl fl9 (hH.cell hcd)) fun a hF => ?_
  refine zl hF rfl (r_len_str hF rfl rfl Tryz.underlying9) fun a hF => ?_
  refine zl hF rfl (r_minn hF (n := 4000) rfl rfl rfl) fun a hF => ?_
  refine zb hF rfl rfl rfl (b_addn _ _ _ (by omega)) fun a hF => ?_
  refine zm 1 hF rfl fun a hF => ?_
  refine wpList_nil ?_
  refine t12.norm ?_
  refine k11 ?_
  refine c_reg fun ops => ?_
  refine zm 1 hF rfl fun a hF => ?_
  refine zb hF rfl rfl rfl (b_addn _ _ 1 (by omega)) fun a hF => ?_
  refine zm 1 hF rfl fun a hF => ?_
  refine wpList_nil ?_
  refine k9 ?_
  rw [← e2] at hH
  refine ⟨all[i].data.length - (k + 1), by omega, k + 1, m2 + 4 + min 4000 (all[i].data[k]).length, rfl, by omega, by omega, by omega, fun hlt j hj hjk => ?_, hF.keep [1, 3, 4, 5, 6] rfl, hH⟩
  rcases Nat.lt_succ_iff_lt_or_eq.1 hjk with h | rfl
  · exact hall2 h57 j hj h
  · omega

/-! ### Keys and ends -/
theorem refSets_spec (l : List RSet) (v : Value) (w0 : World) (hR : SetsR w0 v l) (hl : l.length < 1000000) (hd : ∀ s ∈ l, SetK s) (ht : (l.flatMap keyS).length < 1000000000000) :
    Rets Tryz.prog 90 [v] w0 fun r w' => r = .string (mk (keyL l)) ∧ Ext w0 w' := by
  have hH := Hp.refl w0
  obtain ⟨ad, cap, rfl⟩ := hR.shapeK
  refine rets_start Tryz.func90 rfl Tryz.ntmps90 rfl fun a Q0 hF hret hend => ?_
  simp only [argsFrom, Nat.zero_add, Nat.reduceAdd] at hF
  refine c_sr fun ops => ?_
  refine zm 1 hF rfl fun a hF => ?_
  refine c_n ?_
  replace hF := hF.sel [0]
  simp only [ss, Nat.reduceBEq] at hF
  refine c_sr fun ops => ?_
  refine zm 1 hF rfl fun a hF => ?_
  refine zl hF rfl (r_len_sl hF rfl rfl Tryz.underlying22) fun a hF => ?_
  refine zb hF rfl rfl rfl (b_remk _ _ 256 (by decide)) fun a hF => ?_
  refine zl hF rfl (r_convw hF rfl rfl Tryz.underlying3 Tryz.underlying5 (wrap_u8 _)) fun a hF => ?_
  refine ls_build1 hF hH rfl rfl rfl rfl rfl Tryz.underlying88 ti5 rfl (by decide) ?_
  intro a w g1_4 hH hE hF
  rw [byte_mod] at hH
  refine zl hF rfl (r_convstr hF rfl rfl Tryz.underlying88 Tryz.underlying5 Tryz.underlying9 ((show RSl _ 1 _ 1 (bytV (keyB l.length)) from rsl_lit (n := 1) (size := 1) hH rfl (by decide)))) fun a hF => ?_
  refine zm 1 hF rfl fun a hF => ?_
  refine c_n ?_
  replace hF := hF.sel [0, 3]
  simp only [ss, Nat.reduceBEq] at hF
  replace hH := hH.drop
  refine c_seq fun Q1 k1 t1 => ?_
  refine c_sr fun ops => ?_
  refine zm 1 hF rfl fun a hF => ?_
  refine c_n ?_
  replace hF := hF.sel [0, 3, 4]
  simp only [ss, Nat.reduceBEq] at hF
  refine c_block fun Q2 t2 => ?_
  refine c_loop (fun n a w => ∃ i, n = l.length - i ∧ i ≤ l.length ∧ Fr 81 [(0, .slice ad l.length cap), (3, .string (mk (keyB l.length ++ (l.take i).flatMap keyS))), (4, .int .i64 (i : Nat))] a ∧ Hp w0 w []) ?_ ?_
  ·
   exact ⟨_, 0, rfl, Nat.zero_le _, hF.keep [0, 3, 4] rfl, hH⟩
  clear hH hF
  intro n a w hI Q3 k3 t3
  obtain ⟨i, hm, hi, hF, hH⟩ := hI
  refine c_seq fun Q4 k4 t4 => ?_
  refine c_sr fun ops => ?_
  refine zm 2 hF rfl fun a hF => ?_
  refine zl hF rfl (r_len_sl hF rfl rfl Tryz.underlying22) fun a hF => ?_
  refine zb hF rfl rfl rfl (b_ltn _ _ _ _) fun a hF => ?_
  refine c_n ?_
  refine c_fi hF rfl (fun h15 => ?_) (fun h15 => ?_)
  ·
   try simp only [qq] at h15
   rw [List.take_of_length_le (by omega)] at hF
   refine wp_exit (t4.exit (t3.exit (t2.here (?_))))
   refine k1 ?_
   refine c_sr fun ops => ?_
   refine zm 2 hF rfl fun a hF => ?_
   refine c_n ?_
   replace hF := hF.sel [2]
   simp only [ss, Nat.reduceBEq] at hF
   refine wp_ret (hret (ret1 hF Tryz.results90 rfl ?_))
   exact ⟨rfl, hH.below⟩
  try simp only [qq] at h15
  obtain ⟨b, off, dv, rfl, hset, hdv⟩ := hR.at h15
  have hdl := hd _ (List.getElem_mem h15)
  have ht1 := flat_take keyS l (i + 1)
  rw [flat_next keyS h15, List.length_append] at ht1
  have hk0 : (keyB l.length).length = 1 := rfl
  have hks : (keyS l[i]).length = l[i].name.length + 6 + (l[i].data.flatMap keyT).length := by simp only [keyS, List.length_append, two_len]; omega
  have hd1 := hdl.kind
  have hd2 := hdl.cls
  have hd3 := hdl.data
  have t1 := two_len l[i].kind
  have t2 := two_len l[i].cls
  have t3 := two_len l[i].data.length
  obtain ⟨dad, dcp, rfl⟩ := hdv.shape
  refine wp_skip ?_
  refine k4 ?_
  refine c_seq fun Q5 k5 t5 => ?_
  refine c_block fun Q6 t6 => ?_
  refine c_seq fun Q7 k7 t7 => ?_
  refine q_reg (by kernel_rfl) (by kernel_rfl) ?_
  refine qs hF rfl rfl rfl (fun w hw => r_move hF rfl rfl) fun a hF => ?_
  refine qs hF rfl rfl rfl (fun w hw => r_move hF rfl rfl) fun a hF => ?_
  refine qs hF rfl rfl rfl (fun w hw => r_move hF rfl rfl) fun a hF => ?_
  refine qs hF rfl rfl rfl (fun w hw => r_indexaddr hF _ rfl rfl rfl Tryz.underlying22 ti27 (by omega)) fun a hF => ?_
  refine qs hF rfl rfl rfl (fun w hw => r_fieldaddr hF rfl rfl fd27_0) fun a hF => ?_
  refine qs hF rfl rfl rfl (fun w hw => r_load hF rfl rfl fl9 (hw.cell (hH.cell (hset 0 _ rfl)))) fun a hF => ?_
  refine qs hF rfl rfl rfl (fun w hw => zr hF rfl rfl (b_sadd _ _ _ (by rw [List.length_append]; omega))) fun a hF => ?_
  refine qs hF rfl rfl rfl (fun w hw => r_move hF rfl rfl) fun a hF => ?_
  refine qs hF rfl rfl rfl (fun w hw => r_move hF rfl rfl) fun a hF => ?_
  refine qs hF rfl rfl rfl (fun w hw => r_indexaddr hF _ rfl rfl rfl Tryz.underlying22 ti27 (by omega)) fun a hF => ?_
  refine qs hF rfl rfl rfl (fun w hw => r_fieldaddr hF rfl rfl fd27_1) fun a hF => ?_
  refine qs hF rfl rfl rfl (fun w hw => r_load hF rfl rfl fl23 (hw.cell (hH.cell (hset 1 _ rfl)))) fun a hF => ?_
  refine qs hF rfl rfl rfl (fun w hw => r_convin hF rfl rfl (by rw [Tryz.underlying23]; rfl) Tryz.underlying3 (-9223372036854775808) 9223372036854775807 mn_i64 mx_i64 (by omega)) fun a hF => ?_
  refine qs_call hF rfl rfl rfl rfl rfl fn122 (fun w hw => refTwo_spec _ (by omega) _) fun a hF => ?_
  refine qs hF rfl rfl rfl (fun w hw => zr hF rfl rfl (b_sadd _ _ _ (by rw [List.length_append, List.length_append]; omega))) fun a hF => ?_
  refine qs hF rfl rfl rfl (fun w hw => r_move hF rfl rfl) fun a hF => ?_
  refine qs hF rfl rfl rfl (fun w hw => r_move hF rfl rfl) fun a hF => ?_
  refine qs hF rfl rfl rfl (fun w hw => r_indexaddr hF _ rfl rfl rfl Tryz.underlying22 ti27 (by omega)) fun a hF => ?_
  refine qs hF rfl rfl rfl (fun w hw => r_fieldaddr hF rfl rfl fd27_2) fun a hF => ?_
  refine qs hF rfl rfl rfl (fun w hw => r_load hF rfl rfl fl23 (hw.cell (hH.cell (hset 2 _ rfl)))) fun a hF => ?_
  refine qs hF rfl rfl rfl (fun w hw => r_convin hF rfl rfl (by rw [Tryz.underlying23]; rfl) Tryz.underlying3 (-9223372036854775808) 9223372036854775807 mn_i64 mx_i64 (by omega)) fun a hF => ?_
  refine qs_call hF rfl rfl rfl rfl rfl fn122 (fun w hw => refTwo_spec _ (by omega) _) fun a hF => ?_
  refine qs hF rfl rfl rfl (fun w hw => zr hF rfl rfl (b_sadd _ _ _ (by rw [List.length_append, List.length_append, List.length_append]; omega))) fun a hF => ?_
  refine qs hF rfl rfl rfl (fun w hw => r_move hF rfl rfl) fun a hF => ?_
  refine qs hF rfl rfl rfl (fun w hw => r_move hF rfl rfl) fun a hF => ?_
  refine qs hF rfl rfl rfl (fun w hw => r_indexaddr hF _ rfl rfl rfl Tryz.underlying22 ti27 (by omega)) fun a hF => ?_
  refine qs hF rfl rfl rfl (fun w hw => r_fieldaddr hF rfl rfl fd27_4) fun a hF => ?_
  refine qs hF rfl rfl rfl (fun w hw => r_load hF rfl rfl fl25 (hw.cell (hH.cell (hset 4 _ rfl)))) fun a hF => ?_
  refine qs hF rfl rfl rfl (fun w hw => r_len_sl hF rfl rfl Tryz.underlying25) fun a hF => ?_
  refine qs_call hF rfl rfl rfl rfl rfl fn122 (fun w hw => refTwo_spec _ (by omega) _) fun a hF => ?_
  refine qs hF rfl rfl rfl (fun w hw => zr hF rfl rfl (b_sadd _ _ _ (by rw [List.length_append, List.length_append, List.length_append, List.length_append]; omega))) fun a hF => ?_
  refine qs hF rfl rfl rfl (fun w hw => r_assign hF rfl rfl) fun a hF => ?_
  refine q_nil fun w hE => ?_
  replace hH := hH.ext hE
  refine k7 ?_
  refine c_sr fun ops => ?_
  refine zm 1 hF rfl fun a hF => ?_
  refine c_n ?_
  refine c_block fun Q8 t8 => ?_
  refine c_loop (fun n a w => ∃ k, n = l[i].data.length - k ∧ k ≤ l[i].data.length ∧ Fr 81 [(0, .slice (some ⟨b, off, none⟩) l.length cap), (3, .string (mk (keyB l.length ++ (l.take i).flatMap keyS ++ l[i].name ++ two8 l[i].kind ++ two8 l[i].cls ++ two8 l[i].data.length ++ (l[i].data.take k).flatMap keyT))), (4, .int .i64 (i : Nat)), (5, .int .i64 (k : Nat))] a ∧ Hp w0 w []) ?_ ?_
  ·
   exact ⟨_, 0, rfl, Nat.zero_le _, by simpa [sel, lk] using hF.keep [0, 3, 4, 5] rfl, hH⟩
  clear hH hF
  intro n a w hI Q9 k9 t9
  obtain ⟨k, hm2, hk, hF, hH⟩ := hI
  refine c_seq fun Q10 k10 t10 => ?_
  refine c_sr fun ops => ?_
  refine zm 3 hF rfl fun a hF => ?_
  refine zl hF rfl (r_indexaddr hF _ rfl rfl rfl Tryz.underlying22 ti27 (by omega)) fun a hF => ?_
  refine zl hF rfl (r_fieldaddr hF rfl rfl fd27_4) fun a hF => ?_
  refine zl hF rfl (r_load hF rfl rfl fl25 (hH.cell (hset 4 _ rfl))) fun a hF => ?_
  refine zl hF rfl (r_len_sl hF rfl rfl Tryz.underlying25) fun a hF => ?_
  refine zb hF rfl rfl rfl (b_ltn _ _ _ _) fun a hF => ?_
  refine c_n ?_
  refine c_fi hF rfl (fun h56 => ?_) (fun h56 => ?_)
  ·
   try simp only [qq] at h56
   rw [List.take_of_length_le (show l[i].data.length ≤ k by omega)] at hF
   refine wp_exit (t10.exit (t9.exit (t8.here (?_))))
   refine t6.norm ?_
   refine k5 ?_
   refine c_reg fun ops => ?_
   refine zm 1 hF rfl fun a hF => ?_
   refine zb hF rfl rfl rfl (b_addn _ _ 1 (by omega)) fun a hF => ?_
   refine zm 1 hF rfl fun a hF => ?_
   refine wpList_nil ?_
   refine k3 ?_
   refine ⟨l.length - (i + 1), by omega, i + 1, rfl, h15, ?_, hH⟩
   rw [flat_next keyS h15, show keyS l[i] = l[i].name ++ (two8 l[i].kind ++ (two8 l[i].cls ++ (two8 l[i].data.length ++ l[i].data.flatMap keyT))) from rfl]
   simp only [← List.append_assoc]
   exact hF.keep [0, 3, 4] rfl
  try simp only [qq] at h56
  obtain ⟨bd, od, e2, hcd⟩ := hdv.at h56
  have hgd : l[i].data.getD k [] = l[i].data[k] := by simp [List.getD_eq_getElem?_getD, h56]
  rw [hgd] at hcd
  rw [e2] at hset
  have hde := hdl.each _ (List.getElem_mem h56)
  have ht2 := flat_take keyT l[i].data (k + 1)
  rw [flat_next keyT h56, List.length_append] at ht2
  have t4 := two_len (l[i].data[k]).length
  have hkt : (keyT (l[i].data[k])).length = 2 + (l[i].data[k]).length := by unfold keyT; rw [List.length_append, two_len]
  refine wp_skip ?_
  refine k10 ?_
  refine c_seq fun Q11 k11 t11 => ?_
  refine c_block fun Q12 t12 => ?_
  refine q_reg (by kernel_rfl) (by kernel_rfl) ?_
  refine qs hF rfl rfl rfl (fun w hw => r_move hF rfl rfl) fun a hF => ?_
  refine qs hF rfl rfl rfl (fun w hw => r_move hF rfl rfl) fun a hF => ?_
  refine qs hF rfl rfl rfl (fun w hw => r_move hF rfl rfl) fun a hF => ?_
  refine qs hF rfl rfl rfl (fun w hw => r_indexaddr hF _ rfl rfl rfl Tryz.underlying22 ti27 (by omega)) fun a hF => ?_
  refine qs hF rfl rfl rfl (fun w hw => r_fieldaddr hF rfl rfl fd27_4) fun a hF => ?_
  refine qs hF rfl rfl rfl (fun w hw => r_load hF rfl rfl fl25 (hw.cell (hH.cell (hset 4 _ rfl)))) fun a hF => ?_
  refine qs hF rfl rfl rfl (fun w hw => r_move hF rfl rfl) fun a hF => ?_
  refine qs hF rfl rfl rfl (fun w hw => r_ix1 hF _ rfl rfl rfl Tryz.underlying25 ti9 (by omega)) fun a hF => ?_
  refine qs hF rfl rfl rfl (fun w hw => r_load hF rfl rfl fl9 (hw.cell (hH.cell hcd))) fun a hF => ?_
  refine qs hF rfl rfl rfl (fun w hw => r_len_str hF rfl rfl Tryz.underlying9) fun a hF => ?_
  refine qs_call hF rfl rfl rfl rfl rfl fn122 (fun w hw => refTwo_spec _ (by omega) _) fun a hF => ?_
  refine qs hF rfl rfl rfl (fun w hw => zr hF rfl rfl (b_sadd _ _ _ (by simp only [List.length_append]; omega))) fun a hF => ?_
  refine qs hF rfl rfl rfl (fun w hw => r_move hF rfl rfl) fun a hF => ?_
  refine qs hF rfl rfl rfl (fun w hw => r_move hF rfl rfl) fun a hF => ?_
  refine qs hF rfl rfl rfl (fun w hw => r_indexaddr hF _ rfl rfl rfl Tryz.underlying22 ti27 (by omega)) fun a hF => ?_
  refine qs hF rfl rfl rfl (fun w hw => r_fieldaddr hF rfl rfl fd27_4) fun a hF => ?_
  refine qs hF rfl rfl rfl (fun w hw => r_load hF rfl rfl fl25 (hw.cell (hH.cell (hset 4 _ rfl)))) fun a hF => ?_
  refine qs hF rfl rfl rfl (fun w hw => r_move hF rfl rfl) fun a hF => ?_
  refine qs hF rfl rfl rfl (fun w hw => r_ix1 hF _ rfl rfl rfl Tryz.underlying25 ti9 (by omega)) fun a hF => ?_
  refine qs hF rfl rfl rfl (fun w hw => r_load hF rfl rfl fl9 (hw.cell (hH.cell hcd))) fun a hF => ?_
  refine qs hF rfl rfl rfl (fun w hw => zr hF rfl rfl (b_sadd _ _ _ (by simp only [List.length_append]; omega))) fun a hF => ?_
  refine qs hF rfl rfl rfl (fun w hw => r_assign hF rfl rfl) fun a hF => ?_
  refine q_nil fun w hE => ?_
  replace hH := hH.ext hE
  refine t12.norm ?_
  refine k11 ?_
  refine c_reg fun ops => ?_
  refine zm 1 hF rfl fun a hF => ?_
  refine zb hF rfl rfl rfl (b_addn _ _ 1 (by omega)) fun a hF => ?_
  refine zm 1 hF rfl fun a hF => ?_
  refine wpList_nil ?_
  refine k9 ?_
  refine ⟨l[i].data.length - (k + 1), by omega, k + 1, rfl, h56, ?_, hH⟩
  rw [flat_next keyT h56]
  unfold keyT
  rw [← List.append_assoc, ← List.append_assoc]
  exact hF.keep [0, 3, 4, 5] rfl
theorem refKey_spec (x : Verd) (sv ov : Value) (w0 : World) (hR : VerdR w0 x sv ov) (hx : VerdK x) :
    Rets Tryz.prog 50 [.agg (verdV x sv ov).toArray] w0 fun v w' => v = .string (mk (keyV x)) ∧ Ext w0 w' := by
  have hH := Hp.refl w0
  have h1 := hx.setsT
  have h2 := hx.soaT
  obtain ⟨sad, scp, rfl⟩ := hR.sets.shapeK
  obtain ⟨oad, ocp, rfl⟩ := hR.soa.shapeK
  refine rets_start Tryz.func50 rfl Tryz.ntmps50 rfl fun a Q0 hF hret hend => ?_
  simp only [argsFrom, Nat.zero_add, Nat.reduceAdd] at hF
  refine c_sr fun ops => ?_
  refine ls_box hF hH rfl rfl rfl rfl rfl ?_
  intro a w g0_0 hH hE hF
  refine zm 1 hF rfl fun a hF => ?_
  refine c_n ?_
  replace hF := hF.sel [1]
  simp only [ss, Nat.reduceBEq] at hF
  refine c_seq fun Q1 k1 t1 => ?_
  simp only [cells_agg] at hH
  refine c_flow [0, 4, 8] [1, 2, 3, 5, 6, 7, 9, 10, 11, 12] [] [] (by kernel_rfl) (by kernel_rfl) fun hB => ?_
  refine ps hF rfl rfl rfl rfl (fun w => r_fieldaddr0 hF rfl rfl fd65_0) fun a hF => ?_
  refine ps hF rfl rfl rfl rfl (fun w => r_fieldaddr0 hF rfl rfl fd65_1) fun a hF => ?_
  refine ps hF rfl rfl rfl rfl (fun w => r_fieldaddr0 hF rfl rfl fd65_2) fun a hF => ?_
  refine fl_start [4, 5, 6, 8, 9, 10, 12, 13, 14, 2] hB (by kernel_rfl) hF ?_
  simp only [wo, hasN, Nat.reduceBEq, cond_true, cond_false] at hF ⊢
  refine fs1 rfl (by
   intro a w Lr hE hC hl
   replace hH := hH.ext hE
   have hF := hC.fr
   exact zl hF rfl (r_load hF rfl rfl fl5 (own_cell (i := 0) hH rfl rfl)) fun a' hF' => wpList_nil (fl_end hC hF' (Ext.refl _) rfl)) ?_
  refine fsr rfl (by
   intro a w Lr hE hC hl
   replace hH := hH.ext hE
   obtain ⟨_, s4, rfl⟩ := hl 4 (by decide) _ rfl
   replace hC := hC.more s4
   have hF := hC.fr
   refine ls_build1 hF (Hp.refl w) rfl rfl rfl rfl rfl Tryz.underlying88 ti5 rfl (by decide) ?_
   intro a' w' g hH' hE' hF'
   exact wpList_nil (fl_end hC hF' hE' (by exact rsl_lit (n := 1) (size := 1) hH' rfl (by decide)))) ?_
  refine fs1 rfl (by
   intro a w Lr hE hC hl
   replace hH := hH.ext hE
   obtain ⟨v5, s5, p5⟩ := hl 5 (by decide) _ rfl
   replace hC := hC.more s5
   have hF := hC.fr
   exact zl hF rfl (r_convstr hF rfl rfl Tryz.underlying88 Tryz.underlying5 Tryz.underlying9 ((show RSl w 1 v5 1 (bytV [UInt8.ofNat x.code]) by rw [bytV_code hx.code]; exact p5))) fun a' hF' => wpList_nil (fl_end hC hF' (Ext.refl _) rfl)) ?_
  refine fs1 rfl (by
   intro a w Lr hE hC hl
   replace hH := hH.ext hE
   have hF := hC.fr
   exact zl hF rfl (r_load hF rfl rfl fl22 (own_cell (i := 0) hH rfl rfl)) fun a' hF' => wpList_nil (fl_end hC hF' (Ext.refl _) rfl)) ?_
  refine fs1 rfl (by
   intro a w Lr hE hC hl
   replace hH := hH.ext hE
   obtain ⟨_, s8, rfl⟩ := hl 8 (by decide) _ rfl
   replace hC := hC.more s8
   have hF := hC.fr
   refine zc hF rfl rfl fn90 (refSets_spec x.sets _ _ (hR.sets.ext hH.below) hx.setsL hx.sets h1) ?_
   rintro _ w' ⟨rfl, hE'⟩ a' hF'
   exact wpList_nil (fl_end hC hF' hE' rfl)) ?_
  refine fs1 rfl (by
   intro a w Lr hE hC hl
   replace hH := hH.ext hE
   obtain ⟨_, s6, rfl⟩ := hl 6 (by decide) _ rfl
   replace hC := hC.more s6
   obtain ⟨_, s9, rfl⟩ := hl 9 (by decide) _ rfl
   replace hC := hC.more s9
   have hF := hC.fr
   exact zl hF rfl (zr hF rfl rfl (b_sadd _ _ _ (by rw [keyL_len]; simp only [List.length_cons, List.length_nil]; omega))) fun a' hF' => wpList_nil (fl_end hC hF' (Ext.refl _) rfl)) ?_
  refine fs1 rfl (by
   intro a w Lr hE hC hl
   replace hH := hH.ext hE
   have hF := hC.fr
   exact zl hF rfl (r_load hF rfl rfl fl22 (own_cell (i := 0) hH rfl rfl)) fun a' hF' => wpList_nil (fl_end hC hF' (Ext.refl _) rfl)) ?_
  refine fs1 rfl (by
   intro a w Lr hE hC hl
   replace hH := hH.ext hE
   obtain ⟨_, s12, rfl⟩ := hl 12 (by decide) _ rfl
   replace hC := hC.more s12
   have hF := hC.fr
   refine zc hF rfl rfl fn90 (refSets_spec x.soa _ _ (hR.soa.ext hH.below) hx.soaL hx.soa h2) ?_
   rintro _ w' ⟨rfl, hE'⟩ a' hF'
   exact wpList_nil (fl_end hC hF' hE' rfl)) ?_
  refine fs1 rfl (by
   intro a w Lr hE hC hl
   replace hH := hH.ext hE
   obtain ⟨_, s10, rfl⟩ := hl 10 (by decide) _ rfl
   replace hC := hC.more s10
   obtain ⟨_, s13, rfl⟩ := hl 13 (by decide) _ rfl
   replace hC := hC.more s13
   have hF := hC.fr
   exact zl hF rfl (zr hF rfl rfl (b_sadd _ _ _ (by rw [List.length_append, keyL_len, keyL_len]; simp only [List.length_cons, List.length_nil]; omega))) fun a' hF' => wpList_nil (fl_end hC hF' (Ext.refl _) rfl)) ?_
  refine fs1 rfl (by
   intro a w Lr hE hC hl
   replace hH := hH.ext hE
   obtain ⟨_, s14, rfl⟩ := hl 14 (by decide) _ rfl
   replace hC := hC.more s14
   have hF := hC.fr
   exact zl hF rfl (r_assign hF rfl rfl) fun a' hF' => wpList_nil (fl_end hC hF' (Ext.refl _) rfl)) ?_
  intro a w hE hF hall
  replace hH := hH.ext hE
  obtain ⟨_, s2, rfl⟩ := hall 2 _ rfl
  replace hF := hF.more s2
  clear hall
  refine wpList_nil ?_
  replace hF := hF.sel [2]
  simp only [ss, Nat.reduceBEq] at hF
  refine k1 ?_
  refine wp_ret (hret (ret1 hF Tryz.results50 rfl ?_))
  exact ⟨rfl, hH.below⟩
end Go.Proofs.YtcelgjabccgnmaaGreatDoor
