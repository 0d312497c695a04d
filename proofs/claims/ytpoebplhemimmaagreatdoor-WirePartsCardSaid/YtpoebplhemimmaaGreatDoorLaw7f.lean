/-
  The walk of hustingslaw07.WireParts. Nothing is claimed here.
-/
import Derived.Test.YtpoebplhemimmaaGreatDoorLaw7e
namespace Go.Proofs.YtpoebplhemimmaaGreatDoor
open Go.RowKit
set_option linter.unusedVariables false
set_option linter.unusedSimpArgs false
set_option maxHeartbeats 1000000

def cntM (m : Msg) : List Nat := [m.qs.length, m.ans.length, m.auth.length, m.extra.length + if m.has = true then 1 else 0]
theorem cntM_at {m : Msg} {s : Bs} (hL : MsgL m) (h : encN m = (0, s)) {i : Nat} (hi : i < 4) : ∃ c, (#[.int .i64 (m.qs.length : Nat), .int .i64 (m.ans.length : Nat), .int .i64 (m.auth.length : Nat), .int .i64 ((m.extra.length + if m.has = true then 1 else 0 : Nat) : Int)] : Array Value)[0 + i]? = some (.int .i64 (c : Nat)) ∧ num2 s (4 + 2 * i) = c := by
  obtain ⟨_, h1, h2, h3, h4⟩ := enc_nums hL h
  rcases (show i = 0 ∨ i = 1 ∨ i = 2 ∨ i = 3 by omega) with rfl | rfl | rfl | rfl
  · exact ⟨_, rfl, h1⟩
  · exact ⟨_, rfl, h2⟩
  · exact ⟨_, rfl, h3⟩
  · exact ⟨_, rfl, h4⟩
theorem msg_one7 {w : World} {m : Msg} {qv av uv xv ov : Value} (h : MsgR w m qv av uv xv ov) : ∀ u ∈ (msgV m qv av uv xv ov), u.oneCell' = true := by
  intro u hu
  have h1 := h.qs.one7; have h2 := h.ans.one7; have h3 := h.auth.one7; have h4 := h.extra.one7; have h5 := h.opts.one7
  simp only [msgV, hdV, edV, List.cons_append, List.nil_append, List.mem_cons, List.not_mem_nil, or_false] at hu
  rcases hu with rfl | rfl | rfl | rfl | rfl | rfl | rfl | rfl | rfl | rfl | rfl | rfl | rfl | rfl | rfl | rfl | rfl | rfl | rfl | rfl | rfl <;> first | rfl | assumption
theorem msgV_id (m : Msg) (qv av uv xv ov : Value) (k : Nat) : (msgV m qv av uv xv ov).toArray.setIfInBounds 0 (.int .u16 (k : Nat)) = (msgV { m with hd := { m.hd with id := k } } qv av uv xv ov).toArray := rfl
theorem b_seq_yes {P : Program} {w : World} (t : TypeId) (x y : List UInt8) (h : x = y) : (binOp .eql t (.string (mk x)) (.string (mk y))).run P w = .ok (.bool true) w := by
  rw [b_seq, decide_eq_true h]
theorem parts7_spec (m : Msg) (qv av uv xv ov : Value) (k : Nat) (hk : k < 65536) (w0 : World) (hG : GX w0) (hR : MsgR w0 m qv av uv xv ov) (hL : MsgL m) :
    Rets Tryz.prog 7 [.agg (msgV m qv av uv xv ov).toArray, .int .u16 (k : Nat)] w0 fun v w' => v = .bool true ∧ Ext w0 w' := by
  have hH := Hp.refl w0
  obtain ⟨qad, qcp, hqv⟩ := hR.qs.shape
  obtain ⟨aad, acp, hav⟩ := hR.ans.shape
  obtain ⟨uad, ucp, huv⟩ := hR.auth.shape
  obtain ⟨xad, xcp, hxv⟩ := hR.extra.shape
  subst hqv hav huv hxv
  have hsm := hR.extra.small
  refine rets_start Tryz.func7 rfl Tryz.ntmps7 rfl fun a Q0 hF hret hend => ?_
  simp only [argsFrom, Nat.zero_add, Nat.reduceAdd] at hF
  refine c_sr fun ops => ?_
  refine ls_box hF hH rfl rfl rfl rfl rfl ?_
  intro a w g0_0 hH hE hF
  refine zm 1 hF rfl fun a hF => ?_
  refine c_n ?_
  replace hF := hF.sel [1, 2]
  simp only [ss, Nat.reduceBEq] at hF
  refine c_seq fun Q1 k1 t1 => ?_
  refine c_sg ?_
  refine zl hF rfl (r_loadagg hF rfl rfl Tryz.underlying37 ti37 rfl (own_agg (i := 0) (cs := (msgV m (.slice qad m.qs.length qcp) (.slice aad m.ans.length acp) (.slice uad m.auth.length ucp) (.slice xad m.extra.length xcp) ov).toArray) hH rfl)) fun a hF => ?_
  refine zc hF rfl rfl fn13 (large_spec m _ _ _ _ _ _ (hR.ext hH.below)) ?_
  rintro _ w ⟨⟨bl, rfl, hbl⟩, hE⟩ a hF
  replace hH := hH.ext hE
  refine zm 1 hF rfl fun a hF => ?_
  refine ls_ask (d := 15) hF rfl (fun g1_2 => ?_) (fun g1_2 => ?_)
  ·
   have g1_2' := g1_2; try simp only [qq] at g1_2'
   refine zn hF rfl g1_2 fun a hF => ?_
   refine zn hF rfl g1_2 fun a hF => ?_
   refine zl hF rfl (r_pickt hF rfl rfl g1_2 rfl) fun a hF => ?_
   refine c_n ?_
   replace hF := hF.sel [1, 2, 18]
   simp only [ss, Nat.reduceBEq] at hF
   refine c_yes hF rfl rfl ?_
   refine c_sr fun ops => ?_
   refine zc hF rfl rfl fn8 (awake_spec _ (hG.ext hH.below)) ?_
   rintro _ w ⟨rfl, hE⟩ a hF
   replace hH := hH.ext hE
   refine zm 1 hF rfl fun a hF => ?_
   refine c_n ?_
   replace hF := hF.sel [4]
   simp only [ss, Nat.reduceBEq] at hF
   refine wp_ret (t1.ret (hret (ret1 hF Tryz.results7 rfl ?_)))
   exact ⟨rfl, hH.below⟩
  have g1_2' := g1_2; try simp only [qq] at g1_2'
  refine zyc hF rfl g1_2 rfl fn8 (awake_spec _ (hG.ext hH.below)) ?_
  rintro _ w ⟨rfl, hE⟩ a hF
  replace hH := hH.ext hE
  refine zy hF rfl g1_2 (r_not hF rfl rfl) fun a hF => ?_
  refine zl hF rfl (r_pickf hF rfl rfl g1_2 rfl) fun a hF => ?_
  refine c_n ?_
  replace hF := hF.sel [1, 2, 18]
  simp only [ss, Nat.reduceBEq] at hF
  refine c_if hF rfl (fun h18 => ?_) (fun h18 => ?_)
  ·
   try simp only [qq] at h18
   refine c_sr fun ops => ?_
   refine zc hF rfl rfl fn8 (awake_spec _ (hG.ext hH.below)) ?_
   rintro _ w ⟨rfl, hE⟩ a hF
   replace hH := hH.ext hE
   refine zm 1 hF rfl fun a hF => ?_
   refine c_n ?_
   replace hF := hF.sel [4]
   simp only [ss, Nat.reduceBEq] at hF
   refine wp_ret (t1.ret (hret (ret1 hF Tryz.results7 rfl ?_)))
   exact ⟨rfl, hH.below⟩
  try simp only [qq] at h18
  refine wp_skip ?_
  refine k1 ?_
  have hS : SmallM m := by
    unfold SmallM
    cases bl with
    | true => simp_all
    | false => exact hbl rfl
  have hB := hS.b
  refine c_sr fun ops => ?_
  refine zl hF rfl (r_loadagg hF rfl rfl Tryz.underlying37 ti37 rfl (own_agg (i := 0) (cs := (msgV m (.slice qad m.qs.length qcp) (.slice aad m.ans.length acp) (.slice uad m.auth.length ucp) (.slice xad m.extra.length xcp) ov).toArray) hH rfl)) fun a hF => ?_
  refine zc hF rfl rfl fn14 (encode_spec m _ _ _ _ _ _ (hG.ext hH.below) (hR.ext hH.below) hL hB) ?_
  rintro _ w ⟨rfl, hE⟩ a hF
  replace hH := hH.ext hE
  refine zm 5 hF rfl fun a hF => ?_
  refine c_n ?_
  replace hF := hF.sel [1, 2, 5, 6]
  simp only [ss, Nat.reduceBEq] at hF
  refine c_seq fun Q2 k2 t2 => ?_
  refine c_sr fun ops => ?_
  refine zm 1 hF rfl fun a hF => ?_
  refine zb hF rfl rfl rfl (b_nen _ _ _ 0) fun a hF => ?_
  refine c_n ?_
  replace hF := hF.sel [1, 2, 5, 26]
  simp only [ss, Nat.reduceBEq] at hF
  refine c_if hF rfl (fun h26 => ?_) (fun h26 => ?_)
  ·
   try simp only [qq] at h26
   refine c_sr fun ops => ?_
   refine zm 1 hF rfl fun a hF => ?_
   refine c_n ?_
   replace hF := hF.sel [4]
   simp only [ss, Nat.reduceBEq] at hF
   refine wp_ret (t2.ret (hret (ret1 hF Tryz.results7 rfl ?_)))
   exact ⟨rfl, hH.below⟩
  try simp only [qq] at h26
  obtain ⟨s, hs⟩ : ∃ s, encN m = (0, s) := ⟨(encN m).2, Prod.ext (by omega) rfl⟩
  have hlen := enc_len hs
  have hxe := hB.extra.1
  rw [hs] at hF
  simp only at hF
  refine wp_skip ?_
  refine k2 ?_
  refine c_sr fun ops => ?_
  refine zm 1 hF rfl fun a hF => ?_
  refine c_n ?_
  replace hF := hF.sel [1, 2, 5, 7]
  simp only [ss, Nat.reduceBEq] at hF
  refine c_cut (fun a w => FrD [] 107 [(1, .int .u16 (k : Nat)), (2, ptr g0_0), (5, .string (mk s)), (7, .int .i64 ((if m.has = true then 1 else 0 : Nat) : Int))] a ∧ Hp w0 w [(g0_0, .cells (msgV m (.slice qad m.qs.length qcp) (.slice aad m.ans.length acp) (.slice uad m.auth.length ucp) (.slice xad m.extra.length xcp) ov).toArray 37 (0, 0))]) (fun Q3 k3 t3 => ?_) ?_
  ·
   refine c_sr fun ops => ?_
   refine zl hF rfl (r_fieldaddr0 hF rfl rfl fd37_5) fun a hF => ?_
   refine zl hF rfl (r_load hF rfl rfl fl4 (own_cell (i := 0) (v := .bool m.has) hH rfl rfl)) fun a hF => ?_
   refine c_n ?_
   refine c_fi hF rfl (fun h28 => ?_) (fun h28 => ?_)
   ·
    try simp only [qq] at h28
    refine wp_skip ?_
    refine k3 ?_
    exact ⟨by rw [h28]; exact hF.keep [1, 2, 5, 7] rfl, hH⟩
   try simp only [qq] at h28
   refine c_reg fun ops => ?_
   refine zm 1 hF rfl fun a hF => ?_
   refine wpList_nil ?_
   refine k3 ?_
   exact ⟨by rw [h28]; exact hF.keep [1, 2, 5, 7] rfl, hH⟩
  rintro a w ⟨hF, hH⟩
  have hif : (if m.has = true then 1 else 0) ≤ 1 := by split <;> omega
  refine c_sr fun ops => ?_
  refine zl hF rfl (r_fieldaddr0 hF rfl rfl fd37_1) fun a hF => ?_
  refine zl hF rfl (r_load hF rfl rfl fl31 (own_cell (i := 0) (v := .slice qad m.qs.length qcp) hH rfl rfl)) fun a hF => ?_
  refine zl hF rfl (r_len_sl hF rfl rfl Tryz.underlying31) fun a hF => ?_
  refine zl hF rfl (r_fieldaddr0 hF rfl rfl fd37_2) fun a hF => ?_
  refine zl hF rfl (r_load hF rfl rfl fl32 (own_cell (i := 0) (v := .slice aad m.ans.length acp) hH rfl rfl)) fun a hF => ?_
  refine zl hF rfl (r_len_sl hF rfl rfl Tryz.underlying32) fun a hF => ?_
  refine zl hF rfl (r_fieldaddr0 hF rfl rfl fd37_3) fun a hF => ?_
  refine zl hF rfl (r_load hF rfl rfl fl32 (own_cell (i := 0) (v := .slice uad m.auth.length ucp) hH rfl rfl)) fun a hF => ?_
  refine zl hF rfl (r_len_sl hF rfl rfl Tryz.underlying32) fun a hF => ?_
  refine zl hF rfl (r_fieldaddr0 hF rfl rfl fd37_4) fun a hF => ?_
  refine zl hF rfl (r_load hF rfl rfl fl32 (own_cell (i := 0) (v := .slice xad m.extra.length xcp) hH rfl rfl)) fun a hF => ?_
  refine zl hF rfl (r_len_sl hF rfl rfl Tryz.underlying32) fun a hF => ?_
  refine zm 1 hF rfl fun a hF => ?_
  refine zb hF rfl rfl rfl (b_addn _ _ _ (by omega)) fun a hF => ?_
  refine ls_buildN (us := [_, _, _, _]) hF hH rfl rfl rfl rfl rfl rfl Tryz.underlying50 ti3 (by intro u hu; simp only [List.mem_cons, List.not_mem_nil, or_false] at hu; rcases hu with rfl | rfl | rfl | rfl <;> rfl) (by decide) ?_
  intro a w g9_14 hH hE hF
  refine zm 1 hF rfl fun a hF => ?_
  refine c_n ?_
  replace hF := hF.sel [1, 2, 5, 8]
  simp only [ss, Nat.reduceBEq] at hF
  replace hH : Hp w0 w [(g9_14, .cells #[.int .i64 (m.qs.length : Nat), .int .i64 (m.ans.length : Nat), .int .i64 (m.auth.length : Nat), .int .i64 ((m.extra.length + if m.has = true then 1 else 0 : Nat) : Int)] 3 (0, 0)), (g0_0, .cells (msgV m (.slice qad m.qs.length qcp) (.slice aad m.ans.length acp) (.slice uad m.auth.length ucp) (.slice xad m.extra.length xcp) ov).toArray 37 (0, 0))] := hH
  refine c_seq fun Q4 k4 t4 => ?_
  refine c_sr fun ops => ?_
  refine zm 1 hF rfl fun a hF => ?_
  refine c_n ?_
  replace hF := hF.sel [1, 2, 5, 8, 9]
  simp only [ss, Nat.reduceBEq] at hF
  refine c_block fun Q5 t5 => ?_
  refine c_loop (fun n a w => ∃ i, n = 4 - i ∧ i ≤ 4 ∧ FrD [] 107 [(1, .int .u16 (k : Nat)), (2, ptr g0_0), (5, .string (mk s)), (8, .slice (some ⟨g9_14, 0, none⟩) 4 4), (9, .int .i64 (i : Nat))] a ∧ Hp w0 w [(g9_14, .cells #[.int .i64 (m.qs.length : Nat), .int .i64 (m.ans.length : Nat), .int .i64 (m.auth.length : Nat), .int .i64 ((m.extra.length + if m.has = true then 1 else 0 : Nat) : Int)] 3 (0, 0)), (g0_0, .cells (msgV m (.slice qad m.qs.length qcp) (.slice aad m.ans.length acp) (.slice uad m.auth.length ucp) (.slice xad m.extra.length xcp) ov).toArray 37 (0, 0))]) ?_ ?_
  ·
   exact ⟨_, 0, rfl, Nat.zero_le _, hF.keep [1, 2, 5, 8, 9] rfl, hH⟩
  clear hH hF
  intro n a w hI Q6 k6 t6
  obtain ⟨i, hm, hi, hF, hH⟩ := hI
  refine c_seq fun Q7 k7 t7 => ?_
  refine c_sr fun ops => ?_
  refine zm 1 hF rfl fun a hF => ?_
  refine zb hF rfl rfl rfl (b_ltn _ _ _ 4) fun a hF => ?_
  refine c_n ?_
  refine c_if hF rfl (fun h45 => ?_) (fun h45 => ?_)
  ·
   try simp only [qq] at h45
   obtain ⟨c, hc, hnc⟩ := cntM_at hL hs h45
   have hc1 := (s.getD (4 + 2 * i) 0).toNat_lt
   have hc2 := (s.getD (5 + 2 * i) 0).toNat_lt
   unfold num2 at hnc
   rw [show 4 + 2 * i + 1 = 5 + 2 * i by omega] at hnc
   refine wp_skip ?_
   refine k7 ?_
   refine c_seq fun Q8 k8 t8 => ?_
   refine c_block fun Q9 t9 => ?_
   refine c_seq fun Q10 k10 t10 => ?_
   refine q_reg (by kernel_rfl) (by kernel_rfl) ?_
   refine qs hF rfl rfl rfl (fun w hw => r_move hF rfl rfl) fun a hF => ?_
   refine qs hF rfl rfl rfl (fun w hw => r_move hF rfl rfl) fun a hF => ?_
   refine qs hF rfl rfl rfl (fun w hw => zr hF rfl rfl (b_mulk _ 2 i (by omega))) fun a hF => ?_
   refine qs hF rfl rfl rfl (fun w hw => zr hF rfl rfl (b_addn _ 4 _ (by omega))) fun a hF => ?_
   refine qs hF rfl rfl rfl (fun w hw => r_indexn hF _ rfl rfl rfl Tryz.underlying9 (by omega)) fun a hF => ?_
   refine qs hF rfl rfl rfl (fun w hw => r_convin hF rfl rfl (by rw [Tryz.underlying5]; rfl) Tryz.underlying3 (-9223372036854775808) 9223372036854775807 mn_i64 mx_i64 (by omega)) fun a hF => ?_
   refine qs hF rfl rfl rfl (fun w hw => zr hF rfl rfl (b_mulk _ _ 256 (by omega))) fun a hF => ?_
   refine qs hF rfl rfl rfl (fun w hw => r_move hF rfl rfl) fun a hF => ?_
   refine qs hF rfl rfl rfl (fun w hw => r_move hF rfl rfl) fun a hF => ?_
   refine qs hF rfl rfl rfl (fun w hw => zr hF rfl rfl (b_mulk _ 2 i (by omega))) fun a hF => ?_
   refine qs hF rfl rfl rfl (fun w hw => zr hF rfl rfl (b_addn _ 5 _ (by omega))) fun a hF => ?_
   refine qs hF rfl rfl rfl (fun w hw => r_indexn hF _ rfl rfl rfl Tryz.underlying9 (by omega)) fun a hF => ?_
   refine qs hF rfl rfl rfl (fun w hw => r_convin hF rfl rfl (by rw [Tryz.underlying5]; rfl) Tryz.underlying3 (-9223372036854775808) 9223372036854775807 mn_i64 mx_i64 (by omega)) fun a hF => ?_
   refine qs hF rfl rfl rfl (fun w hw => zr hF rfl rfl (b_addn _ _ _ (by omega))) fun a hF => ?_
   refine qs hF rfl rfl rfl (fun w hw => r_move hF rfl rfl) fun a hF => ?_
   refine qs hF rfl rfl rfl (fun w hw => r_move hF rfl rfl) fun a hF => ?_
   refine qs hF rfl rfl rfl (fun w hw => r_ix1 hF _ rfl rfl rfl Tryz.underlying50 ti3 (by omega)) fun a hF => ?_
   refine qs hF rfl rfl rfl (fun w hw => r_load hF rfl rfl fl3 (hw.cell (own_cell (i := 0) hH rfl hc))) fun a hF => ?_
   refine qs hF rfl rfl rfl (fun w hw => zr hF rfl rfl (b_nen _ _ _ _)) fun a hF => ?_
   refine q_nil fun w hE => ?_
   replace hH := hH.ext hE
   refine k10 ?_
   refine c_if hF rfl (fun h66 => ?_) (fun h66 => ?_)
   ·
    try simp only [qq] at h66
    refine c_sr fun ops => ?_
    refine zm 1 hF rfl fun a hF => ?_
    refine c_n ?_
    refine wp_ret (t9.ret (t8.ret (t6.ret (t5.ret (t4.ret (hret (ret1 hF Tryz.results7 rfl ?_)))))))
    exact absurd hnc h66
   try simp only [qq] at h66
   refine wp_skip ?_
   refine t9.norm ?_
   refine k8 ?_
   refine c_reg fun ops => ?_
   refine zm 1 hF rfl fun a hF => ?_
   refine zb hF rfl rfl rfl (b_addn _ _ 1 (by omega)) fun a hF => ?_
   refine zm 1 hF rfl fun a hF => ?_
   refine wpList_nil ?_
   refine k6 ?_
   exact ⟨4 - (i + 1), by omega, i + 1, rfl, by omega, hF.keep [1, 2, 5, 8, 9] rfl, hH⟩
  try simp only [qq] at h45
  skip
  refine wp_exit (t7.exit (t6.exit (t5.here (?_))))
  refine k4 ?_
  refine c_sr fun ops => ?_
  refine zl hF rfl (r_loadagg hF rfl rfl Tryz.underlying37 ti37 rfl (own_agg (i := 1) (cs := (msgV m (.slice qad m.qs.length qcp) (.slice aad m.ans.length acp) (.slice uad m.auth.length ucp) (.slice xad m.extra.length xcp) ov).toArray) hH rfl)) fun a hF => ?_
  refine ls_alloc hF hH rfl rfl rfl rfl zv37 ?_
  intro a w g15_1 hH hE hF
  refine ls_storeagg 0 hF hH rfl rfl rfl rfl rfl ti37 rfl (rfl) (rfl) (by intro u hu; exact msg_one7 hR u (by simpa using hu)) ?_
  intro w hH
  refine c_n ?_
  replace hF := hF.sel [1, 2, 5, 10]
  simp only [ss, Nat.reduceBEq] at hF
  refine c_sr fun ops => ?_
  refine zm 1 hF rfl fun a hF => ?_
  refine zl hF rfl (r_fieldaddr0 hF rfl rfl fd37_0) fun a hF => ?_
  refine zl hF rfl (r_fieldaddr0 hF rfl rfl fd30_0) fun a hF => ?_
  refine ls_store 0 hF hH rfl rfl rfl rfl rfl fl28 ti28 rfl ((show 0 < 21 by omega)) (by simp [noFreeze]) (rfl) ?_
  intro w hH
  refine c_n ?_
  replace hF := hF.sel [1, 2, 5, 10]
  simp only [ss, Nat.reduceBEq] at hF
  obtain ⟨m2, hm2⟩ : ∃ m2 : Msg, m2 = { m with hd := { m.hd with id := k } } := ⟨_, rfl⟩
  replace hH : Hp w0 w [(g15_1, .cells (msgV m2 (.slice qad m.qs.length qcp) (.slice aad m.ans.length acp) (.slice uad m.auth.length ucp) (.slice xad m.extra.length xcp) ov).toArray 37 (0, 0)), (g9_14, .cells #[.int .i64 (m.qs.length : Nat), .int .i64 (m.ans.length : Nat), .int .i64 (m.auth.length : Nat), .int .i64 ((m.extra.length + if m.has = true then 1 else 0 : Nat) : Int)] 3 (0, 0)), (g0_0, .cells (msgV m (.slice qad m.qs.length qcp) (.slice aad m.ans.length acp) (.slice uad m.auth.length ucp) (.slice xad m.extra.length xcp) ov).toArray 37 (0, 0))] := by rw [hm2]; exact hH
  have hR2 : MsgR w0 m2 (.slice qad m.qs.length qcp) (.slice aad m.ans.length acp) (.slice uad m.auth.length ucp) (.slice xad m.extra.length xcp) ov := by rw [hm2]; exact ⟨hR.qs, hR.ans, hR.auth, hR.extra, hR.opts⟩
  have hL2 : MsgL m2 := by rw [hm2]; exact ⟨⟨hk, hL.hd.op, hL.hd.code⟩, hL.qs, hL.ans, hL.auth, hL.extra, hL.ed⟩
  have hB2 : MsgB m2 := by rw [hm2]; exact ⟨hB.qs, hB.ans, hB.auth, hB.extra, hB.opts⟩
  have hs2 : encN m2 = (0, be2 k ++ s.drop 2) := by rw [hm2]; exact (enc_id k hs).1
  refine c_sr fun ops => ?_
  refine zl hF rfl (r_loadagg hF rfl rfl Tryz.underlying37 ti37 rfl (own_agg (i := 0) (cs := (msgV m2 (.slice qad m.qs.length qcp) (.slice aad m.ans.length acp) (.slice uad m.auth.length ucp) (.slice xad m.extra.length xcp) ov).toArray) hH rfl)) fun a hF => ?_
  refine zc hF rfl rfl fn14 (encode_spec m2 _ _ _ _ _ _ (hG.ext hH.below) (hR2.ext hH.below) hL2 hB2) ?_
  rintro _ w ⟨rfl, hE⟩ a hF
  rw [hs2] at hF; simp only at hF; replace hH := hH.ext hE
  refine zm 5 hF rfl fun a hF => ?_
  refine c_n ?_
  replace hF := hF.sel [1, 2, 5, 11, 12]
  simp only [ss, Nat.reduceBEq] at hF
  refine c_seq fun Q11 k11 t11 => ?_
  have hc1 := (s.getD 0 0).toNat_lt
  have hc2 := (s.getD 1 0).toNat_lt
  have hn0 := (enc_nums hL hs).1
  unfold num2 at hn0
  have hid := hL.hd.id
  refine c_flow [0, 1, 2] [3, 4, 5, 6, 7, 8, 9, 10, 11, 12, 13, 14, 15, 16, 17, 18, 19, 20, 21, 22, 23, 24, 25, 26, 27, 28, 29, 30, 31] [] [] (by kernel_rfl) (by kernel_rfl) fun hB => ?_
  refine ps hF rfl rfl rfl rfl (fun w => r_move hF rfl rfl) fun a hF => ?_
  refine ps hF rfl rfl rfl rfl (fun w => zr hF rfl rfl (b_eqn _ _ _ 0)) fun a hF => ?_
  refine ps hF rfl rfl rfl rfl (fun w => r_move hF rfl rfl) fun a hF => ?_
  refine fl_start [79, 80, 81, 82, 83, 84, 85, 86, 87, 88, 89, 90, 91, 92, 93, 94, 95, 96, 97, 98, 99, 100, 101, 102, 103, 104, 105, 106, 4] hB (by kernel_rfl) hF ?_
  simp only [wo, hasN, Nat.reduceBEq, cond_true, cond_false] at hF ⊢
  refine fs1 rfl (by
   intro a w Lr hE hC hl
   replace hH := hH.ext hE
   have hF := hC.fr
   exact zy hF rfl rfl (r_move hF rfl rfl) fun a' hF' => wpList_nil (fl_end hC hF' (Ext.refl _) rfl)) ?_
  refine fs1 rfl (by
   intro a w Lr hE hC hl
   replace hH := hH.ext hE
   have hF := hC.fr
   exact zy hF rfl rfl (r_move hF rfl rfl) fun a' hF' => wpList_nil (fl_end hC hF' (Ext.refl _) rfl)) ?_
  refine fs1 rfl (by
   intro a w Lr hE hC hl
   replace hH := hH.ext hE
   obtain ⟨_, s80, rfl⟩ := hl 80 (by decide) _ rfl
   replace hC := hC.more s80
   have hF := hC.fr
   exact zy hF rfl rfl (zr hF rfl rfl (b_shr2 _ k)) fun a' hF' => wpList_nil (fl_end hC hF' (Ext.refl _) rfl)) ?_
  refine fs1 rfl (by
   intro a w Lr hE hC hl
   replace hH := hH.ext hE
   obtain ⟨_, s81, rfl⟩ := hl 81 (by decide) _ rfl
   replace hC := hC.more s81
   have hF := hC.fr
   exact zy hF rfl rfl (r_conv8 hF rfl rfl (by rw [Tryz.underlying28]; rfl) Tryz.underlying5) fun a' hF' => wpList_nil (fl_end hC hF' (Ext.refl _) rfl)) ?_
  refine fs1 rfl (by
   intro a w Lr hE hC hl
   replace hH := hH.ext hE
   have hF := hC.fr
   exact zy hF rfl rfl (r_move hF rfl rfl) fun a' hF' => wpList_nil (fl_end hC hF' (Ext.refl _) rfl)) ?_
  refine fs1 rfl (by
   intro a w Lr hE hC hl
   replace hH := hH.ext hE
   obtain ⟨_, s83, rfl⟩ := hl 83 (by decide) _ rfl
   replace hC := hC.more s83
   have hF := hC.fr
   exact zy hF rfl rfl (r_conv8 hF rfl rfl (by rw [Tryz.underlying28]; rfl) Tryz.underlying5) fun a' hF' => wpList_nil (fl_end hC hF' (Ext.refl _) rfl)) ?_
  refine fsr rfl (by
   intro a w Lr hE hC hl
   replace hH := hH.ext hE
   obtain ⟨_, s82, rfl⟩ := hl 82 (by decide) _ rfl
   replace hC := hC.more s82
   obtain ⟨_, s84, rfl⟩ := hl 84 (by decide) _ rfl
   replace hC := hC.more s84
   have hF := hC.fr
   refine g_on hF rfl rfl rfl rfl ?_
   refine ls_buildN (us := [_, _]) hF (Hp.refl w) rfl rfl rfl rfl rfl rfl Tryz.underlying26 ti5 (by intro u hu; simp only [List.mem_cons, List.not_mem_nil, or_false] at hu; rcases hu with rfl | rfl <;> rfl) (by decide) ?_
   intro a' w' g hH' hE' hF'
   exact wpList_nil (fl_end hC hF' hE' (rsl_lit (n := 2) (size := 1) hH' rfl (by decide)))) ?_
  refine fs1 rfl (by
   intro a w Lr hE hC hl
   replace hH := hH.ext hE
   obtain ⟨v85, s85, p85⟩ := hl 85 (by decide) _ rfl
   replace hC := hC.more s85
   have hF := hC.fr
   exact zy hF rfl rfl (r_convstr hF rfl rfl Tryz.underlying26 Tryz.underlying5 Tryz.underlying9 ((show RSl w 1 v85 2 (bytV (be2 k)) from p85))) fun a' hF' => wpList_nil (fl_end hC hF' (Ext.refl _) rfl)) ?_
  refine fs1 rfl (by
   intro a w Lr hE hC hl
   replace hH := hH.ext hE
   have hF := hC.fr
   exact zy hF rfl rfl (r_move hF rfl rfl) fun a' hF' => wpList_nil (fl_end hC hF' (Ext.refl _) rfl)) ?_
  refine fs1 rfl (by
   intro a w Lr hE hC hl
   replace hH := hH.ext hE
   obtain ⟨_, s87, rfl⟩ := hl 87 (by decide) _ rfl
   replace hC := hC.more s87
   have hF := hC.fr
   exact zy hF rfl rfl (r_slicefn hF 2 rfl rfl Tryz.underlying9 ⟨_, rfl⟩ (by omega)) fun a' hF' => wpList_nil (fl_end hC hF' (Ext.refl _) rfl)) ?_
  refine fs1 rfl (by
   intro a w Lr hE hC hl
   replace hH := hH.ext hE
   obtain ⟨_, s86, rfl⟩ := hl 86 (by decide) _ rfl
   replace hC := hC.more s86
   obtain ⟨_, s88, rfl⟩ := hl 88 (by decide) _ rfl
   replace hC := hC.more s88
   have hF := hC.fr
   exact zy hF rfl rfl (zr hF rfl rfl (b_sadd _ _ _ (by rw [be2_len, List.length_drop]; omega))) fun a' hF' => wpList_nil (fl_end hC hF' (Ext.refl _) rfl)) ?_
  refine fs1 rfl (by
   intro a w Lr hE hC hl
   replace hH := hH.ext hE
   obtain ⟨_, s79, rfl⟩ := hl 79 (by decide) _ rfl
   replace hC := hC.more s79
   obtain ⟨_, s89, rfl⟩ := hl 89 (by decide) _ rfl
   replace hC := hC.more s89
   have hF := hC.fr
   exact zy hF rfl rfl (zr hF rfl rfl (b_seq_yes _ _ _ rfl)) fun a' hF' => wpList_nil (fl_end hC hF' (Ext.refl _) rfl)) ?_
  refine fs1 rfl (by
   intro a w Lr hE hC hl
   replace hH := hH.ext hE
   obtain ⟨_, s90, rfl⟩ := hl 90 (by decide) _ rfl
   replace hC := hC.more s90
   have hF := hC.fr
   exact zl hF rfl (r_pickt hF rfl rfl rfl rfl) fun a' hF' => wpList_nil (fl_end hC hF' (Ext.refl _) rfl)) ?_
  refine fs1 rfl (by
   intro a w Lr hE hC hl
   replace hH := hH.ext hE
   obtain ⟨_, s91, rfl⟩ := hl 91 (by decide) _ rfl
   replace hC := hC.more s91
   have hF := hC.fr
   exact zl hF rfl (r_move hF rfl rfl) fun a' hF' => wpList_nil (fl_end hC hF' (Ext.refl _) rfl)) ?_
  refine fs1 rfl (by
   intro a w Lr hE hC hl
   replace hH := hH.ext hE
   obtain ⟨_, s92, rfl⟩ := hl 92 (by decide) _ rfl
   replace hC := hC.more s92
   have hF := hC.fr
   exact zy hF rfl rfl (r_move hF rfl rfl) fun a' hF' => wpList_nil (fl_end hC hF' (Ext.refl _) rfl)) ?_
  refine fs1 rfl (by
   intro a w Lr hE hC hl
   replace hH := hH.ext hE
   obtain ⟨_, s93, rfl⟩ := hl 93 (by decide) _ rfl
   replace hC := hC.more s93
   obtain ⟨_, s92, rfl⟩ := hl 92 (by decide) _ rfl
   replace hC := hC.more s92
   have hF := hC.fr
   exact zy hF rfl rfl (r_indexn hF 0 rfl rfl rfl Tryz.underlying9 (by omega)) fun a' hF' => wpList_nil (fl_end hC hF' (Ext.refl _) rfl)) ?_
  refine fs1 rfl (by
   intro a w Lr hE hC hl
   replace hH := hH.ext hE
   obtain ⟨_, s94, rfl⟩ := hl 94 (by decide) _ rfl
   replace hC := hC.more s94
   obtain ⟨_, s92, rfl⟩ := hl 92 (by decide) _ rfl
   replace hC := hC.more s92
   have hF := hC.fr
   exact zy hF rfl rfl (r_convin hF rfl rfl (by rw [Tryz.underlying5]; rfl) Tryz.underlying3 (-9223372036854775808) 9223372036854775807 mn_i64 mx_i64 (by omega)) fun a' hF' => wpList_nil (fl_end hC hF' (Ext.refl _) rfl)) ?_
  refine fs1 rfl (by
   intro a w Lr hE hC hl
   replace hH := hH.ext hE
   obtain ⟨_, s95, rfl⟩ := hl 95 (by decide) _ rfl
   replace hC := hC.more s95
   obtain ⟨_, s92, rfl⟩ := hl 92 (by decide) _ rfl
   replace hC := hC.more s92
   have hF := hC.fr
   exact zy hF rfl rfl (zr hF rfl rfl (b_mulk _ _ 256 (by omega))) fun a' hF' => wpList_nil (fl_end hC hF' (Ext.refl _) rfl)) ?_
  refine fs1 rfl (by
   intro a w Lr hE hC hl
   replace hH := hH.ext hE
   obtain ⟨_, s92, rfl⟩ := hl 92 (by decide) _ rfl
   replace hC := hC.more s92
   have hF := hC.fr
   exact zy hF rfl rfl (r_move hF rfl rfl) fun a' hF' => wpList_nil (fl_end hC hF' (Ext.refl _) rfl)) ?_
  refine fs1 rfl (by
   intro a w Lr hE hC hl
   replace hH := hH.ext hE
   obtain ⟨_, s97, rfl⟩ := hl 97 (by decide) _ rfl
   replace hC := hC.more s97
   obtain ⟨_, s92, rfl⟩ := hl 92 (by decide) _ rfl
   replace hC := hC.more s92
   have hF := hC.fr
   exact zy hF rfl rfl (r_indexn hF 1 rfl rfl rfl Tryz.underlying9 (by omega)) fun a' hF' => wpList_nil (fl_end hC hF' (Ext.refl _) rfl)) ?_
  refine fs1 rfl (by
   intro a w Lr hE hC hl
   replace hH := hH.ext hE
   obtain ⟨_, s98, rfl⟩ := hl 98 (by decide) _ rfl
   replace hC := hC.more s98
   obtain ⟨_, s92, rfl⟩ := hl 92 (by decide) _ rfl
   replace hC := hC.more s92
   have hF := hC.fr
   exact zy hF rfl rfl (r_convin hF rfl rfl (by rw [Tryz.underlying5]; rfl) Tryz.underlying3 (-9223372036854775808) 9223372036854775807 mn_i64 mx_i64 (by omega)) fun a' hF' => wpList_nil (fl_end hC hF' (Ext.refl _) rfl)) ?_
  refine fs1 rfl (by
   intro a w Lr hE hC hl
   replace hH := hH.ext hE
   obtain ⟨_, s96, rfl⟩ := hl 96 (by decide) _ rfl
   replace hC := hC.more s96
   obtain ⟨_, s99, rfl⟩ := hl 99 (by decide) _ rfl
   replace hC := hC.more s99
   obtain ⟨_, s92, rfl⟩ := hl 92 (by decide) _ rfl
   replace hC := hC.more s92
   have hF := hC.fr
   exact zy hF rfl rfl (zr hF rfl rfl (b_addn _ _ _ (by omega))) fun a' hF' => wpList_nil (fl_end hC hF' (Ext.refl _) rfl)) ?_
  refine fs1 rfl (by
   intro a w Lr hE hC hl
   replace hH := hH.ext hE
   obtain ⟨_, s92, rfl⟩ := hl 92 (by decide) _ rfl
   replace hC := hC.more s92
   have hF := hC.fr
   exact zy hF rfl rfl (r_fieldaddr0 hF rfl rfl fd37_0) fun a' hF' => wpList_nil (fl_end hC hF' (Ext.refl _) rfl)) ?_
  refine fs1 rfl (by
   intro a w Lr hE hC hl
   replace hH := hH.ext hE
   obtain ⟨_, s101, rfl⟩ := hl 101 (by decide) _ rfl
   replace hC := hC.more s101
   obtain ⟨_, s92, rfl⟩ := hl 92 (by decide) _ rfl
   replace hC := hC.more s92
   have hF := hC.fr
   exact zy hF rfl rfl (r_fieldaddr0 hF rfl rfl fd30_0) fun a' hF' => wpList_nil (fl_end hC hF' (Ext.refl _) rfl)) ?_
  refine fs1 rfl (by
   intro a w Lr hE hC hl
   replace hH := hH.ext hE
   obtain ⟨_, s102, rfl⟩ := hl 102 (by decide) _ rfl
   replace hC := hC.more s102
   obtain ⟨_, s92, rfl⟩ := hl 92 (by decide) _ rfl
   replace hC := hC.more s92
   have hF := hC.fr
   exact zy hF rfl rfl (r_load hF rfl rfl fl28 (own_cell (i := 2) (v := .int .u16 (m.hd.id : Nat)) hH rfl rfl)) fun a' hF' => wpList_nil (fl_end hC hF' (Ext.refl _) rfl)) ?_
  refine fs1 rfl (by
   intro a w Lr hE hC hl
   replace hH := hH.ext hE
   obtain ⟨_, s103, rfl⟩ := hl 103 (by decide) _ rfl
   replace hC := hC.more s103
   obtain ⟨_, s92, rfl⟩ := hl 92 (by decide) _ rfl
   replace hC := hC.more s92
   have hF := hC.fr
   exact zy hF rfl rfl (r_convin hF rfl rfl (by rw [Tryz.underlying28]; rfl) Tryz.underlying3 (-9223372036854775808) 9223372036854775807 mn_i64 mx_i64 (by omega)) fun a' hF' => wpList_nil (fl_end hC hF' (Ext.refl _) rfl)) ?_
  refine fs1 rfl (by
   intro a w Lr hE hC hl
   replace hH := hH.ext hE
   obtain ⟨_, s100, rfl⟩ := hl 100 (by decide) _ rfl
   replace hC := hC.more s100
   obtain ⟨_, s104, rfl⟩ := hl 104 (by decide) _ rfl
   replace hC := hC.more s104
   obtain ⟨_, s92, rfl⟩ := hl 92 (by decide) _ rfl
   replace hC := hC.more s92
   have hF := hC.fr
   exact zy hF rfl rfl (zr hF rfl rfl (b_eqn _ _ _ _)) fun a' hF' => wpList_nil (fl_end hC hF' (Ext.refl _) rfl)) ?_
  refine fs1 rfl (by
   intro a w Lr hE hC hl
   replace hH := hH.ext hE
   obtain ⟨_, s92, rfl⟩ := hl 92 (by decide) _ rfl
   replace hC := hC.more s92
   obtain ⟨_, s105, rfl⟩ := hl 105 (by decide) _ rfl
   replace hC := hC.more s105
   have hF := hC.fr
   exact zl hF rfl (r_pickt hF rfl rfl rfl rfl) fun a' hF' => wpList_nil (fl_end hC hF' (Ext.refl _) rfl)) ?_
  refine fs1 rfl (by
   intro a w Lr hE hC hl
   replace hH := hH.ext hE
   obtain ⟨_, s106, rfl⟩ := hl 106 (by decide) _ rfl
   replace hC := hC.more s106
   have hF := hC.fr
   exact zl hF rfl (r_assign hF rfl rfl) fun a' hF' => wpList_nil (fl_end hC hF' (Ext.refl _) rfl)) ?_
  intro a w hE hF hall
  replace hH := hH.ext hE
  obtain ⟨_, s4, rfl⟩ := hall 4 _ rfl
  replace hF := hF.more s4
  clear hall
  refine wpList_nil ?_
  replace hF := hF.sel [4]
  simp only [ss, Nat.reduceBEq] at hF
  refine k11 ?_
  refine wp_ret (hret (ret1 hF Tryz.results7 rfl ?_))
  exact ⟨by rw [decide_eq_true hn0], hH.below⟩
end Go.Proofs.YtpoebplhemimmaaGreatDoor
