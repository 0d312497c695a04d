/-
  The walk of hustingslaw07.WireBack. Nothing is claimed here.
-/
import Derived.Test.YtpoebplhemimmaaGreatDoorLaw7d
import Derived.Test.YtpoebplhemimmaaGreatDoorWBack2
namespace Go.Proofs.YtpoebplhemimmaaGreatDoor
open Go.RowKit
set_option linter.unusedVariables false
set_option linter.unusedSimpArgs false
set_option maxHeartbeats 1000000

theorem noMsg_B : MsgB noMsg := ⟨⟨by decide, fun q h => by cases h⟩, ⟨by decide, noneR _⟩, ⟨by decide, noneR _⟩, ⟨by decide, noneR _⟩, ⟨by decide, fun o h => by cases h⟩⟩
theorem back_spec (m : Msg) (qv av uv xv ov : Value) (s : Bs) (w0 : World) (hG : GX w0) (hR : MsgR w0 m qv av uv xv ov) (hL : MsgL m) (hs63 : s.length < 9223372036854775808) :
    Rets Tryz.prog 4 [.agg (msgV m qv av uv xv ov).toArray, .string (mk s)] w0 fun v w' => v = .bool true ∧ Ext w0 w' := by
  have hH := Hp.refl w0
  refine rets_start Tryz.func4 rfl Tryz.ntmps4 rfl fun a Q0 hF hret hend => ?_
  simp only [argsFrom, Nat.zero_add, Nat.reduceAdd] at hF
  refine c_sr fun ops => ?_
  refine ls_box hF hH rfl rfl rfl rfl rfl ?_
  intro a w g0_0 hH hE hF
  refine zm 1 hF rfl fun a hF => ?_
  refine c_n ?_
  replace hF := hF.sel [1, 2]
  simp only [ss, Nat.reduceBEq] at hF
  refine c_seq fun Q1 k1 t1 => ?_
  refine c_sg ?_
  refine zl hF rfl (r_loadagg hF rfl rfl Tryz.underlying37 ti37 rfl (own_agg (i := 0) (cs := (msgV m qv av uv xv ov).toArray) hH rfl)) fun a hF => ?_
  refine zc hF rfl rfl fn13 (large_spec m _ _ _ _ _ _ (hR.ext hH.below)) ?_
  rintro _ w ⟨⟨bl, rfl, hbl⟩, hE⟩ a hF
  replace hH := hH.ext hE
  refine zm 1 hF rfl fun a hF => ?_
  refine ls_ask (d := 17) hF rfl (fun g1_2 => ?_) (fun g1_2 => ?_)
  ·
   have g1_2' := g1_2; try simp only [qq] at g1_2'
   refine zn hF rfl g1_2 fun a hF => ?_
   refine zn hF rfl g1_2 fun a hF => ?_
   refine zn hF rfl g1_2 fun a hF => ?_
   refine zl hF rfl (r_pickt hF rfl rfl g1_2 rfl) fun a hF => ?_
   refine zm 1 hF rfl fun a hF => ?_
   refine zn hF rfl rfl fun a hF => ?_
   refine zn hF rfl rfl fun a hF => ?_
   refine zl hF rfl (r_pickt hF rfl rfl rfl rfl) fun a hF => ?_
   refine c_n ?_
   replace hF := hF.sel [1, 2, 25]
   simp only [ss, Nat.reduceBEq] at hF
   refine c_yes hF rfl rfl ?_
   refine c_sr fun ops => ?_
   refine zc hF rfl rfl fn8 (awake_spec _ (hG.ext hH.below)) ?_
   rintro _ w ⟨rfl, hE⟩ a hF
   replace hH := hH.ext hE
   refine zm 1 hF rfl fun a hF => ?_
   refine c_n ?_
   replace hF := hF.sel [4]
   simp only [ss, Nat.reduceBEq] at hF
   refine wp_ret (t1.ret (hret (ret1 hF Tryz.results4 rfl ?_)))
   exact ⟨rfl, hH.below⟩
  have g1_2' := g1_2; try simp only [qq] at g1_2'
  refine zy hF rfl g1_2 (r_move hF rfl rfl) fun a hF => ?_
  refine zy hF rfl g1_2 (r_len_str hF rfl rfl Tryz.underlying9) fun a hF => ?_
  refine zy hF rfl g1_2 (zr hF rfl rfl (b_gtn _ _ _ 4000)) fun a hF => ?_
  refine zl hF rfl (r_pickf hF rfl rfl g1_2 rfl) fun a hF => ?_
  refine zm 1 hF rfl fun a hF => ?_
  refine ls_ask (d := 22) hF rfl (fun g1_7 => ?_) (fun g1_7 => ?_)
  ·
   have g1_7' := g1_7; try simp only [qq] at g1_7'
   refine zn hF rfl g1_7 fun a hF => ?_
   refine zn hF rfl g1_7 fun a hF => ?_
   refine zl hF rfl (r_pickt hF rfl rfl g1_7 rfl) fun a hF => ?_
   refine c_n ?_
   replace hF := hF.sel [1, 2, 25]
   simp only [ss, Nat.reduceBEq] at hF
   refine c_yes hF rfl rfl ?_
   refine c_sr fun ops => ?_
   refine zc hF rfl rfl fn8 (awake_spec _ (hG.ext hH.below)) ?_
   rintro _ w ⟨rfl, hE⟩ a hF
   replace hH := hH.ext hE
   refine zm 1 hF rfl fun a hF => ?_
   refine c_n ?_
   replace hF := hF.sel [4]
   simp only [ss, Nat.reduceBEq] at hF
   refine wp_ret (t1.ret (hret (ret1 hF Tryz.results4 rfl ?_)))
   exact ⟨rfl, hH.below⟩
  have g1_7' := g1_7; try simp only [qq] at g1_7'
  refine zyc hF rfl g1_7 rfl fn8 (awake_spec _ (hG.ext hH.below)) ?_
  rintro _ w ⟨rfl, hE⟩ a hF
  replace hH := hH.ext hE
  refine zy hF rfl g1_7 (r_not hF rfl rfl) fun a hF => ?_
  refine zl hF rfl (r_pickf hF rfl rfl g1_7 rfl) fun a hF => ?_
  refine c_n ?_
  replace hF := hF.sel [1, 2, 25]
  simp only [ss, Nat.reduceBEq] at hF
  refine c_if hF rfl (fun h25 => ?_) (fun h25 => ?_)
  ·
   try simp only [qq] at h25
   refine c_sr fun ops => ?_
   refine zc hF rfl rfl fn8 (awake_spec _ (hG.ext hH.below)) ?_
   rintro _ w ⟨rfl, hE⟩ a hF
   replace hH := hH.ext hE
   refine zm 1 hF rfl fun a hF => ?_
   refine c_n ?_
   replace hF := hF.sel [4]
   simp only [ss, Nat.reduceBEq] at hF
   refine wp_ret (t1.ret (hret (ret1 hF Tryz.results4 rfl ?_)))
   exact ⟨rfl, hH.below⟩
  try simp only [qq] at h25
  refine wp_skip ?_
  refine k1 ?_
  have hS : SmallM m ∧ s.length ≤ 4000 := by
    unfold SmallM
    cases bl with
    | true => simp_all
    | false => exact ⟨hbl rfl, by simp_all⟩
  have hB := hS.1.b
  refine c_sr fun ops => ?_
  refine zl hF rfl (r_loadagg hF rfl rfl Tryz.underlying37 ti37 rfl (own_agg (i := 0) (cs := (msgV m qv av uv xv ov).toArray) hH rfl)) fun a hF => ?_
  refine zc hF rfl rfl fn14 (encode_spec m _ _ _ _ _ _ (hG.ext hH.below) (hR.ext hH.below) hL hB) ?_
  rintro _ w ⟨rfl, hE⟩ a hF
  replace hH := hH.ext hE
  refine zm 5 hF rfl fun a hF => ?_
  refine c_n ?_
  replace hF := hF.sel [1, 2, 5, 6]
  simp only [ss, Nat.reduceBEq] at hF
  refine c_cut (fun a w => FrD [] 82 [(1, .string (mk s)), (2, ptr g0_0)] a ∧ Hp w0 w [(g0_0, .cells (msgV m qv av uv xv ov).toArray 37 (0, 0))]) (fun Q2 k2 t2 => ?_) ?_
  ·
   refine c_sr fun ops => ?_
   refine zm 1 hF rfl fun a hF => ?_
   refine zb hF rfl rfl rfl (b_eqn _ _ _ 0) fun a hF => ?_
   refine c_n ?_
   refine c_fi hF rfl (fun h33 => ?_) (fun h33 => ?_)
   ·
    try simp only [qq] at h33
    refine wp_skip ?_
    refine k2 ?_
    first
      | exact ⟨hF.keep [1, 2] rfl, hH⟩
      | exact ⟨hF.keep [1, 2] rfl, hH.pick (R := [(g5_5, Obj.cells (msgV m qw aw uw xw ow).toArray 37 (0, 0))] ++ BM) (fun z => by simp only [List.count_append]; omega)⟩
   try simp only [qq] at h33
   obtain ⟨t, ht⟩ : ∃ t, encN m = (0, t) := ⟨(encN m).2, Prod.ext (by omega) rfl⟩
   have hde := dec_enc hL ht
   have htl := enc_len ht
   rw [ht] at hF
   simp only at hF
   refine c_sr fun ops => ?_
   refine zm 1 hF rfl fun a hF => ?_
   refine zc hF rfl rfl fn10 (decode_spec t (by omega) _ (hG.ext hH.below)) ?_
   rintro _ w ⟨mv, BM, rfl, hM, hBM⟩ a hF
   rw [hde] at hF hM; simp only at hF hM; replace hH := hH.join hBM; obtain ⟨qw, aw, uw, xw, ow, rfl, hR3⟩ := hM.msgR hBM (fun z hz => hz)
   refine zm 3 hF rfl fun a hF => ?_
   refine ls_alloc hF hH rfl rfl rfl rfl zv37 ?_
   intro a w g5_5 hH hE hF
   refine ls_storeagg 0 hF hH rfl rfl rfl rfl rfl ti37 rfl (rfl) (rfl) (hM.one) ?_
   intro w hH
   refine zm 1 hF rfl fun a hF => ?_
   refine c_n ?_
   replace hH : Hp w0 w ([(g5_5, Obj.cells (msgV m qw aw uw xw ow).toArray 37 (0, 0))] ++ ([(g0_0, .cells (msgV m qv av uv xv ov).toArray 37 (0, 0))] ++ BM)) := (show Hp w0 w ([(g5_5, Obj.cells (msgV m qw aw uw xw ow).toArray 37 (0, 0))] ++ (BM ++ [(g0_0, .cells (msgV m qv av uv xv ov).toArray 37 (0, 0))])) from hH).pick (R := []) (fun z => by simp only [List.count_append, List.count_nil]; omega)
   refine c_sg ?_
   refine zm 1 hF rfl fun a hF => ?_
   refine zb hF rfl rfl rfl (b_nen _ _ _ 0) fun a hF => ?_
   refine zm 1 hF rfl fun a hF => ?_
   refine ls_ask (d := 41) hF rfl (fun g6_2 => ?_) (fun g6_2 => ?_)
   ·
    have g6_2' := g6_2; try simp only [qq] at g6_2'
    refine zn hF rfl g6_2 fun a hF => ?_
    refine zn hF rfl g6_2 fun a hF => ?_
    refine zn hF rfl g6_2 fun a hF => ?_
    refine zn hF rfl g6_2 fun a hF => ?_
    refine zl hF rfl (r_pickt hF rfl rfl g6_2 rfl) fun a hF => ?_
    refine c_n ?_
    refine c_yes hF rfl rfl ?_
    refine c_sr fun ops => ?_
    refine zm 1 hF rfl fun a hF => ?_
    refine c_n ?_
    replace hF := hF.sel [4]
    simp only [ss, Nat.reduceBEq] at hF
    refine wp_ret (t2.ret (hret (ret1 hF Tryz.results4 rfl ?_)))
    first
      | exact absurd trivial (show ¬ True by assumption)
      | (exfalso; simp_all; done)
   have g6_2' := g6_2; try simp only [qq] at g6_2'
   refine zy hF rfl g6_2 (r_loadagg hF rfl rfl Tryz.underlying37 ti37 rfl (own_agg (i := 0) hH rfl)) fun a hF => ?_
   refine zy hF rfl g6_2 (r_loadagg hF rfl rfl Tryz.underlying37 ti37 rfl (own_agg (i := 1) hH rfl)) fun a hF => ?_
   refine zyc hF rfl g6_2 rfl fn11 (same7_spec m m qw aw uw xw ow _ _ _ _ _ _ (hM.msgR2 hH (fun z hz => List.mem_append_right _ (List.mem_append_right _ hz))) (hR.ext hH.below) hB) ?_
   rintro _ w ⟨rfl, hE⟩ a hF
   replace hH := hH.ext hE
   refine zy hF rfl g6_2 (r_not hF rfl rfl) fun a hF => ?_
   refine zl hF rfl (r_pickf hF rfl rfl g6_2 rfl) fun a hF => ?_
   refine c_n ?_
   refine c_fi hF rfl (fun h46 => ?_) (fun h46 => ?_)
   ·
    try simp only [qq] at h46
    refine wp_skip ?_
    refine k2 ?_
    first
      | exact ⟨hF.keep [1, 2] rfl, hH⟩
      | exact ⟨hF.keep [1, 2] rfl, hH.pick (R := [(g5_5, Obj.cells (msgV m qw aw uw xw ow).toArray 37 (0, 0))] ++ BM) (fun z => by simp only [List.count_append]; omega)⟩
   try simp only [qq] at h46
   refine c_sr fun ops => ?_
   refine zm 1 hF rfl fun a hF => ?_
   refine c_n ?_
   replace hF := hF.sel [4]
   simp only [ss, Nat.reduceBEq] at hF
   refine wp_ret (t2.ret (hret (ret1 hF Tryz.results4 rfl ?_)))
   first
     | exact absurd trivial (show ¬ True by assumption)
     | (exfalso; simp_all; done)
  clear hH hF
  rintro a w ⟨hF, hH⟩
  refine c_sr fun ops => ?_
  refine zm 1 hF rfl fun a hF => ?_
  refine zc hF rfl rfl fn10 (decode_spec s (by omega) _ (hG.ext hH.below)) ?_
  rintro _ w ⟨mv, BM, rfl, hM, hBM⟩ a hF
  obtain ⟨n, hn⟩ : ∃ n, (decN s).2 = n := ⟨_, rfl⟩; rw [hn] at hM; replace hH := hH.join hBM; obtain ⟨qw, aw, uw, xw, ow, rfl, hR3⟩ := hM.msgR hBM (fun z hz => hz)
  refine zm 3 hF rfl fun a hF => ?_
  refine ls_alloc hF hH rfl rfl rfl rfl zv37 ?_
  intro a w g8_5 hH hE hF
  refine ls_storeagg 0 hF hH rfl rfl rfl rfl rfl ti37 rfl (rfl) (rfl) (hM.one) ?_
  intro w hH
  refine zm 1 hF rfl fun a hF => ?_
  refine c_n ?_
  replace hF := hF.sel [9, 10]
  simp only [ss, Nat.reduceBEq] at hF
  replace hH : Hp w0 w ([(g8_5, Obj.cells (msgV n qw aw uw xw ow).toArray 37 (0, 0))] ++ (BM ++ [(g0_0, .cells (msgV m qv av uv xv ov).toArray 37 (0, 0))])) := hH
  refine c_seq fun Q3 k3 t3 => ?_
  refine c_sr fun ops => ?_
  refine zm 1 hF rfl fun a hF => ?_
  refine zb hF rfl rfl rfl (b_nen _ _ _ 0) fun a hF => ?_
  refine c_n ?_
  replace hF := hF.sel [9, 53]
  simp only [ss, Nat.reduceBEq] at hF
  refine c_if hF rfl (fun h53 => ?_) (fun h53 => ?_)
  ·
   try simp only [qq] at h53
   have hno : n = noMsg := by rw [← hn]; exact decN_bad (by omega)
   rw [hno] at hH hM
   refine c_sr fun ops => ?_
   refine zl hF rfl (r_loadagg hF rfl rfl Tryz.underlying37 ti37 rfl (own_agg (i := 0) hH rfl)) fun a hF => ?_
   refine zl hF rfl (r_build hF rfl rfl (bd37 _)) fun a hF => ?_
   refine zc hF rfl rfl fn11 (same7_spec noMsg noMsg qw aw uw xw ow nilS nilS nilS nilS nilS _ (hM.msgR2 hH (fun z hz => List.mem_append_right _ (List.mem_append_left _ hz))) (bare_R _ _ rfl rfl rfl rfl rfl) noMsg_B) ?_
   rintro _ w ⟨rfl, hE⟩ a hF
   replace hH := hH.ext hE
   refine zm 1 hF rfl fun a hF => ?_
   refine c_n ?_
   replace hF := hF.sel [4]
   simp only [ss, Nat.reduceBEq] at hF
   refine wp_ret (t3.ret (hret (ret1 hF Tryz.results4 rfl ?_)))
   exact ⟨by simp, hH.below⟩
  try simp only [qq] at h53
  have hdn : decN s = (0, n) := Prod.ext (by omega) hn
  obtain ⟨hok, u, hu⟩ := decN_ok hdn
  have hdu := dec_enc hok.l hu
  have hul := enc_len hu
  refine wp_skip ?_
  refine k3 ?_
  refine c_sr fun ops => ?_
  refine zl hF rfl (r_loadagg hF rfl rfl Tryz.underlying37 ti37 rfl (own_agg (i := 0) hH rfl)) fun a hF => ?_
  refine zc hF rfl rfl fn14 (encode_spec n _ _ _ _ _ _ (hG.ext hH.below) (hM.msgR2 hH (fun z hz => List.mem_append_right _ (List.mem_append_left _ hz))) hok.l hok.b) ?_
  rintro _ w ⟨rfl, hE⟩ a hF
  rw [hu] at hF; simp only at hF; replace hH := hH.ext hE
  refine zm 5 hF rfl fun a hF => ?_
  refine c_n ?_
  replace hF := hF.sel [9, 11, 12]
  simp only [ss, Nat.reduceBEq] at hF
  refine c_sr fun ops => ?_
  refine zm 1 hF rfl fun a hF => ?_
  refine zc hF rfl rfl fn10 (decode_spec u (by omega) _ (hG.ext hH.below)) ?_
  rintro _ w ⟨mv2, BM2, rfl, hM2, hBM2⟩ a hF
  rw [hdu] at hF hM2; simp only at hF hM2; replace hH := hH.join hBM2; obtain ⟨qx, ax, ux, xx, ox, rfl, hR4⟩ := hM2.msgR hBM2 (fun z hz => hz)
  refine zm 3 hF rfl fun a hF => ?_
  refine ls_alloc hF hH rfl rfl rfl rfl zv37 ?_
  intro a w g12_5 hH hE hF
  refine ls_storeagg 0 hF hH rfl rfl rfl rfl rfl ti37 rfl (rfl) (rfl) (hM2.one) ?_
  intro w hH
  refine zm 1 hF rfl fun a hF => ?_
  refine c_n ?_
  replace hF := hF.sel [9, 12, 13, 14]
  simp only [ss, Nat.reduceBEq] at hF
  replace hH : Hp w0 w ([(g12_5, Obj.cells (msgV n qx ax ux xx ox).toArray 37 (0, 0))] ++ ([(g8_5, Obj.cells (msgV n qw aw uw xw ow).toArray 37 (0, 0))] ++ (BM2 ++ BM))) := (show Hp w0 w ([(g12_5, Obj.cells (msgV n qx ax ux xx ox).toArray 37 (0, 0))] ++ (BM2 ++ ([(g8_5, Obj.cells (msgV n qw aw uw xw ow).toArray 37 (0, 0))] ++ (BM ++ [(g0_0, .cells (msgV m qv av uv xv ov).toArray 37 (0, 0))])))) from hH).pick (R := [(g0_0, .cells (msgV m qv av uv xv ov).toArray 37 (0, 0))]) (fun z => by simp only [List.count_append]; omega)
  refine c_sg ?_
  refine zl hF rfl (r_loadagg hF rfl rfl Tryz.underlying37 ti37 rfl (own_agg (i := 1) hH rfl)) fun a hF => ?_
  refine zc hF rfl rfl fn15 (may_mspec n _ _ _ _ _ _ (hG.ext hH.below) (hM.msgR2 hH (fun z hz => List.mem_append_right _ (List.mem_append_right _ (List.mem_append_right _ hz)))) hok.l hok.b) ?_
  rintro _ w ⟨rfl, hE⟩ a hF
  replace hH := hH.ext hE
  refine zm 1 hF rfl fun a hF => ?_
  refine l_ask (d := 69) hF rfl (fun g13_2 => ?_) (fun g13_2 => ?_)
  ·
   have g13_2' := g13_2; try simp only [qq] at g13_2'
   refine zn hF rfl g13_2 fun a hF => ?_
   refine zn hF rfl g13_2 fun a hF => ?_
   refine zl hF rfl (r_pickf hF rfl rfl g13_2 rfl) fun a hF => ?_
   refine zm 1 hF rfl fun a hF => ?_
   refine zn hF rfl rfl fun a hF => ?_
   refine zn hF rfl rfl fun a hF => ?_
   refine zl hF rfl (r_pickf hF rfl rfl rfl rfl) fun a hF => ?_
   refine zm 1 hF rfl fun a hF => ?_
   refine zn hF rfl rfl fun a hF => ?_
   refine zn hF rfl rfl fun a hF => ?_
   refine zn hF rfl rfl fun a hF => ?_
   refine zl hF rfl (r_pickf hF rfl rfl rfl rfl) fun a hF => ?_
   refine zm 1 hF rfl fun a hF => ?_
   refine c_n ?_
   replace hF := hF.sel [4]
   simp only [ss, Nat.reduceBEq] at hF
   refine wp_ret (hret (ret1 hF Tryz.results4 rfl ?_))
   have hmy := hul.1
   first
     | exact absurd trivial (show ¬ True by assumption)
     | exact absurd hmy (by rw [show mayM n = false by assumption]; simp)
     | exact absurd rfl (show ¬ n = n by assumption)
     | exact ⟨by simp, hH.below⟩
  have g13_2' := g13_2; try simp only [qq] at g13_2'
  refine zy hF rfl g13_2 (r_move hF rfl rfl) fun a hF => ?_
  refine zy hF rfl g13_2 (zr hF rfl rfl (b_eqn _ _ _ 0)) fun a hF => ?_
  refine zl hF rfl (r_pickt hF rfl rfl g13_2 rfl) fun a hF => ?_
  refine zm 1 hF rfl fun a hF => ?_
  refine l_ask (d := 73) hF rfl (fun g13_6 => ?_) (fun g13_6 => ?_)
  ·
   have g13_6' := g13_6; try simp only [qq] at g13_6'
   refine zn hF rfl g13_6 fun a hF => ?_
   refine zn hF rfl g13_6 fun a hF => ?_
   refine zl hF rfl (r_pickf hF rfl rfl g13_6 rfl) fun a hF => ?_
   refine zm 1 hF rfl fun a hF => ?_
   refine zn hF rfl rfl fun a hF => ?_
   refine zn hF rfl rfl fun a hF => ?_
   refine zn hF rfl rfl fun a hF => ?_
   refine zl hF rfl (r_pickf hF rfl rfl rfl rfl) fun a hF => ?_
   refine zm 1 hF rfl fun a hF => ?_
   refine c_n ?_
   replace hF := hF.sel [4]
   simp only [ss, Nat.reduceBEq] at hF
   refine wp_ret (hret (ret1 hF Tryz.results4 rfl ?_))
   have hmy := hul.1
   first
     | exact absurd trivial (show ¬ True by assumption)
     | exact absurd hmy (by rw [show mayM n = false by assumption]; simp)
     | exact absurd rfl (show ¬ n = n by assumption)
     | exact ⟨by simp, hH.below⟩
  have g13_6' := g13_6; try simp only [qq] at g13_6'
  refine zy hF rfl g13_6 (r_move hF rfl rfl) fun a hF => ?_
  refine zy hF rfl g13_6 (zr hF rfl rfl (b_eqn _ _ _ 0)) fun a hF => ?_
  refine zl hF rfl (r_pickt hF rfl rfl g13_6 rfl) fun a hF => ?_
  refine zm 1 hF rfl fun a hF => ?_
  refine l_ask (d := 77) hF rfl (fun g13_10 => ?_) (fun g13_10 => ?_)
  ·
   have g13_10' := g13_10; try simp only [qq] at g13_10'
   refine zn hF rfl g13_10 fun a hF => ?_
   refine zn hF rfl g13_10 fun a hF => ?_
   refine zn hF rfl g13_10 fun a hF => ?_
   refine zl hF rfl (r_pickf hF rfl rfl g13_10 rfl) fun a hF => ?_
   refine zm 1 hF rfl fun a hF => ?_
   refine c_n ?_
   replace hF := hF.sel [4]
   simp only [ss, Nat.reduceBEq] at hF
   refine wp_ret (hret (ret1 hF Tryz.results4 rfl ?_))
   have hmy := hul.1
   first
     | exact absurd trivial (show ¬ True by assumption)
     | exact absurd hmy (by rw [show mayM n = false by assumption]; simp)
     | exact absurd rfl (show ¬ n = n by assumption)
     | exact ⟨by simp, hH.below⟩
  have g13_10' := g13_10; try simp only [qq] at g13_10'
  refine zy hF rfl g13_10 (r_loadagg hF rfl rfl Tryz.underlying37 ti37 rfl (own_agg (i := 0) hH rfl)) fun a hF => ?_
  refine zy hF rfl g13_10 (r_loadagg hF rfl rfl Tryz.underlying37 ti37 rfl (own_agg (i := 1) hH rfl)) fun a hF => ?_
  refine zyc hF rfl g13_10 rfl fn11 (same7_spec n n qx ax ux xx ox qw aw uw xw ow _ (hM2.msgR2 hH (fun z hz => List.mem_append_right _ (List.mem_append_right _ (List.mem_append_left _ hz)))) (hM.msgR2 hH (fun z hz => List.mem_append_right _ (List.mem_append_right _ (List.mem_append_right _ hz)))) hok.b) ?_
  rintro _ w ⟨rfl, hE⟩ a hF
  replace hH := hH.ext hE
  refine zl hF rfl (r_pickt hF rfl rfl g13_10 rfl) fun a hF => ?_
  refine zm 1 hF rfl fun a hF => ?_
  refine c_n ?_
  replace hF := hF.sel [4]
  simp only [ss, Nat.reduceBEq] at hF
  refine wp_ret (hret (ret1 hF Tryz.results4 rfl ?_))
  have hmy := hul.1
  first
    | exact absurd trivial (show ¬ True by assumption)
    | exact absurd hmy (by rw [show mayM n = false by assumption]; simp)
    | exact absurd rfl (show ¬ n = n by assumption)
    | exact ⟨by simp, hH.below⟩
end Go.Proofs.YtpoebplhemimmaaGreatDoor
