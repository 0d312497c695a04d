/-
  The walk of hustingslaw07.WireCut. Nothing is claimed here.
-/
import Derived.Test.YtpoebplhemimmaaGreatDoorLaw7e
import Derived.Test.YtpoebplhemimmaaGreatDoorWCut
namespace Go.Proofs.YtpoebplhemimmaaGreatDoor
open Go.RowKit
set_option linter.unusedVariables false
set_option linter.unusedSimpArgs false
set_option maxHeartbeats 1000000

theorem cut7_spec (m : Msg) (qv av uv xv ov : Value) (z : Int) (b : Bs) (w0 : World) (hG : GX w0) (hR : MsgR w0 m qv av uv xv ov) (hL : MsgL m) (hb63 : b.length < 9223372036854775808) :
    Rets Tryz.prog 6 [.agg (msgV m qv av uv xv ov).toArray, .int .i64 z, .string (mk b)] w0 fun v w' => v = .bool true ∧ Ext w0 w' := by
  have hH := Hp.refl w0
  obtain ⟨mc, hmc, hmcl⟩ := u64_nat z
  refine rets_start Tryz.func6 rfl Tryz.ntmps6 rfl fun a Q0 hF hret hend => ?_
  simp only [argsFrom, Nat.zero_add, Nat.reduceAdd] at hF
  refine c_sr fun ops => ?_
  refine ls_box hF hH rfl rfl rfl rfl rfl ?_
  intro a w g0_0 hH hE hF
  refine zm 1 hF rfl fun a hF => ?_
  refine c_n ?_
  replace hF := hF.sel [1, 2, 3]
  simp only [ss, Nat.reduceBEq] at hF
  refine c_seq fun Q1 k1 t1 => ?_
  refine c_sg ?_
  refine zl hF rfl (r_loadagg hF rfl rfl Tryz.underlying37 ti37 rfl (own_agg (i := 0) (cs := (msgV m qv av uv xv ov).toArray) hH rfl)) fun a hF => ?_
  refine zc hF rfl rfl fn13 (large_spec m _ _ _ _ _ _ (hR.ext hH.below)) ?_
  rintro _ w ⟨⟨bl, rfl, hbl⟩, hE⟩ a hF
  replace hH := hH.ext hE
  refine zm 1 hF rfl fun a hF => ?_
  refine ls_ask (d := 15) hF rfl (fun g1_2 => ?_) (fun g1_2 => ?_)
  ·
   have g1_2' := g1_2; try simp only [qq] at g1_2'
   refine zn hF rfl g1_2 fun a hF => ?_
   refine zn hF rfl g1_2 fun a hF => ?_
   refine zn hF rfl g1_2 fun a hF => ?_
   refine zl hF rfl (r_pickt hF rfl rfl g1_2 rfl) fun a hF => ?_
   refine zm 1 hF rfl fun a hF => ?_
   refine zn hF rfl rfl fun a hF => ?_
   refine zn hF rfl rfl fun a hF => ?_
   refine zl hF rfl (r_pickt hF rfl rfl rfl rfl) fun a hF => ?_
   refine c_n ?_
   replace hF := hF.sel [1, 2, 3, 23]
   simp only [ss, Nat.reduceBEq] at hF
   refine c_yes hF rfl rfl ?_
   refine c_sr fun ops => ?_
   refine zc hF rfl rfl fn8 (awake_spec _ (hG.ext hH.below)) ?_
   rintro _ w ⟨rfl, hE⟩ a hF
   replace hH := hH.ext hE
   refine zm 1 hF rfl fun a hF => ?_
   refine c_n ?_
   replace hF := hF.sel [6]
   simp only [ss, Nat.reduceBEq] at hF
   refine wp_ret (t1.ret (hret (ret1 hF Tryz.results6 rfl ?_)))
   exact ⟨rfl, hH.below⟩
  have g1_2' := g1_2; try simp only [qq] at g1_2'
  refine zy hF rfl g1_2 (r_move hF rfl rfl) fun a hF => ?_
  refine zy hF rfl g1_2 (r_len_str hF rfl rfl Tryz.underlying9) fun a hF => ?_
  refine zy hF rfl g1_2 (zr hF rfl rfl (b_gtn _ _ _ 1000)) fun a hF => ?_
  refine zl hF rfl (r_pickf hF rfl rfl g1_2 rfl) fun a hF => ?_
  refine zm 1 hF rfl fun a hF => ?_
  refine ls_ask (d := 20) hF rfl (fun g1_7 => ?_) (fun g1_7 => ?_)
  ·
   have g1_7' := g1_7; try simp only [qq] at g1_7'
   refine zn hF rfl g1_7 fun a hF => ?_
   refine zn hF rfl g1_7 fun a hF => ?_
   refine zl hF rfl (r_pickt hF rfl rfl g1_7 rfl) fun a hF => ?_
   refine c_n ?_
   replace hF := hF.sel [1, 2, 3, 23]
   simp only [ss, Nat.reduceBEq] at hF
   refine c_yes hF rfl rfl ?_
   refine c_sr fun ops => ?_
   refine zc hF rfl rfl fn8 (awake_spec _ (hG.ext hH.below)) ?_
   rintro _ w ⟨rfl, hE⟩ a hF
   replace hH := hH.ext hE
   refine zm 1 hF rfl fun a hF => ?_
   refine c_n ?_
   replace hF := hF.sel [6]
   simp only [ss, Nat.reduceBEq] at hF
   refine wp_ret (t1.ret (hret (ret1 hF Tryz.results6 rfl ?_)))
   exact ⟨rfl, hH.below⟩
  have g1_7' := g1_7; try simp only [qq] at g1_7'
  refine zyc hF rfl g1_7 rfl fn8 (awake_spec _ (hG.ext hH.below)) ?_
  rintro _ w ⟨rfl, hE⟩ a hF
  replace hH := hH.ext hE
  refine zy hF rfl g1_7 (r_not hF rfl rfl) fun a hF => ?_
  refine zl hF rfl (r_pickf hF rfl rfl g1_7 rfl) fun a hF => ?_
  refine c_n ?_
  replace hF := hF.sel [1, 2, 3, 23]
  simp only [ss, Nat.reduceBEq] at hF
  refine c_if hF rfl (fun h23 => ?_) (fun h23 => ?_)
  ·
   try simp only [qq] at h23
   refine c_sr fun ops => ?_
   refine zc hF rfl rfl fn8 (awake_spec _ (hG.ext hH.below)) ?_
   rintro _ w ⟨rfl, hE⟩ a hF
   replace hH := hH.ext hE
   refine zm 1 hF rfl fun a hF => ?_
   refine c_n ?_
   replace hF := hF.sel [6]
   simp only [ss, Nat.reduceBEq] at hF
   refine wp_ret (t1.ret (hret (ret1 hF Tryz.results6 rfl ?_)))
   exact ⟨rfl, hH.below⟩
  try simp only [qq] at h23
  refine wp_skip ?_
  refine k1 ?_
  have hS : SmallM m ∧ b.length ≤ 1000 := by
    unfold SmallM
    cases bl with
    | true => simp_all
    | false => exact ⟨hbl rfl, by simp_all⟩
  have hB := hS.1.b
  refine c_sr fun ops => ?_
  refine zl hF rfl (r_loadagg hF rfl rfl Tryz.underlying37 ti37 rfl (own_agg (i := 0) (cs := (msgV m qv av uv xv ov).toArray) hH rfl)) fun a hF => ?_
  refine zc hF rfl rfl fn14 (encode_spec m _ _ _ _ _ _ (hG.ext hH.below) (hR.ext hH.below) hL hB) ?_
  rintro _ w ⟨rfl, hE⟩ a hF
  replace hH := hH.ext hE
  refine zm 5 hF rfl fun a hF => ?_
  refine c_n ?_
  replace hF := hF.sel [1, 2, 7, 8]
  simp only [ss, Nat.reduceBEq] at hF
  refine c_seq fun Q2 k2 t2 => ?_
  refine c_sr fun ops => ?_
  refine zm 1 hF rfl fun a hF => ?_
  refine zb hF rfl rfl rfl (b_nen _ _ _ 0) fun a hF => ?_
  refine c_n ?_
  replace hF := hF.sel [1, 2, 7, 31]
  simp only [ss, Nat.reduceBEq] at hF
  refine c_if hF rfl (fun h31 => ?_) (fun h31 => ?_)
  ·
   try simp only [qq] at h31
   refine c_sr fun ops => ?_
   refine zm 1 hF rfl fun a hF => ?_
   refine c_n ?_
   replace hF := hF.sel [6]
   simp only [ss, Nat.reduceBEq] at hF
   refine wp_ret (t2.ret (hret (ret1 hF Tryz.results6 rfl ?_)))
   exact ⟨rfl, hH.below⟩
  try simp only [qq] at h31
  obtain ⟨s, hs⟩ : ∃ s, encN m = (0, s) := ⟨(encN m).2, Prod.ext (by omega) rfl⟩
  have hlen := enc_len hs
  have hk0 : mc % s.length < s.length := Nat.mod_lt _ (by omega)
  have hcut := dec_cut hL hs hk0
  rw [hs] at hF
  simp only at hF
  refine wp_skip ?_
  refine k2 ?_
  refine c_sr fun ops => ?_
  refine zm 2 hF rfl fun a hF => ?_
  refine zl hF rfl (r_convw hF rfl rfl Tryz.underlying3 Tryz.underlying48 hmc) fun a hF => ?_
  refine zm 1 hF rfl fun a hF => ?_
  refine zl hF rfl (r_len_str hF rfl rfl Tryz.underlying9) fun a hF => ?_
  refine zl hF rfl (r_convin hF rfl rfl (by rw [Tryz.underlying3]; rfl) Tryz.underlying48 (0) 18446744073709551615 mn_u64 mx_u64 (by omega)) fun a hF => ?_
  refine zb hF rfl rfl rfl (b_remn _ _ mc s.length (by omega)) fun a hF => ?_
  refine zl hF rfl (r_convin hF rfl rfl (by rw [Tryz.underlying48]; rfl) Tryz.underlying3 (-9223372036854775808) 9223372036854775807 mn_i64 mx_i64 (by omega)) fun a hF => ?_
  refine zl hF rfl (r_slicetn hF _ rfl rfl Tryz.underlying9 ⟨_, rfl⟩ (by omega)) fun a hF => ?_
  refine zc hF rfl rfl fn10 (decode_spec (s.take (mc % s.length)) (by rw [List.length_take]; omega) _ (hG.ext hH.below)) ?_
  rintro _ w ⟨mv, BM, rfl, hM, hBM⟩ a hF
  rw [hcut] at hF hM; simp only at hF hM; replace hH := hH.join hBM; obtain ⟨qw, aw, uw, xw, ow, rfl, hR3⟩ := hM.msgR hBM (fun z hz => hz)
  refine zm 3 hF rfl fun a hF => ?_
  refine ls_alloc hF hH rfl rfl rfl rfl zv37 ?_
  intro a w g6_13 hH hE hF
  refine ls_storeagg 0 hF hH rfl rfl rfl rfl rfl ti37 rfl (rfl) (rfl) (hM.one) ?_
  intro w hH
  refine zm 1 hF rfl fun a hF => ?_
  refine c_n ?_
  replace hF := hF.sel [2, 7, 10]
  simp only [ss, Nat.reduceBEq] at hF
  obtain ⟨e, he⟩ : ∃ e, (decN (s ++ b)).1 = e := ⟨_, rfl⟩
  have he0 : b = [] → e = 0 := fun hb => by rw [← he, hb, List.append_nil, dec_enc hL hs]
  have he5 : b ≠ [] → e = 5 := fun hb => by rw [← he, dec_more hL hs hb]
  refine c_sr fun ops => ?_
  refine zm 2 hF rfl fun a hF => ?_
  refine zb hF rfl rfl rfl (b_sadd _ _ _ (by omega)) fun a hF => ?_
  refine zc hF rfl rfl fn10 (decode_spec (s ++ b) (by rw [List.length_append]; omega) _ (hG.ext hH.below)) ?_
  rintro _ w ⟨mv2, BM2, rfl, hM2, hBM2⟩ a hF
  obtain ⟨n, hn⟩ : ∃ n, (decN (s ++ b)).2 = n := ⟨_, rfl⟩; rw [hn] at hM2; rw [he] at hF; replace hH := hH.join hBM2; obtain ⟨qx, ax, ux, xx, ox, rfl, hR4⟩ := hM2.msgR hBM2 (fun z hz => hz)
  refine zm 3 hF rfl fun a hF => ?_
  refine ls_alloc hF hH rfl rfl rfl rfl zv37 ?_
  intro a w g7_7 hH hE hF
  refine ls_storeagg 0 hF hH rfl rfl rfl rfl rfl ti37 rfl (rfl) (rfl) (hM2.one) ?_
  intro w hH
  refine zm 1 hF rfl fun a hF => ?_
  refine c_n ?_
  replace hF := hF.sel [2, 10, 12]
  simp only [ss, Nat.reduceBEq] at hF
  refine c_sg ?_
  refine zm 1 hF rfl fun a hF => ?_
  refine zb hF rfl rfl rfl (b_eqn _ _ _ 4) fun a hF => ?_
  refine zm 1 hF rfl fun a hF => ?_
  refine l_ask (d := 54) hF rfl (fun g8_2 => ?_) (fun g8_2 => ?_)
  ·
   have g8_2' := g8_2; try simp only [qq] at g8_2'
   refine zn hF rfl g8_2 fun a hF => ?_
   refine zn hF rfl g8_2 fun a hF => ?_
   refine zn hF rfl g8_2 fun a hF => ?_
   refine zn hF rfl g8_2 fun a hF => ?_
   refine zn hF rfl g8_2 fun a hF => ?_
   refine zl hF rfl (r_pickf hF rfl rfl g8_2 rfl) fun a hF => ?_
   refine zm 1 hF rfl fun a hF => ?_
   refine zn hF rfl rfl fun a hF => ?_
   refine zn hF rfl rfl fun a hF => ?_
   refine zn hF rfl rfl fun a hF => ?_
   refine lsu hF rfl rfl rfl rfl rfl fun a hF => ?_
   refine lsu hF rfl rfl rfl rfl rfl fun a hF => ?_
   refine zn hF rfl rfl fun a hF => ?_
   refine zl hF rfl (r_pickf hF rfl rfl rfl rfl) fun a hF => ?_
   refine zm 1 hF rfl fun a hF => ?_
   refine c_n ?_
   replace hF := hF.sel [6]
   simp only [ss, Nat.reduceBEq] at hF
   refine wp_ret (hret (ret1 hF Tryz.results6 rfl ?_))
   refine ⟨?_, hH.below⟩
   by_cases hbn : b = []
   · have := he0 hbn; simp_all
   · have := he5 hbn; simp_all
  have g8_2' := g8_2; try simp only [qq] at g8_2'
  refine zy hF rfl g8_2 (r_move hF rfl rfl) fun a hF => ?_
  refine zy hF rfl g8_2 (zr hF rfl rfl (b_eqn _ _ _ 0)) fun a hF => ?_
  refine zy hF rfl g8_2 (r_move hF rfl rfl) fun a hF => ?_
  refine zy hF rfl g8_2 (zr hF rfl rfl (b_seq _ _ [])) fun a hF => ?_
  refine zy hF rfl g8_2 (zr hF rfl rfl (b_beq _ _ _ Tryz.underlying4)) fun a hF => ?_
  refine zl hF rfl (r_pickt hF rfl rfl g8_2 rfl) fun a hF => ?_
  refine zm 1 hF rfl fun a hF => ?_
  refine l_ask (d := 61) hF rfl (fun g8_9 => ?_) (fun g8_9 => ?_)
  ·
   have g8_9' := g8_9; try simp only [qq] at g8_9'
   refine zn hF rfl g8_9 fun a hF => ?_
   refine zn hF rfl g8_9 fun a hF => ?_
   refine zn hF rfl g8_9 fun a hF => ?_
   refine lsu hF rfl rfl rfl rfl rfl fun a hF => ?_
   refine lsu hF rfl rfl rfl rfl rfl fun a hF => ?_
   refine zn hF rfl g8_9 fun a hF => ?_
   refine zl hF rfl (r_pickf hF rfl rfl g8_9 rfl) fun a hF => ?_
   refine zm 1 hF rfl fun a hF => ?_
   refine c_n ?_
   replace hF := hF.sel [6]
   simp only [ss, Nat.reduceBEq] at hF
   refine wp_ret (hret (ret1 hF Tryz.results6 rfl ?_))
   refine ⟨?_, hH.below⟩
   by_cases hbn : b = []
   · have := he0 hbn; simp_all
   · have := he5 hbn; simp_all
  have g8_9' := g8_9; try simp only [qq] at g8_9'
  refine zy hF rfl g8_9 (r_move hF rfl rfl) fun a hF => ?_
  refine zy hF rfl g8_9 (zr hF rfl rfl (b_seq _ _ [])) fun a hF => ?_
  refine zy hF rfl g8_9 (r_move hF rfl rfl) fun a hF => ?_
  refine ls_ask (d := 64) hF rfl (fun g8_12 => ?_) (fun g8_12 => ?_)
  ·
   have g8_12' := g8_12; try simp only [qq] at g8_12'
   refine zn hF rfl g8_12 fun a hF => ?_
   refine zn hF rfl g8_12 fun a hF => ?_
   refine zy hF rfl g8_9 (r_pickt hF rfl rfl g8_12 rfl) fun a hF => ?_
   refine zl hF rfl (r_pickt hF rfl rfl g8_9 rfl) fun a hF => ?_
   refine zm 1 hF rfl fun a hF => ?_
   refine c_n ?_
   replace hF := hF.sel [6]
   simp only [ss, Nat.reduceBEq] at hF
   refine wp_ret (hret (ret1 hF Tryz.results6 rfl ?_))
   refine ⟨?_, hH.below⟩
   by_cases hbn : b = []
   · have := he0 hbn; simp_all
   · have := he5 hbn; simp_all
  have g8_12' := g8_12; try simp only [qq] at g8_12'
  refine zy hF rfl g8_12 (r_move hF rfl rfl) fun a hF => ?_
  refine zy hF rfl g8_12 (zr hF rfl rfl (b_eqn _ _ _ 5)) fun a hF => ?_
  refine zy hF rfl g8_9 (r_pickf hF rfl rfl g8_12 rfl) fun a hF => ?_
  refine zl hF rfl (r_pickt hF rfl rfl g8_9 rfl) fun a hF => ?_
  refine zm 1 hF rfl fun a hF => ?_
  refine c_n ?_
  replace hF := hF.sel [6]
  simp only [ss, Nat.reduceBEq] at hF
  refine wp_ret (hret (ret1 hF Tryz.results6 rfl ?_))
  refine ⟨?_, hH.below⟩
  by_cases hbn : b = []
  · have := he0 hbn; simp_all
  · have := he5 hbn; simp_all
end Go.Proofs.YtpoebplhemimmaaGreatDoor
