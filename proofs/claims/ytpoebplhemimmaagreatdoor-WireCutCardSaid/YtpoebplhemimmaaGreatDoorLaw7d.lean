/-
  The walk of hustingslaw07.WireWithin. Nothing is claimed here.
-/
import Derived.Test.YtpoebplhemimmaaGreatDoorLaw7a
import Derived.Test.YtpoebplhemimmaaGreatDoorWLen
namespace Go.Proofs.YtpoebplhemimmaaGreatDoor
open Go.RowKit
set_option linter.unusedVariables false
set_option linter.unusedSimpArgs false
set_option maxHeartbeats 1000000

theorem lenOf {α : Type} {f : α → Nat} {l : List α} (h1 : ∀ a, 1 ≤ f a) (h : (l.map f).sum < 5000) : l.length < 5000 ∧ ∀ a ∈ l, f a < 5000 :=
  ⟨Nat.lt_of_le_of_lt (len_sum fun a _ => h1 a) h, fun a ha => Nat.lt_of_le_of_lt (mem_sum (f := f) ha) h⟩
theorem SmallM.b {m : Msg} (h : SmallM m) : MsgB m := by
  unfold SmallM at h
  have ha := lenOf (f := recSz) (l := m.ans) (fun a => by unfold recSz; omega) (by omega)
  have hu := lenOf (f := recSz) (l := m.auth) (fun a => by unfold recSz; omega) (by omega)
  have hx := lenOf (f := recSz) (l := m.extra) (fun a => by unfold recSz; omega) (by omega)
  have hq := lenOf (f := queSz) (l := m.qs) (fun a => by unfold queSz; omega) (by omega)
  have ho := lenOf (f := optSz) (l := m.ed.opts) (fun a => by unfold optSz; omega) (by omega)
  refine ⟨⟨by omega, fun q hm => ?_⟩, ⟨by omega, fun r hm => ?_⟩, ⟨by omega, fun r hm => ?_⟩, ⟨by omega, fun r hm => ?_⟩, ⟨by omega, fun o hm => ?_⟩⟩
  · have := hq.2 q hm; unfold queSz at this; omega
  · have := ha.2 r hm; unfold recSz at this; omega
  · have := hu.2 r hm; unfold recSz at this; omega
  · have := hx.2 r hm; unfold recSz at this; omega
  · have := ho.2 o hm; unfold optSz at this; omega
theorem msgV_size (m : Msg) (qv av uv xv ov : Value) : (msgV m qv av uv xv ov).toArray.size = 21 := rfl
theorem within_spec (m : Msg) (qv av uv xv ov : Value) (w0 : World) (hG : GX w0) (hR : MsgR w0 m qv av uv xv ov) (hL : MsgL m) :
    Rets Tryz.prog 5 [.agg (msgV m qv av uv xv ov).toArray] w0 fun v w' => v = .bool true ∧ Ext w0 w' := by
  have hH := Hp.refl w0
  obtain ⟨mv, hmv⟩ : ∃ mv, mv = (msgV m qv av uv xv ov).toArray := ⟨_, rfl⟩
  refine rets_start Tryz.func5 rfl Tryz.ntmps5 rfl fun a Q0 hF hret hend => ?_
  simp only [argsFrom, Nat.zero_add, Nat.reduceAdd] at hF
  refine c_sr fun ops => ?_
  refine ls_box hF hH rfl rfl rfl rfl rfl ?_
  intro a w g0_0 hH hE hF
  refine zm 1 hF rfl fun a hF => ?_
  refine c_n ?_
  replace hF := hF.sel [1]
  simp only [ss, Nat.reduceBEq] at hF
  refine c_seq fun Q1 k1 t1 => ?_
  refine c_sg ?_
  refine zl hF rfl (r_loadagg hF rfl rfl Tryz.underlying37 ti37 rfl (own_agg (i := 0) (cs := (msgV m qv av uv xv ov).toArray) hH rfl)) fun a hF => ?_
  refine zc hF rfl rfl fn13 (large_spec m _ _ _ _ _ _ (hR.ext hH.below)) ?_
  rintro _ w ⟨⟨bl, rfl, hbl⟩, hE⟩ a hF
  replace hH := hH.ext hE
  refine zm 1 hF rfl fun a hF => ?_
  refine ls_ask (d := 9) hF rfl (fun g1_2 => ?_) (fun g1_2 => ?_)
  ·
   have g1_2' := g1_2; try simp only [qq] at g1_2'
   refine zn hF rfl g1_2 fun a hF => ?_
   refine zn hF rfl g1_2 fun a hF => ?_
   refine zl hF rfl (r_pickt hF rfl rfl g1_2 rfl) fun a hF => ?_
   refine c_n ?_
   replace hF := hF.sel [1, 12]
   simp only [ss, Nat.reduceBEq] at hF
   refine c_yes hF rfl rfl ?_
   refine c_sr fun ops => ?_
   refine zc hF rfl rfl fn8 (awake_spec _ (hG.ext hH.below)) ?_
   rintro _ w ⟨rfl, hE⟩ a hF
   replace hH := hH.ext hE
   refine zm 1 hF rfl fun a hF => ?_
   refine c_n ?_
   replace hF := hF.sel [2]
   simp only [ss, Nat.reduceBEq] at hF
   refine wp_ret (t1.ret (hret (ret1 hF Tryz.results5 rfl ?_)))
   exact ⟨rfl, hH.below⟩
  have g1_2' := g1_2; try simp only [qq] at g1_2'
  refine zyc hF rfl g1_2 rfl fn8 (awake_spec _ (hG.ext hH.below)) ?_
  rintro _ w ⟨rfl, hE⟩ a hF
  replace hH := hH.ext hE
  refine zy hF rfl g1_2 (r_not hF rfl rfl) fun a hF => ?_
  refine zl hF rfl (r_pickf hF rfl rfl g1_2 rfl) fun a hF => ?_
  refine c_n ?_
  replace hF := hF.sel [1, 12]
  simp only [ss, Nat.reduceBEq] at hF
  refine c_if hF rfl (fun h12 => ?_) (fun h12 => ?_)
  ·
   try simp only [qq] at h12
   refine c_sr fun ops => ?_
   refine zc hF rfl rfl fn8 (awake_spec _ (hG.ext hH.below)) ?_
   rintro _ w ⟨rfl, hE⟩ a hF
   replace hH := hH.ext hE
   refine zm 1 hF rfl fun a hF => ?_
   refine c_n ?_
   replace hF := hF.sel [2]
   simp only [ss, Nat.reduceBEq] at hF
   refine wp_ret (t1.ret (hret (ret1 hF Tryz.results5 rfl ?_)))
   exact ⟨rfl, hH.below⟩
  try simp only [qq] at h12
  refine wp_skip ?_
  refine k1 ?_
  have hS : SmallM m := by
    unfold SmallM
    cases bl with
    | true => simp_all
    | false => exact hbl rfl
  have hB := hS.b
  refine c_sr fun ops => ?_
  refine zl hF rfl (r_loadagg hF rfl rfl Tryz.underlying37 ti37 rfl (own_agg (i := 0) (cs := (msgV m qv av uv xv ov).toArray) hH rfl)) fun a hF => ?_
  refine zc hF rfl rfl fn14 (encode_spec m _ _ _ _ _ _ (hG.ext hH.below) (hR.ext hH.below) hL hB) ?_
  rintro _ w ⟨rfl, hE⟩ a hF
  replace hH := hH.ext hE
  refine zm 5 hF rfl fun a hF => ?_
  refine c_n ?_
  replace hF := hF.sel [1, 3, 4]
  simp only [ss, Nat.reduceBEq] at hF
  refine c_sr fun ops => ?_
  refine zl hF rfl (r_loadagg hF rfl rfl Tryz.underlying37 ti37 rfl (own_agg (i := 0) (cs := (msgV m qv av uv xv ov).toArray) hH rfl)) fun a hF => ?_
  refine zc hF rfl rfl fn16 (size_mspec m _ _ _ _ _ _ (hG.ext hH.below) (hR.ext hH.below) hL hB) ?_
  rintro _ w ⟨rfl, hE⟩ a hF
  replace hH := hH.ext hE
  refine zm 5 hF rfl fun a hF => ?_
  refine c_n ?_
  replace hF := hF.sel [1, 3, 4, 5, 6]
  simp only [ss, Nat.reduceBEq] at hF
  refine c_seq fun Q2 k2 t2 => ?_
  refine c_sr fun ops => ?_
  refine zm 1 hF rfl fun a hF => ?_
  refine zb hF rfl rfl rfl (b_nen _ _ _ 0) fun a hF => ?_
  refine c_n ?_
  replace hF := hF.sel [1, 3, 4, 5, 6, 25]
  simp only [ss, Nat.reduceBEq] at hF
  refine c_if hF rfl (fun h25 => ?_) (fun h25 => ?_)
  ·
   try simp only [qq] at h25
   have hbad := encN_bad (m := m) (by omega)
   refine c_sg ?_
   refine zm 2 hF rfl fun a hF => ?_
   refine zb hF rfl rfl rfl (b_eqn _ _ _ _) fun a hF => ?_
   refine zm 1 hF rfl fun a hF => ?_
   refine l_ask (d := 29) hF rfl (fun g6_3 => ?_) (fun g6_3 => ?_)
   ·
    have g6_3' := g6_3; try simp only [qq] at g6_3'
    refine zn hF rfl g6_3 fun a hF => ?_
    refine zn hF rfl g6_3 fun a hF => ?_
    refine zl hF rfl (r_pickf hF rfl rfl g6_3 rfl) fun a hF => ?_
    refine zm 1 hF rfl fun a hF => ?_
    refine zn hF rfl rfl fun a hF => ?_
    refine zn hF rfl rfl fun a hF => ?_
    refine zl hF rfl (r_pickf hF rfl rfl rfl rfl) fun a hF => ?_
    refine zm 1 hF rfl fun a hF => ?_
    refine zn hF rfl rfl fun a hF => ?_
    refine zn hF rfl rfl fun a hF => ?_
    refine zn hF rfl rfl fun a hF => ?_
    refine zn hF rfl rfl fun a hF => ?_
    refine zn hF rfl rfl fun a hF => ?_
    refine zn hF rfl rfl fun a hF => ?_
    refine zl hF rfl (r_pickf hF rfl rfl rfl rfl) fun a hF => ?_
    refine zm 1 hF rfl fun a hF => ?_
    refine c_n ?_
    replace hF := hF.sel [2]
    simp only [ss, Nat.reduceBEq] at hF
    refine wp_ret (t2.ret (hret (ret1 hF Tryz.results5 rfl ?_)))
    refine ⟨?_, hH.below⟩
    have hb1 := hbad.1
    have hb2 := hbad.2
    rw [hb1] at *
    first
      | (exfalso; simp_all; done)
      | (cases hmm : mayM m <;> simp_all; done)
   have g6_3' := g6_3; try simp only [qq] at g6_3'
   refine zy hF rfl g6_3 (r_move hF rfl rfl) fun a hF => ?_
   refine zy hF rfl g6_3 (zr hF rfl rfl (b_seq _ _ [])) fun a hF => ?_
   refine zl hF rfl (r_pickt hF rfl rfl g6_3 rfl) fun a hF => ?_
   refine zm 1 hF rfl fun a hF => ?_
   refine l_ask (d := 33) hF rfl (fun g6_7 => ?_) (fun g6_7 => ?_)
   ·
    have g6_7' := g6_7; try simp only [qq] at g6_7'
    refine zn hF rfl g6_7 fun a hF => ?_
    refine zn hF rfl g6_7 fun a hF => ?_
    refine zl hF rfl (r_pickf hF rfl rfl g6_7 rfl) fun a hF => ?_
    refine zm 1 hF rfl fun a hF => ?_
    refine zn hF rfl rfl fun a hF => ?_
    refine zn hF rfl rfl fun a hF => ?_
    refine zn hF rfl rfl fun a hF => ?_
    refine zn hF rfl rfl fun a hF => ?_
    refine zn hF rfl rfl fun a hF => ?_
    refine zn hF rfl rfl fun a hF => ?_
    refine zl hF rfl (r_pickf hF rfl rfl rfl rfl) fun a hF => ?_
    refine zm 1 hF rfl fun a hF => ?_
    refine c_n ?_
    replace hF := hF.sel [2]
    simp only [ss, Nat.reduceBEq] at hF
    refine wp_ret (t2.ret (hret (ret1 hF Tryz.results5 rfl ?_)))
    refine ⟨?_, hH.below⟩
    have hb1 := hbad.1
    have hb2 := hbad.2
    rw [hb1] at *
    first
      | (exfalso; simp_all; done)
      | (cases hmm : mayM m <;> simp_all; done)
   have g6_7' := g6_7; try simp only [qq] at g6_7'
   refine zy hF rfl g6_7 (r_move hF rfl rfl) fun a hF => ?_
   refine zy hF rfl g6_7 (zr hF rfl rfl (b_eqn _ _ _ 0)) fun a hF => ?_
   refine zl hF rfl (r_pickt hF rfl rfl g6_7 rfl) fun a hF => ?_
   refine zm 1 hF rfl fun a hF => ?_
   refine l_ask (d := 37) hF rfl (fun g6_11 => ?_) (fun g6_11 => ?_)
   ·
    have g6_11' := g6_11; try simp only [qq] at g6_11'
    refine zn hF rfl g6_11 fun a hF => ?_
    refine zn hF rfl g6_11 fun a hF => ?_
    refine zn hF rfl g6_11 fun a hF => ?_
    refine zn hF rfl g6_11 fun a hF => ?_
    refine zn hF rfl g6_11 fun a hF => ?_
    refine zn hF rfl g6_11 fun a hF => ?_
    refine zl hF rfl (r_pickf hF rfl rfl g6_11 rfl) fun a hF => ?_
    refine zm 1 hF rfl fun a hF => ?_
    refine c_n ?_
    replace hF := hF.sel [2]
    simp only [ss, Nat.reduceBEq] at hF
    refine wp_ret (t2.ret (hret (ret1 hF Tryz.results5 rfl ?_)))
    refine ⟨?_, hH.below⟩
    have hb1 := hbad.1
    have hb2 := hbad.2
    rw [hb1] at *
    first
      | (exfalso; simp_all; done)
      | (cases hmm : mayM m <;> simp_all; done)
   have g6_11' := g6_11; try simp only [qq] at g6_11'
   refine zy hF rfl g6_11 (r_move hF rfl rfl) fun a hF => ?_
   refine zy hF rfl g6_11 (zr hF rfl rfl (b_eqn _ _ _ 3)) fun a hF => ?_
   refine zy hF rfl g6_11 (r_loadagg hF rfl rfl Tryz.underlying37 ti37 rfl (own_agg (i := 0) (cs := (msgV m qv av uv xv ov).toArray) hH rfl)) fun a hF => ?_
   refine zyc hF rfl g6_11 rfl fn15 (may_mspec m _ _ _ _ _ _ (hG.ext hH.below) (hR.ext hH.below) hL hB) ?_
   rintro _ w ⟨rfl, hE⟩ a hF
   replace hH := hH.ext hE
   refine zy hF rfl g6_11 (r_not hF rfl rfl) fun a hF => ?_
   refine zy hF rfl g6_11 (zr hF rfl rfl (b_beq _ _ _ Tryz.underlying4)) fun a hF => ?_
   refine zl hF rfl (r_pickt hF rfl rfl g6_11 rfl) fun a hF => ?_
   refine zm 1 hF rfl fun a hF => ?_
   refine c_n ?_
   replace hF := hF.sel [2]
   simp only [ss, Nat.reduceBEq] at hF
   refine wp_ret (t2.ret (hret (ret1 hF Tryz.results5 rfl ?_)))
   refine ⟨?_, hH.below⟩
   have hb1 := hbad.1
   have hb2 := hbad.2
   rw [hb1] at *
   first
     | (exfalso; simp_all; done)
     | (cases hmm : mayM m <;> simp_all; done)
  try simp only [qq] at h25
  obtain ⟨s, hs⟩ : ∃ s, encN m = (0, s) := ⟨(encN m).2, Prod.ext (by omega) rfl⟩
  have hlen := enc_len hs
  rw [hs] at hF
  simp only at hF
  refine wp_skip ?_
  refine k2 ?_
  refine c_sg ?_
  refine zm 1 hF rfl fun a hF => ?_
  refine zb hF rfl rfl rfl (b_eqn _ _ _ 0) fun a hF => ?_
  refine zm 1 hF rfl fun a hF => ?_
  refine l_ask (d := 47) hF rfl (fun g7_2 => ?_) (fun g7_2 => ?_)
  ·
   have g7_2' := g7_2; try simp only [qq] at g7_2'
   refine zn hF rfl g7_2 fun a hF => ?_
   refine zn hF rfl g7_2 fun a hF => ?_
   refine zn hF rfl g7_2 fun a hF => ?_
   refine zn hF rfl g7_2 fun a hF => ?_
   refine zl hF rfl (r_pickf hF rfl rfl g7_2 rfl) fun a hF => ?_
   refine zm 1 hF rfl fun a hF => ?_
   refine zn hF rfl rfl fun a hF => ?_
   refine zn hF rfl rfl fun a hF => ?_
   refine zl hF rfl (r_pickf hF rfl rfl rfl rfl) fun a hF => ?_
   refine zm 1 hF rfl fun a hF => ?_
   refine zn hF rfl rfl fun a hF => ?_
   refine zn hF rfl rfl fun a hF => ?_
   refine zl hF rfl (r_pickf hF rfl rfl rfl rfl) fun a hF => ?_
   refine zm 1 hF rfl fun a hF => ?_
   refine zn hF rfl rfl fun a hF => ?_
   refine zn hF rfl rfl fun a hF => ?_
   refine zn hF rfl rfl fun a hF => ?_
   refine zn hF rfl rfl fun a hF => ?_
   refine zl hF rfl (r_pickf hF rfl rfl rfl rfl) fun a hF => ?_
   refine zm 1 hF rfl fun a hF => ?_
   refine zn hF rfl rfl fun a hF => ?_
   refine zn hF rfl rfl fun a hF => ?_
   refine zl hF rfl (r_pickf hF rfl rfl rfl rfl) fun a hF => ?_
   refine zm 1 hF rfl fun a hF => ?_
   refine c_n ?_
   replace hF := hF.sel [2]
   simp only [ss, Nat.reduceBEq] at hF
   refine wp_ret (hret (ret1 hF Tryz.results5 rfl ?_))
   refine ⟨?_, hH.below⟩
   have hl1 := hlen.1
   first
     | (exfalso; omega)
     | (exact absurd trivial (show ¬ True by assumption))
     | (rw [hl1]; done)
  have g7_2' := g7_2; try simp only [qq] at g7_2'
  refine zy hF rfl g7_2 (r_move hF rfl rfl) fun a hF => ?_
  refine zy hF rfl g7_2 (r_move hF rfl rfl) fun a hF => ?_
  refine zy hF rfl g7_2 (r_len_str hF rfl rfl Tryz.underlying9) fun a hF => ?_
  refine zy hF rfl g7_2 (zr hF rfl rfl (b_eqn _ _ _ _)) fun a hF => ?_
  refine zl hF rfl (r_pickt hF rfl rfl g7_2 rfl) fun a hF => ?_
  refine zm 1 hF rfl fun a hF => ?_
  refine l_ask (d := 53) hF rfl (fun g7_8 => ?_) (fun g7_8 => ?_)
  ·
   have g7_8' := g7_8; try simp only [qq] at g7_8'
   refine zn hF rfl g7_8 fun a hF => ?_
   refine zn hF rfl g7_8 fun a hF => ?_
   refine zl hF rfl (r_pickf hF rfl rfl g7_8 rfl) fun a hF => ?_
   refine zm 1 hF rfl fun a hF => ?_
   refine zn hF rfl rfl fun a hF => ?_
   refine zn hF rfl rfl fun a hF => ?_
   refine zl hF rfl (r_pickf hF rfl rfl rfl rfl) fun a hF => ?_
   refine zm 1 hF rfl fun a hF => ?_
   refine zn hF rfl rfl fun a hF => ?_
   refine zn hF rfl rfl fun a hF => ?_
   refine zn hF rfl rfl fun a hF => ?_
   refine zn hF rfl rfl fun a hF => ?_
   refine zl hF rfl (r_pickf hF rfl rfl rfl rfl) fun a hF => ?_
   refine zm 1 hF rfl fun a hF => ?_
   refine zn hF rfl rfl fun a hF => ?_
   refine zn hF rfl rfl fun a hF => ?_
   refine zl hF rfl (r_pickf hF rfl rfl rfl rfl) fun a hF => ?_
   refine zm 1 hF rfl fun a hF => ?_
   refine c_n ?_
   replace hF := hF.sel [2]
   simp only [ss, Nat.reduceBEq] at hF
   refine wp_ret (hret (ret1 hF Tryz.results5 rfl ?_))
   refine ⟨?_, hH.below⟩
   have hl1 := hlen.1
   first
     | (exfalso; omega)
     | (exact absurd trivial (show ¬ True by assumption))
     | (rw [hl1]; done)
  have g7_8' := g7_8; try simp only [qq] at g7_8'
  refine zy hF rfl g7_8 (r_move hF rfl rfl) fun a hF => ?_
  refine zy hF rfl g7_8 (zr hF rfl rfl (b_gen _ _ _ 12)) fun a hF => ?_
  refine zl hF rfl (r_pickt hF rfl rfl g7_8 rfl) fun a hF => ?_
  refine zm 1 hF rfl fun a hF => ?_
  refine l_ask (d := 57) hF rfl (fun g7_12 => ?_) (fun g7_12 => ?_)
  ·
   have g7_12' := g7_12; try simp only [qq] at g7_12'
   refine zn hF rfl g7_12 fun a hF => ?_
   refine zn hF rfl g7_12 fun a hF => ?_
   refine zl hF rfl (r_pickf hF rfl rfl g7_12 rfl) fun a hF => ?_
   refine zm 1 hF rfl fun a hF => ?_
   refine zn hF rfl rfl fun a hF => ?_
   refine zn hF rfl rfl fun a hF => ?_
   refine zn hF rfl rfl fun a hF => ?_
   refine zn hF rfl rfl fun a hF => ?_
   refine zl hF rfl (r_pickf hF rfl rfl rfl rfl) fun a hF => ?_
   refine zm 1 hF rfl fun a hF => ?_
   refine zn hF rfl rfl fun a hF => ?_
   refine zn hF rfl rfl fun a hF => ?_
   refine zl hF rfl (r_pickf hF rfl rfl rfl rfl) fun a hF => ?_
   refine zm 1 hF rfl fun a hF => ?_
   refine c_n ?_
   replace hF := hF.sel [2]
   simp only [ss, Nat.reduceBEq] at hF
   refine wp_ret (hret (ret1 hF Tryz.results5 rfl ?_))
   refine ⟨?_, hH.below⟩
   have hl1 := hlen.1
   first
     | (exfalso; omega)
     | (exact absurd trivial (show ¬ True by assumption))
     | (rw [hl1]; done)
  have g7_12' := g7_12; try simp only [qq] at g7_12'
  refine zy hF rfl g7_12 (r_move hF rfl rfl) fun a hF => ?_
  refine zy hF rfl g7_12 (zr hF rfl rfl (b_len _ _ _ 65535)) fun a hF => ?_
  refine zl hF rfl (r_pickt hF rfl rfl g7_12 rfl) fun a hF => ?_
  refine zm 1 hF rfl fun a hF => ?_
  refine l_ask (d := 61) hF rfl (fun g7_16 => ?_) (fun g7_16 => ?_)
  ·
   have g7_16' := g7_16; try simp only [qq] at g7_16'
   refine zn hF rfl g7_16 fun a hF => ?_
   refine zn hF rfl g7_16 fun a hF => ?_
   refine zn hF rfl g7_16 fun a hF => ?_
   refine zn hF rfl g7_16 fun a hF => ?_
   refine zl hF rfl (r_pickf hF rfl rfl g7_16 rfl) fun a hF => ?_
   refine zm 1 hF rfl fun a hF => ?_
   refine zn hF rfl rfl fun a hF => ?_
   refine zn hF rfl rfl fun a hF => ?_
   refine zl hF rfl (r_pickf hF rfl rfl rfl rfl) fun a hF => ?_
   refine zm 1 hF rfl fun a hF => ?_
   refine c_n ?_
   replace hF := hF.sel [2]
   simp only [ss, Nat.reduceBEq] at hF
   refine wp_ret (hret (ret1 hF Tryz.results5 rfl ?_))
   refine ⟨?_, hH.below⟩
   have hl1 := hlen.1
   first
     | (exfalso; omega)
     | (exact absurd trivial (show ¬ True by assumption))
     | (rw [hl1]; done)
  have g7_16' := g7_16; try simp only [qq] at g7_16'
  refine zy hF rfl g7_16 (r_move hF rfl rfl) fun a hF => ?_
  refine zy hF rfl g7_16 (r_loadagg hF rfl rfl Tryz.underlying37 ti37 rfl (own_agg (i := 0) (cs := (msgV m qv av uv xv ov).toArray) hH rfl)) fun a hF => ?_
  refine zyc hF rfl g7_16 rfl fn17 (whole_spec m _ _ _ _ _ _ (hR.ext hH.below) hS) ?_
  rintro _ w ⟨rfl, hE⟩ a hF
  replace hH := hH.ext hE
  refine zy hF rfl g7_16 (zr hF rfl rfl (b_len _ _ _ _)) fun a hF => ?_
  refine zl hF rfl (r_pickt hF rfl rfl g7_16 rfl) fun a hF => ?_
  refine zm 1 hF rfl fun a hF => ?_
  refine l_ask (d := 67) hF rfl (fun g7_22 => ?_) (fun g7_22 => ?_)
  ·
   have g7_22' := g7_22; try simp only [qq] at g7_22'
   refine zn hF rfl g7_22 fun a hF => ?_
   refine zn hF rfl g7_22 fun a hF => ?_
   refine zl hF rfl (r_pickf hF rfl rfl g7_22 rfl) fun a hF => ?_
   refine zm 1 hF rfl fun a hF => ?_
   refine c_n ?_
   replace hF := hF.sel [2]
   simp only [ss, Nat.reduceBEq] at hF
   refine wp_ret (hret (ret1 hF Tryz.results5 rfl ?_))
   refine ⟨?_, hH.below⟩
   have hl1 := hlen.1
   first
     | (exfalso; omega)
     | (exact absurd trivial (show ¬ True by assumption))
     | (rw [hl1]; done)
  have g7_22' := g7_22; try simp only [qq] at g7_22'
  refine zy hF rfl g7_22 (r_loadagg hF rfl rfl Tryz.underlying37 ti37 rfl (own_agg (i := 0) (cs := (msgV m qv av uv xv ov).toArray) hH rfl)) fun a hF => ?_
  refine zyc hF rfl g7_22 rfl fn15 (may_mspec m _ _ _ _ _ _ (hG.ext hH.below) (hR.ext hH.below) hL hB) ?_
  rintro _ w ⟨rfl, hE⟩ a hF
  replace hH := hH.ext hE
  refine zl hF rfl (r_pickt hF rfl rfl g7_22 rfl) fun a hF => ?_
  refine zm 1 hF rfl fun a hF => ?_
  refine c_n ?_
  replace hF := hF.sel [2]
  simp only [ss, Nat.reduceBEq] at hF
  refine wp_ret (hret (ret1 hF Tryz.results5 rfl ?_))
  refine ⟨?_, hH.below⟩
  have hl1 := hlen.1
  first
    | (exfalso; omega)
    | (exact absurd trivial (show ¬ True by assumption))
    | (rw [hl1]; done)
end Go.Proofs.YtpoebplhemimmaaGreatDoor
