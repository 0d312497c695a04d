/-
  The walks of ChainWay, ChainEnd and ChainMore. Nothing is claimed here.
-/
import Derived.Test.YtcelgjabccgnmaaGreatDoorLaw9c
import Derived.Test.YtcelgjabccgnmaaGreatDoorLaw8b
import Derived.Test.YtcelgjabccgnmaaGreatDoorChainW
namespace Go.Proofs.YtcelgjabccgnmaaGreatDoor
open Go.RowKit
set_option linter.unusedVariables false
set_option linter.unusedSimpArgs false
set_option maxHeartbeats 1000000

theorem SetsR.shape' {w : World} {v : Value} {l : List RSet} (h : SetsR w v l) : ∃ ad cap, v = .slice ad l.length cap := by
  obtain ⟨_, _, h, _⟩ := h; exact h.shape
theorem b_bne {P : Program} {w : World} (t : TypeId) (x y : Bool) (h : P.underlying t = some .bool) : (binOp .neq t (.bool x) (.bool y)).run P w = .ok (.bool (x != y)) w := by
  simp only [binOp]
  simp [Op.equal, Op.maxDepth, run_equalIn_bool w 9999 t x y h]; cases x <;> cases y <;> rfl
theorem b_beq {P : Program} {w : World} (t : TypeId) (x y : Bool) (h : P.underlying t = some .bool) : (binOp .eql t (.bool x) (.bool y)).run P w = .ok (.bool (x == y)) w := run_eql_bool w t x y h
/-- What Follow tells, read. -/
theorem followR_spec (nm : Bs) (kind cls : Nat) (l : List RSet) (v : Value) (w0 : World) (hR : SetsR w0 v l) (hb : SetsB l) (hn : nm.length < 1000000) (hG : GW w0) :
    Rets Tryz.prog 36 [.agg (queV nm kind cls).toArray, v] w0
      fun r w' => (∃ cv ev, r = .tuple #[cv, .string (mk (followC nm kind cls l).2.2), ev, .int .i64 ((followC nm kind cls l).1 : Nat)] ∧ SetsR w' cv (followC nm kind cls l).2.1 ∧ SetsR w' ev (endsOf (followC nm kind cls l) kind cls l)) ∧ Ext w0 w' :=
  (follow_spec nm kind cls l v w0 hR hb.len hn hb.name hb.data hb.each hG).mono fun r w' ⟨cv, ev, B1, es1, B2, es2, e, hB, hS1, hK1, h1, hS2, hK2, h2⟩ =>
    ⟨⟨cv, ev, e, by rw [← h1]; exact sets_read hB hS1 hK1 (fun p hp => List.mem_append_left _ (List.mem_append_left _ hp)) (fun p hp => List.mem_append_left _ (List.mem_append_right _ hp)),
      by rw [← h2]; exact sets_read hB hS2 hK2 (fun p hp => List.mem_append_right _ (List.mem_append_left _ hp)) (fun p hp => List.mem_append_right _ (List.mem_append_right _ hp))⟩, hB.below⟩
/-- What Find tells, read. -/
theorem findR_spec (l : List RSet) (v : Value) (nm : Bs) (kind cls : Nat) (w0 : World) (hR : SetsR w0 v l) (hb : SetsB l) (hn : nm.length < 1000000) :
    Rets Tryz.prog 18 [v, .string (mk nm), .int .u16 kind, .int .u16 cls] w0
      fun r w' => (∃ dv, r = .tuple #[.agg (setV ((findS l nm kind cls).getD noSet) dv).toArray, .bool (findS l nm kind cls).isSome] ∧ RSl w' 1 dv ((findS l nm kind cls).getD noSet).data.length (strV ((findS l nm kind cls).getD noSet).data)) ∧ Ext w0 w' :=
  (find_spec l v nm kind cls w0 hR hb.len hn hb.name hb.data).mono fun r w' ⟨dv, B, e, hB, hS⟩ => ⟨⟨dv, e, hS.rsl hB fun p hp => hp⟩, hB.below⟩

theorem way_at {u : List RSet} {cls : Nat} : ∀ {ch : List RSet} {p q : Bs} {met : List Bs}, p.length ≤ 255 → Way u cls p met ch q → q.length ≤ 255
  | [], p, q, _, hp, h => by
    have : q = p := h
    rw [this]; exact hp
  | s :: ch, p, q, _, _, h => way_at (fold_le255 _) h.2.2.2.2
theorem chain_at_le (nm : Bs) (kind cls : Nat) (u : List RSet) : (followC nm kind cls u).2.2.length ≤ 255 := by
  by_cases h : (followC nm kind cls u).1 = 0
  · exact way_at (fold_le255 _) (followC_way h).2.1
  · rw [(followC_err h).1]; simp
theorem chainEnd_spec (nm : Bs) (kind cls : Nat) (l : List Rec) (v : Value) (w0 : World) (hR : RSl w0 5 v l.length (recsV l)) (hG : GW w0) :
    Rets Tryz.prog 9 [.agg (queV nm kind cls).toArray, v] w0 fun r w' => r = .bool true ∧ Ext w0 w' := by
  have hH := Hp.refl w0
  refine rets_start Tryz.func9 rfl Tryz.ntmps9 rfl fun a Q0 hF hret hend => ?_
  simp only [argsFrom, Nat.zero_add, Nat.reduceAdd] at hF
  refine c_sr fun ops => ?_
  refine ls_box hF hH rfl rfl rfl rfl rfl ?_
  intro a w g0_0 hH hE hF
  refine zm 1 hF rfl fun a hF => ?_
  refine c_n ?_
  replace hF := hF.sel [1, 2]
  simp only [ss, Nat.reduceBEq] at hF
  refine c_seq fun Q1 k1 t1 => ?_
  simp only [cells_agg] at hH
  refine c_sg ?_
  refine zm 1 hF rfl fun a hF => ?_
  refine zc hF rfl rfl fn34 (large9_spec l v _ (hR.ext hH.below)) ?_
  rintro _ w ⟨⟨b, rfl, hlg⟩, hE⟩ a hF
  replace hH := hH.ext hE
  refine zm 1 hF rfl fun a hF => ?_
  refine ls_ask (d := 16) hF rfl (fun g1_2 => ?_) (fun g1_2 => ?_)
  ·
   have g1_2' := g1_2; try simp only [qq] at g1_2'
   refine zn hF rfl g1_2 fun a hF => ?_
   refine zn hF rfl g1_2 fun a hF => ?_
   refine zn hF rfl g1_2 fun a hF => ?_
   refine zn hF rfl g1_2 fun a hF => ?_
   refine zl hF rfl (r_pickt hF rfl rfl g1_2 rfl) fun a hF => ?_
   refine zm 1 hF rfl fun a hF => ?_
   refine zn hF rfl rfl fun a hF => ?_
   refine zn hF rfl rfl fun a hF => ?_
   refine zl hF rfl (r_pickt hF rfl rfl rfl rfl) fun a hF => ?_
   refine c_n ?_
   replace hF := hF.sel [1, 2, 25]
   simp only [ss, Nat.reduceBEq] at hF
   refine c_yes hF rfl rfl ?_
   refine c_sr fun ops => ?_
   refine zc hF rfl rfl fn35 (awake9_spec _ (hG.ext hH.below)) ?_
   rintro _ w ⟨rfl, hE⟩ a hF
   replace hH := hH.ext hE
   refine zm 1 hF rfl fun a hF => ?_
   refine c_n ?_
   replace hF := hF.sel [4]
   simp only [ss, Nat.reduceBEq] at hF
   refine wp_ret (t1.ret (hret (ret1 hF Tryz.results9 rfl ?_)))
   exact ⟨rfl, hH.below⟩
  have g1_2' := g1_2; try simp only [qq] at g1_2'
  refine zy hF rfl g1_2 (r_fieldaddr0 hF rfl rfl fd49_0) fun a hF => ?_
  refine zy hF rfl g1_2 (r_load hF rfl rfl fl9 (own_cell (i := 0) hH rfl rfl)) fun a hF => ?_
  refine zy hF rfl g1_2 (r_len_str hF rfl rfl Tryz.underlying9) fun a hF => ?_
  refine zy hF rfl g1_2 (zr hF rfl rfl (b_gtn _ _ _ 1000)) fun a hF => ?_
  refine zl hF rfl (r_pickf hF rfl rfl g1_2 rfl) fun a hF => ?_
  refine zm 1 hF rfl fun a hF => ?_
  refine ls_ask (d := 22) hF rfl (fun g1_8 => ?_) (fun g1_8 => ?_)
  ·
   have g1_8' := g1_8; try simp only [qq] at g1_8'
   refine zn hF rfl g1_8 fun a hF => ?_
   refine zn hF rfl g1_8 fun a hF => ?_
   refine zl hF rfl (r_pickt hF rfl rfl g1_8 rfl) fun a hF => ?_
   refine c_n ?_
   replace hF := hF.sel [1, 2, 25]
   simp only [ss, Nat.reduceBEq] at hF
   refine c_yes hF rfl rfl ?_
   refine c_sr fun ops => ?_
   refine zc hF rfl rfl fn35 (awake9_spec _ (hG.ext hH.below)) ?_
   rintro _ w ⟨rfl, hE⟩ a hF
   replace hH := hH.ext hE
   refine zm 1 hF rfl fun a hF => ?_
   refine c_n ?_
   replace hF := hF.sel [4]
   simp only [ss, Nat.reduceBEq] at hF
   refine wp_ret (t1.ret (hret (ret1 hF Tryz.results9 rfl ?_)))
   exact ⟨rfl, hH.below⟩
  have g1_8' := g1_8; try simp only [qq] at g1_8'
  refine zyc hF rfl g1_8 rfl fn35 (awake9_spec _ (hG.ext hH.below)) ?_
  rintro _ w ⟨rfl, hE⟩ a hF
  replace hH := hH.ext hE
  refine zy hF rfl g1_8 (r_not hF rfl rfl) fun a hF => ?_
  refine zl hF rfl (r_pickf hF rfl rfl g1_8 rfl) fun a hF => ?_
  refine c_n ?_
  replace hF := hF.sel [1, 2, 25]
  simp only [ss, Nat.reduceBEq] at hF
  refine c_if hF rfl (fun h25 => ?_) (fun h25 => ?_)
  ·
   try simp only [qq] at h25
   refine c_sr fun ops => ?_
   refine zc hF rfl rfl fn35 (awake9_spec _ (hG.ext hH.below)) ?_
   rintro _ w ⟨rfl, hE⟩ a hF
   replace hH := hH.ext hE
   refine zm 1 hF rfl fun a hF => ?_
   refine c_n ?_
   replace hF := hF.sel [4]
   simp only [ss, Nat.reduceBEq] at hF
   refine wp_ret (t1.ret (hret (ret1 hF Tryz.results9 rfl ?_)))
   exact ⟨rfl, hH.below⟩
  try simp only [qq] at h25
  have hRB := hlg g1_2'
  have hnl : nm.length ≤ 1000 := by omega
  have hgb := group_bounds hRB
  obtain ⟨hcb, heb⟩ := chain_bounds (nm := nm) (kind := kind) (cls := cls) hgb
  have hll := hRB.len
  refine wp_skip ?_
  refine k1 ?_
  refine c_sr fun ops => ?_
  refine zm 1 hF rfl fun a hF => ?_
  refine zc hF rfl rfl fn26 (groupR_spec l v _ (hR.ext hH.below) hRB (hG.ext hH.below)) ?_
  rintro v3 w ⟨hs3, hE⟩ a hF
  replace hH := hH.ext hE
  refine zm 1 hF rfl fun a hF => ?_
  refine c_n ?_
  replace hF := hF.sel [2, 5]
  simp only [ss, Nat.reduceBEq] at hF
  refine c_sr fun ops => ?_
  refine zl hF rfl (r_loadagg hF rfl rfl Tryz.underlying49 ti49 rfl (own_agg (i := 0) hH rfl)) fun a hF => ?_
  refine zm 1 hF rfl fun a hF => ?_
  refine zc hF rfl rfl fn36 (followR_spec nm kind cls (groupN l) v3 _ hs3 hgb (by omega) (hG.ext hH.below)) ?_
  rintro _ w ⟨⟨cv, ev, rfl, hc, he⟩, hE⟩ a hF
  replace hH := hH.ext hE
  refine zm 9 hF rfl fun a hF => ?_
  refine c_n ?_
  replace hF := hF.sel [2, 5, 6, 7, 8, 9]
  simp only [ss, Nat.reduceBEq] at hF
  replace hs3 := hs3.ext hE
  obtain ⟨_, _, rfl⟩ := hc.shape'
  obtain ⟨ead, ecp, rfl⟩ := he.shape'
  refine c_seq fun Q2 k2 t2 => ?_
  refine c_sr fun ops => ?_
  refine zm 1 hF rfl fun a hF => ?_
  refine zb hF rfl rfl rfl (b_nen _ _ _ 0) fun a hF => ?_
  refine c_n ?_
  replace hF := hF.sel [2, 5, 6, 7, 8, 9, 38]
  simp only [ss, Nat.reduceBEq] at hF
  refine c_if hF rfl (fun h38 => ?_) (fun h38 => ?_)
  ·
   try simp only [qq] at h38
   obtain ⟨-, -, h51⟩ := followC_err h38
   refine c_sg ?_
   refine zl hF rfl (r_fieldaddr0 hF rfl rfl fd49_1) fun a hF => ?_
   refine zl hF rfl (r_load hF rfl rfl fl23 (own_cell (i := 0) hH rfl rfl)) fun a hF => ?_
   refine zb hF rfl rfl rfl (b_nen _ _ _ 5) fun a hF => ?_
   refine zm 1 hF rfl fun a hF => ?_
   refine ls_ask (d := 42) hF rfl (fun g6_3 => ?_) (fun g6_3 => ?_)
   ·
    have g6_3' := g6_3; try simp only [qq] at g6_3'
    refine zn hF rfl g6_3 fun a hF => ?_
    refine zn hF rfl g6_3 fun a hF => ?_
    refine zl hF rfl (r_pickt hF rfl rfl g6_3 rfl) fun a hF => ?_
    refine zm 1 hF rfl fun a hF => ?_
    refine c_n ?_
    replace hF := hF.sel [4]
    simp only [ss, Nat.reduceBEq] at hF
    refine wp_ret (t2.ret (hret (ret1 hF Tryz.results9 rfl ?_)))
    refine ⟨?_, hH.below⟩
    first
      | exact congrArg Value.bool (decide_eq_true (h51 (by omega)))
      | rfl
   have g6_3' := g6_3; try simp only [qq] at g6_3'
   refine zy hF rfl g6_3 (r_move hF rfl rfl) fun a hF => ?_
   refine zy hF rfl g6_3 (zr hF rfl rfl (b_eqn _ _ _ 1)) fun a hF => ?_
   refine zl hF rfl (r_pickf hF rfl rfl g6_3 rfl) fun a hF => ?_
   refine zm 1 hF rfl fun a hF => ?_
   refine c_n ?_
   replace hF := hF.sel [4]
   simp only [ss, Nat.reduceBEq] at hF
   refine wp_ret (t2.ret (hret (ret1 hF Tryz.results9 rfl ?_)))
   refine ⟨?_, hH.below⟩
   first
     | exact congrArg Value.bool (decide_eq_true (h51 (by omega)))
     | rfl
  try simp only [qq] at h38
  obtain ⟨hmn, -, h5, hno⟩ := followC_way h38
  have hat : (followC nm kind cls (groupN l)).2.2.length < 1000000 := by have := chain_at_le nm kind cls (groupN l); omega
  have hends : endsOf (followC nm kind cls (groupN l)) kind cls (groupN l) = (findS (groupN l) (followC nm kind cls (groupN l)).2.2 kind cls).toList := by rw [endsOf, if_pos h38]
  rw [hends] at he hF heb
  generalize hp : (followC nm kind cls (groupN l)).2.2 = p at *
  obtain ⟨w4, hw4⟩ : ∃ w4, w4 = w := ⟨w, rfl⟩
  rw [← hw4] at hs3 hc he
  have hH4 : Hp w0 w4 [(g0_0, .cells (queV nm kind cls).toArray 49 (0, 0))] := by rw [hw4]; exact hH
  have hq := own_agg (i := 0) hH4 rfl
  replace hH : Hp w4 w [] := by rw [hw4]; exact Hp.refl _
  clear hw4
  have hsd := findS_all (n := p) (kind := kind) (cls := cls) hgb.data (by decide)
  refine wp_skip ?_
  refine k2 ?_
  refine c_sr fun ops => ?_
  refine zm 2 hF rfl fun a hF => ?_
  refine zl hF rfl (r_fieldaddr0 hF rfl rfl fd49_1) fun a hF => ?_
  refine zl hF rfl (r_load hF rfl rfl fl23 (hH.cell (hq 1 _ rfl))) fun a hF => ?_
  refine zl hF rfl (r_fieldaddr0 hF rfl rfl fd49_2) fun a hF => ?_
  refine zl hF rfl (r_load hF rfl rfl fl23 (hH.cell (hq 2 _ rfl))) fun a hF => ?_
  refine zc hF rfl rfl fn18 (find_spec (groupN l) v3 p kind cls _ (hs3.ext hH.below) hgb.len hat hgb.name hgb.data) ?_
  rintro _ w ⟨dv, Bs, rfl, hB, hSs⟩ a hF
  replace hH := hH.join hB
  refine zm 3 hF rfl fun a hF => ?_
  refine ls_alloc hF hH rfl rfl rfl rfl zv27 ?_
  intro a w g7_10 hH hE hF
  refine ls_storeagg 0 hF hH rfl rfl rfl rfl rfl ti27 rfl (rfl) (rfl) (by have := hSs.shape; obtain ⟨_, _, rfl⟩ := this; simp [setV, cells_agg, Value.oneCell']) ?_
  intro w hH
  simp only [List.set_cons_zero] at hH
  refine zm 1 hF rfl fun a hF => ?_
  refine c_n ?_
  replace hF := hF.sel [2, 5, 6, 7, 8, 10, 11]
  simp only [ss, Nat.reduceBEq] at hF
  refine c_sr fun ops => ?_
  refine zm 2 hF rfl fun a hF => ?_
  refine zl hF rfl (r_fieldaddr0 hF rfl rfl fd49_2) fun a hF => ?_
  refine zl hF rfl (r_load hF rfl rfl fl23 (hH.cell (hq 2 _ rfl))) fun a hF => ?_
  refine zc hF rfl rfl fn18 (findR_spec (groupN l) v3 p 5 cls _ (hs3.ext hH.below) hgb hat) ?_
  rintro _ w ⟨⟨dv2, rfl, hdv2⟩, hE⟩ a hF
  replace hH := hH.ext hE
  refine zm 3 hF rfl fun a hF => ?_
  refine ls_alloc hF hH rfl rfl rfl rfl zv27 ?_
  intro a w g8_8 hH hE hF
  refine ls_storeagg 0 hF hH rfl rfl rfl rfl rfl ti27 rfl (rfl) (rfl) (by have := hdv2.shape; obtain ⟨_, _, rfl⟩ := this; simp [setV, cells_agg, Value.oneCell']) ?_
  intro w hH
  refine zm 1 hF rfl fun a hF => ?_
  refine c_n ?_
  replace hF := hF.sel [2, 6, 7, 8, 10, 11, 13]
  simp only [ss, Nat.reduceBEq] at hF
  replace hH := hH.drop
  refine c_seq fun Q3 k3 t3 => ?_
  refine c_seq fun Q4 k4 t4 => ?_
  refine q_reg (by kernel_rfl) (by kernel_rfl) ?_
  refine qs hF rfl rfl rfl (fun w hw => r_move hF rfl rfl) fun a hF => ?_
  refine qs hF rfl rfl rfl (fun w hw => r_move hF rfl rfl) fun a hF => ?_
  refine qs hF rfl rfl rfl (fun w hw => r_len_sl hF rfl rfl Tryz.underlying22) fun a hF => ?_
  refine qs hF rfl rfl rfl (fun w hw => zr hF rfl rfl (b_eqn _ _ _ 1)) fun a hF => ?_
  refine qs hF rfl rfl rfl (fun w hw => zr hF rfl rfl (b_bne _ _ _ Tryz.underlying4)) fun a hF => ?_
  refine qs hF rfl rfl rfl (fun w hw => r_move hF rfl rfl) fun a hF => ?_
  refine q_ask (d := 69) hF rfl (fun g9_5 => ?_) (fun g9_5 => ?_)
  ·
   have g9_5' := g9_5; try simp only [qq] at g9_5'
   exfalso
   cases hf : findS (groupN l) p kind cls <;> rw [hf] at g9_5 <;> simp at g9_5
  have g9_5' := g9_5; try simp only [qq] at g9_5'
  refine qsy hF rfl rfl rfl g9_5 rfl rfl (fun w hw => r_move hF rfl rfl) fun a hF => ?_
  refine qsy hF rfl rfl rfl g9_5 rfl rfl (fun w hw => r_move hF rfl rfl) fun a hF => ?_
  refine q_ask (d := 71) hF rfl (fun g9_7 => ?_) (fun g9_7 => ?_)
  ·
   have g9_7' := g9_7; try simp only [qq] at g9_7'
   obtain ⟨s, hs⟩ := Option.isSome_iff_exists.1 g9_7'
   rw [hs] at he hF hSs hH hsd g9_7 g9_5
   simp only [Option.getD_some] at hF hSs hH hsd
   obtain ⟨b1, off1, dv1, rfl, hset1, hdv1⟩ := he.at (i := 0) (by simp)
   refine qsy hF rfl rfl rfl g9_7 rfl rfl (fun w hw => r_loadagg hF rfl rfl Tryz.underlying27 ti27 rfl (own_agg (i := 0) (hH.ext hw) rfl)) fun a hF => ?_
   refine qsy hF rfl rfl rfl g9_7 rfl rfl (fun w hw => r_move hF rfl rfl) fun a hF => ?_
   refine qsy hF rfl rfl rfl g9_7 rfl rfl (fun w hw => r_indexaddr hF 0 rfl rfl rfl Tryz.underlying22 ti27 (by simp)) fun a hF => ?_
   refine qsy hF rfl rfl rfl g9_7 rfl rfl (fun w hw => r_loadagg hF rfl rfl Tryz.underlying27 ti27 rfl (fun j u hu => (hH.ext hw).cell (hset1 j u hu))) fun a hF => ?_
   refine qsy_call hF rfl rfl rfl g9_7 rfl rfl rfl rfl fn21 (fun w hw => same_yes s (hSs.rsl (hH.ext hw) (fun p hp => List.mem_cons_of_mem _ (List.mem_append_left _ hp))) (hdv1.ext (hH.below.trans hw)) hsd) fun a hF => ?_
   refine qsy hF rfl rfl rfl g9_7 rfl rfl (fun w hw => r_not hF rfl rfl) fun a hF => ?_
   refine qsy hF rfl rfl rfl g9_5 rfl rfl (fun w hw => r_pickt hF rfl rfl g9_7 rfl) fun a hF => ?_
   refine qs hF rfl rfl rfl (fun w hw => r_pickf hF rfl rfl g9_5 rfl) fun a hF => ?_
   refine qs hF rfl rfl rfl (fun w hw => r_move hF rfl rfl) fun a hF => ?_
   refine q_ask (d := 80) hF rfl (fun g9_16 => ?_) (fun g9_16 => ?_)
   ·
    have g9_16' := g9_16; try simp only [qq] at g9_16'
    cases g9_16
   have g9_16' := g9_16; try simp only [qq] at g9_16'
   refine qsy hF rfl rfl rfl g9_16 rfl rfl (fun w hw => r_move hF rfl rfl) fun a hF => ?_
   refine qsy hF rfl rfl rfl g9_16 rfl rfl (fun w hw => r_move hF rfl rfl) fun a hF => ?_
   refine q_ask (d := 82) hF rfl (fun g9_18 => ?_) (fun g9_18 => ?_)
   ·
    have g9_18' := g9_18; try simp only [qq] at g9_18'
    refine qsy hF rfl rfl rfl g9_18 rfl rfl (fun w hw => r_fieldaddr0 hF rfl rfl fd49_1) fun a hF => ?_
    refine qsy hF rfl rfl rfl g9_18 rfl rfl (fun w hw => r_load hF rfl rfl fl23 (hw.cell (hH.cell (hq 1 _ rfl)))) fun a hF => ?_
    refine qsy hF rfl rfl rfl g9_18 rfl rfl (fun w hw => zr hF rfl rfl (b_nen _ _ _ 5)) fun a hF => ?_
    refine qsy hF rfl rfl rfl g9_16 rfl rfl (fun w hw => r_pickt hF rfl rfl g9_18 rfl) fun a hF => ?_
    refine qs hF rfl rfl rfl (fun w hw => r_pickf hF rfl rfl g9_16 rfl) fun a hF => ?_
    refine q_nil fun w hE => ?_
    replace hH := hH.ext hE
    replace hF := hF.sel [2, 6, 7, 87]
    simp only [ss, Nat.reduceBEq] at hF
    refine k4 ?_
    refine c_if hF rfl (fun h87 => ?_) (fun h87 => ?_)
    ·
     try simp only [qq] at h87
     exfalso; simp_all
    try simp only [qq] at h87
    refine wp_skip ?_
    refine k3 ?_
    refine c_sg ?_
    refine zl hF rfl (r_fieldaddr0 hF rfl rfl fd49_1) fun a hF => ?_
    refine zl hF rfl (r_load hF rfl rfl fl23 (hH.cell (hq 1 _ rfl))) fun a hF => ?_
    refine zb hF rfl rfl rfl (b_nen _ _ _ 5) fun a hF => ?_
    refine zm 1 hF rfl fun a hF => ?_
    refine ls_ask (d := 91) hF rfl (fun g11_3 => ?_) (fun g11_3 => ?_)
    ·
     have g11_3' := g11_3; try simp only [qq] at g11_3'
     refine zn hF rfl g11_3 fun a hF => ?_
     refine zn hF rfl g11_3 fun a hF => ?_
     refine zn hF rfl g11_3 fun a hF => ?_
     refine zn hF rfl g11_3 fun a hF => ?_
     refine lsu hF rfl rfl rfl rfl rfl fun a hF => ?_
     refine lsu hF rfl rfl rfl rfl rfl fun a hF => ?_
     refine lsu hF rfl rfl rfl rfl rfl fun a hF => ?_
     refine lsu hF rfl rfl rfl rfl rfl fun a hF => ?_
     refine lsu hF rfl rfl rfl rfl rfl fun a hF => ?_
     refine zn hF rfl g11_3 fun a hF => ?_
     refine zl hF rfl (r_pickt hF rfl rfl g11_3 rfl) fun a hF => ?_
     refine zm 1 hF rfl fun a hF => ?_
     refine c_n ?_
     replace hF := hF.sel [4]
     simp only [ss, Nat.reduceBEq] at hF
     refine wp_ret (hret (ret1 hF Tryz.results9 rfl ?_))
     refine ⟨?_, hH4.below.trans hH.below⟩
     first
       | rfl
       | exact congrArg Value.bool (decide_eq_true h5'.2)
    have g11_3' := g11_3; try simp only [qq] at g11_3'
    have h5' := h5 g11_3'
    refine zy hF rfl g11_3 (r_move hF rfl rfl) fun a hF => ?_
    refine zy hF rfl g11_3 (r_len_sl hF rfl rfl Tryz.underlying22) fun a hF => ?_
    refine zy hF rfl g11_3 (zr hF rfl rfl (b_eqn _ _ _ 0)) fun a hF => ?_
    refine zy hF rfl g11_3 (r_move hF rfl rfl) fun a hF => ?_
    refine l_ask (d := 95) hF rfl (fun g11_7 => ?_) (fun g11_7 => ?_)
    ·
     have g11_7' := g11_7; try simp only [qq] at g11_7'
     exact absurd (by rw [h5'.1]; rfl) g11_7'
    have g11_7' := g11_7; try simp only [qq] at g11_7'
    refine zy hF rfl g11_7 (r_move hF rfl rfl) fun a hF => ?_
    refine zy hF rfl g11_7 (r_fieldaddr0 hF rfl rfl fd49_0) fun a hF => ?_
    refine zy hF rfl g11_7 (r_load hF rfl rfl fl9 (hH.cell (hq 0 _ rfl))) fun a hF => ?_
    refine zyc hF rfl g11_7 rfl fn37 (fold_spec _ (by omega) _) ?_
    rintro _ w ⟨rfl, hE⟩ a hF
    replace hH := hH.ext hE
    refine zy hF rfl g11_7 (zr hF rfl rfl (b_seq _ _ _)) fun a hF => ?_
    refine zy hF rfl g11_3 (r_pickt hF rfl rfl g11_7 rfl) fun a hF => ?_
    refine zl hF rfl (r_pickf hF rfl rfl g11_3 rfl) fun a hF => ?_
    refine zm 1 hF rfl fun a hF => ?_
    refine c_n ?_
    replace hF := hF.sel [4]
    simp only [ss, Nat.reduceBEq] at hF
    refine wp_ret (hret (ret1 hF Tryz.results9 rfl ?_))
    refine ⟨?_, hH4.below.trans hH.below⟩
    first
      | rfl
      | exact congrArg Value.bool (decide_eq_true h5'.2)
   have g9_18' := g9_18; try simp only [qq] at g9_18'
   refine qsn hF rfl rfl rfl g9_18 rfl rfl fun a hF => ?_
   refine qsn hF rfl rfl rfl g9_18 rfl rfl fun a hF => ?_
   refine qsn hF rfl rfl rfl g9_18 rfl rfl fun a hF => ?_
   refine qsy hF rfl rfl rfl g9_16 rfl rfl (fun w hw => r_pickf hF rfl rfl g9_18 rfl) fun a hF => ?_
   refine qs hF rfl rfl rfl (fun w hw => r_pickf hF rfl rfl g9_16 rfl) fun a hF => ?_
   refine q_nil fun w hE => ?_
   replace hH := hH.ext hE
   replace hF := hF.sel [2, 6, 7, 87]
   simp only [ss, Nat.reduceBEq] at hF
   refine k4 ?_
   refine c_no hF rfl rfl ?_
   refine wp_skip ?_
   refine k3 ?_
   refine c_sg ?_
   refine zl hF rfl (r_fieldaddr0 hF rfl rfl fd49_1) fun a hF => ?_
   refine zl hF rfl (r_load hF rfl rfl fl23 (hH.cell (hq 1 _ rfl))) fun a hF => ?_
   refine zb hF rfl rfl rfl (b_nen _ _ _ 5) fun a hF => ?_
   refine zm 1 hF rfl fun a hF => ?_
   refine ls_ask (d := 91) hF rfl (fun g11_3 => ?_) (fun g11_3 => ?_)
   ·
    have g11_3' := g11_3; try simp only [qq] at g11_3'
    refine zn hF rfl g11_3 fun a hF => ?_
    refine zn hF rfl g11_3 fun a hF => ?_
    refine zn hF rfl g11_3 fun a hF => ?_
    refine zn hF rfl g11_3 fun a hF => ?_
    refine lsu hF rfl rfl rfl rfl rfl fun a hF => ?_
    refine lsu hF rfl rfl rfl rfl rfl fun a hF => ?_
    refine lsu hF rfl rfl rfl rfl rfl fun a hF => ?_
    refine lsu hF rfl rfl rfl rfl rfl fun a hF => ?_
    refine lsu hF rfl rfl rfl rfl rfl fun a hF => ?_
    refine zn hF rfl g11_3 fun a hF => ?_
    refine zl hF rfl (r_pickt hF rfl rfl g11_3 rfl) fun a hF => ?_
    refine zm 1 hF rfl fun a hF => ?_
    refine c_n ?_
    replace hF := hF.sel [4]
    simp only [ss, Nat.reduceBEq] at hF
    refine wp_ret (hret (ret1 hF Tryz.results9 rfl ?_))
    refine ⟨?_, hH4.below.trans hH.below⟩
    first
      | rfl
      | exact congrArg Value.bool (decide_eq_true h5'.2)
   have g11_3' := g11_3; try simp only [qq] at g11_3'
   have h5' := h5 g11_3'
   refine zy hF rfl g11_3 (r_move hF rfl rfl) fun a hF => ?_
   refine zy hF rfl g11_3 (r_len_sl hF rfl rfl Tryz.underlying22) fun a hF => ?_
   refine zy hF rfl g11_3 (zr hF rfl rfl (b_eqn _ _ _ 0)) fun a hF => ?_
   refine zy hF rfl g11_3 (r_move hF rfl rfl) fun a hF => ?_
   refine l_ask (d := 95) hF rfl (fun g11_7 => ?_) (fun g11_7 => ?_)
   ·
    have g11_7' := g11_7; try simp only [qq] at g11_7'
    exact absurd (by rw [h5'.1]; rfl) g11_7'
   have g11_7' := g11_7; try simp only [qq] at g11_7'
   refine zy hF rfl g11_7 (r_move hF rfl rfl) fun a hF => ?_
   refine zy hF rfl g11_7 (r_fieldaddr0 hF rfl rfl fd49_0) fun a hF => ?_
   refine zy hF rfl g11_7 (r_load hF rfl rfl fl9 (hH.cell (hq 0 _ rfl))) fun a hF => ?_
   refine zyc hF rfl g11_7 rfl fn37 (fold_spec _ (by omega) _) ?_
   rintro _ w ⟨rfl, hE⟩ a hF
   replace hH := hH.ext hE
   refine zy hF rfl g11_7 (zr hF rfl rfl (b_seq _ _ _)) fun a hF => ?_
   refine zy hF rfl g11_3 (r_pickt hF rfl rfl g11_7 rfl) fun a hF => ?_
   refine zl hF rfl (r_pickf hF rfl rfl g11_3 rfl) fun a hF => ?_
   refine zm 1 hF rfl fun a hF => ?_
   refine c_n ?_
   replace hF := hF.sel [4]
   simp only [ss, Nat.reduceBEq] at hF
   refine wp_ret (hret (ret1 hF Tryz.results9 rfl ?_))
   refine ⟨?_, hH4.below.trans hH.below⟩
   first
     | rfl
     | exact congrArg Value.bool (decide_eq_true h5'.2)
  have g9_7' := g9_7; try simp only [qq] at g9_7'
  refine qsn hF rfl rfl rfl g9_7 rfl rfl fun a hF => ?_
  refine qsn hF rfl rfl rfl g9_7 rfl rfl fun a hF => ?_
  refine qsn hF rfl rfl rfl g9_7 rfl rfl fun a hF => ?_
  refine qsn hF rfl rfl rfl g9_7 rfl rfl fun a hF => ?_
  refine qsn hF rfl rfl rfl g9_7 rfl rfl fun a hF => ?_
  refine qsn hF rfl rfl rfl g9_7 rfl rfl fun a hF => ?_
  refine qsy hF rfl rfl rfl g9_5 rfl rfl (fun w hw => r_pickf hF rfl rfl g9_7 rfl) fun a hF => ?_
  refine qs hF rfl rfl rfl (fun w hw => r_pickf hF rfl rfl g9_5 rfl) fun a hF => ?_
  refine qs hF rfl rfl rfl (fun w hw => r_move hF rfl rfl) fun a hF => ?_
  refine qsy hF rfl rfl rfl rfl rfl rfl (fun w hw => r_move hF rfl rfl) fun a hF => ?_
  refine qsy hF rfl rfl rfl rfl rfl rfl (fun w hw => r_move hF rfl rfl) fun a hF => ?_
  refine q_ask (d := 82) hF rfl (fun g9_18 => ?_) (fun g9_18 => ?_)
  ·
   have g9_18' := g9_18; try simp only [qq] at g9_18'
   refine qsy hF rfl rfl rfl g9_18 rfl rfl (fun w hw => r_fieldaddr0 hF rfl rfl fd49_1) fun a hF => ?_
   refine qsy hF rfl rfl rfl g9_18 rfl rfl (fun w hw => r_load hF rfl rfl fl23 (hw.cell (hH.cell (hq 1 _ rfl)))) fun a hF => ?_
   refine qsy hF rfl rfl rfl g9_18 rfl rfl (fun w hw => zr hF rfl rfl (b_nen _ _ _ 5)) fun a hF => ?_
   refine qsy hF rfl rfl rfl rfl rfl rfl (fun w hw => r_pickt hF rfl rfl g9_18 rfl) fun a hF => ?_
   refine qs hF rfl rfl rfl (fun w hw => r_pickf hF rfl rfl rfl rfl) fun a hF => ?_
   refine q_nil fun w hE => ?_
   replace hH := hH.ext hE
   replace hF := hF.sel [2, 6, 7, 87]
   simp only [ss, Nat.reduceBEq] at hF
   refine k4 ?_
   refine c_if hF rfl (fun h87 => ?_) (fun h87 => ?_)
   ·
    try simp only [qq] at h87
    exfalso; simp_all
   try simp only [qq] at h87
   refine wp_skip ?_
   refine k3 ?_
   refine c_sg ?_
   refine zl hF rfl (r_fieldaddr0 hF rfl rfl fd49_1) fun a hF => ?_
   refine zl hF rfl (r_load hF rfl rfl fl23 (hH.cell (hq 1 _ rfl))) fun a hF => ?_
   refine zb hF rfl rfl rfl (b_nen _ _ _ 5) fun a hF => ?_
   refine zm 1 hF rfl fun a hF => ?_
   refine ls_ask (d := 91) hF rfl (fun g11_3 => ?_) (fun g11_3 => ?_)
   ·
    have g11_3' := g11_3; try simp only [qq] at g11_3'
    refine zn hF rfl g11_3 fun a hF => ?_
    refine zn hF rfl g11_3 fun a hF => ?_
    refine zn hF rfl g11_3 fun a hF => ?_
    refine zn hF rfl g11_3 fun a hF => ?_
    refine lsu hF rfl rfl rfl rfl rfl fun a hF => ?_
    refine lsu hF rfl rfl rfl rfl rfl fun a hF => ?_
    refine lsu hF rfl rfl rfl rfl rfl fun a hF => ?_
    refine lsu hF rfl rfl rfl rfl rfl fun a hF => ?_
    refine lsu hF rfl rfl rfl rfl rfl fun a hF => ?_
    refine zn hF rfl g11_3 fun a hF => ?_
    refine zl hF rfl (r_pickt hF rfl rfl g11_3 rfl) fun a hF => ?_
    refine zm 1 hF rfl fun a hF => ?_
    refine c_n ?_
    replace hF := hF.sel [4]
    simp only [ss, Nat.reduceBEq] at hF
    refine wp_ret (hret (ret1 hF Tryz.results9 rfl ?_))
    refine ⟨?_, hH4.below.trans hH.below⟩
    first
      | rfl
      | exact congrArg Value.bool (decide_eq_true h5'.2)
   have g11_3' := g11_3; try simp only [qq] at g11_3'
   have h5' := h5 g11_3'
   refine zy hF rfl g11_3 (r_move hF rfl rfl) fun a hF => ?_
   refine zy hF rfl g11_3 (r_len_sl hF rfl rfl Tryz.underlying22) fun a hF => ?_
   refine zy hF rfl g11_3 (zr hF rfl rfl (b_eqn _ _ _ 0)) fun a hF => ?_
   refine zy hF rfl g11_3 (r_move hF rfl rfl) fun a hF => ?_
   refine l_ask (d := 95) hF rfl (fun g11_7 => ?_) (fun g11_7 => ?_)
   ·
    have g11_7' := g11_7; try simp only [qq] at g11_7'
    exact absurd (by rw [h5'.1]; rfl) g11_7'
   have g11_7' := g11_7; try simp only [qq] at g11_7'
   refine zy hF rfl g11_7 (r_move hF rfl rfl) fun a hF => ?_
   refine zy hF rfl g11_7 (r_fieldaddr0 hF rfl rfl fd49_0) fun a hF => ?_
   refine zy hF rfl g11_7 (r_load hF rfl rfl fl9 (hH.cell (hq 0 _ rfl))) fun a hF => ?_
   refine zyc hF rfl g11_7 rfl fn37 (fold_spec _ (by omega) _) ?_
   rintro _ w ⟨rfl, hE⟩ a hF
   replace hH := hH.ext hE
   refine zy hF rfl g11_7 (zr hF rfl rfl (b_seq _ _ _)) fun a hF => ?_
   refine zy hF rfl g11_3 (r_pickt hF rfl rfl g11_7 rfl) fun a hF => ?_
   refine zl hF rfl (r_pickf hF rfl rfl g11_3 rfl) fun a hF => ?_
   refine zm 1 hF rfl fun a hF => ?_
   refine c_n ?_
   replace hF := hF.sel [4]
   simp only [ss, Nat.reduceBEq] at hF
   refine wp_ret (hret (ret1 hF Tryz.results9 rfl ?_))
   refine ⟨?_, hH4.below.trans hH.below⟩
   first
     | rfl
     | exact congrArg Value.bool (decide_eq_true h5'.2)
  have g9_18' := g9_18; try simp only [qq] at g9_18'
  refine qsn hF rfl rfl rfl g9_18 rfl rfl fun a hF => ?_
  refine qsn hF rfl rfl rfl g9_18 rfl rfl fun a hF => ?_
  refine qsn hF rfl rfl rfl g9_18 rfl rfl fun a hF => ?_
  refine qsy hF rfl rfl rfl rfl rfl rfl (fun w hw => r_pickf hF rfl rfl g9_18 rfl) fun a hF => ?_
  refine qs hF rfl rfl rfl (fun w hw => r_pickf hF rfl rfl rfl rfl) fun a hF => ?_
  refine q_nil fun w hE => ?_
  replace hH := hH.ext hE
  replace hF := hF.sel [2, 6, 7, 87]
  simp only [ss, Nat.reduceBEq] at hF
  refine k4 ?_
  refine c_no hF rfl rfl ?_
  refine wp_skip ?_
  refine k3 ?_
  refine c_sg ?_
  refine zl hF rfl (r_fieldaddr0 hF rfl rfl fd49_1) fun a hF => ?_
  refine zl hF rfl (r_load hF rfl rfl fl23 (hH.cell (hq 1 _ rfl))) fun a hF => ?_
  refine zb hF rfl rfl rfl (b_nen _ _ _ 5) fun a hF => ?_
  refine zm 1 hF rfl fun a hF => ?_
  refine ls_ask (d := 91) hF rfl (fun g11_3 => ?_) (fun g11_3 => ?_)
  ·
   have g11_3' := g11_3; try simp only [qq] at g11_3'
   refine zn hF rfl g11_3 fun a hF => ?_
   refine zn hF rfl g11_3 fun a hF => ?_
   refine zn hF rfl g11_3 fun a hF => ?_
   refine zn hF rfl g11_3 fun a hF => ?_
   refine lsu hF rfl rfl rfl rfl rfl fun a hF => ?_
   refine lsu hF rfl rfl rfl rfl rfl fun a hF => ?_
   refine lsu hF rfl rfl rfl rfl rfl fun a hF => ?_
   refine lsu hF rfl rfl rfl rfl rfl fun a hF => ?_
   refine lsu hF rfl rfl rfl rfl rfl fun a hF => ?_
   refine zn hF rfl g11_3 fun a hF => ?_
   refine zl hF rfl (r_pickt hF rfl rfl g11_3 rfl) fun a hF => ?_
   refine zm 1 hF rfl fun a hF => ?_
   refine c_n ?_
   replace hF := hF.sel [4]
   simp only [ss, Nat.reduceBEq] at hF
   refine wp_ret (hret (ret1 hF Tryz.results9 rfl ?_))
   refine ⟨?_, hH4.below.trans hH.below⟩
   first
     | rfl
     | exact congrArg Value.bool (decide_eq_true h5'.2)
  have g11_3' := g11_3; try simp only [qq] at g11_3'
  have h5' := h5 g11_3'
  refine zy hF rfl g11_3 (r_move hF rfl rfl) fun a hF => ?_
  refine zy hF rfl g11_3 (r_len_sl hF rfl rfl Tryz.underlying22) fun a hF => ?_
  refine zy hF rfl g11_3 (zr hF rfl rfl (b_eqn _ _ _ 0)) fun a hF => ?_
  refine zy hF rfl g11_3 (r_move hF rfl rfl) fun a hF => ?_
  refine l_ask (d := 95) hF rfl (fun g11_7 => ?_) (fun g11_7 => ?_)
  ·
   have g11_7' := g11_7; try simp only [qq] at g11_7'
   exact absurd (by rw [h5'.1]; rfl) g11_7'
  have g11_7' := g11_7; try simp only [qq] at g11_7'
  refine zy hF rfl g11_7 (r_move hF rfl rfl) fun a hF => ?_
  refine zy hF rfl g11_7 (r_fieldaddr0 hF rfl rfl fd49_0) fun a hF => ?_
  refine zy hF rfl g11_7 (r_load hF rfl rfl fl9 (hH.cell (hq 0 _ rfl))) fun a hF => ?_
  refine zyc hF rfl g11_7 rfl fn37 (fold_spec _ (by omega) _) ?_
  rintro _ w ⟨rfl, hE⟩ a hF
  replace hH := hH.ext hE
  refine zy hF rfl g11_7 (zr hF rfl rfl (b_seq _ _ _)) fun a hF => ?_
  refine zy hF rfl g11_3 (r_pickt hF rfl rfl g11_7 rfl) fun a hF => ?_
  refine zl hF rfl (r_pickf hF rfl rfl g11_3 rfl) fun a hF => ?_
  refine zm 1 hF rfl fun a hF => ?_
  refine c_n ?_
  replace hF := hF.sel [4]
  simp only [ss, Nat.reduceBEq] at hF
  refine wp_ret (hret (ret1 hF Tryz.results9 rfl ?_))
  refine ⟨?_, hH4.below.trans hH.below⟩
  first
    | rfl
    | exact congrArg Value.bool (decide_eq_true h5'.2)
theorem chainWay_spec (nm : Bs) (kind cls : Nat) (l : List Rec) (v : Value) (w0 : World) (hR : RSl w0 5 v l.length (recsV l)) (hG : GW w0) :
    Rets Tryz.prog 8 [.agg (queV nm kind cls).toArray, v] w0 fun r w' => r = .bool true ∧ Ext w0 w' := by
  have hH := Hp.refl w0
  refine rets_start Tryz.func8 rfl Tryz.ntmps8 rfl fun a Q0 hF hret hend => ?_
  simp only [argsFrom, Nat.zero_add, Nat.reduceAdd] at hF
  refine c_sr fun ops => ?_
  refine ls_box hF hH rfl rfl rfl rfl rfl ?_
  intro a w g0_0 hH hE hF
  refine zm 1 hF rfl fun a hF => ?_
  refine c_n ?_
  replace hF := hF.sel [1, 2]
  simp only [ss, Nat.reduceBEq] at hF
  refine c_seq fun Q1 k1 t1 => ?_
  simp only [cells_agg] at hH
  refine c_sg ?_
  refine zm 1 hF rfl fun a hF => ?_
  refine zc hF rfl rfl fn34 (large9_spec l v _ (hR.ext hH.below)) ?_
  rintro _ w ⟨⟨b, rfl, hlg⟩, hE⟩ a hF
  replace hH := hH.ext hE
  refine zm 1 hF rfl fun a hF => ?_
  refine ls_ask (d := 18) hF rfl (fun g1_2 => ?_) (fun g1_2 => ?_)
  ·
   have g1_2' := g1_2; try simp only [qq] at g1_2'
   refine zn hF rfl g1_2 fun a hF => ?_
   refine zn hF rfl g1_2 fun a hF => ?_
   refine zn hF rfl g1_2 fun a hF => ?_
   refine zn hF rfl g1_2 fun a hF => ?_
   refine zl hF rfl (r_pickt hF rfl rfl g1_2 rfl) fun a hF => ?_
   refine zm 1 hF rfl fun a hF => ?_
   refine zn hF rfl rfl fun a hF => ?_
   refine zn hF rfl rfl fun a hF => ?_
   refine zl hF rfl (r_pickt hF rfl rfl rfl rfl) fun a hF => ?_
   refine c_n ?_
   replace hF := hF.sel [1, 2, 27]
   simp only [ss, Nat.reduceBEq] at hF
   refine c_yes hF rfl rfl ?_
   refine c_sr fun ops => ?_
   refine zc hF rfl rfl fn35 (awake9_spec _ (hG.ext hH.below)) ?_
   rintro _ w ⟨rfl, hE⟩ a hF
   replace hH := hH.ext hE
   refine zm 1 hF rfl fun a hF => ?_
   refine c_n ?_
   replace hF := hF.sel [4]
   simp only [ss, Nat.reduceBEq] at hF
   refine wp_ret (t1.ret (hret (ret1 hF Tryz.results8 rfl ?_)))
   exact ⟨rfl, hH.below⟩
  have g1_2' := g1_2; try simp only [qq] at g1_2'
  refine zy hF rfl g1_2 (r_fieldaddr0 hF rfl rfl fd49_0) fun a hF => ?_
  refine zy hF rfl g1_2 (r_load hF rfl rfl fl9 (own_cell (i := 0) hH rfl rfl)) fun a hF => ?_
  refine zy hF rfl g1_2 (r_len_str hF rfl rfl Tryz.underlying9) fun a hF => ?_
  refine zy hF rfl g1_2 (zr hF rfl rfl (b_gtn _ _ _ 1000)) fun a hF => ?_
  refine zl hF rfl (r_pickf hF rfl rfl g1_2 rfl) fun a hF => ?_
  refine zm 1 hF rfl fun a hF => ?_
  refine ls_ask (d := 24) hF rfl (fun g1_8 => ?_) (fun g1_8 => ?_)
  ·
   have g1_8' := g1_8; try simp only [qq] at g1_8'
   refine zn hF rfl g1_8 fun a hF => ?_
   refine zn hF rfl g1_8 fun a hF => ?_
   refine zl hF rfl (r_pickt hF rfl rfl g1_8 rfl) fun a hF => ?_
   refine c_n ?_
   replace hF := hF.sel [1, 2, 27]
   simp only [ss, Nat.reduceBEq] at hF
   refine c_yes hF rfl rfl ?_
   refine c_sr fun ops => ?_
   refine zc hF rfl rfl fn35 (awake9_spec _ (hG.ext hH.below)) ?_
   rintro _ w ⟨rfl, hE⟩ a hF
   replace hH := hH.ext hE
   refine zm 1 hF rfl fun a hF => ?_
   refine c_n ?_
   replace hF := hF.sel [4]
   simp only [ss, Nat.reduceBEq] at hF
   refine wp_ret (t1.ret (hret (ret1 hF Tryz.results8 rfl ?_)))
   exact ⟨rfl, hH.below⟩
  have g1_8' := g1_8; try simp only [qq] at g1_8'
  refine zyc hF rfl g1_8 rfl fn35 (awake9_spec _ (hG.ext hH.below)) ?_
  rintro _ w ⟨rfl, hE⟩ a hF
  replace hH := hH.ext hE
  refine zy hF rfl g1_8 (r_not hF rfl rfl) fun a hF => ?_
  refine zl hF rfl (r_pickf hF rfl rfl g1_8 rfl) fun a hF => ?_
  refine c_n ?_
  replace hF := hF.sel [1, 2, 27]
  simp only [ss, Nat.reduceBEq] at hF
  refine c_if hF rfl (fun h27 => ?_) (fun h27 => ?_)
  ·
   try simp only [qq] at h27
   refine c_sr fun ops => ?_
   refine zc hF rfl rfl fn35 (awake9_spec _ (hG.ext hH.below)) ?_
   rintro _ w ⟨rfl, hE⟩ a hF
   replace hH := hH.ext hE
   refine zm 1 hF rfl fun a hF => ?_
   refine c_n ?_
   replace hF := hF.sel [4]
   simp only [ss, Nat.reduceBEq] at hF
   refine wp_ret (t1.ret (hret (ret1 hF Tryz.results8 rfl ?_)))
   exact ⟨rfl, hH.below⟩
  try simp only [qq] at h27
  have hRB := hlg g1_2'
  have hnl : nm.length ≤ 1000 := by omega
  have hgb := group_bounds hRB
  obtain ⟨hcb, heb⟩ := chain_bounds (nm := nm) (kind := kind) (cls := cls) hgb
  have hcm := followC_mem nm kind cls (groupN l)
  have hem := endsOf_mem (followC nm kind cls (groupN l)) kind cls (groupN l)
  refine wp_skip ?_
  refine k1 ?_
  refine c_sr fun ops => ?_
  refine zm 1 hF rfl fun a hF => ?_
  refine zc hF rfl rfl fn26 (groupR_spec l v _ (hR.ext hH.below) hRB (hG.ext hH.below)) ?_
  rintro v3 w ⟨hs3, hE⟩ a hF
  replace hH := hH.ext hE
  refine zm 1 hF rfl fun a hF => ?_
  refine c_n ?_
  replace hF := hF.sel [2, 5]
  simp only [ss, Nat.reduceBEq] at hF
  refine c_sr fun ops => ?_
  refine zl hF rfl (r_loadagg hF rfl rfl Tryz.underlying49 ti49 rfl (own_agg (i := 0) hH rfl)) fun a hF => ?_
  refine zm 1 hF rfl fun a hF => ?_
  refine zc hF rfl rfl fn36 (followR_spec nm kind cls (groupN l) v3 _ hs3 hgb (by omega) (hG.ext hH.below)) ?_
  rintro _ w ⟨⟨cv, ev, rfl, hc, he⟩, hE⟩ a hF
  replace hH := hH.ext hE
  refine zm 9 hF rfl fun a hF => ?_
  refine c_n ?_
  replace hF := hF.sel [2, 5, 6, 7, 8, 9]
  simp only [ss, Nat.reduceBEq] at hF
  replace hs3 := hs3.ext hE
  obtain ⟨cad, ccp, rfl⟩ := hc.shape'
  obtain ⟨ead, ecp, rfl⟩ := he.shape'
  refine c_seq fun Q2 k2 t2 => ?_
  refine c_sr fun ops => ?_
  refine zm 1 hF rfl fun a hF => ?_
  refine zb hF rfl rfl rfl (b_nen _ _ _ 0) fun a hF => ?_
  refine c_n ?_
  replace hF := hF.sel [2, 5, 6, 7, 8, 40]
  simp only [ss, Nat.reduceBEq] at hF
  refine c_if hF rfl (fun h40 => ?_) (fun h40 => ?_)
  ·
   try simp only [qq] at h40
   obtain ⟨h2, h3, -⟩ := followC_err h40
   refine c_sg ?_
   refine zm 1 hF rfl fun a hF => ?_
   refine zl hF rfl (r_len_sl hF rfl rfl Tryz.underlying22) fun a hF => ?_
   refine zb hF rfl rfl rfl (b_eqn _ _ _ 0) fun a hF => ?_
   refine zm 1 hF rfl fun a hF => ?_
   refine l_ask (d := 44) hF rfl (fun g6_3 => ?_) (fun g6_3 => ?_)
   ·
    have g6_3' := g6_3; try simp only [qq] at g6_3'
    exact absurd (by rw [h2]; rfl) g6_3'
   have g6_3' := g6_3; try simp only [qq] at g6_3'
   refine zy hF rfl g6_3 (r_move hF rfl rfl) fun a hF => ?_
   refine zy hF rfl g6_3 (zr hF rfl rfl (b_seq _ _ [])) fun a hF => ?_
   refine zl hF rfl (r_pickt hF rfl rfl g6_3 rfl) fun a hF => ?_
   refine zm 1 hF rfl fun a hF => ?_
   refine l_ask (d := 48) hF rfl (fun g6_7 => ?_) (fun g6_7 => ?_)
   ·
    have g6_7' := g6_7; try simp only [qq] at g6_7'
    exact absurd (by rw [h2]) g6_7'
   have g6_7' := g6_7; try simp only [qq] at g6_7'
   refine zy hF rfl g6_7 (r_move hF rfl rfl) fun a hF => ?_
   refine zy hF rfl g6_7 (r_len_sl hF rfl rfl Tryz.underlying22) fun a hF => ?_
   refine zy hF rfl g6_7 (zr hF rfl rfl (b_eqn _ _ _ 0)) fun a hF => ?_
   refine zl hF rfl (r_pickt hF rfl rfl g6_7 rfl) fun a hF => ?_
   refine zm 1 hF rfl fun a hF => ?_
   refine c_n ?_
   replace hF := hF.sel [4]
   simp only [ss, Nat.reduceBEq] at hF
   refine wp_ret (t2.ret (hret (ret1 hF Tryz.results8 rfl ?_)))
   exact ⟨congrArg Value.bool (decide_eq_true (by rw [h3]; rfl)), hH.below⟩
  try simp only [qq] at h40
  obtain ⟨hmn, hway, -, -⟩ := followC_way h40
  obtain ⟨w4, hw4⟩ : ∃ w4, w4 = w := ⟨w, rfl⟩
  rw [← hw4] at hs3 hc he
  have hH4 : Hp w0 w4 [(g0_0, .cells (queV nm kind cls).toArray 49 (0, 0))] := by rw [hw4]; exact hH
  have hq := own_agg (i := 0) hH4 rfl
  replace hH : Hp w4 w [] := by rw [hw4]; exact Hp.refl _
  clear hw4
  generalize (followC nm kind cls (groupN l)).2.2 = q at *
  generalize (followC nm kind cls (groupN l)).2.1 = ch at *
  refine wp_skip ?_
  refine k2 ?_
  refine c_seq fun Q3 k3 t3 => ?_
  refine c_sg ?_
  refine zm 1 hF rfl fun a hF => ?_
  refine zl hF rfl (r_len_sl hF rfl rfl Tryz.underlying22) fun a hF => ?_
  refine zb hF rfl rfl rfl (b_gtn _ _ _ 8) fun a hF => ?_
  refine zm 1 hF rfl fun a hF => ?_
  refine ls_ask (d := 56) hF rfl (fun g7_3 => ?_) (fun g7_3 => ?_)
  ·
   have g7_3' := g7_3; try simp only [qq] at g7_3'
   omega
  have g7_3' := g7_3; try simp only [qq] at g7_3'
  refine zy hF rfl g7_3 (r_move hF rfl rfl) fun a hF => ?_
  refine zy hF rfl g7_3 (r_len_sl hF rfl rfl Tryz.underlying22) fun a hF => ?_
  refine zy hF rfl g7_3 (zr hF rfl rfl (b_gtn _ _ _ 1)) fun a hF => ?_
  refine zl hF rfl (r_pickf hF rfl rfl g7_3 rfl) fun a hF => ?_
  refine c_n ?_
  replace hF := hF.sel [2, 5, 6, 7, 60]
  simp only [ss, Nat.reduceBEq] at hF
  refine c_if hF rfl (fun h60 => ?_) (fun h60 => ?_)
  ·
   try simp only [qq] at h60
   omega
  try simp only [qq] at h60
  refine wp_skip ?_
  refine k3 ?_
  refine c_sr fun ops => ?_
  refine zl hF rfl (r_fieldaddr0 hF rfl rfl fd49_0) fun a hF => ?_
  refine zl hF rfl (r_load hF rfl rfl fl9 (hH.cell (hq 0 _ rfl))) fun a hF => ?_
  refine zc hF rfl rfl fn37 (fold_spec _ (by omega) _) ?_
  rintro _ w ⟨rfl, hE⟩ a hF
  replace hH := hH.ext hE
  refine zm 1 hF rfl fun a hF => ?_
  refine c_n ?_
  replace hF := hF.sel [2, 5, 6, 7, 10]
  simp only [ss, Nat.reduceBEq] at hF
  refine c_sr fun ops => ?_
  refine zm 1 hF rfl fun a hF => ?_
  refine ls_build1 hF hH rfl rfl rfl rfl rfl Tryz.underlying25 ti9 rfl (by decide) ?_
  intro a w g10_1 hH hE hF
  refine zm 1 hF rfl fun a hF => ?_
  refine c_n ?_
  replace hF := hF.sel [2, 5, 6, 7, 10, 11]
  simp only [ss, Nat.reduceBEq] at hF
  have hM : Sl 9 1 [(g10_1, .cells (Value.string (mk (fold nm))).cells 9 (0, 0))] (.slice (some ⟨g10_1, 0, none⟩) 1 1) 1 (strV [fold nm]) := ⟨rfl, .inr ⟨_, 1, _, rfl, rfl, Nat.le_refl _, by unfold maxLen; omega, rfl, rfl⟩⟩
  refine c_seq fun Q4 k4 t4 => ?_
  refine c_sr fun ops => ?_
  refine zm 1 hF rfl fun a hF => ?_
  refine c_n ?_
  replace hF := hF.sel [2, 5, 6, 7, 10, 11, 12]
  simp only [ss, Nat.reduceBEq] at hF
  refine c_block fun Q5 t5 => ?_
  refine c_loop (fun n a w => ∃ i p met B mv, n = ch.length - i ∧ i ≤ ch.length ∧ Way (groupN l) cls p met (ch.drop i) q ∧ fold p = p ∧ p.length ≤ 255 ∧ met.length = i + 1 ∧ Fr 135 [(2, ptr g0_0), (5, v3), (6, .slice cad ch.length ccp), (7, .string (mk q)), (10, .string (mk p)), (11, mv), (12, .int .i64 (i : Nat))] a ∧ Hp w4 w B ∧ Sl 9 1 B mv met.length (strV met)) ?_ ?_
  ·
   exact ⟨_, 0, fold nm, [fold nm], _, _, rfl, Nat.zero_le _, hway, fold_fold _, fold_le255 _, rfl, hF.keep [2, 5, 6, 7, 10, 11, 12] rfl, hH, hM⟩
  clear hH hF hM hway
  intro n a w hI Q6 k6 t6
  obtain ⟨i, p, met, B, mv, hm, hi, hway, hpf, hpl, hml, hF, hH, hM⟩ := hI
  obtain ⟨mad, mcp, rfl⟩ := hM.shape
  refine c_seq fun Q7 k7 t7 => ?_
  refine c_sr fun ops => ?_
  refine zm 2 hF rfl fun a hF => ?_
  refine zl hF rfl (r_len_sl hF rfl rfl Tryz.underlying22) fun a hF => ?_
  refine zb hF rfl rfl rfl (b_ltn _ _ _ _) fun a hF => ?_
  refine c_n ?_
  refine c_fi hF rfl (fun h69 => ?_) (fun h69 => ?_)
  ·
   try simp only [qq] at h69
   rw [List.drop_eq_nil_of_le (by omega)] at hway
   have hqp : q = p := hway
   refine wp_exit (t7.exit (t6.exit (t5.here (?_))))
   refine k4 ?_
   refine c_sr fun ops => ?_
   refine zm 2 hF rfl fun a hF => ?_
   refine zb hF rfl rfl rfl (b_seq _ _ _) fun a hF => ?_
   refine zm 1 hF rfl fun a hF => ?_
   refine c_n ?_
   replace hF := hF.sel [4]
   simp only [ss, Nat.reduceBEq] at hF
   refine wp_ret (hret (ret1 hF Tryz.results8 rfl ?_))
   exact ⟨congrArg Value.bool (decide_eq_true hqp.symm), hH4.below.trans hH.below⟩
  try simp only [qq] at h69
  rw [List.drop_eq_getElem_cons h69] at hway
  obtain ⟨hfd, hd1, hdm, hnm, hway⟩ := hway
  obtain ⟨hsn, hsk, -, hsm⟩ := group_find hpf hfd
  have hdf := group_datum hsm hsk hd1
  rw [hdf] at hnm hway
  have hsd := hgb.data _ hsm
  obtain ⟨b1, off1, dv1, rfl, hset1, hdv1⟩ := hc.at h69
  have hdv0 := hdv1
  obtain ⟨dad, dcp, rfl⟩ := hdv1.shape
  obtain ⟨b2, off2, rfl, hc2⟩ := hdv1.at (i := 0) (by omega)
  refine wp_skip ?_
  refine k7 ?_
  refine c_seq fun Q8 k8 t8 => ?_
  refine c_block fun Q9 t9 => ?_
  refine c_sr fun ops => ?_
  refine zm 2 hF rfl fun a hF => ?_
  refine zl hF rfl (r_fieldaddr0 hF rfl rfl fd49_2) fun a hF => ?_
  refine zl hF rfl (r_load hF rfl rfl fl23 (hH.cell (hq 2 _ rfl))) fun a hF => ?_
  refine zc hF rfl rfl fn18 (find_spec (groupN l) v3 p 5 cls _ (hs3.ext hH.below) hgb.len (by omega) hgb.name hgb.data) ?_
  rintro _ w ⟨dv, Bs, rfl, hB, hSs⟩ a hF
  replace hH := hH.join hB
  rw [hfd] at hSs hF
  simp only [Option.getD_some, Option.isSome_some] at hSs hF
  refine zm 3 hF rfl fun a hF => ?_
  refine ls_alloc hF hH rfl rfl rfl rfl zv27 ?_
  intro a w g14_8 hH hE hF
  refine ls_storeagg 0 hF hH rfl rfl rfl rfl rfl ti27 rfl (rfl) (rfl) (by have := hSs.shape; obtain ⟨_, _, rfl⟩ := this; simp [setV, cells_agg, Value.oneCell']) ?_
  intro w hH
  simp only [List.set_cons_zero] at hH
  refine zm 1 hF rfl fun a hF => ?_
  refine c_n ?_
  refine c_seq fun Q10 k10 t10 => ?_
  refine c_seq fun Q11 k11 t11 => ?_
  refine q_reg (by kernel_rfl) (by kernel_rfl) ?_
  refine qs hF rfl rfl rfl (fun w hw => r_move hF rfl rfl) fun a hF => ?_
  refine qs hF rfl rfl rfl (fun w hw => r_not hF rfl rfl) fun a hF => ?_
  refine qs hF rfl rfl rfl (fun w hw => r_move hF rfl rfl) fun a hF => ?_
  refine q_ask (d := 82) hF rfl (fun g15_2 => ?_) (fun g15_2 => ?_)
  ·
   have g15_2' := g15_2; try simp only [qq] at g15_2'
   cases g15_2
  have g15_2' := g15_2; try simp only [qq] at g15_2'
  refine qsy hF rfl rfl rfl g15_2 rfl rfl (fun w hw => r_loadagg hF rfl rfl Tryz.underlying27 ti27 rfl (own_agg (i := 0) (hH.ext hw) rfl)) fun a hF => ?_
  refine qsy hF rfl rfl rfl g15_2 rfl rfl (fun w hw => r_move hF rfl rfl) fun a hF => ?_
  refine qsy hF rfl rfl rfl g15_2 rfl rfl (fun w hw => r_move hF rfl rfl) fun a hF => ?_
  refine qsy hF rfl rfl rfl g15_2 rfl rfl (fun w hw => r_indexaddr hF _ rfl rfl rfl Tryz.underlying22 ti27 (by omega)) fun a hF => ?_
  refine qsy hF rfl rfl rfl g15_2 rfl rfl (fun w hw => r_loadagg hF rfl rfl Tryz.underlying27 ti27 rfl (fun j u hu => (hH.ext hw).cell (hset1 j u hu))) fun a hF => ?_
  refine qsy_call hF rfl rfl rfl g15_2 rfl rfl rfl rfl fn21 (fun w hw => same_yes ch[i] (hSs.rsl (hH.ext hw) (fun p hp => List.mem_cons_of_mem _ (List.mem_append_left _ hp))) (hdv0.ext (hH.below.trans hw)) hsd) fun a hF => ?_
  refine qsy hF rfl rfl rfl g15_2 rfl rfl (fun w hw => r_not hF rfl rfl) fun a hF => ?_
  refine qs hF rfl rfl rfl (fun w hw => r_pickf hF rfl rfl g15_2 rfl) fun a hF => ?_
  refine qs hF rfl rfl rfl (fun w hw => r_move hF rfl rfl) fun a hF => ?_
  refine q_ask (d := 91) hF rfl (fun g15_11 => ?_) (fun g15_11 => ?_)
  ·
   have g15_11' := g15_11; try simp only [qq] at g15_11'
   cases g15_11
  have g15_11' := g15_11; try simp only [qq] at g15_11'
  refine qsy hF rfl rfl rfl g15_11 rfl rfl (fun w hw => r_move hF rfl rfl) fun a hF => ?_
  refine qsy hF rfl rfl rfl g15_11 rfl rfl (fun w hw => r_move hF rfl rfl) fun a hF => ?_
  refine qsy hF rfl rfl rfl g15_11 rfl rfl (fun w hw => r_indexaddr hF _ rfl rfl rfl Tryz.underlying22 ti27 (by omega)) fun a hF => ?_
  refine qsy hF rfl rfl rfl g15_11 rfl rfl (fun w hw => r_fieldaddr hF rfl rfl fd27_0) fun a hF => ?_
  refine qsy hF rfl rfl rfl g15_11 rfl rfl (fun w hw => r_load hF rfl rfl fl9 (hw.cell (hH.cell (hset1 0 _ rfl)))) fun a hF => ?_
  refine qsy hF rfl rfl rfl g15_11 rfl rfl (fun w hw => r_move hF rfl rfl) fun a hF => ?_
  refine qsy hF rfl rfl rfl g15_11 rfl rfl (fun w hw => zr hF rfl rfl (b_sne _ _ _)) fun a hF => ?_
  refine qs hF rfl rfl rfl (fun w hw => r_pickf hF rfl rfl g15_11 rfl) fun a hF => ?_
  refine qs hF rfl rfl rfl (fun w hw => r_move hF rfl rfl) fun a hF => ?_
  refine q_ask (d := 100) hF rfl (fun g15_20 => ?_) (fun g15_20 => ?_)
  ·
   have g15_20' := g15_20; try simp only [qq] at g15_20'
   exact absurd hsn g15_20'
  have g15_20' := g15_20; try simp only [qq] at g15_20'
  refine qsy hF rfl rfl rfl g15_20 rfl rfl (fun w hw => r_move hF rfl rfl) fun a hF => ?_
  refine qsy hF rfl rfl rfl g15_20 rfl rfl (fun w hw => r_move hF rfl rfl) fun a hF => ?_
  refine qsy hF rfl rfl rfl g15_20 rfl rfl (fun w hw => r_indexaddr hF _ rfl rfl rfl Tryz.underlying22 ti27 (by omega)) fun a hF => ?_
  refine qsy hF rfl rfl rfl g15_20 rfl rfl (fun w hw => r_fieldaddr hF rfl rfl fd27_4) fun a hF => ?_
  refine qsy hF rfl rfl rfl g15_20 rfl rfl (fun w hw => r_load hF rfl rfl fl25 (hw.cell (hH.cell (hset1 4 _ rfl)))) fun a hF => ?_
  refine qsy hF rfl rfl rfl g15_20 rfl rfl (fun w hw => r_len_sl hF rfl rfl Tryz.underlying25) fun a hF => ?_
  refine qsy hF rfl rfl rfl g15_20 rfl rfl (fun w hw => zr hF rfl rfl (b_nen _ _ _ 1)) fun a hF => ?_
  refine qs hF rfl rfl rfl (fun w hw => r_pickf hF rfl rfl g15_20 rfl) fun a hF => ?_
  refine q_nil fun w hE => ?_
  replace hH := hH.ext hE
  refine k11 ?_
  refine c_if hF rfl (fun h108 => ?_) (fun h108 => ?_)
  ·
   try simp only [qq] at h108
   exact absurd hd1 h108
  try simp only [qq] at h108
  refine wp_skip ?_
  refine k10 ?_
  refine c_sr fun ops => ?_
  refine zm 2 hF rfl fun a hF => ?_
  refine zl hF rfl (r_indexaddr hF _ rfl rfl rfl Tryz.underlying22 ti27 (by omega)) fun a hF => ?_
  refine zl hF rfl (r_fieldaddr hF rfl rfl fd27_4) fun a hF => ?_
  refine zl hF rfl (r_load hF rfl rfl fl25 (hH.cell (hset1 4 _ rfl))) fun a hF => ?_
  refine zl hF rfl (r_ix1 hF 0 rfl rfl rfl Tryz.underlying25 ti9 (by omega)) fun a hF => ?_
  refine zl hF rfl (r_load hF rfl rfl fl9 (hH.cell hc2)) fun a hF => ?_
  refine zm 1 hF rfl fun a hF => ?_
  refine c_n ?_
  replace hH := hH.of (H' := B) ((g14_8, .cells (setV ch[i] dv).toArray 27 (0, 0)) :: Bs) (by classical
    rw [List.perm_iff_count]; intro x; simp only [List.count_append, List.count_cons, List.count_nil]; omega)
  refine c_seq fun Q12 k12 t12 => ?_
  refine c_sr fun ops => ?_
  refine zm 1 hF rfl fun a hF => ?_
  refine c_n ?_
  refine c_block fun Q13 t13 => ?_
  refine c_loop (fun n a w => ∃ k, n = met.length - k ∧ k ≤ met.length ∧ Fr 135 [(2, ptr g0_0), (5, v3), (6, .slice (some ⟨b1, off1, none⟩) ch.length ccp), (7, .string (mk q)), (10, .string (mk (ch[i].data.getD 0 []))), (11, .slice mad met.length mcp), (12, .int .i64 (i : Nat)), (15, .int .i64 (k : Nat))] a ∧ Hp w4 w B) ?_ ?_
  ·
   exact ⟨_, 0, rfl, Nat.zero_le _, hF.keep [2, 5, 6, 7, 10, 11, 12, 15] rfl, hH⟩
  clear hH hF
  intro n a w hI Q14 k14 t14
  obtain ⟨k, hm2, hk, hF, hH⟩ := hI
  refine c_seq fun Q15 k15 t15 => ?_
  refine c_sr fun ops => ?_
  refine zm 2 hF rfl fun a hF => ?_
  refine zl hF rfl (r_len_sl hF rfl rfl Tryz.underlying25) fun a hF => ?_
  refine zb hF rfl rfl rfl (b_ltn _ _ _ _) fun a hF => ?_
  refine c_n ?_
  refine c_fi hF rfl (fun h119 => ?_) (fun h119 => ?_)
  ·
   try simp only [qq] at h119
   refine wp_exit (t15.exit (t14.exit (t13.here (?_))))
   refine k12 ?_
   refine c_reg fun ops => ?_
   refine zm 2 hF rfl fun a hF => ?_
   refine ls_build1 hF hH rfl rfl rfl rfl rfl Tryz.underlying25 ti9 rfl (by decide) ?_
   intro a w g23_2 hH hE hF
   have hR := rsl_lit (n := 1) (size := 1) hH rfl (by decide)
   replace hH := hH.drop
   refine ls_append0 hF hH rfl rfl rfl rfl rfl rfl Tryz.underlying25 ti9 hM hR (one_of rfl) (by decide) (by omega) ?_
   intro a v23_3 w B23_3 hH hM hF
   refine zm 1 hF rfl fun a hF => ?_
   refine wpList_nil ?_
   refine t9.norm ?_
   refine k8 ?_
   refine c_reg fun ops => ?_
   refine zm 1 hF rfl fun a hF => ?_
   refine zb hF rfl rfl rfl (b_addn _ _ 1 (by omega)) fun a hF => ?_
   refine zm 1 hF rfl fun a hF => ?_
   refine wpList_nil ?_
   refine k6 ?_
   refine ⟨ch.length - (i + 1), by omega, i + 1, ch[i].data.getD 0 [], met ++ [ch[i].data.getD 0 []], _, _, rfl, by omega, hway, hdf, by rw [← hdf]; exact fold_le255 _, by simp [hml], hF.keep [2, 5, 6, 7, 10, 11, 12] rfl, hH, ?_⟩
   rw [List.length_append, ← strV_snoc]; exact hM
  try simp only [qq] at h119
  obtain ⟨mb, moff, rfl, hmc⟩ := (hM.rsl hH (fun p hp => hp)).at h119
  refine wp_skip ?_
  refine k15 ?_
  refine c_seq fun Q16 k16 t16 => ?_
  refine c_block fun Q17 t17 => ?_
  refine c_sr fun ops => ?_
  refine zm 2 hF rfl fun a hF => ?_
  refine zl hF rfl (r_ix1 hF _ rfl rfl rfl Tryz.underlying25 ti9 (by omega)) fun a hF => ?_
  refine zl hF rfl (r_load hF rfl rfl fl9 (hmc)) fun a hF => ?_
  refine zm 1 hF rfl fun a hF => ?_
  refine zb hF rfl rfl rfl (b_seq _ _ _) fun a hF => ?_
  refine c_n ?_
  refine c_if hF rfl (fun h127 => ?_) (fun h127 => ?_)
  ·
   try simp only [qq] at h127
   exact absurd (by rw [← h127, List.getD_eq_getElem?_getD, List.getElem?_eq_getElem h119]; exact List.getElem_mem _) hnm
  try simp only [qq] at h127
  refine wp_skip ?_
  refine t17.norm ?_
  refine k16 ?_
  refine c_reg fun ops => ?_
  refine zm 1 hF rfl fun a hF => ?_
  refine zb hF rfl rfl rfl (b_addn _ _ 1 (by omega)) fun a hF => ?_
  refine zm 1 hF rfl fun a hF => ?_
  refine wpList_nil ?_
  refine k14 ?_
  exact ⟨met.length - (k + 1), by omega, k + 1, rfl, by omega, hF.keep [2, 5, 6, 7, 10, 11, 12, 15] rfl, hH⟩
end Go.Proofs.YtcelgjabccgnmaaGreatDoor
