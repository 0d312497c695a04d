/-
  The walk of RrsetNames. Nothing is claimed here.
-/
import Derived.Test.YtcelgjabccgnmaaDoorLaw8c
import Derived.Test.YtcelgjabccgnmaaDoorSame8
namespace Go.Proofs.YtcelgjabccgnmaaDoor
open Go.RowKit
set_option linter.unusedVariables false
set_option linter.unusedSimpArgs false
set_option maxHeartbeats 1000000

def n9 : List Rec := [r8 [1, 102, 0] 1 1, r8 [1, 97, 2, 101, 120, 0] 1 1, r8 [2, 101, 120, 0] 1 2147483647, ⟨[2, 101, 120, 0], 1, 3, 0, [97, 98, 99, 100]⟩, ⟨[2, 101, 120, 0], 2, 1, 0, [1, 66, 0]⟩, ⟨[0], 999, 1, 0, []⟩, ⟨[2, 101, 120], 999, 1, 0, []⟩, ⟨[0], 41, 0, 0, []⟩, ⟨[0], 2, 0, 0, [1, 66]⟩]
def g6 : List RSet := [⟨[0], 999, 1, 0, [[]]⟩, ⟨[2, 101, 120, 0], 1, 1, 2147483647, [[10, 0, 0, 1]]⟩, ⟨[2, 101, 120, 0], 1, 3, 0, [[97, 98, 99, 100]]⟩, ⟨[2, 101, 120, 0], 2, 1, 0, [[1, 98, 0]]⟩, ⟨[1, 97, 2, 101, 120, 0], 1, 1, 1, [[10, 0, 0, 1]]⟩, ⟨[1, 102, 0], 1, 1, 1, [[10, 0, 0, 1]]⟩]
def g6c : RSet := ⟨[2, 101, 120, 0], 2, 1, 0, [[1, 98, 0]]⟩
theorem rrsetNames_spec (w0 : World) (hG : GW w0) : Rets Tryd.prog 8 [] w0 fun v w' => v = .bool true ∧ Ext w0 w' := by
  have hH := Hp.refl w0
  have hl6 : g6.length = 6 := rfl
  refine rets_start Tryd.func8 rfl Tryd.ntmps8 rfl fun a Q0 hF hret hend => ?_
  simp only [argsFrom, Nat.zero_add, Nat.reduceAdd] at hF
  refine c_sr fun ops => ?_
  refine zm 1 hF rfl fun a hF => ?_
  refine c_n ?_
  replace hF := hF.sel []
  simp only [ss, Nat.reduceBEq] at hF
  refine c_seq fun Q1 k1 t1 => ?_
  refine c_sg ?_
  refine zc hF rfl rfl fn23 (awake8_spec _ (hG.ext hH.below)) ?_
  rintro _ w ⟨rfl, hE⟩ a hF
  replace hH := hH.ext hE
  refine zl hF rfl (r_not hF rfl rfl) fun a hF => ?_
  refine zm 1 hF rfl fun a hF => ?_
  refine zl hF rfl (r_pickf hF rfl rfl rfl rfl) fun a hF => ?_
  refine zm 1 hF rfl fun a hF => ?_
  refine zl hF rfl (r_pickf hF rfl rfl rfl rfl) fun a hF => ?_
  refine zm 1 hF rfl fun a hF => ?_
  refine zyc hF rfl rfl rfl fn24 (groupR_spec [] _ _ (RSl.nil _ _) (recsB_of (by decide)) (hG.ext hH.below)) ?_
  rintro v15 w ⟨hs15, hE⟩ a hF
  replace hH := hH.ext hE
  obtain ⟨_, _, rfl⟩ := hs15.shape
  refine zy hF rfl rfl (r_len_sl hF rfl rfl Tryd.underlying38) fun a hF => ?_
  refine zy hF rfl rfl (zr hF rfl rfl (b_nen _ _ _ 0)) fun a hF => ?_
  refine zl hF rfl (r_pickf hF rfl rfl rfl rfl) fun a hF => ?_
  refine zm 1 hF rfl fun a hF => ?_
  refine zy hF rfl rfl (r_build hF rfl rfl (bd49_0 _ _ (rfl))) fun a hF => ?_
  refine zyc hF rfl rfl rfl fn31 (records_spec ⟨[0], 0, 0, 0, []⟩ (.slice none 0 0) _ (RSl.nil _ _) (by decide)) ?_
  rintro v21 w ⟨B21, hB, hS21⟩ a hF
  replace hH := hH.ext hB.below
  obtain ⟨_, _, rfl⟩ := hS21.shape
  refine zy hF rfl rfl (r_len_sl hF rfl rfl Tryd.underlying23) fun a hF => ?_
  refine zy hF rfl rfl (zr hF rfl rfl (b_nen _ _ _ 0)) fun a hF => ?_
  refine zl hF rfl (r_pickf hF rfl rfl rfl rfl) fun a hF => ?_
  refine c_n ?_
  replace hF := hF.sel [24]
  simp only [ss, Nat.reduceBEq] at hF
  refine c_no hF rfl rfl ?_
  refine wp_skip ?_
  refine k1 ?_
  refine c_sr fun ops => ?_
  refine zc hF rfl rfl fn32 (a8_spec [1, 102, 0] 1 1 1 rfl _) ?_
  rintro _ w ⟨rfl, hE⟩ a hF
  replace hH := hH.ext hE
  refine zc hF rfl rfl fn32 (a8_spec [1, 97, 2, 101, 120, 0] 1 1 1 rfl _) ?_
  rintro _ w ⟨rfl, hE⟩ a hF
  replace hH := hH.ext hE
  refine zc hF rfl rfl fn32 (a8_spec [2, 101, 120, 0] 1 1 2147483647 rfl _) ?_
  rintro _ w ⟨rfl, hE⟩ a hF
  replace hH := hH.ext hE
  refine zl hF rfl (r_build hF rfl rfl (bd27_0_1_2_4 _ _ _ _ _ (rfl) (rfl) (rfl) (rfl))) fun a hF => ?_
  refine zl hF rfl (r_build hF rfl rfl (bd27_0_1_2_4 _ _ _ _ _ (rfl) (rfl) (rfl) (rfl))) fun a hF => ?_
  refine zl hF rfl (r_build hF rfl rfl (bd27_0_1_2_4 _ _ _ _ _ (rfl) (rfl) (rfl) (rfl))) fun a hF => ?_
  refine zl hF rfl (r_build hF rfl rfl (bd27_0_1_2 _ _ _ _ (rfl) (rfl) (rfl))) fun a hF => ?_
  refine zl hF rfl (r_build hF rfl rfl (bd27_0_1 _ _ _ (rfl) (rfl))) fun a hF => ?_
  refine zl hF rfl (r_build hF rfl rfl (bd27_0_1_4 _ _ _ _ (rfl) (rfl) (rfl))) fun a hF => ?_
  refine ls_buildN (us := [_, _, _, _, _, _, _, _, _]) hF hH rfl rfl rfl rfl rfl rfl Tryd.underlying23 ti27 (by intro u hu; simp only [List.mem_cons, List.not_mem_nil, or_false] at hu; rcases hu with rfl | rfl | rfl | rfl | rfl | rfl | rfl | rfl | rfl <;> rfl) (by decide) ?_
  intro a w g3_9 hH hE hF
  replace hH : Hp w0 w [(g3_9, .cells (recsV n9).toArray 27 (0, 0))] := hH
  refine zc hF rfl rfl fn24 (groupR_spec n9 _ _ (rsl_at (n := 9) (size := 5) (i := 0) hH rfl rfl (by decide)) (recsB_of (by decide)) (hG.ext hH.below)) ?_
  rintro v35 w ⟨hs, hE⟩ a hF
  replace hH := hH.ext hE
  refine zm 1 hF rfl fun a hF => ?_
  refine c_n ?_
  replace hF := hF.sel [1]
  simp only [ss, Nat.reduceBEq] at hF
  rw [show groupN n9 = g6 by kernel_rfl] at hs
  have hE3 := hH.below
  obtain ⟨w3, hw3⟩ : ∃ w3, w3 = w := ⟨w, rfl⟩
  rw [← hw3] at hs hE3
  replace hH : Hp w3 w [] := by rw [hw3]; exact Hp.refl _
  clear hw3
  obtain ⟨gad, gcp, rfl⟩ := hs.shape
  obtain ⟨b0, off0, d0, rfl, s0, hd0⟩ := hs.at (i := 0) (by decide)
  obtain ⟨_, _, d1, hb, s1, hd1⟩ := hs.at (i := 1) (by decide)
  cases hb
  obtain ⟨_, _, d2, hb, s2, hd2⟩ := hs.at (i := 2) (by decide)
  cases hb
  obtain ⟨_, _, d3, hb, s3, hd3⟩ := hs.at (i := 3) (by decide)
  cases hb
  obtain ⟨_, _, d4, hb, s4, hd4⟩ := hs.at (i := 4) (by decide)
  cases hb
  obtain ⟨_, _, d5, hb, s5, hd5⟩ := hs.at (i := 5) (by decide)
  cases hb
  obtain ⟨ad0, cp0, rfl⟩ := hd0.shape
  obtain ⟨bd0, od0, rfl, hc0⟩ := hd0.at (i := 0) (by decide)
  obtain ⟨ad3, cp3, rfl⟩ := hd3.shape
  obtain ⟨bd3, od3, rfl, hc3⟩ := hd3.at (i := 0) (by decide)
  refine c_seq fun Q2 k2 t2 => ?_
  refine c_sg ?_
  refine zm 1 hF rfl fun a hF => ?_
  refine zl hF rfl (r_len_sl hF rfl rfl Tryd.underlying38) fun a hF => ?_
  refine zb hF rfl rfl rfl (b_nen _ _ _ 6) fun a hF => ?_
  refine zm 1 hF rfl fun a hF => ?_
  refine zy hF rfl rfl (r_move hF rfl rfl) fun a hF => ?_
  refine zy hF rfl rfl (r_indexaddr hF 0 rfl rfl rfl Tryd.underlying38 ti49 (by omega)) fun a hF => ?_
  refine zy hF rfl rfl (r_fieldaddr hF rfl rfl fd49_1) fun a hF => ?_
  refine zy hF rfl rfl (r_load hF rfl rfl fl24 (hH.cell (s0 1 _ rfl))) fun a hF => ?_
  refine zy hF rfl rfl (zr hF rfl rfl (b_nen _ _ _ 999)) fun a hF => ?_
  refine zl hF rfl (r_pickf hF rfl rfl rfl rfl) fun a hF => ?_
  refine zm 1 hF rfl fun a hF => ?_
  refine zy hF rfl rfl (r_move hF rfl rfl) fun a hF => ?_
  refine zy hF rfl rfl (r_indexaddr hF 0 rfl rfl rfl Tryd.underlying38 ti49 (by omega)) fun a hF => ?_
  refine zy hF rfl rfl (r_fieldaddr hF rfl rfl fd49_4) fun a hF => ?_
  refine zy hF rfl rfl (r_load hF rfl rfl fl47 (hH.cell (s0 4 _ rfl))) fun a hF => ?_
  refine zy hF rfl rfl (r_len_sl hF rfl rfl Tryd.underlying47) fun a hF => ?_
  refine zy hF rfl rfl (zr hF rfl rfl (b_nen _ _ _ 1)) fun a hF => ?_
  refine zl hF rfl (r_pickf hF rfl rfl rfl rfl) fun a hF => ?_
  refine zm 1 hF rfl fun a hF => ?_
  refine zy hF rfl rfl (r_move hF rfl rfl) fun a hF => ?_
  refine zy hF rfl rfl (r_indexaddr hF 0 rfl rfl rfl Tryd.underlying38 ti49 (by omega)) fun a hF => ?_
  refine zy hF rfl rfl (r_fieldaddr hF rfl rfl fd49_4) fun a hF => ?_
  refine zy hF rfl rfl (r_load hF rfl rfl fl47 (hH.cell (s0 4 _ rfl))) fun a hF => ?_
  refine zy hF rfl rfl (r_ix1 hF 0 rfl rfl rfl Tryd.underlying47 ti9 (by decide)) fun a hF => ?_
  refine zy hF rfl rfl (r_load hF rfl rfl fl9 (hH.cell hc0)) fun a hF => ?_
  refine zy hF rfl rfl (zr hF rfl rfl (b_sne _ _ [])) fun a hF => ?_
  refine zl hF rfl (r_pickf hF rfl rfl rfl rfl) fun a hF => ?_
  refine zm 1 hF rfl fun a hF => ?_
  refine zy hF rfl rfl (r_move hF rfl rfl) fun a hF => ?_
  refine zy hF rfl rfl (r_indexaddr hF 1 rfl rfl rfl Tryd.underlying38 ti49 (by omega)) fun a hF => ?_
  refine zy hF rfl rfl (r_fieldaddr hF rfl rfl fd49_0) fun a hF => ?_
  refine zy hF rfl rfl (r_load hF rfl rfl fl9 (hH.cell (s1 0 _ rfl))) fun a hF => ?_
  refine zy hF rfl rfl (zr hF rfl rfl (b_sne _ _ [2, 101, 120, 0])) fun a hF => ?_
  refine zl hF rfl (r_pickf hF rfl rfl rfl rfl) fun a hF => ?_
  refine zm 1 hF rfl fun a hF => ?_
  refine zy hF rfl rfl (r_move hF rfl rfl) fun a hF => ?_
  refine zy hF rfl rfl (r_indexaddr hF 1 rfl rfl rfl Tryd.underlying38 ti49 (by omega)) fun a hF => ?_
  refine zy hF rfl rfl (r_fieldaddr hF rfl rfl fd49_1) fun a hF => ?_
  refine zy hF rfl rfl (r_load hF rfl rfl fl24 (hH.cell (s1 1 _ rfl))) fun a hF => ?_
  refine zy hF rfl rfl (zr hF rfl rfl (b_nen _ _ _ 1)) fun a hF => ?_
  refine zl hF rfl (r_pickf hF rfl rfl rfl rfl) fun a hF => ?_
  refine zm 1 hF rfl fun a hF => ?_
  refine zy hF rfl rfl (r_move hF rfl rfl) fun a hF => ?_
  refine zy hF rfl rfl (r_indexaddr hF 1 rfl rfl rfl Tryd.underlying38 ti49 (by omega)) fun a hF => ?_
  refine zy hF rfl rfl (r_fieldaddr hF rfl rfl fd49_2) fun a hF => ?_
  refine zy hF rfl rfl (r_load hF rfl rfl fl24 (hH.cell (s1 2 _ rfl))) fun a hF => ?_
  refine zy hF rfl rfl (zr hF rfl rfl (b_nen _ _ _ 1)) fun a hF => ?_
  refine zl hF rfl (r_pickf hF rfl rfl rfl rfl) fun a hF => ?_
  refine zm 1 hF rfl fun a hF => ?_
  refine zy hF rfl rfl (r_move hF rfl rfl) fun a hF => ?_
  refine zy hF rfl rfl (r_indexaddr hF 1 rfl rfl rfl Tryd.underlying38 ti49 (by omega)) fun a hF => ?_
  refine zy hF rfl rfl (r_fieldaddr hF rfl rfl fd49_3) fun a hF => ?_
  refine zy hF rfl rfl (r_load hF rfl rfl fl25 (hH.cell (s1 3 _ rfl))) fun a hF => ?_
  refine zy hF rfl rfl (zr hF rfl rfl (b_nen _ _ _ 2147483647)) fun a hF => ?_
  refine zl hF rfl (r_pickf hF rfl rfl rfl rfl) fun a hF => ?_
  refine zm 1 hF rfl fun a hF => ?_
  refine zy hF rfl rfl (r_move hF rfl rfl) fun a hF => ?_
  refine zy hF rfl rfl (r_indexaddr hF 2 rfl rfl rfl Tryd.underlying38 ti49 (by omega)) fun a hF => ?_
  refine zy hF rfl rfl (r_fieldaddr hF rfl rfl fd49_2) fun a hF => ?_
  refine zy hF rfl rfl (r_load hF rfl rfl fl24 (hH.cell (s2 2 _ rfl))) fun a hF => ?_
  refine zy hF rfl rfl (zr hF rfl rfl (b_nen _ _ _ 3)) fun a hF => ?_
  refine zl hF rfl (r_pickf hF rfl rfl rfl rfl) fun a hF => ?_
  refine zm 1 hF rfl fun a hF => ?_
  refine zy hF rfl rfl (r_move hF rfl rfl) fun a hF => ?_
  refine zy hF rfl rfl (r_indexaddr hF 3 rfl rfl rfl Tryd.underlying38 ti49 (by omega)) fun a hF => ?_
  refine zy hF rfl rfl (r_fieldaddr hF rfl rfl fd49_1) fun a hF => ?_
  refine zy hF rfl rfl (r_load hF rfl rfl fl24 (hH.cell (s3 1 _ rfl))) fun a hF => ?_
  refine zy hF rfl rfl (zr hF rfl rfl (b_nen _ _ _ 2)) fun a hF => ?_
  refine zl hF rfl (r_pickf hF rfl rfl rfl rfl) fun a hF => ?_
  refine zm 1 hF rfl fun a hF => ?_
  refine zy hF rfl rfl (r_move hF rfl rfl) fun a hF => ?_
  refine zy hF rfl rfl (r_indexaddr hF 3 rfl rfl rfl Tryd.underlying38 ti49 (by omega)) fun a hF => ?_
  refine zy hF rfl rfl (r_fieldaddr hF rfl rfl fd49_4) fun a hF => ?_
  refine zy hF rfl rfl (r_load hF rfl rfl fl47 (hH.cell (s3 4 _ rfl))) fun a hF => ?_
  refine zy hF rfl rfl (r_ix1 hF 0 rfl rfl rfl Tryd.underlying47 ti9 (by decide)) fun a hF => ?_
  refine zy hF rfl rfl (r_load hF rfl rfl fl9 (hH.cell hc3)) fun a hF => ?_
  refine zy hF rfl rfl (zr hF rfl rfl (b_sne _ _ [1, 98, 0])) fun a hF => ?_
  refine zl hF rfl (r_pickf hF rfl rfl rfl rfl) fun a hF => ?_
  refine zm 1 hF rfl fun a hF => ?_
  refine zy hF rfl rfl (r_move hF rfl rfl) fun a hF => ?_
  refine zy hF rfl rfl (r_indexaddr hF 4 rfl rfl rfl Tryd.underlying38 ti49 (by omega)) fun a hF => ?_
  refine zy hF rfl rfl (r_fieldaddr hF rfl rfl fd49_0) fun a hF => ?_
  refine zy hF rfl rfl (r_load hF rfl rfl fl9 (hH.cell (s4 0 _ rfl))) fun a hF => ?_
  refine zy hF rfl rfl (zr hF rfl rfl (b_sne _ _ [1, 97, 2, 101, 120, 0])) fun a hF => ?_
  refine zl hF rfl (r_pickf hF rfl rfl rfl rfl) fun a hF => ?_
  refine zm 1 hF rfl fun a hF => ?_
  refine zy hF rfl rfl (r_move hF rfl rfl) fun a hF => ?_
  refine zy hF rfl rfl (r_indexaddr hF 5 rfl rfl rfl Tryd.underlying38 ti49 (by omega)) fun a hF => ?_
  refine zy hF rfl rfl (r_fieldaddr hF rfl rfl fd49_0) fun a hF => ?_
  refine zy hF rfl rfl (r_load hF rfl rfl fl9 (hH.cell (s5 0 _ rfl))) fun a hF => ?_
  refine zy hF rfl rfl (zr hF rfl rfl (b_sne _ _ [1, 102, 0])) fun a hF => ?_
  refine zl hF rfl (r_pickf hF rfl rfl rfl rfl) fun a hF => ?_
  refine c_n ?_
  replace hF := hF.sel [1, 127]
  simp only [ss, Nat.reduceBEq] at hF
  refine c_no hF rfl rfl ?_
  refine wp_skip ?_
  refine k2 ?_
  refine c_sr fun ops => ?_
  refine zm 1 hF rfl fun a hF => ?_
  refine zc hF rfl rfl fn33 (find_spec g6 _ [2, 101, 120, 0] 1 2 _ (hs.ext hH.below) (by decide) (by decide) (by decide) (by decide)) ?_
  rintro _ w ⟨dv6, B6, rfl, hB, hS6⟩ a hF
  replace hH := hH.ext hB.below
  rw [show findS g6 [2, 101, 120, 0] 1 2 = none by kernel_rfl] at hS6 hF
  simp only [Option.getD_none, Option.isSome_none] at hS6 hF
  refine zm 3 hF rfl fun a hF => ?_
  refine ls_alloc hF hH rfl rfl rfl rfl zv49 ?_
  intro a w g6_5 hH hE hF
  refine ls_storeagg 0 hF hH rfl rfl rfl rfl rfl ti49 rfl (rfl) (rfl) (by have := hS6.shape; obtain ⟨_, _, rfl⟩ := this; simp [setV, cells_agg, Value.oneCell']) ?_
  intro w hH
  refine zm 1 hF rfl fun a hF => ?_
  refine c_n ?_
  replace hF := hF.sel [1, 3]
  simp only [ss, Nat.reduceBEq] at hF
  replace hH := hH.sub (List.nil_sublist _)
  refine c_sr fun ops => ?_
  refine zm 1 hF rfl fun a hF => ?_
  refine zc hF rfl rfl fn33 (find_spec g6 _ [2, 101, 120] 1 1 _ (hs.ext hH.below) (by decide) (by decide) (by decide) (by decide)) ?_
  rintro _ w ⟨dv7, B7, rfl, hB, hS7⟩ a hF
  replace hH := hH.ext hB.below
  rw [show findS g6 [2, 101, 120] 1 1 = none by kernel_rfl] at hS7 hF
  simp only [Option.getD_none, Option.isSome_none] at hS7 hF
  refine zm 3 hF rfl fun a hF => ?_
  refine ls_alloc hF hH rfl rfl rfl rfl zv49 ?_
  intro a w g7_5 hH hE hF
  refine ls_storeagg 0 hF hH rfl rfl rfl rfl rfl ti49 rfl (rfl) (rfl) (by have := hS7.shape; obtain ⟨_, _, rfl⟩ := this; simp [setV, cells_agg, Value.oneCell']) ?_
  intro w hH
  refine zm 1 hF rfl fun a hF => ?_
  refine c_n ?_
  replace hF := hF.sel [1, 3, 5]
  simp only [ss, Nat.reduceBEq] at hF
  replace hH := hH.sub (List.nil_sublist _)
  refine c_sr fun ops => ?_
  refine zl hF rfl (r_build hF rfl rfl (bd49_0_1_2_3 _ _ _ _ _ (rfl) (rfl) (rfl) (rfl))) fun a hF => ?_
  refine zl hF rfl (r_build hF rfl rfl (bd49_0_1_2_3 _ _ _ _ _ (rfl) (rfl) (rfl) (rfl))) fun a hF => ?_
  refine ls_buildN (us := [_, _]) hF hH rfl rfl rfl rfl rfl rfl Tryd.underlying38 ti49 (by intro u hu; simp only [List.mem_cons, List.not_mem_nil, or_false] at hu; rcases hu with rfl | rfl <;> rfl) (by decide) ?_
  intro a w g8_2 hH hE hF
  have hs2 : SetsR w (.slice (some ⟨g8_2, 0, none⟩) 2 2) [⟨[0], 1, 1, 7, []⟩, ⟨[0], 1, 1, 8, []⟩] := ⟨[.slice none 0 0, .slice none 0 0], rfl, rsl_at (n := 2) (size := 5) (i := 0) hH rfl rfl (by decide), fun i hi => by
    match i, hi with
    | 0, _ => exact RSl.nil _ _
    | 1, _ => exact RSl.nil _ _⟩
  refine zc hF rfl rfl fn33 (find_spec [⟨[0], 1, 1, 7, []⟩, ⟨[0], 1, 1, 8, []⟩] _ [0] 1 1 _ hs2 (by decide) (by decide) (by decide) (by decide)) ?_
  rintro _ w ⟨dv8, B8, rfl, hB, hS8⟩ a hF
  replace hH := hH.ext hB.below
  rw [show findS [⟨[0], 1, 1, 7, []⟩, ⟨[0], 1, 1, 8, []⟩] [0] 1 1 = some ⟨[0], 1, 1, 7, []⟩ by kernel_rfl] at hS8 hF
  simp only [Option.getD_some, Option.isSome_some] at hS8 hF
  refine zm 3 hF rfl fun a hF => ?_
  refine ls_alloc hF hH rfl rfl rfl rfl zv49 ?_
  intro a w g8_7 hH hE hF
  refine ls_storeagg 0 hF hH rfl rfl rfl rfl rfl ti49 rfl (rfl) (rfl) (by have := hS8.shape; obtain ⟨_, _, rfl⟩ := this; simp [setV, cells_agg, Value.oneCell']) ?_
  intro w hH
  refine zm 1 hF rfl fun a hF => ?_
  refine c_n ?_
  replace hF := hF.sel [1, 3, 5, 6, 7]
  simp only [ss, Nat.reduceBEq] at hF
  simp only [List.set_cons_zero] at hH
  refine c_sg ?_
  refine zm 1 hF rfl fun a hF => ?_
  refine zl hF rfl (r_not hF rfl rfl) fun a hF => ?_
  refine zm 1 hF rfl fun a hF => ?_
  refine zy hF rfl rfl (r_move hF rfl rfl) fun a hF => ?_
  refine zy hF rfl rfl (r_not hF rfl rfl) fun a hF => ?_
  refine zl hF rfl (r_pickt hF rfl rfl rfl rfl) fun a hF => ?_
  refine zm 1 hF rfl fun a hF => ?_
  refine zy hF rfl rfl (r_move hF rfl rfl) fun a hF => ?_
  refine zl hF rfl (r_pickt hF rfl rfl rfl rfl) fun a hF => ?_
  refine zm 1 hF rfl fun a hF => ?_
  refine zy hF rfl rfl (r_fieldaddr0 hF rfl rfl fd49_3) fun a hF => ?_
  refine zy hF rfl rfl (r_load hF rfl rfl fl25 (own_cell (i := 0) hH rfl rfl)) fun a hF => ?_
  refine zy hF rfl rfl (zr hF rfl rfl (b_eqn _ _ _ 7)) fun a hF => ?_
  refine zl hF rfl (r_pickt hF rfl rfl rfl rfl) fun a hF => ?_
  refine zm 1 hF rfl fun a hF => ?_
  refine g_on hF rfl rfl rfl rfl ?_
  refine ls_buildN (us := []) hF hH rfl rfl rfl rfl rfl rfl Tryd.underlying47 ti9 (fun _ h => (List.not_mem_nil h).elim) (by decide) ?_
  intro a w g9_15 hH hE hF
  refine zy hF rfl rfl (r_build hF rfl rfl (bd49_4 _ _ (rfl))) fun a hF => ?_
  refine zy hF rfl rfl (r_build hF rfl rfl (bd49 _)) fun a hF => ?_
  refine zyc hF rfl rfl rfl fn30 (same_yes ⟨[], 0, 0, 0, []⟩ (rsl_at (n := 0) (size := 1) (i := 0) hH rfl rfl (by decide)) (RSl.nil _ _) (by decide)) ?_
  rintro _ w ⟨rfl, hE⟩ a hF
  replace hH := hH.ext hE
  refine zl hF rfl (r_pickt hF rfl rfl rfl rfl) fun a hF => ?_
  refine zm 1 hF rfl fun a hF => ?_
  refine g_on hF rfl rfl rfl rfl ?_
  refine ls_build1 hF hH rfl rfl rfl rfl rfl Tryd.underlying47 ti9 rfl (by decide) ?_
  intro a w g9_21 hH hE hF
  refine zy hF rfl rfl (r_build hF rfl rfl (bd49_4 _ _ (rfl))) fun a hF => ?_
  refine zy hF rfl rfl (r_build hF rfl rfl (bd49 _)) fun a hF => ?_
  refine zyc hF rfl rfl rfl fn30 (same_set_spec ⟨[], 0, 0, 0, [[]]⟩ ⟨[], 0, 0, 0, []⟩ _ _ _ (rsl_at (n := 1) (size := 1) (i := 0) hH rfl rfl (by decide)) (RSl.nil _ _) (by decide) (by decide)) ?_
  rintro _ w ⟨rfl, hE⟩ a hF
  replace hH := hH.ext hE
  refine zy hF rfl rfl (r_not hF rfl rfl) fun a hF => ?_
  refine zl hF rfl (r_pickt hF rfl rfl rfl rfl) fun a hF => ?_
  refine zm 1 hF rfl fun a hF => ?_
  refine zy hF rfl rfl (r_move hF rfl rfl) fun a hF => ?_
  refine zy hF rfl rfl (r_indexaddr hF 3 rfl rfl rfl Tryd.underlying38 ti49 (by omega)) fun a hF => ?_
  refine zy hF rfl rfl (r_loadagg hF rfl rfl Tryd.underlying49 ti49 rfl (fun j u hu => hH.cell (s3 j u hu))) fun a hF => ?_
  refine zyc hF rfl rfl rfl fn31 (records_spec g6c _ _ (hd3.ext hH.below) (by decide)) ?_
  rintro v176 w ⟨B31, hB, hS31⟩ a hF
  replace hH := hH.join hB
  refine zy hF rfl rfl (r_build hF rfl rfl (bd27_0_1_2_4 _ _ _ _ _ (rfl) (rfl) (rfl) (rfl))) fun a hF => ?_
  refine g_on hF rfl rfl rfl rfl ?_
  refine ls_build1 hF hH rfl rfl rfl rfl rfl Tryd.underlying23 ti27 rfl (by decide) ?_
  intro a w g9_33 hH hE hF
  refine zyc hF rfl rfl rfl fn34 (sameRecs_spec (recsOf g6c) [⟨[2, 101, 120, 0], 2, 1, 0, [1, 98, 0]⟩] v176 _ _ (rsl_len (hS31.rsl hH (fun p hp => List.mem_cons_of_mem _ (List.mem_append_left _ hp))) rfl) (rsl_at (n := 1) (size := 5) (i := 0) hH rfl rfl (by decide)) (by decide)) ?_
  rintro _ w ⟨rfl, hE⟩ a hF
  replace hH := hH.ext hE
  refine zl hF rfl (r_pickt hF rfl rfl rfl rfl) fun a hF => ?_
  refine zm 1 hF rfl fun a hF => ?_
  refine c_n ?_
  replace hF := hF.sel [0]
  simp only [ss, Nat.reduceBEq] at hF
  refine wp_ret (hret (ret1 hF Tryd.results8 rfl ?_))
  exact ⟨congrArg Value.bool (by decide), hE3.trans hH.below⟩
end Go.Proofs.YtcelgjabccgnmaaDoor
