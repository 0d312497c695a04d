/-
  The walk of VerdictNames. Nothing is claimed here.
-/
import Derived.Test.YtcelgjabccgnmaaGreatDoorVNamesL
import Derived.Test.YtcelgjabccgnmaaGreatDoorHeld
namespace Go.Proofs.YtcelgjabccgnmaaGreatDoor
open Go.RowKit
set_option linter.unusedVariables false
set_option linter.unusedSimpArgs false
set_option maxHeartbeats 1000000

theorem bdm_0 (w : World) : (Instr.build 62 #[]).run Tryz.prog w = .ok (.agg (msgV (msgOf 0 [] []) nilV nilV nilV nilV nilV).toArray) w := by
  obtain ⟨i, hi, hz⟩ := zv62
  unfold Instr.build
  simp [zeroValue, typeInfo, hi, hz, run_underlying Tryz.underlying62, Instr.fill, cells_agg]
  rfl
theorem bdm_u (w : World) (u : Value) (h : u.oneCell' = true) : (Instr.build 62 #[(3, u)]).run Tryz.prog w = .ok (.agg (msgV (msgOf 0 [] []) nilV nilV u nilV nilV).toArray) w := by
  obtain ⟨i, hi, hz⟩ := zv62
  unfold Instr.build
  simp [zeroValue, typeInfo, hi, hz, run_underlying Tryz.underlying62, Instr.fill, cells_agg, cells_one h, SZ_of (P := Tryz.prog) (ti_of (e := 56) (size := 11) (bytes := 12) (by kernel_rfl))]
  rfl
theorem bdm_au (w : World) (v u : Value) (h1 : v.oneCell' = true) (h : u.oneCell' = true) : (Instr.build 62 #[(2, v), (3, u)]).run Tryz.prog w = .ok (.agg (msgV (msgOf 0 [] []) nilV v u nilV nilV).toArray) w := by
  obtain ⟨i, hi, hz⟩ := zv62
  unfold Instr.build
  simp [zeroValue, typeInfo, hi, hz, run_underlying Tryz.underlying62, Instr.fill, cells_agg, cells_one h1, cells_one h, SZ_of (P := Tryz.prog) (ti_of (e := 56) (size := 11) (bytes := 12) (by kernel_rfl))]
  rfl
theorem bdm_axu (w : World) (v x u : Value) (h1 : v.oneCell' = true) (h2 : x.oneCell' = true) (h : u.oneCell' = true) : (Instr.build 62 #[(2, v), (4, x), (3, u)]).run Tryz.prog w = .ok (.agg (msgV (msgOf 0 [] []) nilV v u x nilV).toArray) w := by
  obtain ⟨i, hi, hz⟩ := zv62
  unfold Instr.build
  simp [zeroValue, typeInfo, hi, hz, run_underlying Tryz.underlying62, Instr.fill, cells_agg, cells_one h1, cells_one h2, cells_one h, SZ_of (P := Tryz.prog) (ti_of (e := 56) (size := 11) (bytes := 12) (by kernel_rfl))]
  rfl

/-- A row of the table, built: its type has no name. -/
theorem bde (w : World) (c : Nat) (av uv xv : Value) (n t k : Nat) : (Instr.build 73 #[(0, .agg (msgV (msgOf c [] []) nilV av uv xv nilV).toArray), (1, .int .i64 (n : Nat)), (2, .int .u32 (t : Nat)), (3, .int .i64 (k : Nat))]).run Tryz.prog w = .ok (.agg (entN c av uv xv n t k).toArray) w := by
  obtain ⟨i, hi, hz⟩ := zv73
  have hci : ∀ k z, (Value.int k z).cells = #[Value.int k z] := fun _ _ => cells_one rfl
  unfold Instr.build
  simp [zeroValue, hci, typeInfo, hi, hz, run_underlying Tryz.underlying73, Instr.fill, cells_agg, cells_one, Value.oneCell', entN, msgV, hdV, edV, SZ_of (P := Tryz.prog) (ti_of (e := 62) (size := 21) (bytes := 152) (by kernel_rfl))]
theorem ent_one2 {c n t k : Nat} {av uv xv : Value} (h1 : av.oneCell' = true) (h2 : uv.oneCell' = true) (h3 : xv.oneCell' = true) : ∀ u ∈ entN c av uv xv n t k, u.oneCell' = true := by
  intro u hu
  simp only [entN, msgV, hdV, edV, List.mem_append, List.mem_cons, List.not_mem_nil, or_false] at hu
  rcases hu with ((rfl | rfl | rfl | rfl | rfl | rfl | rfl | rfl | rfl | rfl | rfl) | (rfl | rfl | rfl | rfl | rfl) | (rfl | rfl | rfl | rfl | rfl)) | (rfl | rfl | rfl) <;> first | rfl | assumption
theorem all24 (es : List (List Value)) (h : ∀ e ∈ es, e.length = 24) : ∀ u ∈ es.map (fun e => Value.agg e.toArray), u.cells.size = 24 := by
  intro u hu
  obtain ⟨e, he, rfl⟩ := List.mem_map.1 hu
  simpa [cells_agg] using h e he
theorem nV_k : VerdK nV := (verdOk_zero (nm := [1, 65, 0]) (kind := 1) (cls := 1) (code := 0) (ans := [nA]) (auth := []) (V := (0, nV, 7)) (by kernel_rfl) rfl ⟨by decide, fun r hr => by rw [List.mem_singleton.1 hr]; decide⟩ ⟨by decide, fun _ h => (List.not_mem_nil h).elim⟩).verdK
theorem verdictNames_spec (w0 : World) (hG : GW w0) : Rets Tryz.prog 11 [] w0 fun r w' => r = .bool true ∧ Ext w0 w' := by
  have hH := Hp.refl w0
  refine rets_start Tryz.func11 rfl Tryz.ntmps11 rfl fun a Q0 hF hret hend => ?_
  simp only [argsFrom, Nat.zero_add, Nat.reduceAdd] at hF
  refine c_sr fun ops => ?_
  refine zm 1 hF rfl fun a hF => ?_
  refine c_n ?_
  replace hF := hF.sel []
  simp only [ss, Nat.reduceBEq] at hF
  refine c_seq fun Q1 k1 t1 => ?_
  refine c_sr fun ops => ?_
  refine zc hF rfl rfl fn39 (awake11_spec _ (hG.ext hH.below)) ?_
  rintro _ w ⟨rfl, hE⟩ a hF
  replace hH := hH.ext hE
  refine zl hF rfl (r_not hF rfl rfl) fun a hF => ?_
  refine zm 1 hF rfl fun a hF => ?_
  refine zl hF rfl (r_pick hF rfl rfl rfl rfl) fun a hF => ?_
  refine c_n ?_
  replace hF := hF.sel [28]
  simp only [ss, Nat.reduceBEq] at hF
  refine c_if hF rfl (fun h28 => ?_) (fun h28 => ?_)
  ·
   try simp only [qq] at h28
   exact absurd h28 (by simp)
  try simp only [qq] at h28
  refine wp_skip ?_
  refine k1 ?_
  refine c_sr fun ops => ?_
  refine zl hF rfl (r_build hF rfl rfl (bd49_0_1_2 _ _ _ _ (rfl) (rfl) (rfl))) fun a hF => ?_
  refine ls_alloc hF hH rfl rfl rfl rfl zv49 ?_
  intro a w g3_1 hH hE hF
  refine ls_storeagg 0 hF hH rfl rfl rfl rfl rfl ti49 rfl (rfl) (rfl) (by simp [Value.oneCell']) ?_
  intro w hH
  simp only [List.set_cons_zero] at hH
  refine c_n ?_
  replace hF := hF.sel [1]
  simp only [ss, Nat.reduceBEq] at hF
  refine c_sr fun ops => ?_
  refine zl hF rfl (r_build hF rfl rfl (bd38_0_1_2_3_4 _ _ _ _ _ _ (rfl) (rfl) (rfl) (rfl) (rfl))) fun a hF => ?_
  refine ls_alloc hF hH rfl rfl rfl rfl zv38 ?_
  intro a w g4_1 hH hE hF
  refine ls_storeagg 0 hF hH rfl rfl rfl rfl rfl ti38 rfl (rfl) (rfl) (by simp [Value.oneCell']) ?_
  intro w hH
  simp only [List.set_cons_zero] at hH
  refine c_n ?_
  replace hF := hF.sel [1, 2]
  simp only [ss, Nat.reduceBEq] at hF
  replace hH : Hp w0 w [(g4_1, .cells (recV nA).toArray 38 (0, 0)), (g3_1, .cells (quV ⟨[1, 65, 0], 1, 1⟩).toArray 49 (0, 0))] := hH
  have fq := own_agg (i := 1) hH rfl
  have fa := own_agg (i := 0) hH rfl
  have hE0 := hH.below
  obtain ⟨w4, hw4⟩ : ∃ w4, w4 = w := ⟨w, rfl⟩
  rw [← hw4] at fq
  rw [← hw4] at fa
  rw [← hw4] at hE0
  replace hH : Hp w4 w [] := by rw [hw4]; exact Hp.refl _
  clear hw4
  refine c_seq fun Q2 k2 t2 => ?_
  refine c_held [.p 0, .p 1, .t 2 3, .o 4, .o 5] (by kernel_rfl) (by kernel_rfl) hH.below fun w hE => ?_
  replace hH := hH.ext hE
  refine hp hF rfl rfl rfl rfl (fun w hH => r_loadagg hF rfl rfl Tryz.underlying38 ti38 rfl (fun j u hu => hH.cell (fa j u hu))) fun a hF => ?_
  refine hp hF rfl rfl rfl rfl (fun w hH => r_loadagg hF rfl rfl Tryz.underlying38 ti38 rfl (fun j u hu => hH.cell (fa j u hu))) fun a hF => ?_
  refine hd_alloc2 hF hH rfl rfl rfl rfl zv38 rfl rfl rfl rfl zv38 rfl ?_
  intro a w g5_2 g5_3 hH hE hF
  refine hd ?_
  refine ls_storeagg 1 hF hH rfl rfl rfl rfl rfl ti38 rfl (rfl) (rfl) (by simp [recV, Value.oneCell']) ?_
  intro w hH
  refine wpList_nil (hd_end hH.below ?_)
  refine hd ?_
  refine ls_storeagg 0 hF hH rfl rfl rfl rfl rfl ti38 rfl (rfl) (rfl) (by simp [recV, Value.oneCell']) ?_
  intro w hH
  simp only [List.set_cons_succ, List.set_cons_zero] at hH
  refine wpList_nil (hd_end hH.below ?_)
  refine hp_end ?_
  replace hF := hF.sel [1, 2, 3, 4]
  simp only [ss, Nat.reduceBEq] at hF
  refine k2 ?_
  refine c_sr fun ops => ?_
  refine zl hF rfl (r_fieldaddr0 hF rfl rfl fd38_3) fun a hF => ?_
  refine ls_store 1 hF hH rfl rfl rfl rfl rfl fl24 ti24 rfl (by simp [recV]) (by simp [noFreeze]) (rfl) ?_
  intro w hH
  refine zl hF rfl (r_fieldaddr0 hF rfl rfl fd38_4) fun a hF => ?_
  refine ls_store 1 hF hH rfl rfl rfl rfl rfl fl9 ti9 rfl (by simp [recV]) (by simp [noFreeze]) (rfl) ?_
  intro w hH
  refine c_n ?_
  replace hF := hF.sel [1, 2, 3, 4]
  simp only [ss, Nat.reduceBEq] at hF
  replace hH : Hp w4 w [(g5_3, .cells (recV nA).toArray 38 (0, 0)), (g5_2, .cells (recV nC).toArray 38 (0, 0))] := hH
  refine c_sr fun ops => ?_
  refine zl hF rfl (r_fieldaddr0 hF rfl rfl fd38_3) fun a hF => ?_
  refine ls_store 0 hF hH rfl rfl rfl rfl rfl fl24 ti24 rfl (by simp [recV]) (by simp [noFreeze]) (rfl) ?_
  intro w hH
  refine c_n ?_
  replace hF := hF.sel [1, 2, 3, 4]
  simp only [ss, Nat.reduceBEq] at hF
  replace hH : Hp w4 w [(g5_3, .cells (recV nD).toArray 38 (0, 0)), (g5_2, .cells (recV nC).toArray 38 (0, 0))] := hH
  refine c_sr fun ops => ?_
  refine zl hF rfl (r_build hF rfl rfl (bd38_0_1_2_3_4 _ _ _ _ _ _ (rfl) (rfl) (rfl) (rfl) (rfl))) fun a hF => ?_
  refine ls_alloc hF hH rfl rfl rfl rfl zv38 ?_
  intro a w g8_1 hH hE hF
  refine ls_storeagg 0 hF hH rfl rfl rfl rfl rfl ti38 rfl (rfl) (rfl) (by simp [Value.oneCell']) ?_
  intro w hH
  simp only [List.set_cons_zero] at hH
  refine c_n ?_
  replace hF := hF.sel [1, 2, 3, 4, 5]
  simp only [ss, Nat.reduceBEq] at hF
  refine c_sr fun ops => ?_
  refine zl hF rfl (r_loadagg hF rfl rfl Tryz.underlying38 ti38 rfl (fun j u hu => hH.cell (fa j u hu))) fun a hF => ?_
  refine ls_alloc hF hH rfl rfl rfl rfl zv38 ?_
  intro a w g9_1 hH hE hF
  refine ls_storeagg 0 hF hH rfl rfl rfl rfl rfl ti38 rfl (rfl) (rfl) (by simp [recV, Value.oneCell']) ?_
  intro w hH
  simp only [List.set_cons_zero] at hH
  refine c_n ?_
  replace hF := hF.sel [1, 2, 3, 4, 5, 6]
  simp only [ss, Nat.reduceBEq] at hF
  refine c_sr fun ops => ?_
  refine zl hF rfl (r_fieldaddr0 hF rfl rfl fd38_0) fun a hF => ?_
  refine ls_store 0 hF hH rfl rfl rfl rfl rfl fl9 ti9 rfl (by simp [recV]) (by simp [noFreeze]) (rfl) ?_
  intro w hH
  refine c_n ?_
  replace hF := hF.sel [1, 2, 3, 4, 5, 6]
  simp only [ss, Nat.reduceBEq] at hF
  replace hH : Hp w4 w [(g9_1, .cells (recV nB).toArray 38 (0, 0)), (g8_1, .cells (recV nF).toArray 38 (0, 0)), (g5_3, .cells (recV nD).toArray 38 (0, 0)), (g5_2, .cells (recV nC).toArray 38 (0, 0))] := hH
  refine c_sr fun ops => ?_
  refine zc hF rfl rfl fn44 (zone_spec [0] 9 9 9 rfl _) ?_
  rintro _ w ⟨rfl, hE⟩ a hF
  replace hH := hH.ext hE
  refine zc hF rfl rfl fn44 (zone_spec [0] 9 9 9 rfl _) ?_
  rintro _ w ⟨rfl, hE⟩ a hF
  replace hH := hH.ext hE
  refine ls_buildN (us := [_, _]) hF hH rfl rfl rfl rfl rfl rfl Tryz.underlying34 ti38 (by intro u hu; simp only [List.mem_cons, List.not_mem_nil, or_false] at hu; rcases hu with rfl | rfl <;> rfl) (by decide) ?_
  intro a w g11_2 hH hE hF
  refine zm 1 hF rfl fun a hF => ?_
  refine c_n ?_
  replace hF := hF.sel [1, 2, 3, 4, 5, 6, 7]
  simp only [ss, Nat.reduceBEq] at hF
  replace hH : Hp w4 w [(g11_2, .cells (recsV [zA, zA]).toArray 38 (0, 0)), (g9_1, .cells (recV nB).toArray 38 (0, 0)), (g8_1, .cells (recV nF).toArray 38 (0, 0)), (g5_3, .cells (recV nD).toArray 38 (0, 0)), (g5_2, .cells (recV nC).toArray 38 (0, 0))] := hH
  refine c_sr fun ops => ?_
  refine zm 2 hF rfl fun a hF => ?_
  refine zl hF rfl (r_ixown hF 1 rfl rfl rfl Tryz.underlying34 ti38 (by omega)) fun a hF => ?_
  refine zl hF rfl (r_fieldaddr hF rfl rfl fd38_4) fun a hF => ?_
  refine zl hF rfl (r_load hF rfl rfl fl9 (own_cell (i := 0) hH rfl (v := .string (mk zA.data)) rfl)) fun a hF => ?_
  refine zb hF rfl rfl rfl (b_sadd _ [1, 120] _ (by decide)) fun a hF => ?_
  refine zl hF rfl (r_ixown hF 1 rfl rfl rfl Tryz.underlying34 ti38 (by omega)) fun a hF => ?_
  refine zl hF rfl (r_fieldaddr hF rfl rfl fd38_4) fun a hF => ?_
  refine ls_store 0 hF hH rfl rfl rfl rfl rfl fl9 ti9 rfl (by simp [recsV, recV]) (by simp [noFreeze]) (rfl) ?_
  intro w hH
  refine c_n ?_
  replace hF := hF.sel [1, 2, 3, 4, 5, 6, 7]
  simp only [ss, Nat.reduceBEq] at hF
  replace hH : Hp w4 w [(g11_2, .cells (recsV [zA, zB]).toArray 38 (0, 0)), (g9_1, .cells (recV nB).toArray 38 (0, 0)), (g8_1, .cells (recV nF).toArray 38 (0, 0)), (g5_3, .cells (recV nD).toArray 38 (0, 0)), (g5_2, .cells (recV nC).toArray 38 (0, 0))] := hH
  have hz : RSl w 5 (.slice (some ⟨g11_2, 0, none⟩) 2 2) 2 (recsV [zA, zB]) := rsl_lit (n := 2) (size := 5) hH rfl (by decide)
  have hz1 : RSl w 5 (.slice (some ⟨g11_2, 0, none⟩) 1 2) 1 (recsV [zA]) := sub_rsl (l := 0) (h := 1) hz (by decide) (by decide)
  have fb := own_agg (i := 1) hH rfl
  have ff := own_agg (i := 2) hH rfl
  have fd := own_agg (i := 3) hH rfl
  have fc := own_agg (i := 4) hH rfl
  replace fq := fun j u hu => hH.cell (fq j u hu)
  replace fa := fun j u hu => hH.cell (fa j u hu)
  replace hE0 := hE0.trans hH.below
  obtain ⟨w12, hw12⟩ : ∃ w12, w12 = w := ⟨w, rfl⟩
  rw [← hw12] at fb
  rw [← hw12] at ff
  rw [← hw12] at fd
  rw [← hw12] at fc
  rw [← hw12] at fq
  rw [← hw12] at fa
  rw [← hw12] at hz
  rw [← hw12] at hz1
  rw [← hw12] at hE0
  replace hH : Hp w12 w [] := by rw [hw12]; exact Hp.refl _
  clear hw12
  refine c_seq fun Q3 k3 t3 => ?_
  refine c_seq fun Q4 k4 t4 => ?_
  refine c_flow [41, 46, 50, 51, 69] [0, 1, 2, 3, 4, 5, 6, 7, 8, 9, 10, 11, 12, 13, 14, 15, 16, 17, 18, 19, 20, 21, 22, 23, 24, 25, 26, 27, 28, 29, 30, 31, 32, 33, 34, 35, 36, 37, 38, 39, 40, 42, 43, 44, 45, 47, 48, 49, 52, 53, 54, 55, 56, 57, 58, 59, 60, 61, 62, 63, 64, 65, 66] [67, 68] [] (by kernel_rfl) (by kernel_rfl) fun hB => ?_
  refine ps hF rfl rfl rfl rfl (fun w => r_move hF rfl rfl) fun a hF => ?_
  refine ps hF rfl rfl rfl rfl (fun w => r_move hF rfl rfl) fun a hF => ?_
  refine ps hF rfl rfl rfl rfl (fun w => r_move hF rfl rfl) fun a hF => ?_
  refine ps hF rfl rfl rfl rfl (fun w => r_slice_sl hF 0 1 rfl rfl Tryz.underlying34 ti38 rfl ⟨_, rfl⟩ (⟨by omega, by omega⟩)) fun a hF => ?_
  refine ps hF rfl rfl rfl rfl (fun w => r_move hF rfl rfl) fun a hF => ?_
  refine fl_start [50, 51, 52, 53, 54, 55, 56, 57, 58, 59, 60, 61, 62, 63, 64, 65, 66, 67, 68, 69, 70, 71, 72, 73, 74, 75, 76, 77, 78, 79, 80, 81, 82, 83, 84, 85, 86, 87, 88, 89, 90, 92, 93, 94, 95, 97, 98, 99, 102, 103, 104, 105, 106, 107, 108, 109, 110, 111, 112, 113, 114, 115, 116] hB (by kernel_rfl) hF ?_
  simp only [wo, hasN, Nat.reduceBEq, cond_true, cond_false] at hF ⊢
  refine fs1 rfl (by
   intro a w Lr hE hC hl
   replace hH := hH.ext hE
   have hF := hC.fr
   exact zl hF rfl (r_loadagg hF rfl rfl Tryz.underlying38 ti38 rfl (fun j u hu => hH.cell (fa j u hu))) fun a' hF' => wpList_nil (fl_end hC hF' (Ext.refl _) rfl)) ?_
  refine fs (fun v w' => RSl w' 5 v 1 (recsV [nA])) rfl (fun _ _ _ he h => h.ext he) ?_ ?_
  ·
   intro a w Lr hE hC hl
   replace hH := hH.ext hE
   obtain ⟨_, s50, rfl⟩ := hl 50 (by decide) _ rfl
   replace hC := hC.more s50
   have hF := hC.fr
   refine ls_build1 hF (Hp.refl w) rfl rfl rfl rfl rfl Tryz.underlying34 ti38 rfl (by decide) ?_
   intro a' w' g hH' hE' hF'
   exact wpList_nil (fl_end hC hF' hE' (rsl_lit (n := 1) (size := 5) hH' rfl (by decide)))
  refine fs (fun v w' => MsgB w' v 0 [nA] []) rfl (fun _ _ _ he h => h.ext he) ?_ ?_
  ·
   intro a w Lr hE hC hl
   replace hH := hH.ext hE
   obtain ⟨v51, s51, p51⟩ := hl 51 (by decide) _ rfl
   replace hC := hC.more s51
   have hF := hC.fr
   refine zl hF rfl (r_build hF rfl rfl (bdm_a _ [] [] v51 p51.oneN)) fun a' hF' => wpList_nil (fl_end hC hF' (Ext.refl _) ?_)
   exact ⟨v51, nilV, nilV, rfl, p51, (RSl.nil _ _), rfl⟩
  refine fs (fun v w' => EntB w' v) rfl (fun _ _ _ he h => h.ext he) ?_ ?_
  ·
   intro a w Lr hE hC hl
   replace hH := hH.ext hE
   obtain ⟨v52, s52, p52⟩ := hl 52 (by decide) _ rfl
   replace hC := hC.more s52
   obtain ⟨av, uv, xv, rfl, h1, h2, h3⟩ := p52
   have hF := hC.fr
   refine zl hF rfl (r_build hF rfl rfl (bde _ _ _ _ _ 1 7 0)) fun a' hF' => wpList_nil (fl_end hC hF' (Ext.refl _) ?_)
   exact nrow0 h1 h2 h3
  refine fs1 rfl (by
   intro a w Lr hE hC hl
   replace hH := hH.ext hE
   have hF := hC.fr
   exact zl hF rfl (r_loadagg hF rfl rfl Tryz.underlying38 ti38 rfl (fun j u hu => hH.cell (fa j u hu))) fun a' hF' => wpList_nil (fl_end hC hF' (Ext.refl _) rfl)) ?_
  refine fs1 rfl (by
   intro a w Lr hE hC hl
   replace hH := hH.ext hE
   have hF := hC.fr
   exact zl hF rfl (r_loadagg hF rfl rfl Tryz.underlying38 ti38 rfl (fun j u hu => hH.cell (fc j u hu))) fun a' hF' => wpList_nil (fl_end hC hF' (Ext.refl _) rfl)) ?_
  refine fs1 rfl (by
   intro a w Lr hE hC hl
   replace hH := hH.ext hE
   have hF := hC.fr
   exact zl hF rfl (r_loadagg hF rfl rfl Tryz.underlying38 ti38 rfl (fun j u hu => hH.cell (fb j u hu))) fun a' hF' => wpList_nil (fl_end hC hF' (Ext.refl _) rfl)) ?_
  refine fs (fun v w' => RSl w' 5 v 3 (recsV [nA, nC, nB])) rfl (fun _ _ _ he h => h.ext he) ?_ ?_
  ·
   intro a w Lr hE hC hl
   replace hH := hH.ext hE
   obtain ⟨_, s54, rfl⟩ := hl 54 (by decide) _ rfl
   replace hC := hC.more s54
   obtain ⟨_, s55, rfl⟩ := hl 55 (by decide) _ rfl
   replace hC := hC.more s55
   obtain ⟨_, s56, rfl⟩ := hl 56 (by decide) _ rfl
   replace hC := hC.more s56
   have hF := hC.fr
   refine ls_buildN (us := [_, _, _]) hF (Hp.refl w) rfl rfl rfl rfl rfl rfl Tryz.underlying34 ti38 (by intro u hu; simp only [List.mem_cons, List.not_mem_nil, or_false] at hu; rcases hu with rfl | rfl | rfl <;> rfl) (by decide) ?_
   intro a' w' g hH' hE' hF'
   exact wpList_nil (fl_end hC hF' hE' (rsl_lit (n := 3) (size := 5) hH' rfl (by decide)))
  refine fs (fun v w' => MsgB w' v 0 [nA, nC, nB] []) rfl (fun _ _ _ he h => h.ext he) ?_ ?_
  ·
   intro a w Lr hE hC hl
   replace hH := hH.ext hE
   obtain ⟨v57, s57, p57⟩ := hl 57 (by decide) _ rfl
   replace hC := hC.more s57
   have hF := hC.fr
   refine zl hF rfl (r_build hF rfl rfl (bdm_a _ [] [] v57 p57.oneN)) fun a' hF' => wpList_nil (fl_end hC hF' (Ext.refl _) ?_)
   exact ⟨v57, nilV, nilV, rfl, p57, (RSl.nil _ _), rfl⟩
  refine fs (fun v w' => EntB w' v) rfl (fun _ _ _ he h => h.ext he) ?_ ?_
  ·
   intro a w Lr hE hC hl
   replace hH := hH.ext hE
   obtain ⟨v58, s58, p58⟩ := hl 58 (by decide) _ rfl
   replace hC := hC.more s58
   obtain ⟨av, uv, xv, rfl, h1, h2, h3⟩ := p58
   have hF := hC.fr
   refine zl hF rfl (r_build hF rfl rfl (bde _ _ _ _ _ 1 7 0)) fun a' hF' => wpList_nil (fl_end hC hF' (Ext.refl _) ?_)
   exact nrow1 h1 h2 h3
  refine fs1 rfl (by
   intro a w Lr hE hC hl
   replace hH := hH.ext hE
   have hF := hC.fr
   exact zl hF rfl (r_loadagg hF rfl rfl Tryz.underlying38 ti38 rfl (fun j u hu => hH.cell (fc j u hu))) fun a' hF' => wpList_nil (fl_end hC hF' (Ext.refl _) rfl)) ?_
  refine fs (fun v w' => RSl w' 5 v 1 (recsV [nC])) rfl (fun _ _ _ he h => h.ext he) ?_ ?_
  ·
   intro a w Lr hE hC hl
   replace hH := hH.ext hE
   obtain ⟨_, s60, rfl⟩ := hl 60 (by decide) _ rfl
   replace hC := hC.more s60
   have hF := hC.fr
   refine ls_build1 hF (Hp.refl w) rfl rfl rfl rfl rfl Tryz.underlying34 ti38 rfl (by decide) ?_
   intro a' w' g hH' hE' hF'
   exact wpList_nil (fl_end hC hF' hE' (rsl_lit (n := 1) (size := 5) hH' rfl (by decide)))
  refine fs (fun v w' => MsgB w' v 0 [nC] []) rfl (fun _ _ _ he h => h.ext he) ?_ ?_
  ·
   intro a w Lr hE hC hl
   replace hH := hH.ext hE
   obtain ⟨v61, s61, p61⟩ := hl 61 (by decide) _ rfl
   replace hC := hC.more s61
   have hF := hC.fr
   refine zl hF rfl (r_build hF rfl rfl (bdm_a _ [] [] v61 p61.oneN)) fun a' hF' => wpList_nil (fl_end hC hF' (Ext.refl _) ?_)
   exact ⟨v61, nilV, nilV, rfl, p61, (RSl.nil _ _), rfl⟩
  refine fs (fun v w' => EntB w' v) rfl (fun _ _ _ he h => h.ext he) ?_ ?_
  ·
   intro a w Lr hE hC hl
   replace hH := hH.ext hE
   obtain ⟨v62, s62, p62⟩ := hl 62 (by decide) _ rfl
   replace hC := hC.more s62
   obtain ⟨av, uv, xv, rfl, h1, h2, h3⟩ := p62
   have hF := hC.fr
   refine zl hF rfl (r_build hF rfl rfl (bde _ _ _ _ _ 1 2147483647 0)) fun a' hF' => wpList_nil (fl_end hC hF' (Ext.refl _) ?_)
   exact nrow2 h1 h2 h3
  refine fs1 rfl (by
   intro a w Lr hE hC hl
   replace hH := hH.ext hE
   have hF := hC.fr
   exact zl hF rfl (r_loadagg hF rfl rfl Tryz.underlying38 ti38 rfl (fun j u hu => hH.cell (fa j u hu))) fun a' hF' => wpList_nil (fl_end hC hF' (Ext.refl _) rfl)) ?_
  refine fs1 rfl (by
   intro a w Lr hE hC hl
   replace hH := hH.ext hE
   have hF := hC.fr
   exact zl hF rfl (r_loadagg hF rfl rfl Tryz.underlying38 ti38 rfl (fun j u hu => hH.cell (fd j u hu))) fun a' hF' => wpList_nil (fl_end hC hF' (Ext.refl _) rfl)) ?_
  refine fs (fun v w' => RSl w' 5 v 2 (recsV [nA, nD])) rfl (fun _ _ _ he h => h.ext he) ?_ ?_
  ·
   intro a w Lr hE hC hl
   replace hH := hH.ext hE
   obtain ⟨_, s64, rfl⟩ := hl 64 (by decide) _ rfl
   replace hC := hC.more s64
   obtain ⟨_, s65, rfl⟩ := hl 65 (by decide) _ rfl
   replace hC := hC.more s65
   have hF := hC.fr
   refine ls_buildN (us := [_, _]) hF (Hp.refl w) rfl rfl rfl rfl rfl rfl Tryz.underlying34 ti38 (by intro u hu; simp only [List.mem_cons, List.not_mem_nil, or_false] at hu; rcases hu with rfl | rfl <;> rfl) (by decide) ?_
   intro a' w' g hH' hE' hF'
   exact wpList_nil (fl_end hC hF' hE' (rsl_lit (n := 2) (size := 5) hH' rfl (by decide)))
  refine fs (fun v w' => MsgB w' v 0 [nA, nD] []) rfl (fun _ _ _ he h => h.ext he) ?_ ?_
  ·
   intro a w Lr hE hC hl
   replace hH := hH.ext hE
   obtain ⟨v66, s66, p66⟩ := hl 66 (by decide) _ rfl
   replace hC := hC.more s66
   have hF := hC.fr
   refine zl hF rfl (r_build hF rfl rfl (bdm_a _ [] [] v66 p66.oneN)) fun a' hF' => wpList_nil (fl_end hC hF' (Ext.refl _) ?_)
   exact ⟨v66, nilV, nilV, rfl, p66, (RSl.nil _ _), rfl⟩
  refine fs (fun v w' => EntB w' v) rfl (fun _ _ _ he h => h.ext he) ?_ ?_
  ·
   intro a w Lr hE hC hl
   replace hH := hH.ext hE
   obtain ⟨v67, s67, p67⟩ := hl 67 (by decide) _ rfl
   replace hC := hC.more s67
   obtain ⟨av, uv, xv, rfl, h1, h2, h3⟩ := p67
   have hF := hC.fr
   refine zl hF rfl (r_build hF rfl rfl (bde _ _ _ _ _ 1 0 0)) fun a' hF' => wpList_nil (fl_end hC hF' (Ext.refl _) ?_)
   exact nrow3 h1 h2 h3
  refine fs1 rfl (by
   intro a w Lr hE hC hl
   replace hH := hH.ext hE
   have hF := hC.fr
   exact zl hF rfl (r_build hF rfl rfl (bd56_10 _ _ (rfl))) fun a' hF' => wpList_nil (fl_end hC hF' (Ext.refl _) rfl)) ?_
  refine fs1 rfl (by
   intro a w Lr hE hC hl
   replace hH := hH.ext hE
   have hF := hC.fr
   exact zl hF rfl (r_loadagg hF rfl rfl Tryz.underlying38 ti38 rfl (fun j u hu => hH.cell (fa j u hu))) fun a' hF' => wpList_nil (fl_end hC hF' (Ext.refl _) rfl)) ?_
  refine fs (fun v w' => RSl w' 5 v 1 (recsV [nA])) rfl (fun _ _ _ he h => h.ext he) ?_ ?_
  ·
   intro a w Lr hE hC hl
   replace hH := hH.ext hE
   obtain ⟨_, s70, rfl⟩ := hl 70 (by decide) _ rfl
   replace hC := hC.more s70
   have hF := hC.fr
   refine ls_build1 hF (Hp.refl w) rfl rfl rfl rfl rfl Tryz.underlying34 ti38 rfl (by decide) ?_
   intro a' w' g hH' hE' hF'
   exact wpList_nil (fl_end hC hF' hE' (rsl_lit (n := 1) (size := 5) hH' rfl (by decide)))
  refine fs (fun v w' => MsgB w' v 3 [nA] []) rfl (fun _ _ _ he h => h.ext he) ?_ ?_
  ·
   intro a w Lr hE hC hl
   replace hH := hH.ext hE
   obtain ⟨_, s69, rfl⟩ := hl 69 (by decide) _ rfl
   replace hC := hC.more s69
   obtain ⟨v71, s71, p71⟩ := hl 71 (by decide) _ rfl
   replace hC := hC.more s71
   have hF := hC.fr
   refine zl hF rfl (r_build hF rfl rfl (bdm_ha _ 3 [] [] v71 p71.oneN)) fun a' hF' => wpList_nil (fl_end hC hF' (Ext.refl _) ?_)
   exact ⟨v71, nilV, nilV, rfl, p71, (RSl.nil _ _), rfl⟩
  refine fs (fun v w' => EntB w' v) rfl (fun _ _ _ he h => h.ext he) ?_ ?_
  ·
   intro a w Lr hE hC hl
   replace hH := hH.ext hE
   obtain ⟨v72, s72, p72⟩ := hl 72 (by decide) _ rfl
   replace hC := hC.more s72
   obtain ⟨av, uv, xv, rfl, h1, h2, h3⟩ := p72
   have hF := hC.fr
   refine zl hF rfl (r_build hF rfl rfl (bde _ _ _ _ _ 0 0 3)) fun a' hF' => wpList_nil (fl_end hC hF' (Ext.refl _) ?_)
   exact nrow4 h1 h2 h3
  refine fs1 rfl (by
   intro a w Lr hE hC hl
   replace hH := hH.ext hE
   have hF := hC.fr
   exact zl hF rfl (r_build hF rfl rfl (bd56_10 _ _ (rfl))) fun a' hF' => wpList_nil (fl_end hC hF' (Ext.refl _) rfl)) ?_
  refine fs1 rfl (by
   intro a w Lr hE hC hl
   replace hH := hH.ext hE
   have hF := hC.fr
   exact zl hF rfl (r_loadagg hF rfl rfl Tryz.underlying38 ti38 rfl (fun j u hu => hH.cell (fa j u hu))) fun a' hF' => wpList_nil (fl_end hC hF' (Ext.refl _) rfl)) ?_
  refine fs (fun v w' => RSl w' 5 v 1 (recsV [nA])) rfl (fun _ _ _ he h => h.ext he) ?_ ?_
  ·
   intro a w Lr hE hC hl
   replace hH := hH.ext hE
   obtain ⟨_, s75, rfl⟩ := hl 75 (by decide) _ rfl
   replace hC := hC.more s75
   have hF := hC.fr
   refine ls_build1 hF (Hp.refl w) rfl rfl rfl rfl rfl Tryz.underlying34 ti38 rfl (by decide) ?_
   intro a' w' g hH' hE' hF'
   exact wpList_nil (fl_end hC hF' hE' (rsl_lit (n := 1) (size := 5) hH' rfl (by decide)))
  refine fs (fun v w' => MsgB w' v 2 [nA] []) rfl (fun _ _ _ he h => h.ext he) ?_ ?_
  ·
   intro a w Lr hE hC hl
   replace hH := hH.ext hE
   obtain ⟨_, s74, rfl⟩ := hl 74 (by decide) _ rfl
   replace hC := hC.more s74
   obtain ⟨v76, s76, p76⟩ := hl 76 (by decide) _ rfl
   replace hC := hC.more s76
   have hF := hC.fr
   refine zl hF rfl (r_build hF rfl rfl (bdm_ha _ 2 [] [] v76 p76.oneN)) fun a' hF' => wpList_nil (fl_end hC hF' (Ext.refl _) ?_)
   exact ⟨v76, nilV, nilV, rfl, p76, (RSl.nil _ _), rfl⟩
  refine fs (fun v w' => EntB w' v) rfl (fun _ _ _ he h => h.ext he) ?_ ?_
  ·
   intro a w Lr hE hC hl
   replace hH := hH.ext hE
   obtain ⟨v77, s77, p77⟩ := hl 77 (by decide) _ rfl
   replace hC := hC.more s77
   obtain ⟨av, uv, xv, rfl, h1, h2, h3⟩ := p77
   have hF := hC.fr
   refine zl hF rfl (r_build hF rfl rfl (bde _ _ _ _ _ 0 0 1)) fun a' hF' => wpList_nil (fl_end hC hF' (Ext.refl _) ?_)
   exact nrow5 h1 h2 h3
  refine fs1 rfl (by
   intro a w Lr hE hC hl
   replace hH := hH.ext hE
   have hF := hC.fr
   exact zl hF rfl (r_build hF rfl rfl (bd56_10 _ _ (rfl))) fun a' hF' => wpList_nil (fl_end hC hF' (Ext.refl _) rfl)) ?_
  refine fs (fun v w' => MsgB w' v 19 [] []) rfl (fun _ _ _ he h => h.ext he) ?_ ?_
  ·
   intro a w Lr hE hC hl
   replace hH := hH.ext hE
   obtain ⟨_, s79, rfl⟩ := hl 79 (by decide) _ rfl
   replace hC := hC.more s79
   have hF := hC.fr
   refine zl hF rfl (r_build hF rfl rfl (bdm_h _ 19 [] [])) fun a' hF' => wpList_nil (fl_end hC hF' (Ext.refl _) ?_)
   exact ⟨nilV, nilV, nilV, rfl, (RSl.nil _ _), (RSl.nil _ _), rfl⟩
  refine fs (fun v w' => EntB w' v) rfl (fun _ _ _ he h => h.ext he) ?_ ?_
  ·
   intro a w Lr hE hC hl
   replace hH := hH.ext hE
   obtain ⟨v80, s80, p80⟩ := hl 80 (by decide) _ rfl
   replace hC := hC.more s80
   obtain ⟨av, uv, xv, rfl, h1, h2, h3⟩ := p80
   have hF := hC.fr
   refine zl hF rfl (r_build hF rfl rfl (bde _ _ _ _ _ 0 0 1)) fun a' hF' => wpList_nil (fl_end hC hF' (Ext.refl _) ?_)
   exact nrow6 h1 h2 h3
  refine fs1 rfl (by
   intro a w Lr hE hC hl
   replace hH := hH.ext hE
   have hF := hC.fr
   exact zl hF rfl (r_loadagg hF rfl rfl Tryz.underlying38 ti38 rfl (fun j u hu => hH.cell (ff j u hu))) fun a' hF' => wpList_nil (fl_end hC hF' (Ext.refl _) rfl)) ?_
  refine fs (fun v w' => RSl w' 5 v 1 (recsV [nF])) rfl (fun _ _ _ he h => h.ext he) ?_ ?_
  ·
   intro a w Lr hE hC hl
   replace hH := hH.ext hE
   obtain ⟨_, s82, rfl⟩ := hl 82 (by decide) _ rfl
   replace hC := hC.more s82
   have hF := hC.fr
   refine ls_build1 hF (Hp.refl w) rfl rfl rfl rfl rfl Tryz.underlying34 ti38 rfl (by decide) ?_
   intro a' w' g hH' hE' hF'
   exact wpList_nil (fl_end hC hF' hE' (rsl_lit (n := 1) (size := 5) hH' rfl (by decide)))
  refine fs (fun v w' => MsgB w' v 0 [nF] []) rfl (fun _ _ _ he h => h.ext he) ?_ ?_
  ·
   intro a w Lr hE hC hl
   replace hH := hH.ext hE
   obtain ⟨v83, s83, p83⟩ := hl 83 (by decide) _ rfl
   replace hC := hC.more s83
   have hF := hC.fr
   refine zl hF rfl (r_build hF rfl rfl (bdm_a _ [] [] v83 p83.oneN)) fun a' hF' => wpList_nil (fl_end hC hF' (Ext.refl _) ?_)
   exact ⟨v83, nilV, nilV, rfl, p83, (RSl.nil _ _), rfl⟩
  refine fs (fun v w' => EntB w' v) rfl (fun _ _ _ he h => h.ext he) ?_ ?_
  ·
   intro a w Lr hE hC hl
   replace hH := hH.ext hE
   obtain ⟨v84, s84, p84⟩ := hl 84 (by decide) _ rfl
   replace hC := hC.more s84
   obtain ⟨av, uv, xv, rfl, h1, h2, h3⟩ := p84
   have hF := hC.fr
   refine zl hF rfl (r_build hF rfl rfl (bde _ _ _ _ _ 0 0 8)) fun a' hF' => wpList_nil (fl_end hC hF' (Ext.refl _) ?_)
   exact nrow7 h1 h2 h3
  refine fs1 rfl (by
   intro a w Lr hE hC hl
   replace hH := hH.ext hE
   have hF := hC.fr
   exact zl hF rfl (r_loadagg hF rfl rfl Tryz.underlying38 ti38 rfl (fun j u hu => hH.cell (ff j u hu))) fun a' hF' => wpList_nil (fl_end hC hF' (Ext.refl _) rfl)) ?_
  refine fs1 rfl (by
   intro a w Lr hE hC hl
   replace hH := hH.ext hE
   have hF := hC.fr
   exact zl hF rfl (r_loadagg hF rfl rfl Tryz.underlying38 ti38 rfl (fun j u hu => hH.cell (fa j u hu))) fun a' hF' => wpList_nil (fl_end hC hF' (Ext.refl _) rfl)) ?_
  refine fs (fun v w' => RSl w' 5 v 2 (recsV [nF, nA])) rfl (fun _ _ _ he h => h.ext he) ?_ ?_
  ·
   intro a w Lr hE hC hl
   replace hH := hH.ext hE
   obtain ⟨_, s86, rfl⟩ := hl 86 (by decide) _ rfl
   replace hC := hC.more s86
   obtain ⟨_, s87, rfl⟩ := hl 87 (by decide) _ rfl
   replace hC := hC.more s87
   have hF := hC.fr
   refine ls_buildN (us := [_, _]) hF (Hp.refl w) rfl rfl rfl rfl rfl rfl Tryz.underlying34 ti38 (by intro u hu; simp only [List.mem_cons, List.not_mem_nil, or_false] at hu; rcases hu with rfl | rfl <;> rfl) (by decide) ?_
   intro a' w' g hH' hE' hF'
   exact wpList_nil (fl_end hC hF' hE' (rsl_lit (n := 2) (size := 5) hH' rfl (by decide)))
  refine fs (fun v w' => MsgB w' v 0 [nF, nA] []) rfl (fun _ _ _ he h => h.ext he) ?_ ?_
  ·
   intro a w Lr hE hC hl
   replace hH := hH.ext hE
   obtain ⟨v88, s88, p88⟩ := hl 88 (by decide) _ rfl
   replace hC := hC.more s88
   have hF := hC.fr
   refine zl hF rfl (r_build hF rfl rfl (bdm_a _ [] [] v88 p88.oneN)) fun a' hF' => wpList_nil (fl_end hC hF' (Ext.refl _) ?_)
   exact ⟨v88, nilV, nilV, rfl, p88, (RSl.nil _ _), rfl⟩
  refine fs (fun v w' => EntB w' v) rfl (fun _ _ _ he h => h.ext he) ?_ ?_
  ·
   intro a w Lr hE hC hl
   replace hH := hH.ext hE
   obtain ⟨v89, s89, p89⟩ := hl 89 (by decide) _ rfl
   replace hC := hC.more s89
   obtain ⟨av, uv, xv, rfl, h1, h2, h3⟩ := p89
   have hF := hC.fr
   refine zl hF rfl (r_build hF rfl rfl (bde _ _ _ _ _ 0 0 3)) fun a' hF' => wpList_nil (fl_end hC hF' (Ext.refl _) ?_)
   exact nrow8 h1 h2 h3
  refine fs (fun v w' => MsgB w' v 0 [] [zA, zB]) rfl (fun _ _ _ he h => h.ext he) ?_ ?_
  ·
   intro a w Lr hE hC hl
   replace hH := hH.ext hE
   have hF := hC.fr
   refine zl hF rfl (r_build hF rfl rfl (bdm_u _ _ rfl)) fun a' hF' => wpList_nil (fl_end hC hF' (Ext.refl _) ?_)
   exact ⟨nilV, _, nilV, rfl, (RSl.nil _ _), (hz.ext hH.below), rfl⟩
  refine fs (fun v w' => EntB w' v) rfl (fun _ _ _ he h => h.ext he) ?_ ?_
  ·
   intro a w Lr hE hC hl
   replace hH := hH.ext hE
   obtain ⟨v92, s92, p92⟩ := hl 92 (by decide) _ rfl
   replace hC := hC.more s92
   obtain ⟨av, uv, xv, rfl, h1, h2, h3⟩ := p92
   have hF := hC.fr
   refine zl hF rfl (r_build hF rfl rfl (bde _ _ _ _ _ 0 0 3)) fun a' hF' => wpList_nil (fl_end hC hF' (Ext.refl _) ?_)
   exact nrow9 h1 h2 h3
  refine fs1 rfl (by
   intro a w Lr hE hC hl
   replace hH := hH.ext hE
   have hF := hC.fr
   exact zl hF rfl (r_loadagg hF rfl rfl Tryz.underlying38 ti38 rfl (fun j u hu => hH.cell (fa j u hu))) fun a' hF' => wpList_nil (fl_end hC hF' (Ext.refl _) rfl)) ?_
  refine fs (fun v w' => RSl w' 5 v 1 (recsV [nA])) rfl (fun _ _ _ he h => h.ext he) ?_ ?_
  ·
   intro a w Lr hE hC hl
   replace hH := hH.ext hE
   obtain ⟨_, s94, rfl⟩ := hl 94 (by decide) _ rfl
   replace hC := hC.more s94
   have hF := hC.fr
   refine ls_build1 hF (Hp.refl w) rfl rfl rfl rfl rfl Tryz.underlying34 ti38 rfl (by decide) ?_
   intro a' w' g hH' hE' hF'
   exact wpList_nil (fl_end hC hF' hE' (rsl_lit (n := 1) (size := 5) hH' rfl (by decide)))
  refine fs (fun v w' => MsgB w' v 0 [nA] [zA, zB]) rfl (fun _ _ _ he h => h.ext he) ?_ ?_
  ·
   intro a w Lr hE hC hl
   replace hH := hH.ext hE
   obtain ⟨v95, s95, p95⟩ := hl 95 (by decide) _ rfl
   replace hC := hC.more s95
   have hF := hC.fr
   refine zl hF rfl (r_build hF rfl rfl (bdm_au _ v95 _ p95.oneN rfl)) fun a' hF' => wpList_nil (fl_end hC hF' (Ext.refl _) ?_)
   exact ⟨v95, _, nilV, rfl, p95, (hz.ext hH.below), rfl⟩
  refine fs (fun v w' => EntB w' v) rfl (fun _ _ _ he h => h.ext he) ?_ ?_
  ·
   intro a w Lr hE hC hl
   replace hH := hH.ext hE
   obtain ⟨v97, s97, p97⟩ := hl 97 (by decide) _ rfl
   replace hC := hC.more s97
   obtain ⟨av, uv, xv, rfl, h1, h2, h3⟩ := p97
   have hF := hC.fr
   refine zl hF rfl (r_build hF rfl rfl (bde _ _ _ _ _ 1 7 0)) fun a' hF' => wpList_nil (fl_end hC hF' (Ext.refl _) ?_)
   exact nrow10 h1 h2 h3
  refine fs1 rfl (by
   intro a w Lr hE hC hl
   replace hH := hH.ext hE
   have hF := hC.fr
   exact zl hF rfl (r_build hF rfl rfl (bd56_10 _ _ (rfl))) fun a' hF' => wpList_nil (fl_end hC hF' (Ext.refl _) rfl)) ?_
  refine fs (fun v w' => MsgB w' v 3 [] [zA]) rfl (fun _ _ _ he h => h.ext he) ?_ ?_
  ·
   intro a w Lr hE hC hl
   replace hH := hH.ext hE
   obtain ⟨_, s99, rfl⟩ := hl 99 (by decide) _ rfl
   replace hC := hC.more s99
   have hF := hC.fr
   refine zl hF rfl (r_build hF rfl rfl (bdm_hu _ 3 [] [] _ rfl)) fun a' hF' => wpList_nil (fl_end hC hF' (Ext.refl _) ?_)
   exact ⟨nilV, _, nilV, rfl, (RSl.nil _ _), (hz1.ext hH.below), rfl⟩
  refine fs (fun v w' => EntB w' v) rfl (fun _ _ _ he h => h.ext he) ?_ ?_
  ·
   intro a w Lr hE hC hl
   replace hH := hH.ext hE
   obtain ⟨v102, s102, p102⟩ := hl 102 (by decide) _ rfl
   replace hC := hC.more s102
   obtain ⟨av, uv, xv, rfl, h1, h2, h3⟩ := p102
   have hF := hC.fr
   refine zl hF rfl (r_build hF rfl rfl (bde _ _ _ _ _ 0 9 0)) fun a' hF' => wpList_nil (fl_end hC hF' (Ext.refl _) ?_)
   exact nrow11 h1 h2 h3
  refine fs1 rfl (by
   intro a w Lr hE hC hl
   replace hH := hH.ext hE
   have hF := hC.fr
   refine zc hF rfl rfl fn44 (zone_spec [1, 98, 0] 9 9 9 rfl _) ?_
   rintro _ w' ⟨rfl, hE'⟩ a' hF'
   exact wpList_nil (fl_end hC hF' hE' rfl)) ?_
  refine fs (fun v w' => RSl w' 5 v 1 (recsV [zoneR [1, 98, 0] 9 9])) rfl (fun _ _ _ he h => h.ext he) ?_ ?_
  ·
   intro a w Lr hE hC hl
   replace hH := hH.ext hE
   obtain ⟨_, s104, rfl⟩ := hl 104 (by decide) _ rfl
   replace hC := hC.more s104
   have hF := hC.fr
   refine ls_build1 hF (Hp.refl w) rfl rfl rfl rfl rfl Tryz.underlying34 ti38 rfl (by decide) ?_
   intro a' w' g hH' hE' hF'
   exact wpList_nil (fl_end hC hF' hE' (rsl_lit (n := 1) (size := 5) hH' rfl (by decide)))
  refine fs (fun v w' => MsgB w' v 0 [] [zoneR [1, 98, 0] 9 9]) rfl (fun _ _ _ he h => h.ext he) ?_ ?_
  ·
   intro a w Lr hE hC hl
   replace hH := hH.ext hE
   obtain ⟨v105, s105, p105⟩ := hl 105 (by decide) _ rfl
   replace hC := hC.more s105
   have hF := hC.fr
   refine zl hF rfl (r_build hF rfl rfl (bdm_u _ v105 p105.oneN)) fun a' hF' => wpList_nil (fl_end hC hF' (Ext.refl _) ?_)
   exact ⟨nilV, v105, nilV, rfl, (RSl.nil _ _), p105, rfl⟩
  refine fs (fun v w' => EntB w' v) rfl (fun _ _ _ he h => h.ext he) ?_ ?_
  ·
   intro a w Lr hE hC hl
   replace hH := hH.ext hE
   obtain ⟨v106, s106, p106⟩ := hl 106 (by decide) _ rfl
   replace hC := hC.more s106
   obtain ⟨av, uv, xv, rfl, h1, h2, h3⟩ := p106
   have hF := hC.fr
   refine zl hF rfl (r_build hF rfl rfl (bde _ _ _ _ _ 0 0 0)) fun a' hF' => wpList_nil (fl_end hC hF' (Ext.refl _) ?_)
   exact nrow12 h1 h2 h3
  refine fs1 rfl (by
   intro a w Lr hE hC hl
   replace hH := hH.ext hE
   have hF := hC.fr
   exact zl hF rfl (r_loadagg hF rfl rfl Tryz.underlying38 ti38 rfl (fun j u hu => hH.cell (fb j u hu))) fun a' hF' => wpList_nil (fl_end hC hF' (Ext.refl _) rfl)) ?_
  refine fs (fun v w' => RSl w' 5 v 1 (recsV [nB])) rfl (fun _ _ _ he h => h.ext he) ?_ ?_
  ·
   intro a w Lr hE hC hl
   replace hH := hH.ext hE
   obtain ⟨_, s108, rfl⟩ := hl 108 (by decide) _ rfl
   replace hC := hC.more s108
   have hF := hC.fr
   refine ls_build1 hF (Hp.refl w) rfl rfl rfl rfl rfl Tryz.underlying34 ti38 rfl (by decide) ?_
   intro a' w' g hH' hE' hF'
   exact wpList_nil (fl_end hC hF' hE' (rsl_lit (n := 1) (size := 5) hH' rfl (by decide)))
  refine fs1 rfl (by
   intro a w Lr hE hC hl
   replace hH := hH.ext hE
   have hF := hC.fr
   exact zl hF rfl (r_loadagg hF rfl rfl Tryz.underlying38 ti38 rfl (fun j u hu => hH.cell (fa j u hu))) fun a' hF' => wpList_nil (fl_end hC hF' (Ext.refl _) rfl)) ?_
  refine fs (fun v w' => RSl w' 5 v 1 (recsV [nA])) rfl (fun _ _ _ he h => h.ext he) ?_ ?_
  ·
   intro a w Lr hE hC hl
   replace hH := hH.ext hE
   obtain ⟨_, s110, rfl⟩ := hl 110 (by decide) _ rfl
   replace hC := hC.more s110
   have hF := hC.fr
   refine ls_build1 hF (Hp.refl w) rfl rfl rfl rfl rfl Tryz.underlying34 ti38 rfl (by decide) ?_
   intro a' w' g hH' hE' hF'
   exact wpList_nil (fl_end hC hF' hE' (rsl_lit (n := 1) (size := 5) hH' rfl (by decide)))
  refine fs1 rfl (by
   intro a w Lr hE hC hl
   replace hH := hH.ext hE
   have hF := hC.fr
   exact zl hF rfl (r_loadagg hF rfl rfl Tryz.underlying38 ti38 rfl (fun j u hu => hH.cell (fa j u hu))) fun a' hF' => wpList_nil (fl_end hC hF' (Ext.refl _) rfl)) ?_
  refine fs1 rfl (by
   intro a w Lr hE hC hl
   replace hH := hH.ext hE
   have hF := hC.fr
   refine zc hF rfl rfl fn44 (zone_spec [1, 97, 0] 5 9 9 rfl _) ?_
   rintro _ w' ⟨rfl, hE'⟩ a' hF'
   exact wpList_nil (fl_end hC hF' hE' rfl)) ?_
  refine fs (fun v w' => RSl w' 5 v 2 (recsV [nA, zoneR [1, 97, 0] 5 9])) rfl (fun _ _ _ he h => h.ext he) ?_ ?_
  ·
   intro a w Lr hE hC hl
   replace hH := hH.ext hE
   obtain ⟨_, s112, rfl⟩ := hl 112 (by decide) _ rfl
   replace hC := hC.more s112
   obtain ⟨_, s113, rfl⟩ := hl 113 (by decide) _ rfl
   replace hC := hC.more s113
   have hF := hC.fr
   refine ls_buildN (us := [_, _]) hF (Hp.refl w) rfl rfl rfl rfl rfl rfl Tryz.underlying34 ti38 (by intro u hu; simp only [List.mem_cons, List.not_mem_nil, or_false] at hu; rcases hu with rfl | rfl <;> rfl) (by decide) ?_
   intro a' w' g hH' hE' hF'
   exact wpList_nil (fl_end hC hF' hE' (rsl_lit (n := 2) (size := 5) hH' rfl (by decide)))
  refine fs (fun v w' => MsgB w' v 0 [nB] [nA, zoneR [1, 97, 0] 5 9]) rfl (fun _ _ _ he h => h.ext he) ?_ ?_
  ·
   intro a w Lr hE hC hl
   replace hH := hH.ext hE
   obtain ⟨v109, s109, p109⟩ := hl 109 (by decide) _ rfl
   replace hC := hC.more s109
   obtain ⟨v111, s111, p111⟩ := hl 111 (by decide) _ rfl
   replace hC := hC.more s111
   obtain ⟨v114, s114, p114⟩ := hl 114 (by decide) _ rfl
   replace hC := hC.more s114
   have hF := hC.fr
   refine zl hF rfl (r_build hF rfl rfl (bdm_axu _ v109 v111 v114 p109.oneN p111.oneN p114.oneN)) fun a' hF' => wpList_nil (fl_end hC hF' (Ext.refl _) ?_)
   exact ⟨v109, v114, v111, rfl, p109, p114, p111.oneN⟩
  refine fs (fun v w' => EntB w' v) rfl (fun _ _ _ he h => h.ext he) ?_ ?_
  ·
   intro a w Lr hE hC hl
   replace hH := hH.ext hE
   obtain ⟨v115, s115, p115⟩ := hl 115 (by decide) _ rfl
   replace hC := hC.more s115
   obtain ⟨av, uv, xv, rfl, h1, h2, h3⟩ := p115
   have hF := hC.fr
   refine zl hF rfl (r_build hF rfl rfl (bde _ _ _ _ _ 0 5 0)) fun a' hF' => wpList_nil (fl_end hC hF' (Ext.refl _) ?_)
   exact nrow13 h1 h2 h3
  intro a w hE hF hall
  replace hH := hH.ext hE
  obtain ⟨v53, s53, p53⟩ := hall 53 _ rfl
  replace hF := hF.more s53
  obtain ⟨v59, s59, p59⟩ := hall 59 _ rfl
  replace hF := hF.more s59
  obtain ⟨v63, s63, p63⟩ := hall 63 _ rfl
  replace hF := hF.more s63
  obtain ⟨v68, s68, p68⟩ := hall 68 _ rfl
  replace hF := hF.more s68
  obtain ⟨v73, s73, p73⟩ := hall 73 _ rfl
  replace hF := hF.more s73
  obtain ⟨v78, s78, p78⟩ := hall 78 _ rfl
  replace hF := hF.more s78
  obtain ⟨v81, s81, p81⟩ := hall 81 _ rfl
  replace hF := hF.more s81
  obtain ⟨v85, s85, p85⟩ := hall 85 _ rfl
  replace hF := hF.more s85
  obtain ⟨v90, s90, p90⟩ := hall 90 _ rfl
  replace hF := hF.more s90
  obtain ⟨v93, s93, p93⟩ := hall 93 _ rfl
  replace hF := hF.more s93
  obtain ⟨v98, s98, p98⟩ := hall 98 _ rfl
  replace hF := hF.more s98
  obtain ⟨v103, s103, p103⟩ := hall 103 _ rfl
  replace hF := hF.more s103
  obtain ⟨v107, s107, p107⟩ := hall 107 _ rfl
  replace hF := hF.more s107
  obtain ⟨v116, s116, p116⟩ := hall 116 _ rfl
  replace hF := hF.more s116
  clear hall
  obtain ⟨e0, rfl, r0⟩ := p53
  obtain ⟨e1, rfl, r1⟩ := p59
  obtain ⟨e2, rfl, r2⟩ := p63
  obtain ⟨e3, rfl, r3⟩ := p68
  obtain ⟨e4, rfl, r4⟩ := p73
  obtain ⟨e5, rfl, r5⟩ := p78
  obtain ⟨e6, rfl, r6⟩ := p81
  obtain ⟨e7, rfl, r7⟩ := p85
  obtain ⟨e8, rfl, r8⟩ := p90
  obtain ⟨e9, rfl, r9⟩ := p93
  obtain ⟨e10, rfl, r10⟩ := p98
  obtain ⟨e11, rfl, r11⟩ := p103
  obtain ⟨e12, rfl, r12⟩ := p107
  obtain ⟨e13, rfl, r13⟩ := p116
  refine ls_buildN (us := [_, _, _, _, _, _, _, _, _, _, _, _, _, _]) hF hH rfl rfl rfl rfl rfl rfl Tryz.underlying74 ti73 (all24 [e0, e1, e2, e3, e4, e5, e6, e7, e8, e9, e10, e11, e12, e13] (by simp only [List.forall_mem_cons]; exact ⟨r0.len, r1.len, r2.len, r3.len, r4.len, r5.len, r6.len, r7.len, r8.len, r9.len, r10.len, r11.len, r12.len, r13.len, fun _ h => (List.not_mem_nil h).elim⟩)) (by decide) ?_
  intro a w g13_67 hH hE hF
  obtain ⟨T, htab, hrows, hTl⟩ : ∃ T : List (List Value), (∀ j u, T.flatten[j]? = some u → w.cell? ⟨g13_67, 0 + j, none⟩ = some u) ∧ (∀ e ∈ T, RowOk w e) ∧ T.length = 14 :=
    ⟨[e0, e1, e2, e3, e4, e5, e6, e7, e8, e9, e10, e11, e12, e13], fun j u hu => own_agg (i := 0) hH rfl j u (by simpa [cells_agg] using hu), by simp only [List.forall_mem_cons]; exact ⟨r0.ext hE, r1.ext hE, r2.ext hE, r3.ext hE, r4.ext hE, r5.ext hE, r6.ext hE, r7.ext hE, r8.ext hE, r9.ext hE, r10.ext hE, r11.ext hE, r12.ext hE, r13.ext hE, fun _ h => (List.not_mem_nil h).elim⟩, rfl⟩
  refine zl hF rfl (r_len_sl hF rfl rfl Tryz.underlying74) fun a hF => ?_
  refine wpList_nil ?_
  replace hF := hF.sel [1, 2, 117, 118, 119]
  simp only [ss, Nat.reduceBEq] at hF
  replace fq := fun j u hu => hH.cell (fq j u hu)
  replace fa := fun j u hu => hH.cell (fa j u hu)
  replace hE0 := hE0.trans hH.below
  obtain ⟨w13, hw13⟩ : ∃ w13, w13 = w := ⟨w, rfl⟩
  rw [← hw13] at fq
  rw [← hw13] at fa
  rw [← hw13] at htab
  rw [← hw13] at hrows
  rw [← hw13] at hE0
  replace hH : Hp w13 w [] := by rw [hw13]; exact Hp.refl _
  clear hw13
  refine k4 ?_
  refine c_block fun Q5 t5 => ?_
  refine c_loop (fun n a w => ∃ i, n = 14 - i ∧ i ≤ 14 ∧ Fr 214 [(1, ptr g3_1), (2, ptr g4_1), (117, .slice (some ⟨g13_67, 0, none⟩) 14 14), (118, .int .i64 (14 : Nat)), (119, .int .i64 (i : Nat))] a ∧ Hp w13 w []) ?_ ?_
  ·
   exact ⟨_, 0, rfl, Nat.zero_le _, hF.keep [1, 2, 117, 118, 119] rfl, hH⟩
  clear hH hF
  intro n a w hI Q6 k6 t6
  obtain ⟨i, hn, hi, hF, hH⟩ := hI
  refine c_sr fun ops => ?_
  refine zb hF rfl rfl rfl (b_ltn _ _ _ _) fun a hF => ?_
  refine c_n ?_
  refine c_seq fun Q7 k7 t7 => ?_
  refine c_if hF rfl (fun h120 => ?_) (fun h120 => ?_)
  ·
   try simp only [qq] at h120
   have hiT : i < T.length := by omega
   obtain ⟨c, ans, auth, av, uv, xv, nn, t, k, X, he, h1, h2, h3, hb1, hb2, hv, hnn, hM⟩ := hrows T[i] (List.getElem_mem hiT)
   have hent : ∀ j u, (entN c av uv xv nn t k)[j]? = some u → w13.cell? ⟨g13_67, 0 + (i * 24 + j), none⟩ = some u := fun j u hu => htab _ _ (flat24 T i j u hiT (fun e he => (hrows e he).len) (by rw [he]; exact hu))
   have hav1 := h1.oneN
   have huv1 := h2.oneN
   refine wp_skip ?_
   refine k7 ?_
   refine c_seq fun Q8 k8 t8 => ?_
   refine c_block fun Q9 t9 => ?_
   refine c_sr fun ops => ?_
   refine zl hF rfl (r_indexaddr hF _ rfl rfl rfl Tryz.underlying74 ti73 (by omega)) fun a hF => ?_
   refine zl hF rfl (r_loadagg hF rfl rfl Tryz.underlying73 ti73 rfl (fun j u hu => hH.cell (by have := hent j u hu; rw [← Nat.add_assoc] at this; exact this))) fun a hF => ?_
   refine ls_alloc hF hH rfl rfl rfl rfl zv73 ?_
   intro a w g15_2 hH hE hF
   refine ls_storeagg 0 hF hH rfl rfl rfl rfl rfl ti73 rfl (rfl) (rfl) (ent_one2 hav1 huv1 h3) ?_
   intro w hH
   simp only [List.set_cons_zero] at hH
   refine c_n ?_
   refine c_sr fun ops => ?_
   refine zl hF rfl (r_loadagg hF rfl rfl Tryz.underlying49 ti49 rfl (fun j u hu => hH.cell (fq j u hu))) fun a hF => ?_
   refine zl hF rfl (r_fieldaddr0 hF rfl rfl fd73_0) fun a hF => ?_
   refine zl hF rfl (r_loadagg hF rfl rfl Tryz.underlying62 ti62 rfl (ent_cells (i := 0) hH rfl)) fun a hF => ?_
   refine zc hF rfl rfl fn40 (verdOfX (q := ⟨[1, 65, 0], 1, 1⟩) (m := msgOf c ans auth) hv (h1.ext hH.below) (h2.ext hH.below) hb1 hb2 (by decide) (hG.ext (hE0.trans hH.below))) ?_
   rintro _ w ⟨sv1, tv1, rfl, hV1, hE⟩ a hF
   replace hH := hH.ext hE
   obtain ⟨a1, c1, rfl⟩ := hV1.sets.shapeK
   obtain ⟨a2, c2, rfl⟩ := hV1.soa.shapeK
   refine zm 4 hF rfl fun a hF => ?_
   refine ls_alloc hF hH rfl rfl rfl rfl zv65 ?_
   intro a w g16_8 hH hE hF
   refine ls_storeagg 0 hF hH rfl rfl rfl rfl rfl ti65 rfl (rfl) (rfl) (by simp [Value.oneCell', verdV]) ?_
   intro w hH
   simp only [List.set_cons_zero] at hH
   refine zm 2 hF rfl fun a hF => ?_
   refine c_n ?_
   refine c_sg ?_
   refine zm 1 hF rfl fun a hF => ?_
   refine zl hF rfl (r_fieldaddr0 hF rfl rfl fd73_3) fun a hF => ?_
   refine zl hF rfl (r_load hF rfl rfl fl50 (own_cell (i := 1) hH rfl rfl)) fun a hF => ?_
   refine zb hF rfl rfl rfl (b_nen _ _ _ _) fun a hF => ?_
   refine zm 1 hF rfl fun a hF => ?_
   refine ls_ask (d := 135) hF rfl (fun g17_4 => ?_) (fun g17_4 => ?_)
   ·
    have g17_4' := g17_4; try simp only [qq] at g17_4'
    exact absurd g17_4 (by simp)
   have g17_4' := g17_4; try simp only [qq] at g17_4'
   refine zy hF rfl g17_4 (r_move hF rfl rfl) fun a hF => ?_
   refine zy hF rfl g17_4 (r_fieldaddr0 hF rfl rfl fd73_2) fun a hF => ?_
   refine zy hF rfl g17_4 (r_load hF rfl rfl fl24 (own_cell (i := 1) hH rfl rfl)) fun a hF => ?_
   refine zy hF rfl g17_4 (zr hF rfl rfl (b_nen _ _ _ _)) fun a hF => ?_
   refine zl hF rfl (r_pickf hF rfl rfl g17_4 rfl) fun a hF => ?_
   refine zm 1 hF rfl fun a hF => ?_
   refine ls_ask (d := 141) hF rfl (fun g17_10 => ?_) (fun g17_10 => ?_)
   ·
    have g17_10' := g17_10; try simp only [qq] at g17_10'
    exact absurd g17_10 (by simp)
   have g17_10' := g17_10; try simp only [qq] at g17_10'
   refine zy hF rfl g17_10 (r_fieldaddr0 hF rfl rfl fd65_1) fun a hF => ?_
   refine zy hF rfl g17_10 (r_load hF rfl rfl fl22 (own_cell (i := 0) hH rfl rfl)) fun a hF => ?_
   refine zy hF rfl g17_10 (r_len_sl hF rfl rfl Tryz.underlying22) fun a hF => ?_
   refine zy hF rfl g17_10 (r_fieldaddr0 hF rfl rfl fd73_1) fun a hF => ?_
   refine zy hF rfl g17_10 (r_load hF rfl rfl fl3 (own_cell (i := 1) hH rfl rfl)) fun a hF => ?_
   refine zy hF rfl g17_10 (zr hF rfl rfl (b_nen _ _ _ _)) fun a hF => ?_
   refine zl hF rfl (r_pickf hF rfl rfl g17_10 rfl) fun a hF => ?_
   refine zm 1 hF rfl fun a hF => ?_
   refine ls_ask (d := 149) hF rfl (fun g17_18 => ?_) (fun g17_18 => ?_)
   ·
    have g17_18' := g17_18; try simp only [qq] at g17_18'
    exact absurd hnn g17_18'
   have g17_18' := g17_18; try simp only [qq] at g17_18'
   refine zy hF rfl g17_18 (r_move hF rfl rfl) fun a hF => ?_
   refine zy hF rfl g17_18 (zr hF rfl rfl (b_nen _ _ _ 0)) fun a hF => ?_
   refine zy hF rfl g17_18 (r_move hF rfl rfl) fun a hF => ?_
   refine l_ask (d := 152) hF rfl (fun g17_21 => ?_) (fun g17_21 => ?_)
   ·
    have g17_21' := g17_21; try simp only [qq] at g17_21'
    refine zn hF rfl g17_21 fun a hF => ?_
    refine zn hF rfl g17_21 fun a hF => ?_
    refine zn hF rfl g17_21 fun a hF => ?_
    refine zn hF rfl g17_21 fun a hF => ?_
    refine zy hF rfl g17_18 (r_pickf hF rfl rfl g17_21 rfl) fun a hF => ?_
    refine zl hF rfl (r_pickf hF rfl rfl g17_18 rfl) fun a hF => ?_
    refine c_n ?_
    refine c_no hF rfl rfl ?_
    refine wp_skip ?_
    refine t9.norm ?_
    refine k8 ?_
    refine c_reg fun ops => ?_
    refine zb hF rfl rfl rfl (b_addn _ _ 1 (by omega)) fun a hF => ?_
    refine zm 1 hF rfl fun a hF => ?_
    refine wpList_nil ?_
    refine k6 ?_
    exact ⟨14 - (i + 1), by omega, i + 1, rfl, by omega, hF.keep [1, 2, 117, 118, 119] rfl, hH.sub (List.nil_sublist _)⟩
   have g17_21' := g17_21; try simp only [qq] at g17_21'
   have hno : X = noVerd := by
     have := verdG_err (g := groupN ans) (h := groupN auth) (nm := [1, 65, 0]) (kind := 1) (cls := 1) (code := c) (by show (verdN [1, 65, 0] 1 1 c ans auth).1 ≠ 0; rw [hv]; exact g17_21')
     change (verdN [1, 65, 0] 1 1 c ans auth).2 = _ at this
     rw [hv] at this; exact congrArg Prod.fst this
   refine zy hF rfl g17_21 (r_loadagg hF rfl rfl Tryz.underlying65 ti65 rfl (own_agg (i := 0) hH rfl)) fun a hF => ?_
   refine zy hF rfl g17_21 (r_build hF rfl rfl (bd65 _)) fun a hF => ?_
   refine zyc hF rfl g17_21 rfl fn43 (vsame11_spec X noVerd _ _ _ _ _ (by rw [hno] at hV1 ⊢; exact ⟨SetsR.none hV1.sets _, SetsR.none hV1.soa _⟩) (noVerd_r _) hM noVerd_m) ?_
   rintro _ w ⟨rfl, hE⟩ a hF
   replace hH := hH.ext hE
   refine zy hF rfl g17_21 (r_not hF rfl rfl) fun a hF => ?_
   refine zy hF rfl g17_18 (r_pickt hF rfl rfl g17_21 rfl) fun a hF => ?_
   refine zl hF rfl (r_pickf hF rfl rfl g17_18 rfl) fun a hF => ?_
   refine c_n ?_
   refine c_if hF rfl (fun h158 => ?_) (fun h158 => ?_)
   ·
    try simp only [qq] at h158
    exact absurd h158 (by simp [hno])
   try simp only [qq] at h158
   refine wp_skip ?_
   refine t9.norm ?_
   refine k8 ?_
   refine c_reg fun ops => ?_
   refine zb hF rfl rfl rfl (b_addn _ _ 1 (by omega)) fun a hF => ?_
   refine zm 1 hF rfl fun a hF => ?_
   refine wpList_nil ?_
   refine k6 ?_
   exact ⟨14 - (i + 1), by omega, i + 1, rfl, by omega, hF.keep [1, 2, 117, 118, 119] rfl, hH.sub (List.nil_sublist _)⟩
  try simp only [qq] at h120
  refine wp_exit (t7.exit (t6.exit (t5.here (?_))))
  refine k3 ?_
  refine c_sr fun ops => ?_
  refine zl hF rfl (r_build hF rfl rfl (bd49_1_2 _ _ _ (rfl) (rfl))) fun a hF => ?_
  refine zl hF rfl (r_build hF rfl rfl (bdm_0 _)) fun a hF => ?_
  refine zc hF rfl rfl fn40 (verdOfX (q := ⟨[], 1, 1⟩) (m := msgOf 0 [] []) (x := (1, noVerd, 0)) (by kernel_rfl) (RSl.nil _ _) (RSl.nil _ _) recsB_none recsB_none (by decide) (hG.ext (hE0.trans hH.below))) ?_
  rintro _ w ⟨sv1, tv1, rfl, hV1, hE⟩ a hF
  replace hH := hH.ext hE; obtain ⟨a1, c1, rfl⟩ := hV1.sets.shapeK; obtain ⟨a2, c2, rfl⟩ := hV1.soa.shapeK
  refine zm 4 hF rfl fun a hF => ?_
  refine ls_alloc hF hH rfl rfl rfl rfl zv65 ?_
  intro a w g20_7 hH hE hF
  refine ls_storeagg 0 hF hH rfl rfl rfl rfl rfl ti65 rfl (rfl) (rfl) (by simp [Value.oneCell', verdV]) ?_
  intro w hH
  refine zm 2 hF rfl fun a hF => ?_
  refine c_n ?_
  replace hF := hF.sel [1, 2, 15]
  simp only [ss, Nat.reduceBEq] at hF
  refine c_sr fun ops => ?_
  refine zl hF rfl (r_loadagg hF rfl rfl Tryz.underlying49 ti49 rfl (fun j u hu => hH.cell (fq j u hu))) fun a hF => ?_
  refine zl hF rfl (r_loadagg hF rfl rfl Tryz.underlying38 ti38 rfl (fun j u hu => hH.cell (fa j u hu))) fun a hF => ?_
  refine ls_build1 hF hH rfl rfl rfl rfl rfl Tryz.underlying34 ti38 rfl (by decide) ?_
  intro a w g21_2 hH hE hF
  have hl21 : RSl w 5 (.slice (some ⟨g21_2, 0, none⟩) 1 1) 1 (recsV [nA]) := rsl_lit (n := 1) (size := 5) hH rfl (by decide)
  refine zl hF rfl (r_build hF rfl rfl (bdm_a _ [nA] [] _ rfl)) fun a hF => ?_
  refine zc hF rfl rfl fn40 (verdOfX (q := ⟨[1, 65, 0], 1, 1⟩) (m := msgOf 0 [nA] []) (x := (0, nV, 7)) (by kernel_rfl) hl21 (RSl.nil _ _) (recsB_of (by decide)) recsB_none (by decide) (hG.ext (hE0.trans hH.below))) ?_
  rintro _ w ⟨sv2, tv2, rfl, hV2, hE⟩ a hF
  replace hH := hH.ext hE
  obtain ⟨a3, c3, rfl⟩ := hV2.sets.shapeK
  obtain ⟨a4, c4, rfl⟩ := hV2.soa.shapeK
  replace fq := fun j u hu => hH.cell (fq j u hu)
  replace hE0 := hE0.trans hH.below
  obtain ⟨w21, hw21⟩ : ∃ w21, w21 = w := ⟨w, rfl⟩
  rw [← hw21] at fq
  rw [← hw21] at hV2
  rw [← hw21] at hE0
  replace hH : Hp w21 w [] := by rw [hw21]; exact Hp.refl _
  clear hw21
  refine zm 4 hF rfl fun a hF => ?_
  refine ls_alloc hF hH rfl rfl rfl rfl zv65 ?_
  intro a w g21_9 hH hE hF
  refine ls_storeagg 0 hF hH rfl rfl rfl rfl rfl ti65 rfl (rfl) (rfl) (by simp [Value.oneCell', verdV]) ?_
  intro w hH
  simp only [List.set_cons_zero] at hH
  have fw := own_agg (i := 0) hH rfl
  replace fq := fun j u hu => hH.cell (fq j u hu)
  replace hV2 := hV2.ext hH.below
  replace hE0 := hE0.trans hH.below
  obtain ⟨w22, hw22⟩ : ∃ w22, w22 = w := ⟨w, rfl⟩
  rw [← hw22] at fw
  rw [← hw22] at fq
  rw [← hw22] at hV2
  rw [← hw22] at hE0
  replace hH : Hp w22 w [] := by rw [hw22]; exact Hp.refl _
  clear hw22
  refine zm 2 hF rfl fun a hF => ?_
  refine c_n ?_
  replace hF := hF.sel [1, 15, 16]
  simp only [ss, Nat.reduceBEq] at hF
  refine c_sr fun ops => ?_
  refine zl hF rfl (r_loadagg hF rfl rfl Tryz.underlying49 ti49 rfl (fun j u hu => hH.cell (fq j u hu))) fun a hF => ?_
  refine zl hF rfl (r_loadagg hF rfl rfl Tryz.underlying65 ti65 rfl (fun j u hu => hH.cell (fw j u hu))) fun a hF => ?_
  refine zc hF rfl rfl fn45 (vEndX (q := ⟨[1, 65, 0], 1, 1⟩) (x := nV) (b := true) rfl (hV2.ext hH.below) nV_m) ?_
  rintro _ w ⟨lv, Bl, rfl, hBl, hSl⟩ a hF
  replace hH := hH.ext hBl.below; obtain ⟨lad, lcp, rfl⟩ := hSl.shape
  refine zm 3 hF rfl fun a hF => ?_
  refine ls_alloc hF hH rfl rfl rfl rfl zv27 ?_
  intro a w g22_6 hH hE hF
  refine ls_storeagg 0 hF hH rfl rfl rfl rfl rfl ti27 rfl (rfl) (rfl) (by simp [setV, Value.oneCell']) ?_
  intro w hH
  refine zm 1 hF rfl fun a hF => ?_
  refine c_n ?_
  replace hF := hF.sel [1, 15, 16, 20]
  simp only [ss, Nat.reduceBEq] at hF
  refine c_sr fun ops => ?_
  refine zl hF rfl (r_fieldaddr0 hF rfl rfl fd49_0) fun a hF => ?_
  refine zl hF rfl (r_load hF rfl rfl fl9 (hH.cell (fq 0 _ rfl))) fun a hF => ?_
  refine zl hF rfl (r_build hF rfl rfl (bd49_0_1_2 _ _ _ _ (rfl) (rfl) (rfl))) fun a hF => ?_
  refine zl hF rfl (r_loadagg hF rfl rfl Tryz.underlying65 ti65 rfl (fun j u hu => hH.cell (fw j u hu))) fun a hF => ?_
  refine zc hF rfl rfl fn45 (vEndX (q := ⟨[1, 65, 0], 28, 1⟩) (x := nV) (b := false) rfl (hV2.ext hH.below) nV_m) ?_
  rintro _ w ⟨lv2, Bl2, rfl, hBl2, hSl2⟩ a hF
  replace hH := hH.ext hBl2.below; obtain ⟨lad2, lcp2, rfl⟩ := hSl2.shape
  refine zm 3 hF rfl fun a hF => ?_
  refine ls_alloc hF hH rfl rfl rfl rfl zv27 ?_
  intro a w g23_8 hH hE hF
  refine ls_storeagg 0 hF hH rfl rfl rfl rfl rfl ti27 rfl (rfl) (rfl) (by simp [setV, Value.oneCell']) ?_
  intro w hH
  refine zm 1 hF rfl fun a hF => ?_
  refine c_n ?_
  replace hF := hF.sel [1, 15, 16, 20, 22]
  simp only [ss, Nat.reduceBEq] at hF
  refine c_sr fun ops => ?_
  refine zl hF rfl (r_loadagg hF rfl rfl Tryz.underlying49 ti49 rfl (fun j u hu => hH.cell (fq j u hu))) fun a hF => ?_
  refine zl hF rfl (r_build hF rfl rfl (bd65 _)) fun a hF => ?_
  refine zc hF rfl rfl fn45 (vEndX (q := ⟨[1, 65, 0], 1, 1⟩) (x := noVerd) (b := false) rfl (noVerd_r _) noVerd_m) ?_
  rintro _ w ⟨lv3, Bl3, rfl, hBl3, hSl3⟩ a hF
  replace hH := hH.ext hBl3.below; obtain ⟨lad3, lcp3, rfl⟩ := hSl3.shape
  refine zm 3 hF rfl fun a hF => ?_
  refine ls_alloc hF hH rfl rfl rfl rfl zv27 ?_
  intro a w g24_6 hH hE hF
  refine ls_storeagg 0 hF hH rfl rfl rfl rfl rfl ti27 rfl (rfl) (rfl) (by simp [setV, Value.oneCell']) ?_
  intro w hH
  refine zm 1 hF rfl fun a hF => ?_
  refine c_n ?_
  replace hF := hF.sel [15, 16, 20, 22, 24]
  simp only [ss, Nat.reduceBEq] at hF
  refine c_sg ?_
  refine zm 1 hF rfl fun a hF => ?_
  refine zb hF rfl rfl rfl (b_eqn _ _ _ 1) fun a hF => ?_
  refine zm 1 hF rfl fun a hF => ?_
  refine l_ask (d := 198) hF rfl (fun g25_2 => ?_) (fun g25_2 => ?_)
  ·
   have g25_2' := g25_2; try simp only [qq] at g25_2'
   exact absurd g25_2 (by simp)
  have g25_2' := g25_2; try simp only [qq] at g25_2'
  refine zy hF rfl g25_2 (r_move hF rfl rfl) fun a hF => ?_
  refine zl hF rfl (r_pickt hF rfl rfl g25_2 rfl) fun a hF => ?_
  refine zm 1 hF rfl fun a hF => ?_
  refine l_ask (d := 201) hF rfl (fun g25_5 => ?_) (fun g25_5 => ?_)
  ·
   have g25_5' := g25_5; try simp only [qq] at g25_5'
   exact absurd g25_5 (by simp)
  have g25_5' := g25_5; try simp only [qq] at g25_5'
  refine zy hF rfl g25_5 (r_move hF rfl rfl) fun a hF => ?_
  refine zy hF rfl g25_5 (r_not hF rfl rfl) fun a hF => ?_
  refine zl hF rfl (r_pickt hF rfl rfl g25_5 rfl) fun a hF => ?_
  refine zm 1 hF rfl fun a hF => ?_
  refine l_ask (d := 205) hF rfl (fun g25_9 => ?_) (fun g25_9 => ?_)
  ·
   have g25_9' := g25_9; try simp only [qq] at g25_9'
   exact absurd g25_9 (by simp)
  have g25_9' := g25_9; try simp only [qq] at g25_9'
  refine zy hF rfl g25_9 (r_move hF rfl rfl) fun a hF => ?_
  refine zy hF rfl g25_9 (r_not hF rfl rfl) fun a hF => ?_
  refine zl hF rfl (r_pickt hF rfl rfl g25_9 rfl) fun a hF => ?_
  refine zm 1 hF rfl fun a hF => ?_
  refine l_ask (d := 209) hF rfl (fun g25_13 => ?_) (fun g25_13 => ?_)
  ·
   have g25_13' := g25_13; try simp only [qq] at g25_13'
   exact absurd g25_13 (by simp)
  have g25_13' := g25_13; try simp only [qq] at g25_13'
  refine zy hF rfl g25_13 (r_loadagg hF rfl rfl Tryz.underlying65 ti65 rfl (fun j u hu => hH.cell (fw j u hu))) fun a hF => ?_
  refine zyc hF rfl g25_13 rfl fn46 (key_spec nV _ _ _ (hV2.ext hH.below) nV_k) ?_
  rintro _ w ⟨rfl, hE⟩ a hF
  replace hH := hH.ext hE
  refine zy hF rfl g25_13 (zr hF rfl rfl (b_seq _ _ [0, 1, 1, 97, 0, 0, 1, 0, 1, 0, 1, 0, 4, 10, 0, 0, 1, 0])) fun a hF => ?_
  refine zl hF rfl (r_pickt hF rfl rfl g25_13 rfl) fun a hF => ?_
  refine zm 1 hF rfl fun a hF => ?_
  refine c_n ?_
  replace hF := hF.sel [0]
  simp only [ss, Nat.reduceBEq] at hF
  refine wp_ret (hret (ret1 hF Tryz.results11 rfl ?_))
  exact ⟨congrArg Value.bool (decide_eq_true (by kernel_rfl)), hE0.trans hH.below⟩
end Go.Proofs.YtcelgjabccgnmaaGreatDoor
