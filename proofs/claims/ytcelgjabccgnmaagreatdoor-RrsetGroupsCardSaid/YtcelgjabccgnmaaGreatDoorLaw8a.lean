/-
  The walks of hustingslaw08's small functions. Nothing is claimed here.
-/
import Derived.Test.YtcelgjabccgnmaaGreatDoorKit2
namespace Go.Proofs.YtcelgjabccgnmaaGreatDoor
open Go.RowKit
set_option linter.unusedVariables false
set_option linter.unusedSimpArgs false
set_option maxHeartbeats 1000000

theorem rsl_at {w0 w : World} {H : List (Nat × Obj)} {i g n size : Nat} {cs : Array Value} {e : TypeId} {fr : Nat × Nat} (hH : Hp w0 w H) (hi : H[i]? = some (g, .cells cs e fr)) (hs : cs.size = n * size) (hn : n ≤ 1000) : RSl w size (.slice (some ⟨g, 0, none⟩) n n) n cs.toList :=
  ⟨by simpa using hs, _, n, rfl, Nat.le_refl _, by unfold maxLen; omega, .inr ⟨g, 0, rfl, fun j u hu => by rw [Nat.zero_add]; exact own_cell hH hi (by simpa using hu)⟩⟩
theorem SetsR.one {w : World} {v dv : Value} {s : RSet} (h : RSl w 5 v 1 (setV s dv)) (hd : RSl w 1 dv s.data.length (strV s.data)) : SetsR w v [s] :=
  ⟨[dv], rfl, by simpa [setsV] using h, fun i hi => by
    have : i = 0 := by simp at hi; exact hi
    subst this; exact hd⟩
theorem gsets {w0 w : World} {B : List (Nat × Obj)} {v : Value} {es : List Ent} {g x : List RSet} (hB : Hp w0 w (B ++ entB es)) (hS : Sl 27 5 B v es.length (entV es)) (hK : EntOk es) (hg : es.map (·.1) = g) (h : g = x) : SetsR w v x := by
  rw [← h, ← hg]; exact sets_read hB hS hK (fun p hp => List.mem_append_left _ hp) (fun p hp => List.mem_append_right _ hp)
theorem gshape {B : List (Nat × Obj)} {v : Value} {es : List Ent} {g x : List RSet} (hS : Sl 27 5 B v es.length (entV es)) (hg : es.map (·.1) = g) (h : g = x) : ∃ ad cap, v = .slice ad x.length cap := by
  obtain ⟨ad, cap, hv⟩ := hS.shape
  refine ⟨ad, cap, ?_⟩
  rw [hv, ← h, ← hg, List.length_map]
theorem sameAll_yes (l : List RSet) {v u : Value} {w0 : World} (ha : SetsR w0 v l) (hb : SetsR w0 u l) (hl : l.length < 1000000) (hdl : ∀ s ∈ l, s.data.length < 1000000) : Rets Tryz.prog 25 [v, u] w0 fun r w' => r = .bool true ∧ Ext w0 w' :=
  (sameAll_spec l l v u w0 ha hb hl hl hdl hdl).mono fun r w' h => ⟨h.1.trans (by rw [decide_eq_true rfl]), h.2⟩
theorem same_yes (x : RSet) {da db : Value} {w0 : World} (ha : RSl w0 1 da x.data.length (strV x.data)) (hb : RSl w0 1 db x.data.length (strV x.data)) (hx : x.data.length < 1000000) : Rets Tryz.prog 21 [.agg (setV x da).toArray, .agg (setV x db).toArray] w0 fun r w' => r = .bool true ∧ Ext w0 w' :=
  (same_set_spec x x da db w0 ha hb hx hx).mono fun r w' h => ⟨h.1.trans (by rw [sameS_self]), h.2⟩

def r8 (n : Bs) (last : UInt8) (ttl : Nat) : Rec := ⟨n, 1, 1, ttl, [10, 0, 0, last]⟩
theorem a8_spec (n : Bs) (last : UInt8) (k ttl : Nat) (hk : k = last.toNat) (w0 : World) : Rets Tryz.prog 52 [.string (mk n), .int .u8 k, .int .u32 ttl] w0 fun v w' => v = .agg (recV (r8 n last ttl)).toArray ∧ Ext w0 w' := by
  subst hk
  have hH := Hp.refl w0
  refine rets_start Tryz.func52 rfl Tryz.ntmps52 rfl fun a Q0 hF hret hend => ?_
  simp only [argsFrom, Nat.zero_add, Nat.reduceAdd] at hF
  refine c_sr fun ops => ?_
  refine ls_alloc hF hH rfl rfl rfl rfl zv38 ?_
  intro a w g0_0 hH hE hF
  refine c_n ?_
  replace hF := hF.sel [0, 1, 2, 6]
  simp only [ss, Nat.reduceBEq] at hF
  refine c_sr fun ops => ?_
  refine zm 3 hF rfl fun a hF => ?_
  refine ls_build1 hF hH rfl rfl rfl rfl rfl Tryz.underlying88 ti5 rfl (by decide) ?_
  intro a w g1_3 hH hE hF
  have hHd := hH.drop
  refine zl hF rfl (r_convstr hF rfl rfl Tryz.underlying88 Tryz.underlying5 Tryz.underlying9 ((show RSl _ 1 _ 1 (bytV [last]) from rsl_lit (n := 1) (size := 1) hH rfl (by decide)))) fun a hF => ?_
  refine zb hF rfl rfl rfl (b_sadd _ [10, 0, 0] _ (by simp)) fun a hF => ?_
  refine zl hF rfl (r_build hF rfl rfl (bd38_0_1_2_3_4 _ _ _ _ _ _ (rfl) (rfl) (rfl) (rfl) (rfl))) fun a hF => ?_
  refine ls_storeagg 1 hF hH rfl rfl rfl rfl rfl ti38 rfl (rfl) (rfl) (by simp [Value.oneCell']) ?_
  intro w hH
  refine c_n ?_
  replace hF := hF.sel [6]
  simp only [ss, Nat.reduceBEq] at hF
  refine wp_ret (hret (retc1 (fn := Tryz.f52) (t := 6) (i := 1) hF hH Tryz.results52 rfl (by kernel_rfl) ti38 rfl rfl ?_))
  exact ⟨rfl, hH.below⟩

def l8 : List Rec := [r8 [2, 101, 120, 0] 2 5, r8 [2, 69, 88, 0] 1 3, r8 [2, 101, 120, 0] 2 9]
def want8 : RSet := ⟨[2, 101, 120, 0], 1, 1, 3, [[10, 0, 0, 1], [10, 0, 0, 2]]⟩
def late8 : RSet := ⟨[2, 101, 120, 0], 1, 1, 0, [[10, 0, 0, 1], [10, 0, 0, 2]]⟩
theorem awake8_spec (w0 : World) (hG : GW w0) : Rets Tryz.prog 17 [] w0 fun v w' => v = .bool true ∧ Ext w0 w' := by
  have hH := Hp.refl w0
  refine rets_start Tryz.func17 rfl Tryz.ntmps17 rfl fun a Q0 hF hret hend => ?_
  simp only [argsFrom, Nat.zero_add, Nat.reduceAdd] at hF
  refine c_sr fun ops => ?_
  refine zm 1 hF rfl fun a hF => ?_
  refine c_n ?_
  replace hF := hF.sel []
  simp only [ss, Nat.reduceBEq] at hF
  refine c_sr fun ops => ?_
  refine zc hF rfl rfl fn52 (a8_spec [2, 101, 120, 0] 2 2 5 rfl _) ?_
  rintro _ w ⟨rfl, hE⟩ a hF
  replace hH := hH.ext hE
  refine zc hF rfl rfl fn52 (a8_spec [2, 69, 88, 0] 1 1 3 rfl _) ?_
  rintro _ w ⟨rfl, hE⟩ a hF
  replace hH := hH.ext hE
  refine zc hF rfl rfl fn52 (a8_spec [2, 101, 120, 0] 2 2 9 rfl _) ?_
  rintro _ w ⟨rfl, hE⟩ a hF
  replace hH := hH.ext hE
  refine ls_buildN (us := [_, _, _]) hF hH rfl rfl rfl rfl rfl rfl Tryz.underlying34 ti38 (by intro u hu; simp only [List.mem_cons, List.not_mem_nil, or_false] at hu; rcases hu with rfl | rfl | rfl <;> rfl) (by decide) ?_
  intro a w g1_3 hH hE hF
  refine zm 1 hF rfl fun a hF => ?_
  refine c_n ?_
  replace hF := hF.sel [1]
  simp only [ss, Nat.reduceBEq] at hF
  replace hH : Hp w0 w [(g1_3, .cells (recsV l8).toArray 38 (0, 0))] := hH
  refine c_sr fun ops => ?_
  refine ls_buildN (us := [_, _]) hF hH rfl rfl rfl rfl rfl rfl Tryz.underlying25 ti9 (by intro u hu; simp only [List.mem_cons, List.not_mem_nil, or_false] at hu; rcases hu with rfl | rfl <;> rfl) (by decide) ?_
  intro a w g2_0 hH hE hF
  refine zl hF rfl (r_build hF rfl rfl (bd27_0_1_2_3_4 _ _ _ _ _ _ (rfl) (rfl) (rfl) (rfl) (rfl))) fun a hF => ?_
  refine ls_alloc hF hH rfl rfl rfl rfl zv27 ?_
  intro a w g2_2 hH hE hF
  refine ls_storeagg 0 hF hH rfl rfl rfl rfl rfl ti27 rfl (rfl) (rfl) (by simp [Value.oneCell']) ?_
  intro w hH
  refine c_n ?_
  replace hF := hF.sel [1, 2]
  simp only [ss, Nat.reduceBEq] at hF
  replace hH : Hp w0 w [(g2_2, .cells (setV want8 (.slice (some ⟨g2_0, 0, none⟩) 2 2)).toArray 27 (0, 0)), (g2_0, .cells (strV want8.data).toArray 9 (0, 0)), (g1_3, .cells (recsV l8).toArray 38 (0, 0))] := hH
  refine c_sr fun ops => ?_
  refine zl hF rfl (r_loadagg hF rfl rfl Tryz.underlying27 ti27 rfl (own_agg (i := 0) hH rfl)) fun a hF => ?_
  refine ls_alloc hF hH rfl rfl rfl rfl zv27 ?_
  intro a w g3_1 hH hE hF
  refine ls_storeagg 0 hF hH rfl rfl rfl rfl rfl ti27 rfl (rfl) (rfl) (by simp [setV, Value.oneCell']) ?_
  intro w hH
  refine c_n ?_
  replace hF := hF.sel [1, 2, 3]
  simp only [ss, Nat.reduceBEq] at hF
  refine c_sr fun ops => ?_
  refine zl hF rfl (r_fieldaddr0 hF rfl rfl fd27_3) fun a hF => ?_
  refine ls_store 0 hF hH rfl rfl rfl rfl rfl fl24 ti24 rfl (by simp [setV]) (by simp [noFreeze]) (rfl) ?_
  intro w hH
  refine c_n ?_
  replace hF := hF.sel [1, 2, 3]
  simp only [ss, Nat.reduceBEq] at hF
  replace hH : Hp w0 w [(g3_1, .cells (setV late8 (.slice (some ⟨g2_0, 0, none⟩) 2 2)).toArray 27 (0, 0)), (g2_2, .cells (setV want8 (.slice (some ⟨g2_0, 0, none⟩) 2 2)).toArray 27 (0, 0)), (g2_0, .cells (strV want8.data).toArray 9 (0, 0)), (g1_3, .cells (recsV l8).toArray 38 (0, 0))] := hH
  refine c_sr fun ops => ?_
  refine zm 1 hF rfl fun a hF => ?_
  refine zc hF rfl rfl fn26 (group_spec l8 _ _ (rsl_at (n := 3) (size := 5) (i := 3) hH rfl rfl (by decide)) (by decide) (recsB_of (by decide)).each (hG.ext hH.below)) ?_
  rintro v16 w ⟨B, es, hB, hS, hK, hg⟩ a hF
  replace hH := hH.ext hB.below
  have hsr := gsets hB hS hK hg (show groupN l8 = [want8] by kernel_rfl)
  refine zc hF rfl rfl fn18 (find_spec [want8] v16 [2, 69, 120, 0] 1 1 _ hsr (by decide) (by decide) (by decide) (by decide)) ?_
  rintro _ w ⟨dv, Bx, rfl, hBx, hSx⟩ a hF
  replace hH := hH.join hBx
  rw [show findS [want8] [2, 69, 120, 0] 1 1 = some want8 by kernel_rfl] at hSx hF
  simp only [Option.getD_some, Option.isSome_some] at hSx hF
  obtain ⟨gd, cpd, curd, rfl, rfl, -, -, -, -⟩ := hSx.open (by decide)
  refine zm 3 hF rfl fun a hF => ?_
  refine ls_alloc hF hH rfl rfl rfl rfl zv27 ?_
  intro a w g5_6 hH hE hF
  refine ls_storeagg 0 hF hH rfl rfl rfl rfl rfl ti27 rfl (rfl) (rfl) (by simp [setV, cells_agg, Value.oneCell']) ?_
  intro w hH
  refine zm 1 hF rfl fun a hF => ?_
  refine c_n ?_
  replace hF := hF.sel [1, 2, 3, 4, 5]
  simp only [ss, Nat.reduceBEq] at hF
  replace hH : Hp w0 w [(g5_6, .cells (setV want8 (.slice (some ⟨gd, 0, none⟩) 2 cpd)).toArray 27 (0, 0)), (gd, .cells curd 9 (0, 0)), (g3_1, .cells (setV late8 (.slice (some ⟨g2_0, 0, none⟩) 2 2)).toArray 27 (0, 0)), (g2_2, .cells (setV want8 (.slice (some ⟨g2_0, 0, none⟩) 2 2)).toArray 27 (0, 0)), (g2_0, .cells (strV want8.data).toArray 9 (0, 0)), (g1_3, .cells (recsV l8).toArray 38 (0, 0))] := hH
  refine c_seq fun Q1 k1 t1 => ?_
  refine c_flow [0] [1, 2, 3, 4, 5, 6, 7, 8, 9, 10, 11, 12, 13, 14, 15, 16, 17, 18, 19, 20, 21, 22, 23, 24, 25, 26, 27, 28, 29, 30] [] [] (by kernel_rfl) (by kernel_rfl) fun hB => ?_
  refine ps hF rfl rfl rfl rfl (fun w => r_move hF rfl rfl) fun a hF => ?_
  refine fl_start [21, 22, 23, 24, 25, 26, 27, 28, 29, 30, 31, 32, 33, 34, 35, 36, 37, 38, 39, 40, 41, 42, 43, 44, 45, 46, 47, 48, 49, 0] hB (by kernel_rfl) hF ?_
  simp only [wo, hasN, Nat.reduceBEq, cond_true, cond_false] at hF ⊢
  refine fs (fun v w' => SetsR w' v [want8]) rfl (fun _ _ _ he h => h.ext he) ?_ ?_
  ·
   intro a w Lr hE hC hl
   replace hH := hH.ext hE
   have hF := hC.fr
   refine zc hF rfl rfl fn26 (group_spec l8 _ _ (rsl_at (n := 3) (size := 5) (i := 5) hH rfl rfl (by decide)) (by decide) (recsB_of (by decide)).each (hG.ext hH.below)) ?_
   rintro v21 w' ⟨B, es, hB, hS, hK, hg⟩ a' hF'; have hE' := hB.below
   exact wpList_nil (fl_end hC hF' hE' (gsets hB hS hK hg (by kernel_rfl)))
  refine fs1 rfl (by
   intro a w Lr hE hC hl
   replace hH := hH.ext hE
   have hF := hC.fr
   exact zl hF rfl (r_loadagg hF rfl rfl Tryz.underlying27 ti27 rfl (own_agg (i := 3) hH rfl)) fun a' hF' => wpList_nil (fl_end hC hF' (Ext.refl _) rfl)) ?_
  refine fs (fun v w' => SetsR w' v [want8]) rfl (fun _ _ _ he h => h.ext he) ?_ ?_
  ·
   intro a w Lr hE hC hl
   replace hH := hH.ext hE
   obtain ⟨_, s22, rfl⟩ := hl 22 (by decide) _ rfl
   replace hC := hC.more s22
   have hF := hC.fr
   refine ls_build1 hF (Hp.refl w) rfl rfl rfl rfl rfl Tryz.underlying22 ti27 rfl (by decide) ?_
   intro a' w' g hH' hE' hF'
   exact wpList_nil (fl_end hC hF' hE' (by exact SetsR.one (rsl_lit (n := 1) (size := 5) hH' rfl (by decide)) ((rsl_at (n := 2) (size := 1) (i := 4) hH rfl rfl (by decide)).ext hE')))
  refine fs1 rfl (by
   intro a w Lr hE hC hl
   replace hH := hH.ext hE
   obtain ⟨v21, s21, p21⟩ := hl 21 (by decide) _ rfl
   replace hC := hC.more s21
   obtain ⟨v23, s23, p23⟩ := hl 23 (by decide) _ rfl
   replace hC := hC.more s23
   have hF := hC.fr
   refine zc hF rfl rfl fn25 (sameAll_yes [want8] p21 p23 (by decide) (by decide)) ?_
   rintro _ w' ⟨rfl, hE'⟩ a' hF'
   exact wpList_nil (fl_end hC hF' hE' rfl)) ?_
  refine fs1 rfl (by
   intro a w Lr hE hC hl
   replace hH := hH.ext hE
   obtain ⟨_, s24, rfl⟩ := hl 24 (by decide) _ rfl
   replace hC := hC.more s24
   have hF := hC.fr
   exact zl hF rfl (r_move hF rfl rfl) fun a' hF' => wpList_nil (fl_end hC hF' (Ext.refl _) rfl)) ?_
  refine fs1 rfl (by
   intro a w Lr hE hC hl
   replace hH := hH.ext hE
   obtain ⟨_, s25, rfl⟩ := hl 25 (by decide) _ rfl
   replace hC := hC.more s25
   have hF := hC.fr
   exact zy hF rfl rfl (r_move hF rfl rfl) fun a' hF' => wpList_nil (fl_end hC hF' (Ext.refl _) rfl)) ?_
  refine fs1 rfl (by
   intro a w Lr hE hC hl
   replace hH := hH.ext hE
   obtain ⟨_, s25, rfl⟩ := hl 25 (by decide) _ rfl
   replace hC := hC.more s25
   have hF := hC.fr
   refine zyc hF rfl rfl rfl fn52 (a8_spec [2, 101, 120, 0] 1 1 2147483648 rfl _) ?_
   rintro _ w' ⟨rfl, hE'⟩ a' hF'
   exact wpList_nil (fl_end hC hF' hE' rfl)) ?_
  refine fsr rfl (by
   intro a w Lr hE hC hl
   replace hH := hH.ext hE
   obtain ⟨_, s27, rfl⟩ := hl 27 (by decide) _ rfl
   replace hC := hC.more s27
   obtain ⟨_, s25, rfl⟩ := hl 25 (by decide) _ rfl
   replace hC := hC.more s25
   have hF := hC.fr
   refine g_on hF rfl rfl rfl rfl ?_
   refine ls_build1 hF (Hp.refl w) rfl rfl rfl rfl rfl Tryz.underlying34 ti38 rfl (by decide) ?_
   intro a' w' g hH' hE' hF'
   exact wpList_nil (fl_end hC hF' hE' (rsl_lit (n := 1) (size := 5) hH' rfl (by decide)))) ?_
  refine fs (fun v w' => RSl w' 5 v 4 (recsV (l8 ++ [r8 [2, 101, 120, 0] 1 2147483648]))) rfl (fun _ _ _ he h => h.ext he) ?_ ?_
  ·
   intro a w Lr hE hC hl
   replace hH := hH.ext hE
   obtain ⟨_, s26, rfl⟩ := hl 26 (by decide) _ rfl
   replace hC := hC.more s26
   obtain ⟨v28, s28, p28⟩ := hl 28 (by decide) _ rfl
   replace hC := hC.more s28
   obtain ⟨_, s25, rfl⟩ := hl 25 (by decide) _ rfl
   replace hC := hC.more s25
   have hF := hC.fr
   refine g_on hF rfl rfl rfl rfl ?_
   refine ls_appendf hF rfl rfl rfl rfl rfl rfl Tryz.underlying34 ti38 (rsl_at (n := 3) (size := 5) (i := 5) hH rfl rfl (by decide)) p28 (by decide) (by decide) (by decide) ?_
   intro a' v' w' hE' hR' hF'
   exact wpList_nil (fl_end hC hF' hE' hR')
  refine fs (fun v w' => SetsR w' v [late8]) rfl (fun _ _ _ he h => h.ext he) ?_ ?_
  ·
   intro a w Lr hE hC hl
   replace hH := hH.ext hE
   obtain ⟨v29, s29, p29⟩ := hl 29 (by decide) _ rfl
   replace hC := hC.more s29
   obtain ⟨_, s25, rfl⟩ := hl 25 (by decide) _ rfl
   replace hC := hC.more s25
   have hF := hC.fr
   refine zyc hF rfl rfl rfl fn26 (group_spec (l8 ++ [r8 [2, 101, 120, 0] 1 2147483648]) _ _ p29 (by decide) (recsB_of (by decide)).each (hG.ext hH.below)) ?_
   rintro v30 w' ⟨B, es, hB, hS, hK, hg⟩ a' hF'; have hE' := hB.below
   exact wpList_nil (fl_end hC hF' hE' (gsets hB hS hK hg (by kernel_rfl)))
  refine fs1 rfl (by
   intro a w Lr hE hC hl
   replace hH := hH.ext hE
   obtain ⟨_, s25, rfl⟩ := hl 25 (by decide) _ rfl
   replace hC := hC.more s25
   have hF := hC.fr
   exact zy hF rfl rfl (r_loadagg hF rfl rfl Tryz.underlying27 ti27 rfl (own_agg (i := 2) hH rfl)) fun a' hF' => wpList_nil (fl_end hC hF' (Ext.refl _) rfl)) ?_
  refine fs (fun v w' => SetsR w' v [late8]) rfl (fun _ _ _ he h => h.ext he) ?_ ?_
  ·
   intro a w Lr hE hC hl
   replace hH := hH.ext hE
   obtain ⟨_, s31, rfl⟩ := hl 31 (by decide) _ rfl
   replace hC := hC.more s31
   obtain ⟨_, s25, rfl⟩ := hl 25 (by decide) _ rfl
   replace hC := hC.more s25
   have hF := hC.fr
   refine g_on hF rfl rfl rfl rfl ?_
   refine ls_build1 hF (Hp.refl w) rfl rfl rfl rfl rfl Tryz.underlying22 ti27 rfl (by decide) ?_
   intro a' w' g hH' hE' hF'
   exact wpList_nil (fl_end hC hF' hE' (by exact SetsR.one (rsl_lit (n := 1) (size := 5) hH' rfl (by decide)) ((rsl_at (n := 2) (size := 1) (i := 4) hH rfl rfl (by decide)).ext hE')))
  refine fs1 rfl (by
   intro a w Lr hE hC hl
   replace hH := hH.ext hE
   obtain ⟨v30, s30, p30⟩ := hl 30 (by decide) _ rfl
   replace hC := hC.more s30
   obtain ⟨v32, s32, p32⟩ := hl 32 (by decide) _ rfl
   replace hC := hC.more s32
   obtain ⟨_, s25, rfl⟩ := hl 25 (by decide) _ rfl
   replace hC := hC.more s25
   have hF := hC.fr
   refine zyc hF rfl rfl rfl fn25 (sameAll_yes [late8] p30 p32 (by decide) (by decide)) ?_
   rintro _ w' ⟨rfl, hE'⟩ a' hF'
   exact wpList_nil (fl_end hC hF' hE' rfl)) ?_
  refine fs1 rfl (by
   intro a w Lr hE hC hl
   replace hH := hH.ext hE
   obtain ⟨_, s25, rfl⟩ := hl 25 (by decide) _ rfl
   replace hC := hC.more s25
   obtain ⟨_, s33, rfl⟩ := hl 33 (by decide) _ rfl
   replace hC := hC.more s33
   have hF := hC.fr
   exact zl hF rfl (r_pickt hF rfl rfl rfl rfl) fun a' hF' => wpList_nil (fl_end hC hF' (Ext.refl _) rfl)) ?_
  refine fs1 rfl (by
   intro a w Lr hE hC hl
   replace hH := hH.ext hE
   obtain ⟨_, s34, rfl⟩ := hl 34 (by decide) _ rfl
   replace hC := hC.more s34
   have hF := hC.fr
   exact zl hF rfl (r_move hF rfl rfl) fun a' hF' => wpList_nil (fl_end hC hF' (Ext.refl _) rfl)) ?_
  refine fs1 rfl (by
   intro a w Lr hE hC hl
   replace hH := hH.ext hE
   obtain ⟨_, s35, rfl⟩ := hl 35 (by decide) _ rfl
   replace hC := hC.more s35
   have hF := hC.fr
   exact zy hF rfl rfl (r_build hF rfl rfl (bd38_0_1_2_4 _ _ _ _ _ (rfl) (rfl) (rfl) (rfl))) fun a' hF' => wpList_nil (fl_end hC hF' (Ext.refl _) rfl)) ?_
  refine fsr rfl (by
   intro a w Lr hE hC hl
   replace hH := hH.ext hE
   obtain ⟨_, s36, rfl⟩ := hl 36 (by decide) _ rfl
   replace hC := hC.more s36
   obtain ⟨_, s35, rfl⟩ := hl 35 (by decide) _ rfl
   replace hC := hC.more s35
   have hF := hC.fr
   refine g_on hF rfl rfl rfl rfl ?_
   refine ls_build1 hF (Hp.refl w) rfl rfl rfl rfl rfl Tryz.underlying34 ti38 rfl (by decide) ?_
   intro a' w' g hH' hE' hF'
   exact wpList_nil (fl_end hC hF' hE' (rsl_lit (n := 1) (size := 5) hH' rfl (by decide)))) ?_
  refine fs (fun v w' => ∃ ad cap, v = .slice ad ([] : List RSet).length cap) rfl (fun _ _ _ _ h => h) ?_ ?_
  ·
   intro a w Lr hE hC hl
   replace hH := hH.ext hE
   obtain ⟨v37, s37, p37⟩ := hl 37 (by decide) _ rfl
   replace hC := hC.more s37
   obtain ⟨_, s35, rfl⟩ := hl 35 (by decide) _ rfl
   replace hC := hC.more s35
   have hF := hC.fr
   refine zyc hF rfl rfl rfl fn26 (group_spec [⟨[0], 1, 1, 0, [97, 98, 99]⟩] _ _ p37 (by decide) (recsB_of (by decide)).each (hG.ext hH.below)) ?_
   rintro v38 w' ⟨B, es, hB, hS, hK, hg⟩ a' hF'; have hE' := hB.below
   exact wpList_nil (fl_end hC hF' hE' (gshape hS hg (by kernel_rfl)))
  refine fs1 rfl (by
   intro a w Lr hE hC hl
   replace hH := hH.ext hE
   obtain ⟨v38, s38, p38⟩ := hl 38 (by decide) _ rfl
   replace hC := hC.more s38
   obtain ⟨_, s35, rfl⟩ := hl 35 (by decide) _ rfl
   replace hC := hC.more s35
   obtain ⟨_, _, rfl⟩ := p38
   have hF := hC.fr
   exact zy hF rfl rfl (r_len_sl hF rfl rfl Tryz.underlying22) fun a' hF' => wpList_nil (fl_end hC hF' (Ext.refl _) rfl)) ?_
  refine fs1 rfl (by
   intro a w Lr hE hC hl
   replace hH := hH.ext hE
   obtain ⟨_, s39, rfl⟩ := hl 39 (by decide) _ rfl
   replace hC := hC.more s39
   obtain ⟨_, s35, rfl⟩ := hl 35 (by decide) _ rfl
   replace hC := hC.more s35
   have hF := hC.fr
   exact zy hF rfl rfl (zr hF rfl rfl (b_eqn _ _ _ 0)) fun a' hF' => wpList_nil (fl_end hC hF' (Ext.refl _) rfl)) ?_
  refine fs1 rfl (by
   intro a w Lr hE hC hl
   replace hH := hH.ext hE
   obtain ⟨_, s35, rfl⟩ := hl 35 (by decide) _ rfl
   replace hC := hC.more s35
   obtain ⟨_, s40, rfl⟩ := hl 40 (by decide) _ rfl
   replace hC := hC.more s40
   have hF := hC.fr
   exact zl hF rfl (r_pickt hF rfl rfl rfl rfl) fun a' hF' => wpList_nil (fl_end hC hF' (Ext.refl _) rfl)) ?_
  refine fs1 rfl (by
   intro a w Lr hE hC hl
   replace hH := hH.ext hE
   obtain ⟨_, s41, rfl⟩ := hl 41 (by decide) _ rfl
   replace hC := hC.more s41
   have hF := hC.fr
   exact zl hF rfl (r_move hF rfl rfl) fun a' hF' => wpList_nil (fl_end hC hF' (Ext.refl _) rfl)) ?_
  refine fs1 rfl (by
   intro a w Lr hE hC hl
   replace hH := hH.ext hE
   obtain ⟨_, s42, rfl⟩ := hl 42 (by decide) _ rfl
   replace hC := hC.more s42
   have hF := hC.fr
   exact zy hF rfl rfl (r_move hF rfl rfl) fun a' hF' => wpList_nil (fl_end hC hF' (Ext.refl _) rfl)) ?_
  refine fs1 rfl (by
   intro a w Lr hE hC hl
   replace hH := hH.ext hE
   obtain ⟨_, s42, rfl⟩ := hl 42 (by decide) _ rfl
   replace hC := hC.more s42
   obtain ⟨_, s43, rfl⟩ := hl 43 (by decide) _ rfl
   replace hC := hC.more s43
   have hF := hC.fr
   exact zl hF rfl (r_pickt hF rfl rfl rfl rfl) fun a' hF' => wpList_nil (fl_end hC hF' (Ext.refl _) rfl)) ?_
  refine fs1 rfl (by
   intro a w Lr hE hC hl
   replace hH := hH.ext hE
   obtain ⟨_, s44, rfl⟩ := hl 44 (by decide) _ rfl
   replace hC := hC.more s44
   have hF := hC.fr
   exact zl hF rfl (r_move hF rfl rfl) fun a' hF' => wpList_nil (fl_end hC hF' (Ext.refl _) rfl)) ?_
  refine fs1 rfl (by
   intro a w Lr hE hC hl
   replace hH := hH.ext hE
   obtain ⟨_, s45, rfl⟩ := hl 45 (by decide) _ rfl
   replace hC := hC.more s45
   have hF := hC.fr
   exact zy hF rfl rfl (r_loadagg hF rfl rfl Tryz.underlying27 ti27 rfl (own_agg (i := 0) hH rfl)) fun a' hF' => wpList_nil (fl_end hC hF' (Ext.refl _) rfl)) ?_
  refine fs1 rfl (by
   intro a w Lr hE hC hl
   replace hH := hH.ext hE
   obtain ⟨_, s45, rfl⟩ := hl 45 (by decide) _ rfl
   replace hC := hC.more s45
   have hF := hC.fr
   exact zy hF rfl rfl (r_loadagg hF rfl rfl Tryz.underlying27 ti27 rfl (own_agg (i := 3) hH rfl)) fun a' hF' => wpList_nil (fl_end hC hF' (Ext.refl _) rfl)) ?_
  refine fs1 rfl (by
   intro a w Lr hE hC hl
   replace hH := hH.ext hE
   obtain ⟨_, s46, rfl⟩ := hl 46 (by decide) _ rfl
   replace hC := hC.more s46
   obtain ⟨_, s47, rfl⟩ := hl 47 (by decide) _ rfl
   replace hC := hC.more s47
   obtain ⟨_, s45, rfl⟩ := hl 45 (by decide) _ rfl
   replace hC := hC.more s45
   have hF := hC.fr
   refine zyc hF rfl rfl rfl fn21 (same_yes want8 (hSx.rsl hH (fun p hp => by rw [List.mem_singleton.1 hp]; simp)) (rsl_at (n := 2) (size := 1) (i := 4) hH rfl rfl (by decide)) (by decide)) ?_
   rintro _ w' ⟨rfl, hE'⟩ a' hF'
   exact wpList_nil (fl_end hC hF' hE' rfl)) ?_
  refine fs1 rfl (by
   intro a w Lr hE hC hl
   replace hH := hH.ext hE
   obtain ⟨_, s45, rfl⟩ := hl 45 (by decide) _ rfl
   replace hC := hC.more s45
   obtain ⟨_, s48, rfl⟩ := hl 48 (by decide) _ rfl
   replace hC := hC.more s48
   have hF := hC.fr
   exact zl hF rfl (r_pickt hF rfl rfl rfl rfl) fun a' hF' => wpList_nil (fl_end hC hF' (Ext.refl _) rfl)) ?_
  refine fs1 rfl (by
   intro a w Lr hE hC hl
   replace hH := hH.ext hE
   obtain ⟨_, s49, rfl⟩ := hl 49 (by decide) _ rfl
   replace hC := hC.more s49
   have hF := hC.fr
   exact zl hF rfl (r_assign hF rfl rfl) fun a' hF' => wpList_nil (fl_end hC hF' (Ext.refl _) rfl)) ?_
  intro a w hE hF hall
  replace hH := hH.ext hE
  obtain ⟨_, s0, rfl⟩ := hall 0 _ rfl
  replace hF := hF.more s0
  clear hall
  refine wpList_nil ?_
  replace hF := hF.sel [0]
  simp only [ss, Nat.reduceBEq] at hF
  refine k1 ?_
  refine wp_ret (hret (ret1 hF Tryz.results17 rfl ?_))
  exact ⟨rfl, hH.below⟩
end Go.Proofs.YtcelgjabccgnmaaGreatDoor
