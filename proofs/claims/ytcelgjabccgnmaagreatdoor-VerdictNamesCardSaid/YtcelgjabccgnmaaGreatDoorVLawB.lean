/-
  The walk of VerdictKeys. Nothing is claimed here.
-/
import Derived.Test.YtcelgjabccgnmaaGreatDoorVLawA
namespace Go.Proofs.YtcelgjabccgnmaaGreatDoor
open Go.RowKit
set_option linter.unusedVariables false
set_option linter.unusedSimpArgs false
set_option maxHeartbeats 1000000

theorem flat_bound {α : Type} (f : α → Bs) (B : Nat) : ∀ (l : List α), (∀ x ∈ l, (f x).length ≤ B) → (l.flatMap f).length ≤ l.length * B
  | [], _ => by simp
  | x :: l, h => by
    have h1 := h x (List.mem_cons_self ..)
    have h2 := flat_bound f B l fun y hy => h y (List.mem_cons_of_mem _ hy)
    rw [List.flatMap_cons, List.length_append, List.length_cons, Nat.succ_mul]; omega
theorem KeyOk.setK {s : RSet} (h : KeyOk s) : SetK s := by
  have h1 := may_len h.name
  have h2 := h.data
  have h3 : (s.data.flatMap keyT).length ≤ s.data.length * 65538 := flat_bound keyT 65538 s.data fun d hd => by
    have := h.each d hd
    unfold keyT; rw [List.length_append, two_len]; omega
  have h4 : s.data.length * 65538 ≤ 65536 * 65538 := Nat.mul_le_mul_right _ (by omega)
  exact ⟨by omega, h.kind, h.cls, by omega, fun d hd => by have := h.each d hd; omega, by omega⟩
theorem keys_bound {l : List RSet} (hl : l.length < 10) (h : ∀ s ∈ l, SetK s) : (l.flatMap keyS).length < 1000000000000 := by
  have h1 := flat_bound keyS 10001000010 l fun s hs => Nat.le_of_lt (keyS_len (h s hs))
  have h2 : l.length * 10001000010 ≤ 9 * 10001000010 := Nat.mul_le_mul_right _ (by omega)
  omega
theorem VerdOk.verdK {x : Verd} (h : VerdOk x) : VerdK x := by
  have h1 := h.sets
  have h2 := h.soa
  have h3 : ∀ s ∈ x.sets, SetK s := fun s hs => (h.each s (List.mem_append_left _ hs)).setK
  have h4 : ∀ s ∈ x.soa, SetK s := fun s hs => (h.each s (List.mem_append_right _ hs)).setK
  exact ⟨h.code, by omega, by omega, h3, h4, keys_bound h1 h3, keys_bound h2 h4⟩
theorem VerdOk.verdM {x : Verd} (h : VerdOk x) : VerdM x := ⟨h.verdK.setsL, h.verdK.soaL, fun s hs => (h.verdK.sets s hs).data, fun s hs => (h.verdK.soa s hs).data⟩
theorem own_verd {x : Verd} {sv ov : Value} (h1 : sv.oneCell' = true) (h2 : ov.oneCell' = true) : ∀ u ∈ verdV x sv ov, u.oneCell' = true := by
  intro u hu
  simp only [verdV, List.mem_cons, List.not_mem_nil, or_false] at hu
  rcases hu with rfl | rfl | rfl
  · rfl
  · exact h1
  · exact h2
theorem verdOk_zero {nm : Bs} {kind cls code : Nat} {ans auth : List Rec} {V : Nat × Verd × Nat} (h : verdN nm kind cls code ans auth = V) (h0 : V.1 = 0) (h1 : RecsS ans) (h2 : RecsS auth) : VerdOk V.2.1 := by
  subst h; exact verdOk_of h1 h2 h0
theorem verdictKeys_spec (p q : Que) (m n : Msg) (qv av uv xv ov qv2 av2 uv2 xv2 ov2 : Value) (w0 : World) (hp : QueL p) (hq : QueL q) (hm : MsgR w0 m qv av uv xv ov) (hlm : MsgL m) (hn : MsgR w0 n qv2 av2 uv2 xv2 ov2) (hln : MsgL n) (hG : GW w0) :
    Rets Tryz.prog 12 [.agg (quV p).toArray, .agg (quV q).toArray, .agg (msgV m qv av uv xv ov).toArray, .agg (msgV n qv2 av2 uv2 xv2 ov2).toArray] w0 fun r w' => r = .bool true ∧ Ext w0 w' := by
  have hH := Hp.refl w0
  obtain ⟨V, hV⟩ : ∃ V, verdN p.name p.kind p.cls m.hd.code m.ans m.auth = V := ⟨_, rfl⟩
  obtain ⟨W, hW⟩ : ∃ W, verdN q.name q.kind q.cls n.hd.code n.ans n.auth = W := ⟨_, rfl⟩
  refine rets_start Tryz.func12 rfl Tryz.ntmps12 rfl fun a Q0 hF hret hend => ?_
  simp only [argsFrom, Nat.zero_add, Nat.reduceAdd] at hF
  refine c_sr fun ops => ?_
  refine ls_box hF hH rfl rfl rfl rfl rfl ?_
  intro a w g0_0 hH hE hF
  refine ls_box hF hH rfl rfl rfl rfl rfl ?_
  intro a w g0_1 hH hE hF
  refine ls_box hF hH rfl rfl rfl rfl rfl ?_
  intro a w g0_2 hH hE hF
  refine ls_box hF hH rfl rfl rfl rfl rfl ?_
  intro a w g0_3 hH hE hF
  refine zm 1 hF rfl fun a hF => ?_
  refine c_n ?_
  replace hF := hF.sel [4, 5, 6, 7]
  simp only [ss, Nat.reduceBEq] at hF
  refine c_seq fun Q1 k1 t1 => ?_
  simp only [cells_agg] at hH
  refine c_sg ?_
  refine zl hF rfl (r_loadagg hF rfl rfl Tryz.underlying49 ti49 rfl (own_agg (i := 3) hH rfl)) fun a hF => ?_
  refine zl hF rfl (r_loadagg hF rfl rfl Tryz.underlying62 ti62 rfl (own_agg (i := 1) hH rfl)) fun a hF => ?_
  refine zc hF rfl rfl fn38 (large_spec p m _ _ _ _ _ _ (hm.ext hH.below) hlm) ?_
  rintro _ w ⟨⟨b, rfl, hsm⟩, hE⟩ a hF
  replace hH := hH.ext hE
  refine zm 1 hF rfl fun a hF => ?_
  refine ls_ask (d := 18) hF rfl (fun g1_3 => ?_) (fun g1_3 => ?_)
  ·
   have g1_3' := g1_3; try simp only [qq] at g1_3'
   refine zn hF rfl g1_3 fun a hF => ?_
   refine zn hF rfl g1_3 fun a hF => ?_
   refine zn hF rfl g1_3 fun a hF => ?_
   refine zl hF rfl (r_pickt hF rfl rfl g1_3 rfl) fun a hF => ?_
   refine zm 1 hF rfl fun a hF => ?_
   refine zn hF rfl rfl fun a hF => ?_
   refine zn hF rfl rfl fun a hF => ?_
   refine zl hF rfl (r_pickt hF rfl rfl rfl rfl) fun a hF => ?_
   refine c_n ?_
   replace hF := hF.sel [4, 5, 6, 7, 26]
   simp only [ss, Nat.reduceBEq] at hF
   refine c_yes hF rfl rfl ?_
   refine c_sr fun ops => ?_
   refine zc hF rfl rfl fn39 (awake11_spec _ (hG.ext hH.below)) ?_
   rintro _ w ⟨rfl, hE⟩ a hF
   replace hH := hH.ext hE
   refine zm 1 hF rfl fun a hF => ?_
   refine c_n ?_
   replace hF := hF.sel [8]
   simp only [ss, Nat.reduceBEq] at hF
   refine wp_ret (t1.ret (hret (ret1 hF Tryz.results12 rfl ?_)))
   exact ⟨rfl, hH.below⟩
  have g1_3' := g1_3; try simp only [qq] at g1_3'
  refine zy hF rfl g1_3 (r_loadagg hF rfl rfl Tryz.underlying49 ti49 rfl (own_agg (i := 2) hH rfl)) fun a hF => ?_
  refine zy hF rfl g1_3 (r_loadagg hF rfl rfl Tryz.underlying62 ti62 rfl (own_agg (i := 0) hH rfl)) fun a hF => ?_
  refine zyc hF rfl g1_3 rfl fn38 (large_spec q n _ _ _ _ _ _ (hn.ext hH.below) hln) ?_
  rintro _ w ⟨⟨b2, rfl, hsn⟩, hE⟩ a hF
  replace hH := hH.ext hE
  refine zl hF rfl (r_pickf hF rfl rfl g1_3 rfl) fun a hF => ?_
  refine zm 1 hF rfl fun a hF => ?_
  refine ls_ask (d := 23) hF rfl (fun g1_8 => ?_) (fun g1_8 => ?_)
  ·
   have g1_8' := g1_8; try simp only [qq] at g1_8'
   refine zn hF rfl g1_8 fun a hF => ?_
   refine zn hF rfl g1_8 fun a hF => ?_
   refine zl hF rfl (r_pickt hF rfl rfl g1_8 rfl) fun a hF => ?_
   refine c_n ?_
   replace hF := hF.sel [4, 5, 6, 7, 26]
   simp only [ss, Nat.reduceBEq] at hF
   refine c_yes hF rfl rfl ?_
   refine c_sr fun ops => ?_
   refine zc hF rfl rfl fn39 (awake11_spec _ (hG.ext hH.below)) ?_
   rintro _ w ⟨rfl, hE⟩ a hF
   replace hH := hH.ext hE
   refine zm 1 hF rfl fun a hF => ?_
   refine c_n ?_
   replace hF := hF.sel [8]
   simp only [ss, Nat.reduceBEq] at hF
   refine wp_ret (t1.ret (hret (ret1 hF Tryz.results12 rfl ?_)))
   exact ⟨rfl, hH.below⟩
  have g1_8' := g1_8; try simp only [qq] at g1_8'
  refine zyc hF rfl g1_8 rfl fn39 (awake11_spec _ (hG.ext hH.below)) ?_
  rintro _ w ⟨rfl, hE⟩ a hF
  replace hH := hH.ext hE
  refine zy hF rfl g1_8 (r_not hF rfl rfl) fun a hF => ?_
  refine zl hF rfl (r_pickf hF rfl rfl g1_8 rfl) fun a hF => ?_
  refine c_n ?_
  replace hF := hF.sel [4, 5, 6, 7, 26]
  simp only [ss, Nat.reduceBEq] at hF
  refine c_if hF rfl (fun h26 => ?_) (fun h26 => ?_)
  ·
   try simp only [qq] at h26
   refine c_sr fun ops => ?_
   refine zc hF rfl rfl fn39 (awake11_spec _ (hG.ext hH.below)) ?_
   rintro _ w ⟨rfl, hE⟩ a hF
   replace hH := hH.ext hE
   refine zm 1 hF rfl fun a hF => ?_
   refine c_n ?_
   replace hF := hF.sel [8]
   simp only [ss, Nat.reduceBEq] at hF
   refine wp_ret (t1.ret (hret (ret1 hF Tryz.results12 rfl ?_)))
   exact ⟨rfl, hH.below⟩
  try simp only [qq] at h26
  have hS1 := hsm g1_3'
  have hS2 := hsn g1_8'
  have hp1 := hS1.name
  have hq1 := hS2.name
  refine wp_skip ?_
  refine k1 ?_
  refine c_sr fun ops => ?_
  refine zl hF rfl (r_loadagg hF rfl rfl Tryz.underlying49 ti49 rfl (own_agg (i := 3) hH rfl)) fun a hF => ?_
  refine zl hF rfl (r_loadagg hF rfl rfl Tryz.underlying62 ti62 rfl (own_agg (i := 1) hH rfl)) fun a hF => ?_
  refine zc hF rfl rfl fn40 (verdOfX hV (hm.ans.ext hH.below) (hm.auth.ext hH.below) hS1.ans.b hS1.auth.b (by omega) (hG.ext hH.below)) ?_
  rintro _ w ⟨sv1, tv1, rfl, hV1, hE⟩ a hF
  replace hH := hH.ext hE
  obtain ⟨a1, c1, rfl⟩ := hV1.sets.shapeK
  obtain ⟨a2, c2, rfl⟩ := hV1.soa.shapeK
  have fp := own_agg (i := 3) hH rfl
  have fq := own_agg (i := 2) hH rfl
  have fm := own_agg (i := 1) hH rfl
  have fn := own_agg (i := 0) hH rfl
  have hE0 := hH.below
  obtain ⟨w3, hw3⟩ : ∃ w3, w3 = w := ⟨w, rfl⟩
  rw [← hw3] at fp
  rw [← hw3] at fq
  rw [← hw3] at fm
  rw [← hw3] at fn
  rw [← hw3] at hV1
  rw [← hw3] at hE0
  replace hH : Hp w3 w [] := by rw [hw3]; exact Hp.refl _
  clear hw3
  refine zm 4 hF rfl fun a hF => ?_
  refine ls_alloc hF hH rfl rfl rfl rfl zv65 ?_
  intro a w g3_7 hH hE hF
  refine ls_storeagg 0 hF hH rfl rfl rfl rfl rfl ti65 rfl (rfl) (rfl) (own_verd rfl rfl) ?_
  intro w hH
  simp only [List.set_cons_zero] at hH
  refine zm 2 hF rfl fun a hF => ?_
  refine c_n ?_
  replace hF := hF.sel [5, 7, 9, 11]
  simp only [ss, Nat.reduceBEq] at hF
  refine c_sr fun ops => ?_
  refine zl hF rfl (r_loadagg hF rfl rfl Tryz.underlying49 ti49 rfl (fun j u hu => hH.cell (fq j u hu))) fun a hF => ?_
  refine zl hF rfl (r_loadagg hF rfl rfl Tryz.underlying62 ti62 rfl (fun j u hu => hH.cell (fn j u hu))) fun a hF => ?_
  refine zc hF rfl rfl fn40 (verdOfX hW (hn.ans.ext (hE0.trans hH.below)) (hn.auth.ext (hE0.trans hH.below)) hS2.ans.b hS2.auth.b (by omega) (hG.ext (hE0.trans hH.below))) ?_
  rintro _ w ⟨sv2, tv2, rfl, hV2, hE⟩ a hF
  replace hH := hH.ext hE
  obtain ⟨a3, c3, rfl⟩ := hV2.sets.shapeK
  obtain ⟨a4, c4, rfl⟩ := hV2.soa.shapeK
  have fv := own_agg (i := 0) hH rfl
  replace hV1 := hV1.ext hH.below
  replace hE0 := hE0.trans hH.below
  obtain ⟨w4, hw4⟩ : ∃ w4, w4 = w := ⟨w, rfl⟩
  rw [← hw4] at fv
  rw [← hw4] at hV1
  rw [← hw4] at hV2
  rw [← hw4] at hE0
  replace hH : Hp w4 w [] := by rw [hw4]; exact Hp.refl _
  clear hw4
  refine zm 4 hF rfl fun a hF => ?_
  refine ls_alloc hF hH rfl rfl rfl rfl zv65 ?_
  intro a w g4_7 hH hE hF
  refine ls_storeagg 0 hF hH rfl rfl rfl rfl rfl ti65 rfl (rfl) (rfl) (own_verd rfl rfl) ?_
  intro w hH
  simp only [List.set_cons_zero] at hH
  refine zm 2 hF rfl fun a hF => ?_
  refine c_n ?_
  replace hF := hF.sel [9, 11, 12, 14]
  simp only [ss, Nat.reduceBEq] at hF
  refine c_seq fun Q2 k2 t2 => ?_
  refine c_sg ?_
  refine zm 1 hF rfl fun a hF => ?_
  refine zb hF rfl rfl rfl (b_nen _ _ _ 0) fun a hF => ?_
  refine zm 1 hF rfl fun a hF => ?_
  refine ls_ask (d := 44) hF rfl (fun g5_2 => ?_) (fun g5_2 => ?_)
  ·
   have g5_2' := g5_2; try simp only [qq] at g5_2'
   refine zn hF rfl g5_2 fun a hF => ?_
   refine zn hF rfl g5_2 fun a hF => ?_
   refine zl hF rfl (r_pickt hF rfl rfl g5_2 rfl) fun a hF => ?_
   refine c_n ?_
   replace hF := hF.sel [9, 12, 47]
   simp only [ss, Nat.reduceBEq] at hF
   refine c_yes hF rfl rfl ?_
   refine c_sr fun ops => ?_
   refine zm 1 hF rfl fun a hF => ?_
   refine c_n ?_
   replace hF := hF.sel [8]
   simp only [ss, Nat.reduceBEq] at hF
   refine wp_ret (t2.ret (hret (ret1 hF Tryz.results12 rfl ?_)))
   exact ⟨rfl, hE0.trans hH.below⟩
  have g5_2' := g5_2; try simp only [qq] at g5_2'
  refine zy hF rfl g5_2 (r_move hF rfl rfl) fun a hF => ?_
  refine zy hF rfl g5_2 (zr hF rfl rfl (b_nen _ _ _ 0)) fun a hF => ?_
  refine zl hF rfl (r_pickf hF rfl rfl g5_2 rfl) fun a hF => ?_
  refine c_n ?_
  replace hF := hF.sel [9, 12, 47]
  simp only [ss, Nat.reduceBEq] at hF
  refine c_if hF rfl (fun h47 => ?_) (fun h47 => ?_)
  ·
   try simp only [qq] at h47
   refine c_sr fun ops => ?_
   refine zm 1 hF rfl fun a hF => ?_
   refine c_n ?_
   replace hF := hF.sel [8]
   simp only [ss, Nat.reduceBEq] at hF
   refine wp_ret (t2.ret (hret (ret1 hF Tryz.results12 rfl ?_)))
   exact ⟨rfl, hE0.trans hH.below⟩
  try simp only [qq] at h47
  have hk1 := verdOk_zero hV (by simpa using g5_2') hS1.ans hS1.auth
  have hk2 := verdOk_zero hW (by simpa using h47) hS2.ans hS2.auth
  have hkey : decide (keyV V.2.1 = keyV W.2.1) = decide (V.2.1 = W.2.1) := by rw [decide_eq_decide]; exact ⟨keyV_inj hk1 hk2, fun e => by rw [e]⟩
  refine wp_skip ?_
  refine k2 ?_
  refine c_seq fun Q3 k3 t3 => ?_
  refine q_reg (by kernel_rfl) (by kernel_rfl) ?_
  refine qs hF rfl rfl rfl (fun w hw => r_loadagg hF rfl rfl Tryz.underlying65 ti65 rfl (fun j u hu => (hH.ext hw).cell (fv j u hu))) fun a hF => ?_
  refine qs_call hF rfl rfl rfl rfl rfl fn46 (fun w hw => key_spec V.2.1 _ _ _ (hV1.ext (hH.below.trans hw)) hk1.verdK) fun a hF => ?_
  refine qs hF rfl rfl rfl (fun w hw => r_loadagg hF rfl rfl Tryz.underlying65 ti65 rfl (own_agg (i := 0) (hH.ext hw) rfl)) fun a hF => ?_
  refine qs_call hF rfl rfl rfl rfl rfl fn46 (fun w hw => key_spec W.2.1 _ _ _ (hV2.ext (hH.below.trans hw)) hk2.verdK) fun a hF => ?_
  refine qs hF rfl rfl rfl (fun w hw => zr hF rfl rfl (b_seq _ _ _)) fun a hF => ?_
  refine qs hF rfl rfl rfl (fun w hw => r_loadagg hF rfl rfl Tryz.underlying65 ti65 rfl (fun j u hu => (hH.ext hw).cell (fv j u hu))) fun a hF => ?_
  refine qs hF rfl rfl rfl (fun w hw => r_loadagg hF rfl rfl Tryz.underlying65 ti65 rfl (own_agg (i := 0) (hH.ext hw) rfl)) fun a hF => ?_
  refine qs_call hF rfl rfl rfl rfl rfl fn47 (fun w hw => vsame_spec V.2.1 W.2.1 _ _ _ _ _ (hV1.ext (hH.below.trans hw)) (hV2.ext (hH.below.trans hw)) hk1.verdM hk2.verdM) fun a hF => ?_
  refine qs hF rfl rfl rfl (fun w hw => zr hF rfl rfl (b_beq _ _ _ Tryz.underlying4)) fun a hF => ?_
  refine qs hF rfl rfl rfl (fun w hw => r_move hF rfl rfl) fun a hF => ?_
  refine q_ask (d := 57) hF rfl (fun g7_9 => ?_) (fun g7_9 => ?_)
  ·
   have g7_9' := g7_9; try simp only [qq] at g7_9'
   refine qsy hF rfl rfl rfl g7_9 rfl rfl (fun w hw => r_loadagg hF rfl rfl Tryz.underlying65 ti65 rfl (fun j u hu => (hH.ext hw).cell (fv j u hu))) fun a hF => ?_
   refine qsy hF rfl rfl rfl g7_9 rfl rfl (fun w hw => r_loadagg hF rfl rfl Tryz.underlying65 ti65 rfl (own_agg (i := 0) (hH.ext hw) rfl)) fun a hF => ?_
   refine qsy_call hF rfl rfl rfl g7_9 rfl rfl rfl rfl fn47 (fun w hw => vsame_spec V.2.1 W.2.1 _ _ _ _ _ (hV1.ext (hH.below.trans hw)) (hV2.ext (hH.below.trans hw)) hk1.verdM hk2.verdM) fun a hF => ?_
   refine qsy hF rfl rfl rfl g7_9 rfl rfl (fun w hw => r_loadagg hF rfl rfl Tryz.underlying65 ti65 rfl (fun j u hu => (hH.ext hw).cell (fv j u hu))) fun a hF => ?_
   refine qsy hF rfl rfl rfl g7_9 rfl rfl (fun w hw => r_loadagg hF rfl rfl Tryz.underlying65 ti65 rfl (own_agg (i := 0) (hH.ext hw) rfl)) fun a hF => ?_
   refine qsy_call hF rfl rfl rfl g7_9 rfl rfl rfl rfl fn43 (fun w hw => vsame11_spec V.2.1 W.2.1 _ _ _ _ _ (hV1.ext (hH.below.trans hw)) (hV2.ext (hH.below.trans hw)) hk1.verdM hk2.verdM) fun a hF => ?_
   refine qsy hF rfl rfl rfl g7_9 rfl rfl (fun w hw => zr hF rfl rfl (b_beq _ _ _ Tryz.underlying4)) fun a hF => ?_
   refine qs hF rfl rfl rfl (fun w hw => r_pickt hF rfl rfl g7_9 rfl) fun a hF => ?_
   refine qs hF rfl rfl rfl (fun w hw => r_assign hF rfl rfl) fun a hF => ?_
   refine q_nil fun w hE => ?_
   replace hH := hH.ext hE
   replace hF := hF.sel [8]
   simp only [ss, Nat.reduceBEq] at hF
   refine k3 ?_
   refine wp_ret (hret (ret1 hF Tryz.results12 rfl ?_))
   exact ⟨by simp, hE0.trans hH.below⟩
  have g7_9' := g7_9; try simp only [qq] at g7_9'
  rw [hkey] at g7_9; simp at g7_9
end Go.Proofs.YtcelgjabccgnmaaGreatDoor
