/-
  The walk of VerdictParts. Nothing is claimed here.
-/
import Derived.Test.YtcelgjabccgnmaaGreatDoorVEnd
import Derived.Test.YtcelgjabccgnmaaGreatDoorVPartsL
import Derived.Test.YtcelgjabccgnmaaGreatDoorKit3
import Derived.Test.YtcelgjabccgnmaaGreatDoorHeld
namespace Go.Proofs.YtcelgjabccgnmaaGreatDoor
open Go.RowKit
set_option linter.unusedVariables false
set_option linter.unusedSimpArgs false
set_option maxHeartbeats 1000000

theorem ents_of : ∀ (l : List RSet) (dvs : List Value), dvs.length = l.length → ∃ es : List Ent, es.map (·.1) = l ∧ es.map (·.2.1) = dvs
  | [], [], _ => ⟨[], rfl, rfl⟩
  | [], _ :: _, h => by simp at h
  | _ :: _, [], h => by simp at h
  | s :: l, d :: ds, h => by
    obtain ⟨es, h1, h2⟩ := ents_of l ds (by simpa using h)
    exact ⟨(s, d, []) :: es, by rw [List.map_cons, h1], by rw [List.map_cons, h2]⟩
theorem SetsR.ents {w : World} {v : Value} {l : List RSet} (h : SetsR w v l) : ∃ es : List Ent, es.map (·.1) = l ∧ RSl w 5 v es.length (entV es) ∧ EntR w es := by
  obtain ⟨dvs, hd, h1, h2⟩ := h
  obtain ⟨es, e1, e2⟩ := ents_of l dvs hd
  subst e1
  subst e2
  refine ⟨es, rfl, by rw [← setsV_ent]; simpa using h1, fun e he => ?_⟩
  obtain ⟨i, hi, rfl⟩ := List.mem_iff_getElem.1 he
  have := h2 i (by simpa using hi)
  simpa using this
theorem EntR.ext {w w' : World} {es : List Ent} (h : EntR w es) (he : Ext w w') : EntR w' es := fun e hm => (h e hm).ext he
theorem EntR.append {w : World} {a b : List Ent} (ha : EntR w a) (hb : EntR w b) : EntR w (a ++ b) := fun e he => (List.mem_append.1 he).elim (ha e) (hb e)
theorem EntR.ones {w : World} {es : List Ent} (h : EntR w es) : ∀ u ∈ entV es, u.oneCell' = true := entV_one fun e he => by
  obtain ⟨_, _, e1⟩ := (h e he).shape
  rw [e1]; rfl
theorem sl_none {g : Nat} {e : TypeId} : Sl e 5 [(g, .cells #[] e (0, 0))] (.slice (some ⟨g, 0, none⟩) 0 0) 0 [] := ⟨rfl, .inr ⟨g, 0, _, rfl, rfl, Nat.le_refl _, Nat.zero_le _, rfl, rfl⟩⟩
/-- What Follow tells, read. -/
theorem followX {nm : Bs} {kind cls : Nat} {l C Ed : List RSet} {v : Value} {w0 : World} (h1 : (followC nm kind cls l).1 = 0) (h2 : (followC nm kind cls l).2.1 = C) (h3 : endsOf (followC nm kind cls l) kind cls l = Ed) (hR : SetsR w0 v l) (hb : SetsB l) (hn : nm.length < 1000000) (hG : GW w0) :
    Rets Tryz.prog 36 [.agg (queV nm kind cls).toArray, v] w0
      fun r w' => (∃ cv ev p, r = .tuple #[cv, .string (mk p), ev, .int .i64 0] ∧ SetsR w' cv C ∧ SetsR w' ev Ed) ∧ Ext w0 w' :=
  (follow_spec nm kind cls l v w0 hR hb.len hn hb.name hb.data hb.each hG).mono fun r w' ⟨cv, ev, B1, es1, B2, es2, e, hB, hS1, hK1, e1, hS2, hK2, e2⟩ =>
    ⟨⟨cv, ev, (followC nm kind cls l).2.2, by rw [e, h1]; rfl, by rw [← h2, ← e1]; exact sets_read hB hS1 hK1 (fun p hp => List.mem_append_left _ (List.mem_append_left _ hp)) (fun p hp => List.mem_append_left _ (List.mem_append_right _ hp)),
      by rw [← h3, ← e2]; exact sets_read hB hS2 hK2 (fun p hp => List.mem_append_right _ (List.mem_append_left _ hp)) (fun p hp => List.mem_append_right _ (List.mem_append_right _ hp))⟩, hB.below⟩
theorem vEndX {q : Que} {x : Verd} {sv ov : Value} {w0 : World} {b : Bool} (hb : (endV q.kind x).isSome = b) (hR : VerdR w0 x sv ov) (hx : VerdM x) :
    Rets Tryz.prog 45 [.agg (quV q).toArray, .agg (verdV x sv ov).toArray] w0 fun r w' => ∃ dv B, r = .tuple #[.agg (setV ((endV q.kind x).getD noSet) dv).toArray, .bool b] ∧ Hp w0 w' B ∧
      Sl 9 1 B dv ((endV q.kind x).getD noSet).data.length (strV ((endV q.kind x).getD noSet).data) := by
  subst hb; exact vEnd_spec q x sv ov w0 hR hx
theorem flat_succ {l : List RSet} {i : Nat} (h : i < l.length) : (l.take (i + 1)).flatMap recsOf = (l.take i).flatMap recsOf ++ recsOf l[i] := by
  rw [List.take_succ_eq_append_getElem h, List.flatMap_append]; simp
theorem flat_take_le {l : List RSet} {k : Nat} (hl : l.length < 10) (h : ∀ s ∈ l, s.data.length < 1000000) : ((l.take k).flatMap recsOf).length ≤ 10000000 := by
  have h1 := flat_len (l := l.take k) (k := 1000000) fun s hs => Nat.le_of_lt (h s (List.mem_of_mem_take hs))
  have h2 : (l.take k).length ≤ 10 := by rw [List.length_take]; omega
  have h3 := Nat.mul_le_mul_right 1000000 h2
  omega
theorem recsOf_length (s : RSet) : (recsOf s).length = s.data.length := by simp [recsOf]
theorem noVerd_m : VerdM noVerd := ⟨by decide, by decide, fun _ h => (List.not_mem_nil h).elim, fun _ h => (List.not_mem_nil h).elim⟩
theorem noVerd_r (w : World) : VerdR w noVerd (.slice none 0 0) (.slice none 0 0) := ⟨SetsR.nil w, SetsR.nil w⟩
theorem pm1 {α : Type} (h : α) (A B : List α) : (A ++ h :: B).Perm (h :: (A ++ B)) := List.perm_middle
theorem endV_at {kind : Nat} {x : Verd} (h : (endV kind x).isSome = true) : ∃ hl : x.sets.length - 1 < x.sets.length, (endV kind x).getD noSet = x.sets[x.sets.length - 1] := by
  by_cases hn : x.sets.length = 0
  · rw [endV_nil hn] at h; cases h
  · have hl : x.sets.length - 1 < x.sets.length := by omega
    refine ⟨hl, ?_⟩
    rw [endV_last hl] at h ⊢
    split
    · rfl
    · rename_i hk
      rw [if_neg hk] at h; cases h
theorem verdictParts_spec (q : Que) (m : Msg) (qv av uv xv ov : Value) (w0 : World) (hm : MsgR w0 m qv av uv xv ov) (hlm : MsgL m) (hG : GW w0) :
    Rets Tryz.prog 15 [.agg (quV q).toArray, .agg (msgV m qv av uv xv ov).toArray] w0 fun r w' => r = .bool true ∧ Ext w0 w' := by
  have hH := Hp.refl w0
  obtain ⟨V, hV⟩ : ∃ V, verdN q.name q.kind q.cls m.hd.code m.ans m.auth = V := ⟨_, rfl⟩
  obtain ⟨C, hC⟩ : ∃ C, (followC q.name q.kind q.cls (groupN m.ans)).2.1 = C := ⟨_, rfl⟩
  obtain ⟨Ed, hEd⟩ : ∃ Ed, endsOf (followC q.name q.kind q.cls (groupN m.ans)) q.kind q.cls (groupN m.ans) = Ed := ⟨_, rfl⟩
  obtain ⟨aad, acp, rfl⟩ := hm.ans.shape
  refine rets_start Tryz.func15 rfl Tryz.ntmps15 rfl fun a Q0 hF hret hend => ?_
  simp only [argsFrom, Nat.zero_add, Nat.reduceAdd] at hF
  refine c_sr fun ops => ?_
  refine ls_box hF hH rfl rfl rfl rfl rfl ?_
  intro a w g0_0 hH hE hF
  refine ls_box hF hH rfl rfl rfl rfl rfl ?_
  intro a w g0_1 hH hE hF
  refine zm 1 hF rfl fun a hF => ?_
  refine c_n ?_
  replace hF := hF.sel [2, 3]
  simp only [ss, Nat.reduceBEq] at hF
  refine c_seq fun Q1 k1 t1 => ?_
  simp only [cells_agg] at hH
  refine c_sg ?_
  refine zl hF rfl (r_loadagg hF rfl rfl Tryz.underlying49 ti49 rfl (own_agg (i := 1) hH rfl)) fun a hF => ?_
  refine zl hF rfl (r_loadagg hF rfl rfl Tryz.underlying62 ti62 rfl (own_agg (i := 0) hH rfl)) fun a hF => ?_
  refine zc hF rfl rfl fn38 (large_spec q m _ _ _ _ _ _ (hm.ext hH.below) hlm) ?_
  rintro _ w ⟨⟨b, rfl, hsm⟩, hE⟩ a hF
  replace hH := hH.ext hE
  refine zm 1 hF rfl fun a hF => ?_
  refine ls_ask (d := 25) hF rfl (fun g1_3 => ?_) (fun g1_3 => ?_)
  ·
   have g1_3' := g1_3; try simp only [qq] at g1_3'
   refine zn hF rfl g1_3 fun a hF => ?_
   refine zn hF rfl g1_3 fun a hF => ?_
   refine zl hF rfl (r_pickt hF rfl rfl g1_3 rfl) fun a hF => ?_
   refine c_n ?_
   replace hF := hF.sel [2, 3, 28]
   simp only [ss, Nat.reduceBEq] at hF
   refine c_yes hF rfl rfl ?_
   refine c_sr fun ops => ?_
   refine zc hF rfl rfl fn39 (awake11_spec _ (hG.ext hH.below)) ?_
   rintro _ w ⟨rfl, hE⟩ a hF
   replace hH := hH.ext hE
   refine zm 1 hF rfl fun a hF => ?_
   refine c_n ?_
   replace hF := hF.sel [4]
   simp only [ss, Nat.reduceBEq] at hF
   refine wp_ret (t1.ret (hret (ret1 hF Tryz.results15 rfl ?_)))
   exact ⟨rfl, hH.below⟩
  have g1_3' := g1_3; try simp only [qq] at g1_3'
  refine zyc hF rfl g1_3 rfl fn39 (awake11_spec _ (hG.ext hH.below)) ?_
  rintro _ w ⟨rfl, hE⟩ a hF
  replace hH := hH.ext hE
  refine zy hF rfl g1_3 (r_not hF rfl rfl) fun a hF => ?_
  refine zl hF rfl (r_pickf hF rfl rfl g1_3 rfl) fun a hF => ?_
  refine c_n ?_
  replace hF := hF.sel [2, 3, 28]
  simp only [ss, Nat.reduceBEq] at hF
  refine c_if hF rfl (fun h28 => ?_) (fun h28 => ?_)
  ·
   try simp only [qq] at h28
   refine c_sr fun ops => ?_
   refine zc hF rfl rfl fn39 (awake11_spec _ (hG.ext hH.below)) ?_
   rintro _ w ⟨rfl, hE⟩ a hF
   replace hH := hH.ext hE
   refine zm 1 hF rfl fun a hF => ?_
   refine c_n ?_
   replace hF := hF.sel [4]
   simp only [ss, Nat.reduceBEq] at hF
   refine wp_ret (t1.ret (hret (ret1 hF Tryz.results15 rfl ?_)))
   exact ⟨rfl, hH.below⟩
  try simp only [qq] at h28
  have hS := hsm g1_3'
  have hq1 := hS.name
  have hal := hS.ans.len
  refine wp_skip ?_
  refine k1 ?_
  refine c_sr fun ops => ?_
  refine zl hF rfl (r_loadagg hF rfl rfl Tryz.underlying49 ti49 rfl (own_agg (i := 1) hH rfl)) fun a hF => ?_
  refine zl hF rfl (r_loadagg hF rfl rfl Tryz.underlying62 ti62 rfl (own_agg (i := 0) hH rfl)) fun a hF => ?_
  refine zc hF rfl rfl fn40 (verdOfX hV (hm.ans.ext hH.below) (hm.auth.ext hH.below) hS.ans.b hS.auth.b (by omega) (hG.ext hH.below)) ?_
  rintro _ w ⟨sv1, tv1, rfl, hV1, hE⟩ a hF
  replace hH := hH.ext hE
  obtain ⟨a1, c1, rfl⟩ := hV1.sets.shapeK
  obtain ⟨a2, c2, rfl⟩ := hV1.soa.shapeK
  have fq := own_agg (i := 1) hH rfl
  have fm := own_agg (i := 0) hH rfl
  have hE0 := hH.below
  obtain ⟨w3, hw3⟩ : ∃ w3, w3 = w := ⟨w, rfl⟩
  rw [← hw3] at fq
  rw [← hw3] at fm
  rw [← hw3] at hV1
  rw [← hw3] at hE0
  replace hH : Hp w3 w [] := by rw [hw3]; exact Hp.refl _
  clear hw3
  refine zm 4 hF rfl fun a hF => ?_
  refine ls_alloc hF hH rfl rfl rfl rfl zv65 ?_
  intro a w g3_7 hH hE hF
  refine ls_storeagg 0 hF hH rfl rfl rfl rfl rfl ti65 rfl (rfl) (rfl) (own_verd rfl rfl) ?_
  intro w hH
  simp only [List.set_cons_zero] at hH
  have fv := own_agg (i := 0) hH rfl
  replace fq := fun j u hu => hH.cell (fq j u hu)
  replace fm := fun j u hu => hH.cell (fm j u hu)
  replace hV1 := hV1.ext hH.below
  replace hE0 := hE0.trans hH.below
  obtain ⟨w4, hw4⟩ : ∃ w4, w4 = w := ⟨w, rfl⟩
  rw [← hw4] at fv
  rw [← hw4] at fq
  rw [← hw4] at fm
  rw [← hw4] at hV1
  rw [← hw4] at hE0
  replace hH : Hp w4 w [] := by rw [hw4]; exact Hp.refl _
  clear hw4
  refine zm 2 hF rfl fun a hF => ?_
  refine c_n ?_
  replace hF := hF.sel [2, 3, 5, 7]
  simp only [ss, Nat.reduceBEq] at hF
  refine c_seq fun Q2 k2 t2 => ?_
  refine c_sr fun ops => ?_
  refine zm 1 hF rfl fun a hF => ?_
  refine zb hF rfl rfl rfl (b_nen _ _ _ 0) fun a hF => ?_
  refine c_n ?_
  replace hF := hF.sel [2, 3, 5, 38]
  simp only [ss, Nat.reduceBEq] at hF
  refine c_if hF rfl (fun h38 => ?_) (fun h38 => ?_)
  ·
   try simp only [qq] at h38
   have hno : V.2 = (noVerd, 0) := by subst hV; exact verdG_err h38
   refine c_sr fun ops => ?_
   refine zl hF rfl (r_loadagg hF rfl rfl Tryz.underlying65 ti65 rfl (fun j u hu => hH.cell (fv j u hu))) fun a hF => ?_
   refine zl hF rfl (r_build hF rfl rfl (bd65 _)) fun a hF => ?_
   refine zc hF rfl rfl fn43 (vsame11_spec V.2.1 noVerd _ _ _ _ _ (hV1.ext hH.below) (noVerd_r _) (by rw [hno]; exact noVerd_m) noVerd_m) ?_
   rintro _ w ⟨rfl, hE⟩ a hF
   replace hH := hH.ext hE
   refine zm 1 hF rfl fun a hF => ?_
   refine c_n ?_
   replace hF := hF.sel [4]
   simp only [ss, Nat.reduceBEq] at hF
   refine wp_ret (t2.ret (hret (ret1 hF Tryz.results15 rfl ?_)))
   exact ⟨by rw [hno]; rfl, hE0.trans hH.below⟩
  try simp only [qq] at h38
  have hk1 := verdOk_zero hV h38 hS.ans hS.auth
  have hVM := hk1.verdM
  have hP := parts_of hV h38 hS.ans hS.auth
  obtain ⟨hp1, hp2, hp3, hp4, hp5, hp6, hp7, hp8, hp9⟩ := hP
  rw [hC, hEd] at hp3
  rw [hEd] at hp6
  have hback := parts_backV hV h38
  rw [← hp2] at hback
  have hCl : C.length + Ed.length = V.2.1.sets.length := by rw [hp3, List.length_map, List.length_append]
  have hsl := hVM.setsL
  have hel1 : Ed.length ≤ 1 := by rw [← hEd]; exact (endsOf_mem _ _ _ _).1
  refine wp_skip ?_
  refine k2 ?_
  refine c_seq fun Q3 k3 t3 => ?_
  refine c_held [(true, 0), (true, 1), (true, 2), (false, 3), (false, 4), (true, 5), (true, 6), (true, 7), (true, 8), (true, 9), (true, 10), (true, 11), (true, 12), (true, 13)] (by kernel_rfl) (by kernel_rfl) hH.below fun w hE => ?_
  replace hH := hH.ext hE
  refine hp hF rfl rfl rfl rfl (fun w hH => r_loadagg hF rfl rfl Tryz.underlying49 ti49 rfl (fun j u hu => hH.cell (fq j u hu))) fun a hF => ?_
  refine hp hF rfl rfl rfl rfl (fun w hH => r_fieldaddr0 hF rfl rfl fd62_2) fun a hF => ?_
  refine hp hF rfl rfl rfl rfl (fun w hH => r_load hF rfl rfl fl34 (hH.cell (fm 12 _ rfl))) fun a hF => ?_
  refine hd ?_
  refine zc hF rfl rfl fn26 (groupR_spec m.ans _ _ (hm.ans.ext (hE0.trans hH.below)) hS.ans.b (hG.ext (hE0.trans hH.below))) ?_
  rintro v46 w ⟨hs6, hE⟩ a hF
  replace hH := hH.ext hE
  refine wpList_nil (hd_end hH.below ?_)
  refine hd ?_
  refine zc hF rfl rfl fn36 (followX hp1 hC hEd hs6 (group_bounds hS.ans.b) (by omega) (hG.ext (hE0.trans hH.below))) ?_
  rintro _ w ⟨⟨cv, ev, p6, rfl, hCR, hER⟩, hE⟩ a hF
  replace hH := hH.ext hE
  obtain ⟨cad, ccp, rfl⟩ := hCR.shapeK
  obtain ⟨ead, ecp, rfl⟩ := hER.shapeK
  refine wpList_nil (hd_end hH.below ?_)
  refine hp hF rfl rfl rfl rfl (fun w hH => r_move hF rfl rfl) fun a hF => ?_
  refine hp hF rfl rfl rfl rfl (fun w hH => r_extract hF rfl rfl rfl) fun a hF => ?_
  refine hp hF rfl rfl rfl rfl (fun w hH => r_extract hF rfl rfl rfl) fun a hF => ?_
  refine hp hF rfl rfl rfl rfl (fun w hH => r_extract hF rfl rfl rfl) fun a hF => ?_
  refine hp hF rfl rfl rfl rfl (fun w hH => r_extract hF rfl rfl rfl) fun a hF => ?_
  refine hp hF rfl rfl rfl rfl (fun w hH => r_assign hF rfl rfl) fun a hF => ?_
  refine hp hF rfl rfl rfl rfl (fun w hH => r_assign hF rfl rfl) fun a hF => ?_
  refine hp hF rfl rfl rfl rfl (fun w hH => r_assign hF rfl rfl) fun a hF => ?_
  refine hp hF rfl rfl rfl rfl (fun w hH => r_assign hF rfl rfl) fun a hF => ?_
  refine hp_end ?_
  replace hF := hF.sel [2, 3, 5, 8, 10, 11]
  simp only [ss, Nat.reduceBEq] at hF
  replace fq := fun j u hu => hH.cell (fq j u hu)
  replace fm := fun j u hu => hH.cell (fm j u hu)
  replace fv := fun j u hu => hH.cell (fv j u hu)
  replace hV1 := hV1.ext hH.below
  replace hE0 := hE0.trans hH.below
  obtain ⟨w6, hw6⟩ : ∃ w6, w6 = w := ⟨w, rfl⟩
  rw [← hw6] at fq
  rw [← hw6] at fm
  rw [← hw6] at fv
  rw [← hw6] at hV1
  rw [← hw6] at hCR
  rw [← hw6] at hER
  rw [← hw6] at hE0
  replace hH : Hp w6 w [] := by rw [hw6]; exact Hp.refl _
  clear hw6
  refine k3 ?_
  refine c_sr fun ops => ?_
  refine zl hF rfl (r_loadagg hF rfl rfl Tryz.underlying49 ti49 rfl (fun j u hu => hH.cell (fq j u hu))) fun a hF => ?_
  refine zl hF rfl (r_loadagg hF rfl rfl Tryz.underlying65 ti65 rfl (fun j u hu => hH.cell (fv j u hu))) fun a hF => ?_
  refine zc hF rfl rfl fn45 (vEndX hp6 (hV1.ext hH.below) hVM) ?_
  rintro _ w ⟨lv, Bl, rfl, hBl, hSl⟩ a hF
  replace hH := hH.join hBl
  obtain ⟨lad, lcp, rfl⟩ := hSl.shape
  refine zm 3 hF rfl fun a hF => ?_
  refine ls_alloc hF hH rfl rfl rfl rfl zv27 ?_
  intro a w g7_6 hH hE hF
  refine ls_storeagg 0 hF hH rfl rfl rfl rfl rfl ti27 rfl (rfl) (rfl) (by simp [setV, cells_agg, Value.oneCell']) ?_
  intro w hH
  simp only [List.set_cons_zero] at hH
  have hLR := hSl.rsl hH fun p hp => List.mem_cons_of_mem _ (List.mem_append_left _ hp)
  have fl := own_agg (i := 0) hH rfl
  replace fq := fun j u hu => hH.cell (fq j u hu)
  replace fm := fun j u hu => hH.cell (fm j u hu)
  replace fv := fun j u hu => hH.cell (fv j u hu)
  replace hV1 := hV1.ext hH.below
  replace hCR := hCR.ext hH.below
  replace hER := hER.ext hH.below
  replace hE0 := hE0.trans hH.below
  obtain ⟨w7, hw7⟩ : ∃ w7, w7 = w := ⟨w, rfl⟩
  rw [← hw7] at fl
  rw [← hw7] at fq
  rw [← hw7] at fm
  rw [← hw7] at fv
  rw [← hw7] at hV1
  rw [← hw7] at hCR
  rw [← hw7] at hER
  rw [← hw7] at hLR
  rw [← hw7] at hE0
  replace hH : Hp w7 w [] := by rw [hw7]; exact Hp.refl _
  clear hw7
  refine zm 1 hF rfl fun a hF => ?_
  refine c_n ?_
  replace hF := hF.sel [2, 3, 5, 8, 10, 11, 12, 13]
  simp only [ss, Nat.reduceBEq] at hF
  refine c_cut (fun a w => Fr 207 [(2, ptr g0_0), (5, ptr g3_7), (8, .slice cad C.length ccp), (10, .slice ead Ed.length ecp), (12, ptr g7_6), (13, .bool (decide (Ed.length = 1)))] a ∧ Hp w7 w []) (fun Q4 k4 t4 => ?_) ?_
  ·
   refine c_sg ?_
   refine zm 1 hF rfl fun a hF => ?_
   refine zb hF rfl rfl rfl (b_nen _ _ _ 0) fun a hF => ?_
   refine zm 1 hF rfl fun a hF => ?_
   refine ls_ask (d := 60) hF rfl (fun g8_2 => ?_) (fun g8_2 => ?_)
   ·
    have g8_2' := g8_2; try simp only [qq] at g8_2'
    exact absurd g8_2 (by simp)
   have g8_2' := g8_2; try simp only [qq] at g8_2'
   refine zy hF rfl g8_2 (r_fieldaddr0 hF rfl rfl fd65_0) fun a hF => ?_
   refine zy hF rfl g8_2 (r_load hF rfl rfl fl5 (hH.cell (fv 0 _ rfl))) fun a hF => ?_
   refine zy hF rfl g8_2 (r_fieldaddr0 hF rfl rfl fd62_0) fun a hF => ?_
   refine zy hF rfl g8_2 (r_fieldaddr0 hF rfl rfl fd56_10) fun a hF => ?_
   refine zy hF rfl g8_2 (r_load hF rfl rfl fl5 (hH.cell (fm 10 _ rfl))) fun a hF => ?_
   refine zy hF rfl g8_2 (zr hF rfl rfl (b_nen _ _ _ _)) fun a hF => ?_
   refine zl hF rfl (r_pickf hF rfl rfl g8_2 rfl) fun a hF => ?_
   refine zm 1 hF rfl fun a hF => ?_
   refine ls_ask (d := 68) hF rfl (fun g8_10 => ?_) (fun g8_10 => ?_)
   ·
    have g8_10' := g8_10; try simp only [qq] at g8_10'
    exact absurd hp2 g8_10'
   have g8_10' := g8_10; try simp only [qq] at g8_10'
   refine zy hF rfl g8_10 (r_fieldaddr0 hF rfl rfl fd65_1) fun a hF => ?_
   refine zy hF rfl g8_10 (r_load hF rfl rfl fl22 (hH.cell (fv 1 _ rfl))) fun a hF => ?_
   refine zy hF rfl g8_10 (r_len_sl hF rfl rfl Tryz.underlying22) fun a hF => ?_
   refine zy hF rfl g8_10 (r_move hF rfl rfl) fun a hF => ?_
   refine zy hF rfl g8_10 (r_len_sl hF rfl rfl Tryz.underlying22) fun a hF => ?_
   refine zy hF rfl g8_10 (r_move hF rfl rfl) fun a hF => ?_
   refine zy hF rfl g8_10 (r_len_sl hF rfl rfl Tryz.underlying22) fun a hF => ?_
   refine zy hF rfl g8_10 (zr hF rfl rfl (b_addn _ _ _ (by omega))) fun a hF => ?_
   refine zy hF rfl g8_10 (zr hF rfl rfl (b_nen _ _ _ _)) fun a hF => ?_
   refine zl hF rfl (r_pickf hF rfl rfl g8_10 rfl) fun a hF => ?_
   refine zm 1 hF rfl fun a hF => ?_
   refine ls_ask (d := 79) hF rfl (fun g8_21 => ?_) (fun g8_21 => ?_)
   ·
    have g8_21' := g8_21; try simp only [qq] at g8_21'
    exact absurd hCl.symm g8_21'
   have g8_21' := g8_21; try simp only [qq] at g8_21'
   refine zy hF rfl g8_21 (r_move hF rfl rfl) fun a hF => ?_
   refine zy hF rfl g8_21 (r_move hF rfl rfl) fun a hF => ?_
   refine zy hF rfl g8_21 (r_len_sl hF rfl rfl Tryz.underlying22) fun a hF => ?_
   refine zy hF rfl g8_21 (zr hF rfl rfl (b_eqn _ _ _ 1)) fun a hF => ?_
   refine zy hF rfl g8_21 (zr hF rfl rfl (b_bne _ _ _ Tryz.underlying4)) fun a hF => ?_
   refine zl hF rfl (r_pickf hF rfl rfl g8_21 rfl) fun a hF => ?_
   refine zm 1 hF rfl fun a hF => ?_
   refine ls_ask (d := 86) hF rfl (fun g8_28 => ?_) (fun g8_28 => ?_)
   ·
    have g8_28' := g8_28; try simp only [qq] at g8_28'
    exact absurd g8_28 (by simp)
   have g8_28' := g8_28; try simp only [qq] at g8_28'
   refine zy hF rfl g8_28 (r_fieldaddr0 hF rfl rfl fd65_2) fun a hF => ?_
   refine zy hF rfl g8_28 (r_load hF rfl rfl fl22 (hH.cell (fv 2 _ rfl))) fun a hF => ?_
   refine zy hF rfl g8_28 (r_len_sl hF rfl rfl Tryz.underlying22) fun a hF => ?_
   refine zy hF rfl g8_28 (zr hF rfl rfl (b_gtn _ _ _ 1)) fun a hF => ?_
   refine zl hF rfl (r_pickf hF rfl rfl g8_28 rfl) fun a hF => ?_
   refine zm 1 hF rfl fun a hF => ?_
   refine ls_ask (d := 92) hF rfl (fun g8_34 => ?_) (fun g8_34 => ?_)
   ·
    have g8_34' := g8_34; try simp only [qq] at g8_34'
    exact absurd g8_34' (by omega)
   have g8_34' := g8_34; try simp only [qq] at g8_34'
   refine zy hF rfl g8_34 (r_move hF rfl rfl) fun a hF => ?_
   refine zy hF rfl g8_34 (r_move hF rfl rfl) fun a hF => ?_
   refine l_ask (d := 94) hF rfl (fun g8_36 => ?_) (fun g8_36 => ?_)
   ·
    have g8_36' := g8_36; try simp only [qq] at g8_36'
    refine zn hF rfl g8_36 fun a hF => ?_
    refine zn hF rfl g8_36 fun a hF => ?_
    refine zn hF rfl g8_36 fun a hF => ?_
    refine zn hF rfl g8_36 fun a hF => ?_
    refine zy hF rfl g8_34 (r_pickf hF rfl rfl g8_36 rfl) fun a hF => ?_
    refine zl hF rfl (r_pickf hF rfl rfl g8_34 rfl) fun a hF => ?_
    refine zm 1 hF rfl fun a hF => ?_
    refine zy hF rfl rfl (r_move hF rfl rfl) fun a hF => ?_
    refine zy hF rfl rfl (r_move hF rfl rfl) fun a hF => ?_
    refine zn hF rfl g8_36 fun a hF => ?_
    refine zn hF rfl g8_36 fun a hF => ?_
    refine zn hF rfl g8_36 fun a hF => ?_
    refine zy hF rfl rfl (r_pickf hF rfl rfl g8_36 rfl) fun a hF => ?_
    refine zl hF rfl (r_pickf hF rfl rfl rfl rfl) fun a hF => ?_
    refine c_n ?_
    refine c_no hF rfl rfl ?_
    refine wp_skip ?_
    refine k4 ?_
    exact ⟨hF.keep [2, 5, 8, 10, 12, 13] rfl, hH⟩
   have g8_36' := g8_36; try simp only [qq] at g8_36'
   have hp7' := hp7 (by rw [hp6]; exact g8_36)
   refine zy hF rfl g8_36 (r_fieldaddr0 hF rfl rfl fd65_2) fun a hF => ?_
   refine zy hF rfl g8_36 (r_load hF rfl rfl fl22 (hH.cell (fv 2 _ rfl))) fun a hF => ?_
   refine zy hF rfl g8_36 (r_len_sl hF rfl rfl Tryz.underlying22) fun a hF => ?_
   refine zy hF rfl g8_36 (zr hF rfl rfl (b_gtn _ _ _ 0)) fun a hF => ?_
   refine zy hF rfl g8_34 (r_pickt hF rfl rfl g8_36 rfl) fun a hF => ?_
   refine zl hF rfl (r_pickf hF rfl rfl g8_34 rfl) fun a hF => ?_
   refine zm 1 hF rfl fun a hF => ?_
   refine ls_ask (d := 101) hF rfl (fun g8_43 => ?_) (fun g8_43 => ?_)
   ·
    have g8_43' := g8_43; try simp only [qq] at g8_43'
    exact absurd g8_43' (by omega)
   have g8_43' := g8_43; try simp only [qq] at g8_43'
   refine zy hF rfl g8_43 (r_move hF rfl rfl) fun a hF => ?_
   refine zy hF rfl g8_43 (r_move hF rfl rfl) fun a hF => ?_
   refine zy hF rfl g8_36 (r_fieldaddr0 hF rfl rfl fd65_0) fun a hF => ?_
   refine zy hF rfl g8_36 (r_load hF rfl rfl fl5 (hH.cell (fv 0 _ rfl))) fun a hF => ?_
   refine zy hF rfl g8_36 (zr hF rfl rfl (b_eqn _ _ _ 3)) fun a hF => ?_
   refine zy hF rfl g8_43 (r_pickt hF rfl rfl g8_36 rfl) fun a hF => ?_
   refine zl hF rfl (r_pickf hF rfl rfl g8_43 rfl) fun a hF => ?_
   refine c_n ?_
   refine c_if hF rfl (fun h108 => ?_) (fun h108 => ?_)
   ·
    try simp only [qq] at h108
    exact absurd h108 (by omega)
   try simp only [qq] at h108
   refine wp_skip ?_
   refine k4 ?_
   exact ⟨hF.keep [2, 5, 8, 10, 12, 13] rfl, hH⟩
  clear hH hF
  rintro a w ⟨hF, hH⟩
  obtain ⟨es1, he1, hr1, hK1⟩ := hCR.ents
  obtain ⟨es2, he2, hr2, hK2⟩ := hER.ents
  obtain ⟨es3, he3, hr3, hK3⟩ := hV1.soa.ents
  obtain ⟨es0, he0, hr0, hK0⟩ := hV1.sets.ents
  have hl1 : es1.length = C.length := by rw [← he1, List.length_map]
  have hl2 : es2.length = Ed.length := by rw [← he2, List.length_map]
  have hl3 : es3.length = V.2.1.soa.length := by rw [← he3, List.length_map]
  have hl0 : es0.length = V.2.1.sets.length := by rw [← he0, List.length_map]
  rw [hl1] at hr1
  rw [hl2] at hr2
  rw [hl3] at hr3
  rw [hl0] at hr0
  refine c_seq fun Q5 k5 t5 => ?_
  refine c_held [(true, 1), (true, 3), (true, 5), (true, 6), (false, 0), (false, 2), (false, 4), (false, 7), (true, 8)] (by kernel_rfl) (by kernel_rfl) hH.below fun w hE => ?_
  replace hH := hH.ext hE
  refine hp hF rfl rfl rfl rfl (fun w hH => r_move hF rfl rfl) fun a hF => ?_
  refine hp hF rfl rfl rfl rfl (fun w hH => r_move hF rfl rfl) fun a hF => ?_
  refine hp hF rfl rfl rfl rfl (fun w hH => r_fieldaddr0 hF rfl rfl fd65_2) fun a hF => ?_
  refine hp hF rfl rfl rfl rfl (fun w hH => r_load hF rfl rfl fl22 (hH.cell (fv 2 _ rfl))) fun a hF => ?_
  refine hd ?_
  refine ls_buildN (us := []) hF hH rfl rfl rfl rfl rfl rfl Tryz.underlying22 ti27 (fun _ h => (List.not_mem_nil h).elim) (by decide) ?_
  intro a w g10_0 hH hE hF
  have hX : Sl 27 5 [(g10_0, .cells #[] 27 (0, 0))] (.slice (some ⟨g10_0, 0, none⟩) 0 0) 0 [] := sl_none
  refine wpList_nil (hd_end hH.below ?_)
  refine hd ?_
  refine ls_append0 hF hH rfl rfl rfl rfl rfl rfl Tryz.underlying22 ti27 hX (hr1.ext hH.below) (hK1.ones) (by decide) (by omega) ?_
  intro a v10_2 w B10_2 hH hX hF
  refine wpList_nil (hd_end hH.below ?_)
  refine hd ?_
  refine ls_append0 hF hH rfl rfl rfl rfl rfl rfl Tryz.underlying22 ti27 hX (hr2.ext hH.below) (hK2.ones) (by decide) (by omega) ?_
  intro a v10_4 w B10_4 hH hX hF
  refine wpList_nil (hd_end hH.below ?_)
  refine hd ?_
  refine ls_append0 hF hH rfl rfl rfl rfl rfl rfl Tryz.underlying22 ti27 hX (hr3.ext hH.below) (hK3.ones) (by decide) (by omega) ?_
  intro a v10_7 w B10_7 hH hX hF
  refine wpList_nil (hd_end hH.below ?_)
  refine hp hF rfl rfl rfl rfl (fun w hH => r_assign hF rfl rfl) fun a hF => ?_
  refine hp_end ?_
  replace hF := hF.sel [2, 5, 12, 13, 14]
  simp only [ss, Nat.reduceBEq] at hF
  have hA := sets_read2 (es := es1 ++ es2 ++ es3) (w0 := w7) (by rw [entV_append, entV_append, List.length_append, List.length_append, hl1, hl2, hl3]; simpa using hX.rsl hH fun p hp => hp) ((hK1.append hK2).append hK3) hH.below
  rw [List.map_append, List.map_append, he1, he2, he3] at hA
  obtain ⟨xad, xcp, rfl⟩ := hA.shapeK
  replace fq := fun j u hu => hH.cell (fq j u hu)
  replace fv := fun j u hu => hH.cell (fv j u hu)
  replace fl := fun j u hu => hH.cell (fl j u hu)
  replace hV1 := hV1.ext hH.below
  replace hLR := hLR.ext hH.below
  replace hr0 := hr0.ext hH.below
  replace hr3 := hr3.ext hH.below
  replace hK0 := hK0.ext hH.below
  replace hK3 := hK3.ext hH.below
  replace hE0 := hE0.trans hH.below
  obtain ⟨w10, hw10⟩ : ∃ w10, w10 = w := ⟨w, rfl⟩
  rw [← hw10] at fq
  rw [← hw10] at fv
  rw [← hw10] at fl
  rw [← hw10] at hV1
  rw [← hw10] at hLR
  rw [← hw10] at hr0
  rw [← hw10] at hr3
  rw [← hw10] at hK0
  rw [← hw10] at hK3
  rw [← hw10] at hA
  rw [← hw10] at hE0
  replace hH : Hp w10 w [] := by rw [hw10]; exact Hp.refl _
  clear hw10
  refine k5 ?_
  refine c_seq fun Q6 k6 t6 => ?_
  refine c_held [(true, 1), (true, 2), (true, 4), (true, 5), (false, 0), (false, 3), (false, 6), (true, 7)] (by kernel_rfl) (by kernel_rfl) hH.below fun w hE => ?_
  replace hH := hH.ext hE
  refine hp hF rfl rfl rfl rfl (fun w hH => r_fieldaddr0 hF rfl rfl fd65_1) fun a hF => ?_
  refine hp hF rfl rfl rfl rfl (fun w hH => r_load hF rfl rfl fl22 (hH.cell (fv 1 _ rfl))) fun a hF => ?_
  refine hp hF rfl rfl rfl rfl (fun w hH => r_fieldaddr0 hF rfl rfl fd65_2) fun a hF => ?_
  refine hp hF rfl rfl rfl rfl (fun w hH => r_load hF rfl rfl fl22 (hH.cell (fv 2 _ rfl))) fun a hF => ?_
  refine hd ?_
  refine ls_buildN (us := []) hF hH rfl rfl rfl rfl rfl rfl Tryz.underlying22 ti27 (fun _ h => (List.not_mem_nil h).elim) (by decide) ?_
  intro a w g11_0 hH hE hF
  have hY : Sl 27 5 [(g11_0, .cells #[] 27 (0, 0))] (.slice (some ⟨g11_0, 0, none⟩) 0 0) 0 [] := sl_none
  refine wpList_nil (hd_end hH.below ?_)
  refine hd ?_
  refine ls_append0 hF hH rfl rfl rfl rfl rfl rfl Tryz.underlying22 ti27 hY (hr0.ext hH.below) (hK0.ones) (by decide) (by omega) ?_
  intro a v11_3 w B11_3 hH hY hF
  refine wpList_nil (hd_end hH.below ?_)
  refine hd ?_
  refine ls_append0 hF hH rfl rfl rfl rfl rfl rfl Tryz.underlying22 ti27 hY (hr3.ext hH.below) (hK3.ones) (by decide) (by omega) ?_
  intro a v11_6 w B11_6 hH hY hF
  refine wpList_nil (hd_end hH.below ?_)
  refine hp hF rfl rfl rfl rfl (fun w hH => r_assign hF rfl rfl) fun a hF => ?_
  refine hp_end ?_
  replace hF := hF.sel [2, 5, 12, 13, 14, 15]
  simp only [ss, Nat.reduceBEq] at hF
  have hT := sets_read2 (es := es0 ++ es3) (w0 := w10) (by rw [entV_append, List.length_append, hl0, hl3]; simpa using hY.rsl hH fun p hp => hp) (hK0.append hK3) hH.below
  rw [List.map_append, he0, he3] at hT
  obtain ⟨tad, tcp, rfl⟩ := hT.shapeK
  replace fq := fun j u hu => hH.cell (fq j u hu)
  replace fv := fun j u hu => hH.cell (fv j u hu)
  replace fl := fun j u hu => hH.cell (fl j u hu)
  replace hV1 := hV1.ext hH.below
  replace hLR := hLR.ext hH.below
  replace hA := hA.ext hH.below
  replace hE0 := hE0.trans hH.below
  obtain ⟨w11, hw11⟩ : ∃ w11, w11 = w := ⟨w, rfl⟩
  rw [← hw11] at fq
  rw [← hw11] at fv
  rw [← hw11] at fl
  rw [← hw11] at hV1
  rw [← hw11] at hLR
  rw [← hw11] at hA
  rw [← hw11] at hT
  rw [← hw11] at hE0
  replace hH : Hp w11 w [] := by rw [hw11]; exact Hp.refl _
  clear hw11
  have hAT : V.2.1.sets ++ V.2.1.soa = (C ++ Ed ++ V.2.1.soa).map zeroT := by rw [List.map_append, hp5, ← hp3]
  have hATl : (C ++ Ed ++ V.2.1.soa).length = (V.2.1.sets ++ V.2.1.soa).length := by rw [hAT, List.length_map]
  have hTl : (V.2.1.sets ++ V.2.1.soa).length = V.2.1.sets.length + V.2.1.soa.length := List.length_append
  have hTd : ∀ s ∈ V.2.1.sets ++ V.2.1.soa, s.data.length < 1000000 := fun s hs => (List.mem_append.1 hs).elim (hVM.sets s) (hVM.soa s)
  refine k6 ?_
  refine c_sr fun ops => ?_
  refine ls_alloc hF hH rfl rfl rfl rfl zv62 ?_
  intro a w g12_0 hH hE hF
  refine c_n ?_
  replace hF := hF.sel [2, 5, 12, 13, 14, 15, 16]
  simp only [ss, Nat.reduceBEq] at hF
  replace hH : Hp w11 w [(g12_0, .cells (msgV (msgOf 0 [] []) nilV nilV nilV nilV nilV).toArray 62 (0, 0))] := hH
  refine c_sr fun ops => ?_
  refine zl hF rfl (r_fieldaddr0 hF rfl rfl fd65_0) fun a hF => ?_
  refine zl hF rfl (r_load hF rfl rfl fl5 (hH.cell (fv 0 _ rfl))) fun a hF => ?_
  refine zl hF rfl (r_fieldaddr0 hF rfl rfl fd62_0) fun a hF => ?_
  refine zl hF rfl (r_fieldaddr0 hF rfl rfl fd56_10) fun a hF => ?_
  refine ls_store 0 hF hH rfl rfl rfl rfl rfl fl5 ti5 rfl (by simp [msgV, hdV, edV]) (by simp [noFreeze]) (rfl) ?_
  intro w hH
  refine c_n ?_
  replace hF := hF.sel [2, 5, 12, 13, 14, 15, 16]
  simp only [ss, Nat.reduceBEq] at hF
  replace hH : Hp w11 w [(g12_0, .cells (msgV (msgOf V.2.1.code [] []) nilV nilV nilV nilV nilV).toArray 62 (0, 0))] := hH
  refine c_seq fun Q7 k7 t7 => ?_
  refine c_sr fun ops => ?_
  refine zm 1 hF rfl fun a hF => ?_
  refine c_n ?_
  replace hF := hF.sel [2, 5, 12, 13, 14, 15, 16, 17]
  simp only [ss, Nat.reduceBEq] at hF
  refine c_block fun Q8 t8 => ?_
  refine c_loop (fun n a w => ∃ i Ba Bu pv nv, n = (V.2.1.sets ++ V.2.1.soa).length - i ∧ i ≤ (V.2.1.sets ++ V.2.1.soa).length ∧ Fr 207 [(2, ptr g0_0), (5, ptr g3_7), (12, ptr g7_6), (13, .bool (decide (Ed.length = 1))), (14, .slice xad (C ++ Ed ++ V.2.1.soa).length xcp), (15, .slice tad (V.2.1.sets ++ V.2.1.soa).length tcp), (16, ptr g12_0), (17, .int .i64 (i : Nat))] a ∧ Hp w11 w ((g12_0, .cells (msgV (msgOf V.2.1.code [] []) nilV pv nv nilV nilV).toArray 62 (0, 0)) :: (Ba ++ Bu)) ∧ Sl 38 5 Ba pv ((V.2.1.sets.take i).flatMap recsOf).length (recsV ((V.2.1.sets.take i).flatMap recsOf)) ∧ Sl 38 5 Bu nv ((V.2.1.soa.take (i - V.2.1.sets.length)).flatMap recsOf).length (recsV ((V.2.1.soa.take (i - V.2.1.sets.length)).flatMap recsOf))) ?_ ?_
  ·
   exact ⟨_, 0, [], [], nilV, nilV, rfl, Nat.zero_le _, hF.keep [2, 5, 12, 13, 14, 15, 16, 17] rfl, hH, Sl.nil _ _, by rw [Nat.zero_sub]; exact Sl.nil _ _⟩
  clear hH hF
  intro n a w hI Q9 k9 t9
  obtain ⟨i, Ba, Bu, pv, nv, hn, hi, hF, hH, hSa, hSu⟩ := hI
  obtain ⟨pad, pcp, rfl⟩ := hSa.shape
  obtain ⟨nad, ncp, rfl⟩ := hSu.shape
  refine c_seq fun Q10 k10 t10 => ?_
  refine c_sr fun ops => ?_
  refine zm 2 hF rfl fun a hF => ?_
  refine zl hF rfl (r_len_sl hF rfl rfl Tryz.underlying22) fun a hF => ?_
  refine zb hF rfl rfl rfl (b_ltn _ _ _ _) fun a hF => ?_
  refine c_n ?_
  refine c_fi hF rfl (fun h131 => ?_) (fun h131 => ?_)
  ·
   try simp only [qq] at h131
   obtain rfl : i = (V.2.1.sets ++ V.2.1.soa).length := by omega
   have et1 : V.2.1.sets.take (V.2.1.sets ++ V.2.1.soa).length = V.2.1.sets := List.take_of_length_le (by omega)
   have et2 : V.2.1.soa.take ((V.2.1.sets ++ V.2.1.soa).length - V.2.1.sets.length) = V.2.1.soa := List.take_of_length_le (by omega)
   rw [et1] at hSa hH
   rw [et2] at hSu hH
   obtain ⟨X, hX⟩ : ∃ X, verdN q.name q.kind q.cls V.2.1.code (V.2.1.sets.flatMap recsOf) (V.2.1.soa.flatMap recsOf) = X := ⟨_, rfl⟩
   rw [hX] at hback
   refine wp_exit (t10.exit (t9.exit (t8.here (?_))))
   refine k7 ?_
   refine c_sr fun ops => ?_
   refine zl hF rfl (r_loadagg hF rfl rfl Tryz.underlying49 ti49 rfl (fun j u hu => hH.cell (fq j u hu))) fun a hF => ?_
   refine zl hF rfl (r_loadagg hF rfl rfl Tryz.underlying62 ti62 rfl (own_agg (i := 0) hH rfl)) fun a hF => ?_
   refine zc hF rfl rfl fn40 (verdOfX (m := msgOf V.2.1.code (V.2.1.sets.flatMap recsOf) (V.2.1.soa.flatMap recsOf)) hX (hSa.rsl hH fun p hp => List.mem_cons_of_mem _ (List.mem_append_left _ hp)) (hSu.rsl hH fun p hp => List.mem_cons_of_mem _ (List.mem_append_right _ hp)) hp8 hp9 (by omega) (hG.ext (hE0.trans hH.below))) ?_
   rintro _ w ⟨sv2, tv2, rfl, hV2, hE⟩ a hF
   replace hH := hH.ext hE
   obtain ⟨a3, c3, rfl⟩ := hV2.sets.shapeK
   obtain ⟨a4, c4, rfl⟩ := hV2.soa.shapeK
   replace fq := fun j u hu => hH.cell (fq j u hu)
   replace fv := fun j u hu => hH.cell (fv j u hu)
   replace fl := fun j u hu => hH.cell (fl j u hu)
   replace hV1 := hV1.ext hH.below
   replace hLR := hLR.ext hH.below
   replace hE0 := hE0.trans hH.below
   obtain ⟨w24, hw24⟩ : ∃ w24, w24 = w := ⟨w, rfl⟩
   rw [← hw24] at fq
   rw [← hw24] at fv
   rw [← hw24] at fl
   rw [← hw24] at hV1
   rw [← hw24] at hLR
   rw [← hw24] at hV2
   rw [← hw24] at hE0
   replace hH : Hp w24 w [] := by rw [hw24]; exact Hp.refl _
   clear hw24
   refine zm 4 hF rfl fun a hF => ?_
   refine ls_alloc hF hH rfl rfl rfl rfl zv65 ?_
   intro a w g24_7 hH hE hF
   refine ls_storeagg 0 hF hH rfl rfl rfl rfl rfl ti65 rfl (rfl) (rfl) (own_verd rfl rfl) ?_
   intro w hH
   simp only [List.set_cons_zero] at hH
   refine zm 2 hF rfl fun a hF => ?_
   refine c_n ?_
   replace hF := hF.sel [5, 12, 13, 19, 21]
   simp only [ss, Nat.reduceBEq] at hF
   refine c_seq fun Q15 k15 t15 => ?_
   refine q_reg (by kernel_rfl) (by kernel_rfl) ?_
   refine qs hF rfl rfl rfl (fun w hw => r_move hF rfl rfl) fun a hF => ?_
   refine qs hF rfl rfl rfl (fun w hw => zr hF rfl rfl (b_eqn _ _ _ 0)) fun a hF => ?_
   refine qs hF rfl rfl rfl (fun w hw => r_move hF rfl rfl) fun a hF => ?_
   refine q_ask (d := 186) hF rfl (fun g25_2 => ?_) (fun g25_2 => ?_)
   ·
    have g25_2' := g25_2; try simp only [qq] at g25_2'
    refine qsy hF rfl rfl rfl g25_2 rfl rfl (fun w hw => r_loadagg hF rfl rfl Tryz.underlying65 ti65 rfl (fun j u hu => (hH.ext hw).cell (fv j u hu))) fun a hF => ?_
    refine qsy hF rfl rfl rfl g25_2 rfl rfl (fun w hw => r_loadagg hF rfl rfl Tryz.underlying65 ti65 rfl (own_agg (i := 0) (hH.ext hw) rfl)) fun a hF => ?_
    refine qsy_call hF rfl rfl rfl g25_2 rfl rfl rfl rfl fn47 (fun w hw => vsame_spec V.2.1 X.2.1 _ _ _ _ _ (hV1.ext (hH.ext hw).below) (hV2.ext (hH.ext hw).below) hVM (by rw [hback.2]; exact hVM)) fun a hF => ?_
    refine qs hF rfl rfl rfl (fun w hw => r_pickt hF rfl rfl g25_2 rfl) fun a hF => ?_
    refine qs hF rfl rfl rfl (fun w hw => r_move hF rfl rfl) fun a hF => ?_
    refine q_ask (d := 191) hF rfl (fun g25_7 => ?_) (fun g25_7 => ?_)
    ·
     have g25_7' := g25_7; try simp only [qq] at g25_7'
     refine qsy hF rfl rfl rfl g25_7 rfl rfl (fun w hw => r_move hF rfl rfl) fun a hF => ?_
     refine qsy hF rfl rfl rfl g25_7 rfl rfl (fun w hw => r_not hF rfl rfl) fun a hF => ?_
     refine qsy hF rfl rfl rfl g25_7 rfl rfl (fun w hw => r_move hF rfl rfl) fun a hF => ?_
     refine q_ask (d := 194) hF rfl (fun g25_10 => ?_) (fun g25_10 => ?_)
     ·
      have g25_10' := g25_10; try simp only [qq] at g25_10'
      refine qsn hF rfl rfl rfl g25_10 rfl rfl fun a hF => ?_
      refine qsn hF rfl rfl rfl g25_10 rfl rfl fun a hF => ?_
      refine qsn hF rfl rfl rfl g25_10 rfl rfl fun a hF => ?_
      refine qsn hF rfl rfl rfl g25_10 rfl rfl fun a hF => ?_
      refine qsn hF rfl rfl rfl g25_10 rfl rfl fun a hF => ?_
      refine qsn hF rfl rfl rfl g25_10 rfl rfl fun a hF => ?_
      refine qsn hF rfl rfl rfl g25_10 rfl rfl fun a hF => ?_
      refine qsn hF rfl rfl rfl g25_10 rfl rfl fun a hF => ?_
      refine qsn hF rfl rfl rfl g25_10 rfl rfl fun a hF => ?_
      refine qsn hF rfl rfl rfl g25_10 rfl rfl fun a hF => ?_
      refine qsy hF rfl rfl rfl g25_7 rfl rfl (fun w hw => r_pickt hF rfl rfl g25_10 rfl) fun a hF => ?_
      refine qs hF rfl rfl rfl (fun w hw => r_pickt hF rfl rfl g25_7 rfl) fun a hF => ?_
      refine qs hF rfl rfl rfl (fun w hw => r_assign hF rfl rfl) fun a hF => ?_
      refine q_nil fun w hE => ?_
      replace hH := hH.ext hE
      replace hF := hF.sel [4]
      simp only [ss, Nat.reduceBEq] at hF
      refine k15 ?_
      refine wp_ret (hret (ret1 hF Tryz.results15 rfl ?_))
      exact ⟨by first | rfl | simp, hE0.trans hH.below⟩
     have g25_10' := g25_10; try simp only [qq] at g25_10'
     obtain ⟨hll, hlast⟩ := endV_at (kind := q.kind) (x := V.2.1) (by rw [hp6]; simpa using g25_10)
     obtain ⟨bs, os, ds, es, hcs, hds⟩ := hV1.sets.at hll
     rw [es] at fv
     obtain ⟨x9, hx9⟩ : ∃ x, V.2.1.sets[V.2.1.sets.length - 1] = x := ⟨_, rfl⟩
     have hxd := hVM.sets _ (List.getElem_mem hll)
     rw [hx9] at hlast hcs hds hxd
     rw [hlast] at fl hLR
     refine qsy hF rfl rfl rfl g25_10 rfl rfl (fun w hw => r_loadagg hF rfl rfl Tryz.underlying27 ti27 rfl (fun j u hu => (hH.ext hw).cell (fl j u hu))) fun a hF => ?_
     refine qsy hF rfl rfl rfl g25_10 rfl rfl (fun w hw => r_fieldaddr0 hF rfl rfl fd65_1) fun a hF => ?_
     refine qsy hF rfl rfl rfl g25_10 rfl rfl (fun w hw => r_load hF rfl rfl fl22 (hw.cell (hH.cell (fv 1 _ rfl)))) fun a hF => ?_
     refine qsy hF rfl rfl rfl g25_10 rfl rfl (fun w hw => r_fieldaddr0 hF rfl rfl fd65_1) fun a hF => ?_
     refine qsy hF rfl rfl rfl g25_10 rfl rfl (fun w hw => r_load hF rfl rfl fl22 (hw.cell (hH.cell (fv 1 _ rfl)))) fun a hF => ?_
     refine qsy hF rfl rfl rfl g25_10 rfl rfl (fun w hw => r_len_sl hF rfl rfl Tryz.underlying22) fun a hF => ?_
     refine qsy hF rfl rfl rfl g25_10 rfl rfl (fun w hw => zr hF rfl rfl (b_subn _ _ 1 (by omega))) fun a hF => ?_
     refine qsy hF rfl rfl rfl g25_10 rfl rfl (fun w hw => r_indexaddr hF _ rfl rfl rfl Tryz.underlying22 ti27 (by omega)) fun a hF => ?_
     refine qsy hF rfl rfl rfl g25_10 rfl rfl (fun w hw => r_loadagg hF rfl rfl Tryz.underlying27 ti27 rfl (fun j u hu => (hH.ext hw).cell (hcs j u hu))) fun a hF => ?_
     refine qsy_call hF rfl rfl rfl g25_10 rfl rfl rfl rfl fn21 (fun w hw => same_yes x9 (hLR.ext (hH.ext hw).below) (hds.ext (hH.ext hw).below) hxd) fun a hF => ?_
     refine qsy hF rfl rfl rfl g25_7 rfl rfl (fun w hw => r_pickf hF rfl rfl g25_10 rfl) fun a hF => ?_
     refine qs hF rfl rfl rfl (fun w hw => r_pickt hF rfl rfl g25_7 rfl) fun a hF => ?_
     refine qs hF rfl rfl rfl (fun w hw => r_assign hF rfl rfl) fun a hF => ?_
     refine q_nil fun w hE => ?_
     replace hH := hH.ext hE
     replace hF := hF.sel [4]
     simp only [ss, Nat.reduceBEq] at hF
     refine k15 ?_
     refine wp_ret (hret (ret1 hF Tryz.results15 rfl ?_))
     exact ⟨by first | rfl | simp, hE0.trans hH.below⟩
    have g25_7' := g25_7; try simp only [qq] at g25_7'
    exact absurd hback.2.symm g25_7'
   have g25_2' := g25_2; try simp only [qq] at g25_2'
   exact absurd hback.1 g25_2'
  try simp only [qq] at h131
  have hbA := flat_take_le (k := i) hk1.sets hVM.sets
  have hbU := flat_take_le (k := i - V.2.1.sets.length) hk1.soa hVM.soa
  obtain ⟨ba, oa, da, ea, hca, hda⟩ := hA.at (i := i) (by omega)
  obtain ⟨bt, ot, dt, et, hct, hdt⟩ := hT.at (i := i) h131
  have hxz : (V.2.1.sets ++ V.2.1.soa)[i] = zeroT ((C ++ Ed ++ V.2.1.soa)[i]'(by omega)) := by rw [List.getElem_of_eq hAT, List.getElem_map]
  have hxd := hTd _ (List.getElem_mem h131)
  obtain ⟨dad, dcp, rfl⟩ := hda.shape
  obtain ⟨x, hx⟩ : ∃ x, (C ++ Ed ++ V.2.1.soa)[i]'(by omega) = x := ⟨_, rfl⟩
  rw [hx] at hxz hca hda
  obtain ⟨y, hy⟩ : ∃ y, (V.2.1.sets ++ V.2.1.soa)[i] = y := ⟨_, rfl⟩
  rw [hy] at hxz hct hdt hxd
  rw [ea, et] at hF
  refine wp_skip ?_
  refine k10 ?_
  refine c_cut (fun a w => ∃ Ba Bu pv nv, Fr 207 [(2, ptr g0_0), (5, ptr g3_7), (12, ptr g7_6), (13, .bool (decide (Ed.length = 1))), (14, .slice xad (C ++ Ed ++ V.2.1.soa).length xcp), (15, .slice tad (V.2.1.sets ++ V.2.1.soa).length tcp), (16, ptr g12_0), (17, .int .i64 (i : Nat))] a ∧ Hp w11 w ((g12_0, .cells (msgV (msgOf V.2.1.code [] []) nilV pv nv nilV nilV).toArray 62 (0, 0)) :: (Ba ++ Bu)) ∧ Sl 38 5 Ba pv ((V.2.1.sets.take (i + 1)).flatMap recsOf).length (recsV ((V.2.1.sets.take (i + 1)).flatMap recsOf)) ∧ Sl 38 5 Bu nv ((V.2.1.soa.take (i + 1 - V.2.1.sets.length)).flatMap recsOf).length (recsV ((V.2.1.soa.take (i + 1 - V.2.1.sets.length)).flatMap recsOf))) (fun Q11 k11 t11 => ?_) ?_
  ·
   refine c_block fun Q12 t12 => ?_
   refine c_sr fun ops => ?_
   refine zm 2 hF rfl fun a hF => ?_
   refine zl hF rfl (r_indexaddr hF _ rfl rfl rfl Tryz.underlying22 ti27 (by omega)) fun a hF => ?_
   refine zl hF rfl (r_loadagg hF rfl rfl Tryz.underlying27 ti27 rfl (fun j u hu => hH.cell (hca j u hu))) fun a hF => ?_
   refine ls_alloc hF hH rfl rfl rfl rfl zv27 ?_
   intro a w g17_4 hH hE hF
   refine ls_storeagg 0 hF hH rfl rfl rfl rfl rfl ti27 rfl (rfl) (rfl) (by simp [setV, cells_agg, Value.oneCell']) ?_
   intro w hH
   simp only [List.set_cons_zero] at hH
   refine c_n ?_
   refine c_sr fun ops => ?_
   refine zl hF rfl (r_fieldaddr0 hF rfl rfl fd27_3) fun a hF => ?_
   refine ls_store 0 hF hH rfl rfl rfl rfl rfl fl24 ti24 rfl (by simp [setV]) (by simp [noFreeze]) (rfl) ?_
   intro w hH
   refine c_n ?_
   replace hH : Hp w11 w ((g17_4, .cells (setV (zeroT x) (.slice dad x.data.length dcp)).toArray 27 (0, 0)) :: (g12_0, .cells (msgV (msgOf V.2.1.code [] []) nilV (.slice pad ((V.2.1.sets.take i).flatMap recsOf).length pcp) (.slice nad ((V.2.1.soa.take (i - V.2.1.sets.length)).flatMap recsOf).length ncp) nilV nilV).toArray 62 (0, 0)) :: (Ba ++ Bu)) := hH
   rw [← hxz] at hH
   refine c_seq fun Q13 k13 t13 => ?_
   refine c_seq fun Q14 k14 t14 => ?_
   refine q_reg (by kernel_rfl) (by kernel_rfl) ?_
   refine qs hF rfl rfl rfl (fun w hw => r_move hF rfl rfl) fun a hF => ?_
   refine qs hF rfl rfl rfl (fun w hw => r_move hF rfl rfl) fun a hF => ?_
   refine qs hF rfl rfl rfl (fun w hw => r_indexaddr hF _ rfl rfl rfl Tryz.underlying22 ti27 (by omega)) fun a hF => ?_
   refine qs hF rfl rfl rfl (fun w hw => r_fieldaddr hF rfl rfl fd27_3) fun a hF => ?_
   refine qs hF rfl rfl rfl (fun w hw => r_load hF rfl rfl fl24 (hw.cell (hH.cell (hct 3 _ rfl)))) fun a hF => ?_
   refine qs hF rfl rfl rfl (fun w hw => zr hF rfl rfl (b_nen _ _ _ 0)) fun a hF => ?_
   refine qs hF rfl rfl rfl (fun w hw => r_move hF rfl rfl) fun a hF => ?_
   refine q_ask (d := 145) hF rfl (fun g19_6 => ?_) (fun g19_6 => ?_)
   ·
    have g19_6' := g19_6; try simp only [qq] at g19_6'
    exact absurd g19_6 (by rw [hxz]; simp [zeroT])
   have g19_6' := g19_6; try simp only [qq] at g19_6'
   refine qsy hF rfl rfl rfl g19_6 rfl rfl (fun w hw => r_move hF rfl rfl) fun a hF => ?_
   refine qsy hF rfl rfl rfl g19_6 rfl rfl (fun w hw => r_move hF rfl rfl) fun a hF => ?_
   refine qsy hF rfl rfl rfl g19_6 rfl rfl (fun w hw => r_indexaddr hF _ rfl rfl rfl Tryz.underlying22 ti27 (by omega)) fun a hF => ?_
   refine qsy hF rfl rfl rfl g19_6 rfl rfl (fun w hw => r_loadagg hF rfl rfl Tryz.underlying27 ti27 rfl (fun j u hu => (hH.ext hw).cell (hct j u hu))) fun a hF => ?_
   refine qsy hF rfl rfl rfl g19_6 rfl rfl (fun w hw => r_loadagg hF rfl rfl Tryz.underlying27 ti27 rfl (own_agg (i := 0) (hH.ext hw) rfl)) fun a hF => ?_
   refine qsy_call hF rfl rfl rfl g19_6 rfl rfl rfl rfl fn21 (fun w hw => same_yes y (hdt.ext (hH.ext hw).below) (by rw [hxz]; exact hda.ext (hH.ext hw).below) hxd) fun a hF => ?_
   refine qsy hF rfl rfl rfl g19_6 rfl rfl (fun w hw => r_not hF rfl rfl) fun a hF => ?_
   refine qs hF rfl rfl rfl (fun w hw => r_pickf hF rfl rfl g19_6 rfl) fun a hF => ?_
   refine q_nil fun w hE => ?_
   replace hH := hH.ext hE
   refine k14 ?_
   refine c_if hF rfl (fun h153 => ?_) (fun h153 => ?_)
   ·
    try simp only [qq] at h153
    exact absurd h153 (by simp)
   try simp only [qq] at h153
   refine wp_skip ?_
   refine k13 ?_
   refine c_sr fun ops => ?_
   refine zm 1 hF rfl fun a hF => ?_
   refine zl hF rfl (r_fieldaddr0 hF rfl rfl fd65_1) fun a hF => ?_
   refine zl hF rfl (r_load hF rfl rfl fl22 (hH.cell (fv 1 _ rfl))) fun a hF => ?_
   refine zl hF rfl (r_len_sl hF rfl rfl Tryz.underlying22) fun a hF => ?_
   refine zb hF rfl rfl rfl (b_ltn _ _ _ _) fun a hF => ?_
   refine c_n ?_
   refine c_if hF rfl (fun h158 => ?_) (fun h158 => ?_)
   ·
    try simp only [qq] at h158
    have hHR := hH
    refine c_flow [0, 2, 3, 4] [1, 5, 6] [7, 8, 9] [] (by kernel_rfl) (by kernel_rfl) fun hB => ?_
    refine ps hF rfl rfl rfl rfl (fun w => r_fieldaddr0 hF rfl rfl fd62_2) fun a hF => ?_
    refine ps hF rfl rfl rfl rfl (fun w => r_move hF rfl rfl) fun a hF => ?_
    refine ps hF rfl rfl rfl rfl (fun w => r_move hF rfl rfl) fun a hF => ?_
    refine ps hF rfl rfl rfl rfl (fun w => r_indexaddr hF _ rfl rfl rfl Tryz.underlying22 ti27 (by omega)) fun a hF => ?_
    refine fl_start [160, 164, 165] hB (by kernel_rfl) hF ?_
    simp only [wo, hasN, Nat.reduceBEq, cond_true, cond_false] at hF ⊢
    refine fs1 rfl (by
     intro a w Lr hE hC hl
     replace hH := hH.ext hE
     have hF := hC.fr
     exact zl hF rfl (r_load hF rfl rfl fl34 (own_cell (i := 1) hH rfl rfl)) fun a' hF' => wpList_nil (fl_end hC hF' (Ext.refl _) rfl)) ?_
    refine fs1 rfl (by
     intro a w Lr hE hC hl
     replace hH := hH.ext hE
     have hF := hC.fr
     exact zl hF rfl (r_loadagg hF rfl rfl Tryz.underlying27 ti27 rfl (fun j u hu => hH.cell (hct j u hu))) fun a' hF' => wpList_nil (fl_end hC hF' (Ext.refl _) rfl)) ?_
    refine fs (fun v w' => ∃ B, Hp w w' B ∧ Sl 38 5 B v y.data.length (recsV (recsOf y))) rfl (fun _ _ _ he h => let ⟨B, h1, h2⟩ := h; ⟨B, h1.ext he, h2⟩) ?_ ?_
    ·
     intro a w Lr hE hC hl
     replace hH := hH.ext hE
     obtain ⟨_, s164, rfl⟩ := hl 164 (by decide) _ rfl
     replace hC := hC.more s164
     have hF := hC.fr
     refine zc hF rfl rfl fn32 (records_spec y dt _ (hdt.ext hH.below) hxd) ?_
     rintro v165 w' ⟨B, hB, hS⟩ a' hF'; have hE' := hB.below
     exact wpList_nil (fl_end hC hF' hE' (⟨B, Hp.base hE hB, hS⟩))
    intro a w hE hF hall
    replace hH := hH.ext hE
    obtain ⟨_, s160, rfl⟩ := hall 160 _ rfl
    replace hF := hF.more s160
    obtain ⟨_, s164, rfl⟩ := hall 164 _ rfl
    replace hF := hF.more s164
    obtain ⟨v165, s165, p165⟩ := hall 165 _ rfl
    replace hF := hF.more s165
    clear hall
    obtain ⟨Br, hBr, hSr⟩ := p165
    replace hH := hHR.join hBr
    replace hH := hH.of (H' := Ba ++ ((g12_0, .cells (msgV (msgOf V.2.1.code [] []) nilV (.slice pad ((V.2.1.sets.take i).flatMap recsOf).length pcp) (.slice nad ((V.2.1.soa.take (i - V.2.1.sets.length)).flatMap recsOf).length ncp) nilV nilV).toArray 62 (0, 0)) :: (Br ++ Bu))) [(g17_4, .cells (setV y (.slice dad x.data.length dcp)).toArray 27 (0, 0))] (by classical
      rw [List.perm_iff_count]; intro z; simp only [List.count_append, List.count_cons, List.count_nil]; omega)
    refine ls_append hF hH rfl rfl rfl rfl rfl rfl Tryz.underlying34 ti38 hSa (hSr.rsl hH (fun p hp => List.mem_append_right _ (List.mem_cons_of_mem _ (List.mem_append_left _ hp)))) (recs_one _) (by decide) (by omega) ?_
    intro a v22_7 w B22_7 hH hSa hF
    replace hH := hH.fromB
    refine zl hF rfl (r_fieldaddr0 hF rfl rfl fd62_2) fun a hF => ?_
    refine ls_store 0 hF hH rfl rfl rfl rfl rfl fl34 ti34 rfl (by simp [msgV, hdV, edV]) (by simp [noFreeze]) (hSa.one) ?_
    intro w hH
    refine wpList_nil ?_
    have hy2 : V.2.1.sets[i] = y := by rw [← hy, List.getElem_append_left h158]
    have e22 : (V.2.1.sets.take (i + 1)).flatMap recsOf = (V.2.1.sets.take i).flatMap recsOf ++ recsOf y := by rw [flat_succ h158, hy2]
    rw [← recsV_append, ← e22, show ((V.2.1.sets.take i).flatMap recsOf).length + y.data.length = ((V.2.1.sets.take (i + 1)).flatMap recsOf).length by rw [e22, List.length_append, recsOf_length]] at hSa
    replace hH : Hp w11 w ((g12_0, .cells (msgV (msgOf V.2.1.code [] []) nilV v22_7 (.slice nad ((V.2.1.soa.take (i - V.2.1.sets.length)).flatMap recsOf).length ncp) nilV nilV).toArray 62 (0, 0)) :: (B22_7 ++ (Br ++ Bu))) := hH
    replace hH := hH.sub (.cons_cons _ (List.Sublist.append_left (List.sublist_append_right Br Bu) _))
    rw [show i - V.2.1.sets.length = i + 1 - V.2.1.sets.length by omega] at hSu hH
    refine t12.norm ?_
    refine k11 ?_
    rw [← ea, ← et] at hF
    exact ⟨_, _, _, _, hF.keep [2, 5, 12, 13, 14, 15, 16, 17] rfl, hH, hSa, hSu⟩
   try simp only [qq] at h158
   have hHR := hH
   refine c_flow [0, 2, 3, 4] [1, 5, 6] [7, 8, 9] [] (by kernel_rfl) (by kernel_rfl) fun hB => ?_
   refine ps hF rfl rfl rfl rfl (fun w => r_fieldaddr0 hF rfl rfl fd62_3) fun a hF => ?_
   refine ps hF rfl rfl rfl rfl (fun w => r_move hF rfl rfl) fun a hF => ?_
   refine ps hF rfl rfl rfl rfl (fun w => r_move hF rfl rfl) fun a hF => ?_
   refine ps hF rfl rfl rfl rfl (fun w => r_indexaddr hF _ rfl rfl rfl Tryz.underlying22 ti27 (by omega)) fun a hF => ?_
   refine fl_start [169, 173, 174] hB (by kernel_rfl) hF ?_
   simp only [wo, hasN, Nat.reduceBEq, cond_true, cond_false] at hF ⊢
   refine fs1 rfl (by
    intro a w Lr hE hC hl
    replace hH := hH.ext hE
    have hF := hC.fr
    exact zl hF rfl (r_load hF rfl rfl fl34 (own_cell (i := 1) hH rfl rfl)) fun a' hF' => wpList_nil (fl_end hC hF' (Ext.refl _) rfl)) ?_
   refine fs1 rfl (by
    intro a w Lr hE hC hl
    replace hH := hH.ext hE
    have hF := hC.fr
    exact zl hF rfl (r_loadagg hF rfl rfl Tryz.underlying27 ti27 rfl (fun j u hu => hH.cell (hct j u hu))) fun a' hF' => wpList_nil (fl_end hC hF' (Ext.refl _) rfl)) ?_
   refine fs (fun v w' => ∃ B, Hp w w' B ∧ Sl 38 5 B v y.data.length (recsV (recsOf y))) rfl (fun _ _ _ he h => let ⟨B, h1, h2⟩ := h; ⟨B, h1.ext he, h2⟩) ?_ ?_
   ·
    intro a w Lr hE hC hl
    replace hH := hH.ext hE
    obtain ⟨_, s173, rfl⟩ := hl 173 (by decide) _ rfl
    replace hC := hC.more s173
    have hF := hC.fr
    refine zc hF rfl rfl fn32 (records_spec y dt _ (hdt.ext hH.below) hxd) ?_
    rintro v174 w' ⟨B, hB, hS⟩ a' hF'; have hE' := hB.below
    exact wpList_nil (fl_end hC hF' hE' (⟨B, Hp.base hE hB, hS⟩))
   intro a w hE hF hall
   replace hH := hH.ext hE
   obtain ⟨_, s169, rfl⟩ := hall 169 _ rfl
   replace hF := hF.more s169
   obtain ⟨_, s173, rfl⟩ := hall 173 _ rfl
   replace hF := hF.more s173
   obtain ⟨v174, s174, p174⟩ := hall 174 _ rfl
   replace hF := hF.more s174
   clear hall
   obtain ⟨Br, hBr, hSr⟩ := p174
   replace hH := hHR.join hBr
   replace hH := hH.of (H' := Bu ++ ((g12_0, .cells (msgV (msgOf V.2.1.code [] []) nilV (.slice pad ((V.2.1.sets.take i).flatMap recsOf).length pcp) (.slice nad ((V.2.1.soa.take (i - V.2.1.sets.length)).flatMap recsOf).length ncp) nilV nilV).toArray 62 (0, 0)) :: (Br ++ Ba))) [(g17_4, .cells (setV y (.slice dad x.data.length dcp)).toArray 27 (0, 0))] (by classical
     rw [List.perm_iff_count]; intro z; simp only [List.count_append, List.count_cons, List.count_nil]; omega)
   refine ls_append hF hH rfl rfl rfl rfl rfl rfl Tryz.underlying34 ti38 hSu (hSr.rsl hH (fun p hp => List.mem_append_right _ (List.mem_cons_of_mem _ (List.mem_append_left _ hp)))) (recs_one _) (by decide) (by omega) ?_
   intro a v23_7 w B23_7 hH hSu hF
   replace hH := hH.fromB
   refine zl hF rfl (r_fieldaddr0 hF rfl rfl fd62_3) fun a hF => ?_
   refine ls_store 0 hF hH rfl rfl rfl rfl rfl fl34 ti34 rfl (by simp [msgV, hdV, edV]) (by simp [noFreeze]) (hSu.one) ?_
   intro w hH
   refine wpList_nil ?_
   have hy2 : V.2.1.soa[i - V.2.1.sets.length]'(by omega) = y := by rw [← hy, List.getElem_append_right (by omega)]
   have e22 : (V.2.1.soa.take (i + 1 - V.2.1.sets.length)).flatMap recsOf = (V.2.1.soa.take (i - V.2.1.sets.length)).flatMap recsOf ++ recsOf y := by rw [show i + 1 - V.2.1.sets.length = i - V.2.1.sets.length + 1 by omega, flat_succ (by omega), hy2]
   rw [← recsV_append, ← e22, show ((V.2.1.soa.take (i - V.2.1.sets.length)).flatMap recsOf).length + y.data.length = ((V.2.1.soa.take (i + 1 - V.2.1.sets.length)).flatMap recsOf).length by rw [e22, List.length_append, recsOf_length]] at hSu
   replace hH : Hp w11 w ((g12_0, .cells (msgV (msgOf V.2.1.code [] []) nilV (.slice pad ((V.2.1.sets.take i).flatMap recsOf).length pcp) v23_7 nilV nilV).toArray 62 (0, 0)) :: (B23_7 ++ (Br ++ Ba))) := hH
   replace hH := hH.of (H' := (g12_0, .cells (msgV (msgOf V.2.1.code [] []) nilV (.slice pad ((V.2.1.sets.take i).flatMap recsOf).length pcp) v23_7 nilV nilV).toArray 62 (0, 0)) :: (Ba ++ B23_7)) Br (by classical
     rw [List.perm_iff_count]; intro z; simp only [List.count_append, List.count_cons, List.count_nil]; omega)
   rw [show V.2.1.sets.take i = V.2.1.sets.take (i + 1) by rw [List.take_of_length_le (by omega), List.take_of_length_le (by omega)]] at hSa hH
   refine t12.norm ?_
   refine k11 ?_
   rw [← ea, ← et] at hF
   exact ⟨_, _, _, _, hF.keep [2, 5, 12, 13, 14, 15, 16, 17] rfl, hH, hSa, hSu⟩
  clear hH hF hSa hSu
  rintro a w ⟨Ba, Bu, pv, nv, hF, hH, hSa, hSu⟩
  refine c_reg fun ops => ?_
  refine zm 1 hF rfl fun a hF => ?_
  refine zb hF rfl rfl rfl (b_addn _ _ 1 (by omega)) fun a hF => ?_
  refine zm 1 hF rfl fun a hF => ?_
  refine wpList_nil ?_
  refine k9 ?_
  exact ⟨(V.2.1.sets ++ V.2.1.soa).length - (i + 1), by omega, i + 1, Ba, Bu, pv, nv, rfl, h131, hF.keep [2, 5, 12, 13, 14, 15, 16, 17] rfl, hH, hSa, hSu⟩
end Go.Proofs.YtcelgjabccgnmaaGreatDoor
