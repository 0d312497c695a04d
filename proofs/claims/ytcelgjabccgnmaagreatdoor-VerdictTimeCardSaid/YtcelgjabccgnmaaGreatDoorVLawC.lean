/-
  The walk of VerdictTime. Nothing is claimed here.
-/
import Derived.Test.YtcelgjabccgnmaaGreatDoorVLawB
namespace Go.Proofs.YtcelgjabccgnmaaGreatDoor
open Go.RowKit
set_option linter.unusedVariables false
set_option linter.unusedSimpArgs false
set_option maxHeartbeats 1000000

theorem findX_spec {l : List RSet} {s : RSet} {v : Value} {nm : Bs} {kind cls : Nat} {w0 : World} (hf : findS l nm kind cls = some s) (hR : SetsR w0 v l) (hb : SetsB l) (hn : nm.length < 1000000) :
    Rets Tryz.prog 18 [v, .string (mk nm), .int .u16 kind, .int .u16 cls] w0 fun r w' => ∃ dv B, r = .tuple #[.agg (setV s dv).toArray, .bool true] ∧ Hp w0 w' B ∧ Sl 9 1 B dv s.data.length (strV s.data) := by
  have := find_spec l v nm kind cls w0 hR hb.len hn hb.name hb.data
  rw [hf] at this
  exact this
theorem recsV_ttl : ∀ (l : List Rec) (k : Nat) (t : Nat) (h : k < l.length), (recsV l).set (k * 5 + 3) (.int .u32 (t : Nat)) = recsV (l.set k (reTtl l[k] t))
  | r :: l, 0, t, _ => rfl
  | r :: l, k + 1, t, h => by
    have h1 : recsV (r :: l) = recV r ++ recsV l := rfl
    have h2 := recsV_ttl l k t (Nat.lt_of_succ_lt_succ h)
    rw [h1, show (k + 1) * 5 + 3 = (recV r).length + (k * 5 + 3) by simp [recV]; omega, List.set_append_right _ _ (by omega), Nat.add_sub_cancel_left, h2]
    rfl
theorem oneC {ad : Option Addr} {n c : Nat} : (Value.slice ad n c).oneCell' = true := rfl
theorem RSl.one {w : World} {size n : Nat} {v : Value} {xs : List Value} (h : RSl w size v n xs) : v.oneCell' = true := by
  obtain ⟨_, _, e⟩ := h.shape; rw [e]; rfl
theorem msg_one {w : World} {m : Msg} {qv av uv xv ov : Value} (h : MsgR w m qv av uv xv ov) : ∀ u ∈ msgV m qv av uv xv ov, u.oneCell' = true := by
  intro u hu
  have h1 := h.qs.one
  have h2 := h.ans.one
  have h3 := h.auth.one
  have h4 := h.extra.one
  have h5 := h.opts.one
  simp only [msgV, hdV, edV, List.mem_append, List.mem_cons, List.not_mem_nil, or_false] at hu
  rcases hu with (rfl | rfl | rfl | rfl | rfl | rfl | rfl | rfl | rfl | rfl | rfl) | (rfl | rfl | rfl | rfl | rfl) | (rfl | rfl | rfl | rfl | rfl) <;> first | rfl | assumption
theorem verdN_err {nm : Bs} {kind cls code : Nat} {ans auth : List Rec} {V : Nat × Verd × Nat} (h : verdN nm kind cls code ans auth = V) (h0 : V.1 ≠ 0) : V.2 = (noVerd, 0) := by
  subst h; exact verdG_err h0
theorem verdN_le {nm : Bs} {kind cls code : Nat} {ans auth : List Rec} {V : Nat × Verd × Nat} (h : verdN nm kind cls code ans auth = V) (h0 : V.1 = 0) :
    V.2.2 ≤ 2147483647 ∧ ∀ s ∈ V.2.1.sets, ∃ x, findS (groupN ans) s.name s.kind s.cls = some x ∧ V.2.2 ≤ x.ttl := by
  subst h; exact verd_le h0
/-- Records whose verdict is no other, and no later. -/
def LowN (q : Que) (m : Msg) (V : Nat × Verd × Nat) (l : List Rec) : Prop := (verdN q.name q.kind q.cls m.hd.code l m.auth).1 = V.1 ∧ (verdN q.name q.kind q.cls m.hd.code l m.auth).2.1 = V.2.1 ∧ (verdN q.name q.kind q.cls m.hd.code l m.auth).2.2 ≤ V.2.2
theorem lowN_self {q : Que} {m : Msg} {V : Nat × Verd × Nat} (h : verdN q.name q.kind q.cls m.hd.code m.ans m.auth = V) : LowN q m V m.ans := by
  subst h; exact ⟨rfl, rfl, Nat.le_refl _⟩
theorem lowN_set {q : Que} {m : Msg} {V : Nat × Verd × Nat} (h : verdN q.name q.kind q.cls m.hd.code m.ans m.auth = V) {k t : Nat} (hk : k < m.ans.length) (h1 : m.ans[k].ttl ≤ 2147483647) (h2 : t < m.ans[k].ttl) : LowN q m V (m.ans.set k (reTtl m.ans[k] t)) := by
  subst h; exact verd_low (groupN m.auth) hk (by rw [timeN_fix h1, timeN_fix (by omega)]; omega) q.name q.kind q.cls m.hd.code
theorem recsB_set {l : List Rec} (h : RecsB l) {k : Nat} (hk : k < l.length) (t : Nat) : RecsB (l.set k (reTtl l[k] t)) := ⟨by rw [List.length_set]; exact h.len, fun r hr => by
  rcases List.mem_or_eq_of_mem_set hr with hr | rfl
  · exact h.each r hr
  · exact h.each l[k] (List.getElem_mem hk)⟩
theorem verdictTime_spec (q : Que) (m : Msg) (qv av uv xv ov : Value) (z : Int) (t : Nat) (w0 : World) (hq : QueL q) (hm : MsgR w0 m qv av uv xv ov) (hlm : MsgL m) (hG : GW w0) :
    Rets Tryz.prog 13 [.agg (quV q).toArray, .agg (msgV m qv av uv xv ov).toArray, .int .i64 z, .int .u32 (t : Nat)] w0 fun r w' => r = .bool true ∧ Ext w0 w' := by
  have hH := Hp.refl w0
  obtain ⟨V, hV⟩ : ∃ V, verdN q.name q.kind q.cls m.hd.code m.ans m.auth = V := ⟨_, rfl⟩
  obtain ⟨mb, hmb, hmb2⟩ := u64_nat z
  obtain ⟨aad, acp, rfl⟩ := hm.ans.shape
  refine rets_start Tryz.func13 rfl Tryz.ntmps13 rfl fun a Q0 hF hret hend => ?_
  simp only [argsFrom, Nat.zero_add, Nat.reduceAdd] at hF
  refine c_sr fun ops => ?_
  refine ls_box hF hH rfl rfl rfl rfl rfl ?_
  intro a w g0_0 hH hE hF
  refine ls_box hF hH rfl rfl rfl rfl rfl ?_
  intro a w g0_1 hH hE hF
  refine zm 1 hF rfl fun a hF => ?_
  refine c_n ?_
  replace hF := hF.sel [2, 3, 4, 5]
  simp only [ss, Nat.reduceBEq] at hF
  refine c_seq fun Q1 k1 t1 => ?_
  simp only [cells_agg] at hH
  refine c_sg ?_
  refine zl hF rfl (r_loadagg hF rfl rfl Tryz.underlying49 ti49 rfl (own_agg (i := 1) hH rfl)) fun a hF => ?_
  refine zl hF rfl (r_loadagg hF rfl rfl Tryz.underlying62 ti62 rfl (own_agg (i := 0) hH rfl)) fun a hF => ?_
  refine zc hF rfl rfl fn38 (large_spec q m _ _ _ _ _ _ (hm.ext hH.below) hlm) ?_
  rintro _ w ⟨⟨b, rfl, hsm⟩, hE⟩ a hF
  replace hH := hH.ext hE
  refine zm 1 hF rfl fun a hF => ?_
  refine ls_ask (d := 24) hF rfl (fun g1_3 => ?_) (fun g1_3 => ?_)
  ·
   have g1_3' := g1_3; try simp only [qq] at g1_3'
   refine zn hF rfl g1_3 fun a hF => ?_
   refine zn hF rfl g1_3 fun a hF => ?_
   refine zl hF rfl (r_pickt hF rfl rfl g1_3 rfl) fun a hF => ?_
   refine c_n ?_
   replace hF := hF.sel [2, 3, 4, 5, 27]
   simp only [ss, Nat.reduceBEq] at hF
   refine c_yes hF rfl rfl ?_
   refine c_sr fun ops => ?_
   refine zc hF rfl rfl fn39 (awake11_spec _ (hG.ext hH.below)) ?_
   rintro _ w ⟨rfl, hE⟩ a hF
   replace hH := hH.ext hE
   refine zm 1 hF rfl fun a hF => ?_
   refine c_n ?_
   replace hF := hF.sel [8]
   simp only [ss, Nat.reduceBEq] at hF
   refine wp_ret (t1.ret (hret (ret1 hF Tryz.results13 rfl ?_)))
   exact ⟨rfl, hH.below⟩
  have g1_3' := g1_3; try simp only [qq] at g1_3'
  refine zyc hF rfl g1_3 rfl fn39 (awake11_spec _ (hG.ext hH.below)) ?_
  rintro _ w ⟨rfl, hE⟩ a hF
  replace hH := hH.ext hE
  refine zy hF rfl g1_3 (r_not hF rfl rfl) fun a hF => ?_
  refine zl hF rfl (r_pickf hF rfl rfl g1_3 rfl) fun a hF => ?_
  refine c_n ?_
  replace hF := hF.sel [2, 3, 4, 5, 27]
  simp only [ss, Nat.reduceBEq] at hF
  refine c_if hF rfl (fun h27 => ?_) (fun h27 => ?_)
  ·
   try simp only [qq] at h27
   refine c_sr fun ops => ?_
   refine zc hF rfl rfl fn39 (awake11_spec _ (hG.ext hH.below)) ?_
   rintro _ w ⟨rfl, hE⟩ a hF
   replace hH := hH.ext hE
   refine zm 1 hF rfl fun a hF => ?_
   refine c_n ?_
   replace hF := hF.sel [8]
   simp only [ss, Nat.reduceBEq] at hF
   refine wp_ret (t1.ret (hret (ret1 hF Tryz.results13 rfl ?_)))
   exact ⟨rfl, hH.below⟩
  try simp only [qq] at h27
  have hS := hsm g1_3'
  have hq1 := hS.name
  have hal := hS.ans.len
  refine wp_skip ?_
  refine k1 ?_
  refine c_sr fun ops => ?_
  refine zl hF rfl (r_loadagg hF rfl rfl Tryz.underlying49 ti49 rfl (own_agg (i := 1) hH rfl)) fun a hF => ?_
  refine zl hF rfl (r_loadagg hF rfl rfl Tryz.underlying62 ti62 rfl (own_agg (i := 0) hH rfl)) fun a hF => ?_
  refine zc hF rfl rfl fn40 (verdOfX hV (hm.ans.ext hH.below) (hm.auth.ext hH.below) hS.ans.b hS.auth.b (by omega) (hG.ext hH.below)) ?_
  rintro _ w ⟨sv1, tv1, rfl, hV1, hE⟩ a hF
  replace hH := hH.ext hE
  obtain ⟨a1, c1, rfl⟩ := hV1.sets.shapeK
  obtain ⟨a2, c2, rfl⟩ := hV1.soa.shapeK
  have fq := own_agg (i := 1) hH rfl
  have fm := own_agg (i := 0) hH rfl
  have hE0 := hH.below
  obtain ⟨w3, hw3⟩ : ∃ w3, w3 = w := ⟨w, rfl⟩
  rw [← hw3] at fq
  rw [← hw3] at fm
  rw [← hw3] at hV1
  rw [← hw3] at hE0
  replace hH : Hp w3 w [] := by rw [hw3]; exact Hp.refl _
  clear hw3
  refine zm 4 hF rfl fun a hF => ?_
  refine ls_alloc hF hH rfl rfl rfl rfl zv65 ?_
  intro a w g3_7 hH hE hF
  refine ls_storeagg 0 hF hH rfl rfl rfl rfl rfl ti65 rfl (rfl) (rfl) (own_verd rfl rfl) ?_
  intro w hH
  simp only [List.set_cons_zero] at hH
  refine zm 2 hF rfl fun a hF => ?_
  refine c_n ?_
  replace hF := hF.sel [2, 3, 4, 5, 9, 10, 11]
  simp only [ss, Nat.reduceBEq] at hF
  refine c_seq fun Q2 k2 t2 => ?_
  refine c_sr fun ops => ?_
  refine zm 1 hF rfl fun a hF => ?_
  refine zb hF rfl rfl rfl (b_nen _ _ _ 0) fun a hF => ?_
  refine c_n ?_
  replace hF := hF.sel [2, 3, 4, 5, 9, 10, 37]
  simp only [ss, Nat.reduceBEq] at hF
  refine c_if hF rfl (fun h37 => ?_) (fun h37 => ?_)
  ·
   try simp only [qq] at h37
   refine c_sr fun ops => ?_
   refine zm 1 hF rfl fun a hF => ?_
   refine zb hF rfl rfl rfl (b_eqn _ _ _ 0) fun a hF => ?_
   refine zm 1 hF rfl fun a hF => ?_
   refine c_n ?_
   replace hF := hF.sel [8]
   simp only [ss, Nat.reduceBEq] at hF
   refine wp_ret (t2.ret (hret (ret1 hF Tryz.results13 rfl ?_)))
   refine ⟨?_, hE0.trans hH.below⟩
   rw [verdN_err hV h37]; rfl
  try simp only [qq] at h37
  have hk1 := verdOk_zero hV h37 hS.ans hS.auth
  refine wp_skip ?_
  refine k2 ?_
  refine c_cut (fun a w => Fr 144 [(5, ptr g0_1), (9, ptr g3_7), (10, .int .u32 (V.2.2 : Nat))] a ∧ Ext w0 w ∧ VerdR w V.2.1 (.slice a1 V.2.1.sets.length c1) (.slice a2 V.2.1.soa.length c2) ∧ (∀ j u, (verdV V.2.1 (.slice a1 V.2.1.sets.length c1) (.slice a2 V.2.1.soa.length c2)).toArray.toList[j]? = some u → w.cell? ⟨g3_7, 0 + j, none⟩ = some u) ∧ (∀ j u, (msgV m qv (.slice aad m.ans.length acp) uv xv ov).toArray.toList[j]? = some u → w.cell? ⟨g0_1, 0 + j, none⟩ = some u)) (fun Q3 k3 t3 => ?_) ?_
  ·
   refine c_sr fun ops => ?_
   refine zl hF rfl (r_fieldaddr0 hF rfl rfl fd62_2) fun a hF => ?_
   refine zl hF rfl (r_load hF rfl rfl fl34 (hH.cell (fm 12 _ rfl))) fun a hF => ?_
   refine zl hF rfl (r_len_sl hF rfl rfl Tryz.underlying34) fun a hF => ?_
   refine zb hF rfl rfl rfl (b_gtn _ _ _ 0) fun a hF => ?_
   refine c_n ?_
   refine c_fi hF rfl (fun h43 => ?_) (fun h43 => ?_)
   ·
    try simp only [qq] at h43
    refine wp_skip ?_
    refine k3 ?_
    first
      | exact ⟨hF.keep [5, 9, 10] rfl, hE0.trans hH.below, hV1.ext hH.below, fun j u hu => hH.cell (fv j u hu), fun j u hu => hH.cell (fm j u hu)⟩
      | exact ⟨hF.keep [5, 9, 10] rfl, hE0.trans hH.below, hV1.ext hH.below, own_agg (i := 0) hH rfl, fun j u hu => hH.cell (fm j u hu)⟩
   try simp only [qq] at h43
   have hl0 : 0 < m.ans.length := h43
   have hk0 : mb % m.ans.length < m.ans.length := Nat.mod_lt _ hl0
   refine c_sr fun ops => ?_
   refine zl hF rfl (r_loadagg hF rfl rfl Tryz.underlying62 ti62 rfl (fun j u hu => hH.cell (fm j u hu))) fun a hF => ?_
   refine ls_alloc hF hH rfl rfl rfl rfl zv62 ?_
   intro a w g7_1 hH hE hF
   refine ls_storeagg 0 hF hH rfl rfl rfl rfl rfl ti62 rfl (rfl) (rfl) (msg_one hm) ?_
   intro w hH
   simp only [List.set_cons_zero] at hH
   refine c_n ?_
   refine c_sr fun ops => ?_
   refine ls_buildN (us := []) hF hH rfl rfl rfl rfl rfl rfl Tryz.underlying34 ti38 (fun _ h => (List.not_mem_nil h).elim) (by decide) ?_
   intro a w g8_0 hH hE hF
   have hX : Sl 38 5 [(g8_0, .cells #[] 38 (0, 0))] (.slice (some ⟨g8_0, 0, none⟩) 0 0) 0 [] := ⟨rfl, .inr ⟨_, 0, _, rfl, rfl, Nat.le_refl _, by unfold maxLen; omega, rfl, rfl⟩⟩
   refine zl hF rfl (r_fieldaddr0 hF rfl rfl fd62_2) fun a hF => ?_
   refine zl hF rfl (r_load hF rfl rfl fl34 (hH.cell (fm 12 _ rfl))) fun a hF => ?_
   refine ls_append hF hH rfl rfl rfl rfl rfl rfl Tryz.underlying34 ti38 hX (hm.ans.ext (hE0.trans hH.below)) (recs_one m.ans) (by decide) (by omega) ?_
   intro a v8_3 w B8_3 hH hX hF
   rw [Nat.zero_add, List.nil_append] at hX
   obtain ⟨g, cp, cur, rfl, rfl, hcp, hcm, hcs, hct⟩ := hX.open hl0
   simp only [List.cons_append, List.nil_append] at hH
   refine zl hF rfl (r_fieldaddr0 hF rfl rfl fd62_2) fun a hF => ?_
   refine ls_store 1 hF hH rfl rfl rfl rfl rfl fl34 ti34 rfl (by simp [msgV, hdV, edV]) (by simp [noFreeze]) (rfl) ?_
   intro w hH
   refine c_n ?_
   replace hH : Hp w3 w [(g, .cells cur 38 (0, 0)), (g7_1, .cells (msgV m qv (.slice (some ⟨g, 0, none⟩) m.ans.length cp) uv xv ov).toArray 62 (0, 0)), (g3_7, .cells (verdV V.2.1 (.slice a1 V.2.1.sets.length c1) (.slice a2 V.2.1.soa.length c2)).toArray 65 (0, 0))] := hH
   refine c_sr fun ops => ?_
   refine zm 1 hF rfl fun a hF => ?_
   refine zl hF rfl (r_convw hF rfl rfl Tryz.underlying3 Tryz.underlying78 hmb) fun a hF => ?_
   refine zl hF rfl (r_fieldaddr0 hF rfl rfl fd62_2) fun a hF => ?_
   refine zl hF rfl (r_load hF rfl rfl fl34 (own_cell (i := 1) hH rfl rfl)) fun a hF => ?_
   refine zl hF rfl (r_len_sl hF rfl rfl Tryz.underlying34) fun a hF => ?_
   refine zl hF rfl (r_convin hF rfl rfl (by rw [Tryz.underlying3]; rfl) Tryz.underlying78 (0) 18446744073709551615 mn_u64 mx_u64 (by omega)) fun a hF => ?_
   refine zb hF rfl rfl rfl (b_remn _ _ mb m.ans.length (by omega)) fun a hF => ?_
   refine zl hF rfl (r_convin hF rfl rfl (by rw [Tryz.underlying78]; rfl) Tryz.underlying3 (-9223372036854775808) 9223372036854775807 mn_i64 mx_i64 (by omega)) fun a hF => ?_
   refine zm 1 hF rfl fun a hF => ?_
   refine c_n ?_
   generalize mb % m.ans.length = k at *
   refine c_cut (fun a w => ∃ cur2 l2, Fr 144 [(4, ptr g0_0), (5, ptr g0_1), (9, ptr g3_7), (10, .int .u32 (V.2.2 : Nat)), (12, ptr g7_1)] a ∧ Hp w3 w [(g, .cells cur2 38 (0, 0)), (g7_1, .cells (msgV m qv (.slice (some ⟨g, 0, none⟩) m.ans.length cp) uv xv ov).toArray 62 (0, 0)), (g3_7, .cells (verdV V.2.1 (.slice a1 V.2.1.sets.length c1) (.slice a2 V.2.1.soa.length c2)).toArray 65 (0, 0))] ∧ cur2.size = cp * 5 ∧ cur2.toList.take (m.ans.length * 5) = recsV l2 ∧ l2.length = m.ans.length ∧ RecsB l2 ∧ LowN q m V l2) (fun Q4 k4 t4 => ?_) ?_
   ·
    refine c_sg ?_
    refine zl hF rfl (r_fieldaddr0 hF rfl rfl fd62_2) fun a hF => ?_
    refine zl hF rfl (r_load hF rfl rfl fl34 (own_cell (i := 1) hH rfl rfl)) fun a hF => ?_
    refine zm 1 hF rfl fun a hF => ?_
    refine zl hF rfl (r_ixown hF _ rfl rfl rfl Tryz.underlying34 ti38 (by omega)) fun a hF => ?_
    refine zl hF rfl (r_fieldaddr hF rfl rfl fd38_3) fun a hF => ?_
    refine zl hF rfl (r_load hF rfl rfl fl24 (own_cell (i := 0) hH rfl (take_get hct (recsV_get hk0 3 _ rfl)))) fun a hF => ?_
    refine zb hF rfl rfl rfl (b_len _ _ _ 2147483647) fun a hF => ?_
    refine zm 1 hF rfl fun a hF => ?_
    refine l_ask (d := 65) hF rfl (fun g10_7 => ?_) (fun g10_7 => ?_)
    ·
     have g10_7' := g10_7; try simp only [qq] at g10_7'
     refine zn hF rfl g10_7 fun a hF => ?_
     refine zn hF rfl g10_7 fun a hF => ?_
     refine zn hF rfl g10_7 fun a hF => ?_
     refine zn hF rfl g10_7 fun a hF => ?_
     refine zn hF rfl g10_7 fun a hF => ?_
     refine zn hF rfl g10_7 fun a hF => ?_
     refine zn hF rfl g10_7 fun a hF => ?_
     refine zn hF rfl g10_7 fun a hF => ?_
     refine zl hF rfl (r_pickf hF rfl rfl g10_7 rfl) fun a hF => ?_
     refine c_n ?_
     refine c_no hF rfl rfl ?_
     refine wp_skip ?_
     refine k4 ?_
     first
       | exact ⟨_, _, hF.keep [4, 5, 9, 10, 12] rfl, hH, by simpa using hcs, hct2, by rw [List.length_set], recsB_set hS.ans.b hk0 t, lowN_set hV hk0 g10_7' h74⟩
       | exact ⟨cur, m.ans, hF.keep [4, 5, 9, 10, 12] rfl, hH, hcs, hct, rfl, hS.ans.b, lowN_self hV⟩
    have g10_7' := g10_7; try simp only [qq] at g10_7'
    refine zy hF rfl g10_7 (r_move hF rfl rfl) fun a hF => ?_
    refine zy hF rfl g10_7 (r_fieldaddr0 hF rfl rfl fd62_2) fun a hF => ?_
    refine zy hF rfl g10_7 (r_load hF rfl rfl fl34 (own_cell (i := 1) hH rfl rfl)) fun a hF => ?_
    refine zy hF rfl g10_7 (r_move hF rfl rfl) fun a hF => ?_
    refine zy hF rfl g10_7 (r_ixown hF _ rfl rfl rfl Tryz.underlying34 ti38 (by omega)) fun a hF => ?_
    refine zy hF rfl g10_7 (r_fieldaddr hF rfl rfl fd38_3) fun a hF => ?_
    refine zy hF rfl g10_7 (r_load hF rfl rfl fl24 (own_cell (i := 0) hH rfl (take_get hct (recsV_get hk0 3 _ rfl)))) fun a hF => ?_
    refine zy hF rfl g10_7 (zr hF rfl rfl (b_ltn _ _ _ _)) fun a hF => ?_
    refine zl hF rfl (r_pickt hF rfl rfl g10_7 rfl) fun a hF => ?_
    refine c_n ?_
    refine c_fi hF rfl (fun h74 => ?_) (fun h74 => ?_)
    ·
     try simp only [qq] at h74
     refine wp_skip ?_
     refine k4 ?_
     first
       | exact ⟨_, _, hF.keep [4, 5, 9, 10, 12] rfl, hH, by simpa using hcs, hct2, by rw [List.length_set], recsB_set hS.ans.b hk0 t, lowN_set hV hk0 g10_7' h74⟩
       | exact ⟨cur, m.ans, hF.keep [4, 5, 9, 10, 12] rfl, hH, hcs, hct, rfl, hS.ans.b, lowN_self hV⟩
    try simp only [qq] at h74
    refine c_reg fun ops => ?_
    refine zl hF rfl (r_fieldaddr0 hF rfl rfl fd62_2) fun a hF => ?_
    refine zl hF rfl (r_load hF rfl rfl fl34 (own_cell (i := 1) hH rfl rfl)) fun a hF => ?_
    refine zm 2 hF rfl fun a hF => ?_
    refine zl hF rfl (r_ixown hF _ rfl rfl rfl Tryz.underlying34 ti38 (by omega)) fun a hF => ?_
    refine zl hF rfl (r_fieldaddr hF rfl rfl fd38_3) fun a hF => ?_
    refine ls_store 0 hF hH rfl rfl rfl rfl rfl fl24 ti24 rfl (by omega) (by simp [noFreeze]) (rfl) ?_
    intro w hH
    simp only [List.set_cons_zero] at hH
    have hct2 : (cur.setIfInBounds (k * 5 + 3) (.int .u32 (t : Nat))).toList.take (m.ans.length * 5) = recsV (m.ans.set k (reTtl m.ans[k] t)) := by rw [Array.toList_setIfInBounds, List.take_set, hct, recsV_ttl _ _ _ hk0]
    refine wpList_nil ?_
    refine k4 ?_
    first
      | exact ⟨_, _, hF.keep [4, 5, 9, 10, 12] rfl, hH, by simpa using hcs, hct2, by rw [List.length_set], recsB_set hS.ans.b hk0 t, lowN_set hV hk0 g10_7' h74⟩
      | exact ⟨cur, m.ans, hF.keep [4, 5, 9, 10, 12] rfl, hH, hcs, hct, rfl, hS.ans.b, lowN_self hV⟩
   clear hH hF hct hcs
   rintro a w ⟨cur2, l2, hF, hH, hcs2, hct2, hll, hRB2, hLow⟩
   have hSl : Sl 38 5 [(g, .cells cur2 38 (0, 0))] (.slice (some ⟨g, 0, none⟩) m.ans.length cp) m.ans.length (recsV l2) := ⟨by rw [recsV_length, hll], .inr ⟨g, cp, cur2, rfl, rfl, hcp, hcm, hcs2, hct2⟩⟩
   obtain ⟨W, hW⟩ : ∃ W, verdN q.name q.kind q.cls m.hd.code l2 m.auth = W := ⟨_, rfl⟩
   unfold LowN at hLow
   rw [hW] at hLow
   refine c_sr fun ops => ?_
   refine zl hF rfl (r_loadagg hF rfl rfl Tryz.underlying49 ti49 rfl (fun j u hu => hH.cell (fq j u hu))) fun a hF => ?_
   refine zl hF rfl (r_loadagg hF rfl rfl Tryz.underlying62 ti62 rfl (own_agg (i := 1) hH rfl)) fun a hF => ?_
   refine zc hF rfl rfl fn40 (verdOfX (m := ⟨m.hd, m.qs, l2, m.auth, m.extra, m.has, m.ed⟩) hW (by show RSl _ 5 _ l2.length (recsV l2); rw [hll]; exact hSl.rsl hH (fun p hp => by rw [List.mem_singleton.1 hp]; exact List.mem_cons_self ..)) (hm.auth.ext (hE0.trans hH.below)) hRB2 hS.auth.b (by omega) (hG.ext (hE0.trans hH.below))) ?_
   rintro _ w ⟨sv2, tv2, rfl, hV2, hE⟩ a hF
   replace hH := hH.ext hE
   obtain ⟨a3, c3, rfl⟩ := hV2.sets.shapeK
   obtain ⟨a4, c4, rfl⟩ := hV2.soa.shapeK
   have fv := own_agg (i := 2) hH rfl
   replace fm := fun j u hu => hH.cell (fm j u hu)
   replace hV1 := hV1.ext hH.below
   replace hE0 := hE0.trans hH.below
   obtain ⟨w12, hw12⟩ : ∃ w12, w12 = w := ⟨w, rfl⟩
   rw [← hw12] at fv
   rw [← hw12] at fm
   rw [← hw12] at hV1
   rw [← hw12] at hV2
   rw [← hw12] at hE0
   replace hH : Hp w12 w [] := by rw [hw12]; exact Hp.refl _
   clear hw12
   refine zm 4 hF rfl fun a hF => ?_
   refine ls_alloc hF hH rfl rfl rfl rfl zv65 ?_
   intro a w g12_7 hH hE hF
   refine ls_storeagg 0 hF hH rfl rfl rfl rfl rfl ti65 rfl (rfl) (rfl) (own_verd rfl rfl) ?_
   intro w hH
   simp only [List.set_cons_zero] at hH
   refine zm 2 hF rfl fun a hF => ?_
   refine c_n ?_
   refine c_sg ?_
   refine zm 1 hF rfl fun a hF => ?_
   refine zb hF rfl rfl rfl (b_nen _ _ _ 0) fun a hF => ?_
   refine zm 1 hF rfl fun a hF => ?_
   refine ls_ask (d := 90) hF rfl (fun g13_2 => ?_) (fun g13_2 => ?_)
   ·
    have g13_2' := g13_2; try simp only [qq] at g13_2'
    exact absurd (hLow.1.trans h37) g13_2'
   have g13_2' := g13_2; try simp only [qq] at g13_2'
   refine zy hF rfl g13_2 (r_move hF rfl rfl) fun a hF => ?_
   refine zy hF rfl g13_2 (r_move hF rfl rfl) fun a hF => ?_
   refine zy hF rfl g13_2 (zr hF rfl rfl (b_gtn _ _ _ _)) fun a hF => ?_
   refine zl hF rfl (r_pickf hF rfl rfl g13_2 rfl) fun a hF => ?_
   refine zm 1 hF rfl fun a hF => ?_
   refine ls_ask (d := 95) hF rfl (fun g13_7 => ?_) (fun g13_7 => ?_)
   ·
    have g13_7' := g13_7; try simp only [qq] at g13_7'
    exact absurd hLow.2.2 (by omega)
   have g13_7' := g13_7; try simp only [qq] at g13_7'
   refine zy hF rfl g13_7 (r_loadagg hF rfl rfl Tryz.underlying65 ti65 rfl (fun j u hu => hH.cell (fv j u hu))) fun a hF => ?_
   refine zy hF rfl g13_7 (r_loadagg hF rfl rfl Tryz.underlying65 ti65 rfl (own_agg (i := 0) hH rfl)) fun a hF => ?_
   refine zyc hF rfl g13_7 rfl fn47 (vsame_spec V.2.1 W.2.1 _ _ _ _ _ (hV1.ext hH.below) (hV2.ext hH.below) hk1.verdM (by rw [hLow.2.1]; exact hk1.verdM)) ?_
   rintro _ w ⟨rfl, hE⟩ a hF
   replace hH := hH.ext hE
   refine zy hF rfl g13_7 (r_not hF rfl rfl) fun a hF => ?_
   refine zl hF rfl (r_pickf hF rfl rfl g13_7 rfl) fun a hF => ?_
   refine c_n ?_
   refine c_if hF rfl (fun h100 => ?_) (fun h100 => ?_)
   ·
    try simp only [qq] at h100
    exact absurd hLow.2.1.symm (by simpa using h100)
   try simp only [qq] at h100
   refine wp_skip ?_
   refine k3 ?_
   first
     | exact ⟨hF.keep [5, 9, 10] rfl, hE0.trans hH.below, hV1.ext hH.below, fun j u hu => hH.cell (fv j u hu), fun j u hu => hH.cell (fm j u hu)⟩
     | exact ⟨hF.keep [5, 9, 10] rfl, hE0.trans hH.below, hV1.ext hH.below, own_agg (i := 0) hH rfl, fun j u hu => hH.cell (fm j u hu)⟩
  clear hH hF hE0 hV1 fm fq
  rintro a w5 ⟨hF, hE0, hV1, fv, fm⟩
  have hH := Hp.refl w5
  have hgb := group_bounds hS.ans.b
  refine c_sr fun ops => ?_
  refine zl hF rfl (r_fieldaddr0 hF rfl rfl fd62_2) fun a hF => ?_
  refine zl hF rfl (r_load hF rfl rfl fl34 (hH.cell (fm 12 _ rfl))) fun a hF => ?_
  refine zc hF rfl rfl fn26 (groupR_spec m.ans _ _ (hm.ans.ext (hE0.trans hH.below)) hS.ans.b (hG.ext (hE0.trans hH.below))) ?_
  rintro v17 w ⟨hg17, hE⟩ a hF
  replace hH := hH.ext hE
  obtain ⟨gad, gcp, rfl⟩ := hg17.shapeK
  replace fv := fun j u hu => hH.cell (fv j u hu)
  replace hV1 := hV1.ext hH.below
  replace hE0 := hE0.trans hH.below
  obtain ⟨w15, hw15⟩ : ∃ w15, w15 = w := ⟨w, rfl⟩
  rw [← hw15] at fv
  rw [← hw15] at hV1
  rw [← hw15] at hg17
  rw [← hw15] at hE0
  replace hH : Hp w15 w [] := by rw [hw15]; exact Hp.refl _
  clear hw15
  refine zm 1 hF rfl fun a hF => ?_
  refine c_n ?_
  replace hF := hF.sel [9, 10, 17]
  simp only [ss, Nat.reduceBEq] at hF
  refine c_seq fun Q5 k5 t5 => ?_
  refine c_sr fun ops => ?_
  refine zm 1 hF rfl fun a hF => ?_
  refine c_n ?_
  replace hF := hF.sel [9, 10, 17, 18]
  simp only [ss, Nat.reduceBEq] at hF
  refine c_block fun Q6 t6 => ?_
  refine c_loop (fun n a w => ∃ i, n = V.2.1.sets.length - i ∧ i ≤ V.2.1.sets.length ∧ Fr 144 [(9, ptr g3_7), (10, .int .u32 (V.2.2 : Nat)), (17, .slice gad (groupN m.ans).length gcp), (18, .int .i64 (i : Nat))] a ∧ Hp w15 w []) ?_ ?_
  ·
   exact ⟨_, 0, rfl, Nat.zero_le _, hF.keep [9, 10, 17, 18] rfl, hH⟩
  clear hH hF
  intro n a w hI Q7 k7 t7
  obtain ⟨i, hm', hi, hF, hH⟩ := hI
  have hvl := hk1.sets
  refine c_seq fun Q8 k8 t8 => ?_
  refine c_sr fun ops => ?_
  refine zm 1 hF rfl fun a hF => ?_
  refine zl hF rfl (r_fieldaddr0 hF rfl rfl fd65_1) fun a hF => ?_
  refine zl hF rfl (r_load hF rfl rfl fl22 (hH.cell (fv 1 _ rfl))) fun a hF => ?_
  refine zl hF rfl (r_len_sl hF rfl rfl Tryz.underlying22) fun a hF => ?_
  refine zb hF rfl rfl rfl (b_ltn _ _ _ _) fun a hF => ?_
  refine c_n ?_
  refine c_fi hF rfl (fun h108 => ?_) (fun h108 => ?_)
  ·
   try simp only [qq] at h108
   refine wp_exit (t8.exit (t7.exit (t6.here (?_))))
   refine k5 ?_
   refine c_sr fun ops => ?_
   refine zm 1 hF rfl fun a hF => ?_
   refine zb hF rfl rfl rfl (b_len _ _ _ 2147483647) fun a hF => ?_
   refine zm 1 hF rfl fun a hF => ?_
   refine c_n ?_
   replace hF := hF.sel [8]
   simp only [ss, Nat.reduceBEq] at hF
   refine wp_ret (hret (ret1 hF Tryz.results13 rfl ?_))
   exact ⟨by rw [decide_eq_true (verdN_le hV h37).1], hE0.trans hH.below⟩
  try simp only [qq] at h108
  obtain ⟨b1, off1, dv1, hx1, hset1, hdv1⟩ := hV1.sets.at h108
  rw [hx1] at fv
  obtain ⟨x, hfx, htx⟩ := (verdN_le hV h37).2 _ (List.getElem_mem h108)
  have hnl := may_len (hk1.each _ (List.mem_append_left _ (List.getElem_mem h108))).name
  refine wp_skip ?_
  refine k8 ?_
  refine c_seq fun Q9 k9 t9 => ?_
  refine c_block fun Q10 t10 => ?_
  refine c_seq fun Q11 k11 t11 => ?_
  have hHR := hH
  refine c_flowz [0, 1, 3, 7, 9, 13, 15] [2, 4, 5, 6, 8, 10, 11, 12, 14, 16, 17, 18, 19, 20, 21, 23] [22] [24] [25] (by kernel_rfl) (by kernel_rfl) fun hB => ?_
  refine ps hF rfl rfl rfl rfl (fun w => r_move hF rfl rfl) fun a hF => ?_
  refine ps hF rfl rfl rfl rfl (fun w => r_fieldaddr0 hF rfl rfl fd65_1) fun a hF => ?_
  refine ps hF rfl rfl rfl rfl (fun w => r_move hF rfl rfl) fun a hF => ?_
  refine ps hF rfl rfl rfl rfl (fun w => r_fieldaddr0 hF rfl rfl fd65_1) fun a hF => ?_
  refine ps hF rfl rfl rfl rfl (fun w => r_move hF rfl rfl) fun a hF => ?_
  refine ps hF rfl rfl rfl rfl (fun w => r_fieldaddr0 hF rfl rfl fd65_1) fun a hF => ?_
  refine ps hF rfl rfl rfl rfl (fun w => r_move hF rfl rfl) fun a hF => ?_
  refine fl_startz [114, 116, 117, 118, 120, 122, 123, 124, 126, 128, 129, 130, 131, 111, 132, 19, 133] hB (by kernel_rfl) hF ?_
  simp only [wo, hasN, Nat.reduceBEq, cond_true, cond_false] at hF ⊢
  refine fs1 rfl (by
   intro a w Lr hE hC hl
   replace hH := hH.ext hE
   have hF := hC.fr
   exact zl hF rfl (r_load hF rfl rfl fl22 (hH.cell (fv 1 _ rfl))) fun a' hF' => wpList_nil (fl_end hC hF' (Ext.refl _) rfl)) ?_
  refine fs1 rfl (by
   intro a w Lr hE hC hl
   replace hH := hH.ext hE
   obtain ⟨_, s114, rfl⟩ := hl 114 (by decide) _ rfl
   replace hC := hC.more s114
   have hF := hC.fr
   exact zl hF rfl (r_indexaddr hF _ rfl rfl rfl Tryz.underlying22 ti27 (by omega)) fun a' hF' => wpList_nil (fl_end hC hF' (Ext.refl _) rfl)) ?_
  refine fs1 rfl (by
   intro a w Lr hE hC hl
   replace hH := hH.ext hE
   obtain ⟨_, s116, rfl⟩ := hl 116 (by decide) _ rfl
   replace hC := hC.more s116
   have hF := hC.fr
   exact zl hF rfl (r_fieldaddr hF rfl rfl fd27_0) fun a' hF' => wpList_nil (fl_end hC hF' (Ext.refl _) rfl)) ?_
  refine fs1 rfl (by
   intro a w Lr hE hC hl
   replace hH := hH.ext hE
   obtain ⟨_, s117, rfl⟩ := hl 117 (by decide) _ rfl
   replace hC := hC.more s117
   have hF := hC.fr
   exact zl hF rfl (r_load hF rfl rfl fl9 (hH.cell (hset1 0 _ rfl))) fun a' hF' => wpList_nil (fl_end hC hF' (Ext.refl _) rfl)) ?_
  refine fs1 rfl (by
   intro a w Lr hE hC hl
   replace hH := hH.ext hE
   have hF := hC.fr
   exact zl hF rfl (r_load hF rfl rfl fl22 (hH.cell (fv 1 _ rfl))) fun a' hF' => wpList_nil (fl_end hC hF' (Ext.refl _) rfl)) ?_
  refine fs1 rfl (by
   intro a w Lr hE hC hl
   replace hH := hH.ext hE
   obtain ⟨_, s120, rfl⟩ := hl 120 (by decide) _ rfl
   replace hC := hC.more s120
   have hF := hC.fr
   exact zl hF rfl (r_indexaddr hF _ rfl rfl rfl Tryz.underlying22 ti27 (by omega)) fun a' hF' => wpList_nil (fl_end hC hF' (Ext.refl _) rfl)) ?_
  refine fs1 rfl (by
   intro a w Lr hE hC hl
   replace hH := hH.ext hE
   obtain ⟨_, s122, rfl⟩ := hl 122 (by decide) _ rfl
   replace hC := hC.more s122
   have hF := hC.fr
   exact zl hF rfl (r_fieldaddr hF rfl rfl fd27_1) fun a' hF' => wpList_nil (fl_end hC hF' (Ext.refl _) rfl)) ?_
  refine fs1 rfl (by
   intro a w Lr hE hC hl
   replace hH := hH.ext hE
   obtain ⟨_, s123, rfl⟩ := hl 123 (by decide) _ rfl
   replace hC := hC.more s123
   have hF := hC.fr
   exact zl hF rfl (r_load hF rfl rfl fl23 (hH.cell (hset1 1 _ rfl))) fun a' hF' => wpList_nil (fl_end hC hF' (Ext.refl _) rfl)) ?_
  refine fs1 rfl (by
   intro a w Lr hE hC hl
   replace hH := hH.ext hE
   have hF := hC.fr
   exact zl hF rfl (r_load hF rfl rfl fl22 (hH.cell (fv 1 _ rfl))) fun a' hF' => wpList_nil (fl_end hC hF' (Ext.refl _) rfl)) ?_
  refine fs1 rfl (by
   intro a w Lr hE hC hl
   replace hH := hH.ext hE
   obtain ⟨_, s126, rfl⟩ := hl 126 (by decide) _ rfl
   replace hC := hC.more s126
   have hF := hC.fr
   exact zl hF rfl (r_indexaddr hF _ rfl rfl rfl Tryz.underlying22 ti27 (by omega)) fun a' hF' => wpList_nil (fl_end hC hF' (Ext.refl _) rfl)) ?_
  refine fs1 rfl (by
   intro a w Lr hE hC hl
   replace hH := hH.ext hE
   obtain ⟨_, s128, rfl⟩ := hl 128 (by decide) _ rfl
   replace hC := hC.more s128
   have hF := hC.fr
   exact zl hF rfl (r_fieldaddr hF rfl rfl fd27_2) fun a' hF' => wpList_nil (fl_end hC hF' (Ext.refl _) rfl)) ?_
  refine fs1 rfl (by
   intro a w Lr hE hC hl
   replace hH := hH.ext hE
   obtain ⟨_, s129, rfl⟩ := hl 129 (by decide) _ rfl
   replace hC := hC.more s129
   have hF := hC.fr
   exact zl hF rfl (r_load hF rfl rfl fl23 (hH.cell (hset1 2 _ rfl))) fun a' hF' => wpList_nil (fl_end hC hF' (Ext.refl _) rfl)) ?_
  refine fs (fun v w' => ∃ dv B, v = .tuple #[.agg (setV x dv).toArray, .bool true] ∧ Hp w w' B ∧ Sl 9 1 B dv x.data.length (strV x.data)) rfl (fun _ _ _ he h => let ⟨d, B, h1, h2, h3⟩ := h; ⟨d, B, h1, h2.ext he, h3⟩) ?_ ?_
  ·
   intro a w Lr hE hC hl
   replace hH := hH.ext hE
   obtain ⟨_, s118, rfl⟩ := hl 118 (by decide) _ rfl
   replace hC := hC.more s118
   obtain ⟨_, s124, rfl⟩ := hl 124 (by decide) _ rfl
   replace hC := hC.more s124
   obtain ⟨_, s130, rfl⟩ := hl 130 (by decide) _ rfl
   replace hC := hC.more s130
   have hF := hC.fr
   refine zc hF rfl rfl fn18 (findX_spec hfx (hg17.ext hH.below) hgb (by omega)) ?_
   rintro v131 w' ⟨dv, B, rfl, hB', hS'⟩ a' hF'; have hE' := hB'.below
   exact wpList_nil (fl_end hC hF' hE' (⟨dv, B, rfl, Hp.base hE hB', hS'⟩))
  refine fs (fun v w' => ∃ dv B, v = .tuple #[.agg (setV x dv).toArray, .bool true] ∧ Hp w w' B ∧ Sl 9 1 B dv x.data.length (strV x.data)) rfl (fun _ _ _ he h => let ⟨d, B, h1, h2, h3⟩ := h; ⟨d, B, h1, h2.ext he, h3⟩) ?_ ?_
  ·
   intro a w Lr hE hC hl
   replace hH := hH.ext hE
   obtain ⟨v131, s131, p131⟩ := hl 131 (by decide) _ rfl
   replace hC := hC.more s131
   have hF := hC.fr
   refine zl hF rfl (r_move hF rfl rfl) fun a' hF' => wpList_nil (fl_end hC hF' (Ext.refl _) ?_)
   exact p131
  refine fs (fun v w' => ∃ dv B, v = .agg (setV x dv).toArray ∧ Hp w w' B ∧ Sl 9 1 B dv x.data.length (strV x.data)) rfl (fun _ _ _ he h => let ⟨d, B, h1, h2, h3⟩ := h; ⟨d, B, h1, h2.ext he, h3⟩) ?_ ?_
  ·
   intro a w Lr hE hC hl
   replace hH := hH.ext hE
   obtain ⟨v111, s111, p111⟩ := hl 111 (by decide) _ rfl
   replace hC := hC.more s111
   obtain ⟨dv, B, rfl, hB2, hS2⟩ := p111
   have hF := hC.fr
   refine zl hF rfl (r_extract hF rfl rfl rfl) fun a' hF' => wpList_nil (fl_end hC hF' (Ext.refl _) ?_)
   exact ⟨dv, B, rfl, hB2, hS2⟩
  refine fs (fun v w' => ∃ (g : Nat) (cs : Array Value), v = ptr g ∧ cs.size = 5 ∧ Hp w w' [(g, .cells cs 27 (0, 0))]) rfl (fun _ _ _ he h => let ⟨g, c, h1, h2, h3⟩ := h; ⟨g, c, h1, h2, h3.ext he⟩) ?_ ?_
  ·
   intro a w Lr hE hC hl
   replace hH := hH.ext hE
   have hF := hC.fr
   refine ls_alloc hF (Hp.refl _) rfl rfl rfl rfl zv27 ?_
   intro a' w' g hH' hE' hF'
   exact wpList_nil (fl_end hC hF' hE' ⟨_, _, rfl, rfl, Hp.base hE hH'⟩)
  refine fy (fun v w' => v = .bool true) rfl (fun _ _ _ _ h => h) ?_ ?_
  ·
   intro a w Lr hE hC hl
   replace hH := hH.ext hE
   obtain ⟨v111, s111, p111⟩ := hl 111 (by decide) _ rfl
   replace hC := hC.more s111
   obtain ⟨dv, B, rfl, hB2, hS2⟩ := p111
   have hF := hC.fr
   refine y_of (p := fun v w' => v = .bool true) (w := w) rfl rfl rfl (fun w => r_extract hF rfl rfl rfl) ?_
   exact rfl
  intro a w hE hF hall
  replace hH := hH.ext hE
  obtain ⟨_, s114, rfl⟩ := hall 114 _ rfl
  replace hF := hF.more s114
  obtain ⟨_, s116, rfl⟩ := hall 116 _ rfl
  replace hF := hF.more s116
  obtain ⟨_, s117, rfl⟩ := hall 117 _ rfl
  replace hF := hF.more s117
  obtain ⟨_, s118, rfl⟩ := hall 118 _ rfl
  replace hF := hF.more s118
  obtain ⟨_, s120, rfl⟩ := hall 120 _ rfl
  replace hF := hF.more s120
  obtain ⟨_, s122, rfl⟩ := hall 122 _ rfl
  replace hF := hF.more s122
  obtain ⟨_, s123, rfl⟩ := hall 123 _ rfl
  replace hF := hF.more s123
  obtain ⟨_, s124, rfl⟩ := hall 124 _ rfl
  replace hF := hF.more s124
  obtain ⟨_, s126, rfl⟩ := hall 126 _ rfl
  replace hF := hF.more s126
  obtain ⟨_, s128, rfl⟩ := hall 128 _ rfl
  replace hF := hF.more s128
  obtain ⟨_, s129, rfl⟩ := hall 129 _ rfl
  replace hF := hF.more s129
  obtain ⟨_, s130, rfl⟩ := hall 130 _ rfl
  replace hF := hF.more s130
  obtain ⟨v131, s131, p131⟩ := hall 131 _ rfl
  replace hF := hF.more s131
  obtain ⟨v111, s111, p111⟩ := hall 111 _ rfl
  replace hF := hF.more s111
  obtain ⟨v132, s132, p132⟩ := hall 132 _ rfl
  replace hF := hF.more s132
  obtain ⟨v19, s19, p19⟩ := hall 19 _ rfl
  replace hF := hF.more s19
  obtain ⟨v133, s133, p133⟩ := hall 133 _ rfl
  replace hF := hF.more s133
  clear hall
  obtain ⟨dv, Bf, rfl, hBf, hSf⟩ := p132
  obtain ⟨g19, cs19, rfl, hcs19, q19⟩ := p19
  obtain rfl := p133
  replace hH := hHR.join (hBf.pair q19 (fun p hp q hq => by
    rcases hSf.2 with ⟨_, _, rfl⟩ | ⟨gd, _, cur, _, rfl, _⟩
    · cases hq
    · rw [List.mem_singleton.1 hp, List.mem_singleton.1 hq]
      intro e; injection e with _ e2 _; exact absurd e2 (by decide)))
  simp only [List.cons_append, List.nil_append] at hH
  obtain ⟨fad, fcp, rfl⟩ := hSf.shape
  refine ls_storeagg 0 hF hH rfl rfl rfl rfl rfl ti27 rfl (hcs19) (rfl) (by simp [setV, cells_agg, Value.oneCell']) ?_
  intro w hH
  refine wpList_nil ?_
  refine ps hF rfl rfl rfl rfl (fun w => r_assign hF rfl rfl) fun a hF => ?_
  simp only [List.set_cons_zero] at hH
  refine k11 ?_
  refine c_sg ?_
  refine zm 1 hF rfl fun a hF => ?_
  refine zl hF rfl (r_not hF rfl rfl) fun a hF => ?_
  refine zm 1 hF rfl fun a hF => ?_
  refine ls_ask (d := 136) hF rfl (fun g20_2 => ?_) (fun g20_2 => ?_)
  ·
   have g20_2' := g20_2; try simp only [qq] at g20_2'
   cases g20_2
  have g20_2' := g20_2; try simp only [qq] at g20_2'
  refine zy hF rfl g20_2 (r_move hF rfl rfl) fun a hF => ?_
  refine zy hF rfl g20_2 (r_fieldaddr0 hF rfl rfl fd27_3) fun a hF => ?_
  refine zy hF rfl g20_2 (r_load hF rfl rfl fl24 (own_cell (i := 0) hH rfl rfl)) fun a hF => ?_
  refine zy hF rfl g20_2 (zr hF rfl rfl (b_gtn _ _ _ _)) fun a hF => ?_
  refine zl hF rfl (r_pickf hF rfl rfl g20_2 rfl) fun a hF => ?_
  refine c_n ?_
  refine c_if hF rfl (fun h141 => ?_) (fun h141 => ?_)
  ·
   try simp only [qq] at h141
   exact absurd htx (by omega)
  try simp only [qq] at h141
  refine wp_skip ?_
  refine t10.norm ?_
  refine k9 ?_
  refine c_reg fun ops => ?_
  refine zm 1 hF rfl fun a hF => ?_
  refine zb hF rfl rfl rfl (b_addn _ _ 1 (by omega)) fun a hF => ?_
  refine zm 1 hF rfl fun a hF => ?_
  refine wpList_nil ?_
  refine k7 ?_
  exact ⟨V.2.1.sets.length - (i + 1), by omega, i + 1, rfl, h108, hF.keep [9, 10, 17, 18] rfl, hH.sub (List.nil_sublist _)⟩
end Go.Proofs.YtcelgjabccgnmaaGreatDoor
