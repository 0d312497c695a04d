/-
  The walks of hustingslaw08.in and RrsetEach. Nothing is claimed here.
-/
import Derived.Test.YtcelgjabccgnmaaGreatDoorLaw8b
import Derived.Test.YtcelgjabccgnmaaGreatDoorChainW
import Derived.Test.YtcelgjabccgnmaaGreatDoorFlowM
namespace Go.Proofs.YtcelgjabccgnmaaGreatDoor
open Go.RowKit
set_option linter.unusedVariables false
set_option linter.unusedSimpArgs false
set_option maxHeartbeats 1000000

theorem SetsR.shape8 {w : World} {v : Value} {l : List RSet} (h : SetsR w v l) : ∃ ad cap, v = .slice ad l.length cap := by
  obtain ⟨_, _, h, _⟩ := h; exact h.shape
theorem sameB_turn (a b : Bs) : sameB a b = sameB b a := by
  unfold sameB
  rw [Bool.and_comm (mayB a), show decide (fold a = fold b) = decide (fold b = fold a) by rw [Bool.eq_iff_iff]; simp [eq_comm]]
theorem find_rec {l : List Rec} {r : Rec} (hr : r ∈ l) (hm : rmay r = true) : ∃ s, findS (groupN l) r.name r.kind r.cls = some s ∧ dfold r.kind r.data ∈ s.data ∧ s ∈ groupN l := by
  obtain ⟨s, hs, hk⟩ := (group_holds l).1.all r hr hm
  have hi := (group_mem l s).1 hs
  have h := (has_iff hi.good).1 hk
  refine ⟨s, group_isS hs ?_, (hi.data _).2 ⟨r, hr, hk, rfl⟩, hs⟩
  unfold isS
  rw [sameB_turn, h.2.1, h.2.2.1, h.2.2.2]; simp
theorem Hp.both {w0 w : World} {H B : List (Nat × Obj)} (h1 : Hp w0 w H) (h2 : Hp w0 w B) (hne : ∀ p ∈ B, ∀ q ∈ H, p.2 ≠ q.2) : Hp w0 w (B ++ H) := by
  refine ⟨h1.below, fun p hp => (List.mem_append.1 hp).elim (h2.own p) (h1.own p), ?_⟩
  rw [List.map_append, List.nodup_append]
  refine ⟨h2.nodup, h1.nodup, fun a ha b hb e => ?_⟩
  obtain ⟨p, hp, rfl⟩ := List.mem_map.1 ha
  obtain ⟨q, hq, rfl⟩ := List.mem_map.1 hb
  have e1 := (h2.own p hp).1
  have e2 := (h1.own q hq).1
  rw [e, e2] at e1
  exact hne p hp q hq (Option.some.inj e1).symm
theorem findE_spec {l : List Rec} {s : RSet} {v : Value} {nm : Bs} {kind cls : Nat} {w0 : World} (hf : findS (groupN l) nm kind cls = some s) (hR : SetsR w0 v (groupN l)) (hb : SetsB (groupN l)) (hn : nm.length < 1000000) :
    Rets Tryz.prog 18 [v, .string (mk nm), .int .u16 kind, .int .u16 cls] w0 fun r w' => ∃ dv B, r = .tuple #[.agg (setV s dv).toArray, .bool true] ∧ Hp w0 w' B ∧ Sl 9 1 B dv s.data.length (strV s.data) := by
  have := find_spec (groupN l) v nm kind cls w0 hR hb.len hn hb.name hb.data
  rw [hf] at this
  exact this
theorem in8_spec (l : List Bs) (x : Bs) (v : Value) (w0 : World) (hR : RSl w0 1 v l.length (strV l)) (hl : l.length < 1000000) :
    Rets Tryz.prog 27 [v, .string (mk x)] w0 fun r w' => r = .bool (decide (x ∈ l)) ∧ Ext w0 w' := by
  have hH := Hp.refl w0
  obtain ⟨ad, cap, rfl⟩ := hR.shape
  refine rets_start Tryz.func27 rfl Tryz.ntmps27 rfl fun a Q0 hF hret hend => ?_
  simp only [argsFrom, Nat.zero_add, Nat.reduceAdd] at hF
  refine c_sr fun ops => ?_
  refine zm 1 hF rfl fun a hF => ?_
  refine c_n ?_
  replace hF := hF.sel [0, 1]
  simp only [ss, Nat.reduceBEq] at hF
  refine c_seq fun Q1 k1 t1 => ?_
  refine c_sr fun ops => ?_
  refine zm 1 hF rfl fun a hF => ?_
  refine c_n ?_
  replace hF := hF.sel [0, 1, 5]
  simp only [ss, Nat.reduceBEq] at hF
  refine c_block fun Q2 t2 => ?_
  refine c_loop (fun n a w => ∃ i, n = l.length - i ∧ i ≤ l.length ∧ (∀ j (h : j < i) (h1 : j < l.length), l[j] ≠ x) ∧ Fr 18 [(0, .slice ad l.length cap), (1, .string (mk x)), (5, .int .i64 (i : Nat))] a ∧ Hp w0 w []) ?_ ?_
  ·
   exact ⟨_, 0, rfl, Nat.zero_le _, fun j h => (Nat.not_lt_zero _ h).elim, hF.keep [0, 1, 5] rfl, hH⟩
  clear hH hF
  intro n a w hI Q3 k3 t3
  obtain ⟨i, hm, hi, hall, hF, hH⟩ := hI
  refine c_seq fun Q4 k4 t4 => ?_
  refine c_sr fun ops => ?_
  refine zm 2 hF rfl fun a hF => ?_
  refine zl hF rfl (r_len_sl hF rfl rfl Tryz.underlying25) fun a hF => ?_
  refine zb hF rfl rfl rfl (b_ltn _ _ _ _) fun a hF => ?_
  refine c_n ?_
  refine c_fi hF rfl (fun h9 => ?_) (fun h9 => ?_)
  ·
   try simp only [qq] at h9
   refine wp_exit (t4.exit (t3.exit (t2.here (?_))))
   refine k1 ?_
   refine c_sr fun ops => ?_
   refine zm 1 hF rfl fun a hF => ?_
   refine c_n ?_
   replace hF := hF.sel [4]
   simp only [ss, Nat.reduceBEq] at hF
   refine wp_ret (hret (ret1 hF Tryz.results27 rfl ?_))
   refine ⟨congrArg Value.bool (decide_eq_false fun hx => ?_).symm, hH.below⟩
   obtain ⟨j, hj, e⟩ := List.mem_iff_getElem.1 hx
   exact hall j (by omega) hj e
  try simp only [qq] at h9
  obtain ⟨b1, off1, rfl, hc⟩ := hR.at h9
  rw [List.getD_eq_getElem?_getD, List.getElem?_eq_getElem h9, Option.getD_some] at hc
  refine wp_skip ?_
  refine k4 ?_
  refine c_seq fun Q5 k5 t5 => ?_
  refine c_block fun Q6 t6 => ?_
  refine c_sr fun ops => ?_
  refine zm 2 hF rfl fun a hF => ?_
  refine zl hF rfl (r_ix1 hF _ rfl rfl rfl Tryz.underlying25 ti9 (by omega)) fun a hF => ?_
  refine zl hF rfl (r_load hF rfl rfl fl9 (hH.cell hc)) fun a hF => ?_
  refine zm 1 hF rfl fun a hF => ?_
  refine zb hF rfl rfl rfl (b_seq _ _ _) fun a hF => ?_
  refine c_n ?_
  refine c_if hF rfl (fun h17 => ?_) (fun h17 => ?_)
  ·
   try simp only [qq] at h17
   refine c_sr fun ops => ?_
   refine zm 1 hF rfl fun a hF => ?_
   refine c_n ?_
   refine wp_ret (t6.ret (t5.ret (t3.ret (t2.ret (t1.ret (hret (ret1 hF Tryz.results27 rfl ?_)))))))
   exact ⟨congrArg Value.bool (decide_eq_true (h17 ▸ List.getElem_mem h9)).symm, hH.below⟩
  try simp only [qq] at h17
  refine wp_skip ?_
  refine t6.norm ?_
  refine k5 ?_
  refine c_reg fun ops => ?_
  refine zm 1 hF rfl fun a hF => ?_
  refine zb hF rfl rfl rfl (b_addn _ _ 1 (by omega)) fun a hF => ?_
  refine zm 1 hF rfl fun a hF => ?_
  refine wpList_nil ?_
  refine k3 ?_
  refine ⟨l.length - (i + 1), by omega, i + 1, rfl, h9, fun j hj h1 => ?_, hF.keep [0, 1, 5] rfl, hH⟩
  rcases Nat.lt_succ_iff_lt_or_eq.1 hj with h | rfl
  · exact hall j h h1
  · exact h17
def Mt8 (r : Rec) (s : RSet) (d : Bs) : Prop := hasKey r s ∧ dfold r.kind r.data = d
theorem rrsetEach_spec (l : List Rec) (v : Value) (w0 : World) (hR : RSl w0 5 v l.length (recsV l)) (hlb : ∀ r ∈ l, r.name.length ≤ 140737488351232 ∧ r.data.length ≤ 140737488351232) (hG : GW w0) :
    Rets Tryz.prog 5 [v] w0 fun r w' => r = .bool true ∧ Ext w0 w' := by
  have hH := Hp.refl w0
  obtain ⟨ad, cap, rfl⟩ := hR.shape
  refine rets_start Tryz.func5 rfl Tryz.ntmps5 rfl fun a Q0 hF hret hend => ?_
  simp only [argsFrom, Nat.zero_add, Nat.reduceAdd] at hF
  refine c_sr fun ops => ?_
  refine zm 1 hF rfl fun a hF => ?_
  refine c_n ?_
  replace hF := hF.sel [0]
  simp only [ss, Nat.reduceBEq] at hF
  refine c_seq fun Q1 k1 t1 => ?_
  refine c_sg ?_
  refine zm 1 hF rfl fun a hF => ?_
  refine zc hF rfl rfl fn22 (long8_spec l _ _ (hR.ext hH.below) hlb) ?_
  rintro _ w ⟨⟨b, rfl, hlg⟩, hE⟩ a hF
  replace hH := hH.ext hE
  refine zm 1 hF rfl fun a hF => ?_
  refine ls_ask (d := 13) hF rfl (fun g1_2 => ?_) (fun g1_2 => ?_)
  ·
   have g1_2' := g1_2; try simp only [qq] at g1_2'
   refine zn hF rfl g1_2 fun a hF => ?_
   refine zn hF rfl g1_2 fun a hF => ?_
   refine zl hF rfl (r_pickt hF rfl rfl g1_2 rfl) fun a hF => ?_
   refine c_n ?_
   replace hF := hF.sel [0, 16]
   simp only [ss, Nat.reduceBEq] at hF
   refine c_yes hF rfl rfl ?_
   refine c_sr fun ops => ?_
   refine zc hF rfl rfl fn17 (awake8_spec _ (hG.ext hH.below)) ?_
   rintro _ w ⟨rfl, hE⟩ a hF
   replace hH := hH.ext hE
   refine zm 1 hF rfl fun a hF => ?_
   refine c_n ?_
   replace hF := hF.sel [2]
   simp only [ss, Nat.reduceBEq] at hF
   refine wp_ret (t1.ret (hret (ret1 hF Tryz.results5 rfl ?_)))
   exact ⟨rfl, hH.below⟩
  have g1_2' := g1_2; try simp only [qq] at g1_2'
  refine zyc hF rfl g1_2 rfl fn17 (awake8_spec _ (hG.ext hH.below)) ?_
  rintro _ w ⟨rfl, hE⟩ a hF
  replace hH := hH.ext hE
  refine zy hF rfl g1_2 (r_not hF rfl rfl) fun a hF => ?_
  refine zl hF rfl (r_pickf hF rfl rfl g1_2 rfl) fun a hF => ?_
  refine c_n ?_
  replace hF := hF.sel [0, 16]
  simp only [ss, Nat.reduceBEq] at hF
  refine c_if hF rfl (fun h16 => ?_) (fun h16 => ?_)
  ·
   try simp only [qq] at h16
   refine c_sr fun ops => ?_
   refine zc hF rfl rfl fn17 (awake8_spec _ (hG.ext hH.below)) ?_
   rintro _ w ⟨rfl, hE⟩ a hF
   replace hH := hH.ext hE
   refine zm 1 hF rfl fun a hF => ?_
   refine c_n ?_
   replace hF := hF.sel [2]
   simp only [ss, Nat.reduceBEq] at hF
   refine wp_ret (t1.ret (hret (ret1 hF Tryz.results5 rfl ?_)))
   exact ⟨rfl, hH.below⟩
  try simp only [qq] at h16
  obtain ⟨hRB, hll⟩ := hlg g1_2'
  have hgb := group_bounds hRB
  refine wp_skip ?_
  refine k1 ?_
  refine c_sr fun ops => ?_
  refine zm 1 hF rfl fun a hF => ?_
  refine zc hF rfl rfl fn26 (groupR_spec l _ _ (hR.ext hH.below) hRB (hG.ext hH.below)) ?_
  rintro v3 w ⟨hs3, hE⟩ a hF
  replace hH := hH.ext hE
  refine zm 1 hF rfl fun a hF => ?_
  refine c_n ?_
  replace hF := hF.sel [0, 3]
  simp only [ss, Nat.reduceBEq] at hF
  have hH3 := hH.below
  obtain ⟨w3, hw3⟩ : ∃ w3, w3 = w := ⟨w, rfl⟩
  rw [← hw3] at hs3 hH3
  replace hH : Hp w3 w [] := by rw [hw3]; exact Hp.refl _
  clear hw3
  obtain ⟨gad, gcp, rfl⟩ := hs3.shape8
  have hgl := hgb.len
  refine c_seq fun Q2 k2 t2 => ?_
  refine c_sr fun ops => ?_
  refine zm 1 hF rfl fun a hF => ?_
  refine c_n ?_
  replace hF := hF.sel [0, 3, 4]
  simp only [ss, Nat.reduceBEq] at hF
  refine c_block fun Q3 t3 => ?_
  refine c_loop (fun n a w => ∃ i, n = l.length - i ∧ i ≤ l.length ∧ Fr 164 [(0, .slice ad l.length cap), (3, .slice gad (groupN l).length gcp), (4, .int .i64 (i : Nat))] a ∧ Hp w3 w []) ?_ ?_
  ·
   exact ⟨_, 0, rfl, Nat.zero_le _, hF.keep [0, 3, 4] rfl, hH⟩
  clear hH hF
  intro n a w hI Q4 k4 t4
  obtain ⟨i, hm, hi, hF, hH⟩ := hI
  refine c_seq fun Q5 k5 t5 => ?_
  refine c_sr fun ops => ?_
  refine zm 2 hF rfl fun a hF => ?_
  refine zl hF rfl (r_len_sl hF rfl rfl Tryz.underlying34) fun a hF => ?_
  refine zb hF rfl rfl rfl (b_ltn _ _ _ _) fun a hF => ?_
  refine c_n ?_
  refine c_if hF rfl (fun h23 => ?_) (fun h23 => ?_)
  ·
   try simp only [qq] at h23
   obtain ⟨bx, offx, rfl, -, hrecx⟩ := hR.rec h23
   have hxb := hRB.each _ (List.getElem_mem h23)
   refine wp_skip ?_
   refine k5 ?_
   refine c_seq fun Q6 k6 t6 => ?_
   refine c_block fun Q7 t7 => ?_
   refine c_seq fun Q8 k8 t8 => ?_
   refine c_sr fun ops => ?_
   refine zm 2 hF rfl fun a hF => ?_
   refine zl hF rfl (r_indexaddr hF _ rfl rfl rfl Tryz.underlying34 ti38 (by omega)) fun a hF => ?_
   refine zl hF rfl (r_loadagg hF rfl rfl Tryz.underlying38 ti38 rfl (fun j u hu => hH.cell (hH3.cell (hrecx j u hu)))) fun a hF => ?_
   refine zc hF rfl rfl fn23 (may8_spec _ _ hxb.1 hxb.2 (hG.ext (hH3.trans hH.below))) ?_
   rintro _ w ⟨rfl, hE⟩ a hF
   replace hH := hH.ext hE
   refine zl hF rfl (r_not hF rfl rfl) fun a hF => ?_
   refine c_n ?_
   refine c_if hF rfl (fun h31 => ?_) (fun h31 => ?_)
   ·
    try simp only [qq] at h31
    refine wp_exit (t8.exit (t7.here (?_)))
    refine k6 ?_
    refine c_reg fun ops => ?_
    refine zm 1 hF rfl fun a hF => ?_
    refine zb hF rfl rfl rfl (b_addn _ _ 1 (by omega)) fun a hF => ?_
    refine zm 1 hF rfl fun a hF => ?_
    refine wpList_nil ?_
    refine k4 ?_
    exact ⟨l.length - (i + 1), by omega, i + 1, rfl, by omega, hF.keep [0, 3, 4] rfl, hH.sub (List.nil_sublist _)⟩
   try simp only [qq] at h31
   obtain ⟨s, hfd, hdm, hsm⟩ := find_rec (List.getElem_mem h23) h31
   refine wp_skip ?_
   refine k8 ?_
   refine c_seq fun Q9 k9 t9 => ?_
   have hHR := hH
   refine c_flowz [0, 1, 2, 3, 4, 6, 7, 8, 9, 11, 12, 13, 14] [5, 10, 15, 16, 17, 18, 20] [19] [21] [22] (by kernel_rfl) (by kernel_rfl) fun hB => ?_
   refine ps hF rfl rfl rfl rfl (fun w => r_move hF rfl rfl) fun a hF => ?_
   refine ps hF rfl rfl rfl rfl (fun w => r_move hF rfl rfl) fun a hF => ?_
   refine ps hF rfl rfl rfl rfl (fun w => r_move hF rfl rfl) fun a hF => ?_
   refine ps hF rfl rfl rfl rfl (fun w => r_indexaddr hF _ rfl rfl rfl Tryz.underlying34 ti38 (by omega)) fun a hF => ?_
   refine ps hF rfl rfl rfl rfl (fun w => r_fieldaddr hF rfl rfl fd38_0) fun a hF => ?_
   refine ps hF rfl rfl rfl rfl (fun w => r_move hF rfl rfl) fun a hF => ?_
   refine ps hF rfl rfl rfl rfl (fun w => r_move hF rfl rfl) fun a hF => ?_
   refine ps hF rfl rfl rfl rfl (fun w => r_indexaddr hF _ rfl rfl rfl Tryz.underlying34 ti38 (by omega)) fun a hF => ?_
   refine ps hF rfl rfl rfl rfl (fun w => r_fieldaddr hF rfl rfl fd38_1) fun a hF => ?_
   refine ps hF rfl rfl rfl rfl (fun w => r_move hF rfl rfl) fun a hF => ?_
   refine ps hF rfl rfl rfl rfl (fun w => r_move hF rfl rfl) fun a hF => ?_
   refine ps hF rfl rfl rfl rfl (fun w => r_indexaddr hF _ rfl rfl rfl Tryz.underlying34 ti38 (by omega)) fun a hF => ?_
   refine ps hF rfl rfl rfl rfl (fun w => r_fieldaddr hF rfl rfl fd38_2) fun a hF => ?_
   refine fl_startz [38, 43, 48, 49, 32, 50, 5, 51] hB (by kernel_rfl) hF ?_
   simp only [wo, hasN, Nat.reduceBEq, cond_true, cond_false] at hF ⊢
   refine fs1 rfl (by
    intro a w Lr hE hC hl
    replace hH := hH.ext hE
    have hF := hC.fr
    exact zl hF rfl (r_load hF rfl rfl fl9 (hH.cell (hH3.cell (hrecx 0 _ rfl)))) fun a' hF' => wpList_nil (fl_end hC hF' (Ext.refl _) rfl)) ?_
   refine fs1 rfl (by
    intro a w Lr hE hC hl
    replace hH := hH.ext hE
    have hF := hC.fr
    exact zl hF rfl (r_load hF rfl rfl fl23 (hH.cell (hH3.cell (hrecx 1 _ rfl)))) fun a' hF' => wpList_nil (fl_end hC hF' (Ext.refl _) rfl)) ?_
   refine fs1 rfl (by
    intro a w Lr hE hC hl
    replace hH := hH.ext hE
    have hF := hC.fr
    exact zl hF rfl (r_load hF rfl rfl fl23 (hH.cell (hH3.cell (hrecx 2 _ rfl)))) fun a' hF' => wpList_nil (fl_end hC hF' (Ext.refl _) rfl)) ?_
   refine fs (fun v w' => ∃ dv B, v = .tuple #[.agg (setV s dv).toArray, .bool true] ∧ Hp w w' B ∧ Sl 9 1 B dv s.data.length (strV s.data)) rfl (fun _ _ _ he h => let ⟨d, B, h1, h2, h3⟩ := h; ⟨d, B, h1, h2.ext he, h3⟩) ?_ ?_
   ·
    intro a w Lr hE hC hl
    replace hH := hH.ext hE
    obtain ⟨_, s38, rfl⟩ := hl 38 (by decide) _ rfl
    replace hC := hC.more s38
    obtain ⟨_, s43, rfl⟩ := hl 43 (by decide) _ rfl
    replace hC := hC.more s43
    obtain ⟨_, s48, rfl⟩ := hl 48 (by decide) _ rfl
    replace hC := hC.more s48
    have hF := hC.fr
    refine zc hF rfl rfl fn18 (findE_spec hfd (hs3.ext hH.below) hgb (by omega)) ?_
    rintro v49 w' ⟨dv, B, rfl, hB', hS'⟩ a' hF'; have hE' := hB'.below
    exact wpList_nil (fl_end hC hF' hE' (⟨dv, B, rfl, Hp.base hE hB', hS'⟩))
   refine fs (fun v w' => ∃ dv B, v = .tuple #[.agg (setV s dv).toArray, .bool true] ∧ Hp w w' B ∧ Sl 9 1 B dv s.data.length (strV s.data)) rfl (fun _ _ _ he h => let ⟨d, B, h1, h2, h3⟩ := h; ⟨d, B, h1, h2.ext he, h3⟩) ?_ ?_
   ·
    intro a w Lr hE hC hl
    replace hH := hH.ext hE
    obtain ⟨v49, s49, p49⟩ := hl 49 (by decide) _ rfl
    replace hC := hC.more s49
    have hF := hC.fr
    refine zl hF rfl (r_move hF rfl rfl) fun a' hF' => wpList_nil (fl_end hC hF' (Ext.refl _) ?_)
    exact p49
   refine fs (fun v w' => ∃ dv B, v = .agg (setV s dv).toArray ∧ Hp w w' B ∧ Sl 9 1 B dv s.data.length (strV s.data)) rfl (fun _ _ _ he h => let ⟨d, B, h1, h2, h3⟩ := h; ⟨d, B, h1, h2.ext he, h3⟩) ?_ ?_
   ·
    intro a w Lr hE hC hl
    replace hH := hH.ext hE
    obtain ⟨v32, s32, p32⟩ := hl 32 (by decide) _ rfl
    replace hC := hC.more s32
    obtain ⟨dv, B, rfl, hB2, hS2⟩ := p32
    have hF := hC.fr
    refine zl hF rfl (r_extract hF rfl rfl rfl) fun a' hF' => wpList_nil (fl_end hC hF' (Ext.refl _) ?_)
    exact ⟨dv, B, rfl, hB2, hS2⟩
   refine fs (fun v w' => ∃ (g : Nat) (cs : Array Value), v = ptr g ∧ cs.size = 5 ∧ Hp w w' [(g, .cells cs 27 (0, 0))]) rfl (fun _ _ _ he h => let ⟨g, c, h1, h2, h3⟩ := h; ⟨g, c, h1, h2, h3.ext he⟩) ?_ ?_
   ·
    intro a w Lr hE hC hl
    replace hH := hH.ext hE
    have hF := hC.fr
    refine ls_alloc hF (Hp.refl _) rfl rfl rfl rfl zv27 ?_
    intro a' w' g hH' hE' hF'
    exact wpList_nil (fl_end hC hF' hE' ⟨_, _, rfl, rfl, Hp.base hE hH'⟩)
   refine fy (fun v w' => v = .bool true) rfl (fun _ _ _ _ h => h) ?_ ?_
   ·
    intro a w Lr hE hC hl
    replace hH := hH.ext hE
    obtain ⟨v32, s32, p32⟩ := hl 32 (by decide) _ rfl
    replace hC := hC.more s32
    obtain ⟨dv, B, rfl, hB2, hS2⟩ := p32
    have hF := hC.fr
    refine y_of (p := fun v w' => v = .bool true) (w := w) rfl rfl rfl (fun w => r_extract hF rfl rfl rfl) ?_
    exact rfl
   intro a w hE hF hall
   replace hH := hH.ext hE
   obtain ⟨_, s38, rfl⟩ := hall 38 _ rfl
   replace hF := hF.more s38
   obtain ⟨_, s43, rfl⟩ := hall 43 _ rfl
   replace hF := hF.more s43
   obtain ⟨_, s48, rfl⟩ := hall 48 _ rfl
   replace hF := hF.more s48
   obtain ⟨v49, s49, p49⟩ := hall 49 _ rfl
   replace hF := hF.more s49
   obtain ⟨v32, s32, p32⟩ := hall 32 _ rfl
   replace hF := hF.more s32
   obtain ⟨v50, s50, p50⟩ := hall 50 _ rfl
   replace hF := hF.more s50
   obtain ⟨v5, s5, p5⟩ := hall 5 _ rfl
   replace hF := hF.more s5
   obtain ⟨v51, s51, p51⟩ := hall 51 _ rfl
   replace hF := hF.more s51
   clear hall
   obtain ⟨dv, B, rfl, hBv, hSs⟩ := p50
   obtain ⟨g8, cs8, rfl, hcs8, q8⟩ := p5
   obtain rfl := p51
   replace hH := hHR.join (hBv.both q8 (fun p hp q hq => by
     rcases hSs.2 with ⟨_, _, rfl⟩ | ⟨gd, _, cur, _, rfl, _⟩
     · cases hq
     · rw [List.mem_singleton.1 hp, List.mem_singleton.1 hq]
       intro e; injection e with _ e2 _; exact absurd e2 (by decide)))
   refine ls_storeagg 0 hF hH rfl rfl rfl rfl rfl ti27 rfl (hcs8) (rfl) (by have := hSs.shape; obtain ⟨_, _, rfl⟩ := this; simp [setV, cells_agg, Value.oneCell']) ?_
   intro w hH
   refine wpList_nil ?_
   refine ps hF rfl rfl rfl rfl (fun w => r_assign hF rfl rfl) fun a hF => ?_
   simp only [List.cons_append, List.nil_append, List.set_cons_zero] at hH
   have hsd := hgb.data _ hsm
   refine k9 ?_
   refine c_seq fun Q10 k10 t10 => ?_
   refine q_reg (by kernel_rfl) (by kernel_rfl) ?_
   refine qs hF rfl rfl rfl (fun w hw => r_move hF rfl rfl) fun a hF => ?_
   refine qs hF rfl rfl rfl (fun w hw => r_not hF rfl rfl) fun a hF => ?_
   refine qs hF rfl rfl rfl (fun w hw => r_move hF rfl rfl) fun a hF => ?_
   refine q_ask (d := 54) hF rfl (fun g9_2 => ?_) (fun g9_2 => ?_)
   ·
    have g9_2' := g9_2; try simp only [qq] at g9_2'
    cases g9_2
   have g9_2' := g9_2; try simp only [qq] at g9_2'
   refine qsy hF rfl rfl rfl g9_2 rfl rfl (fun w hw => r_fieldaddr0 hF rfl rfl fd27_4) fun a hF => ?_
   refine qsy hF rfl rfl rfl g9_2 rfl rfl (fun w hw => r_load hF rfl rfl fl25 (hw.cell (own_cell (i := 0) hH rfl rfl))) fun a hF => ?_
   refine qsy hF rfl rfl rfl g9_2 rfl rfl (fun w hw => r_move hF rfl rfl) fun a hF => ?_
   refine qsy hF rfl rfl rfl g9_2 rfl rfl (fun w hw => r_move hF rfl rfl) fun a hF => ?_
   refine qsy hF rfl rfl rfl g9_2 rfl rfl (fun w hw => r_indexaddr hF _ rfl rfl rfl Tryz.underlying34 ti38 (by omega)) fun a hF => ?_
   refine qsy hF rfl rfl rfl g9_2 rfl rfl (fun w hw => r_fieldaddr hF rfl rfl fd38_1) fun a hF => ?_
   refine qsy hF rfl rfl rfl g9_2 rfl rfl (fun w hw => r_load hF rfl rfl fl23 (hw.cell (hH.cell (hH3.cell (hrecx 1 _ rfl))))) fun a hF => ?_
   refine qsy hF rfl rfl rfl g9_2 rfl rfl (fun w hw => r_move hF rfl rfl) fun a hF => ?_
   refine qsy hF rfl rfl rfl g9_2 rfl rfl (fun w hw => r_move hF rfl rfl) fun a hF => ?_
   refine qsy hF rfl rfl rfl g9_2 rfl rfl (fun w hw => r_indexaddr hF _ rfl rfl rfl Tryz.underlying34 ti38 (by omega)) fun a hF => ?_
   refine qsy hF rfl rfl rfl g9_2 rfl rfl (fun w hw => r_fieldaddr hF rfl rfl fd38_4) fun a hF => ?_
   refine qsy hF rfl rfl rfl g9_2 rfl rfl (fun w hw => r_load hF rfl rfl fl9 (hw.cell (hH.cell (hH3.cell (hrecx 4 _ rfl))))) fun a hF => ?_
   refine qsy_call hF rfl rfl rfl g9_2 rfl rfl rfl rfl fn28 (fun w hw => dataFold_spec _ _ hxb.2 _ (hG.ext (hH3.trans (hH.below.trans hw)))) fun a hF => ?_
   refine qsy_call hF rfl rfl rfl g9_2 rfl rfl rfl rfl fn27 (fun w hw => in8_spec s.data _ dv _ (hSs.rsl (hH.ext hw) (fun p hp => List.mem_cons_of_mem _ (List.mem_append_left _ hp))) hsd) fun a hF => ?_
   refine qsy hF rfl rfl rfl g9_2 rfl rfl (fun w hw => r_not hF rfl rfl) fun a hF => ?_
   refine qs hF rfl rfl rfl (fun w hw => r_pickf hF rfl rfl g9_2 rfl) fun a hF => ?_
   refine q_nil fun w hE => ?_
   replace hH := hH.ext hE
   refine k10 ?_
   refine c_if hF rfl (fun h70 => ?_) (fun h70 => ?_)
   ·
    try simp only [qq] at h70
    exact absurd hdm h70
   try simp only [qq] at h70
   refine wp_skip ?_
   refine t7.norm ?_
   refine k6 ?_
   refine c_reg fun ops => ?_
   refine zm 1 hF rfl fun a hF => ?_
   refine zb hF rfl rfl rfl (b_addn _ _ 1 (by omega)) fun a hF => ?_
   refine zm 1 hF rfl fun a hF => ?_
   refine wpList_nil ?_
   refine k4 ?_
   exact ⟨l.length - (i + 1), by omega, i + 1, rfl, by omega, hF.keep [0, 3, 4] rfl, hH.sub (List.nil_sublist _)⟩
  try simp only [qq] at h23
  refine wp_exit (t5.exit (t4.exit (t3.here (?_))))
  refine k2 ?_
  refine c_seq fun Q11 k11 t11 => ?_
  refine c_sr fun ops => ?_
  refine zm 1 hF rfl fun a hF => ?_
  refine c_n ?_
  replace hF := hF.sel [0, 3, 7]
  simp only [ss, Nat.reduceBEq] at hF
  refine c_block fun Q12 t12 => ?_
  refine c_loop (fun n a w => ∃ i, n = (groupN l).length - i ∧ i ≤ (groupN l).length ∧ Fr 164 [(0, .slice ad l.length cap), (3, .slice gad (groupN l).length gcp), (7, .int .i64 (i : Nat))] a ∧ Hp w3 w []) ?_ ?_
  ·
   exact ⟨_, 0, rfl, Nat.zero_le _, hF.keep [0, 3, 7] rfl, hH⟩
  clear hH hF
  intro n a w hI Q13 k13 t13
  obtain ⟨i, hm, hi, hF, hH⟩ := hI
  refine c_seq fun Q14 k14 t14 => ?_
  refine c_sr fun ops => ?_
  refine zm 2 hF rfl fun a hF => ?_
  refine zl hF rfl (r_len_sl hF rfl rfl Tryz.underlying22) fun a hF => ?_
  refine zb hF rfl rfl rfl (b_ltn _ _ _ _) fun a hF => ?_
  refine c_n ?_
  refine c_fi hF rfl (fun h74 => ?_) (fun h74 => ?_)
  ·
   try simp only [qq] at h74
   refine wp_exit (t14.exit (t13.exit (t12.here (?_))))
   refine k11 ?_
   refine c_sr fun ops => ?_
   refine zm 1 hF rfl fun a hF => ?_
   refine c_n ?_
   replace hF := hF.sel [2]
   simp only [ss, Nat.reduceBEq] at hF
   refine wp_ret (hret (ret1 hF Tryz.results5 rfl ?_))
   exact ⟨rfl, hH3.trans hH.below⟩
  try simp only [qq] at h74
  obtain ⟨b1, off1, dv1, rfl, hset1, hdv1⟩ := hs3.at h74
  have hIS := (group_mem l _).1 (List.getElem_mem h74)
  have hgn := hgb.name _ (List.getElem_mem h74)
  have hgd := hgb.data _ (List.getElem_mem h74)
  obtain ⟨dad, dcp, rfl⟩ := hdv1.shape
  refine wp_skip ?_
  refine k14 ?_
  refine c_seq fun Q15 k15 t15 => ?_
  refine c_block fun Q16 t16 => ?_
  refine c_sr fun ops => ?_
  refine zm 1 hF rfl fun a hF => ?_
  refine c_n ?_
  refine c_block fun Q17 t17 => ?_
  refine c_loop (fun n a w => ∃ j, n = (groupN l)[i].data.length - j ∧ j ≤ (groupN l)[i].data.length ∧ Fr 164 [(0, .slice ad l.length cap), (3, .slice (some ⟨b1, off1, none⟩) (groupN l).length gcp), (7, .int .i64 (i : Nat)), (8, .int .i64 (j : Nat))] a ∧ Hp w3 w []) ?_ ?_
  ·
   exact ⟨_, 0, rfl, Nat.zero_le _, hF.keep [0, 3, 7, 8] rfl, hH⟩
  clear hH hF
  intro n a w hI Q18 k18 t18
  obtain ⟨j, hm2, hj, hF, hH⟩ := hI
  refine c_seq fun Q19 k19 t19 => ?_
  refine c_sr fun ops => ?_
  refine zm 3 hF rfl fun a hF => ?_
  refine zl hF rfl (r_indexaddr hF _ rfl rfl rfl Tryz.underlying22 ti27 (by omega)) fun a hF => ?_
  refine zl hF rfl (r_fieldaddr hF rfl rfl fd27_4) fun a hF => ?_
  refine zl hF rfl (r_load hF rfl rfl fl25 (hH.cell (hset1 4 _ rfl))) fun a hF => ?_
  refine zl hF rfl (r_len_sl hF rfl rfl Tryz.underlying25) fun a hF => ?_
  refine zb hF rfl rfl rfl (b_ltn _ _ _ _) fun a hF => ?_
  refine c_n ?_
  refine c_fi hF rfl (fun h84 => ?_) (fun h84 => ?_)
  ·
   try simp only [qq] at h84
   refine wp_exit (t19.exit (t18.exit (t17.here (?_))))
   refine t16.norm ?_
   refine k15 ?_
   refine c_reg fun ops => ?_
   refine zm 1 hF rfl fun a hF => ?_
   refine zb hF rfl rfl rfl (b_addn _ _ 1 (by omega)) fun a hF => ?_
   refine zm 1 hF rfl fun a hF => ?_
   refine wpList_nil ?_
   refine k13 ?_
   exact ⟨(groupN l).length - (i + 1), by omega, i + 1, rfl, by omega, hF.keep [0, 3, 7] rfl, hH⟩
  try simp only [qq] at h84
  obtain ⟨bd, od, rfl, hcd⟩ := hdv1.at h84
  rw [List.getD_eq_getElem?_getD, List.getElem?_eq_getElem h84, Option.getD_some] at hcd
  refine wp_skip ?_
  refine k19 ?_
  refine c_seq fun Q20 k20 t20 => ?_
  refine c_block fun Q21 t21 => ?_
  refine c_sr fun ops => ?_
  refine zm 1 hF rfl fun a hF => ?_
  refine c_n ?_
  refine c_seq fun Q22 k22 t22 => ?_
  refine c_sr fun ops => ?_
  refine zm 1 hF rfl fun a hF => ?_
  refine c_n ?_
  refine c_block fun Q23 t23 => ?_
  refine c_loop (fun n a w => ∃ k off, n = l.length - k ∧ k ≤ l.length ∧ (off = true ∨ ∀ m (h : m < l.length), m < k → ¬ Mt8 l[m] (groupN l)[i] (groupN l)[i].data[j]) ∧ Fr 164 [(0, .slice ad l.length cap), (3, .slice (some ⟨b1, off1, none⟩) (groupN l).length gcp), (7, .int .i64 (i : Nat)), (8, .int .i64 (j : Nat)), (9, .bool off), (10, .int .i64 (k : Nat))] a ∧ Hp w3 w []) ?_ ?_
  ·
   exact ⟨_, 0, false, rfl, Nat.zero_le _, .inr fun _ _ h => (Nat.not_lt_zero _ h).elim, hF.keep [0, 3, 7, 8, 9, 10] rfl, hH⟩
  clear hH hF
  intro n a w hI Q24 k24 t24
  obtain ⟨k, off, hm3, hk, hno, hF, hH⟩ := hI
  refine c_seq fun Q25 k25 t25 => ?_
  refine c_sr fun ops => ?_
  refine zm 2 hF rfl fun a hF => ?_
  refine zl hF rfl (r_len_sl hF rfl rfl Tryz.underlying34) fun a hF => ?_
  refine zb hF rfl rfl rfl (b_ltn _ _ _ _) fun a hF => ?_
  refine c_n ?_
  refine c_fi hF rfl (fun h90 => ?_) (fun h90 => ?_)
  ·
   try simp only [qq] at h90
   obtain rfl : k = l.length := by omega
   refine wp_exit (t25.exit (t24.exit (t23.here (?_))))
   refine k22 ?_
   refine c_sr fun ops => ?_
   refine zm 1 hF rfl fun a hF => ?_
   refine zl hF rfl (r_not hF rfl rfl) fun a hF => ?_
   refine c_n ?_
   refine c_if hF rfl (fun h163 => ?_) (fun h163 => ?_)
   ·
    try simp only [qq] at h163
    obtain ⟨r, hr, hk1, hk2⟩ := (hIS.data _).1 (List.getElem_mem h84)
    obtain ⟨m, hml, rfl⟩ := List.mem_iff_getElem.1 hr
    exact absurd ⟨hk1, hk2⟩ ((hno.resolve_left (by rw [h163]; decide)) m hml hml)
   try simp only [qq] at h163
   refine wp_skip ?_
   refine t21.norm ?_
   refine k20 ?_
   refine c_reg fun ops => ?_
   refine zm 1 hF rfl fun a hF => ?_
   refine zb hF rfl rfl rfl (b_addn _ _ 1 (by omega)) fun a hF => ?_
   refine zm 1 hF rfl fun a hF => ?_
   refine wpList_nil ?_
   refine k18 ?_
   exact ⟨(groupN l)[i].data.length - (j + 1), by omega, j + 1, rfl, h84, hF.keep [0, 3, 7, 8] rfl, hH⟩
  try simp only [qq] at h90
  obtain ⟨bx, offx, rfl, -, hrecx⟩ := hR.rec h90
  have hxb := hRB.each _ (List.getElem_mem h90)
  refine wp_skip ?_
  refine k25 ?_
  refine c_seq fun Q26 k26 t26 => ?_
  refine c_block fun Q27 t27 => ?_
  refine q_reg (by kernel_rfl) (by kernel_rfl) ?_
  refine qs hF rfl rfl rfl (fun w hw => r_move hF rfl rfl) fun a hF => ?_
  refine qs hF rfl rfl rfl (fun w hw => r_move hF rfl rfl) fun a hF => ?_
  refine q_ask (d := 94) hF rfl (fun g21_1 => ?_) (fun g21_1 => ?_)
  ·
   have g21_1' := g21_1; try simp only [qq] at g21_1'
   refine qsn hF rfl rfl rfl g21_1 rfl rfl fun a hF => ?_
   refine qsn hF rfl rfl rfl g21_1 rfl rfl fun a hF => ?_
   refine qsn hF rfl rfl rfl g21_1 rfl rfl fun a hF => ?_
   refine qsn hF rfl rfl rfl g21_1 rfl rfl fun a hF => ?_
   refine qsn hF rfl rfl rfl g21_1 rfl rfl fun a hF => ?_
   refine qsn hF rfl rfl rfl g21_1 rfl rfl fun a hF => ?_
   refine qsu hF rfl rfl rfl rfl rfl fun a hF => ?_
   refine qsu hF rfl rfl rfl rfl rfl fun a hF => ?_
   refine qsu hF rfl rfl rfl rfl rfl fun a hF => ?_
   refine qsu hF rfl rfl rfl rfl rfl fun a hF => ?_
   refine qsu hF rfl rfl rfl rfl rfl fun a hF => ?_
   refine qsu hF rfl rfl rfl rfl rfl fun a hF => ?_
   refine qsu hF rfl rfl rfl rfl rfl fun a hF => ?_
   refine qsu hF rfl rfl rfl rfl rfl fun a hF => ?_
   refine qsu hF rfl rfl rfl rfl rfl fun a hF => ?_
   refine qsu hF rfl rfl rfl rfl rfl fun a hF => ?_
   refine qsu hF rfl rfl rfl rfl rfl fun a hF => ?_
   refine qsn hF rfl rfl rfl g21_1 rfl rfl fun a hF => ?_
   refine qsn hF rfl rfl rfl g21_1 rfl rfl fun a hF => ?_
   refine qsu hF rfl rfl rfl rfl rfl fun a hF => ?_
   refine qsu hF rfl rfl rfl rfl rfl fun a hF => ?_
   refine qsu hF rfl rfl rfl rfl rfl fun a hF => ?_
   refine qsu hF rfl rfl rfl rfl rfl fun a hF => ?_
   refine qsu hF rfl rfl rfl rfl rfl fun a hF => ?_
   refine qsu hF rfl rfl rfl rfl rfl fun a hF => ?_
   refine qsu hF rfl rfl rfl rfl rfl fun a hF => ?_
   refine qsu hF rfl rfl rfl rfl rfl fun a hF => ?_
   refine qsu hF rfl rfl rfl rfl rfl fun a hF => ?_
   refine qsu hF rfl rfl rfl rfl rfl fun a hF => ?_
   refine qsu hF rfl rfl rfl rfl rfl fun a hF => ?_
   refine qsn hF rfl rfl rfl g21_1 rfl rfl fun a hF => ?_
   refine qsn hF rfl rfl rfl g21_1 rfl rfl fun a hF => ?_
   refine qsu hF rfl rfl rfl rfl rfl fun a hF => ?_
   refine qsu hF rfl rfl rfl rfl rfl fun a hF => ?_
   refine qsu hF rfl rfl rfl rfl rfl fun a hF => ?_
   refine qsu hF rfl rfl rfl rfl rfl fun a hF => ?_
   refine qsu hF rfl rfl rfl rfl rfl fun a hF => ?_
   refine qsu hF rfl rfl rfl rfl rfl fun a hF => ?_
   refine qsu hF rfl rfl rfl rfl rfl fun a hF => ?_
   refine qsu hF rfl rfl rfl rfl rfl fun a hF => ?_
   refine qsu hF rfl rfl rfl rfl rfl fun a hF => ?_
   refine qsu hF rfl rfl rfl rfl rfl fun a hF => ?_
   refine qsu hF rfl rfl rfl rfl rfl fun a hF => ?_
   refine qsn hF rfl rfl rfl g21_1 rfl rfl fun a hF => ?_
   refine qsn hF rfl rfl rfl g21_1 rfl rfl fun a hF => ?_
   refine qsu hF rfl rfl rfl rfl rfl fun a hF => ?_
   refine qsu hF rfl rfl rfl rfl rfl fun a hF => ?_
   refine qsu hF rfl rfl rfl rfl rfl fun a hF => ?_
   refine qsu hF rfl rfl rfl rfl rfl fun a hF => ?_
   refine qsu hF rfl rfl rfl rfl rfl fun a hF => ?_
   refine qsu hF rfl rfl rfl rfl rfl fun a hF => ?_
   refine qsu hF rfl rfl rfl rfl rfl fun a hF => ?_
   refine qsu hF rfl rfl rfl rfl rfl fun a hF => ?_
   refine qsu hF rfl rfl rfl rfl rfl fun a hF => ?_
   refine qsu hF rfl rfl rfl rfl rfl fun a hF => ?_
   refine qsu hF rfl rfl rfl rfl rfl fun a hF => ?_
   refine qsu hF rfl rfl rfl rfl rfl fun a hF => ?_
   refine qsu hF rfl rfl rfl rfl rfl fun a hF => ?_
   refine qsu hF rfl rfl rfl rfl rfl fun a hF => ?_
   refine qsu hF rfl rfl rfl rfl rfl fun a hF => ?_
   refine qsu hF rfl rfl rfl rfl rfl fun a hF => ?_
   refine qsu hF rfl rfl rfl rfl rfl fun a hF => ?_
   refine qsu hF rfl rfl rfl rfl rfl fun a hF => ?_
   refine qsu hF rfl rfl rfl rfl rfl fun a hF => ?_
   refine qsu hF rfl rfl rfl rfl rfl fun a hF => ?_
   refine qsn hF rfl rfl rfl g21_1 rfl rfl fun a hF => ?_
   refine qs hF rfl rfl rfl (fun w hw => r_pickt hF rfl rfl g21_1 rfl) fun a hF => ?_
   refine qs hF rfl rfl rfl (fun w hw => r_assign hF rfl rfl) fun a hF => ?_
   refine q_nil fun w hE => ?_
   replace hH := hH.ext hE
   refine t27.norm ?_
   refine k26 ?_
   refine c_reg fun ops => ?_
   refine zm 1 hF rfl fun a hF => ?_
   refine zb hF rfl rfl rfl (b_addn _ _ 1 (by omega)) fun a hF => ?_
   refine zm 1 hF rfl fun a hF => ?_
   refine wpList_nil ?_
   refine k24 ?_
   refine ⟨l.length - (k + 1), by omega, k + 1, _, rfl, h90, ?_, hF.keep [0, 3, 7, 8, 9, 10] rfl, hH⟩
   first
     | exact .inl rfl
     | refine Classical.or_iff_not_imp_left.2 fun hx m hml hmk hM => ?_
       rcases Nat.lt_succ_iff_lt_or_eq.1 hmk with h | rfl
       · exact (hno.resolve_left (by rw [g21_1]; decide)) m hml h hM
       · have hkk := (has_iff hIS.good).1 hM.1
         first
           | exact absurd hkk.1 (by rw [g21_7]; decide)
           | exact absurd hkk.2.1 (by rw [g21_20]; decide)
           | exact g21_33' hkk.2.2.1
           | exact g21_46' hkk.2.2.2
           | exact hx (decide_eq_true hM.2)
  have g21_1' := g21_1; try simp only [qq] at g21_1'
  refine qsy hF rfl rfl rfl g21_1 rfl rfl (fun w hw => r_move hF rfl rfl) fun a hF => ?_
  refine qsy hF rfl rfl rfl g21_1 rfl rfl (fun w hw => r_move hF rfl rfl) fun a hF => ?_
  refine qsy hF rfl rfl rfl g21_1 rfl rfl (fun w hw => r_indexaddr hF _ rfl rfl rfl Tryz.underlying34 ti38 (by omega)) fun a hF => ?_
  refine qsy hF rfl rfl rfl g21_1 rfl rfl (fun w hw => r_loadagg hF rfl rfl Tryz.underlying38 ti38 rfl (fun j u hu => (hH.ext hw).cell (hH3.cell (hrecx j u hu)))) fun a hF => ?_
  refine qsy_call hF rfl rfl rfl g21_1 rfl rfl rfl rfl fn23 (fun w hw => may8_spec _ _ hxb.1 hxb.2 (hG.ext (hH3.trans (hH.below.trans hw)))) fun a hF => ?_
  refine qsy hF rfl rfl rfl g21_1 rfl rfl (fun w hw => r_move hF rfl rfl) fun a hF => ?_
  refine q_ask (d := 100) hF rfl (fun g21_7 => ?_) (fun g21_7 => ?_)
  ·
   have g21_7' := g21_7; try simp only [qq] at g21_7'
   refine qsy hF rfl rfl rfl g21_7 rfl rfl (fun w hw => r_move hF rfl rfl) fun a hF => ?_
   refine qsy hF rfl rfl rfl g21_7 rfl rfl (fun w hw => r_move hF rfl rfl) fun a hF => ?_
   refine qsy hF rfl rfl rfl g21_7 rfl rfl (fun w hw => r_indexaddr hF _ rfl rfl rfl Tryz.underlying34 ti38 (by omega)) fun a hF => ?_
   refine qsy hF rfl rfl rfl g21_7 rfl rfl (fun w hw => r_fieldaddr hF rfl rfl fd38_0) fun a hF => ?_
   refine qsy hF rfl rfl rfl g21_7 rfl rfl (fun w hw => r_load hF rfl rfl fl9 (hw.cell (hH.cell (hH3.cell (hrecx 0 _ rfl))))) fun a hF => ?_
   refine qsy hF rfl rfl rfl g21_7 rfl rfl (fun w hw => r_move hF rfl rfl) fun a hF => ?_
   refine qsy hF rfl rfl rfl g21_7 rfl rfl (fun w hw => r_move hF rfl rfl) fun a hF => ?_
   refine qsy hF rfl rfl rfl g21_7 rfl rfl (fun w hw => r_indexaddr hF _ rfl rfl rfl Tryz.underlying22 ti27 (by omega)) fun a hF => ?_
   refine qsy hF rfl rfl rfl g21_7 rfl rfl (fun w hw => r_fieldaddr hF rfl rfl fd27_0) fun a hF => ?_
   refine qsy hF rfl rfl rfl g21_7 rfl rfl (fun w hw => r_load hF rfl rfl fl9 (hw.cell (hH.cell (hset1 0 _ rfl)))) fun a hF => ?_
   refine qsy_call hF rfl rfl rfl g21_7 rfl rfl rfl rfl fn29 (fun w hw => same_spec _ _ (by omega) (by omega) _) fun a hF => ?_
   refine qsy hF rfl rfl rfl g21_1 rfl rfl (fun w hw => r_pickt hF rfl rfl g21_7 rfl) fun a hF => ?_
   refine qsy hF rfl rfl rfl g21_1 rfl rfl (fun w hw => r_move hF rfl rfl) fun a hF => ?_
   refine q_ask (d := 113) hF rfl (fun g21_20 => ?_) (fun g21_20 => ?_)
   ·
    have g21_20' := g21_20; try simp only [qq] at g21_20'
    refine qsy hF rfl rfl rfl g21_20 rfl rfl (fun w hw => r_move hF rfl rfl) fun a hF => ?_
    refine qsy hF rfl rfl rfl g21_20 rfl rfl (fun w hw => r_move hF rfl rfl) fun a hF => ?_
    refine qsy hF rfl rfl rfl g21_20 rfl rfl (fun w hw => r_indexaddr hF _ rfl rfl rfl Tryz.underlying34 ti38 (by omega)) fun a hF => ?_
    refine qsy hF rfl rfl rfl g21_20 rfl rfl (fun w hw => r_fieldaddr hF rfl rfl fd38_1) fun a hF => ?_
    refine qsy hF rfl rfl rfl g21_20 rfl rfl (fun w hw => r_load hF rfl rfl fl23 (hw.cell (hH.cell (hH3.cell (hrecx 1 _ rfl))))) fun a hF => ?_
    refine qsy hF rfl rfl rfl g21_20 rfl rfl (fun w hw => r_move hF rfl rfl) fun a hF => ?_
    refine qsy hF rfl rfl rfl g21_20 rfl rfl (fun w hw => r_move hF rfl rfl) fun a hF => ?_
    refine qsy hF rfl rfl rfl g21_20 rfl rfl (fun w hw => r_indexaddr hF _ rfl rfl rfl Tryz.underlying22 ti27 (by omega)) fun a hF => ?_
    refine qsy hF rfl rfl rfl g21_20 rfl rfl (fun w hw => r_fieldaddr hF rfl rfl fd27_1) fun a hF => ?_
    refine qsy hF rfl rfl rfl g21_20 rfl rfl (fun w hw => r_load hF rfl rfl fl23 (hw.cell (hH.cell (hset1 1 _ rfl)))) fun a hF => ?_
    refine qsy hF rfl rfl rfl g21_20 rfl rfl (fun w hw => zr hF rfl rfl (b_eqn _ _ _ _)) fun a hF => ?_
    refine qsy hF rfl rfl rfl g21_1 rfl rfl (fun w hw => r_pickt hF rfl rfl g21_20 rfl) fun a hF => ?_
    refine qsy hF rfl rfl rfl g21_1 rfl rfl (fun w hw => r_move hF rfl rfl) fun a hF => ?_
    refine q_ask (d := 126) hF rfl (fun g21_33 => ?_) (fun g21_33 => ?_)
    ·
     have g21_33' := g21_33; try simp only [qq] at g21_33'
     refine qsy hF rfl rfl rfl g21_33 rfl rfl (fun w hw => r_move hF rfl rfl) fun a hF => ?_
     refine qsy hF rfl rfl rfl g21_33 rfl rfl (fun w hw => r_move hF rfl rfl) fun a hF => ?_
     refine qsy hF rfl rfl rfl g21_33 rfl rfl (fun w hw => r_indexaddr hF _ rfl rfl rfl Tryz.underlying34 ti38 (by omega)) fun a hF => ?_
     refine qsy hF rfl rfl rfl g21_33 rfl rfl (fun w hw => r_fieldaddr hF rfl rfl fd38_2) fun a hF => ?_
     refine qsy hF rfl rfl rfl g21_33 rfl rfl (fun w hw => r_load hF rfl rfl fl23 (hw.cell (hH.cell (hH3.cell (hrecx 2 _ rfl))))) fun a hF => ?_
     refine qsy hF rfl rfl rfl g21_33 rfl rfl (fun w hw => r_move hF rfl rfl) fun a hF => ?_
     refine qsy hF rfl rfl rfl g21_33 rfl rfl (fun w hw => r_move hF rfl rfl) fun a hF => ?_
     refine qsy hF rfl rfl rfl g21_33 rfl rfl (fun w hw => r_indexaddr hF _ rfl rfl rfl Tryz.underlying22 ti27 (by omega)) fun a hF => ?_
     refine qsy hF rfl rfl rfl g21_33 rfl rfl (fun w hw => r_fieldaddr hF rfl rfl fd27_2) fun a hF => ?_
     refine qsy hF rfl rfl rfl g21_33 rfl rfl (fun w hw => r_load hF rfl rfl fl23 (hw.cell (hH.cell (hset1 2 _ rfl)))) fun a hF => ?_
     refine qsy hF rfl rfl rfl g21_33 rfl rfl (fun w hw => zr hF rfl rfl (b_eqn _ _ _ _)) fun a hF => ?_
     refine qsy hF rfl rfl rfl g21_1 rfl rfl (fun w hw => r_pickt hF rfl rfl g21_33 rfl) fun a hF => ?_
     refine qsy hF rfl rfl rfl g21_1 rfl rfl (fun w hw => r_move hF rfl rfl) fun a hF => ?_
     refine q_ask (d := 139) hF rfl (fun g21_46 => ?_) (fun g21_46 => ?_)
     ·
      have g21_46' := g21_46; try simp only [qq] at g21_46'
      refine qsy hF rfl rfl rfl g21_46 rfl rfl (fun w hw => r_move hF rfl rfl) fun a hF => ?_
      refine qsy hF rfl rfl rfl g21_46 rfl rfl (fun w hw => r_move hF rfl rfl) fun a hF => ?_
      refine qsy hF rfl rfl rfl g21_46 rfl rfl (fun w hw => r_indexaddr hF _ rfl rfl rfl Tryz.underlying34 ti38 (by omega)) fun a hF => ?_
      refine qsy hF rfl rfl rfl g21_46 rfl rfl (fun w hw => r_fieldaddr hF rfl rfl fd38_1) fun a hF => ?_
      refine qsy hF rfl rfl rfl g21_46 rfl rfl (fun w hw => r_load hF rfl rfl fl23 (hw.cell (hH.cell (hH3.cell (hrecx 1 _ rfl))))) fun a hF => ?_
      refine qsy hF rfl rfl rfl g21_46 rfl rfl (fun w hw => r_move hF rfl rfl) fun a hF => ?_
      refine qsy hF rfl rfl rfl g21_46 rfl rfl (fun w hw => r_move hF rfl rfl) fun a hF => ?_
      refine qsy hF rfl rfl rfl g21_46 rfl rfl (fun w hw => r_indexaddr hF _ rfl rfl rfl Tryz.underlying34 ti38 (by omega)) fun a hF => ?_
      refine qsy hF rfl rfl rfl g21_46 rfl rfl (fun w hw => r_fieldaddr hF rfl rfl fd38_4) fun a hF => ?_
      refine qsy hF rfl rfl rfl g21_46 rfl rfl (fun w hw => r_load hF rfl rfl fl9 (hw.cell (hH.cell (hH3.cell (hrecx 4 _ rfl))))) fun a hF => ?_
      refine qsy_call hF rfl rfl rfl g21_46 rfl rfl rfl rfl fn28 (fun w hw => dataFold_spec _ _ hxb.2 _ (hG.ext (hH3.trans (hH.below.trans hw)))) fun a hF => ?_
      refine qsy hF rfl rfl rfl g21_46 rfl rfl (fun w hw => r_move hF rfl rfl) fun a hF => ?_
      refine qsy hF rfl rfl rfl g21_46 rfl rfl (fun w hw => r_move hF rfl rfl) fun a hF => ?_
      refine qsy hF rfl rfl rfl g21_46 rfl rfl (fun w hw => r_indexaddr hF _ rfl rfl rfl Tryz.underlying22 ti27 (by omega)) fun a hF => ?_
      refine qsy hF rfl rfl rfl g21_46 rfl rfl (fun w hw => r_fieldaddr hF rfl rfl fd27_4) fun a hF => ?_
      refine qsy hF rfl rfl rfl g21_46 rfl rfl (fun w hw => r_load hF rfl rfl fl25 (hw.cell (hH.cell (hset1 4 _ rfl)))) fun a hF => ?_
      refine qsy hF rfl rfl rfl g21_46 rfl rfl (fun w hw => r_move hF rfl rfl) fun a hF => ?_
      refine qsy hF rfl rfl rfl g21_46 rfl rfl (fun w hw => r_ix1 hF _ rfl rfl rfl Tryz.underlying25 ti9 (by omega)) fun a hF => ?_
      refine qsy hF rfl rfl rfl g21_46 rfl rfl (fun w hw => r_load hF rfl rfl fl9 (hw.cell (hH.cell hcd))) fun a hF => ?_
      refine qsy hF rfl rfl rfl g21_46 rfl rfl (fun w hw => zr hF rfl rfl (b_seq _ _ _)) fun a hF => ?_
      refine qsy hF rfl rfl rfl g21_1 rfl rfl (fun w hw => r_pickt hF rfl rfl g21_46 rfl) fun a hF => ?_
      refine qs hF rfl rfl rfl (fun w hw => r_pickf hF rfl rfl g21_1 rfl) fun a hF => ?_
      refine qs hF rfl rfl rfl (fun w hw => r_assign hF rfl rfl) fun a hF => ?_
      refine q_nil fun w hE => ?_
      replace hH := hH.ext hE
      refine t27.norm ?_
      refine k26 ?_
      refine c_reg fun ops => ?_
      refine zm 1 hF rfl fun a hF => ?_
      refine zb hF rfl rfl rfl (b_addn _ _ 1 (by omega)) fun a hF => ?_
      refine zm 1 hF rfl fun a hF => ?_
      refine wpList_nil ?_
      refine k24 ?_
      refine ⟨l.length - (k + 1), by omega, k + 1, _, rfl, h90, ?_, hF.keep [0, 3, 7, 8, 9, 10] rfl, hH⟩
      first
        | exact .inl rfl
        | refine Classical.or_iff_not_imp_left.2 fun hx m hml hmk hM => ?_
          rcases Nat.lt_succ_iff_lt_or_eq.1 hmk with h | rfl
          · exact (hno.resolve_left (by rw [g21_1]; decide)) m hml h hM
          · have hkk := (has_iff hIS.good).1 hM.1
            first
              | exact absurd hkk.1 (by rw [g21_7]; decide)
              | exact absurd hkk.2.1 (by rw [g21_20]; decide)
              | exact g21_33' hkk.2.2.1
              | exact g21_46' hkk.2.2.2
              | exact hx (decide_eq_true hM.2)
     have g21_46' := g21_46; try simp only [qq] at g21_46'
     refine qsn hF rfl rfl rfl g21_46 rfl rfl fun a hF => ?_
     refine qsn hF rfl rfl rfl g21_46 rfl rfl fun a hF => ?_
     refine qsn hF rfl rfl rfl g21_46 rfl rfl fun a hF => ?_
     refine qsn hF rfl rfl rfl g21_46 rfl rfl fun a hF => ?_
     refine qsn hF rfl rfl rfl g21_46 rfl rfl fun a hF => ?_
     refine qsn hF rfl rfl rfl g21_46 rfl rfl fun a hF => ?_
     refine qsn hF rfl rfl rfl g21_46 rfl rfl fun a hF => ?_
     refine qsn hF rfl rfl rfl g21_46 rfl rfl fun a hF => ?_
     refine qsn hF rfl rfl rfl g21_46 rfl rfl fun a hF => ?_
     refine qsn hF rfl rfl rfl g21_46 rfl rfl fun a hF => ?_
     refine qsn hF rfl rfl rfl g21_46 rfl rfl fun a hF => ?_
     refine qsn hF rfl rfl rfl g21_46 rfl rfl fun a hF => ?_
     refine qsn hF rfl rfl rfl g21_46 rfl rfl fun a hF => ?_
     refine qsn hF rfl rfl rfl g21_46 rfl rfl fun a hF => ?_
     refine qsn hF rfl rfl rfl g21_46 rfl rfl fun a hF => ?_
     refine qsn hF rfl rfl rfl g21_46 rfl rfl fun a hF => ?_
     refine qsn hF rfl rfl rfl g21_46 rfl rfl fun a hF => ?_
     refine qsn hF rfl rfl rfl g21_46 rfl rfl fun a hF => ?_
     refine qsn hF rfl rfl rfl g21_46 rfl rfl fun a hF => ?_
     refine qsn hF rfl rfl rfl g21_46 rfl rfl fun a hF => ?_
     refine qsy hF rfl rfl rfl g21_1 rfl rfl (fun w hw => r_pickf hF rfl rfl g21_46 rfl) fun a hF => ?_
     refine qs hF rfl rfl rfl (fun w hw => r_pickf hF rfl rfl g21_1 rfl) fun a hF => ?_
     refine qs hF rfl rfl rfl (fun w hw => r_assign hF rfl rfl) fun a hF => ?_
     refine q_nil fun w hE => ?_
     replace hH := hH.ext hE
     refine t27.norm ?_
     refine k26 ?_
     refine c_reg fun ops => ?_
     refine zm 1 hF rfl fun a hF => ?_
     refine zb hF rfl rfl rfl (b_addn _ _ 1 (by omega)) fun a hF => ?_
     refine zm 1 hF rfl fun a hF => ?_
     refine wpList_nil ?_
     refine k24 ?_
     refine ⟨l.length - (k + 1), by omega, k + 1, _, rfl, h90, ?_, hF.keep [0, 3, 7, 8, 9, 10] rfl, hH⟩
     first
       | exact .inl rfl
       | refine Classical.or_iff_not_imp_left.2 fun hx m hml hmk hM => ?_
         rcases Nat.lt_succ_iff_lt_or_eq.1 hmk with h | rfl
         · exact (hno.resolve_left (by rw [g21_1]; decide)) m hml h hM
         · have hkk := (has_iff hIS.good).1 hM.1
           first
             | exact absurd hkk.1 (by rw [g21_7]; decide)
             | exact absurd hkk.2.1 (by rw [g21_20]; decide)
             | exact g21_33' hkk.2.2.1
             | exact g21_46' hkk.2.2.2
             | exact hx (decide_eq_true hM.2)
    have g21_33' := g21_33; try simp only [qq] at g21_33'
    refine qsn hF rfl rfl rfl g21_33 rfl rfl fun a hF => ?_
    refine qsn hF rfl rfl rfl g21_33 rfl rfl fun a hF => ?_
    refine qsn hF rfl rfl rfl g21_33 rfl rfl fun a hF => ?_
    refine qsn hF rfl rfl rfl g21_33 rfl rfl fun a hF => ?_
    refine qsn hF rfl rfl rfl g21_33 rfl rfl fun a hF => ?_
    refine qsn hF rfl rfl rfl g21_33 rfl rfl fun a hF => ?_
    refine qsn hF rfl rfl rfl g21_33 rfl rfl fun a hF => ?_
    refine qsn hF rfl rfl rfl g21_33 rfl rfl fun a hF => ?_
    refine qsn hF rfl rfl rfl g21_33 rfl rfl fun a hF => ?_
    refine qsn hF rfl rfl rfl g21_33 rfl rfl fun a hF => ?_
    refine qsn hF rfl rfl rfl g21_33 rfl rfl fun a hF => ?_
    refine qsy hF rfl rfl rfl g21_1 rfl rfl (fun w hw => r_pickf hF rfl rfl g21_33 rfl) fun a hF => ?_
    refine qsy hF rfl rfl rfl g21_1 rfl rfl (fun w hw => r_move hF rfl rfl) fun a hF => ?_
    refine qsn hF rfl rfl rfl rfl rfl rfl fun a hF => ?_
    refine qsn hF rfl rfl rfl rfl rfl rfl fun a hF => ?_
    refine qsn hF rfl rfl rfl rfl rfl rfl fun a hF => ?_
    refine qsn hF rfl rfl rfl rfl rfl rfl fun a hF => ?_
    refine qsn hF rfl rfl rfl rfl rfl rfl fun a hF => ?_
    refine qsn hF rfl rfl rfl rfl rfl rfl fun a hF => ?_
    refine qsn hF rfl rfl rfl rfl rfl rfl fun a hF => ?_
    refine qsn hF rfl rfl rfl rfl rfl rfl fun a hF => ?_
    refine qsn hF rfl rfl rfl rfl rfl rfl fun a hF => ?_
    refine qsn hF rfl rfl rfl rfl rfl rfl fun a hF => ?_
    refine qsn hF rfl rfl rfl rfl rfl rfl fun a hF => ?_
    refine qsn hF rfl rfl rfl rfl rfl rfl fun a hF => ?_
    refine qsn hF rfl rfl rfl rfl rfl rfl fun a hF => ?_
    refine qsn hF rfl rfl rfl rfl rfl rfl fun a hF => ?_
    refine qsn hF rfl rfl rfl rfl rfl rfl fun a hF => ?_
    refine qsn hF rfl rfl rfl rfl rfl rfl fun a hF => ?_
    refine qsn hF rfl rfl rfl rfl rfl rfl fun a hF => ?_
    refine qsn hF rfl rfl rfl rfl rfl rfl fun a hF => ?_
    refine qsn hF rfl rfl rfl rfl rfl rfl fun a hF => ?_
    refine qsn hF rfl rfl rfl rfl rfl rfl fun a hF => ?_
    refine qsy hF rfl rfl rfl g21_1 rfl rfl (fun w hw => r_pickf hF rfl rfl rfl rfl) fun a hF => ?_
    refine qs hF rfl rfl rfl (fun w hw => r_pickf hF rfl rfl g21_1 rfl) fun a hF => ?_
    refine qs hF rfl rfl rfl (fun w hw => r_assign hF rfl rfl) fun a hF => ?_
    refine q_nil fun w hE => ?_
    replace hH := hH.ext hE
    refine t27.norm ?_
    refine k26 ?_
    refine c_reg fun ops => ?_
    refine zm 1 hF rfl fun a hF => ?_
    refine zb hF rfl rfl rfl (b_addn _ _ 1 (by omega)) fun a hF => ?_
    refine zm 1 hF rfl fun a hF => ?_
    refine wpList_nil ?_
    refine k24 ?_
    refine ⟨l.length - (k + 1), by omega, k + 1, _, rfl, h90, ?_, hF.keep [0, 3, 7, 8, 9, 10] rfl, hH⟩
    first
      | exact .inl rfl
      | refine Classical.or_iff_not_imp_left.2 fun hx m hml hmk hM => ?_
        rcases Nat.lt_succ_iff_lt_or_eq.1 hmk with h | rfl
        · exact (hno.resolve_left (by rw [g21_1]; decide)) m hml h hM
        · have hkk := (has_iff hIS.good).1 hM.1
          first
            | exact absurd hkk.1 (by rw [g21_7]; decide)
            | exact absurd hkk.2.1 (by rw [g21_20]; decide)
            | exact g21_33' hkk.2.2.1
            | exact g21_46' hkk.2.2.2
            | exact hx (decide_eq_true hM.2)
   have g21_20' := g21_20; try simp only [qq] at g21_20'
   refine qsn hF rfl rfl rfl g21_20 rfl rfl fun a hF => ?_
   refine qsn hF rfl rfl rfl g21_20 rfl rfl fun a hF => ?_
   refine qsn hF rfl rfl rfl g21_20 rfl rfl fun a hF => ?_
   refine qsn hF rfl rfl rfl g21_20 rfl rfl fun a hF => ?_
   refine qsn hF rfl rfl rfl g21_20 rfl rfl fun a hF => ?_
   refine qsn hF rfl rfl rfl g21_20 rfl rfl fun a hF => ?_
   refine qsn hF rfl rfl rfl g21_20 rfl rfl fun a hF => ?_
   refine qsn hF rfl rfl rfl g21_20 rfl rfl fun a hF => ?_
   refine qsn hF rfl rfl rfl g21_20 rfl rfl fun a hF => ?_
   refine qsn hF rfl rfl rfl g21_20 rfl rfl fun a hF => ?_
   refine qsn hF rfl rfl rfl g21_20 rfl rfl fun a hF => ?_
   refine qsy hF rfl rfl rfl g21_1 rfl rfl (fun w hw => r_pickf hF rfl rfl g21_20 rfl) fun a hF => ?_
   refine qsy hF rfl rfl rfl g21_1 rfl rfl (fun w hw => r_move hF rfl rfl) fun a hF => ?_
   refine qsn hF rfl rfl rfl rfl rfl rfl fun a hF => ?_
   refine qsn hF rfl rfl rfl rfl rfl rfl fun a hF => ?_
   refine qsn hF rfl rfl rfl rfl rfl rfl fun a hF => ?_
   refine qsn hF rfl rfl rfl rfl rfl rfl fun a hF => ?_
   refine qsn hF rfl rfl rfl rfl rfl rfl fun a hF => ?_
   refine qsn hF rfl rfl rfl rfl rfl rfl fun a hF => ?_
   refine qsn hF rfl rfl rfl rfl rfl rfl fun a hF => ?_
   refine qsn hF rfl rfl rfl rfl rfl rfl fun a hF => ?_
   refine qsn hF rfl rfl rfl rfl rfl rfl fun a hF => ?_
   refine qsn hF rfl rfl rfl rfl rfl rfl fun a hF => ?_
   refine qsn hF rfl rfl rfl rfl rfl rfl fun a hF => ?_
   refine qsy hF rfl rfl rfl g21_1 rfl rfl (fun w hw => r_pickf hF rfl rfl rfl rfl) fun a hF => ?_
   refine qsy hF rfl rfl rfl g21_1 rfl rfl (fun w hw => r_move hF rfl rfl) fun a hF => ?_
   refine qsn hF rfl rfl rfl rfl rfl rfl fun a hF => ?_
   refine qsn hF rfl rfl rfl rfl rfl rfl fun a hF => ?_
   refine qsn hF rfl rfl rfl rfl rfl rfl fun a hF => ?_
   refine qsn hF rfl rfl rfl rfl rfl rfl fun a hF => ?_
   refine qsn hF rfl rfl rfl rfl rfl rfl fun a hF => ?_
   refine qsn hF rfl rfl rfl rfl rfl rfl fun a hF => ?_
   refine qsn hF rfl rfl rfl rfl rfl rfl fun a hF => ?_
   refine qsn hF rfl rfl rfl rfl rfl rfl fun a hF => ?_
   refine qsn hF rfl rfl rfl rfl rfl rfl fun a hF => ?_
   refine qsn hF rfl rfl rfl rfl rfl rfl fun a hF => ?_
   refine qsn hF rfl rfl rfl rfl rfl rfl fun a hF => ?_
   refine qsn hF rfl rfl rfl rfl rfl rfl fun a hF => ?_
   refine qsn hF rfl rfl rfl rfl rfl rfl fun a hF => ?_
   refine qsn hF rfl rfl rfl rfl rfl rfl fun a hF => ?_
   refine qsn hF rfl rfl rfl rfl rfl rfl fun a hF => ?_
   refine qsn hF rfl rfl rfl rfl rfl rfl fun a hF => ?_
   refine qsn hF rfl rfl rfl rfl rfl rfl fun a hF => ?_
   refine qsn hF rfl rfl rfl rfl rfl rfl fun a hF => ?_
   refine qsn hF rfl rfl rfl rfl rfl rfl fun a hF => ?_
   refine qsn hF rfl rfl rfl rfl rfl rfl fun a hF => ?_
   refine qsy hF rfl rfl rfl g21_1 rfl rfl (fun w hw => r_pickf hF rfl rfl rfl rfl) fun a hF => ?_
   refine qs hF rfl rfl rfl (fun w hw => r_pickf hF rfl rfl g21_1 rfl) fun a hF => ?_
   refine qs hF rfl rfl rfl (fun w hw => r_assign hF rfl rfl) fun a hF => ?_
   refine q_nil fun w hE => ?_
   replace hH := hH.ext hE
   refine t27.norm ?_
   refine k26 ?_
   refine c_reg fun ops => ?_
   refine zm 1 hF rfl fun a hF => ?_
   refine zb hF rfl rfl rfl (b_addn _ _ 1 (by omega)) fun a hF => ?_
   refine zm 1 hF rfl fun a hF => ?_
   refine wpList_nil ?_
   refine k24 ?_
   refine ⟨l.length - (k + 1), by omega, k + 1, _, rfl, h90, ?_, hF.keep [0, 3, 7, 8, 9, 10] rfl, hH⟩
   first
     | exact .inl rfl
     | refine Classical.or_iff_not_imp_left.2 fun hx m hml hmk hM => ?_
       rcases Nat.lt_succ_iff_lt_or_eq.1 hmk with h | rfl
       · exact (hno.resolve_left (by rw [g21_1]; decide)) m hml h hM
       · have hkk := (has_iff hIS.good).1 hM.1
         first
           | exact absurd hkk.1 (by rw [g21_7]; decide)
           | exact absurd hkk.2.1 (by rw [g21_20]; decide)
           | exact g21_33' hkk.2.2.1
           | exact g21_46' hkk.2.2.2
           | exact hx (decide_eq_true hM.2)
  have g21_7' := g21_7; try simp only [qq] at g21_7'
  refine qsn hF rfl rfl rfl g21_7 rfl rfl fun a hF => ?_
  refine qsn hF rfl rfl rfl g21_7 rfl rfl fun a hF => ?_
  refine qsn hF rfl rfl rfl g21_7 rfl rfl fun a hF => ?_
  refine qsn hF rfl rfl rfl g21_7 rfl rfl fun a hF => ?_
  refine qsn hF rfl rfl rfl g21_7 rfl rfl fun a hF => ?_
  refine qsn hF rfl rfl rfl g21_7 rfl rfl fun a hF => ?_
  refine qsn hF rfl rfl rfl g21_7 rfl rfl fun a hF => ?_
  refine qsn hF rfl rfl rfl g21_7 rfl rfl fun a hF => ?_
  refine qsn hF rfl rfl rfl g21_7 rfl rfl fun a hF => ?_
  refine qsn hF rfl rfl rfl g21_7 rfl rfl fun a hF => ?_
  refine qsn hF rfl rfl rfl g21_7 rfl rfl fun a hF => ?_
  refine qsy hF rfl rfl rfl g21_1 rfl rfl (fun w hw => r_pickf hF rfl rfl g21_7 rfl) fun a hF => ?_
  refine qsy hF rfl rfl rfl g21_1 rfl rfl (fun w hw => r_move hF rfl rfl) fun a hF => ?_
  refine qsn hF rfl rfl rfl rfl rfl rfl fun a hF => ?_
  refine qsn hF rfl rfl rfl rfl rfl rfl fun a hF => ?_
  refine qsn hF rfl rfl rfl rfl rfl rfl fun a hF => ?_
  refine qsn hF rfl rfl rfl rfl rfl rfl fun a hF => ?_
  refine qsn hF rfl rfl rfl rfl rfl rfl fun a hF => ?_
  refine qsn hF rfl rfl rfl rfl rfl rfl fun a hF => ?_
  refine qsn hF rfl rfl rfl rfl rfl rfl fun a hF => ?_
  refine qsn hF rfl rfl rfl rfl rfl rfl fun a hF => ?_
  refine qsn hF rfl rfl rfl rfl rfl rfl fun a hF => ?_
  refine qsn hF rfl rfl rfl rfl rfl rfl fun a hF => ?_
  refine qsn hF rfl rfl rfl rfl rfl rfl fun a hF => ?_
  refine qsy hF rfl rfl rfl g21_1 rfl rfl (fun w hw => r_pickf hF rfl rfl rfl rfl) fun a hF => ?_
  refine qsy hF rfl rfl rfl g21_1 rfl rfl (fun w hw => r_move hF rfl rfl) fun a hF => ?_
  refine qsn hF rfl rfl rfl rfl rfl rfl fun a hF => ?_
  refine qsn hF rfl rfl rfl rfl rfl rfl fun a hF => ?_
  refine qsn hF rfl rfl rfl rfl rfl rfl fun a hF => ?_
  refine qsn hF rfl rfl rfl rfl rfl rfl fun a hF => ?_
  refine qsn hF rfl rfl rfl rfl rfl rfl fun a hF => ?_
  refine qsn hF rfl rfl rfl rfl rfl rfl fun a hF => ?_
  refine qsn hF rfl rfl rfl rfl rfl rfl fun a hF => ?_
  refine qsn hF rfl rfl rfl rfl rfl rfl fun a hF => ?_
  refine qsn hF rfl rfl rfl rfl rfl rfl fun a hF => ?_
  refine qsn hF rfl rfl rfl rfl rfl rfl fun a hF => ?_
  refine qsn hF rfl rfl rfl rfl rfl rfl fun a hF => ?_
  refine qsy hF rfl rfl rfl g21_1 rfl rfl (fun w hw => r_pickf hF rfl rfl rfl rfl) fun a hF => ?_
  refine qsy hF rfl rfl rfl g21_1 rfl rfl (fun w hw => r_move hF rfl rfl) fun a hF => ?_
  refine qsn hF rfl rfl rfl rfl rfl rfl fun a hF => ?_
  refine qsn hF rfl rfl rfl rfl rfl rfl fun a hF => ?_
  refine qsn hF rfl rfl rfl rfl rfl rfl fun a hF => ?_
  refine qsn hF rfl rfl rfl rfl rfl rfl fun a hF => ?_
  refine qsn hF rfl rfl rfl rfl rfl rfl fun a hF => ?_
  refine qsn hF rfl rfl rfl rfl rfl rfl fun a hF => ?_
  refine qsn hF rfl rfl rfl rfl rfl rfl fun a hF => ?_
  refine qsn hF rfl rfl rfl rfl rfl rfl fun a hF => ?_
  refine qsn hF rfl rfl rfl rfl rfl rfl fun a hF => ?_
  refine qsn hF rfl rfl rfl rfl rfl rfl fun a hF => ?_
  refine qsn hF rfl rfl rfl rfl rfl rfl fun a hF => ?_
  refine qsn hF rfl rfl rfl rfl rfl rfl fun a hF => ?_
  refine qsn hF rfl rfl rfl rfl rfl rfl fun a hF => ?_
  refine qsn hF rfl rfl rfl rfl rfl rfl fun a hF => ?_
  refine qsn hF rfl rfl rfl rfl rfl rfl fun a hF => ?_
  refine qsn hF rfl rfl rfl rfl rfl rfl fun a hF => ?_
  refine qsn hF rfl rfl rfl rfl rfl rfl fun a hF => ?_
  refine qsn hF rfl rfl rfl rfl rfl rfl fun a hF => ?_
  refine qsn hF rfl rfl rfl rfl rfl rfl fun a hF => ?_
  refine qsn hF rfl rfl rfl rfl rfl rfl fun a hF => ?_
  refine qsy hF rfl rfl rfl g21_1 rfl rfl (fun w hw => r_pickf hF rfl rfl rfl rfl) fun a hF => ?_
  refine qs hF rfl rfl rfl (fun w hw => r_pickf hF rfl rfl g21_1 rfl) fun a hF => ?_
  refine qs hF rfl rfl rfl (fun w hw => r_assign hF rfl rfl) fun a hF => ?_
  refine q_nil fun w hE => ?_
  replace hH := hH.ext hE
  refine t27.norm ?_
  refine k26 ?_
  refine c_reg fun ops => ?_
  refine zm 1 hF rfl fun a hF => ?_
  refine zb hF rfl rfl rfl (b_addn _ _ 1 (by omega)) fun a hF => ?_
  refine zm 1 hF rfl fun a hF => ?_
  refine wpList_nil ?_
  refine k24 ?_
  refine ⟨l.length - (k + 1), by omega, k + 1, _, rfl, h90, ?_, hF.keep [0, 3, 7, 8, 9, 10] rfl, hH⟩
  first
    | exact .inl rfl
    | refine Classical.or_iff_not_imp_left.2 fun hx m hml hmk hM => ?_
      rcases Nat.lt_succ_iff_lt_or_eq.1 hmk with h | rfl
      · exact (hno.resolve_left (by rw [g21_1]; decide)) m hml h hM
      · have hkk := (has_iff hIS.good).1 hM.1
        first
          | exact absurd hkk.1 (by rw [g21_7]; decide)
          | exact absurd hkk.2.1 (by rw [g21_20]; decide)
          | exact g21_33' hkk.2.2.1
          | exact g21_46' hkk.2.2.2
          | exact hx (decide_eq_true hM.2)
end Go.Proofs.YtcelgjabccgnmaaGreatDoor
