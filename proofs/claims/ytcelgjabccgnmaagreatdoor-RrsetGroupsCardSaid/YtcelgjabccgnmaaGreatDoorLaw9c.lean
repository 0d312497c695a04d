/-
  The walks of hustingslaw09.large and spoil, and of ChainFollows. Nothing is claimed here.
  The walk of hustingslaw09.ChainFollows. Nothing is claimed here.
-/
import Derived.Test.YtcelgjabccgnmaaGreatDoorLaw9a
import Derived.Test.YtcelgjabccgnmaaGreatDoorKit2
namespace Go.Proofs.YtcelgjabccgnmaaGreatDoor
open Go.RowKit
set_option linter.unusedVariables false
set_option linter.unusedSimpArgs false
set_option maxHeartbeats 1000000

theorem large9L_spec (l : List Rec) (v : Value) (w0 : World) (hR : RSl w0 5 v l.length (recsV l)) :
    Rets Tryz.prog 34 [v] w0 fun r w' => (∃ b : Bool, r = .bool b ∧ (b = false → RecsB l ∧ l.length < 4000)) ∧ Ext w0 w' := by
  have hH := Hp.refl w0
  obtain ⟨ad, cap, rfl⟩ := hR.shape
  refine rets_start Tryz.func34 rfl Tryz.ntmps34 rfl fun a Q0 hF hret hend => ?_
  simp only [argsFrom, Nat.zero_add, Nat.reduceAdd] at hF
  refine c_sr fun ops => ?_
  refine zm 1 hF rfl fun a hF => ?_
  refine c_n ?_
  replace hF := hF.sel [0]
  simp only [ss, Nat.reduceBEq] at hF
  refine c_sr fun ops => ?_
  refine zm 1 hF rfl fun a hF => ?_
  refine c_n ?_
  replace hF := hF.sel [0, 3]
  simp only [ss, Nat.reduceBEq] at hF
  refine c_seq fun Q1 k1 t1 => ?_
  refine c_sr fun ops => ?_
  refine zm 1 hF rfl fun a hF => ?_
  refine c_n ?_
  replace hF := hF.sel [0, 3, 4]
  simp only [ss, Nat.reduceBEq] at hF
  refine c_block fun Q2 t2 => ?_
  refine c_loop (fun n a w => ∃ i m, n = l.length - i ∧ i ≤ l.length ∧ m ≤ 20000 ∧ 12 * i ≤ m ∧ (m < 4000 → ∀ j (h : j < l.length), j < i → l[j].name.length < 4000 ∧ l[j].data.length < 4000) ∧ Fr 35 [(0, .slice ad l.length cap), (3, .int .i64 (m : Nat)), (4, .int .i64 (i : Nat))] a ∧ Hp w0 w []) ?_ ?_
  ·
   exact ⟨_, 0, 0, rfl, Nat.zero_le _, by omega, by omega, fun _ _ _ h => (Nat.not_lt_zero _ h).elim, hF.keep [0, 3, 4] rfl, hH⟩
  intro n a w hI Q3 k3 t3
  obtain ⟨i, m, hn, hi, hm1, hm2, hall, hF, hH⟩ := hI
  refine c_seq fun Q4 k4 t4 => ?_
  refine c_sg ?_
  refine zm 2 hF rfl fun a hF => ?_
  refine zl hF rfl (r_len_sl hF rfl rfl Tryz.underlying34) fun a hF => ?_
  refine zb hF rfl rfl rfl (b_ltn _ _ _ _) fun a hF => ?_
  refine zm 1 hF rfl fun a hF => ?_
  refine l_ask (d := 9) hF rfl (fun g3_4 => ?_) (fun g3_4 => ?_)
  ·
   have g3_4' := g3_4; try simp only [qq] at g3_4'
   refine zn hF rfl g3_4 fun a hF => ?_
   refine zn hF rfl g3_4 fun a hF => ?_
   refine zl hF rfl (r_pickf hF rfl rfl g3_4 rfl) fun a hF => ?_
   refine c_n ?_
   refine c_no hF rfl rfl ?_
   refine wp_exit (t4.exit (t3.exit (t2.here (?_))))
   refine k1 ?_
   refine c_sr fun ops => ?_
   refine zm 1 hF rfl fun a hF => ?_
   refine zb hF rfl rfl rfl (b_gen _ _ _ 4000) fun a hF => ?_
   refine zm 1 hF rfl fun a hF => ?_
   refine c_n ?_
   replace hF := hF.sel [2]
   simp only [ss, Nat.reduceBEq] at hF
   refine wp_ret (hret (ret1 hF Tryz.results34 rfl ?_))
   refine ⟨⟨_, rfl, fun hb => ?_⟩, hH.below⟩
   have hb' := of_decide_eq_false hb
   have hil : i = l.length := by omega
   refine ⟨⟨by omega, fun r hr => ?_⟩, by omega⟩
   obtain ⟨j, hj, rfl⟩ := List.mem_iff_getElem.1 hr
   have := hall (by omega) j hj (by omega)
   omega
  have g3_4' := g3_4; try simp only [qq] at g3_4'
  refine zy hF rfl g3_4 (r_move hF rfl rfl) fun a hF => ?_
  refine zy hF rfl g3_4 (zr hF rfl rfl (b_ltn _ _ _ 4000)) fun a hF => ?_
  refine zl hF rfl (r_pickt hF rfl rfl g3_4 rfl) fun a hF => ?_
  refine c_n ?_
  refine c_fi hF rfl (fun h12 => ?_) (fun h12 => ?_)
  ·
   try simp only [qq] at h12
   refine wp_exit (t4.exit (t3.exit (t2.here (?_))))
   refine k1 ?_
   refine c_sr fun ops => ?_
   refine zm 1 hF rfl fun a hF => ?_
   refine zb hF rfl rfl rfl (b_gen _ _ _ 4000) fun a hF => ?_
   refine zm 1 hF rfl fun a hF => ?_
   refine c_n ?_
   replace hF := hF.sel [2]
   simp only [ss, Nat.reduceBEq] at hF
   refine wp_ret (hret (ret1 hF Tryz.results34 rfl ?_))
   refine ⟨⟨_, rfl, fun hb => ?_⟩, hH.below⟩
   have hb' := of_decide_eq_false hb
   have hil : i = l.length := by omega
   refine ⟨⟨by omega, fun r hr => ?_⟩, by omega⟩
   obtain ⟨j, hj, rfl⟩ := List.mem_iff_getElem.1 hr
   have := hall (by omega) j hj (by omega)
   omega
  try simp only [qq] at h12
  obtain ⟨b, off, rfl, -, hrec⟩ := hR.rec g3_4'
  refine wp_skip ?_
  refine k4 ?_
  refine c_seq fun Q5 k5 t5 => ?_
  refine c_block fun Q6 t6 => ?_
  refine c_flow [0, 1, 2, 3, 4, 5, 10, 11, 12, 13] [6, 7, 8, 9, 14, 15, 16, 17, 18] [] [] (by kernel_rfl) (by kernel_rfl) fun hB => ?_
  refine ps hF rfl rfl rfl rfl (fun w => r_move hF rfl rfl) fun a hF => ?_
  refine ps hF rfl rfl rfl rfl (fun w => zr hF rfl rfl (b_addn _ _ 12 (by omega))) fun a hF => ?_
  refine ps hF rfl rfl rfl rfl (fun w => r_move hF rfl rfl) fun a hF => ?_
  refine ps hF rfl rfl rfl rfl (fun w => r_move hF rfl rfl) fun a hF => ?_
  refine ps hF rfl rfl rfl rfl (fun w => r_indexaddr hF _ rfl rfl rfl Tryz.underlying34 ti38 (by omega)) fun a hF => ?_
  refine ps hF rfl rfl rfl rfl (fun w => r_fieldaddr hF rfl rfl fd38_0) fun a hF => ?_
  refine ps hF rfl rfl rfl rfl (fun w => r_move hF rfl rfl) fun a hF => ?_
  refine ps hF rfl rfl rfl rfl (fun w => r_move hF rfl rfl) fun a hF => ?_
  refine ps hF rfl rfl rfl rfl (fun w => r_indexaddr hF _ rfl rfl rfl Tryz.underlying34 ti38 (by omega)) fun a hF => ?_
  refine ps hF rfl rfl rfl rfl (fun w => r_fieldaddr hF rfl rfl fd38_4) fun a hF => ?_
  refine fl_start [21, 22, 23, 24, 29, 30, 31, 32, 3] hB (by kernel_rfl) hF ?_
  simp only [wo, hasN, Nat.reduceBEq, cond_true, cond_false] at hF ⊢
  refine fs1 rfl (by
   intro a w Lr hE hC hl
   replace hH := hH.ext hE
   have hF := hC.fr
   exact zl hF rfl (r_load hF rfl rfl fl9 (hH.cell (hrec 0 _ rfl))) fun a' hF' => wpList_nil (fl_end hC hF' (Ext.refl _) rfl)) ?_
  refine fs1 rfl (by
   intro a w Lr hE hC hl
   replace hH := hH.ext hE
   obtain ⟨_, s21, rfl⟩ := hl 21 (by decide) _ rfl
   replace hC := hC.more s21
   have hF := hC.fr
   exact zl hF rfl (r_len_str hF rfl rfl Tryz.underlying9) fun a' hF' => wpList_nil (fl_end hC hF' (Ext.refl _) rfl)) ?_
  refine fs1 rfl (by
   intro a w Lr hE hC hl
   replace hH := hH.ext hE
   obtain ⟨_, s22, rfl⟩ := hl 22 (by decide) _ rfl
   replace hC := hC.more s22
   have hF := hC.fr
   exact zl hF rfl (r_minn hF (n := 4000) rfl rfl rfl) fun a' hF' => wpList_nil (fl_end hC hF' (Ext.refl _) rfl)) ?_
  refine fs1 rfl (by
   intro a w Lr hE hC hl
   replace hH := hH.ext hE
   obtain ⟨_, s23, rfl⟩ := hl 23 (by decide) _ rfl
   replace hC := hC.more s23
   have hF := hC.fr
   exact zl hF rfl (zr hF rfl rfl (b_addn _ _ _ (by omega))) fun a' hF' => wpList_nil (fl_end hC hF' (Ext.refl _) rfl)) ?_
  refine fs1 rfl (by
   intro a w Lr hE hC hl
   replace hH := hH.ext hE
   have hF := hC.fr
   exact zl hF rfl (r_load hF rfl rfl fl9 (hH.cell (hrec 4 _ rfl))) fun a' hF' => wpList_nil (fl_end hC hF' (Ext.refl _) rfl)) ?_
  refine fs1 rfl (by
   intro a w Lr hE hC hl
   replace hH := hH.ext hE
   obtain ⟨_, s29, rfl⟩ := hl 29 (by decide) _ rfl
   replace hC := hC.more s29
   have hF := hC.fr
   exact zl hF rfl (r_len_str hF rfl rfl Tryz.underlying9) fun a' hF' => wpList_nil (fl_end hC hF' (Ext.refl _) rfl)) ?_
  refine fs1 rfl (by
   intro a w Lr hE hC hl
   replace hH := hH.ext hE
   obtain ⟨_, s30, rfl⟩ := hl 30 (by decide) _ rfl
   replace hC := hC.more s30
   have hF := hC.fr
   exact zl hF rfl (r_minn hF (n := 4000) rfl rfl rfl) fun a' hF' => wpList_nil (fl_end hC hF' (Ext.refl _) rfl)) ?_
  refine fs1 rfl (by
   intro a w Lr hE hC hl
   replace hH := hH.ext hE
   obtain ⟨_, s24, rfl⟩ := hl 24 (by decide) _ rfl
   replace hC := hC.more s24
   obtain ⟨_, s31, rfl⟩ := hl 31 (by decide) _ rfl
   replace hC := hC.more s31
   have hF := hC.fr
   exact zl hF rfl (zr hF rfl rfl (b_addn _ _ _ (by omega))) fun a' hF' => wpList_nil (fl_end hC hF' (Ext.refl _) rfl)) ?_
  refine fs1 rfl (by
   intro a w Lr hE hC hl
   replace hH := hH.ext hE
   obtain ⟨_, s32, rfl⟩ := hl 32 (by decide) _ rfl
   replace hC := hC.more s32
   have hF := hC.fr
   exact zl hF rfl (r_assign hF rfl rfl) fun a' hF' => wpList_nil (fl_end hC hF' (Ext.refl _) rfl)) ?_
  intro a w hE hF hall
  replace hH := hH.ext hE
  obtain ⟨_, s21, rfl⟩ := hall 21 _ rfl
  replace hF := hF.more s21
  obtain ⟨_, s22, rfl⟩ := hall 22 _ rfl
  replace hF := hF.more s22
  obtain ⟨_, s23, rfl⟩ := hall 23 _ rfl
  replace hF := hF.more s23
  obtain ⟨_, s24, rfl⟩ := hall 24 _ rfl
  replace hF := hF.more s24
  obtain ⟨_, s29, rfl⟩ := hall 29 _ rfl
  replace hF := hF.more s29
  obtain ⟨_, s30, rfl⟩ := hall 30 _ rfl
  replace hF := hF.more s30
  obtain ⟨_, s31, rfl⟩ := hall 31 _ rfl
  replace hF := hF.more s31
  obtain ⟨_, s32, rfl⟩ := hall 32 _ rfl
  replace hF := hF.more s32
  obtain ⟨_, s3, rfl⟩ := hall 3 _ rfl
  replace hF := hF.more s3
  clear hall
  refine wpList_nil ?_
  refine t6.norm ?_
  refine k5 ?_
  refine c_reg fun ops => ?_
  refine zm 1 hF rfl fun a hF => ?_
  refine zb hF rfl rfl rfl (b_addn _ _ 1 (by omega)) fun a hF => ?_
  refine zm 1 hF rfl fun a hF => ?_
  refine wpList_nil ?_
  refine k3 ?_
  refine ⟨l.length - (i + 1), by omega, i + 1, m + 12 + min 4000 l[i].name.length + min 4000 l[i].data.length, rfl, by omega, by omega, by omega, fun hlt j hj hji => ?_, hF.keep [0, 3, 4] rfl, hH⟩
  rcases Nat.lt_succ_iff_lt_or_eq.1 hji with h | rfl
  · exact hall h12 j hj h
  · omega
theorem large9_spec (l : List Rec) (v : Value) (w0 : World) (hR : RSl w0 5 v l.length (recsV l)) :
    Rets Tryz.prog 34 [v] w0 fun r w' => (∃ b : Bool, r = .bool b ∧ (b = false → RecsB l)) ∧ Ext w0 w' :=
  (large9L_spec l v w0 hR).mono fun _ _ ⟨⟨b, e, h⟩, he⟩ => ⟨⟨b, e, fun hb => (h hb).1⟩, he⟩

theorem strV_set (l : List Bs) (k : Nat) (x : Bs) : (strV l).set k (.string (mk x)) = strV (l.set k x) := by unfold strV; rw [← List.map_set]
theorem sl_set {g n cap : Nat} {cur : Array Value} {l : List Bs} {e : TypeId} (hS : Sl e 1 [(g, .cells cur e (0, 0))] (.slice (some ⟨g, 0, none⟩) n cap) n (strV l)) (k : Nat) (x : Bs) : Sl e 1 [(g, .cells (cur.setIfInBounds k (.string (mk x))) e (0, 0))] (.slice (some ⟨g, 0, none⟩) n cap) n (strV (l.set k x)) := by
  obtain ⟨h1, ⟨h, _⟩ | ⟨g', cap', cur', h2, h3, h4, h5, h6, h7⟩⟩ := hS
  · cases h
  · cases h2; cases h3
    rw [← strV_set]
    exact Sl.set k (.string (mk x)) h1 h4 h5 h6 h7
theorem wr_row {es : List Ent} {k m : Nat} {cur : Array Value} (x : Ent) (hct : cur.toList.take (m * 5) = entV es) (hm : m = es.length) (hk : k < es.length) (hs : m * 5 ≤ cur.size) : (wr cur (k * 5) (setV x.1 x.2.1)).toList.take (m * 5) = entV (es.set k x) := by
  subst hm
  have h5 : (setV x.1 x.2.1).length = 5 := rfl
  rw [wr_toList, h5]
  have e1 : cur.toList.take (k * 5) = entV (es.take k) := by
    rw [← (entV_take es k (by omega)).1, ← hct, List.take_take, Nat.min_eq_left (by omega)]
  have e2 : (cur.toList.drop (k * 5 + 5)).take ((es.length - (k + 1)) * 5) = entV (es.drop (k + 1)) := by
    rw [← (entV_take es (k + 1) (by omega)).2, ← hct, List.drop_take, show (k + 1) * 5 = k * 5 + 5 by omega]
    congr 1; omega
  have hl : (entV (es.take k) ++ setV x.1 x.2.1).length = k * 5 + 5 := by rw [List.length_append, entV_length, h5, List.length_take, Nat.min_eq_left (by omega)]
  have : es.length * 5 = (k * 5 + 5) + (es.length - (k + 1)) * 5 := by omega
  rw [e1, this, ← hl, List.take_length_add_append, hl, e2, List.set_eq_take_append_cons_drop, if_pos hk, entV_append, entV_cons, List.append_assoc]

theorem pm_j {x y : Nat × Obj} {es : List Ent} {i : Nat} {H : List (Nat × Obj)} (h : i < es.length) (hB : es[i].2.2 = [x]) : (x :: y :: (entB (es.eraseIdx i) ++ H)).Perm (y :: (entB es ++ H)) := by
  have := entB_pick h
  rw [hB] at this
  exact (List.Perm.swap _ _ _).trans (.cons _ (List.Perm.append_right H this.symm))
theorem pm_k {x y : Nat × Obj} {es : List Ent} {i : Nat} {e : Ent} {H : List (Nat × Obj)} (h : i < es.length) (hB : e.2.2 = [x]) : (y :: (entB (es.set i e) ++ H)).Perm (x :: y :: (entB (es.eraseIdx i) ++ H)) := by
  have := entB_set h e
  rw [hB] at this
  exact (List.Perm.cons y (List.Perm.append_right H this)).trans (List.Perm.swap _ _ _)
theorem list_set_self {α : Type} {l : List α} {i : Nat} {x : α} (h : l[i]? = some x) : l.set i x = l := by
  obtain ⟨hi, rfl⟩ := List.getElem?_eq_some_iff.1 h
  exact List.set_getElem_self hi
end Go.Proofs.YtcelgjabccgnmaaGreatDoor
namespace Go.Proofs.YtcelgjabccgnmaaGreatDoor
open Go.RowKit
set_option linter.unusedVariables false
set_option linter.unusedSimpArgs false
set_option maxHeartbeats 1000000

theorem SetsB.sub {l m : List RSet} (h : SetsB l) (hl : m.length ≤ 8) (hm : ∀ s ∈ m, s ∈ l) : SetsB m :=
  ⟨by omega, fun s hs => h.name s (hm s hs), fun s hs => h.data s (hm s hs), fun s hs => h.each s (hm s hs)⟩
theorem chain_bounds {nm : Bs} {kind cls : Nat} {l : List RSet} (h : SetsB l) : SetsB (followC nm kind cls l).2.1 ∧ SetsB (endsOf (followC nm kind cls l) kind cls l) := by
  have h1 := followC_mem nm kind cls l
  have h2 := endsOf_mem (followC nm kind cls l) kind cls l
  exact ⟨h.sub h1.1 h1.2, h.sub (by omega) h2.2⟩

end Go.Proofs.YtcelgjabccgnmaaGreatDoor
