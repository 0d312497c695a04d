/-
  The walks of hustingslaw08.LongSets, RrsetFinds and RrsetGroups. Nothing is claimed here.
-/
import Derived.Test.YtcelgjabccgnmaaGreatDoorLaw8b
import Derived.Test.YtcelgjabccgnmaaGreatDoorOpen
import Derived.Test.YtcelgjabccgnmaaGreatDoorSame8
import Derived.Test.YtcelgjabccgnmaaGreatDoorChainL
namespace Go.Proofs.YtcelgjabccgnmaaGreatDoor
open Go.RowKit
set_option linter.unusedVariables false
set_option linter.unusedSimpArgs false
set_option maxHeartbeats 1000000

theorem SetsR.shapeF {w : World} {v : Value} {l : List RSet} (h : SetsR w v l) : ∃ ad cap, v = .slice ad l.length cap := by
  obtain ⟨_, _, h, _⟩ := h; exact h.shape
theorem sets_one {w : World} {v da : Value} {s : RSet} (ha : RSl w 1 da s.data.length (strV s.data)) (h : RSl w 5 v 1 (setV s da)) : SetsR w v [s] :=
  ⟨[da], rfl, h, fun i hi => by
    match i, hi with
    | 0, _ => exact ha⟩
theorem sets_two {w : World} {v da db : Value} {s t : RSet} (ha : RSl w 1 da s.data.length (strV s.data)) (hb : RSl w 1 db t.data.length (strV t.data)) (h : RSl w 5 v 2 (setV s da ++ setV t db)) : SetsR w v [s, t] :=
  ⟨[da, db], rfl, h, fun i hi => by
    match i, hi with
    | 0, _ => exact ha
    | 1, _ => exact hb⟩
def SetS (s : RSet) : Prop := s.name.length < 6000 ∧ s.data.length < 1000 ∧ ∀ j (h : j < s.data.length), (s.data[j]).length < 6000
theorem longSets_spec (l : List RSet) (v : Value) (w0 : World) (hR : SetsR w0 v l) (hlb : ∀ s ∈ l, SetL s) :
    Rets Tryz.prog 16 [v] w0 fun r w' => (∃ b : Bool, r = .bool b ∧ (b = false → SetsB l ∧ l.length < 1000)) ∧ Ext w0 w' := by
  have hH := Hp.refl w0
  obtain ⟨ad, cap, rfl⟩ := hR.shapeF
  refine rets_start Tryz.func16 rfl Tryz.ntmps16 rfl fun a Q0 hF hret hend => ?_
  simp only [argsFrom, Nat.zero_add, Nat.reduceAdd] at hF
  refine c_sr fun ops => ?_
  refine zm 1 hF rfl fun a hF => ?_
  refine c_n ?_
  replace hF := hF.sel [0]
  simp only [ss, Nat.reduceBEq] at hF
  refine c_sr fun ops => ?_
  refine zm 1 hF rfl fun a hF => ?_
  refine c_n ?_
  replace hF := hF.sel [0, 3]
  simp only [ss, Nat.reduceBEq] at hF
  refine c_seq fun Q1 k1 t1 => ?_
  refine c_sr fun ops => ?_
  refine zm 1 hF rfl fun a hF => ?_
  refine c_n ?_
  replace hF := hF.sel [0, 3, 4]
  simp only [ss, Nat.reduceBEq] at hF
  refine c_block fun Q2 t2 => ?_
  refine c_loop (fun n a w => ∃ i m, n = l.length - i ∧ i ≤ l.length ∧ m ≤ 20000 ∧ 30 * i ≤ m ∧ (m < 6000 → ∀ j (h : j < l.length), j < i → SetS l[j]) ∧ Fr 55 [(0, .slice ad l.length cap), (3, .int .i64 (m : Nat)), (4, .int .i64 (i : Nat))] a ∧ Hp w0 w []) ?_ ?_
  ·
   exact ⟨_, 0, 0, rfl, Nat.zero_le _, by omega, by omega, fun _ _ _ h => (Nat.not_lt_zero _ h).elim, hF.keep [0, 3, 4] rfl, hH⟩
  clear hH hF
  intro n a w hI Q3 k3 t3
  obtain ⟨i, m, hn, hi, hm1, hm2, hall, hF, hH⟩ := hI
  refine c_seq fun Q4 k4 t4 => ?_
  refine c_sg ?_
  refine zm 2 hF rfl fun a hF => ?_
  refine zl hF rfl (r_len_sl hF rfl rfl Tryz.underlying22) fun a hF => ?_
  refine zb hF rfl rfl rfl (b_ltn _ _ _ _) fun a hF => ?_
  refine zm 1 hF rfl fun a hF => ?_
  refine l_ask (d := 10) hF rfl (fun g3_4 => ?_) (fun g3_4 => ?_)
  ·
   have g3_4' := g3_4; try simp only [qq] at g3_4'
   refine zn hF rfl g3_4 fun a hF => ?_
   refine zn hF rfl g3_4 fun a hF => ?_
   refine zl hF rfl (r_pickf hF rfl rfl g3_4 rfl) fun a hF => ?_
   refine c_n ?_
   refine c_no hF rfl rfl ?_
   refine wp_exit (t4.exit (t3.exit (t2.here (?_))))
   refine k1 ?_
   refine c_sr fun ops => ?_
   refine zm 1 hF rfl fun a hF => ?_
   refine zb hF rfl rfl rfl (b_gen _ _ _ 6000) fun a hF => ?_
   refine zm 1 hF rfl fun a hF => ?_
   refine c_n ?_
   replace hF := hF.sel [2]
   simp only [ss, Nat.reduceBEq] at hF
   refine wp_ret (hret (ret1 hF Tryz.results16 rfl ?_))
   refine ⟨⟨_, rfl, fun hb => ?_⟩, hH.below⟩
   have hb' := of_decide_eq_false hb
   have hil : i = l.length := by omega
   have hx : ∀ s ∈ l, SetS s := fun s hs => by
     obtain ⟨j, hj, rfl⟩ := List.mem_iff_getElem.1 hs
     exact hall (by omega) j hj (by omega)
   refine ⟨⟨by omega, fun s hs => by have := (hx s hs).1; omega, fun s hs => by have := (hx s hs).2.1; omega, fun s hs d hd => ?_⟩, by omega⟩
   obtain ⟨j, hj, rfl⟩ := List.mem_iff_getElem.1 hd
   have := (hx s hs).2.2 j hj
   omega
  have g3_4' := g3_4; try simp only [qq] at g3_4'
  refine zy hF rfl g3_4 (r_move hF rfl rfl) fun a hF => ?_
  refine zy hF rfl g3_4 (zr hF rfl rfl (b_ltn _ _ _ 6000)) fun a hF => ?_
  refine zl hF rfl (r_pickt hF rfl rfl g3_4 rfl) fun a hF => ?_
  refine c_n ?_
  refine c_fi hF rfl (fun h13 => ?_) (fun h13 => ?_)
  ·
   try simp only [qq] at h13
   refine wp_exit (t4.exit (t3.exit (t2.here (?_))))
   refine k1 ?_
   refine c_sr fun ops => ?_
   refine zm 1 hF rfl fun a hF => ?_
   refine zb hF rfl rfl rfl (b_gen _ _ _ 6000) fun a hF => ?_
   refine zm 1 hF rfl fun a hF => ?_
   refine c_n ?_
   replace hF := hF.sel [2]
   simp only [ss, Nat.reduceBEq] at hF
   refine wp_ret (hret (ret1 hF Tryz.results16 rfl ?_))
   refine ⟨⟨_, rfl, fun hb => ?_⟩, hH.below⟩
   have hb' := of_decide_eq_false hb
   have hil : i = l.length := by omega
   have hx : ∀ s ∈ l, SetS s := fun s hs => by
     obtain ⟨j, hj, rfl⟩ := List.mem_iff_getElem.1 hs
     exact hall (by omega) j hj (by omega)
   refine ⟨⟨by omega, fun s hs => by have := (hx s hs).1; omega, fun s hs => by have := (hx s hs).2.1; omega, fun s hs d hd => ?_⟩, by omega⟩
   obtain ⟨j, hj, rfl⟩ := List.mem_iff_getElem.1 hd
   have := (hx s hs).2.2 j hj
   omega
  try simp only [qq] at h13
  obtain ⟨b, off, dv, rfl, hset, hdv⟩ := hR.at g3_4'
  have hsl := hlb _ (List.getElem_mem g3_4')
  have hsn := hsl.name
  obtain ⟨dad, dcp, rfl⟩ := hdv.shape
  refine wp_skip ?_
  refine k4 ?_
  refine c_seq fun Q5 k5 t5 => ?_
  refine c_block fun Q6 t6 => ?_
  refine c_sr fun ops => ?_
  refine zm 1 hF rfl fun a hF => ?_
  refine zb hF rfl rfl rfl (b_addn _ _ 30 (by omega)) fun a hF => ?_
  refine zm 2 hF rfl fun a hF => ?_
  refine zl hF rfl (r_indexaddr hF _ rfl rfl rfl Tryz.underlying22 ti27 (by omega)) fun a hF => ?_
  refine zl hF rfl (r_fieldaddr hF rfl rfl fd27_0) fun a hF => ?_
  refine zl hF rfl (r_load hF rfl rfl fl9 (hH.cell (hset 0 _ rfl))) fun a hF => ?_
  refine zl hF rfl (r_len_str hF rfl rfl Tryz.underlying9) fun a hF => ?_
  refine zl hF rfl (r_minn hF (n := 6000) rfl rfl rfl) fun a hF => ?_
  refine zb hF rfl rfl rfl (b_addn _ _ _ (by omega)) fun a hF => ?_
  refine zm 1 hF rfl fun a hF => ?_
  refine c_n ?_
  refine c_sr fun ops => ?_
  refine zm 1 hF rfl fun a hF => ?_
  refine c_n ?_
  refine c_block fun Q7 t7 => ?_
  refine c_loop (fun n a w => ∃ k m2, n = l[i].data.length - k ∧ k ≤ l[i].data.length ∧ m2 ≤ 20000 ∧ m + 30 + min 6000 l[i].name.length + 10 * k ≤ m2 ∧ (m2 < 6000 → ∀ j (h : j < l[i].data.length), j < k → (l[i].data[j]).length < 6000) ∧ Fr 55 [(0, .slice (some ⟨b, off, none⟩) l.length cap), (3, .int .i64 (m2 : Nat)), (4, .int .i64 (i : Nat)), (5, .int .i64 (k : Nat))] a ∧ Hp w0 w []) ?_ ?_
  ·
   exact ⟨_, 0, m + 30 + min 6000 l[i].name.length, rfl, Nat.zero_le _, by omega, by omega, fun _ _ _ h => (Nat.not_lt_zero _ h).elim, hF.keep [0, 3, 4, 5] rfl, hH⟩
  clear hH hF
  intro n a w hI Q8 k8 t8
  obtain ⟨k, m2, hn2, hk, hm3, hm4, hall2, hF, hH⟩ := hI
  refine c_seq fun Q9 k9 t9 => ?_
  refine c_sg ?_
  refine zm 3 hF rfl fun a hF => ?_
  refine zl hF rfl (r_indexaddr hF _ rfl rfl rfl Tryz.underlying22 ti27 (by omega)) fun a hF => ?_
  refine zl hF rfl (r_fieldaddr hF rfl rfl fd27_4) fun a hF => ?_
  refine zl hF rfl (r_load hF rfl rfl fl25 (hH.cell (hset 4 _ rfl))) fun a hF => ?_
  refine zl hF rfl (r_len_sl hF rfl rfl Tryz.underlying25) fun a hF => ?_
  refine zb hF rfl rfl rfl (b_ltn _ _ _ _) fun a hF => ?_
  refine zm 1 hF rfl fun a hF => ?_
  refine l_ask (d := 34) hF rfl (fun g7_8 => ?_) (fun g7_8 => ?_)
  ·
   have g7_8' := g7_8; try simp only [qq] at g7_8'
   refine zn hF rfl g7_8 fun a hF => ?_
   refine zn hF rfl g7_8 fun a hF => ?_
   refine zl hF rfl (r_pickf hF rfl rfl g7_8 rfl) fun a hF => ?_
   refine c_n ?_
   refine c_no hF rfl rfl ?_
   refine wp_exit (t9.exit (t8.exit (t7.here (?_))))
   refine t6.norm ?_
   refine k5 ?_
   refine c_reg fun ops => ?_
   refine zm 1 hF rfl fun a hF => ?_
   refine zb hF rfl rfl rfl (b_addn _ _ 1 (by omega)) fun a hF => ?_
   refine zm 1 hF rfl fun a hF => ?_
   refine wpList_nil ?_
   refine k3 ?_
   refine ⟨l.length - (i + 1), by omega, i + 1, m2, rfl, by omega, by omega, by omega, fun hlt j hj hji => ?_, hF.keep [0, 3, 4] rfl, hH⟩
   have hkl : k = l[i].data.length := by omega
   rcases Nat.lt_succ_iff_lt_or_eq.1 hji with h | rfl
   · exact hall h13 j hj h
   · exact ⟨by omega, by omega, fun j hj => hall2 hlt j hj (by omega)⟩
  have g7_8' := g7_8; try simp only [qq] at g7_8'
  refine zy hF rfl g7_8 (r_move hF rfl rfl) fun a hF => ?_
  refine zy hF rfl g7_8 (zr hF rfl rfl (b_ltn _ _ _ 6000)) fun a hF => ?_
  refine zl hF rfl (r_pickt hF rfl rfl g7_8 rfl) fun a hF => ?_
  refine c_n ?_
  refine c_fi hF rfl (fun h37 => ?_) (fun h37 => ?_)
  ·
   try simp only [qq] at h37
   refine wp_exit (t9.exit (t8.exit (t7.here (?_))))
   refine t6.norm ?_
   refine k5 ?_
   refine c_reg fun ops => ?_
   refine zm 1 hF rfl fun a hF => ?_
   refine zb hF rfl rfl rfl (b_addn _ _ 1 (by omega)) fun a hF => ?_
   refine zm 1 hF rfl fun a hF => ?_
   refine wpList_nil ?_
   refine k3 ?_
   refine ⟨l.length - (i + 1), by omega, i + 1, m2, rfl, by omega, by omega, by omega, fun hlt j hj hji => ?_, hF.keep [0, 3, 4] rfl, hH⟩
   have hkl : k = l[i].data.length := by omega
   rcases Nat.lt_succ_iff_lt_or_eq.1 hji with h | rfl
   · exact hall h13 j hj h
   · exact ⟨by omega, by omega, fun j hj => hall2 hlt j hj (by omega)⟩
  try simp only [qq] at h37
  obtain ⟨bd, od, rfl, hcd⟩ := hdv.at g7_8'
  have hgd : l[i].data.getD k [] = l[i].data[k] := by simp [List.getD_eq_getElem?_getD, g7_8']
  rw [hgd] at hcd
  have hdl := hsl.data _ (List.getElem_mem g7_8')
  refine wp_skip ?_
  refine k9 ?_
  refine c_seq fun Q10 k10 t10 => ?_
  refine c_block fun Q11 t11 => ?_
  refine c_reg fun ops => ?_
  refine zm 1 hF rfl fun a hF => ?_
  refine zb hF rfl rfl rfl (b_addn _ _ 10 (by omega)) fun a hF => ?_
  refine zm 2 hF rfl fun a hF => ?_
  refine zl hF rfl (r_indexaddr hF _ rfl rfl rfl Tryz.underlying22 ti27 (by omega)) fun a hF => ?_
  refine zl hF rfl (r_fieldaddr hF rfl rfl fd27_4) fun a hF => ?_
  refine zl hF rfl (r_load hF rfl rfl fl25 (hH.cell (hset 4 _ rfl))) fun a hF => ?_
  refine zm 1 hF rfl fun a hF => ?_
  refine zl hF rfl (r_ix1 hF _ rfl rfl rfl Tryz.underlying25 ti9 (by omega)) fun a hF => ?_
  refine zl hF rfl (r_load hF rfl rfl fl9 (hH.cell hcd)) fun a hF => ?_
  refine zl hF rfl (r_len_str hF rfl rfl Tryz.underlying9) fun a hF => ?_
  refine zl hF rfl (r_minn hF (n := 6000) rfl rfl rfl) fun a hF => ?_
  refine zb hF rfl rfl rfl (b_addn _ _ _ (by omega)) fun a hF => ?_
  refine zm 1 hF rfl fun a hF => ?_
  refine wpList_nil ?_
  refine t11.norm ?_
  refine k10 ?_
  refine c_reg fun ops => ?_
  refine zm 1 hF rfl fun a hF => ?_
  refine zb hF rfl rfl rfl (b_addn _ _ 1 (by omega)) fun a hF => ?_
  refine zm 1 hF rfl fun a hF => ?_
  refine wpList_nil ?_
  refine k8 ?_
  refine ⟨l[i].data.length - (k + 1), by omega, k + 1, m2 + 10 + min 6000 (l[i].data[k]).length, rfl, by omega, by omega, by omega, fun hlt j hj hjk => ?_, hF.keep [0, 3, 4, 5] rfl, hH⟩
  rcases Nat.lt_succ_iff_lt_or_eq.1 hjk with h | rfl
  · exact hall2 h37 j hj h
  · omega
theorem rrsetFinds_spec (l : List RSet) (v : Value) (nm : Bs) (kind cls : Nat) (x y : RSet) (da db : Value) (w0 : World) (hR : SetsR w0 v l) (hlb : ∀ s ∈ l, SetL s) (hnl : nm.length ≤ 140737488351232)
    (ha : RSl w0 1 da x.data.length (strV x.data)) (hlx : SetL x) (hb : RSl w0 1 db y.data.length (strV y.data)) (hly : SetL y) (hG : GW w0) :
    Rets Tryz.prog 3 [v, .string (mk nm), .int .u16 kind, .int .u16 cls, .agg (setV x da).toArray, .agg (setV y db).toArray] w0 fun r w' => r = .bool true ∧ Ext w0 w' := by
  have hH := Hp.refl w0
  obtain ⟨aad, acp, rfl⟩ := ha.shape
  obtain ⟨bad, bcp, rfl⟩ := hb.shape
  refine rets_start Tryz.func3 rfl Tryz.ntmps3 rfl fun a Q0 hF hret hend => ?_
  simp only [argsFrom, Nat.zero_add, Nat.reduceAdd] at hF
  refine c_sr fun ops => ?_
  refine ls_box hF hH rfl rfl rfl rfl rfl ?_
  intro a w g0_0 hH hE hF
  refine ls_box hF hH rfl rfl rfl rfl rfl ?_
  intro a w g0_1 hH hE hF
  refine zm 1 hF rfl fun a hF => ?_
  refine c_n ?_
  replace hF := hF.sel [0, 1, 2, 3, 10, 11]
  simp only [ss, Nat.reduceBEq] at hF
  refine c_seq fun Q1 k1 t1 => ?_
  simp only [cells_agg] at hH
  refine c_sg ?_
  refine zm 1 hF rfl fun a hF => ?_
  refine zc hF rfl rfl fn16 (longSets_spec l _ _ (hR.ext hH.below) hlb) ?_
  rintro _ w ⟨⟨b, rfl, hlg⟩, hE⟩ a hF
  replace hH := hH.ext hE
  refine zm 1 hF rfl fun a hF => ?_
  refine ls_ask (d := 19) hF rfl (fun g1_2 => ?_) (fun g1_2 => ?_)
  ·
   have g1_2' := g1_2; try simp only [qq] at g1_2'
   refine zn hF rfl g1_2 fun a hF => ?_
   refine zn hF rfl g1_2 fun a hF => ?_
   refine zn hF rfl g1_2 fun a hF => ?_
   refine zn hF rfl g1_2 fun a hF => ?_
   refine zl hF rfl (r_pickt hF rfl rfl g1_2 rfl) fun a hF => ?_
   refine zm 1 hF rfl fun a hF => ?_
   refine zn hF rfl rfl fun a hF => ?_
   refine zn hF rfl rfl fun a hF => ?_
   refine zn hF rfl rfl fun a hF => ?_
   refine zl hF rfl (r_pickt hF rfl rfl rfl rfl) fun a hF => ?_
   refine c_n ?_
   replace hF := hF.sel [0, 1, 2, 3, 10, 11, 29]
   simp only [ss, Nat.reduceBEq] at hF
   refine c_yes hF rfl rfl ?_
   refine c_sr fun ops => ?_
   refine zc hF rfl rfl fn17 (awake8_spec _ (hG.ext hH.below)) ?_
   rintro _ w ⟨rfl, hE⟩ a hF
   replace hH := hH.ext hE
   refine zm 1 hF rfl fun a hF => ?_
   refine c_n ?_
   replace hF := hF.sel [12]
   simp only [ss, Nat.reduceBEq] at hF
   refine wp_ret (t1.ret (hret (ret1 hF Tryz.results3 rfl ?_)))
   exact ⟨rfl, hH.below⟩
  have g1_2' := g1_2; try simp only [qq] at g1_2'
  refine zy hF rfl g1_2 (r_loadagg hF rfl rfl Tryz.underlying27 ti27 rfl (own_agg (i := 1) hH rfl)) fun a hF => ?_
  refine zy hF rfl g1_2 (r_loadagg hF rfl rfl Tryz.underlying27 ti27 rfl (own_agg (i := 0) hH rfl)) fun a hF => ?_
  refine g_on hF rfl rfl rfl g1_2 ?_
  refine ls_buildN (us := [_, _]) hF hH rfl rfl rfl rfl rfl rfl Tryz.underlying22 ti27 (by intro u hu; simp only [List.mem_cons, List.not_mem_nil, or_false] at hu; rcases hu with rfl | rfl <;> rfl) (by decide) ?_
  intro a w g1_5 hH hE hF
  have hTw := sets_two (ha.ext hH.below) (hb.ext hH.below) (rsl_lit (n := 2) (size := 5) hH rfl (by decide))
  refine zyc hF rfl g1_2 rfl fn16 (longSets_spec [x, y] _ _ hTw (by intro s hs; simp only [List.mem_cons, List.not_mem_nil, or_false] at hs; rcases hs with rfl | rfl; exact hlx; exact hly)) ?_
  rintro _ w ⟨⟨b2, rfl, hlg2⟩, hE⟩ a hF
  replace hH := hH.ext hE
  refine zl hF rfl (r_pickf hF rfl rfl g1_2 rfl) fun a hF => ?_
  refine zm 1 hF rfl fun a hF => ?_
  refine ls_ask (d := 25) hF rfl (fun g1_8 => ?_) (fun g1_8 => ?_)
  ·
   have g1_8' := g1_8; try simp only [qq] at g1_8'
   refine zn hF rfl g1_8 fun a hF => ?_
   refine zn hF rfl g1_8 fun a hF => ?_
   refine zn hF rfl g1_8 fun a hF => ?_
   refine zl hF rfl (r_pickt hF rfl rfl g1_8 rfl) fun a hF => ?_
   refine c_n ?_
   replace hF := hF.sel [0, 1, 2, 3, 10, 11, 29]
   simp only [ss, Nat.reduceBEq] at hF
   refine c_yes hF rfl rfl ?_
   refine c_sr fun ops => ?_
   refine zc hF rfl rfl fn17 (awake8_spec _ (hG.ext hH.below)) ?_
   rintro _ w ⟨rfl, hE⟩ a hF
   replace hH := hH.ext hE
   refine zm 1 hF rfl fun a hF => ?_
   refine c_n ?_
   replace hF := hF.sel [12]
   simp only [ss, Nat.reduceBEq] at hF
   refine wp_ret (t1.ret (hret (ret1 hF Tryz.results3 rfl ?_)))
   exact ⟨rfl, hH.below⟩
  have g1_8' := g1_8; try simp only [qq] at g1_8'
  refine zy hF rfl g1_8 (r_move hF rfl rfl) fun a hF => ?_
  refine zy hF rfl g1_8 (r_len_str hF rfl rfl Tryz.underlying9) fun a hF => ?_
  refine zy hF rfl g1_8 (zr hF rfl rfl (b_gtn _ _ _ 3000)) fun a hF => ?_
  refine zl hF rfl (r_pickf hF rfl rfl g1_8 rfl) fun a hF => ?_
  refine c_n ?_
  replace hF := hF.sel [0, 1, 2, 3, 10, 11, 29]
  simp only [ss, Nat.reduceBEq] at hF
  refine c_if hF rfl (fun h29 => ?_) (fun h29 => ?_)
  ·
   try simp only [qq] at h29
   refine c_sr fun ops => ?_
   refine zc hF rfl rfl fn17 (awake8_spec _ (hG.ext hH.below)) ?_
   rintro _ w ⟨rfl, hE⟩ a hF
   replace hH := hH.ext hE
   refine zm 1 hF rfl fun a hF => ?_
   refine c_n ?_
   replace hF := hF.sel [12]
   simp only [ss, Nat.reduceBEq] at hF
   refine wp_ret (t1.ret (hret (ret1 hF Tryz.results3 rfl ?_)))
   exact ⟨rfl, hH.below⟩
  try simp only [qq] at h29
  obtain ⟨hsb, -⟩ := hlg g1_2'
  obtain ⟨hsb2, -⟩ := hlg2 g1_8'
  have hxd := hsb2.data x (List.mem_cons_self ..)
  have hyd := hsb2.data y (List.mem_cons_of_mem _ (List.mem_cons_self ..))
  have hx3 := own_agg (i := 2) hH rfl
  have hy3 := own_agg (i := 1) hH rfl
  have hH3 := hH.below
  obtain ⟨w3, hw3⟩ : ∃ w3, w3 = w := ⟨w, rfl⟩
  rw [← hw3] at hx3 hy3 hH3
  replace hH : Hp w3 w [] := by rw [hw3]; exact Hp.refl _
  clear hw3
  have hSd := findS_all (n := nm) (kind := kind) (cls := cls) hsb.data (by decide)
  refine wp_skip ?_
  refine k1 ?_
  refine c_sr fun ops => ?_
  refine zm 4 hF rfl fun a hF => ?_
  refine zc hF rfl rfl fn18 (find_spec l _ nm kind cls _ (hR.ext (hH3.trans hH.below)) hsb.len (by omega) hsb.name hsb.data) ?_
  rintro _ w ⟨dv, B, rfl, hB, hS⟩ a hF
  replace hH := hH.join hB
  refine zm 3 hF rfl fun a hF => ?_
  refine ls_alloc hF hH rfl rfl rfl rfl zv27 ?_
  intro a w g3_8 hH hE hF
  refine ls_storeagg 0 hF hH rfl rfl rfl rfl rfl ti27 rfl (rfl) (rfl) (by have := hS.shape; obtain ⟨_, _, rfl⟩ := this; simp [setV, cells_agg, Value.oneCell']) ?_
  intro w hH
  simp only [List.set_cons_zero] at hH
  refine zm 1 hF rfl fun a hF => ?_
  refine c_n ?_
  replace hF := hF.sel [0, 1, 2, 3, 10, 11, 13, 14]
  simp only [ss, Nat.reduceBEq] at hF
  refine c_sr fun ops => ?_
  refine zm 4 hF rfl fun a hF => ?_
  refine zc hF rfl rfl fn19 (find8_spec l _ nm kind cls _ hR (hH3.trans hH.below) hsb.len (by omega) hsb.name) ?_
  rintro _ w ⟨dv2, rfl, hE, hdv2⟩ a hF
  replace hH := hH.ext hE
  refine zm 3 hF rfl fun a hF => ?_
  refine ls_alloc hF hH rfl rfl rfl rfl zv27 ?_
  intro a w g4_8 hH hE hF
  refine ls_storeagg 0 hF hH rfl rfl rfl rfl rfl ti27 rfl (rfl) (rfl) (by have := hdv2.shape; obtain ⟨_, _, rfl⟩ := this; simp [setV, cells_agg, Value.oneCell']) ?_
  intro w hH
  simp only [List.set_cons_zero] at hH
  refine zm 1 hF rfl fun a hF => ?_
  refine c_n ?_
  replace hF := hF.sel [10, 11, 13, 14, 15, 16]
  simp only [ss, Nat.reduceBEq] at hF
  refine c_seq fun Q2 k2 t2 => ?_
  refine q_reg (by kernel_rfl) (by kernel_rfl) ?_
  refine qs hF rfl rfl rfl (fun w hw => r_move hF rfl rfl) fun a hF => ?_
  refine qs hF rfl rfl rfl (fun w hw => r_move hF rfl rfl) fun a hF => ?_
  refine qs hF rfl rfl rfl (fun w hw => zr hF rfl rfl (b_beq _ _ _ Tryz.underlying4)) fun a hF => ?_
  refine qs hF rfl rfl rfl (fun w hw => r_move hF rfl rfl) fun a hF => ?_
  refine q_ask (d := 50) hF rfl (fun g5_3 => ?_) (fun g5_3 => ?_)
  ·
   have g5_3' := g5_3; try simp only [qq] at g5_3'
   refine qsy hF rfl rfl rfl g5_3 rfl rfl (fun w hw => r_loadagg hF rfl rfl Tryz.underlying27 ti27 rfl (own_agg (i := 1) (hH.ext hw) rfl)) fun a hF => ?_
   refine qsy hF rfl rfl rfl g5_3 rfl rfl (fun w hw => r_loadagg hF rfl rfl Tryz.underlying27 ti27 rfl (own_agg (i := 0) (hH.ext hw) rfl)) fun a hF => ?_
   refine qsy_call hF rfl rfl rfl g5_3 rfl rfl rfl rfl fn20 (fun w hw => same8_spec _ _ dv dv2 _ (hS.rsl (hH.ext hw) (fun p hp => List.mem_cons_of_mem _ (List.mem_cons_of_mem _ (List.mem_append_left _ hp)))) (hdv2.ext (hH3.trans (hH.below.trans hw))) hSd hSd) fun a hF => ?_
   refine qs hF rfl rfl rfl (fun w hw => r_pickt hF rfl rfl g5_3 rfl) fun a hF => ?_
   refine qs hF rfl rfl rfl (fun w hw => r_move hF rfl rfl) fun a hF => ?_
   refine q_ask (d := 55) hF rfl (fun g5_8 => ?_) (fun g5_8 => ?_)
   ·
    have g5_8' := g5_8; try simp only [qq] at g5_8'
    refine qsy hF rfl rfl rfl g5_8 rfl rfl (fun w hw => r_loadagg hF rfl rfl Tryz.underlying27 ti27 rfl (fun j u hu => (hH.ext hw).cell (hx3 j u hu))) fun a hF => ?_
    refine qsy hF rfl rfl rfl g5_8 rfl rfl (fun w hw => r_loadagg hF rfl rfl Tryz.underlying27 ti27 rfl (fun j u hu => (hH.ext hw).cell (hy3 j u hu))) fun a hF => ?_
    refine qsy_call hF rfl rfl rfl g5_8 rfl rfl rfl rfl fn21 (fun w hw => same_set_spec x y _ _ _ (ha.ext (hH3.trans (hH.below.trans hw))) (hb.ext (hH3.trans (hH.below.trans hw))) hxd hyd) fun a hF => ?_
    refine qsy hF rfl rfl rfl g5_8 rfl rfl (fun w hw => r_loadagg hF rfl rfl Tryz.underlying27 ti27 rfl (fun j u hu => (hH.ext hw).cell (hx3 j u hu))) fun a hF => ?_
    refine qsy hF rfl rfl rfl g5_8 rfl rfl (fun w hw => r_loadagg hF rfl rfl Tryz.underlying27 ti27 rfl (fun j u hu => (hH.ext hw).cell (hy3 j u hu))) fun a hF => ?_
    refine qsy_call hF rfl rfl rfl g5_8 rfl rfl rfl rfl fn20 (fun w hw => same8_spec x y _ _ _ (ha.ext (hH3.trans (hH.below.trans hw))) (hb.ext (hH3.trans (hH.below.trans hw))) hxd hyd) fun a hF => ?_
    refine qsy hF rfl rfl rfl g5_8 rfl rfl (fun w hw => zr hF rfl rfl (b_beq _ _ _ Tryz.underlying4)) fun a hF => ?_
    refine qs hF rfl rfl rfl (fun w hw => r_pickt hF rfl rfl g5_8 rfl) fun a hF => ?_
    refine qs hF rfl rfl rfl (fun w hw => r_move hF rfl rfl) fun a hF => ?_
    refine q_ask (d := 64) hF rfl (fun g5_17 => ?_) (fun g5_17 => ?_)
    ·
     have g5_17' := g5_17; try simp only [qq] at g5_17'
     refine qsy hF rfl rfl rfl g5_17 rfl rfl (fun w hw => r_loadagg hF rfl rfl Tryz.underlying27 ti27 rfl (fun j u hu => (hH.ext hw).cell (hx3 j u hu))) fun a hF => ?_
     refine qsy hF rfl rfl rfl g5_17 rfl rfl (fun w hw => r_loadagg hF rfl rfl Tryz.underlying27 ti27 rfl (fun j u hu => (hH.ext hw).cell (hx3 j u hu))) fun a hF => ?_
     refine qsy_call hF rfl rfl rfl g5_17 rfl rfl rfl rfl fn21 (fun w hw => same_set_spec x x _ _ _ (ha.ext (hH3.trans (hH.below.trans hw))) (ha.ext (hH3.trans (hH.below.trans hw))) hxd hxd) fun a hF => ?_
     refine qs hF rfl rfl rfl (fun w hw => r_pickt hF rfl rfl g5_17 rfl) fun a hF => ?_
     refine qs hF rfl rfl rfl (fun w hw => r_move hF rfl rfl) fun a hF => ?_
     refine q_ask (d := 69) hF rfl (fun g5_22 => ?_) (fun g5_22 => ?_)
     ·
      have g5_22' := g5_22; try simp only [qq] at g5_22'
      refine qsy_call hF rfl rfl rfl g5_22 rfl rfl rfl rfl fn17 (fun w hw => awake8_spec _ (hG.ext (hH3.trans (hH.below.trans hw)))) fun a hF => ?_
      refine qs hF rfl rfl rfl (fun w hw => r_pickt hF rfl rfl g5_22 rfl) fun a hF => ?_
      refine qs hF rfl rfl rfl (fun w hw => r_assign hF rfl rfl) fun a hF => ?_
      refine q_nil fun w hE => ?_
      replace hH := hH.ext hE
      replace hF := hF.sel [12]
      simp only [ss, Nat.reduceBEq] at hF
      refine k2 ?_
      refine wp_ret (hret (ret1 hF Tryz.results3 rfl ?_))
      exact ⟨rfl, hH3.trans hH.below⟩
     have g5_22' := g5_22; try simp only [qq] at g5_22'
     exact absurd g5_22 (by simp [sameS_self])
    have g5_17' := g5_17; try simp only [qq] at g5_17'
    exact absurd g5_17 (by simp [sameS_self])
   have g5_8' := g5_8; try simp only [qq] at g5_8'
   exact absurd g5_8 (by simp [sameS_self])
  have g5_3' := g5_3; try simp only [qq] at g5_3'
  exact absurd g5_3 (by simp [sameS_self])
end Go.Proofs.YtcelgjabccgnmaaGreatDoor
