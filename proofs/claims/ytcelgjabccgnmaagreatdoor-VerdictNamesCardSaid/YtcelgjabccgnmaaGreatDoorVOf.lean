/-
  The walk of verdict.Of. Nothing is claimed here.
-/
import Derived.Test.YtcelgjabccgnmaaGreatDoorSoa
import Derived.Test.YtcelgjabccgnmaaGreatDoorChain
import Derived.Test.YtcelgjabccgnmaaGreatDoorChainW
import Derived.Test.YtcelgjabccgnmaaGreatDoorOpenM
import Derived.Test.YtcelgjabccgnmaaGreatDoorFlowM
namespace Go.Proofs.YtcelgjabccgnmaaGreatDoor
open Go.RowKit
set_option linter.unusedVariables false
set_option linter.unusedSimpArgs false
set_option maxHeartbeats 1000000

theorem cloneS_spec {w0 : World} {v : Value} {n : Nat} {xs : List Value} (hv : RSl w0 5 v n xs) (h1 : ∀ u ∈ xs, u.oneCell' = true) (hn : n < 1000000) :
    Rets Tryz.prog 116 [v] w0 fun r w' => ∃ B, Hp w0 w' B ∧ Sl 27 5 B r n xs := by
  have hH := Hp.refl w0
  have hv' := hv
  obtain ⟨hx, ad, cp, rfl, hnc, hcm, had⟩ := hv
  refine rets_start Tryz.func116 rfl Tryz.ntmps116 rfl fun a Q0 hF hret hend => ?_
  simp only [argsFrom, Nat.zero_add, Nat.reduceAdd] at hF
  refine c_sr fun ops => ?_
  refine zm 1 hF rfl fun a hF => ?_
  refine c_n ?_
  replace hF := hF.sel [0]
  simp only [ss, Nat.reduceBEq] at hF
  refine c_seq fun Q1 k1 t1 => ?_
  refine c_sr fun ops => ?_
  refine zm 1 hF rfl fun a hF => ?_
  refine zb hF rfl rfl rfl (b_slnil Tryz.underlying22) fun a hF => ?_
  refine c_n ?_
  replace hF := hF.sel [0, 4]
  simp only [ss, Nat.reduceBEq] at hF
  refine c_if hF rfl (fun h4 => ?_) (fun h4 => ?_)
  ·
   try simp only [qq] at h4
   have hd : ad = none := by simpa using h4
   subst hd
   refine c_sr fun ops => ?_
   refine zm 1 hF rfl fun a hF => ?_
   refine c_n ?_
   replace hF := hF.sel [2]
   simp only [ss, Nat.reduceBEq] at hF
   refine wp_ret (t1.ret (hret (ret1 hF Tryz.results116 rfl ?_)))
   rcases had with ⟨_, _, rfl⟩ | ⟨b, off, h, _⟩
   · have : xs = [] := List.eq_nil_of_length_eq_zero (by simpa using hx)
     subst this
     exact ⟨[], hH, Sl.nil _ _⟩
   · cases h
  try simp only [qq] at h4
  refine wp_skip ?_
  refine k1 ?_
  refine c_sr fun ops => ?_
  refine ls_buildN (us := []) hF hH rfl rfl rfl rfl rfl rfl Tryz.underlying22 ti27 (fun _ h => (List.not_mem_nil h).elim) (by decide) ?_
  intro a w g3_0 hH hE hF
  have hS : Sl 27 5 [(g3_0, .cells #[] 27 (0, 0))] (.slice (some ⟨g3_0, 0, none⟩) 0 0) 0 [] := ⟨rfl, .inr ⟨g3_0, 0, _, rfl, rfl, Nat.le_refl _, Nat.zero_le _, rfl, rfl⟩⟩
  refine zm 1 hF rfl fun a hF => ?_
  refine ls_append0 hF hH rfl rfl rfl rfl rfl rfl Tryz.underlying22 ti27 hS (hv'.ext hH.below) (h1) (by decide) (by omega) ?_
  intro a v3_2 w B3_2 hH hS hF
  refine zm 1 hF rfl fun a hF => ?_
  refine c_n ?_
  replace hF := hF.sel [2]
  simp only [ss, Nat.reduceBEq] at hF
  refine wp_ret (hret (ret1 hF Tryz.results116 rfl ?_))
  rw [Nat.zero_add, List.nil_append] at hS
  exact ⟨_, hH, hS⟩

def zeroE (e : Ent) : Ent := (zeroT e.1, e.2)
theorem mid_set {α : Type} (f : α → α) {l : List α} {i : Nat} (h : i < l.length) : ((l.take i).map f ++ l.drop i).set i (f l[i]) = (l.take (i + 1)).map f ++ l.drop (i + 1) := by
  have h1 : ((l.take i).map f).length = i := by rw [List.length_map, List.length_take]; omega
  rw [List.drop_eq_getElem_cons h, List.take_succ_eq_append_getElem h, List.set_append_right _ _ (by omega), h1, Nat.sub_self, List.set_cons_zero, List.map_append]
  simp only [List.map_cons, List.map_nil, List.append_assoc, List.cons_append, List.nil_append]
theorem mid_getF {α : Type} (f : α → α) {l : List α} {i : Nat} (h : i < l.length) (h2 : i < ((l.take i).map f ++ l.drop i).length) : ((l.take i).map f ++ l.drop i)[i] = l[i] := by
  rw [List.getElem_append_right (by simp; omega)]
  simp [Nat.min_eq_left (Nat.le_of_lt h)]
theorem leastT_take {l : List RSet} {i : Nat} {t : Nat} (h : i < l.length) : leastT (l.take (i + 1)) t = min (leastT (l.take i) t) l[i].ttl := by
  unfold leastT
  rw [List.take_succ_eq_append_getElem h, List.foldl_append]; rfl
theorem timeless_spec (es : List Ent) (v : Value) (t : Nat) (w0 : World) (hv : RSl w0 5 v es.length (entV es)) (h1 : ∀ u ∈ entV es, u.oneCell' = true) (hn : es.length < 1000000) :
    Rets Tryz.prog 84 [v, .int .u32 (t : Nat)] w0 fun r w' => ∃ rv B, r = .tuple #[rv, .int .u32 (leastT (es.map (·.1)) t : Nat)] ∧ Hp w0 w' B ∧ Sl 27 5 B rv es.length (entV (es.map zeroE)) := by
  have hH := Hp.refl w0
  refine rets_start Tryz.func84 rfl Tryz.ntmps84 rfl fun a Q0 hF hret hend => ?_
  simp only [argsFrom, Nat.zero_add, Nat.reduceAdd] at hF
  refine c_sr fun ops => ?_
  refine zm 2 hF rfl fun a hF => ?_
  refine c_n ?_
  replace hF := hF.sel [0, 1]
  simp only [ss, Nat.reduceBEq] at hF
  refine c_sr fun ops => ?_
  refine zm 1 hF rfl fun a hF => ?_
  refine zc hF rfl rfl fn116 (cloneS_spec hv h1 hn) ?_
  rintro v6 w ⟨B, hB, hS⟩ a hF
  replace hH := hH.join hB
  refine zm 1 hF rfl fun a hF => ?_
  refine c_n ?_
  replace hF := hF.sel [1, 6]
  simp only [ss, Nat.reduceBEq] at hF
  obtain ⟨ad, cap, rfl⟩ := hS.shape
  rw [List.append_nil] at hH
  refine c_seq fun Q1 k1 t1 => ?_
  refine c_sr fun ops => ?_
  refine zm 1 hF rfl fun a hF => ?_
  refine zl hF rfl (r_len_sl hF rfl rfl Tryz.underlying22) fun a hF => ?_
  refine zm 1 hF rfl fun a hF => ?_
  refine c_n ?_
  replace hF := hF.sel [1, 6, 11, 12]
  simp only [ss, Nat.reduceBEq] at hF
  refine c_block fun Q2 t2 => ?_
  refine c_loop (fun n a w => ∃ i B, n = es.length - i ∧ i ≤ es.length ∧ Fr 29 [(1, .int .u32 (leastT ((es.map (·.1)).take i) t : Nat)), (6, .slice ad es.length cap), (11, .int .i64 (es.length : Nat)), (12, .int .i64 (i : Nat))] a ∧ Hp w0 w B ∧ Sl 27 5 B (.slice ad es.length cap) es.length (entV ((es.take i).map zeroE ++ es.drop i))) ?_ ?_
  ·
   exact ⟨_, 0, B, rfl, Nat.zero_le _, hF.keep [1, 6, 11, 12] rfl, hH, by simpa using hS⟩
  clear hH hF hS
  intro n a w hI Q3 k3 t3
  obtain ⟨i, B, hm, hi, hF, hH, hS⟩ := hI
  refine c_sr fun ops => ?_
  refine zb hF rfl rfl rfl (b_ltn _ _ _ _) fun a hF => ?_
  refine c_n ?_
  refine c_seq fun Q4 k4 t4 => ?_
  refine c_fi hF rfl (fun h13 => ?_) (fun h13 => ?_)
  ·
   try simp only [qq] at h13
   obtain rfl : i = es.length := by omega
   rw [List.take_of_length_le (by simp)] at hF
   rw [List.take_of_length_le (Nat.le_refl _), List.drop_eq_nil_of_le (Nat.le_refl _), List.append_nil] at hS
   refine wp_exit (t4.exit (t3.exit (t2.here (?_))))
   refine k1 ?_
   refine c_sr fun ops => ?_
   refine zm 4 hF rfl fun a hF => ?_
   refine c_n ?_
   replace hF := hF.sel [4, 5]
   simp only [ss, Nat.reduceBEq] at hF
   refine wp_ret (hret (ret2 hF Tryz.results84 rfl rfl ?_))
   exact ⟨_, B, rfl, hH, hS⟩
  try simp only [qq] at h13
  obtain ⟨g, cp, cur, hv2, rfl, hcp, hcm, hcs, hct⟩ := hS.open (by omega)
  cases hv2
  have hml : ((es.take i).map zeroE ++ es.drop i).length = es.length := by simp; omega
  have hXi : i < ((es.take i).map zeroE ++ es.drop i).length := by omega
  have hgx := mid_getF zeroE h13 hXi
  refine wp_skip ?_
  refine k4 ?_
  refine c_seq fun Q5 k5 t5 => ?_
  refine c_block fun Q6 t6 => ?_
  refine c_sr fun ops => ?_
  refine zm 2 hF rfl fun a hF => ?_
  refine c_n ?_
  refine c_sr fun ops => ?_
  refine zm 3 hF rfl fun a hF => ?_
  refine zl hF rfl (r_ixown hF _ rfl rfl rfl Tryz.underlying22 ti27 (by omega)) fun a hF => ?_
  refine zl hF rfl (r_fieldaddr hF rfl rfl fd27_3) fun a hF => ?_
  refine zl hF rfl (r_load hF rfl rfl fl24 (own_cell (i := 0) hH rfl (take_get hct (entV_get hXi 3 (.int .u32 (es[i].1.ttl : Nat)) (by rw [hgx]; rfl))))) fun a hF => ?_
  refine zl hF rfl (r_minn hF rfl rfl rfl) fun a hF => ?_
  refine zm 1 hF rfl fun a hF => ?_
  refine c_n ?_
  refine c_reg fun ops => ?_
  refine zm 2 hF rfl fun a hF => ?_
  refine zl hF rfl (r_ixown hF _ rfl rfl rfl Tryz.underlying22 ti27 (by omega)) fun a hF => ?_
  refine zl hF rfl (r_fieldaddr hF rfl rfl fd27_3) fun a hF => ?_
  refine ls_store 0 hF hH rfl rfl rfl rfl rfl fl24 ti24 rfl (by omega) (by simp [noFreeze]) (rfl) ?_
  intro w hH
  simp only [List.set_cons_zero] at hH
  refine wpList_nil ?_
  refine t6.norm ?_
  refine k5 ?_
  refine c_reg fun ops => ?_
  refine zb hF rfl rfl rfl (b_addn _ _ 1 (by omega)) fun a hF => ?_
  refine zm 1 hF rfl fun a hF => ?_
  refine wpList_nil ?_
  refine k3 ?_
  have hSn := Sl.set (e := 27) (g := g) (i * 5 + 3) (.int .u32 0) (show (entV ((es.take i).map zeroE ++ es.drop i)).length = es.length * 5 by rw [entV_length, hml]) hcp hcm hcs hct
  rw [entV_set hXi (show 3 < 5 by decide) (zeroE es[i]) _ (by rw [hgx]; rfl), mid_set zeroE h13] at hSn
  refine ⟨es.length - (i + 1), by omega, i + 1, _, rfl, h13, ?_, hH, hSn⟩
  rw [leastT_take (by simpa using h13), List.getElem_map]
  exact hF.keep [1, 6, 11, 12] rfl

theorem zeroE_ok {es : List Ent} (h : EntOk es) : EntOk (es.map zeroE) := by
  intro e he
  obtain ⟨x, hx, rfl⟩ := List.mem_map.1 he
  exact h x hx
theorem zeroE_B (es : List Ent) : entB (es.map zeroE) = entB es := by
  unfold entB; rw [List.map_map]; rfl
theorem zeroE_fst (es : List Ent) : (es.map zeroE).map (·.1) = (es.map (·.1)).map zeroT := by rw [List.map_map, List.map_map]; rfl

/-- A verdict of one's own. -/
def VerdO (w0 w : World) (x : Verd) (sv ov : Value) : Prop := ∃ B1 es1 B2 es2, Hp w0 w ((B1 ++ entB es1) ++ (B2 ++ entB es2)) ∧ Sl 27 5 B1 sv es1.length (entV es1) ∧ EntOk es1 ∧ es1.map (·.1) = x.sets ∧ Sl 27 5 B2 ov es2.length (entV es2) ∧ EntOk es2 ∧ es2.map (·.1) = x.soa
theorem verdO_no {w0 w : World} (h : Ext w0 w) (c : Nat) : VerdO w0 w ⟨c, [], []⟩ (.slice none 0 0) (.slice none 0 0) :=
  ⟨[], [], [], [], ⟨h, fun _ h => (List.not_mem_nil h).elim, .nil⟩, Sl.nil _ _, fun _ h => (List.not_mem_nil h).elim, rfl, Sl.nil _ _, fun _ h => (List.not_mem_nil h).elim, rfl⟩
theorem VerdO.read {w0 w : World} {x : Verd} {sv ov : Value} (h : VerdO w0 w x sv ov) : VerdR w x sv ov ∧ Ext w0 w := by
  obtain ⟨B1, es1, B2, es2, hH, hS1, hK1, h1, hS2, hK2, h2⟩ := h
  refine ⟨⟨?_, ?_⟩, hH.below⟩
  · rw [← h1]; exact sets_read hH hS1 hK1 (fun p hp => List.mem_append_left _ (List.mem_append_left _ hp)) (fun p hp => List.mem_append_left _ (List.mem_append_right _ hp))
  · rw [← h2]; exact sets_read hH hS2 hK2 (fun p hp => List.mem_append_right _ (List.mem_append_left _ hp)) (fun p hp => List.mem_append_right _ (List.mem_append_right _ hp))
theorem EntOk.append {a b : List Ent} (ha : EntOk a) (hb : EntOk b) : EntOk (a ++ b) := fun e he => (List.mem_append.1 he).elim (ha e) (hb e)
theorem soaN_mem {l : List RSet} {nm : Bs} {cls : Nat} {s : RSet} (h : (soaN l nm cls).2 = some s) : s ∈ l := by
  unfold soaN at h
  cases hb : bestGo nm cls l none with
  | none => rw [hb] at h; cases h
  | some t =>
    rw [hb] at h
    simp only at h
    split at h
    · cases h; exact (bestGo_mem hb).resolve_right (fun e => by cases e)
    · cases h
theorem Hp.pair {w0 w : World} {H B : List (Nat × Obj)} (h1 : Hp w0 w H) (h2 : Hp w0 w B) (hne : ∀ p ∈ B, ∀ q ∈ H, p.2 ≠ q.2) : Hp w0 w (B ++ H) := by
  refine ⟨h1.below, fun p hp => (List.mem_append.1 hp).elim (h2.own p) (h1.own p), ?_⟩
  rw [List.map_append, List.nodup_append]
  refine ⟨h2.nodup, h1.nodup, fun a ha b hb e => ?_⟩
  obtain ⟨p, hp, rfl⟩ := List.mem_map.1 ha
  obtain ⟨q, hq, rfl⟩ := List.mem_map.1 hb
  have e1 := (h2.own p hp).1
  have e2 := (h1.own q hq).1
  rw [e, e2] at e1
  exact hne p hp q hq (Option.some.inj e1).symm
theorem verdOf_spec (q : Que) (m : Msg) (qv av uv xv ov : Value) (w0 : World) (hav : RSl w0 5 av m.ans.length (recsV m.ans)) (huv : RSl w0 5 uv m.auth.length (recsV m.auth)) (hba : RecsB m.ans) (hbu : RecsB m.auth) (hn : q.name.length < 1000000) (hG : GW w0) :
    Rets Tryz.prog 40 [.agg (quV q).toArray, .agg (msgV m qv av uv xv ov).toArray] w0 fun r w' =>
      ∃ sv tv, r = .tuple #[.agg (verdV (verdN q.name q.kind q.cls m.hd.code m.ans m.auth).2.1 sv tv).toArray, .int .u32 ((verdN q.name q.kind q.cls m.hd.code m.ans m.auth).2.2 : Nat), .int .i64 ((verdN q.name q.kind q.cls m.hd.code m.ans m.auth).1 : Nat)] ∧
        VerdO w0 w' (verdN q.name q.kind q.cls m.hd.code m.ans m.auth).2.1 sv tv := by
  have hH := Hp.refl w0
  have hga := group_bounds hba
  have hgu := group_bounds hbu
  obtain ⟨V, hV⟩ : ∃ V, V = verdN q.name q.kind q.cls m.hd.code m.ans m.auth := ⟨_, rfl⟩
  rw [← hV]
  unfold verdN verdG at hV
  refine rets_start Tryz.func40 rfl Tryz.ntmps40 rfl fun a Q0 hF hret hend => ?_
  simp only [argsFrom, Nat.zero_add, Nat.reduceAdd] at hF
  refine c_sr fun ops => ?_
  refine ls_box hF hH rfl rfl rfl rfl rfl ?_
  intro a w g0_0 hH hE hF
  refine ls_box hF hH rfl rfl rfl rfl rfl ?_
  intro a w g0_1 hH hE hF
  refine ls_alloc hF hH rfl rfl rfl rfl zv65 ?_
  intro a w g0_2 hH hE hF
  refine zm 2 hF rfl fun a hF => ?_
  refine c_n ?_
  replace hF := hF.sel [2, 3, 4]
  simp only [ss, Nat.reduceBEq] at hF
  refine c_cut (fun a w => (mayB q.name = true ∧ (m.hd.code = 0 ∨ m.hd.code = 3)) ∧ Fr 105 [(2, ptr g0_0), (3, ptr g0_1), (4, ptr g0_2)] a ∧ Hp w0 w [(g0_2, .cells #[.int .u8 0, .slice none 0 0, .slice none 0 0] 65 (0, 0)), (g0_1, .cells (msgV m qv av uv xv ov).toArray 62 (0, 0)), (g0_0, .cells (quV q).toArray 49 (0, 0))]) (fun Q1 k1 t1 => ?_) ?_
  ·
   simp only [cells_agg] at hH
   refine c_sg ?_
   refine zl hF rfl (r_fieldaddr0 hF rfl rfl fd49_0) fun a hF => ?_
   refine zl hF rfl (r_load hF rfl rfl fl9 (own_cell (i := 2) hH rfl rfl)) fun a hF => ?_
   refine zc hF rfl rfl fn56 (may_spec _ (by omega) _) ?_
   rintro _ w ⟨rfl, hE⟩ a hF
   replace hH := hH.ext hE
   refine zl hF rfl (r_not hF rfl rfl) fun a hF => ?_
   refine zm 1 hF rfl fun a hF => ?_
   refine ls_ask (d := 16) hF rfl (fun g1_4 => ?_) (fun g1_4 => ?_)
   ·
    have g1_4' := g1_4; try simp only [qq] at g1_4'
    refine zn hF rfl g1_4 fun a hF => ?_
    refine zn hF rfl g1_4 fun a hF => ?_
    refine zn hF rfl g1_4 fun a hF => ?_
    refine zn hF rfl g1_4 fun a hF => ?_
    refine zn hF rfl g1_4 fun a hF => ?_
    refine lsu hF rfl rfl rfl rfl rfl fun a hF => ?_
    refine lsu hF rfl rfl rfl rfl rfl fun a hF => ?_
    refine lsu hF rfl rfl rfl rfl rfl fun a hF => ?_
    refine lsu hF rfl rfl rfl rfl rfl fun a hF => ?_
    refine zn hF rfl g1_4 fun a hF => ?_
    refine zl hF rfl (r_pickt hF rfl rfl g1_4 rfl) fun a hF => ?_
    refine c_n ?_
    refine c_yes hF rfl rfl ?_
    refine c_sr fun ops => ?_
    refine zl hF rfl (r_build hF rfl rfl (bd65 _)) fun a hF => ?_
    refine ls_storeagg 0 hF hH rfl rfl rfl rfl rfl ti65 rfl (rfl) (rfl) (by simp [Value.oneCell']) ?_
    intro w hH
    refine zm 2 hF rfl fun a hF => ?_
    refine c_n ?_
    replace hF := hF.sel [4, 5, 6]
    simp only [ss, Nat.reduceBEq] at hF
    refine wp_ret (t1.ret (hret (retc3 (fn := Tryz.f40) (t := 4) (u := 5) (x := 6) (i := 0) hF hH Tryz.results40 rfl rfl rfl (by kernel_rfl) ti65 rfl rfl ?_)))
    have hno : ¬ (mayB q.name = true ∧ (m.hd.code = 0 ∨ m.hd.code = 3)) := fun e => by
      first
        | (rw [e.1] at g1_4'; exact absurd g1_4' (by decide))
        | exact e.2.elim g1_9' h27
    rw [if_neg hno] at hV
    rw [hV]; exact ⟨_, _, rfl, verdO_no hH.below 0⟩
   have g1_4' := g1_4; try simp only [qq] at g1_4'
   refine zy hF rfl g1_4 (r_fieldaddr0 hF rfl rfl fd62_0) fun a hF => ?_
   refine zy hF rfl g1_4 (r_fieldaddr0 hF rfl rfl fd56_10) fun a hF => ?_
   refine zy hF rfl g1_4 (r_load hF rfl rfl fl5 (own_cell (i := 1) hH rfl rfl)) fun a hF => ?_
   refine zy hF rfl g1_4 (zr hF rfl rfl (b_nen _ _ _ 0)) fun a hF => ?_
   refine zy hF rfl g1_4 (r_move hF rfl rfl) fun a hF => ?_
   refine l_ask (d := 21) hF rfl (fun g1_9 => ?_) (fun g1_9 => ?_)
   ·
    have g1_9' := g1_9; try simp only [qq] at g1_9'
    refine zn hF rfl g1_9 fun a hF => ?_
    refine zn hF rfl g1_9 fun a hF => ?_
    refine zn hF rfl g1_9 fun a hF => ?_
    refine zn hF rfl g1_9 fun a hF => ?_
    refine zy hF rfl g1_4 (r_pickf hF rfl rfl g1_9 rfl) fun a hF => ?_
    refine zl hF rfl (r_pickf hF rfl rfl g1_4 rfl) fun a hF => ?_
    refine c_n ?_
    refine c_no hF rfl rfl ?_
    refine wp_skip ?_
    refine k1 ?_
    exact ⟨⟨by simpa using g1_4', by omega⟩, hF.keep [2, 3, 4] rfl, hH⟩
   have g1_9' := g1_9; try simp only [qq] at g1_9'
   refine zy hF rfl g1_9 (r_fieldaddr0 hF rfl rfl fd62_0) fun a hF => ?_
   refine zy hF rfl g1_9 (r_fieldaddr0 hF rfl rfl fd56_10) fun a hF => ?_
   refine zy hF rfl g1_9 (r_load hF rfl rfl fl5 (own_cell (i := 1) hH rfl rfl)) fun a hF => ?_
   refine zy hF rfl g1_9 (zr hF rfl rfl (b_nen _ _ _ 3)) fun a hF => ?_
   refine zy hF rfl g1_4 (r_pickt hF rfl rfl g1_9 rfl) fun a hF => ?_
   refine zl hF rfl (r_pickf hF rfl rfl g1_4 rfl) fun a hF => ?_
   refine c_n ?_
   refine c_fi hF rfl (fun h27 => ?_) (fun h27 => ?_)
   ·
    try simp only [qq] at h27
    refine wp_skip ?_
    refine k1 ?_
    exact ⟨⟨by simpa using g1_4', by omega⟩, hF.keep [2, 3, 4] rfl, hH⟩
   try simp only [qq] at h27
   refine c_sr fun ops => ?_
   refine zl hF rfl (r_build hF rfl rfl (bd65 _)) fun a hF => ?_
   refine ls_storeagg 0 hF hH rfl rfl rfl rfl rfl ti65 rfl (rfl) (rfl) (by simp [Value.oneCell']) ?_
   intro w hH
   refine zm 2 hF rfl fun a hF => ?_
   refine c_n ?_
   replace hF := hF.sel [4, 5, 6]
   simp only [ss, Nat.reduceBEq] at hF
   refine wp_ret (t1.ret (hret (retc3 (fn := Tryz.f40) (t := 4) (u := 5) (x := 6) (i := 0) hF hH Tryz.results40 rfl rfl rfl (by kernel_rfl) ti65 rfl rfl ?_)))
   have hno : ¬ (mayB q.name = true ∧ (m.hd.code = 0 ∨ m.hd.code = 3)) := fun e => by
     first
       | (rw [e.1] at g1_4'; exact absurd g1_4' (by decide))
       | exact e.2.elim g1_9' h27
   rw [if_neg hno] at hV
   rw [hV]; exact ⟨_, _, rfl, verdO_no hH.below 0⟩
  clear hH hF
  rintro a w ⟨hmc, hF, hH⟩
  rw [if_pos hmc] at hV
  refine c_seq fun Q2 k2 t2 => ?_
  refine c_flow [1] [0, 2, 3] [4] [5, 6, 7, 8, 9, 10, 11, 12, 13] (by kernel_rfl) (by kernel_rfl) fun hB => ?_
  refine ps hF rfl rfl rfl rfl (fun w => r_fieldaddr0 hF rfl rfl fd62_2) fun a hF => ?_
  refine fl_start [30, 32, 33] hB (by kernel_rfl) hF ?_
  simp only [wo, hasN, Nat.reduceBEq, cond_true, cond_false] at hF ⊢
  refine fs1 rfl (by
   intro a w Lr hE hC hl
   replace hH := hH.ext hE
   have hF := hC.fr
   exact zl hF rfl (r_loadagg hF rfl rfl Tryz.underlying49 ti49 rfl (own_agg (i := 2) hH rfl)) fun a' hF' => wpList_nil (fl_end hC hF' (Ext.refl _) rfl)) ?_
  refine fs1 rfl (by
   intro a w Lr hE hC hl
   replace hH := hH.ext hE
   have hF := hC.fr
   exact zl hF rfl (r_load hF rfl rfl fl34 (own_cell (i := 1) hH rfl rfl)) fun a' hF' => wpList_nil (fl_end hC hF' (Ext.refl _) rfl)) ?_
  refine fs (fun v w' => SetsR w' v (groupN m.ans)) rfl (fun _ _ _ he h => h.ext he) ?_ ?_
  ·
   intro a w Lr hE hC hl
   replace hH := hH.ext hE
   obtain ⟨_, s32, rfl⟩ := hl 32 (by decide) _ rfl
   replace hC := hC.more s32
   have hF := hC.fr
   refine zc hF rfl rfl fn26 (group_spec m.ans _ _ (hav.ext hH.below) hba.len hba.each (hG.ext hH.below)) ?_
   rintro v33 w' ⟨B, es, hB, hS, hK, hg⟩ a' hF'; have hE' := hB.below
   exact wpList_nil (fl_end hC hF' hE' (by rw [← hg]; exact sets_read hB hS hK (fun p hp => List.mem_append_left _ hp) (fun p hp => List.mem_append_right _ hp)))
  intro a w hE hF hall
  replace hH := hH.ext hE
  obtain ⟨_, s30, rfl⟩ := hall 30 _ rfl
  replace hF := hF.more s30
  obtain ⟨v33, s33, p33⟩ := hall 33 _ rfl
  replace hF := hF.more s33
  clear hall
  refine zc hF rfl rfl fn36 (follow_spec q.name q.kind q.cls (groupN m.ans) v33 _ p33 hga.len hn hga.name hga.data hga.each (hG.ext hH.below)) ?_
  rintro _ w ⟨cv, ev, B1, es1, B2, es2, rfl, hB, hS1, hK1, h1, hS2, hK2, h2⟩ a hF
  replace hH := hH.join hB
  refine wpList_nil ?_
  refine ps hF rfl rfl rfl rfl (fun w => r_move hF rfl rfl) fun a hF => ?_
  refine ps hF rfl rfl rfl rfl (fun w => r_extract hF rfl rfl rfl) fun a hF => ?_
  refine ps hF rfl rfl rfl rfl (fun w => r_extract hF rfl rfl rfl) fun a hF => ?_
  refine ps hF rfl rfl rfl rfl (fun w => r_extract hF rfl rfl rfl) fun a hF => ?_
  refine ps hF rfl rfl rfl rfl (fun w => r_extract hF rfl rfl rfl) fun a hF => ?_
  refine ps hF rfl rfl rfl rfl (fun w => r_assign hF rfl rfl) fun a hF => ?_
  refine ps hF rfl rfl rfl rfl (fun w => r_assign hF rfl rfl) fun a hF => ?_
  refine ps hF rfl rfl rfl rfl (fun w => r_assign hF rfl rfl) fun a hF => ?_
  refine ps hF rfl rfl rfl rfl (fun w => r_assign hF rfl rfl) fun a hF => ?_
  replace hF := hF.sel [2, 3, 4, 6, 7, 8, 9]
  simp only [ss, Nat.reduceBEq] at hF
  obtain ⟨cad, ccp, rfl⟩ := hS1.shape
  obtain ⟨ead, ecp, rfl⟩ := hS2.shape
  have hl1 : es1.length ≤ 8 := by have := (followC_mem q.name q.kind q.cls (groupN m.ans)).1; rw [← h1, List.length_map] at this; exact this
  have hl2 : es2.length ≤ 1 := by have := (endsOf_mem (followC q.name q.kind q.cls (groupN m.ans)) q.kind q.cls (groupN m.ans)).1; rw [← h2, List.length_map] at this; exact this
  have hpl := chain_at_le q.name q.kind q.cls (groupN m.ans)
  generalize hRR : followC q.name q.kind q.cls (groupN m.ans) = R at *
  generalize hEE : endsOf R q.kind q.cls (groupN m.ans) = E at *
  have hel : E.length = es2.length := by rw [← h2, List.length_map]
  have hme : (es1 ++ es2).map (·.1) = R.2.1 ++ E := by rw [List.map_append, h1, h2]
  have hK12 := hK1.append hK2
  replace hH : Hp w0 w ((g0_2, .cells #[.int .u8 0, .slice none 0 0, .slice none 0 0] 65 (0, 0)) :: (g0_1, .cells (msgV m qv av uv xv ov).toArray 62 (0, 0)) :: (g0_0, .cells (quV q).toArray 49 (0, 0)) :: ((B1 ++ entB es1) ++ (B2 ++ entB es2))) := hH.perm (List.perm_append_comm (l₁ := [_, _, _]))
  refine k2 ?_
  refine c_cut (fun a w => R.1 = 0 ∧ ¬ (m.hd.code = 3 ∧ E ≠ []) ∧ Fr 105 [(2, ptr g0_0), (3, ptr g0_1), (4, ptr g0_2), (7, .slice cad es1.length ccp), (8, .string (mk R.2.2)), (9, .slice ead es2.length ecp)] a ∧ Hp w0 w ((g0_2, .cells #[.int .u8 0, .slice none 0 0, .slice none 0 0] 65 (0, 0)) :: (g0_1, .cells (msgV m qv av uv xv ov).toArray 62 (0, 0)) :: (g0_0, .cells (quV q).toArray 49 (0, 0)) :: ((B1 ++ entB es1) ++ (B2 ++ entB es2)))) (fun Q3 k3 t3 => ?_) ?_
  ·
   refine c_block fun Q4 t4 => ?_
   refine c_sr fun ops => ?_
   refine zm 1 hF rfl fun a hF => ?_
   refine zb hF rfl rfl rfl (b_nen _ _ _ 0) fun a hF => ?_
   refine zm 1 hF rfl fun a hF => ?_
   refine c_n ?_
   refine c_if hF rfl (fun h39 => ?_) (fun h39 => ?_)
   ·
    try simp only [qq] at h39
    rw [if_pos h39] at hV
    refine c_sr fun ops => ?_
    refine zl hF rfl (r_build hF rfl rfl (bd65 _)) fun a hF => ?_
    refine zm 1 hF rfl fun a hF => ?_
    refine ls_storeagg 0 hF hH rfl rfl rfl rfl rfl ti65 rfl (rfl) (rfl) (by simp [Value.oneCell']) ?_
    intro w hH
    refine zm 2 hF rfl fun a hF => ?_
    refine c_n ?_
    replace hF := hF.sel [4, 5, 6]
    simp only [ss, Nat.reduceBEq] at hF
    refine wp_ret (t4.ret (t3.ret (hret (retc3 (fn := Tryz.f40) (t := 4) (u := 5) (x := 6) (i := 0) hF hH Tryz.results40 rfl rfl rfl (by kernel_rfl) ti65 rfl rfl ?_))))
    rw [hV]; exact ⟨_, _, rfl, verdO_no hH.below 0⟩
   try simp only [qq] at h39
   rw [if_neg (fun e => e h39)] at hV
   refine c_sg ?_
   refine zl hF rfl (r_fieldaddr0 hF rfl rfl fd62_0) fun a hF => ?_
   refine zl hF rfl (r_fieldaddr0 hF rfl rfl fd56_10) fun a hF => ?_
   refine zl hF rfl (r_load hF rfl rfl fl5 (own_cell (i := 1) hH rfl rfl)) fun a hF => ?_
   refine zb hF rfl rfl rfl (b_eqn _ _ _ 3) fun a hF => ?_
   refine zm 1 hF rfl fun a hF => ?_
   refine l_ask (d := 49) hF rfl (fun g6_4 => ?_) (fun g6_4 => ?_)
   ·
    have g6_4' := g6_4; try simp only [qq] at g6_4'
    refine zn hF rfl g6_4 fun a hF => ?_
    refine zn hF rfl g6_4 fun a hF => ?_
    refine zn hF rfl g6_4 fun a hF => ?_
    refine zl hF rfl (r_pickf hF rfl rfl g6_4 rfl) fun a hF => ?_
    refine zm 1 hF rfl fun a hF => ?_
    refine c_n ?_
    refine c_no hF rfl rfl ?_
    refine wp_skip ?_
    refine t4.norm ?_
    refine k3 ?_
    refine ⟨h39, fun e => ?_, hF.keep [2, 3, 4, 7, 8, 9] rfl, hH⟩
    first
      | exact g6_4' e.1
      | exact e.2 (List.eq_nil_of_length_eq_zero (by omega))
   have g6_4' := g6_4; try simp only [qq] at g6_4'
   refine zy hF rfl g6_4 (r_move hF rfl rfl) fun a hF => ?_
   refine zy hF rfl g6_4 (r_len_sl hF rfl rfl Tryz.underlying22) fun a hF => ?_
   refine zy hF rfl g6_4 (zr hF rfl rfl (b_gtn _ _ _ 0)) fun a hF => ?_
   refine zl hF rfl (r_pickt hF rfl rfl g6_4 rfl) fun a hF => ?_
   refine zm 1 hF rfl fun a hF => ?_
   refine c_n ?_
   refine c_fi hF rfl (fun h44 => ?_) (fun h44 => ?_)
   ·
    try simp only [qq] at h44
    refine wp_skip ?_
    refine t4.norm ?_
    refine k3 ?_
    refine ⟨h39, fun e => ?_, hF.keep [2, 3, 4, 7, 8, 9] rfl, hH⟩
    first
      | exact g6_4' e.1
      | exact e.2 (List.eq_nil_of_length_eq_zero (by omega))
   try simp only [qq] at h44
   rw [if_pos ⟨g6_4', fun e => by rw [e] at hel; simp at hel; omega⟩] at hV
   refine c_sr fun ops => ?_
   refine zl hF rfl (r_build hF rfl rfl (bd65 _)) fun a hF => ?_
   refine ls_storeagg 0 hF hH rfl rfl rfl rfl rfl ti65 rfl (rfl) (rfl) (by simp [Value.oneCell']) ?_
   intro w hH
   refine zm 2 hF rfl fun a hF => ?_
   refine c_n ?_
   replace hF := hF.sel [4, 5, 6]
   simp only [ss, Nat.reduceBEq] at hF
   refine wp_ret (t4.ret (t3.ret (hret (retc3 (fn := Tryz.f40) (t := 4) (u := 5) (x := 6) (i := 0) hF hH Tryz.results40 rfl rfl rfl (by kernel_rfl) ti65 rfl rfl ?_))))
   rw [hV]; exact ⟨_, _, rfl, verdO_no hH.below 0⟩
  clear hH hF
  rintro a w ⟨hf0, hc3, hF, hH⟩
  rw [if_neg (fun e => e hf0), if_neg hc3] at hV
  refine c_sr fun ops => ?_
  refine zl hF rfl (r_fieldaddr0 hF rfl rfl fd62_0) fun a hF => ?_
  refine zl hF rfl (r_fieldaddr0 hF rfl rfl fd56_10) fun a hF => ?_
  refine zl hF rfl (r_load hF rfl rfl fl5 (own_cell (i := 1) hH rfl rfl)) fun a hF => ?_
  refine zl hF rfl (r_fieldaddr0 hF rfl rfl fd65_0) fun a hF => ?_
  refine ls_store 0 hF hH rfl rfl rfl rfl rfl fl5 ti5 rfl (by simp) (by simp [noFreeze]) (rfl) ?_
  intro w hH
  refine c_n ?_
  replace hF := hF.sel [2, 3, 4, 7, 8, 9]
  simp only [ss, Nat.reduceBEq] at hF
  replace hH : Hp w0 w ((g0_2, .cells #[.int .u8 (m.hd.code : Nat), .slice none 0 0, .slice none 0 0] 65 (0, 0)) :: (g0_1, .cells (msgV m qv av uv xv ov).toArray 62 (0, 0)) :: (g0_0, .cells (quV q).toArray 49 (0, 0)) :: ((B1 ++ entB es1) ++ (B2 ++ entB es2))) := hH
  refine c_sr fun ops => ?_
  refine zm 2 hF rfl fun a hF => ?_
  replace hH := hH.of (H' := B1 ++ ((g0_2, .cells #[.int .u8 (m.hd.code : Nat), .slice none 0 0, .slice none 0 0] 65 (0, 0)) :: (g0_1, .cells (msgV m qv av uv xv ov).toArray 62 (0, 0)) :: (g0_0, .cells (quV q).toArray 49 (0, 0)) :: (B2 ++ (entB es1 ++ entB es2)))) [] (by classical
    rw [List.perm_iff_count]; intro x; simp only [List.count_append, List.count_cons, List.count_nil]; omega)
  refine ls_append hF hH rfl rfl rfl rfl rfl rfl Tryz.underlying22 ti27 hS1 (hS2.rsl hH (fun p hp => List.mem_append_right _ (List.mem_cons_of_mem _ (List.mem_cons_of_mem _ (List.mem_cons_of_mem _ (List.mem_append_left _ hp)))))) (hK2.one) (by decide) (by omega) ?_
  intro a v9_2 w B9_2 hH hS1 hF
  rw [← entV_append, ← List.length_append] at hS1
  refine zc hF rfl rfl fn84 (timeless_spec (es1 ++ es2) _ 2147483647 _ (hS1.rsl hH fun p hp => List.mem_append_left _ hp) hK12.one (by simp; omega)) ?_
  rintro _ w ⟨rv, Bt, rfl, hBt, hSt⟩ a hF
  replace hH := hH.join hBt
  obtain ⟨rad, rcp, rfl⟩ := hSt.shape
  rw [hme] at hF
  refine zm 3 hF rfl fun a hF => ?_
  refine zl hF rfl (r_fieldaddr0 hF rfl rfl fd65_1) fun a hF => ?_
  replace hH := hH.of (H' := (g0_2, .cells #[.int .u8 (m.hd.code : Nat), .slice none 0 0, .slice none 0 0] 65 (0, 0)) :: (g0_1, .cells (msgV m qv av uv xv ov).toArray 62 (0, 0)) :: (g0_0, .cells (quV q).toArray 49 (0, 0)) :: (Bt ++ (entB es1 ++ entB es2))) (B9_2 ++ B2) (by classical
    rw [List.perm_iff_count]; intro x; simp only [List.count_append, List.count_cons, List.count_nil]; omega)
  refine ls_store 0 hF hH rfl rfl rfl rfl rfl fl22 ti22 rfl (by simp) (by simp [noFreeze]) (rfl) ?_
  intro w hH
  refine zm 1 hF rfl fun a hF => ?_
  refine c_n ?_
  replace hF := hF.sel [2, 3, 4, 5, 8, 9]
  simp only [ss, Nat.reduceBEq] at hF
  replace hH : Hp w0 w ((g0_2, .cells #[.int .u8 (m.hd.code : Nat), .slice rad (es1 ++ es2).length rcp, .slice none 0 0] 65 (0, 0)) :: (g0_1, .cells (msgV m qv av uv xv ov).toArray 62 (0, 0)) :: (g0_0, .cells (quV q).toArray 49 (0, 0)) :: (Bt ++ (entB es1 ++ entB es2))) := hH
  have hSt' : Sl 27 5 Bt (.slice rad (es1 ++ es2).length rcp) ((es1 ++ es2).map zeroE).length (entV ((es1 ++ es2).map zeroE)) := by rw [List.length_map]; exact hSt
  have hmz : ((es1 ++ es2).map zeroE).map (·.1) = (R.2.1 ++ E).map zeroT := by rw [zeroE_fst, hme]
  refine c_seq fun Q5 k5 t5 => ?_
  refine c_sr fun ops => ?_
  refine zm 1 hF rfl fun a hF => ?_
  refine zl hF rfl (r_len_sl hF rfl rfl Tryz.underlying22) fun a hF => ?_
  refine zb hF rfl rfl rfl (b_gtn _ _ _ 0) fun a hF => ?_
  refine c_n ?_
  replace hF := hF.sel [2, 3, 4, 5, 8, 69]
  simp only [ss, Nat.reduceBEq] at hF
  refine c_if hF rfl (fun h69 => ?_) (fun h69 => ?_)
  ·
   try simp only [qq] at h69
   have hE1 : E ≠ [] := fun e => by rw [e] at hel; simp at hel; omega
   rw [if_pos hE1] at hV
   refine c_sr fun ops => ?_
   refine zl hF rfl (r_loadagg hF rfl rfl Tryz.underlying65 ti65 rfl (own_agg (i := 0) hH rfl)) fun a hF => ?_
   refine zm 1 hF rfl fun a hF => ?_
   refine ls_storeagg 0 hF hH rfl rfl rfl rfl rfl ti65 rfl (rfl) (rfl) (by simp [Value.oneCell']) ?_
   intro w hH
   refine zm 2 hF rfl fun a hF => ?_
   refine c_n ?_
   replace hF := hF.sel [4, 5, 6]
   simp only [ss, Nat.reduceBEq] at hF
   refine wp_ret (t5.ret (hret (retc3 (fn := Tryz.f40) (t := 4) (u := 5) (x := 6) (i := 0) hF hH Tryz.results40 rfl rfl rfl (by kernel_rfl) ti65 rfl rfl ?_)))
   rw [hV]
   refine ⟨_, _, rfl, Bt, (es1 ++ es2).map zeroE, [], [], ?_, hSt', zeroE_ok hK12, hmz, Sl.nil _ _, fun _ h => (List.not_mem_nil h).elim, rfl⟩
   rw [zeroE_B, entB_append, entB_nil, List.append_nil, List.append_nil]
   exact hH.drop.drop.drop
  try simp only [qq] at h69
  have hE0 : E = [] := List.eq_nil_of_length_eq_zero (by omega)
  rw [if_neg (fun e => e hE0)] at hV
  rw [hE0, List.append_nil] at hmz hF
  refine wp_skip ?_
  refine k5 ?_
  refine c_seq fun Q6 k6 t6 => ?_
  have hHR := hH
  refine c_flowz [0, 3, 4] [1, 2, 5, 6, 7, 8, 11] [9, 10] [12] [13, 14] (by kernel_rfl) (by kernel_rfl) fun hB => ?_
  refine ps hF rfl rfl rfl rfl (fun w => r_fieldaddr0 hF rfl rfl fd62_3) fun a hF => ?_
  refine ps hF rfl rfl rfl rfl (fun w => r_move hF rfl rfl) fun a hF => ?_
  refine ps hF rfl rfl rfl rfl (fun w => r_fieldaddr0 hF rfl rfl fd49_2) fun a hF => ?_
  refine fl_startz [74, 75, 78, 79, 72, 80, 10, 81, 82] hB (by kernel_rfl) hF ?_
  simp only [wo, hasN, Nat.reduceBEq, cond_true, cond_false] at hF ⊢
  refine fs1 rfl (by
   intro a w Lr hE hC hl
   replace hH := hH.ext hE
   have hF := hC.fr
   exact zl hF rfl (r_load hF rfl rfl fl34 (own_cell (i := 1) hH rfl rfl)) fun a' hF' => wpList_nil (fl_end hC hF' (Ext.refl _) rfl)) ?_
  refine fs (fun v w' => SetsR w' v (groupN m.auth)) rfl (fun _ _ _ he h => h.ext he) ?_ ?_
  ·
   intro a w Lr hE hC hl
   replace hH := hH.ext hE
   obtain ⟨_, s74, rfl⟩ := hl 74 (by decide) _ rfl
   replace hC := hC.more s74
   have hF := hC.fr
   refine zc hF rfl rfl fn26 (group_spec m.auth _ _ (huv.ext hH.below) hbu.len hbu.each (hG.ext hH.below)) ?_
   rintro v75 w' ⟨B, es, hB, hS, hK, hg⟩ a' hF'; have hE' := hB.below
   exact wpList_nil (fl_end hC hF' hE' (by rw [← hg]; exact sets_read hB hS hK (fun p hp => List.mem_append_left _ hp) (fun p hp => List.mem_append_right _ hp)))
  refine fs1 rfl (by
   intro a w Lr hE hC hl
   replace hH := hH.ext hE
   have hF := hC.fr
   exact zl hF rfl (r_load hF rfl rfl fl23 (own_cell (i := 2) hH rfl rfl)) fun a' hF' => wpList_nil (fl_end hC hF' (Ext.refl _) rfl)) ?_
  refine fs (fun v w' => ∃ dv B, v = .tuple #[.agg (setV ((soaN (groupN m.auth) R.2.2 q.cls).2.getD noSet) dv).toArray, .bool (soaN (groupN m.auth) R.2.2 q.cls).2.isSome, .int .i64 ((soaN (groupN m.auth) R.2.2 q.cls).1 : Nat)] ∧ Hp w w' B ∧ Sl 9 1 B dv ((soaN (groupN m.auth) R.2.2 q.cls).2.getD noSet).data.length (strV ((soaN (groupN m.auth) R.2.2 q.cls).2.getD noSet).data)) rfl (fun _ _ _ he h => let ⟨d, B, h1, h2, h3⟩ := h; ⟨d, B, h1, h2.ext he, h3⟩) ?_ ?_
  ·
   intro a w Lr hE hC hl
   replace hH := hH.ext hE
   obtain ⟨v75, s75, p75⟩ := hl 75 (by decide) _ rfl
   replace hC := hC.more s75
   obtain ⟨_, s78, rfl⟩ := hl 78 (by decide) _ rfl
   replace hC := hC.more s78
   have hF := hC.fr
   refine zc hF rfl rfl fn85 (soaFind_spec (groupN m.auth) v75 R.2.2 q.cls _ p75 hgu.len (by omega) hgu.name hgu.data) ?_
   rintro v79 w' ⟨dv, B, rfl, hB', hS'⟩ a' hF'; have hE' := hB'.below
   exact wpList_nil (fl_end hC hF' hE' (⟨dv, B, rfl, Hp.base hE hB', hS'⟩))
  refine fs (fun v w' => ∃ dv B, v = .tuple #[.agg (setV ((soaN (groupN m.auth) R.2.2 q.cls).2.getD noSet) dv).toArray, .bool (soaN (groupN m.auth) R.2.2 q.cls).2.isSome, .int .i64 ((soaN (groupN m.auth) R.2.2 q.cls).1 : Nat)] ∧ Hp w w' B ∧ Sl 9 1 B dv ((soaN (groupN m.auth) R.2.2 q.cls).2.getD noSet).data.length (strV ((soaN (groupN m.auth) R.2.2 q.cls).2.getD noSet).data)) rfl (fun _ _ _ he h => let ⟨d, B, h1, h2, h3⟩ := h; ⟨d, B, h1, h2.ext he, h3⟩) ?_ ?_
  ·
   intro a w Lr hE hC hl
   replace hH := hH.ext hE
   obtain ⟨v79, s79, p79⟩ := hl 79 (by decide) _ rfl
   replace hC := hC.more s79
   have hF := hC.fr
   refine zl hF rfl (r_move hF rfl rfl) fun a' hF' => wpList_nil (fl_end hC hF' (Ext.refl _) ?_)
   exact p79
  refine fs (fun v w' => ∃ dv B, v = .agg (setV ((soaN (groupN m.auth) R.2.2 q.cls).2.getD noSet) dv).toArray ∧ Hp w w' B ∧ Sl 9 1 B dv ((soaN (groupN m.auth) R.2.2 q.cls).2.getD noSet).data.length (strV ((soaN (groupN m.auth) R.2.2 q.cls).2.getD noSet).data)) rfl (fun _ _ _ he h => let ⟨d, B, h1, h2, h3⟩ := h; ⟨d, B, h1, h2.ext he, h3⟩) ?_ ?_
  ·
   intro a w Lr hE hC hl
   replace hH := hH.ext hE
   obtain ⟨v72, s72, p72⟩ := hl 72 (by decide) _ rfl
   replace hC := hC.more s72
   obtain ⟨dv, B, rfl, hB2, hS2⟩ := p72
   have hF := hC.fr
   refine zl hF rfl (r_extract hF rfl rfl rfl) fun a' hF' => wpList_nil (fl_end hC hF' (Ext.refl _) ?_)
   exact ⟨dv, B, rfl, hB2, hS2⟩
  refine fs (fun v w' => ∃ (g : Nat) (cs : Array Value), v = ptr g ∧ cs.size = 5 ∧ Hp w w' [(g, .cells cs 27 (0, 0))]) rfl (fun _ _ _ he h => let ⟨g, c, h1, h2, h3⟩ := h; ⟨g, c, h1, h2, h3.ext he⟩) ?_ ?_
  ·
   intro a w Lr hE hC hl
   replace hH := hH.ext hE
   have hF := hC.fr
   refine ls_alloc hF (Hp.refl _) rfl rfl rfl rfl zv27 ?_
   intro a' w' g hH' hE' hF'
   exact wpList_nil (fl_end hC hF' hE' ⟨_, _, rfl, rfl, Hp.base hE hH'⟩)
  refine fy (fun v w' => v = .bool (soaN (groupN m.auth) R.2.2 q.cls).2.isSome) rfl (fun _ _ _ _ h => h) ?_ ?_
  ·
   intro a w Lr hE hC hl
   replace hH := hH.ext hE
   obtain ⟨v72, s72, p72⟩ := hl 72 (by decide) _ rfl
   replace hC := hC.more s72
   obtain ⟨dv, B, rfl, hB2, hS2⟩ := p72
   have hF := hC.fr
   refine y_of (p := fun v w' => v = .bool (soaN (groupN m.auth) R.2.2 q.cls).2.isSome) (w := w) rfl rfl rfl (fun w => r_extract hF rfl rfl rfl) ?_
   exact rfl
  refine fy (fun v w' => v = .int .i64 ((soaN (groupN m.auth) R.2.2 q.cls).1 : Nat)) rfl (fun _ _ _ _ h => h) ?_ ?_
  ·
   intro a w Lr hE hC hl
   replace hH := hH.ext hE
   obtain ⟨v72, s72, p72⟩ := hl 72 (by decide) _ rfl
   replace hC := hC.more s72
   obtain ⟨dv, B, rfl, hB2, hS2⟩ := p72
   have hF := hC.fr
   refine y_of (p := fun v w' => v = .int .i64 ((soaN (groupN m.auth) R.2.2 q.cls).1 : Nat)) (w := w) rfl rfl rfl (fun w => r_extract hF rfl rfl rfl) ?_
   exact rfl
  intro a w hE hF hall
  replace hH := hH.ext hE
  obtain ⟨v72, s72, p72⟩ := hall 72 _ rfl
  replace hF := hF.more s72
  obtain ⟨v80, s80, p80⟩ := hall 80 _ rfl
  replace hF := hF.more s80
  obtain ⟨v10, s10, p10⟩ := hall 10 _ rfl
  replace hF := hF.more s10
  obtain ⟨v81, s81, p81⟩ := hall 81 _ rfl
  replace hF := hF.more s81
  obtain ⟨v82, s82, p82⟩ := hall 82 _ rfl
  replace hF := hF.more s82
  clear hall
  obtain ⟨dv, Bf, rfl, hBf, hSf⟩ := p80
  obtain ⟨g10, cs10, rfl, hcs10, q10⟩ := p10
  obtain rfl := p81
  obtain rfl := p82
  replace hH := hHR.join (hBf.pair q10 (fun p hp q hq => by
    rcases hSf.2 with ⟨_, _, rfl⟩ | ⟨gd, _, cur, _, rfl, _⟩
    · cases hq
    · rw [List.mem_singleton.1 hp, List.mem_singleton.1 hq]
      intro e; injection e with _ e2 _; exact absurd e2 (by decide)))
  simp only [List.cons_append, List.nil_append] at hH
  obtain ⟨fad, fcp, rfl⟩ := hSf.shape
  refine ls_storeagg 0 hF hH rfl rfl rfl rfl rfl ti27 rfl (hcs10) (rfl) (by simp [setV, cells_agg, Value.oneCell']) ?_
  intro w hH
  simp only [List.set_cons_zero] at hH
  refine wpList_nil ?_
  refine ps hF rfl rfl rfl rfl (fun w => r_assign hF rfl rfl) fun a hF => ?_
  refine ps hF rfl rfl rfl rfl (fun w => r_assign hF rfl rfl) fun a hF => ?_
  replace hF := hF.sel [4, 5, 6, 10, 11]
  simp only [ss, Nat.reduceBEq] at hF
  generalize hSS : soaN (groupN m.auth) R.2.2 q.cls = S at *
  replace hH := hH.perm (((List.Perm.cons _ List.perm_middle).trans (List.Perm.swap _ _ _)).symm)
  refine k6 ?_
  refine c_seq fun Q7 k7 t7 => ?_
  refine c_block fun Q8 t8 => ?_
  refine c_sr fun ops => ?_
  refine zm 1 hF rfl fun a hF => ?_
  refine zb hF rfl rfl rfl (b_nen _ _ _ 0) fun a hF => ?_
  refine zm 1 hF rfl fun a hF => ?_
  refine c_n ?_
  replace hF := hF.sel [4, 5, 6, 10, 11, 83]
  simp only [ss, Nat.reduceBEq] at hF
  refine c_if hF rfl (fun h83 => ?_) (fun h83 => ?_)
  ·
   try simp only [qq] at h83
   rw [if_pos h83] at hV
   refine c_sr fun ops => ?_
   refine zl hF rfl (r_build hF rfl rfl (bd65 _)) fun a hF => ?_
   refine zm 1 hF rfl fun a hF => ?_
   refine ls_storeagg 0 hF hH rfl rfl rfl rfl rfl ti65 rfl (rfl) (rfl) (by simp [Value.oneCell']) ?_
   intro w hH
   refine zm 2 hF rfl fun a hF => ?_
   refine c_n ?_
   replace hF := hF.sel [4, 5, 6]
   simp only [ss, Nat.reduceBEq] at hF
   refine wp_ret (t8.ret (t7.ret (hret (retc3 (fn := Tryz.f40) (t := 4) (u := 5) (x := 6) (i := 0) hF hH Tryz.results40 rfl rfl rfl (by kernel_rfl) ti65 rfl rfl ?_))))
   rw [hV]; exact ⟨_, _, rfl, verdO_no hH.below 0⟩
  try simp only [qq] at h83
  rw [if_neg (fun e => e h83)] at hV
  refine c_sr fun ops => ?_
  refine zm 1 hF rfl fun a hF => ?_
  refine zl hF rfl (r_not hF rfl rfl) fun a hF => ?_
  refine zm 1 hF rfl fun a hF => ?_
  refine c_n ?_
  replace hF := hF.sel [4, 5, 10, 88]
  simp only [ss, Nat.reduceBEq] at hF
  refine c_if hF rfl (fun h88 => ?_) (fun h88 => ?_)
  ·
   try simp only [qq] at h88
   have hs2 : S.2 = none := by simpa using h88
   rw [hs2] at hV
   refine c_sr fun ops => ?_
   refine zl hF rfl (r_loadagg hF rfl rfl Tryz.underlying65 ti65 rfl (own_agg (i := 0) hH rfl)) fun a hF => ?_
   refine ls_storeagg 0 hF hH rfl rfl rfl rfl rfl ti65 rfl (rfl) (rfl) (by simp [Value.oneCell']) ?_
   intro w hH
   refine zm 2 hF rfl fun a hF => ?_
   refine c_n ?_
   replace hF := hF.sel [4, 5, 6]
   simp only [ss, Nat.reduceBEq] at hF
   refine wp_ret (t8.ret (t7.ret (hret (retc3 (fn := Tryz.f40) (t := 4) (u := 5) (x := 6) (i := 0) hF hH Tryz.results40 rfl rfl rfl (by kernel_rfl) ti65 rfl rfl ?_))))
   rw [hV]
   refine ⟨_, _, rfl, Bt, (es1 ++ es2).map zeroE, [], [], ?_, hSt', zeroE_ok hK12, hmz, Sl.nil _ _, fun _ h => (List.not_mem_nil h).elim, rfl⟩
   rw [zeroE_B, entB_append, entB_nil, List.append_nil, List.append_nil]
   simp only [List.set_cons_zero] at hH
   exact (hH.drop.drop.sub (List.sublist_append_right Bf _)).drop.drop
  try simp only [qq] at h88
  obtain ⟨s, hs2⟩ : ∃ s, S.2 = some s := Option.isSome_iff_exists.1 (by simpa using h88)
  rw [hs2] at hV
  simp only [hs2, Option.getD_some] at hF hH hSf
  have hsm : s ∈ groupN m.auth := soaN_mem (nm := R.2.2) (cls := q.cls) (by rw [hSS]; exact hs2)
  refine wp_skip ?_
  refine t8.norm ?_
  refine k7 ?_
  refine c_sr fun ops => ?_
  refine zm 1 hF rfl fun a hF => ?_
  refine zl hF rfl (r_loadagg hF rfl rfl Tryz.underlying27 ti27 rfl (own_agg (i := 1) hH rfl)) fun a hF => ?_
  refine zc hF rfl rfl fn86 (soaTime_spec s _ _ (hSf.rsl hH (fun p hp => List.mem_cons_of_mem _ (List.mem_cons_of_mem _ (List.mem_append_left _ hp)))) (hgu.data s hsm) (hgu.each s hsm) (hG.ext hH.below)) ?_
  rintro _ w ⟨rfl, hE⟩ a hF
  replace hH := hH.ext hE
  refine zl hF rfl (r_minn hF rfl rfl rfl) fun a hF => ?_
  refine zm 1 hF rfl fun a hF => ?_
  refine c_n ?_
  replace hF := hF.sel [4, 5, 10]
  simp only [ss, Nat.reduceBEq] at hF
  refine c_sr fun ops => ?_
  refine zl hF rfl (r_loadagg hF rfl rfl Tryz.underlying27 ti27 rfl (own_agg (i := 1) hH rfl)) fun a hF => ?_
  refine ls_build1 hF hH rfl rfl rfl rfl rfl Tryz.underlying22 ti27 rfl (by decide) ?_
  intro a w g18_1 hH hE hF
  simp only [cells_agg] at hH
  refine zc hF rfl rfl fn84 (timeless_spec [((s, .slice fad s.data.length fcp, Bf) : Ent)] _ 0 _ (rsl_lit (n := 1) (size := 5) hH rfl (by decide)) (entV_one fun e he => by rw [List.mem_singleton.1 he]; rfl) (show 1 < 1000000 by decide)) ?_
  rintro _ w ⟨rv2, Bt2, rfl, hBt2, hSt2⟩ a hF
  replace hH := hH.join hBt2
  refine zm 3 hF rfl fun a hF => ?_
  refine zl hF rfl (r_fieldaddr0 hF rfl rfl fd65_2) fun a hF => ?_
  obtain ⟨sad, scp, rfl⟩ := hSt2.shape
  replace hH := hH.perm ((((List.perm_middle).trans (List.Perm.cons _ List.perm_middle)).trans (List.Perm.swap _ _ _)).symm)
  refine ls_store 0 hF hH rfl rfl rfl rfl rfl fl22 ti22 rfl (by simp) (by simp [noFreeze]) (rfl) ?_
  intro w hH
  simp only [List.set_cons_zero] at hH
  refine c_n ?_
  replace hF := hF.sel [4, 5]
  simp only [ss, Nat.reduceBEq] at hF
  refine c_sr fun ops => ?_
  refine zl hF rfl (r_loadagg hF rfl rfl Tryz.underlying65 ti65 rfl (own_agg (i := 0) hH rfl)) fun a hF => ?_
  refine zm 1 hF rfl fun a hF => ?_
  refine ls_storeagg 0 hF hH rfl rfl rfl rfl rfl ti65 rfl (rfl) (rfl) (by simp [Value.oneCell']) ?_
  intro w hH
  refine zm 2 hF rfl fun a hF => ?_
  refine c_n ?_
  replace hF := hF.sel [4, 5, 6]
  simp only [ss, Nat.reduceBEq] at hF
  refine wp_ret (hret (retc3 (fn := Tryz.f40) (t := 4) (u := 5) (x := 6) (i := 0) hF hH Tryz.results40 rfl rfl rfl (by kernel_rfl) ti65 rfl rfl ?_))
  rw [hV]
  refine ⟨_, _, rfl, Bt, (es1 ++ es2).map zeroE, Bt2, [((s, .slice fad s.data.length fcp, Bf) : Ent)].map zeroE, ?_, hSt', zeroE_ok hK12, hmz, hSt2, zeroE_ok (fun e he => by rw [List.mem_singleton.1 he]; exact hSf), rfl⟩
  rw [zeroE_B, zeroE_B, entB_append]
  simp only [List.set_cons_zero] at hH
  have h2 := hH.drop.drop.fromB.drop
  rw [← List.append_assoc] at h2
  have h3 := h2.fromB.drop.fromB.drop
  exact h3.of [] (by classical
    rw [List.perm_iff_count]; intro x; simp only [List.count_append, List.count_cons, List.count_nil, entB_cons, entB_nil]; omega)
end Go.Proofs.YtcelgjabccgnmaaGreatDoor
