/-
  The walks of chain.own and chain.target. Nothing is claimed here.
  The walk of chain.Follow. Nothing is claimed here.
  The walk of hustingsref09.Follow. Nothing is claimed here.
-/
import Derived.Test.YtcelgjabccgnmaaGreatDoorKit2
import Derived.Test.YtcelgjabccgnmaaGreatDoorChainL
import Derived.Scope
namespace Go.Proofs.YtcelgjabccgnmaaGreatDoor
open Go.RowKit
set_option linter.unusedVariables false
set_option linter.unusedSimpArgs false
set_option maxHeartbeats 1000000

section
variable {P : Program} {Q : Exit → Act → World → Prop} {a : Act} {w w0 : World} {N : Nat} {L : List (Nat × Value)} {H : List (Nat × Obj)}
theorem c_scope {c : Code} (h : ∀ Q1 : Exit → Act → World → Prop, (∀ {a w}, Q .normal a w → Q1 .normal a w) → Thru Q Q1 → c.wp P Q1 a w) : (Code.scope c).wp P Q a w :=
  wp_scope_straight (h (Exit.noGoto Q) (fun h => h) ⟨fun h => h, fun h => h, fun h => h⟩)
end
/-- What is one's own, but for some blocks, in another row. -/
theorem Hp.of {w0 w : World} {H H' : List (Nat × Obj)} (h : Hp w0 w H) (R : List (Nat × Obj)) (hp : (R ++ H').Perm H) : Hp w0 w H' := (h.perm hp).sub (List.sublist_append_right _ _)

theorem own_spec (s : RSet) (dv : Value) (w0 : World) (hv : RSl w0 1 dv s.data.length (strV s.data)) (hl : s.data.length < 1000000) :
    Rets Tryz.prog 80 [.agg (setV s dv).toArray] w0 fun r w' => ∃ dv2 B, r = .agg (setV s dv2).toArray ∧ Hp w0 w' B ∧ Sl 9 1 B dv2 s.data.length (strV s.data) := by
  have hH := Hp.refl w0
  refine rets_start Tryz.func80 rfl Tryz.ntmps80 rfl fun a Q0 hF hret hend => ?_
  simp only [argsFrom, Nat.zero_add, Nat.reduceAdd] at hF
  refine c_sr fun ops => ?_
  refine ls_box hF hH rfl rfl rfl rfl rfl ?_
  intro a w g0_0 hH hE hF
  refine ls_alloc hF hH rfl rfl rfl rfl zv27 ?_
  intro a w g0_1 hH hE hF
  refine c_n ?_
  replace hF := hF.sel [1, 2]
  simp only [ss, Nat.reduceBEq] at hF
  refine c_sr fun ops => ?_
  refine zl hF rfl (r_fieldaddr0 hF rfl rfl fd27_4) fun a hF => ?_
  refine zl hF rfl (r_load hF rfl rfl fl25 (own_cell (i := 1) hH rfl rfl)) fun a hF => ?_
  refine zc hF rfl rfl fn53 (clone_spec (hv.ext hH.below) hl) ?_
  rintro dv2 w ⟨B, hB, hS⟩ a hF
  replace hH := (hH.join hB).fromB2
  refine zl hF rfl (r_fieldaddr0 hF rfl rfl fd27_4) fun a hF => ?_
  refine ls_store 1 hF hH rfl rfl rfl rfl rfl fl25 ti25 rfl (by simp [setV, cells_agg]) (by simp [noFreeze]) (hS.one) ?_
  intro w hH
  simp only [List.set_cons_succ, List.set_cons_zero, List.append_nil] at hH
  refine c_n ?_
  replace hF := hF.sel [1, 2]
  simp only [ss, Nat.reduceBEq] at hF
  refine c_sr fun ops => ?_
  refine zl hF rfl (r_loadagg hF rfl rfl Tryz.underlying27 ti27 rfl (own_agg (i := 1) hH rfl)) fun a hF => ?_
  refine ls_storeagg 0 hF hH rfl rfl rfl rfl rfl ti27 rfl (rfl) (rfl) (by have := hS.shape; obtain ⟨_, _, rfl⟩ := this; simp [setV, cells_agg, Value.oneCell']) ?_
  intro w hH
  refine c_n ?_
  replace hF := hF.sel [2]
  simp only [ss, Nat.reduceBEq] at hF
  refine wp_ret (hret (retc1 (fn := Tryz.f80) (t := 2) (i := 0) hF hH Tryz.results80 rfl (by kernel_rfl) ti27 rfl rfl ?_))
  exact ⟨dv2, B, rfl, hH.sub (.cons _ (.cons _ (List.Sublist.refl _))), hS⟩

theorem target_spec (s : RSet) (dv : Value) (w0 : World) (hv : RSl w0 1 dv s.data.length (strV s.data)) (hl : s.data.length < 1000000) (hd : ∀ d ∈ s.data, d.length < 1000000) (hG : GW w0) :
    Rets Tryz.prog 78 [.agg (setV s dv).toArray] w0 fun r w' => r = .tuple #[.string (mk ((targetS s).getD [])), .bool (targetS s).isSome] ∧ Ext w0 w' := by
  have hH := Hp.refl w0
  obtain ⟨ad, ca, rfl⟩ := hv.shape
  refine rets_start Tryz.func78 rfl Tryz.ntmps78 rfl fun a Q0 hF hret hend => ?_
  simp only [argsFrom, Nat.zero_add, Nat.reduceAdd] at hF
  refine c_sr fun ops => ?_
  refine ls_box hF hH rfl rfl rfl rfl rfl ?_
  intro a w g0_0 hH hE hF
  refine zm 2 hF rfl fun a hF => ?_
  refine c_n ?_
  replace hF := hF.sel [1]
  simp only [ss, Nat.reduceBEq] at hF
  refine c_seq fun Q1 k1 t1 => ?_
  refine c_sg ?_
  refine zl hF rfl (r_fieldaddr0 hF rfl rfl fd27_4) fun a hF => ?_
  refine zl hF rfl (r_load hF rfl rfl fl25 (own_cell (i := 0) hH rfl rfl)) fun a hF => ?_
  refine zl hF rfl (r_len_sl hF rfl rfl Tryz.underlying25) fun a hF => ?_
  refine zb hF rfl rfl rfl (b_nen _ _ _ 1) fun a hF => ?_
  refine zm 1 hF rfl fun a hF => ?_
  refine ls_ask (d := 8) hF rfl (fun g1_4 => ?_) (fun g1_4 => ?_)
  ·
   have g1_4' := g1_4; try simp only [qq] at g1_4'
   have ht : targetS s = none := by unfold targetS; rw [if_neg (fun e => g1_4' e.1)]
   refine zn hF rfl g1_4 fun a hF => ?_
   refine zn hF rfl g1_4 fun a hF => ?_
   refine zn hF rfl g1_4 fun a hF => ?_
   refine zn hF rfl g1_4 fun a hF => ?_
   refine zn hF rfl g1_4 fun a hF => ?_
   refine zn hF rfl g1_4 fun a hF => ?_
   refine zl hF rfl (r_pickt hF rfl rfl g1_4 rfl) fun a hF => ?_
   refine c_n ?_
   replace hF := hF.sel [1, 15]
   simp only [ss, Nat.reduceBEq] at hF
   refine c_yes hF rfl rfl ?_
   refine c_sr fun ops => ?_
   refine zm 2 hF rfl fun a hF => ?_
   refine c_n ?_
   replace hF := hF.sel [2, 3]
   simp only [ss, Nat.reduceBEq] at hF
   refine wp_ret (t1.ret (hret (ret2 hF Tryz.results78 rfl rfl ?_)))
   exact ⟨by rw [ht]; rfl, hH.below⟩
  have g1_4' := g1_4; try simp only [qq] at g1_4'
  obtain ⟨b, off, had, hc⟩ := hv.at (i := 0) (by omega)
  have hd0 : s.data.getD 0 [] ∈ s.data := by rw [List.getD_eq_getElem?_getD, List.getElem?_eq_getElem (show 0 < s.data.length by omega)]; exact List.getElem_mem _
  have hdl := hd _ hd0
  rw [had] at hH
  refine zy hF rfl g1_4 (r_fieldaddr0 hF rfl rfl fd27_4) fun a hF => ?_
  refine zy hF rfl g1_4 (r_load hF rfl rfl fl25 (own_cell (i := 0) hH rfl rfl)) fun a hF => ?_
  refine zy hF rfl g1_4 (r_ix1 hF 0 rfl rfl rfl Tryz.underlying25 ti9 (by omega)) fun a hF => ?_
  refine zy hF rfl g1_4 (r_load hF rfl rfl fl9 (hH.cell hc)) fun a hF => ?_
  refine zyc hF rfl g1_4 rfl fn57 (dmay_spec _ _ hdl _ (hG.ext hH.below)) ?_
  rintro _ w ⟨rfl, hE⟩ a hF
  replace hH := hH.ext hE
  refine zy hF rfl g1_4 (r_not hF rfl rfl) fun a hF => ?_
  refine zl hF rfl (r_pickf hF rfl rfl g1_4 rfl) fun a hF => ?_
  refine c_n ?_
  replace hF := hF.sel [1, 15]
  simp only [ss, Nat.reduceBEq] at hF
  refine c_if hF rfl (fun h15 => ?_) (fun h15 => ?_)
  ·
   try simp only [qq] at h15
   have hm0 : dmayB 5 (s.data.getD 0 []) = false := h15
   rw [dmay_named rfl] at hm0
   have ht : targetS s = none := by unfold targetS; rw [if_neg (fun e => by rw [hm0] at e; cases e.2)]
   refine c_sr fun ops => ?_
   refine zm 2 hF rfl fun a hF => ?_
   refine c_n ?_
   replace hF := hF.sel [2, 3]
   simp only [ss, Nat.reduceBEq] at hF
   refine wp_ret (t1.ret (hret (ret2 hF Tryz.results78 rfl rfl ?_)))
   exact ⟨by rw [ht]; rfl, hH.below⟩
  try simp only [qq] at h15
  have hm1 : dmayB 5 (s.data.getD 0 []) = true := h15
  rw [dmay_named rfl] at hm1
  have ht : targetS s = some (fold (s.data.getD 0 [])) := by unfold targetS; rw [if_pos ⟨g1_4', hm1⟩]
  refine wp_skip ?_
  refine k1 ?_
  refine c_sr fun ops => ?_
  refine zl hF rfl (r_fieldaddr0 hF rfl rfl fd27_4) fun a hF => ?_
  refine zl hF rfl (r_load hF rfl rfl fl25 (own_cell (i := 0) hH rfl rfl)) fun a hF => ?_
  refine zl hF rfl (r_ix1 hF 0 rfl rfl rfl Tryz.underlying25 ti9 (by omega)) fun a hF => ?_
  refine zl hF rfl (r_load hF rfl rfl fl9 (hH.cell hc)) fun a hF => ?_
  refine zc hF rfl rfl fn37 (fold_spec _ (by omega) _) ?_
  rintro _ w ⟨rfl, hE⟩ a hF
  replace hH := hH.ext hE
  refine zm 2 hF rfl fun a hF => ?_
  refine c_n ?_
  replace hF := hF.sel [2, 3]
  simp only [ss, Nat.reduceBEq] at hF
  refine wp_ret (hret (ret2 hF Tryz.results78 rfl rfl ?_))
  exact ⟨by rw [ht]; rfl, hH.below⟩
end Go.Proofs.YtcelgjabccgnmaaGreatDoor
namespace Go.Proofs.YtcelgjabccgnmaaGreatDoor
open Go.RowKit
set_option linter.unusedVariables false
set_option linter.unusedSimpArgs false
set_option maxHeartbeats 1000000

/-- A question's cells. -/
def queV (nm : Bs) (kind cls : Nat) : List Value := [.string (mk nm), .int .u16 kind, .int .u16 cls]
theorem follow_err {l : List RSet} {kind cls f : Nat} {p : Bs} {met : List Bs} {ch : List RSet} (hk : kind ≠ 5) (hi : (findS l p 5 cls).isSome = true) (hf : ch.length + f = 8) :
    followG l kind cls f p met ch = if ch.length = 8 then (5, [], []) else if (targetS ((findS l p 5 cls).getD noSet)).isNone = true ∨ (findS l p kind cls).isSome = true then (3, [], [])
      else if (targetS ((findS l p 5 cls).getD noSet)).getD [] ∈ met then (8, [], []) else followG l kind cls (f - 1) ((targetS ((findS l p 5 cls).getD noSet)).getD []) (met ++ [(targetS ((findS l p 5 cls).getD noSet)).getD []]) (ch ++ [(findS l p 5 cls).getD noSet]) := by
  cases f with
  | zero => rw [if_pos (by omega)]; unfold followG; rw [if_neg hk, if_pos hi]
  | succ f => rw [if_neg (by omega)]; rw [followG, if_neg hk, if_pos hi]; rfl
theorem entB_nil : entB [] = [] := rfl
theorem follow_stop {l : List RSet} {kind cls f : Nat} {p : Bs} {met : List Bs} {ch : List RSet} (h : kind = 5 ∨ (findS l p 5 cls).isSome = false) : followG l kind cls f p met ch = (0, ch, p) := by
  cases f <;> unfold followG <;> rcases h with h | h <;> simp [h]

theorem row1 (g : Nat) (e : Ent) : Sl 27 5 [(g, .cells (setV e.1 e.2.1).toArray 27 (0, 0))] (.slice (some ⟨g, 0, none⟩) 1 1) [e].length (entV [e]) := ⟨rfl, .inr ⟨g, 1, _, rfl, rfl, Nat.le_refl _, by unfold maxLen; omega, rfl, by simp [entV, setV]⟩⟩
theorem follow_spec (nm : Bs) (kind cls : Nat) (l : List RSet) (v : Value) (w0 : World) (hR : SetsR w0 v l) (hl : l.length < 1000000) (hn : nm.length < 1000000) (hnm : ∀ s ∈ l, s.name.length < 1000000) (hdm : ∀ s ∈ l, s.data.length < 1000000) (hdd : ∀ s ∈ l, ∀ d ∈ s.data, d.length < 1000000) (hG : GW w0) :
    Rets Tryz.prog 36 [.agg (queV nm kind cls).toArray, v] w0
      fun r w' => ∃ cv ev B1 es1 B2 es2, r = .tuple #[cv, .string (mk (followC nm kind cls l).2.2), ev, .int .i64 ((followC nm kind cls l).1 : Nat)] ∧ Hp w0 w' ((B1 ++ entB es1) ++ (B2 ++ entB es2)) ∧
        Sl 27 5 B1 cv es1.length (entV es1) ∧ EntOk es1 ∧ es1.map (·.1) = (followC nm kind cls l).2.1 ∧ Sl 27 5 B2 ev es2.length (entV es2) ∧ EntOk es2 ∧ es2.map (·.1) = endsOf (followC nm kind cls l) kind cls l := by
  have hH := Hp.refl w0
  refine rets_start Tryz.func36 rfl Tryz.ntmps36 rfl fun a Q0 hF hret hend => ?_
  simp only [argsFrom, Nat.zero_add, Nat.reduceAdd] at hF
  refine c_sr fun ops => ?_
  refine ls_box hF hH rfl rfl rfl rfl rfl ?_
  intro a w g0_0 hH hE hF
  refine zm 4 hF rfl fun a hF => ?_
  refine c_n ?_
  replace hF := hF.sel [1, 2, 4, 6, 7]
  simp only [ss, Nat.reduceBEq] at hF
  refine c_scope fun Q1 k1 t1 => ?_
  refine c_seq fun Q2 k2 t2 => ?_
  simp only [cells_agg] at hH
  refine c_sr fun ops => ?_
  refine zl hF rfl (r_fieldaddr0 hF rfl rfl fd49_0) fun a hF => ?_
  refine zl hF rfl (r_load hF rfl rfl fl9 (own_cell (i := 0) hH rfl rfl)) fun a hF => ?_
  refine zc hF rfl rfl fn56 (may_spec _ (by omega) _) ?_
  rintro _ w ⟨rfl, hE⟩ a hF
  replace hH := hH.ext hE
  refine zl hF rfl (r_not hF rfl rfl) fun a hF => ?_
  refine c_n ?_
  replace hF := hF.sel [1, 2, 4, 6, 7, 20]
  simp only [ss, Nat.reduceBEq] at hF
  refine c_if hF rfl (fun h20 => ?_) (fun h20 => ?_)
  ·
   try simp only [qq] at h20
   have hF0 : followC nm kind cls l = (1, [], []) := by unfold followC; rw [if_neg (by simp [h20])]
   refine c_sr fun ops => ?_
   refine zm 4 hF rfl fun a hF => ?_
   refine c_n ?_
   replace hF := hF.sel [4, 5, 6, 7]
   simp only [ss, Nat.reduceBEq] at hF
   refine wp_ret (t2.ret (t1.ret (hret (ret4 hF Tryz.results36 rfl rfl rfl rfl ?_))))
   exact ⟨_, _, [], [], [], [], by rw [hF0]; rfl, hH.sub (List.nil_sublist _), Sl.nil _ _, fun _ h => (List.not_mem_nil h).elim, by rw [hF0]; rfl, Sl.nil _ _, fun _ h => (List.not_mem_nil h).elim, by rw [hF0]; rfl⟩
  try simp only [qq] at h20
  have hF0 : followC nm kind cls l = followG l kind cls 8 (fold nm) [fold nm] [] := by unfold followC; rw [if_pos (by simpa using h20)]
  refine wp_skip ?_
  refine k2 ?_
  refine c_sr fun ops => ?_
  refine zl hF rfl (r_fieldaddr0 hF rfl rfl fd49_0) fun a hF => ?_
  refine zl hF rfl (r_load hF rfl rfl fl9 (own_cell (i := 0) hH rfl rfl)) fun a hF => ?_
  refine zc hF rfl rfl fn37 (fold_spec _ (by omega) _) ?_
  rintro _ w ⟨rfl, hE⟩ a hF
  replace hH := hH.ext hE
  refine zm 1 hF rfl fun a hF => ?_
  refine c_n ?_
  replace hF := hF.sel [1, 2, 4, 5, 6, 7]
  simp only [ss, Nat.reduceBEq] at hF
  refine c_sr fun ops => ?_
  refine zm 1 hF rfl fun a hF => ?_
  refine ls_build1 hF hH rfl rfl rfl rfl rfl Tryz.underlying25 ti9 rfl (by decide) ?_
  intro a w g4_1 hH hE hF
  refine zm 1 hF rfl fun a hF => ?_
  refine c_n ?_
  replace hF := hF.sel [1, 2, 4, 5, 6, 7, 8]
  simp only [ss, Nat.reduceBEq] at hF
  have hM : Sl 9 1 [(g4_1, .cells (Value.string (mk (fold nm))).cells 9 (0, 0))] (.slice (some ⟨g4_1, 0, none⟩) 1 1) 1 (strV [fold nm]) := ⟨rfl, .inr ⟨_, 1, _, rfl, rfl, Nat.le_refl _, by unfold maxLen; omega, rfl, rfl⟩⟩
  refine c_seq fun Q3 k3 t3 => ?_
  refine wp_label ?_
  refine k3 ?_
  refine c_cut (fun a w => ∃ p ch es B rv, followC nm kind cls l = (0, ch, p) ∧ Fr 101 [(1, v), (2, ptr g0_0), (4, rv), (5, .string (mk p)), (6, .slice none 0 0)] a ∧ Hp w0 w ((g0_0, .cells (queV nm kind cls).toArray 49 (0, 0)) :: (B ++ entB es)) ∧ Sl 27 5 B rv es.length (entV es) ∧ EntOk es ∧ es.map (·.1) = ch ∧ p.length ≤ 255) (fun Q4 k4 t4 => ?_) ?_
  ·
   refine c_block fun Q5 t5 => ?_
   refine c_loop (fun n a w => ∃ p met ch es B rv B' mv, ch.length + n = 8 ∧ followG l kind cls n p met ch = followC nm kind cls l ∧ Fr 101 [(1, v), (2, ptr g0_0), (4, rv), (5, .string (mk p)), (6, .slice none 0 0), (7, .int .i64 (0 : Nat)), (8, mv)] a ∧ Hp w0 w ((g0_0, .cells (queV nm kind cls).toArray 49 (0, 0)) :: (B' ++ (B ++ entB es))) ∧ Sl 9 1 B' mv met.length (strV met) ∧ Sl 27 5 B rv es.length (entV es) ∧ EntOk es ∧ es.map (·.1) = ch ∧ p.length ≤ 255 ∧ met.length = ch.length + 1) ?_ ?_
   ·
    exact ⟨8, fold nm, [fold nm], [], [], [], _, _, _, rfl, hF0.symm, hF.keep [1, 2, 4, 5, 6, 7, 8] rfl, hH.of [] (by classical
      rw [List.perm_iff_count]; intro x; simp only [List.count_append, List.count_cons, List.count_nil, entB_nil]; omega), hM, Sl.nil _ _, fun _ h => (List.not_mem_nil h).elim, rfl, fold_le255 _, rfl⟩
   clear hH hF hM
   intro n a w hI Q6 k6 t6
   obtain ⟨p, met, ch, es, B, rv, B', mv, hfu, hfo, hF, hH, hM, hS, hK, hch, hpl, hml⟩ := hI
   obtain ⟨rad, rcp, rfl⟩ := hS.shape
   have hdv1 := findS_all (n := p) (kind := 5) (cls := cls) hdm (by decide)
   have hdv2 := findS_all (n := p) (kind := 5) (cls := cls) (p := fun s => ∀ d ∈ s.data, d.length < 1000000) hdd (by intro d hd; cases hd)
   generalize hs0 : (findS l p 5 cls).getD noSet = s0 at *
   refine c_block fun Q7 t7 => ?_
   refine c_sr fun ops => ?_
   refine zm 2 hF rfl fun a hF => ?_
   refine zl hF rfl (r_fieldaddr0 hF rfl rfl fd49_2) fun a hF => ?_
   refine zl hF rfl (r_load hF rfl rfl fl23 (own_cell (i := 0) hH rfl rfl)) fun a hF => ?_
   refine zc hF rfl rfl fn18 (find_spec l v p 5 cls _ (hR.ext hH.below) hl (by omega) hnm hdm) ?_
   rintro _ w ⟨dv, Bs, rfl, hB, hSs⟩ a hF
   replace hH := hH.join hB
   rw [hs0] at hSs hF
   refine zm 3 hF rfl fun a hF => ?_
   refine ls_alloc hF hH rfl rfl rfl rfl zv27 ?_
   intro a w g5_8 hH hE hF
   refine ls_storeagg 0 hF hH rfl rfl rfl rfl rfl ti27 rfl (rfl) (rfl) (by have := hSs.shape; obtain ⟨_, _, rfl⟩ := this; simp [setV, cells_agg, Value.oneCell']) ?_
   intro w hH
   simp only [List.set_cons_zero] at hH
   refine zm 1 hF rfl fun a hF => ?_
   refine c_n ?_
   replace hH := hH.perm (.cons _ List.perm_middle.symm)
   refine c_sr fun ops => ?_
   refine zm 2 hF rfl fun a hF => ?_
   refine zl hF rfl (r_fieldaddr0 hF rfl rfl fd49_1) fun a hF => ?_
   refine zl hF rfl (r_load hF rfl rfl fl23 (own_cell (i := 1) hH rfl rfl)) fun a hF => ?_
   refine zl hF rfl (r_fieldaddr0 hF rfl rfl fd49_2) fun a hF => ?_
   refine zl hF rfl (r_load hF rfl rfl fl23 (own_cell (i := 1) hH rfl rfl)) fun a hF => ?_
   refine zc hF rfl rfl fn18 (find_spec l v p kind cls _ (hR.ext hH.below) hl (by omega) hnm hdm) ?_
   rintro _ w ⟨dv2, Bs2, rfl, hB2, hSs2⟩ a hF
   replace hH := hH.join hB2
   refine zm 3 hF rfl fun a hF => ?_
   refine ls_alloc hF hH rfl rfl rfl rfl zv27 ?_
   intro a w g6_10 hH hE hF
   refine ls_storeagg 0 hF hH rfl rfl rfl rfl rfl ti27 rfl (rfl) (rfl) (by have := hSs2.shape; obtain ⟨_, _, rfl⟩ := this; simp [setV, cells_agg, Value.oneCell']) ?_
   intro w hH
   simp only [List.set_cons_zero] at hH
   refine zm 1 hF rfl fun a hF => ?_
   refine c_n ?_
   replace hH := hH.sub ((List.sublist_append_right _ _).cons _)
   refine c_sr fun ops => ?_
   refine zl hF rfl (r_loadagg hF rfl rfl Tryz.underlying27 ti27 rfl (own_agg (i := 0) hH rfl)) fun a hF => ?_
   have hvs := hSs.rsl hH (fun p hp => List.mem_cons_of_mem _ (List.mem_cons_of_mem _ (List.mem_append_left _ hp)))
   refine zc hF rfl rfl fn78 (target_spec s0 dv _ hvs hdv1 hdv2 (hG.ext hH.below)) ?_
   rintro _ w ⟨rfl, hE⟩ a hF
   replace hH := hH.ext hE
   refine zm 5 hF rfl fun a hF => ?_
   refine c_n ?_
   refine c_cut (fun a w => ∃ e : Nat, Fr 101 [(1, v), (2, ptr g0_0), (4, .slice rad es.length rcp), (5, .string (mk p)), (6, .slice none 0 0), (7, .int .i64 (e : Nat)), (8, mv), (9, ptr g5_8), (13, .string (mk ((targetS s0).getD [])))] a ∧ Hp w0 w ((g5_8, .cells (setV s0 dv).toArray 27 (0, 0)) :: (g0_0, .cells (queV nm kind cls).toArray 49 (0, 0)) :: (Bs ++ (B' ++ (B ++ entB es)))) ∧ ((e ≠ 0 ∧ followC nm kind cls l = (e, [], [])) ∨ (e = 0 ∧ 0 < n ∧ followG l kind cls (n - 1) ((targetS s0).getD []) (met ++ [(targetS s0).getD []]) (ch ++ [s0]) = followC nm kind cls l))) (fun Q8 k8 t8 => ?_) ?_
   ·
    refine c_block fun Q9 t9 => ?_
    refine c_sg ?_
    refine zl hF rfl (r_fieldaddr0 hF rfl rfl fd49_1) fun a hF => ?_
    refine zl hF rfl (r_load hF rfl rfl fl23 (own_cell (i := 1) hH rfl rfl)) fun a hF => ?_
    refine zb hF rfl rfl rfl (b_eqn _ _ _ 5) fun a hF => ?_
    refine zm 1 hF rfl fun a hF => ?_
    refine ls_ask (d := 53) hF rfl (fun g8_3 => ?_) (fun g8_3 => ?_)
    ·
     have g8_3' := g8_3; try simp only [qq] at g8_3'
     have hst := follow_stop (l := l) (cls := cls) (f := n) (p := p) (met := met) (ch := ch) (.inl g8_3')
     refine zn hF rfl g8_3 fun a hF => ?_
     refine zn hF rfl g8_3 fun a hF => ?_
     refine zl hF rfl (r_pickt hF rfl rfl g8_3 rfl) fun a hF => ?_
     refine zm 1 hF rfl fun a hF => ?_
     refine c_n ?_
     refine c_yes hF rfl rfl ?_
     refine wp_exit (t9.exit (by decide) (t8.exit (t7.exit (by decide) (t6.exit (t5.here (?_))))))
     refine k4 ?_
     exact ⟨p, ch, es, B, _, by rw [← hfo, hst], hF.keep [1, 2, 4, 5, 6] rfl, hH.of ((g5_8, .cells (setV s0 dv).toArray 27 (0, 0)) :: (Bs ++ B')) (by classical
       rw [List.perm_iff_count]; intro x; simp only [List.count_append, List.count_cons, List.count_nil, entB_append, entB_cons, entB_nil]; omega), hS, hK, hch, hpl⟩
    have g8_3' := g8_3; try simp only [qq] at g8_3'
    refine zy hF rfl g8_3 (r_move hF rfl rfl) fun a hF => ?_
    refine zy hF rfl g8_3 (r_not hF rfl rfl) fun a hF => ?_
    refine zl hF rfl (r_pickf hF rfl rfl g8_3 rfl) fun a hF => ?_
    refine zm 1 hF rfl fun a hF => ?_
    refine c_n ?_
    refine c_if hF rfl (fun h49 => ?_) (fun h49 => ?_)
    ·
     try simp only [qq] at h49
     have hst := follow_stop (l := l) (kind := kind) (cls := cls) (f := n) (p := p) (met := met) (ch := ch) (.inr (by simpa using h49))
     refine wp_exit (t9.exit (by decide) (t8.exit (t7.exit (by decide) (t6.exit (t5.here (?_))))))
     refine k4 ?_
     exact ⟨p, ch, es, B, _, by rw [← hfo, hst], hF.keep [1, 2, 4, 5, 6] rfl, hH.of ((g5_8, .cells (setV s0 dv).toArray 27 (0, 0)) :: (Bs ++ B')) (by classical
       rw [List.perm_iff_count]; intro x; simp only [List.count_append, List.count_cons, List.count_nil, entB_append, entB_cons, entB_nil]; omega), hS, hK, hch, hpl⟩
    try simp only [qq] at h49
    have hfe := follow_err (met := met) g8_3' (by simpa using h49) hfu
    rw [hfo, hs0] at hfe
    have hel : es.length = ch.length := by rw [← hch]; simp
    refine c_sr fun ops => ?_
    refine zm 1 hF rfl fun a hF => ?_
    refine zl hF rfl (r_len_sl hF rfl rfl Tryz.underlying22) fun a hF => ?_
    refine zb hF rfl rfl rfl (b_eqn _ _ _ 8) fun a hF => ?_
    refine zm 1 hF rfl fun a hF => ?_
    refine c_n ?_
    refine c_if hF rfl (fun h57 => ?_) (fun h57 => ?_)
    ·
     try simp only [qq] at h57
     have hE5 : followC nm kind cls l = (5, [], []) := by rw [hfe, if_pos (by omega)]
     refine c_reg fun ops => ?_
     refine zm 1 hF rfl fun a hF => ?_
     refine wpList_nil ?_
     refine t9.norm ?_
     refine k8 ?_
     first
       | exact ⟨5, hF.keep [1, 2, 4, 5, 6, 7, 8, 9, 13] rfl, hH, .inl ⟨by decide, hE5⟩⟩
       | exact ⟨3, hF.keep [1, 2, 4, 5, 6, 7, 8, 9, 13] rfl, hH, .inl ⟨by decide, hE3⟩⟩
       | exact ⟨8, hF.keep [1, 2, 4, 5, 6, 7, 8, 9, 13] rfl, hH, .inl ⟨by decide, hE8⟩⟩
       | exact ⟨0, hF.keep [1, 2, 4, 5, 6, 7, 8, 9, 13] rfl, hH, .inr ⟨rfl, by omega, hE0⟩⟩
    try simp only [qq] at h57
    rw [if_neg (by omega)] at hfe
    refine c_sg ?_
    refine zm 1 hF rfl fun a hF => ?_
    refine zl hF rfl (r_not hF rfl rfl) fun a hF => ?_
    refine zm 1 hF rfl fun a hF => ?_
    refine ls_ask (d := 64) hF rfl (fun g11_2 => ?_) (fun g11_2 => ?_)
    ·
     have g11_2' := g11_2; try simp only [qq] at g11_2'
     have hE3 : followC nm kind cls l = (3, [], []) := by rw [hfe, if_pos (.inl (by simpa using g11_2'))]
     refine zn hF rfl g11_2 fun a hF => ?_
     refine zl hF rfl (r_pickt hF rfl rfl g11_2 rfl) fun a hF => ?_
     refine zm 1 hF rfl fun a hF => ?_
     refine c_n ?_
     refine c_yes hF rfl rfl ?_
     refine c_reg fun ops => ?_
     refine zm 1 hF rfl fun a hF => ?_
     refine wpList_nil ?_
     refine t9.norm ?_
     refine k8 ?_
     first
       | exact ⟨5, hF.keep [1, 2, 4, 5, 6, 7, 8, 9, 13] rfl, hH, .inl ⟨by decide, hE5⟩⟩
       | exact ⟨3, hF.keep [1, 2, 4, 5, 6, 7, 8, 9, 13] rfl, hH, .inl ⟨by decide, hE3⟩⟩
       | exact ⟨8, hF.keep [1, 2, 4, 5, 6, 7, 8, 9, 13] rfl, hH, .inl ⟨by decide, hE8⟩⟩
       | exact ⟨0, hF.keep [1, 2, 4, 5, 6, 7, 8, 9, 13] rfl, hH, .inr ⟨rfl, by omega, hE0⟩⟩
    have g11_2' := g11_2; try simp only [qq] at g11_2'
    refine zy hF rfl g11_2 (r_move hF rfl rfl) fun a hF => ?_
    refine zl hF rfl (r_pickf hF rfl rfl g11_2 rfl) fun a hF => ?_
    refine zm 1 hF rfl fun a hF => ?_
    refine c_n ?_
    refine c_if hF rfl (fun h61 => ?_) (fun h61 => ?_)
    ·
     try simp only [qq] at h61
     have hE3 : followC nm kind cls l = (3, [], []) := by rw [hfe, if_pos (.inr h61)]
     refine c_reg fun ops => ?_
     refine zm 1 hF rfl fun a hF => ?_
     refine wpList_nil ?_
     refine t9.norm ?_
     refine k8 ?_
     first
       | exact ⟨5, hF.keep [1, 2, 4, 5, 6, 7, 8, 9, 13] rfl, hH, .inl ⟨by decide, hE5⟩⟩
       | exact ⟨3, hF.keep [1, 2, 4, 5, 6, 7, 8, 9, 13] rfl, hH, .inl ⟨by decide, hE3⟩⟩
       | exact ⟨8, hF.keep [1, 2, 4, 5, 6, 7, 8, 9, 13] rfl, hH, .inl ⟨by decide, hE8⟩⟩
       | exact ⟨0, hF.keep [1, 2, 4, 5, 6, 7, 8, 9, 13] rfl, hH, .inr ⟨rfl, by omega, hE0⟩⟩
    try simp only [qq] at h61
    rw [if_neg (fun e => e.elim (fun e => by rw [Option.isNone_iff_eq_none] at e; rw [e] at g11_2'; cases g11_2') fun e => by rw [h61] at e; cases e)] at hfe
    refine c_sr fun ops => ?_
    refine zm 2 hF rfl fun a hF => ?_
    have hmr := hM.rsl hH (fun p hp => List.mem_cons_of_mem _ (List.mem_cons_of_mem _ (List.mem_append_right _ (List.mem_append_left _ hp))))
    refine zc hF rfl rfl fn79 (contains_spec ((targetS s0).getD []) hmr (by omega)) ?_
    rintro _ w ⟨rfl, hE⟩ a hF
    replace hH := hH.ext hE
    refine zm 1 hF rfl fun a hF => ?_
    refine c_n ?_
    refine c_fi hF rfl (fun h67 => ?_) (fun h67 => ?_)
    ·
     try simp only [qq] at h67
     have hE0 : followG l kind cls (n - 1) ((targetS s0).getD []) (met ++ [(targetS s0).getD []]) (ch ++ [s0]) = followC nm kind cls l := by rw [hfe, if_neg h67]
     refine wp_skip ?_
     refine t9.norm ?_
     refine k8 ?_
     first
       | exact ⟨5, hF.keep [1, 2, 4, 5, 6, 7, 8, 9, 13] rfl, hH, .inl ⟨by decide, hE5⟩⟩
       | exact ⟨3, hF.keep [1, 2, 4, 5, 6, 7, 8, 9, 13] rfl, hH, .inl ⟨by decide, hE3⟩⟩
       | exact ⟨8, hF.keep [1, 2, 4, 5, 6, 7, 8, 9, 13] rfl, hH, .inl ⟨by decide, hE8⟩⟩
       | exact ⟨0, hF.keep [1, 2, 4, 5, 6, 7, 8, 9, 13] rfl, hH, .inr ⟨rfl, by omega, hE0⟩⟩
    try simp only [qq] at h67
    have hE8 : followC nm kind cls l = (8, [], []) := by rw [hfe, if_pos h67]
    refine c_reg fun ops => ?_
    refine zm 1 hF rfl fun a hF => ?_
    refine wpList_nil ?_
    refine t9.norm ?_
    refine k8 ?_
    first
      | exact ⟨5, hF.keep [1, 2, 4, 5, 6, 7, 8, 9, 13] rfl, hH, .inl ⟨by decide, hE5⟩⟩
      | exact ⟨3, hF.keep [1, 2, 4, 5, 6, 7, 8, 9, 13] rfl, hH, .inl ⟨by decide, hE3⟩⟩
      | exact ⟨8, hF.keep [1, 2, 4, 5, 6, 7, 8, 9, 13] rfl, hH, .inl ⟨by decide, hE8⟩⟩
      | exact ⟨0, hF.keep [1, 2, 4, 5, 6, 7, 8, 9, 13] rfl, hH, .inr ⟨rfl, by omega, hE0⟩⟩
   clear hH hF
   rintro a w ⟨e, hF, hH, hcase⟩
   refine c_seq fun Q10 k10 t10 => ?_
   refine c_sr fun ops => ?_
   refine zm 1 hF rfl fun a hF => ?_
   refine zb hF rfl rfl rfl (b_nen _ _ _ 0) fun a hF => ?_
   refine c_n ?_
   refine c_if hF rfl (fun h72 => ?_) (fun h72 => ?_)
   ·
    try simp only [qq] at h72
    have hF1 : followC nm kind cls l = (e, [], []) := hcase.elim (·.2) fun h => absurd h.1 h72
    refine c_sr fun ops => ?_
    refine zm 5 hF rfl fun a hF => ?_
    refine c_n ?_
    refine wp_ret (t10.ret (t7.ret (t6.ret (t5.ret (t4.ret (t1.ret (hret (ret4 hF Tryz.results36 rfl rfl rfl rfl ?_))))))))
    exact ⟨_, _, [], [], [], [], by rw [hF1]; rfl, hH.sub (List.nil_sublist _), Sl.nil _ _, fun _ h => (List.not_mem_nil h).elim, by rw [hF1]; rfl, Sl.nil _ _, fun _ h => (List.not_mem_nil h).elim, by rw [hF1, endsOf, if_neg h72]; rfl⟩
   try simp only [qq] at h72
   obtain ⟨rfl, hn0, hE0⟩ := hcase.resolve_left fun h => h.1 h72
   have hel : es.length = ch.length := by rw [← hch]; simp
   refine wp_skip ?_
   refine k10 ?_
   refine c_reg fun ops => ?_
   refine zm 1 hF rfl fun a hF => ?_
   refine zl hF rfl (r_loadagg hF rfl rfl Tryz.underlying27 ti27 rfl (own_agg (i := 0) hH rfl)) fun a hF => ?_
   have hvs := hSs.rsl hH (fun p hp => List.mem_cons_of_mem _ (List.mem_cons_of_mem _ (List.mem_append_left _ hp)))
   refine zc hF rfl rfl fn80 (own_spec s0 dv _ hvs hdv1) ?_
   rintro _ w ⟨dv3, B3, rfl, hB3, hS3⟩ a hF
   replace hH := hH.join hB3
   refine ls_build1 hF hH rfl rfl rfl rfl rfl Tryz.underlying22 ti27 rfl (by decide) ?_
   intro a w g17_3 hH hE hF
   have hR := rsl_lit (n := 1) (size := 5) hH rfl (by decide)
   replace hH := hH.drop
   replace hH := hH.of (H' := B ++ (B3 ++ (g0_0, .cells (queV nm kind cls).toArray 49 (0, 0)) :: (B' ++ entB es))) ((g5_8, .cells (setV s0 dv).toArray 27 (0, 0)) :: Bs) (by classical
     rw [List.perm_iff_count]; intro x; simp only [List.count_append, List.count_cons, List.count_nil, entB_append, entB_cons, entB_nil]; omega)
   refine ls_append hF hH rfl rfl rfl rfl rfl rfl Tryz.underlying22 ti27 hS hR (ent_one (e := ((s0, dv3, B3) : Ent)) hS3.one) (by decide) (by omega) ?_
   intro a v17_4 w B17_4 hH hS hF
   refine zm 3 hF rfl fun a hF => ?_
   refine ls_build1 hF hH rfl rfl rfl rfl rfl Tryz.underlying25 ti9 rfl (by decide) ?_
   intro a w g17_8 hH hE hF
   have hR := rsl_lit (n := 1) (size := 1) hH rfl (by decide)
   replace hH := hH.drop
   replace hH := hH.of (H' := B' ++ (B17_4 ++ (B3 ++ (g0_0, .cells (queV nm kind cls).toArray 49 (0, 0)) :: entB es))) [] (by classical
     rw [List.perm_iff_count]; intro x; simp only [List.count_append, List.count_cons, List.count_nil, entB_append, entB_cons, entB_nil]; omega)
   refine ls_append hF hH rfl rfl rfl rfl rfl rfl Tryz.underlying25 ti9 hM hR (one_of rfl) (by decide) (by omega) ?_
   intro a v17_9 w B17_9 hH hM hF
   refine zm 3 hF rfl fun a hF => ?_
   refine wpList_nil ?_
   refine t7.norm ?_
   refine k6 ?_
   refine ⟨n - 1, by omega, (targetS s0).getD [], met ++ [(targetS s0).getD []], ch ++ [s0], es ++ [((s0, dv3, B3) : Ent)], B17_4, _, B17_9, _, by simp; omega, hE0, hF.keep [1, 2, 4, 5, 6, 7, 8] rfl, hH.of [] (by classical
     rw [List.perm_iff_count]; intro x; simp only [List.count_append, List.count_cons, List.count_nil, entB_append, entB_cons, entB_nil]; omega), ?_, ?_, ?_, ?_, targetS_le, by simp [hml]⟩
   · rw [List.length_append, ← strV_snoc]; exact hM
   · rw [entV_append, List.length_append]; exact hS
   · intro e he
     rcases List.mem_append.1 he with he | he
     · exact hK e he
     · rw [List.mem_singleton.1 he]; exact hS3
   · rw [List.map_append, hch]; rfl
  clear hH hF hM
  rintro a w ⟨p, ch, es, B, rv, hfc, hF, hH, hS, hK, hch, hpl⟩
  refine c_cut (fun a w => ∃ B2 es2 ev, Fr 101 [(4, rv), (5, .string (mk p)), (6, ev)] a ∧ Hp w0 w ((B ++ entB es) ++ (B2 ++ entB es2)) ∧ Sl 27 5 B2 ev es2.length (entV es2) ∧ EntOk es2 ∧ es2.map (·.1) = (findS l p kind cls).toList) (fun Q11 k11 t11 => ?_) ?_
  ·
   have hdv1 := findS_all (n := p) (kind := kind) (cls := cls) hdm (by decide)
   generalize hs0 : (findS l p kind cls).getD noSet = s0 at *
   refine c_sr fun ops => ?_
   refine zm 2 hF rfl fun a hF => ?_
   refine zl hF rfl (r_fieldaddr0 hF rfl rfl fd49_1) fun a hF => ?_
   refine zl hF rfl (r_load hF rfl rfl fl23 (own_cell (i := 0) hH rfl rfl)) fun a hF => ?_
   refine zl hF rfl (r_fieldaddr0 hF rfl rfl fd49_2) fun a hF => ?_
   refine zl hF rfl (r_load hF rfl rfl fl23 (own_cell (i := 0) hH rfl rfl)) fun a hF => ?_
   refine zc hF rfl rfl fn18 (find_spec l v p kind cls _ (hR.ext hH.below) hl (by omega) hnm hdm) ?_
   rintro _ w ⟨dv, Bs, rfl, hB, hSs⟩ a hF
   replace hH := hH.join hB
   rw [hs0] at hSs hF
   refine zm 3 hF rfl fun a hF => ?_
   refine ls_alloc hF hH rfl rfl rfl rfl zv27 ?_
   intro a w g18_10 hH hE hF
   refine ls_storeagg 0 hF hH rfl rfl rfl rfl rfl ti27 rfl (rfl) (rfl) (by have := hSs.shape; obtain ⟨_, _, rfl⟩ := this; simp [setV, cells_agg, Value.oneCell']) ?_
   intro w hH
   simp only [List.set_cons_zero] at hH
   refine zm 1 hF rfl fun a hF => ?_
   refine c_n ?_
   refine c_sr fun ops => ?_
   refine zm 1 hF rfl fun a hF => ?_
   refine c_n ?_
   refine c_fi hF rfl (fun h94 => ?_) (fun h94 => ?_)
   ·
    try simp only [qq] at h94
    have hso : findS l p kind cls = none := by simpa using h94
    refine wp_skip ?_
    refine k11 ?_
    first
      | exact ⟨_, [((s0, dv3, B3) : Ent)], _, hF.keep [4, 5, 6] rfl, hH.of (H' := (B ++ entB es) ++ ([(g20_2, .cells (setV s0 dv3).toArray 27 (0, 0))] ++ entB [((s0, dv3, B3) : Ent)])) ((g18_10, .cells (setV s0 dv).toArray 27 (0, 0)) :: (Bs ++ [(g0_0, .cells (queV nm kind cls).toArray 49 (0, 0))])) (by classical
      rw [List.perm_iff_count]; intro x; simp only [List.count_append, List.count_cons, List.count_nil, entB_append, entB_cons, entB_nil]; omega), row1 _ _, fun e he => by rw [List.mem_singleton.1 he]; exact hS3, by rw [hso]; rfl⟩
      | exact ⟨[], [], _, hF.keep [4, 5, 6] rfl, hH.of (H' := (B ++ entB es) ++ ([] ++ entB [])) ((g18_10, .cells (setV s0 dv).toArray 27 (0, 0)) :: (Bs ++ [(g0_0, .cells (queV nm kind cls).toArray 49 (0, 0))])) (by classical
      rw [List.perm_iff_count]; intro x; simp only [List.count_append, List.count_cons, List.count_nil, entB_append, entB_cons, entB_nil]; omega), Sl.nil _ _, fun _ h => (List.not_mem_nil h).elim, by rw [hso]; rfl⟩
   try simp only [qq] at h94
   have hso : findS l p kind cls = some s0 := by obtain ⟨s, hs⟩ := Option.isSome_iff_exists.1 h94; rw [hs] at hs0 ⊢; rw [← hs0]; rfl
   refine c_reg fun ops => ?_
   refine zl hF rfl (r_loadagg hF rfl rfl Tryz.underlying27 ti27 rfl (own_agg (i := 0) hH rfl)) fun a hF => ?_
   have hvs := hSs.rsl hH (fun p hp => List.mem_cons_of_mem _ (List.mem_append_left _ hp))
   refine zc hF rfl rfl fn80 (own_spec s0 dv _ hvs hdv1) ?_
   rintro _ w ⟨dv3, B3, rfl, hB3, hS3⟩ a hF
   replace hH := hH.join hB3
   refine ls_build1 hF hH rfl rfl rfl rfl rfl Tryz.underlying22 ti27 rfl (by decide) ?_
   intro a w g20_2 hH hE hF
   refine zm 1 hF rfl fun a hF => ?_
   refine wpList_nil ?_
   simp only [cells_agg] at hH
   refine k11 ?_
   first
     | exact ⟨_, [((s0, dv3, B3) : Ent)], _, hF.keep [4, 5, 6] rfl, hH.of (H' := (B ++ entB es) ++ ([(g20_2, .cells (setV s0 dv3).toArray 27 (0, 0))] ++ entB [((s0, dv3, B3) : Ent)])) ((g18_10, .cells (setV s0 dv).toArray 27 (0, 0)) :: (Bs ++ [(g0_0, .cells (queV nm kind cls).toArray 49 (0, 0))])) (by classical
     rw [List.perm_iff_count]; intro x; simp only [List.count_append, List.count_cons, List.count_nil, entB_append, entB_cons, entB_nil]; omega), row1 _ _, fun e he => by rw [List.mem_singleton.1 he]; exact hS3, by rw [hso]; rfl⟩
     | exact ⟨[], [], _, hF.keep [4, 5, 6] rfl, hH.of (H' := (B ++ entB es) ++ ([] ++ entB [])) ((g18_10, .cells (setV s0 dv).toArray 27 (0, 0)) :: (Bs ++ [(g0_0, .cells (queV nm kind cls).toArray 49 (0, 0))])) (by classical
     rw [List.perm_iff_count]; intro x; simp only [List.count_append, List.count_cons, List.count_nil, entB_append, entB_cons, entB_nil]; omega), Sl.nil _ _, fun _ h => (List.not_mem_nil h).elim, by rw [hso]; rfl⟩
  clear hH hF
  rintro a w ⟨B2, es2, ev, hF, hH, hS2, hK2, he2⟩
  refine c_sr fun ops => ?_
  refine zm 7 hF rfl fun a hF => ?_
  refine c_n ?_
  replace hF := hF.sel [4, 5, 6, 7]
  simp only [ss, Nat.reduceBEq] at hF
  refine wp_ret (t1.ret (hret (ret4 hF Tryz.results36 rfl rfl rfl rfl ?_)))
  exact ⟨rv, ev, B, es, B2, es2, by rw [hfc]; rfl, hH, hS, hK, by rw [hfc]; exact hch, hS2, hK2, by rw [hfc, endsOf, if_pos rfl]; exact he2⟩
end Go.Proofs.YtcelgjabccgnmaaGreatDoor
namespace Go.Proofs.YtcelgjabccgnmaaGreatDoor
open Go.RowKit
set_option linter.unusedVariables false
set_option linter.unusedSimpArgs false
set_option maxHeartbeats 1000000

theorem SetsR.nil (w : World) : SetsR w (.slice none 0 0) [] := ⟨[], rfl, RSl.nil _ _, fun i h => absurd h (by simp)⟩
/-- Sets whose data are read in a world. -/
def EntR (w : World) (es : List Ent) : Prop := ∀ e ∈ es, RSl w 1 e.2.1 e.1.data.length (strV e.1.data)
theorem EntR.one {w : World} {e : Ent} (h : RSl w 1 e.2.1 e.1.data.length (strV e.1.data)) : ∀ u ∈ setV e.1 e.2.1, u.oneCell' = true := ent_one (by obtain ⟨_, _, h⟩ := h.shape; rw [h]; rfl)
theorem sets_read2 {w0 w : World} {v : Value} {es : List Ent} (hv : RSl w 5 v es.length (entV es)) (hE : EntR w0 es) (he : Ext w0 w) : SetsR w v (es.map (·.1)) := by
  refine ⟨es.map (·.2.1), by simp, ?_, fun i h => ?_⟩
  · rw [setsV_ent, List.length_map]; exact hv
  · rw [List.length_map] at h
    have := (hE _ (List.getElem_mem h)).ext he
    simpa using this

end Go.Proofs.YtcelgjabccgnmaaGreatDoor
