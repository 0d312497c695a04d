/-
  The walks of name.Labels, name.Within and package soa. Nothing is claimed here.
-/
import Derived.Test.YtcelgjabccgnmaaGreatDoorVSpec
import Derived.Test.YtcelgjabccgnmaaGreatDoorKit3
namespace Go.Proofs.YtcelgjabccgnmaaGreatDoor
open Go.RowKit
set_option linter.unusedVariables false
set_option linter.unusedSimpArgs false
set_option maxHeartbeats 1000000

section
variable {P : Program} {ops : Array Oper} {Q : Exit → Act → World → Prop} {rest : List Oper} {o : Oper} {a : Act} {w w0 : World} {N dd : Nat} {L : List (Nat × Value)} {H : List (Nat × Obj)}
/-- A function value with things that are bound. -/
theorem r_makefuncb (hF : Fr N L a) {fn : Fn} {xs : Array Operand} {vs : List Value} (ho : o.op = .makeFunc fn xs #[]) (hx : evl L xs.toList = some vs) : Does P o a w (.func fn vs.toArray #[]) w := by
  have hm : xs.map a.eval = vs.toArray := by
    apply Array.ext'; simpa using hF.evl hx
  left; unfold execOp; simp [ho, hm, Instr.makeFunc]
theorem ls_callb {f : FuncId} {x : Operand} {xs : Array Operand} {ats : Array TypeId} {vs : List Value} {R : Value → World → Prop} {bd : Array Value} (hF : Fr N L a) (hg : o.guard = none) (hdst : o.dst = some dd) (hd : Nat.blt dd N = true)
    (ho : o.op = .call { callee := .value x, args := xs, argTypes := ats }) (hx : ev L x = some (.func (.func f) bd #[])) (hxs : evl L xs.toList = some vs) (hok : FnOk P f)
    (hc : Rets P f (bd.toList ++ vs) w R) (k : ∀ v w', R v w' → ∀ a', Fr N ((dd, v) :: L) a' → wpList P ops Q rest a' w') : wpList P ops Q (o :: rest) a w :=
  wpList_plain hg fun K hK => by
    have hm : xs.map a.eval = vs.toArray := by
      apply Array.ext'; simpa using hF.evl hxs
    have h1 := run_enter hok (bd ++ vs.toArray) w
    have h2 := hF.ev hx
    unfold Oper.wp
    have he : (execOp a.eval o).run P w = .ok (.enter f (bd ++ vs.toArray)) w := by
      unfold execOp
      simp [ho, resolve, h2, Deferred.ofValue, hm, invoke, h1]
    rw [he]
    have hc' : Calls P f (bd ++ vs.toArray) w fun e w' => ∃ v, e = .returned v ∧ R v w' := by
      have : (bd.toList ++ vs).toArray = bd ++ vs.toArray := by apply Array.ext'; simp
      rw [← this]; exact hc
    refine Calls.mono hc' ?_
    rintro e w' ⟨v, rfl, hr⟩
    exact hK _ _ (k v w' hr _ (by rw [hdst]; exact hF.put _ hd))
theorem results_c3 {fn : Func} {tmps : Array Value} {t u x g : Nat} {ty : TypeId} {cs : List Value} {v2 v3 : Value} (h : fn.results = #[.cell t ty, .tmp u, .tmp x]) (h1 : tmps[t]? = some (.pointer (some ⟨g, 0, none⟩))) (h2 : tmps[u]? = some v2) (h3 : tmps[x]? = some v3)
    (hl : (loadVar ty ⟨g, 0, none⟩).run P w = .ok (.agg cs.toArray) w) : (results fn tmps).run P w = .ok (.tuple #[.agg cs.toArray, v2, v3]) w := by
  simp [results, h, Array.getD_eq_getD_getElem?, h1, h2, h3, asAddr, hl]
theorem retc3 {fn : Func} {R : Value → World → Prop} {t u x g i : Nat} {ty : TypeId} {size bytes : Nat} {cs : Array Value} {v2 v3 : Value} {e : TypeId} {fr : Nat × Nat} (hF : Fr N L a) (hH : Hp w0 w H) (hr : fn.results = #[.cell t ty, .tmp u, .tmp x]) (h1 : lk L t = some (.pointer (some ⟨g, 0, none⟩))) (h2 : lk L u = some v2) (h3 : lk L x = some v3)
    (ht : aggT P ty = true) (hti : TI P ty size bytes) (hi : H[i]? = some (g, .cells cs e fr)) (hs : cs.size = size) (h : R (.tuple #[.agg cs, v2, v3]) w) :
    bodyPost P fn (fun e w' => ∃ v, e = .returned v ∧ R v w') .ret a w := by
  have hl := run_loadVar_T (w := w) (cs := cs.toList) ht hti (by simpa using hs) (own_agg hH hi)
  exact bodyPost_ret (results_c3 hr (hF.lk h1) (hF.lk h2) (hF.lk h3) hl) hF.defers ⟨_, rfl, by simpa using h⟩
end

theorem RSl.room {w : World} {size n k cap : Nat} {ad : Option Addr} {xs : List Value} (h : RSl w size (.slice ad k cap) n xs) : n = k ∧ n ≤ cap := by
  obtain ⟨_, _, _, e, h, _⟩ := h; cases e; exact ⟨rfl, h⟩
theorem sub_str {w : World} {n cap l : Nat} {ad : Option Addr} {xs : List Bs} (hR : RSl w 1 (.slice ad n cap) n (strV xs)) (hl : l ≤ n) : RSl w 1 (.slice (subA ad 1 l cap) (n - l) (cap - l)) (n - l) (strV (xs.drop l)) := by
  have h := sub_rsl hR hl (Nat.le_refl n)
  have hn : n = xs.length := hR.nlen
  rw [List.take_of_length_le (by rw [List.length_drop, strV_length]; omega), Nat.mul_one] at h
  rw [show strV (xs.drop l) = (strV xs).drop l by simp [strV, List.map_drop]]
  exact h
theorem labels_spec (l : Bs) (hl : l.length < 1000000) (w0 : World) : Rets Tryz.prog 140 [.string (mk l)] w0 fun v w' => ∃ B, Hp w0 w' B ∧ Sl 9 1 B v (nlab l) (strV ((split l).getD [])) := by
  have hH := Hp.refl w0
  refine rets_start Tryz.func140 rfl Tryz.ntmps140 rfl fun a Q0 hF hret hend => ?_
  simp only [argsFrom, Nat.zero_add, Nat.reduceAdd] at hF
  refine c_sr fun ops => ?_
  refine zm 1 hF rfl fun a hF => ?_
  refine c_n ?_
  replace hF := hF.sel [0]
  simp only [ss, Nat.reduceBEq] at hF
  refine c_sr fun ops => ?_
  refine zm 1 hF rfl fun a hF => ?_
  refine zc hF rfl rfl fn91 (split_spec l (by omega) _) ?_
  rintro _ w ⟨sv, B, rfl, hB, hS⟩ a hF
  replace hH := hH.join hB
  refine zm 5 hF rfl fun a hF => ?_
  refine c_n ?_
  replace hF := hF.sel [3]
  simp only [ss, Nat.reduceBEq] at hF
  refine c_sr fun ops => ?_
  refine zm 2 hF rfl fun a hF => ?_
  refine c_n ?_
  replace hF := hF.sel [2]
  simp only [ss, Nat.reduceBEq] at hF
  refine wp_ret (hret (ret1 hF Tryz.results140 rfl ?_))
  exact ⟨B, by simpa using hH, hS⟩
theorem within_spec (n z : Bs) (hn : n.length < 1000000) (hz : z.length < 1000000) (w0 : World) : Rets Tryz.prog 139 [.string (mk n), .string (mk z)] w0 fun v w' => v = .bool (withinB n z) ∧ Ext w0 w' := by
  have hH := Hp.refl w0
  have hb1 := split_getD_le n
  have hb2 := split_getD_le z
  refine rets_start Tryz.func139 rfl Tryz.ntmps139 rfl fun a Q0 hF hret hend => ?_
  simp only [argsFrom, Nat.zero_add, Nat.reduceAdd] at hF
  refine c_sr fun ops => ?_
  refine zm 1 hF rfl fun a hF => ?_
  refine c_n ?_
  replace hF := hF.sel [0, 1]
  simp only [ss, Nat.reduceBEq] at hF
  refine c_sr fun ops => ?_
  refine zm 1 hF rfl fun a hF => ?_
  refine zc hF rfl rfl fn81 (all_spec n (by omega) _) ?_
  rintro _ w ⟨sv, B, rfl, hB, hS⟩ a hF
  replace hH := hH.ext hB.below
  refine zm 5 hF rfl fun a hF => ?_
  refine c_n ?_
  replace hF := hF.sel [1, 5, 6]
  simp only [ss, Nat.reduceBEq] at hF
  have hX := hS.rsl hB fun p hp => hp
  obtain ⟨ad, cp, rfl⟩ := hX.shape
  have hXr := hX.room.2
  refine c_sr fun ops => ?_
  refine zm 1 hF rfl fun a hF => ?_
  refine zc hF rfl rfl fn81 (all_spec z (by omega) _) ?_
  rintro _ w ⟨sv2, B2, rfl, hB2, hS2⟩ a hF
  replace hH := hH.ext hB2.below
  refine zm 5 hF rfl fun a hF => ?_
  refine c_n ?_
  replace hF := hF.sel [5, 6, 7, 8]
  simp only [ss, Nat.reduceBEq] at hF
  have hY := hS2.rsl hB2 fun p hp => hp
  obtain ⟨ad2, cp2, rfl⟩ := hY.shape
  replace hX := hX.ext hB2.below
  refine c_sg ?_
  refine zm 2 hF rfl fun a hF => ?_
  refine l_ask (d := 20) hF rfl (fun g3_1 => ?_) (fun g3_1 => ?_)
  ·
   have g3_1' := g3_1; try simp only [qq] at g3_1'
   refine zn hF rfl g3_1 fun a hF => ?_
   refine zl hF rfl (r_pickf hF rfl rfl g3_1 rfl) fun a hF => ?_
   refine zm 1 hF rfl fun a hF => ?_
   refine zn hF rfl rfl fun a hF => ?_
   refine zn hF rfl rfl fun a hF => ?_
   refine zn hF rfl rfl fun a hF => ?_
   refine zn hF rfl rfl fun a hF => ?_
   refine zn hF rfl rfl fun a hF => ?_
   refine zl hF rfl (r_pickf hF rfl rfl rfl rfl) fun a hF => ?_
   refine zm 1 hF rfl fun a hF => ?_
   refine zn hF rfl rfl fun a hF => ?_
   refine zn hF rfl rfl fun a hF => ?_
   refine zn hF rfl rfl fun a hF => ?_
   refine zn hF rfl rfl fun a hF => ?_
   refine zn hF rfl rfl fun a hF => ?_
   refine zn hF rfl rfl fun a hF => ?_
   refine zn hF rfl rfl fun a hF => ?_
   refine zn hF rfl rfl fun a hF => ?_
   refine zn hF rfl rfl fun a hF => ?_
   refine zl hF rfl (r_pickf hF rfl rfl rfl rfl) fun a hF => ?_
   refine zm 1 hF rfl fun a hF => ?_
   refine c_n ?_
   replace hF := hF.sel [4]
   simp only [ss, Nat.reduceBEq] at hF
   refine wp_ret (hret (ret1 hF Tryz.results139 rfl ?_))
   refine ⟨?_, hH.below⟩
   unfold withinB nlab labs
   first
     | (rw [g3_1', g3_4', decide_eq_true g3_11']; rfl)
     | (rw [g3_1', g3_4', decide_eq_false g3_11']; rfl)
     | (rw [g3_1', g3_4']; rfl)
     | (rw [g3_1']; rfl)
  have g3_1' := g3_1; try simp only [qq] at g3_1'
  refine zy hF rfl g3_1 (r_move hF rfl rfl) fun a hF => ?_
  refine zl hF rfl (r_pickt hF rfl rfl g3_1 rfl) fun a hF => ?_
  refine zm 1 hF rfl fun a hF => ?_
  refine l_ask (d := 23) hF rfl (fun g3_4 => ?_) (fun g3_4 => ?_)
  ·
   have g3_4' := g3_4; try simp only [qq] at g3_4'
   refine zn hF rfl g3_4 fun a hF => ?_
   refine zn hF rfl g3_4 fun a hF => ?_
   refine zn hF rfl g3_4 fun a hF => ?_
   refine zn hF rfl g3_4 fun a hF => ?_
   refine zn hF rfl g3_4 fun a hF => ?_
   refine zl hF rfl (r_pickf hF rfl rfl g3_4 rfl) fun a hF => ?_
   refine zm 1 hF rfl fun a hF => ?_
   refine zn hF rfl rfl fun a hF => ?_
   refine zn hF rfl rfl fun a hF => ?_
   refine zn hF rfl rfl fun a hF => ?_
   refine zn hF rfl rfl fun a hF => ?_
   refine zn hF rfl rfl fun a hF => ?_
   refine zn hF rfl rfl fun a hF => ?_
   refine zn hF rfl rfl fun a hF => ?_
   refine zn hF rfl rfl fun a hF => ?_
   refine zn hF rfl rfl fun a hF => ?_
   refine zl hF rfl (r_pickf hF rfl rfl rfl rfl) fun a hF => ?_
   refine zm 1 hF rfl fun a hF => ?_
   refine c_n ?_
   replace hF := hF.sel [4]
   simp only [ss, Nat.reduceBEq] at hF
   refine wp_ret (hret (ret1 hF Tryz.results139 rfl ?_))
   refine ⟨?_, hH.below⟩
   unfold withinB nlab labs
   first
     | (rw [g3_1', g3_4', decide_eq_true g3_11']; rfl)
     | (rw [g3_1', g3_4', decide_eq_false g3_11']; rfl)
     | (rw [g3_1', g3_4']; rfl)
     | (rw [g3_1']; rfl)
  have g3_4' := g3_4; try simp only [qq] at g3_4'
  refine zy hF rfl g3_4 (r_move hF rfl rfl) fun a hF => ?_
  refine zy hF rfl g3_4 (r_len_sl hF rfl rfl Tryz.underlying25) fun a hF => ?_
  refine zy hF rfl g3_4 (r_move hF rfl rfl) fun a hF => ?_
  refine zy hF rfl g3_4 (r_len_sl hF rfl rfl Tryz.underlying25) fun a hF => ?_
  refine zy hF rfl g3_4 (zr hF rfl rfl (b_gen _ _ _ _)) fun a hF => ?_
  refine zl hF rfl (r_pickt hF rfl rfl g3_4 rfl) fun a hF => ?_
  refine zm 1 hF rfl fun a hF => ?_
  refine l_ask (d := 30) hF rfl (fun g3_11 => ?_) (fun g3_11 => ?_)
  ·
   have g3_11' := g3_11; try simp only [qq] at g3_11'
   refine zn hF rfl g3_11 fun a hF => ?_
   refine zn hF rfl g3_11 fun a hF => ?_
   refine zn hF rfl g3_11 fun a hF => ?_
   refine zn hF rfl g3_11 fun a hF => ?_
   refine zn hF rfl g3_11 fun a hF => ?_
   refine zn hF rfl g3_11 fun a hF => ?_
   refine zn hF rfl g3_11 fun a hF => ?_
   refine zn hF rfl g3_11 fun a hF => ?_
   refine zn hF rfl g3_11 fun a hF => ?_
   refine zl hF rfl (r_pickf hF rfl rfl g3_11 rfl) fun a hF => ?_
   refine zm 1 hF rfl fun a hF => ?_
   refine c_n ?_
   replace hF := hF.sel [4]
   simp only [ss, Nat.reduceBEq] at hF
   refine wp_ret (hret (ret1 hF Tryz.results139 rfl ?_))
   refine ⟨?_, hH.below⟩
   unfold withinB nlab labs
   first
     | (rw [g3_1', g3_4', decide_eq_true g3_11']; rfl)
     | (rw [g3_1', g3_4', decide_eq_false g3_11']; rfl)
     | (rw [g3_1', g3_4']; rfl)
     | (rw [g3_1']; rfl)
  have g3_11' := g3_11; try simp only [qq] at g3_11'
  refine zy hF rfl g3_11 (r_move hF rfl rfl) fun a hF => ?_
  refine zy hF rfl g3_11 (r_move hF rfl rfl) fun a hF => ?_
  refine zy hF rfl g3_11 (r_len_sl hF rfl rfl Tryz.underlying25) fun a hF => ?_
  refine zy hF rfl g3_11 (r_move hF rfl rfl) fun a hF => ?_
  refine zy hF rfl g3_11 (r_len_sl hF rfl rfl Tryz.underlying25) fun a hF => ?_
  refine zy hF rfl g3_11 (zr hF rfl rfl (b_subn _ _ _ (by omega))) fun a hF => ?_
  refine zy hF rfl g3_11 (r_slice_sl hF _ _ rfl rfl Tryz.underlying25 ti9 ⟨_, rfl⟩ rfl (⟨by omega, by omega⟩)) fun a hF => ?_
  refine zy hF rfl g3_11 (r_move hF rfl rfl) fun a hF => ?_
  refine zyc hF rfl g3_11 rfl fn55 (equal_spec (sub_str hX (by omega)) hY (by omega) (by omega)) ?_
  rintro _ w ⟨rfl, hE⟩ a hF
  replace hH := hH.ext hE
  refine zl hF rfl (r_pickt hF rfl rfl g3_11 rfl) fun a hF => ?_
  refine zm 1 hF rfl fun a hF => ?_
  refine c_n ?_
  replace hF := hF.sel [4]
  simp only [ss, Nat.reduceBEq] at hF
  refine wp_ret (hret (ret1 hF Tryz.results139 rfl ?_))
  refine ⟨?_, hH.below⟩
  unfold withinB nlab labs
  first
    | (rw [g3_1', g3_4', decide_eq_true g3_11']; rfl)
    | (rw [g3_1', g3_4', decide_eq_false g3_11']; rfl)
    | (rw [g3_1', g3_4']; rfl)
    | (rw [g3_1']; rfl)

/-- A name and a class. -/
def askedV (nm : Bs) (cls : Nat) : List Value := [.string (mk nm), .int .u16 cls]
theorem fits_spec (s : RSet) (dv : Value) (nm : Bs) (cls : Nat) (hn : nm.length < 1000000) (hs : s.name.length < 1000000) (w0 : World) :
    Rets Tryz.prog 118 [.agg (askedV nm cls).toArray, .agg (setV s dv).toArray] w0 fun v w' => v = .tuple #[.int .i64 ((if fitS nm cls s = true then nlab s.name else 0 : Nat) : Int), .bool (fitS nm cls s)] ∧ Ext w0 w' := by
  have hH := Hp.refl w0
  refine rets_start Tryz.func118 rfl Tryz.ntmps118 rfl fun a Q0 hF hret hend => ?_
  simp only [argsFrom, Nat.zero_add, Nat.reduceAdd] at hF
  refine c_sr fun ops => ?_
  refine ls_box hF hH rfl rfl rfl rfl rfl ?_
  intro a w g0_0 hH hE hF
  refine ls_box hF hH rfl rfl rfl rfl rfl ?_
  intro a w g0_1 hH hE hF
  refine zm 2 hF rfl fun a hF => ?_
  refine c_n ?_
  replace hF := hF.sel [2, 3]
  simp only [ss, Nat.reduceBEq] at hF
  refine c_seq fun Q1 k1 t1 => ?_
  simp only [cells_agg] at hH
  refine c_sg ?_
  refine zl hF rfl (r_fieldaddr0 hF rfl rfl fd27_1) fun a hF => ?_
  refine zl hF rfl (r_load hF rfl rfl fl23 (own_cell (i := 0) hH rfl rfl)) fun a hF => ?_
  refine zb hF rfl rfl rfl (b_nen _ _ _ 6) fun a hF => ?_
  refine zm 1 hF rfl fun a hF => ?_
  refine ls_ask (d := 9) hF rfl (fun g1_3 => ?_) (fun g1_3 => ?_)
  ·
   have g1_3' := g1_3; try simp only [qq] at g1_3'
   refine zn hF rfl g1_3 fun a hF => ?_
   refine zn hF rfl g1_3 fun a hF => ?_
   refine zn hF rfl g1_3 fun a hF => ?_
   refine zn hF rfl g1_3 fun a hF => ?_
   refine zn hF rfl g1_3 fun a hF => ?_
   refine zl hF rfl (r_pickt hF rfl rfl g1_3 rfl) fun a hF => ?_
   refine zm 1 hF rfl fun a hF => ?_
   refine zn hF rfl rfl fun a hF => ?_
   refine zn hF rfl rfl fun a hF => ?_
   refine zn hF rfl rfl fun a hF => ?_
   refine zn hF rfl rfl fun a hF => ?_
   refine zn hF rfl rfl fun a hF => ?_
   refine zn hF rfl rfl fun a hF => ?_
   refine zl hF rfl (r_pickt hF rfl rfl rfl rfl) fun a hF => ?_
   refine c_n ?_
   replace hF := hF.sel [3, 23]
   simp only [ss, Nat.reduceBEq] at hF
   refine c_yes hF rfl rfl ?_
   refine c_sr fun ops => ?_
   refine zm 2 hF rfl fun a hF => ?_
   refine c_n ?_
   replace hF := hF.sel [4, 5]
   simp only [ss, Nat.reduceBEq] at hF
   refine wp_ret (t1.ret (hret (ret2 hF Tryz.results118 rfl rfl ?_)))
   have hfit : fitS nm cls s = false := by simp_all [fitS]
   exact ⟨by rw [hfit]; rfl, hH.below⟩
  have g1_3' := g1_3; try simp only [qq] at g1_3'
  refine zy hF rfl g1_3 (r_fieldaddr0 hF rfl rfl fd27_2) fun a hF => ?_
  refine zy hF rfl g1_3 (r_load hF rfl rfl fl23 (own_cell (i := 0) hH rfl rfl)) fun a hF => ?_
  refine zy hF rfl g1_3 (r_fieldaddr0 hF rfl rfl fd163_1) fun a hF => ?_
  refine zy hF rfl g1_3 (r_load hF rfl rfl fl23 (own_cell (i := 1) hH rfl rfl)) fun a hF => ?_
  refine zy hF rfl g1_3 (zr hF rfl rfl (b_nen _ _ _ _)) fun a hF => ?_
  refine zl hF rfl (r_pickf hF rfl rfl g1_3 rfl) fun a hF => ?_
  refine zm 1 hF rfl fun a hF => ?_
  refine ls_ask (d := 16) hF rfl (fun g1_10 => ?_) (fun g1_10 => ?_)
  ·
   have g1_10' := g1_10; try simp only [qq] at g1_10'
   refine zn hF rfl g1_10 fun a hF => ?_
   refine zn hF rfl g1_10 fun a hF => ?_
   refine zn hF rfl g1_10 fun a hF => ?_
   refine zn hF rfl g1_10 fun a hF => ?_
   refine zn hF rfl g1_10 fun a hF => ?_
   refine zn hF rfl g1_10 fun a hF => ?_
   refine zl hF rfl (r_pickt hF rfl rfl g1_10 rfl) fun a hF => ?_
   refine c_n ?_
   replace hF := hF.sel [3, 23]
   simp only [ss, Nat.reduceBEq] at hF
   refine c_yes hF rfl rfl ?_
   refine c_sr fun ops => ?_
   refine zm 2 hF rfl fun a hF => ?_
   refine c_n ?_
   replace hF := hF.sel [4, 5]
   simp only [ss, Nat.reduceBEq] at hF
   refine wp_ret (t1.ret (hret (ret2 hF Tryz.results118 rfl rfl ?_)))
   have hfit : fitS nm cls s = false := by simp_all [fitS]
   exact ⟨by rw [hfit]; rfl, hH.below⟩
  have g1_10' := g1_10; try simp only [qq] at g1_10'
  refine zy hF rfl g1_10 (r_fieldaddr0 hF rfl rfl fd163_0) fun a hF => ?_
  refine zy hF rfl g1_10 (r_load hF rfl rfl fl9 (own_cell (i := 1) hH rfl rfl)) fun a hF => ?_
  refine zy hF rfl g1_10 (r_fieldaddr0 hF rfl rfl fd27_0) fun a hF => ?_
  refine zy hF rfl g1_10 (r_load hF rfl rfl fl9 (own_cell (i := 0) hH rfl rfl)) fun a hF => ?_
  refine zyc hF rfl g1_10 rfl fn139 (within_spec nm s.name hn hs _) ?_
  rintro _ w ⟨rfl, hE⟩ a hF
  replace hH := hH.ext hE
  refine zy hF rfl g1_10 (r_not hF rfl rfl) fun a hF => ?_
  refine zl hF rfl (r_pickf hF rfl rfl g1_10 rfl) fun a hF => ?_
  refine c_n ?_
  replace hF := hF.sel [3, 23]
  simp only [ss, Nat.reduceBEq] at hF
  refine c_if hF rfl (fun h23 => ?_) (fun h23 => ?_)
  ·
   try simp only [qq] at h23
   refine c_sr fun ops => ?_
   refine zm 2 hF rfl fun a hF => ?_
   refine c_n ?_
   replace hF := hF.sel [4, 5]
   simp only [ss, Nat.reduceBEq] at hF
   refine wp_ret (t1.ret (hret (ret2 hF Tryz.results118 rfl rfl ?_)))
   have hfit : fitS nm cls s = false := by simp_all [fitS]
   exact ⟨by rw [hfit]; rfl, hH.below⟩
  try simp only [qq] at h23
  have hfit : fitS nm cls s = true := by simp_all [fitS]
  refine wp_skip ?_
  refine k1 ?_
  refine c_sr fun ops => ?_
  refine zl hF rfl (r_fieldaddr0 hF rfl rfl fd27_0) fun a hF => ?_
  refine zl hF rfl (r_load hF rfl rfl fl9 (own_cell (i := 0) hH rfl rfl)) fun a hF => ?_
  refine zc hF rfl rfl fn140 (labels_spec _ hs _) ?_
  rintro _ w ⟨B, hB, hS⟩ a hF
  obtain ⟨lad, lcp, rfl⟩ := hS.shape; replace hH := hH.ext hB.below
  refine zl hF rfl (r_len_sl hF rfl rfl Tryz.underlying25) fun a hF => ?_
  refine zm 2 hF rfl fun a hF => ?_
  refine c_n ?_
  replace hF := hF.sel [4, 5]
  simp only [ss, Nat.reduceBEq] at hF
  refine wp_ret (hret (ret2 hF Tryz.results118 rfl rfl ?_))
  exact ⟨by rw [hfit]; rfl, hH.below⟩

/-- The best set so far, its place, its labels. -/
def BestI (l : List RSet) (o : Option RSet) (z m : Int) : Prop := (o = none ∧ z = -1 ∧ m = -1) ∨ ∃ k, ∃ h : k < l.length, o = some l[k] ∧ z = (k : Int) ∧ m = (nlab l[k].name : Int)
theorem BestI.better {l : List RSet} {o : Option RSet} {z m : Int} (h : BestI l o z m) (s : RSet) : better o s = decide (m < (nlab s.name : Int)) := by
  rcases h with ⟨rfl, -, rfl⟩ | ⟨k, hk, rfl, -, rfl⟩
  · simp only [Go.Proofs.YtcelgjabccgnmaaGreatDoor.better]; rw [decide_eq_true (by omega)]
  · simp only [Go.Proofs.YtcelgjabccgnmaaGreatDoor.better]; rw [decide_eq_decide]; omega
theorem best_spec (l : List RSet) (v : Value) (nm : Bs) (cls : Nat) (w0 : World) (hR : SetsR w0 v l) (hl : l.length < 1000000) (hn : nm.length < 1000000) (hnm : ∀ s ∈ l, s.name.length < 1000000) :
    Rets Tryz.prog 117 [v, .func (.func 118) #[.agg (askedV nm cls).toArray] #[]] w0 fun r w' => (∃ z m, r = .int .i64 z ∧ BestI l (bestGo nm cls l none) z m) ∧ Ext w0 w' := by
  have hH := Hp.refl w0
  obtain ⟨ad, cap, rfl⟩ : ∃ ad cap, v = .slice ad l.length cap := by
    obtain ⟨_, _, h, _⟩ := hR; exact h.shape
  refine rets_start Tryz.func117 rfl Tryz.ntmps117 rfl fun a Q0 hF hret hend => ?_
  simp only [argsFrom, Nat.zero_add, Nat.reduceAdd] at hF
  refine c_sr fun ops => ?_
  refine zm 1 hF rfl fun a hF => ?_
  refine c_n ?_
  replace hF := hF.sel [0, 1]
  simp only [ss, Nat.reduceBEq] at hF
  refine c_sr fun ops => ?_
  refine zm 2 hF rfl fun a hF => ?_
  refine c_n ?_
  replace hF := hF.sel [0, 1, 5, 6]
  simp only [ss, Nat.reduceBEq] at hF
  refine c_seq fun Q1 k1 t1 => ?_
  refine c_sr fun ops => ?_
  refine zm 1 hF rfl fun a hF => ?_
  refine zl hF rfl (r_len_sl hF rfl rfl Tryz.underlying22) fun a hF => ?_
  refine zm 1 hF rfl fun a hF => ?_
  refine c_n ?_
  replace hF := hF.sel [1, 5, 6, 11, 12, 13]
  simp only [ss, Nat.reduceBEq] at hF
  refine c_block fun Q2 t2 => ?_
  refine c_loop (fun n a w => ∃ i o z m, n = l.length - i ∧ i ≤ l.length ∧ bestGo nm cls (l.drop i) o = bestGo nm cls l none ∧ BestI l o z m ∧ Fr 34 [(1, .func (.func 118) #[.agg (askedV nm cls).toArray] #[]), (5, .int .i64 z), (6, .int .i64 m), (11, .slice ad l.length cap), (12, .int .i64 (l.length : Nat)), (13, .int .i64 (i : Nat))] a ∧ Hp w0 w []) ?_ ?_
  ·
   exact ⟨_, 0, none, -1, -1, rfl, Nat.zero_le _, rfl, .inl ⟨rfl, rfl, rfl⟩, hF.keep [1, 5, 6, 11, 12, 13] rfl, hH⟩
  clear hH hF
  intro n a w hI Q3 k3 t3
  obtain ⟨i, o, z, m, hm, hi, hgo, hbi, hF, hH⟩ := hI
  refine c_sr fun ops => ?_
  refine zb hF rfl rfl rfl (b_ltn _ _ _ _) fun a hF => ?_
  refine c_n ?_
  refine c_seq fun Q4 k4 t4 => ?_
  refine c_fi hF rfl (fun h14 => ?_) (fun h14 => ?_)
  ·
   try simp only [qq] at h14
   rw [List.drop_eq_nil_of_le (by omega)] at hgo
   refine wp_exit (t4.exit (t3.exit (t2.here (?_))))
   refine k1 ?_
   refine c_sr fun ops => ?_
   refine zm 2 hF rfl fun a hF => ?_
   refine c_n ?_
   replace hF := hF.sel [4]
   simp only [ss, Nat.reduceBEq] at hF
   refine wp_ret (hret (ret1 hF Tryz.results117 rfl ?_))
   exact ⟨⟨z, m, rfl, by rw [← hgo]; exact hbi⟩, hH.below⟩
  try simp only [qq] at h14
  obtain ⟨b, off, dv, rfl, hset, hdv⟩ := hR.at h14
  have hnl := hnm _ (List.getElem_mem h14)
  have hdr : l.drop i = l[i] :: l.drop (i + 1) := List.drop_eq_getElem_cons h14
  rw [hdr, bestGo, hbi.better] at hgo
  refine wp_skip ?_
  refine k4 ?_
  refine c_seq fun Q5 k5 t5 => ?_
  refine c_block fun Q6 t6 => ?_
  refine c_sr fun ops => ?_
  refine zm 1 hF rfl fun a hF => ?_
  refine zl hF rfl (r_indexaddr hF _ rfl rfl rfl Tryz.underlying22 ti27 (by omega)) fun a hF => ?_
  refine zl hF rfl (r_loadagg hF rfl rfl Tryz.underlying27 ti27 rfl (fun j u hu => hH.cell (hset j u hu))) fun a hF => ?_
  refine ls_alloc hF hH rfl rfl rfl rfl zv27 ?_
  intro a w g4_3 hH hE hF
  refine zm 1 hF rfl fun a hF => ?_
  refine ls_storeagg 0 hF hH rfl rfl rfl rfl rfl ti27 rfl (rfl) (rfl) (by have := hdv.shape; obtain ⟨_, _, rfl⟩ := this; simp [setV, cells_agg, Value.oneCell']) ?_
  intro w hH
  simp only [List.set_cons_zero] at hH
  refine c_n ?_
  refine c_sr fun ops => ?_
  refine zm 1 hF rfl fun a hF => ?_
  refine zl hF rfl (r_loadagg hF rfl rfl Tryz.underlying27 ti27 rfl (own_agg (i := 0) hH rfl)) fun a hF => ?_
  refine ls_callb hF rfl rfl rfl rfl rfl rfl fn118 (fits_spec l[i] dv nm cls hn hnl _) ?_
  rintro _ w ⟨rfl, hE⟩ a hF
  replace hH := hH.ext hE
  refine zm 5 hF rfl fun a hF => ?_
  refine c_n ?_
  refine c_sg ?_
  refine zm 2 hF rfl fun a hF => ?_
  refine l_ask (d := 25) hF rfl (fun g6_1 => ?_) (fun g6_1 => ?_)
  ·
   have g6_1' := g6_1; try simp only [qq] at g6_1'
   refine zn hF rfl g6_1 fun a hF => ?_
   refine zn hF rfl g6_1 fun a hF => ?_
   refine zn hF rfl g6_1 fun a hF => ?_
   refine zl hF rfl (r_pickf hF rfl rfl g6_1 rfl) fun a hF => ?_
   refine c_n ?_
   refine c_no hF rfl rfl ?_
   refine wp_skip ?_
   refine t6.norm ?_
   refine k5 ?_
   refine c_reg fun ops => ?_
   refine zb hF rfl rfl rfl (b_addn _ _ 1 (by omega)) fun a hF => ?_
   refine zm 1 hF rfl fun a hF => ?_
   refine wpList_nil ?_
   refine k3 ?_
   first
     | (rw [g6_1', if_pos rfl] at hF; rw [g6_1', decide_eq_true h29] at hgo; exact ⟨l.length - (i + 1), by omega, i + 1, some l[i], _, _, rfl, h14, hgo, .inr ⟨i, h14, rfl, rfl, rfl⟩, hF.keep [1, 5, 6, 11, 12, 13] rfl, hH.drop⟩)
     | (rw [g6_1', decide_eq_false (by omega)] at hgo; exact ⟨l.length - (i + 1), by omega, i + 1, o, _, _, rfl, h14, hgo, hbi, hF.keep [1, 5, 6, 11, 12, 13] rfl, hH.drop⟩)
     | (rw [g6_1'] at hgo; exact ⟨l.length - (i + 1), by omega, i + 1, o, _, _, rfl, h14, hgo, hbi, hF.keep [1, 5, 6, 11, 12, 13] rfl, hH.drop⟩)
  have g6_1' := g6_1; try simp only [qq] at g6_1'
  refine zy hF rfl g6_1 (r_move hF rfl rfl) fun a hF => ?_
  refine zy hF rfl g6_1 (r_move hF rfl rfl) fun a hF => ?_
  refine zy hF rfl g6_1 (zr hF rfl rfl (b_gt _ _ _ _)) fun a hF => ?_
  refine zl hF rfl (r_pickt hF rfl rfl g6_1 rfl) fun a hF => ?_
  refine c_n ?_
  refine c_fi hF rfl (fun h29 => ?_) (fun h29 => ?_)
  ·
   try simp only [qq] at h29
   try rw [if_pos g6_1'] at h29
   refine wp_skip ?_
   refine t6.norm ?_
   refine k5 ?_
   refine c_reg fun ops => ?_
   refine zb hF rfl rfl rfl (b_addn _ _ 1 (by omega)) fun a hF => ?_
   refine zm 1 hF rfl fun a hF => ?_
   refine wpList_nil ?_
   refine k3 ?_
   first
     | (rw [g6_1', if_pos rfl] at hF; rw [g6_1', decide_eq_true h29] at hgo; exact ⟨l.length - (i + 1), by omega, i + 1, some l[i], _, _, rfl, h14, hgo, .inr ⟨i, h14, rfl, rfl, rfl⟩, hF.keep [1, 5, 6, 11, 12, 13] rfl, hH.drop⟩)
     | (rw [g6_1', decide_eq_false (by omega)] at hgo; exact ⟨l.length - (i + 1), by omega, i + 1, o, _, _, rfl, h14, hgo, hbi, hF.keep [1, 5, 6, 11, 12, 13] rfl, hH.drop⟩)
     | (rw [g6_1'] at hgo; exact ⟨l.length - (i + 1), by omega, i + 1, o, _, _, rfl, h14, hgo, hbi, hF.keep [1, 5, 6, 11, 12, 13] rfl, hH.drop⟩)
  try simp only [qq] at h29
  rw [if_pos g6_1'] at h29
  refine c_reg fun ops => ?_
  refine zm 4 hF rfl fun a hF => ?_
  refine wpList_nil ?_
  refine t6.norm ?_
  refine k5 ?_
  refine c_reg fun ops => ?_
  refine zb hF rfl rfl rfl (b_addn _ _ 1 (by omega)) fun a hF => ?_
  refine zm 1 hF rfl fun a hF => ?_
  refine wpList_nil ?_
  refine k3 ?_
  first
    | (rw [g6_1', if_pos rfl] at hF; rw [g6_1', decide_eq_true h29] at hgo; exact ⟨l.length - (i + 1), by omega, i + 1, some l[i], _, _, rfl, h14, hgo, .inr ⟨i, h14, rfl, rfl, rfl⟩, hF.keep [1, 5, 6, 11, 12, 13] rfl, hH.drop⟩)
    | (rw [g6_1', decide_eq_false (by omega)] at hgo; exact ⟨l.length - (i + 1), by omega, i + 1, o, _, _, rfl, h14, hgo, hbi, hF.keep [1, 5, 6, 11, 12, 13] rfl, hH.drop⟩)
    | (rw [g6_1'] at hgo; exact ⟨l.length - (i + 1), by omega, i + 1, o, _, _, rfl, h14, hgo, hbi, hF.keep [1, 5, 6, 11, 12, 13] rfl, hH.drop⟩)

theorem soaFind_spec (l : List RSet) (v : Value) (nm : Bs) (cls : Nat) (w0 : World) (hR : SetsR w0 v l) (hl : l.length < 1000000) (hn : nm.length < 1000000) (hnm : ∀ s ∈ l, s.name.length < 1000000) (hdm : ∀ s ∈ l, s.data.length < 1000000) :
    Rets Tryz.prog 85 [v, .string (mk nm), .int .u16 cls] w0 fun r w' => ∃ dv B, r = .tuple #[.agg (setV ((soaN l nm cls).2.getD noSet) dv).toArray, .bool (soaN l nm cls).2.isSome, .int .i64 ((soaN l nm cls).1 : Nat)] ∧ Hp w0 w' B ∧
      Sl 9 1 B dv ((soaN l nm cls).2.getD noSet).data.length (strV ((soaN l nm cls).2.getD noSet).data) := by
  have hH := Hp.refl w0
  obtain ⟨ad, cap, rfl⟩ : ∃ ad cap, v = .slice ad l.length cap := by
    obtain ⟨_, _, h, _⟩ := hR; exact h.shape
  refine rets_start Tryz.func85 rfl Tryz.ntmps85 rfl fun a Q0 hF hret hend => ?_
  simp only [argsFrom, Nat.zero_add, Nat.reduceAdd] at hF
  refine c_sr fun ops => ?_
  refine ls_alloc hF hH rfl rfl rfl rfl zv27 ?_
  intro a w g0_0 hH hE hF
  refine zm 2 hF rfl fun a hF => ?_
  refine c_n ?_
  replace hF := hF.sel [0, 1, 2, 6]
  simp only [ss, Nat.reduceBEq] at hF
  refine c_sr fun ops => ?_
  refine zm 3 hF rfl fun a hF => ?_
  refine zl hF rfl (r_build hF rfl rfl (bd163_0_1 _ _ _ (rfl) (rfl))) fun a hF => ?_
  refine zl hF rfl (r_makefuncb hF rfl rfl) fun a hF => ?_
  refine zc hF rfl rfl fn117 (best_spec l _ nm cls _ (hR.ext hH.below) hl hn hnm) ?_
  rintro _ w ⟨⟨z, m, rfl, hbi⟩, hE⟩ a hF
  replace hH := hH.ext hE
  refine zm 1 hF rfl fun a hF => ?_
  refine c_n ?_
  replace hF := hF.sel [0, 6, 9]
  simp only [ss, Nat.reduceBEq] at hF
  refine c_seq fun Q1 k1 t1 => ?_
  refine c_sr fun ops => ?_
  refine zm 1 hF rfl fun a hF => ?_
  refine zb hF rfl rfl rfl (b_lt _ _ _ _) fun a hF => ?_
  refine c_n ?_
  replace hF := hF.sel [0, 6, 9, 17]
  simp only [ss, Nat.reduceBEq] at hF
  refine c_if hF rfl (fun h17 => ?_) (fun h17 => ?_)
  ·
   try simp only [qq] at h17
   have hs0 : soaN l nm cls = (0, none) := by
     rcases hbi with ⟨hb, -, -⟩ | ⟨k, hk, hb, rfl, -⟩
     · unfold soaN; rw [hb]
     · omega
   refine c_sr fun ops => ?_
   refine zl hF rfl (r_build hF rfl rfl (bd27 _)) fun a hF => ?_
   refine ls_storeagg 0 hF hH rfl rfl rfl rfl rfl ti27 rfl (rfl) (rfl) (by simp [Value.oneCell']) ?_
   intro w hH
   refine zm 2 hF rfl fun a hF => ?_
   refine c_n ?_
   replace hF := hF.sel [6, 7, 8]
   simp only [ss, Nat.reduceBEq] at hF
   refine wp_ret (t1.ret (hret (retc3 (fn := Tryz.f85) (t := 6) (u := 7) (x := 8) (i := 0) hF hH Tryz.results85 rfl rfl rfl (by kernel_rfl) ti27 rfl rfl ?_)))
   exact ⟨.slice none 0 0, [], by rw [hs0]; rfl, hH.sub (List.nil_sublist _), by rw [hs0]; exact Sl.nil _ _⟩
  try simp only [qq] at h17
  obtain ⟨k, hk, hb, rfl, -⟩ := hbi.resolve_left (fun h => by have := h.2.1; omega)
  obtain ⟨b, off, dv, rfl, hset, hdv⟩ := hR.at hk
  obtain ⟨dad, dcp, rfl⟩ := hdv.shape
  have hdl := hdm _ (List.getElem_mem hk)
  refine wp_skip ?_
  refine k1 ?_
  refine c_seq fun Q2 k2 t2 => ?_
  refine c_sr fun ops => ?_
  refine zm 2 hF rfl fun a hF => ?_
  refine zl hF rfl (r_indexaddr hF _ rfl rfl rfl Tryz.underlying22 ti27 (by omega)) fun a hF => ?_
  refine zl hF rfl (r_fieldaddr hF rfl rfl fd27_4) fun a hF => ?_
  refine zl hF rfl (r_load hF rfl rfl fl25 (hH.cell (hset 4 _ rfl))) fun a hF => ?_
  refine zl hF rfl (r_len_sl hF rfl rfl Tryz.underlying25) fun a hF => ?_
  refine zb hF rfl rfl rfl (b_nen _ _ _ 1) fun a hF => ?_
  refine c_n ?_
  replace hF := hF.sel [0, 6, 9, 25]
  simp only [ss, Nat.reduceBEq] at hF
  refine c_if hF rfl (fun h25 => ?_) (fun h25 => ?_)
  ·
   try simp only [qq] at h25
   have hs0 : soaN l nm cls = (3, none) := by unfold soaN; rw [hb]; simp only; rw [if_neg h25]
   refine c_sr fun ops => ?_
   refine zl hF rfl (r_build hF rfl rfl (bd27 _)) fun a hF => ?_
   refine ls_storeagg 0 hF hH rfl rfl rfl rfl rfl ti27 rfl (rfl) (rfl) (by simp [Value.oneCell']) ?_
   intro w hH
   refine zm 2 hF rfl fun a hF => ?_
   refine c_n ?_
   replace hF := hF.sel [6, 7, 8]
   simp only [ss, Nat.reduceBEq] at hF
   refine wp_ret (t2.ret (hret (retc3 (fn := Tryz.f85) (t := 6) (u := 7) (x := 8) (i := 0) hF hH Tryz.results85 rfl rfl rfl (by kernel_rfl) ti27 rfl rfl ?_)))
   exact ⟨.slice none 0 0, [], by rw [hs0]; rfl, hH.sub (List.nil_sublist _), by rw [hs0]; exact Sl.nil _ _⟩
  try simp only [qq] at h25
  have hs0 : soaN l nm cls = (0, some l[k]) := by unfold soaN; rw [hb]; simp only; rw [if_pos (by omega)]
  obtain ⟨bd, od, had, hcd⟩ := hdv.at (i := 0) (by omega)
  refine wp_skip ?_
  refine k2 ?_
  refine c_sr fun ops => ?_
  refine zm 2 hF rfl fun a hF => ?_
  refine zl hF rfl (r_indexaddr hF _ rfl rfl rfl Tryz.underlying22 ti27 (by omega)) fun a hF => ?_
  refine zl hF rfl (r_loadagg hF rfl rfl Tryz.underlying27 ti27 rfl (fun j u hu => hH.cell (hset j u hu))) fun a hF => ?_
  refine ls_storeagg 0 hF hH rfl rfl rfl rfl rfl ti27 rfl (rfl) (rfl) (by simp [setV, cells_agg, Value.oneCell']) ?_
  intro w hH
  simp only [List.set_cons_zero] at hH
  refine c_n ?_
  replace hF := hF.sel [6]
  simp only [ss, Nat.reduceBEq] at hF
  rw [had] at hH
  refine c_sr fun ops => ?_
  refine zl hF rfl (r_fieldaddr0 hF rfl rfl fd27_4) fun a hF => ?_
  refine zl hF rfl (r_load hF rfl rfl fl25 (own_cell (i := 0) hH rfl rfl)) fun a hF => ?_
  refine zl hF rfl (r_ix1 hF 0 rfl rfl rfl Tryz.underlying25 ti9 (by omega)) fun a hF => ?_
  refine zl hF rfl (r_load hF rfl rfl fl9 (hH.cell hcd)) fun a hF => ?_
  refine ls_build1 hF hH rfl rfl rfl rfl rfl Tryz.underlying25 ti9 rfl (by decide) ?_
  intro a w g7_4 hH hE hF
  refine zl hF rfl (r_fieldaddr0 hF rfl rfl fd27_4) fun a hF => ?_
  refine ls_store 1 hF hH rfl rfl rfl rfl rfl fl25 ti25 rfl (by simp [setV]) (by simp [noFreeze]) (rfl) ?_
  intro w hH
  simp only [List.set_cons_succ, List.set_cons_zero] at hH
  refine c_n ?_
  replace hF := hF.sel [6]
  simp only [ss, Nat.reduceBEq] at hF
  refine c_sr fun ops => ?_
  refine zl hF rfl (r_loadagg hF rfl rfl Tryz.underlying27 ti27 rfl (own_agg (i := 1) hH rfl)) fun a hF => ?_
  refine ls_storeagg 1 hF hH rfl rfl rfl rfl rfl ti27 rfl (rfl) (rfl) (by simp [setV, cells_agg, Value.oneCell']) ?_
  intro w hH
  simp only [List.set_cons_succ, List.set_cons_zero] at hH
  refine zm 2 hF rfl fun a hF => ?_
  refine c_n ?_
  replace hF := hF.sel [6, 7, 8]
  simp only [ss, Nat.reduceBEq] at hF
  refine wp_ret (hret (retc3 (fn := Tryz.f85) (t := 6) (u := 7) (x := 8) (i := 1) hF hH Tryz.results85 rfl rfl rfl (by kernel_rfl) ti27 rfl rfl ?_))
  have hd1 : l[k].data = [l[k].data.getD 0 []] := by
    obtain ⟨d0, hd0⟩ := List.length_eq_one_iff.1 (show l[k].data.length = 1 by omega)
    rw [hd0]; rfl
  refine ⟨.slice (some ⟨g7_4, 0, none⟩) 1 1, [(g7_4, _)], by rw [hs0]; rfl, hH.sub (List.Sublist.cons_cons _ (List.nil_sublist _)), ?_⟩
  rw [hs0]
  show Sl 9 1 _ _ l[k].data.length (strV l[k].data)
  rw [hd1]
  exact ⟨rfl, .inr ⟨_, 1, _, rfl, rfl, Nat.le_refl _, by unfold maxLen; omega, rfl, rfl⟩⟩
theorem numB_snoc (d : Bs) (c : UInt8) : numB (d ++ [c]) = numB d * 256 + c.toNat := by simp [numB]
theorem numB_lt : ∀ (d : Bs), numB d < 256 ^ d.length := by
  intro d
  suffices h : ∀ (d : Bs) (n m : Nat), n < m → d.foldl (fun n b => n * 256 + b.toNat) n < m * 256 ^ d.length by
    have := h d 0 1 (by decide); simpa [numB] using this
  intro d
  induction d with
  | nil => intro n m h; simpa using h
  | cons c d ih =>
    intro n m h
    have hc := c.toNat_lt
    have := ih (n * 256 + c.toNat) (m * 256) (by omega)
    rw [List.foldl_cons, List.length_cons, Nat.pow_succ]
    rw [Nat.mul_assoc, Nat.mul_comm 256] at this
    exact this
theorem numB_small {d : Bs} {k : Nat} (h : d.length ≤ 3) : numB d < 16777216 := by
  have h1 := numB_lt d
  have h2 : 256 ^ d.length ≤ 256 ^ 3 := Nat.pow_le_pow_right (by decide) h
  have h3 : (256 : Nat) ^ 3 = 16777216 := by decide
  omega
theorem numB_next {d : Bs} {i : Nat} (h : i < d.length) : numB (d.take (i + 1)) = numB (d.take i) * 256 + (d.getD i 0).toNat := by
  rw [List.take_succ_eq_append_getElem h, numB_snoc]
  congr 2
  simp [List.getD_eq_getElem?_getD, h]
/-- A datum of an SOA record says a time. -/
theorem parts_fixed {msg : Bs} {whole : Bool} {n : Nat} : ∀ (l : List Part) (p : Nat) (ps : Pieces), (doParts msg whole (l ++ [.fixed n]) p ps).1 = 0 → n ≤ msg.length
  | [], p, ps, h => by
    by_cases hh : msg.length < p + n
    · simp only [List.nil_append, doParts, doPart, if_pos hh] at h; cases h
    · omega
  | x :: l, p, ps, h => by
    rw [List.cons_append, doParts] at h
    generalize doPart msg whole p ps x = r at h
    obtain ⟨e, p', ps'⟩ := r
    cases e with
    | zero => exact parts_fixed l p' ps' h
    | succ e => cases h
theorem dmay6_len {d : Bs} (h : dmayB 6 d = true) : 4 ≤ d.length := by
  have h1 : (readE d (doParts d true ([.named, .named] ++ [.fixed 20]) 0 [])).1 = 0 := of_decide_eq_true h
  have h2 : (doParts d true ([.named, .named] ++ [.fixed 20]) 0 []).1 = 0 := by
    unfold readE at h1
    split at h1
    · assumption
    · exact h1
  have := parts_fixed _ _ _ h2
  omega
theorem soaTime_spec (s : RSet) (dv : Value) (w0 : World) (hv : RSl w0 1 dv s.data.length (strV s.data)) (hl : s.data.length < 1000000) (hd : ∀ d ∈ s.data, d.length < 1000000) (hG : GW w0) :
    Rets Tryz.prog 86 [.agg (setV s dv).toArray] w0 fun r w' => r = .int .u32 (soaTime s : Nat) ∧ Ext w0 w' := by
  have hH := Hp.refl w0
  obtain ⟨ad, cap, rfl⟩ := hv.shape
  refine rets_start Tryz.func86 rfl Tryz.ntmps86 rfl fun a Q0 hF hret hend => ?_
  simp only [argsFrom, Nat.zero_add, Nat.reduceAdd] at hF
  refine c_sr fun ops => ?_
  refine ls_box hF hH rfl rfl rfl rfl rfl ?_
  intro a w g0_0 hH hE hF
  refine zm 1 hF rfl fun a hF => ?_
  refine c_n ?_
  replace hF := hF.sel [1]
  simp only [ss, Nat.reduceBEq] at hF
  simp only [cells_agg] at hH
  refine c_sr fun ops => ?_
  refine zl hF rfl (r_loadagg hF rfl rfl Tryz.underlying27 ti27 rfl (own_agg (i := 0) hH rfl)) fun a hF => ?_
  refine zc hF rfl rfl fn32 (records_spec s _ _ (hv.ext hH.below) hl) ?_
  rintro v9 w ⟨B, hB, hS⟩ a hF
  have hX := hS.rsl hB fun p hp => hp
  refine zm 1 hF rfl fun a hF => ?_
  refine c_n ?_
  replace hF := hF.sel [1, 3]
  simp only [ss, Nat.reduceBEq] at hF
  replace hH := hH.ext hB.below
  obtain ⟨rad, rcp, rfl⟩ := hX.shape
  refine c_seq fun Q1 k1 t1 => ?_
  refine c_sg ?_
  refine zl hF rfl (r_fieldaddr0 hF rfl rfl fd27_1) fun a hF => ?_
  refine zl hF rfl (r_load hF rfl rfl fl23 (own_cell (i := 0) hH rfl rfl)) fun a hF => ?_
  refine zb hF rfl rfl rfl (b_nen _ _ _ 6) fun a hF => ?_
  refine zm 1 hF rfl fun a hF => ?_
  refine ls_ask (d := 13) hF rfl (fun g2_3 => ?_) (fun g2_3 => ?_)
  ·
   have g2_3' := g2_3; try simp only [qq] at g2_3'
   refine zn hF rfl g2_3 fun a hF => ?_
   refine zn hF rfl g2_3 fun a hF => ?_
   refine zn hF rfl g2_3 fun a hF => ?_
   refine zl hF rfl (r_pickt hF rfl rfl g2_3 rfl) fun a hF => ?_
   refine zm 1 hF rfl fun a hF => ?_
   refine zn hF rfl rfl fun a hF => ?_
   refine zn hF rfl rfl fun a hF => ?_
   refine zn hF rfl rfl fun a hF => ?_
   refine zn hF rfl rfl fun a hF => ?_
   refine zn hF rfl rfl fun a hF => ?_
   refine zn hF rfl rfl fun a hF => ?_
   refine zl hF rfl (r_pickt hF rfl rfl rfl rfl) fun a hF => ?_
   refine c_n ?_
   replace hF := hF.sel [1, 3, 25]
   simp only [ss, Nat.reduceBEq] at hF
   refine c_yes hF rfl rfl ?_
   refine c_sr fun ops => ?_
   refine zm 1 hF rfl fun a hF => ?_
   refine c_n ?_
   replace hF := hF.sel [2]
   simp only [ss, Nat.reduceBEq] at hF
   refine wp_ret (t1.ret (hret (ret1 hF Tryz.results86 rfl ?_)))
   have hT : soaTime s = 0 := by
     unfold soaTime
     rw [if_neg]
     rintro ⟨e1, e2, e3⟩
     first
       | exact g2_3' e1
       | exact g2_8' e2
       | (rw [hd0] at e3; simp_all)
   exact ⟨by rw [hT]; rfl, hH.below⟩
  have g2_3' := g2_3; try simp only [qq] at g2_3'
  refine zy hF rfl g2_3 (r_move hF rfl rfl) fun a hF => ?_
  refine zy hF rfl g2_3 (r_len_sl hF rfl rfl Tryz.underlying34) fun a hF => ?_
  refine zy hF rfl g2_3 (zr hF rfl rfl (b_nen _ _ _ 1)) fun a hF => ?_
  refine zl hF rfl (r_pickf hF rfl rfl g2_3 rfl) fun a hF => ?_
  refine zm 1 hF rfl fun a hF => ?_
  refine ls_ask (d := 18) hF rfl (fun g2_8 => ?_) (fun g2_8 => ?_)
  ·
   have g2_8' := g2_8; try simp only [qq] at g2_8'
   refine zn hF rfl g2_8 fun a hF => ?_
   refine zn hF rfl g2_8 fun a hF => ?_
   refine zn hF rfl g2_8 fun a hF => ?_
   refine zn hF rfl g2_8 fun a hF => ?_
   refine zn hF rfl g2_8 fun a hF => ?_
   refine zn hF rfl g2_8 fun a hF => ?_
   refine zl hF rfl (r_pickt hF rfl rfl g2_8 rfl) fun a hF => ?_
   refine c_n ?_
   replace hF := hF.sel [1, 3, 25]
   simp only [ss, Nat.reduceBEq] at hF
   refine c_yes hF rfl rfl ?_
   refine c_sr fun ops => ?_
   refine zm 1 hF rfl fun a hF => ?_
   refine c_n ?_
   replace hF := hF.sel [2]
   simp only [ss, Nat.reduceBEq] at hF
   refine wp_ret (t1.ret (hret (ret1 hF Tryz.results86 rfl ?_)))
   have hT : soaTime s = 0 := by
     unfold soaTime
     rw [if_neg]
     rintro ⟨e1, e2, e3⟩
     first
       | exact g2_3' e1
       | exact g2_8' e2
       | (rw [hd0] at e3; simp_all)
   exact ⟨by rw [hT]; rfl, hH.below⟩
  have g2_8' := g2_8; try simp only [qq] at g2_8'
  obtain ⟨d0, hd0⟩ := List.length_eq_one_iff.1 (show s.data.length = 1 by omega)
  have hro : recsOf s = [⟨s.name, s.kind, s.cls, s.ttl, d0⟩] := by simp [recsOf, hd0]
  have hd0l := hd d0 (by rw [hd0]; exact List.mem_singleton.2 rfl)
  rw [hro] at hX
  obtain ⟨bx, offx, rfl, -, hrecx⟩ := hX.rec (l := [⟨s.name, s.kind, s.cls, s.ttl, d0⟩]) (i := 0) (Nat.zero_lt_one)
  refine zy hF rfl g2_8 (r_move hF rfl rfl) fun a hF => ?_
  refine zy hF rfl g2_8 (r_indexaddr hF 0 rfl rfl rfl Tryz.underlying34 ti38 (by omega)) fun a hF => ?_
  refine zy hF rfl g2_8 (r_fieldaddr hF rfl rfl fd38_4) fun a hF => ?_
  refine zy hF rfl g2_8 (r_load hF rfl rfl fl9 (hrecx 4 _ rfl)) fun a hF => ?_
  refine zyc hF rfl g2_8 rfl fn57 (dmay_spec 6 d0 hd0l _ (hG.ext hH.below)) ?_
  rintro _ w ⟨rfl, hE⟩ a hF
  replace hH := hH.ext hE; replace hX := hX.ext hE
  refine zy hF rfl g2_8 (r_not hF rfl rfl) fun a hF => ?_
  refine zl hF rfl (r_pickf hF rfl rfl g2_8 rfl) fun a hF => ?_
  refine c_n ?_
  replace hF := hF.sel [1, 3, 25]
  simp only [ss, Nat.reduceBEq] at hF
  refine c_if hF rfl (fun h25 => ?_) (fun h25 => ?_)
  ·
   try simp only [qq] at h25
   refine c_sr fun ops => ?_
   refine zm 1 hF rfl fun a hF => ?_
   refine c_n ?_
   replace hF := hF.sel [2]
   simp only [ss, Nat.reduceBEq] at hF
   refine wp_ret (t1.ret (hret (ret1 hF Tryz.results86 rfl ?_)))
   have hT : soaTime s = 0 := by
     unfold soaTime
     rw [if_neg]
     rintro ⟨e1, e2, e3⟩
     first
       | exact g2_3' e1
       | exact g2_8' e2
       | (rw [hd0] at e3; simp_all)
   exact ⟨by rw [hT]; rfl, hH.below⟩
  try simp only [qq] at h25
  have hm6 : dmayB 6 d0 = true := by simpa using h25
  have h4 := dmay6_len hm6
  obtain ⟨bx, offx, e1, -, hrecx⟩ := hX.rec (l := [⟨s.name, s.kind, s.cls, s.ttl, d0⟩]) (i := 0) (Nat.zero_lt_one)
  cases e1
  replace hrecx : ∀ j u, (recV ⟨s.name, s.kind, s.cls, s.ttl, d0⟩)[j]? = some u → w.cell? ⟨bx, offx + 0 * 5 + j, none⟩ = some u := hrecx
  have hT : soaTime s = if 2147483647 < numB (d0.drop (d0.length - 4)) ∨ 2147483647 < s.ttl then 0 else min (numB (d0.drop (d0.length - 4))) s.ttl := by
    unfold soaTime
    rw [if_pos ⟨g2_3', by rw [hd0]; rfl, by rw [hd0]; exact hm6⟩, hd0]
    rfl
  have hdl : (d0.drop (d0.length - 4)).length = 4 := by rw [List.length_drop]; omega
  refine wp_skip ?_
  refine k1 ?_
  refine c_sr fun ops => ?_
  refine zm 1 hF rfl fun a hF => ?_
  refine zl hF rfl (r_indexaddr hF 0 rfl rfl rfl Tryz.underlying34 ti38 (by omega)) fun a hF => ?_
  refine zl hF rfl (r_fieldaddr hF rfl rfl fd38_4) fun a hF => ?_
  refine zl hF rfl (r_load hF rfl rfl fl9 (hrecx 4 _ rfl)) fun a hF => ?_
  refine zm 2 hF rfl fun a hF => ?_
  refine c_n ?_
  replace hF := hF.sel [1, 4, 5]
  simp only [ss, Nat.reduceBEq] at hF
  refine c_seq fun Q2 k2 t2 => ?_
  refine c_sr fun ops => ?_
  refine zm 2 hF rfl fun a hF => ?_
  refine zl hF rfl (r_len_str hF rfl rfl Tryz.underlying9) fun a hF => ?_
  refine zb hF rfl rfl rfl (b_subn _ _ 4 (by omega)) fun a hF => ?_
  refine zl hF rfl (r_slicefn hF _ rfl rfl Tryz.underlying9 ⟨_, rfl⟩ (by omega)) fun a hF => ?_
  refine ls_convbytes hF hH rfl rfl rfl rfl rfl Tryz.underlying9 Tryz.underlying88 Tryz.underlying5 (by unfold maxLen; omega) ?_
  intro a w g5_5 cap5_5 cur5_5 hH hE hcap5_5 hmx5_5 hsz5_5 htk5_5 hF
  refine zl hF rfl (r_len_sl hF rfl rfl Tryz.underlying88) fun a hF => ?_
  refine zm 1 hF rfl fun a hF => ?_
  refine c_n ?_
  replace hF := hF.sel [1, 5, 35, 36, 37]
  simp only [ss, Nat.reduceBEq] at hF
  generalize hD : d0.drop (d0.length - 4) = D at *
  rw [hdl] at hF htk5_5
  refine c_block fun Q3 t3 => ?_
  refine c_loop (fun n a w => ∃ i, n = 4 - i ∧ i ≤ 4 ∧ Fr 58 [(1, ptr g0_0), (5, .int .u32 (numB (D.take i) : Nat)), (35, .slice (some ⟨g5_5, 0, none⟩) 4 cap5_5), (36, .int .i64 (4 : Nat)), (37, .int .i64 (i : Nat))] a ∧ Hp w0 w [(g5_5, .cells cur5_5 5 (cur5_5.size, cur5_5.size + 1)), (g0_0, .cells (setV s (.slice ad s.data.length cap)).toArray 27 (0, 0))]) ?_ ?_
  ·
   exact ⟨_, 0, rfl, Nat.zero_le _, hF.keep [1, 5, 35, 36, 37] rfl, hH⟩
  clear hH hF
  intro n a w hI Q4 k4 t4
  obtain ⟨i, hm, hi, hF, hH⟩ := hI
  refine c_sr fun ops => ?_
  refine zb hF rfl rfl rfl (b_ltn _ _ _ _) fun a hF => ?_
  refine c_n ?_
  refine c_seq fun Q5 k5 t5 => ?_
  refine c_if hF rfl (fun h38 => ?_) (fun h38 => ?_)
  ·
   try simp only [qq] at h38
   have hc8 := (D.getD i 0).toNat_lt
   have hsm : numB (D.take i) < 16777216 := numB_small (k := 0) (by rw [List.length_take]; omega)
   refine wp_skip ?_
   refine k5 ?_
   refine c_seq fun Q6 k6 t6 => ?_
   refine c_block fun Q7 t7 => ?_
   refine c_sr fun ops => ?_
   refine zl hF rfl (r_ixown1 hF _ rfl rfl rfl Tryz.underlying88 ti5 (by omega)) fun a hF => ?_
   refine zl hF rfl (r_load hF rfl rfl fl5 (own_cell (i := 0) hH rfl (take_get htk5_5 (bytV_get (l := D) (i := i) (by omega))))) fun a hF => ?_
   refine zm 1 hF rfl fun a hF => ?_
   refine c_n ?_
   refine c_reg fun ops => ?_
   refine zm 1 hF rfl fun a hF => ?_
   refine zb hF rfl rfl rfl (b_shl8u _ _ hsm) fun a hF => ?_
   refine zm 1 hF rfl fun a hF => ?_
   refine zl hF rfl (r_convin hF rfl rfl (by rw [Tryz.underlying5]; rfl) Tryz.underlying24 (0) 4294967295 mn_u32 mx_u32 (by omega)) fun a hF => ?_
   refine zb hF rfl rfl rfl (b_orju _ _ _ hsm (by omega)) fun a hF => ?_
   refine zm 1 hF rfl fun a hF => ?_
   refine wpList_nil ?_
   refine t7.norm ?_
   refine k6 ?_
   refine c_reg fun ops => ?_
   refine zb hF rfl rfl rfl (b_addn _ _ 1 (by omega)) fun a hF => ?_
   refine zm 1 hF rfl fun a hF => ?_
   refine wpList_nil ?_
   refine k4 ?_
   exact ⟨4 - (i + 1), by omega, i + 1, rfl, h38, by rw [numB_next (by omega)]; exact hF.keep [1, 5, 35, 36, 37] rfl, hH⟩
  try simp only [qq] at h38
  obtain rfl : i = 4 := by omega
  rw [List.take_of_length_le (by omega)] at hF
  refine wp_exit (t5.exit (t4.exit (t3.here (?_))))
  refine k2 ?_
  refine c_seq fun Q8 k8 t8 => ?_
  refine c_sg ?_
  refine zm 1 hF rfl fun a hF => ?_
  refine zb hF rfl rfl rfl (b_gtn _ _ _ 2147483647) fun a hF => ?_
  refine zm 1 hF rfl fun a hF => ?_
  refine ls_ask (d := 49) hF rfl (fun g10_2 => ?_) (fun g10_2 => ?_)
  ·
   have g10_2' := g10_2; try simp only [qq] at g10_2'
   refine zn hF rfl g10_2 fun a hF => ?_
   refine zn hF rfl g10_2 fun a hF => ?_
   refine zn hF rfl g10_2 fun a hF => ?_
   refine zl hF rfl (r_pickt hF rfl rfl g10_2 rfl) fun a hF => ?_
   refine c_n ?_
   replace hF := hF.sel [1, 5, 53]
   simp only [ss, Nat.reduceBEq] at hF
   refine c_yes hF rfl rfl ?_
   refine c_sr fun ops => ?_
   refine zm 1 hF rfl fun a hF => ?_
   refine c_n ?_
   replace hF := hF.sel [2]
   simp only [ss, Nat.reduceBEq] at hF
   refine wp_ret (t8.ret (hret (ret1 hF Tryz.results86 rfl ?_)))
   exact ⟨by rw [hT, if_pos (by omega)]; rfl, hH.below⟩
  have g10_2' := g10_2; try simp only [qq] at g10_2'
  refine zy hF rfl g10_2 (r_fieldaddr0 hF rfl rfl fd27_3) fun a hF => ?_
  refine zy hF rfl g10_2 (r_load hF rfl rfl fl24 (own_cell (i := 1) hH rfl rfl)) fun a hF => ?_
  refine zy hF rfl g10_2 (zr hF rfl rfl (b_gtn _ _ _ 2147483647)) fun a hF => ?_
  refine zl hF rfl (r_pickf hF rfl rfl g10_2 rfl) fun a hF => ?_
  refine c_n ?_
  replace hF := hF.sel [1, 5, 53]
  simp only [ss, Nat.reduceBEq] at hF
  refine c_if hF rfl (fun h53 => ?_) (fun h53 => ?_)
  ·
   try simp only [qq] at h53
   skip
   refine c_sr fun ops => ?_
   refine zm 1 hF rfl fun a hF => ?_
   refine c_n ?_
   replace hF := hF.sel [2]
   simp only [ss, Nat.reduceBEq] at hF
   refine wp_ret (t8.ret (hret (ret1 hF Tryz.results86 rfl ?_)))
   exact ⟨by rw [hT, if_pos (by omega)]; rfl, hH.below⟩
  try simp only [qq] at h53
  refine wp_skip ?_
  refine k8 ?_
  refine c_sr fun ops => ?_
  refine zm 1 hF rfl fun a hF => ?_
  refine zl hF rfl (r_fieldaddr0 hF rfl rfl fd27_3) fun a hF => ?_
  refine zl hF rfl (r_load hF rfl rfl fl24 (own_cell (i := 1) hH rfl rfl)) fun a hF => ?_
  refine zl hF rfl (r_minn hF rfl rfl rfl) fun a hF => ?_
  refine zm 1 hF rfl fun a hF => ?_
  refine c_n ?_
  replace hF := hF.sel [2]
  simp only [ss, Nat.reduceBEq] at hF
  refine wp_ret (hret (ret1 hF Tryz.results86 rfl ?_))
  exact ⟨by rw [hT, if_neg (not_or.2 ⟨g10_2', h53⟩)], hH.below⟩
end Go.Proofs.YtcelgjabccgnmaaGreatDoor
