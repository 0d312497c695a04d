/-
  The walk of wire's reader's record. Nothing is claimed here.
  What bytes say, part by part. No program is in sight here.
  A message's blocks, and the walk of wire.Decode. Nothing is claimed here.
  The walk of wire.Decode. Nothing is claimed here.
-/
import Derived.Test.YtpoebplhemimmaaGreatDoorDec1
namespace Go.Proofs.YtpoebplhemimmaaGreatDoor
variable {Ds : List Deferred}
open Go.RowKit
set_option linter.unusedVariables false
set_option linter.unusedSimpArgs false
set_option maxHeartbeats 2000000

theorem gote_spec (x : Ed) (xv : Value) (hxv : xv.oneCell' = true) (e : Nat) (w0 : World) : RetsT Tryz.prog 62 [.agg (edV x xv).toArray, .int .i64 e] w0 (fun u w' => u = .agg (edV x xv).toArray ∧ e = 0 ∧ Ext w0 w') fun n w' => n = e ∧ e ≠ 0 ∧ Ext w0 w' := by
  have hH := Hp.refl w0
  refine rets_startT Tryz.func62 rfl Tryz.ntmps62 rfl fun a Q0 hF hret hend hpan => ?_
  simp only [argsFrom, Nat.zero_add, Nat.reduceAdd] at hF
  refine c_sr fun ops => ?_
  refine ls_box hF hH rfl rfl rfl rfl rfl ?_
  intro a w g0_0 hH hE hF
  refine ls_alloc hF hH rfl rfl rfl rfl zv35 ?_
  intro a w g0_1 hH hE hF
  refine c_n ?_
  replace hF := hF.sel [1, 2, 4]
  simp only [ss, Nat.reduceBEq] at hF
  refine c_sr fun ops => ?_
  refine zm 1 hF rfl fun a hF => ?_
  refine ls_callT hF rfl rfl rfl rfl rfl fn21 (must_spec e _) (fun n w hE => hpan hF (⟨hE.1, hE.2.1, hH.below.trans hE.2.2⟩)) ?_
  rintro _ w ⟨rfl, he, hE⟩ a hF
  replace hH := hH.ext hE
  refine c_n ?_
  replace hF := hF.sel [2, 4]
  simp only [ss, Nat.reduceBEq] at hF
  refine c_sr fun ops => ?_
  refine zl hF rfl (r_loadagg hF rfl rfl Tryz.underlying35 ti35 rfl (own_agg (i := 1) (cs := (edV x xv).toArray) hH rfl)) fun a hF => ?_
  refine ls_storeagg 0 hF hH rfl rfl rfl rfl rfl ti35 rfl (rfl) (rfl) (by simp [edV]; exact ⟨rfl, rfl, rfl, rfl, hxv⟩) ?_
  intro w hH
  refine c_n ?_
  replace hF := hF.sel [4]
  simp only [ss, Nat.reduceBEq] at hF
  refine wp_ret (hret (retc1 (fn := Tryz.f62) (t := 4) (i := 0) hF hH Tryz.results62 rfl (by kernel_rfl) ti35 rfl rfl ?_))
  exact ⟨rfl, he, hH.below⟩
/-- What a record that has been read comes to. -/
def RecQ (w0 : World) (s : Bs) (sec p : Nat) (l : List Rec) (has : Bool) (ed : Ed) (gc gr gm : Nat) (mv : Array Value) (H : List (Nat × Obj)) (v : Value) (w' : World) : Prop :=
  ∃ (x : Rec) (opt : Bool) (p' : Nat) (ed' : Ed) (mv' : Array Value) (B : List (Nat × Obj)), v = .tuple #[.agg (recV x).toArray, .bool opt] ∧ p' ≤ s.length ∧ p < p' ∧ decR s sec ⟨p, l, has, ed⟩ = (0, if opt = true then ⟨p', l, true, ed'⟩ else ⟨p', l ++ [x], has, ed⟩) ∧
    Hp w0 w' ((gc, curO s p') :: (gr, rdO s gc) :: (gm, .cells mv' 37 (0, 0)) :: (B ++ H)) ∧ (opt = false → mv' = mv ∧ B = []) ∧
    (opt = true → ∃ ov, mv' = wr (mv.setIfInBounds 15 (.bool true)) 16 (edV ed' ov) ∧ Sl 85 2 B ov ed'.opts.length (ed'.opts.flatMap optV))
theorem rrecord_spec {w0 w1 : World} {H : List (Nat × Obj)} {gr gc gm p : Nat} {s : Bs} {mv : Array Value} (sec : Nat) (l : List Rec) (has : Bool) (ed : Ed) (hG : GX w0)
    (hH0 : Hp w0 w1 ((gc, curO s p) :: (gr, rdO s gc) :: (gm, .cells mv 37 (0, 0)) :: H)) (hmv : mv.size = 21) (hhas : mv[15]? = some (.bool has)) (hp : p ≤ s.length) (hs : s.length < 300000) :
    RetsT Tryz.prog 27 [ptr gr, ptr gm, .int .i64 (sec : Nat)] w1 (RecQ w0 s sec p l has ed gc gr gm mv H)
      fun n w' => n = (decR s sec ⟨p, l, has, ed⟩).1 ∧ n ≠ 0 ∧ Hp w0 w' ((gm, .cells mv 37 (0, 0)) :: H) := by
  have hH := hH0
  obtain ⟨en, nm, q, hrd⟩ : ∃ en nm q, readAt s p = (en, nm, q) := ⟨_, _, _, rfl⟩
  have hrn := @readAt_next s p
  obtain ⟨D, hD⟩ : ∃ D, decR s sec ⟨p, l, has, ed⟩ = D := ⟨_, rfl⟩
  have hD2 := hD
  unfold decR at hD2
  simp only [hrd] at hD2 hrn
  refine rets_startT Tryz.func27 rfl Tryz.ntmps27 rfl fun a Q0 hF hret hend hpan => ?_
  simp only [argsFrom, Nat.zero_add, Nat.reduceAdd] at hF
  refine c_sr fun ops => ?_
  refine ls_alloc hF hH rfl rfl rfl rfl zv56 ?_
  intro a w g0_0 hH hE hF
  refine zm 1 hF rfl fun a hF => ?_
  refine c_n ?_
  replace hF := hF.sel [0, 1, 2, 6]
  simp only [ss, Nat.reduceBEq] at hF
  replace hH : Hp w0 w ((gc, curO s p) :: (gr, rdO s gc) :: (g0_0, .cells (recV ⟨[], 0, 0, 0, []⟩).toArray 56 (0, 0)) :: (gm, .cells mv 37 (0, 0)) :: H) :=
    (show Hp w0 w ([(g0_0, .cells (recV ⟨[], 0, 0, 0, []⟩).toArray 56 (0, 0))] ++ ([(gc, curO s p)] ++ ([(gr, rdO s gc)] ++ ((gm, .cells mv 37 (0, 0)) :: H)))) from hH).pick (H' := [(gc, curO s p)] ++ ([(gr, rdO s gc)] ++ ([(g0_0, .cells (recV ⟨[], 0, 0, 0, []⟩).toArray 56 (0, 0))] ++ ((gm, .cells mv 37 (0, 0)) :: H)))) (R := []) (fun z => by simp only [List.count_append, List.count_nil]; omega)
  refine c_sr fun ops => ?_
  refine zm 1 hF rfl fun a hF => ?_
  refine ls_callT hF rfl rfl rfl rfl rfl fn24 (rname_spec hG hH hp (by omega)) (fun n w hE => hpan hF (by
    obtain ⟨h1, h2, h3⟩ := hE
    rw [hrd] at h1 h2
    rw [if_pos h2] at hD2
    exact ⟨by rw [hD, ← hD2]; exact h1, by rw [h1]; exact h2, h3.drop⟩)) ?_
  rintro _ w ⟨rfl, he0, hH⟩ a hF
  rw [hrd] at hF hH he0; simp only at hF hH he0; have hq := hrn he0
  refine zl hF rfl (r_fieldaddr0 hF rfl rfl fd56_0) fun a hF => ?_
  refine ls_store 2 hF hH rfl rfl rfl rfl rfl fl9 ti9 rfl ((show 0 < 5 by omega)) (by simp [noFreeze]) (rfl) ?_
  intro w hH
  refine c_n ?_
  replace hF := hF.sel [0, 1, 2, 6]
  simp only [ss, Nat.reduceBEq] at hF
  rw [if_neg (by omega)] at hD2
  refine c_sr fun ops => ?_
  refine zm 1 hF rfl fun a hF => ?_
  refine ls_callT hF rfl rfl rfl rfl rfl fn25 (rtwo_spec hG hH (by omega) (by omega)) (fun n w hE => hpan hF (by
    obtain ⟨h1, h2, h3⟩ := hE
    rw [if_pos (by omega)] at hD2
    exact ⟨by rw [hD, ← hD2]; exact h1, by omega, h3.drop⟩)) ?_
  rintro _ w ⟨rfl, hl2, hH⟩ a hF
  skip
  refine zl hF rfl (r_fieldaddr0 hF rfl rfl fd56_1) fun a hF => ?_
  refine ls_store 2 hF hH rfl rfl rfl rfl rfl fl28 ti28 rfl ((show 1 < 5 by omega)) (by simp [noFreeze]) (rfl) ?_
  intro w hH
  refine c_n ?_
  replace hF := hF.sel [0, 1, 2, 6]
  simp only [ss, Nat.reduceBEq] at hF
  refine c_sr fun ops => ?_
  refine zm 1 hF rfl fun a hF => ?_
  refine ls_callT hF rfl rfl rfl rfl rfl fn25 (rtwo_spec hG hH (by omega) (by omega)) (fun n w hE => hpan hF (by
    obtain ⟨h1, h2, h3⟩ := hE
    rw [if_pos (by omega)] at hD2
    exact ⟨by rw [hD, ← hD2]; exact h1, by omega, h3.drop⟩)) ?_
  rintro _ w ⟨rfl, hl4, hH⟩ a hF
  skip
  refine zl hF rfl (r_fieldaddr0 hF rfl rfl fd56_2) fun a hF => ?_
  refine ls_store 2 hF hH rfl rfl rfl rfl rfl fl28 ti28 rfl ((show 2 < 5 by omega)) (by simp [noFreeze]) (rfl) ?_
  intro w hH
  refine c_n ?_
  replace hF := hF.sel [0, 1, 2, 6]
  simp only [ss, Nat.reduceBEq] at hF
  refine c_sr fun ops => ?_
  refine zm 1 hF rfl fun a hF => ?_
  refine zl hF rfl (r_nilcheck hF rfl rfl) fun a hF => ?_
  refine zl hF rfl (r_fieldaddr0 hF rfl rfl fd67_1) fun a hF => ?_
  refine zl hF rfl (r_load hF rfl rfl fl64 (own_cell (i := 1) (v := ptr gc) hH rfl rfl)) fun a hF => ?_
  refine zc hF rfl rfl fn60 (four_cspec hG.errs hH (by omega) (by omega)) ?_
  rintro _ w ⟨rfl, hH⟩ a hF
  skip
  refine zm 2 hF rfl fun a hF => ?_
  refine ls_callT hF rfl rfl rfl rfl rfl fn59 (got32_spec _ _ _) (fun n w hE => hpan hF (by
    obtain ⟨h1, h2, h3⟩ := hE
    by_cases hc : s.length < q + 2 + 2 + 4
    · rw [if_pos hc] at h1
      rw [if_pos (by omega)] at hD2
      exact ⟨by rw [hD, ← hD2]; exact h1, by omega, (((hH.ext h3).drop).drop).drop⟩
    · rw [if_neg hc] at h2; exact absurd rfl h2)) ?_
  rintro _ w ⟨rfl, he8, hE⟩ a hF
  replace hH := hH.ext hE
  have hl8 : ¬ s.length < q + 2 + 2 + 4 := fun hc => by rw [if_pos hc] at he8; cases he8
  simp only [if_neg hl8] at hF hH
  refine zl hF rfl (r_fieldaddr0 hF rfl rfl fd56_3) fun a hF => ?_
  refine ls_store 2 hF hH rfl rfl rfl rfl rfl fl54 ti54 rfl ((show 3 < 5 by omega)) (by simp [noFreeze]) (rfl) ?_
  intro w hH
  refine c_n ?_
  replace hF := hF.sel [0, 1, 2, 6]
  simp only [ss, Nat.reduceBEq] at hF
  refine c_sr fun ops => ?_
  refine zm 1 hF rfl fun a hF => ?_
  refine ls_callT hF rfl rfl rfl rfl rfl fn25 (rtwo_spec hG hH (by omega) (by omega)) (fun n w hE => hpan hF (by
    obtain ⟨h1, h2, h3⟩ := hE
    rw [if_pos (by omega)] at hD2
    exact ⟨by rw [hD, ← hD2]; exact h1, by omega, h3.drop⟩)) ?_
  rintro _ w ⟨rfl, hl10, hH⟩ a hF
  skip
  refine zl hF rfl (r_convin hF rfl rfl (by rw [Tryz.underlying28]; rfl) Tryz.underlying3 (-9223372036854775808) 9223372036854775807 mn_i64 mx_i64 (by have := num2_lt s (q + 2 + 2 + 4); omega)) fun a hF => ?_
  refine zm 1 hF rfl fun a hF => ?_
  refine c_n ?_
  replace hF := hF.sel [0, 1, 2, 6, 8]
  simp only [ss, Nat.reduceBEq] at hF
  rw [if_neg (show ¬ s.length < q + 10 by omega)] at hD2
  have e2 : q + 2 + 2 + 4 = q + 8 := by omega
  have e3 : q + 2 + 2 + 4 + 2 = q + 10 := by omega
  have e4 : q + 2 + 2 = q + 4 := by omega
  rw [e3] at hH
  rw [e2] at hF
  have hn8 := num2_lt s (q + 8)
  replace hH : Hp w0 w ((gc, curO s (q + 10)) :: (gr, rdO s gc) :: (g0_0, .cells (recV ⟨nm, num2 s q, num2 s (q + 2), num4 s (q + 4), []⟩).toArray 56 (0, 0)) :: (gm, .cells mv 37 (0, 0)) :: H) := by rw [e4] at hH; exact hH
  refine c_sr fun ops => ?_
  refine zm 1 hF rfl fun a hF => ?_
  refine zl hF rfl (r_nilcheck hF rfl rfl) fun a hF => ?_
  refine zl hF rfl (r_fieldaddr0 hF rfl rfl fd67_1) fun a hF => ?_
  refine zl hF rfl (r_load hF rfl rfl fl64 (own_cell (i := 1) (v := ptr gc) hH rfl rfl)) fun a hF => ?_
  refine zc hF rfl rfl fn57 (at_spec hH) ?_
  rintro _ w ⟨rfl, hH⟩ a hF
  skip
  refine zm 1 hF rfl fun a hF => ?_
  refine c_n ?_
  replace hF := hF.sel [0, 1, 2, 6, 8, 9]
  simp only [ss, Nat.reduceBEq] at hF
  refine c_sr fun ops => ?_
  refine zm 1 hF rfl fun a hF => ?_
  refine zl hF rfl (r_nilcheck hF rfl rfl) fun a hF => ?_
  refine zl hF rfl (r_fieldaddr0 hF rfl rfl fd67_1) fun a hF => ?_
  refine zl hF rfl (r_load hF rfl rfl fl64 (own_cell (i := 1) (v := ptr gc) hH rfl rfl)) fun a hF => ?_
  refine zm 1 hF rfl fun a hF => ?_
  refine zc hF rfl rfl fn61 (take_spec' (num2 s (q + 8)) hG.errs hH (by omega) (by omega)) ?_
  rintro _ w ⟨rfl, hH⟩ a hF
  skip
  refine zm 2 hF rfl fun a hF => ?_
  refine ls_callT hF rfl rfl rfl rfl rfl fn38 (gots_spec _ _ _) (fun n w hE => hpan hF (by
    obtain ⟨h1, h2, h3⟩ := hE
    by_cases hc : s.length < q + 10 + num2 s (q + 8)
    · rw [if_pos hc] at h1 hD2
      exact ⟨by rw [hD, ← hD2]; exact h1, by omega, (((hH.ext h3).drop).drop).drop⟩
    · rw [if_neg hc] at h2; exact absurd rfl h2)) ?_
  rintro _ w ⟨rfl, he, hE⟩ a hF
  replace hH := hH.ext hE
  refine zm 1 hF rfl fun a hF => ?_
  refine c_n ?_
  replace hF := hF.sel [0, 1, 2, 6, 8, 9, 10]
  simp only [ss, Nat.reduceBEq] at hF
  have hln : ¬ s.length < q + 10 + num2 s (q + 8) := fun hc => by rw [if_pos hc] at he; cases he
  simp only [if_neg hln] at hF hH
  rw [if_neg hln] at hD2
  refine c_seq fun Q1 k1 t1 => ?_
  refine c_sr fun ops => ?_
  refine zl hF rfl (r_fieldaddr0 hF rfl rfl fd56_1) fun a hF => ?_
  refine zl hF rfl (r_load hF rfl rfl fl28 (own_cell (i := 2) (v := .int .u16 (num2 s q : Nat)) hH rfl rfl)) fun a hF => ?_
  refine zb hF rfl rfl rfl (b_eqn _ _ _ 41) fun a hF => ?_
  refine c_n ?_
  replace hF := hF.sel [0, 1, 2, 6, 8, 9, 10, 48]
  simp only [ss, Nat.reduceBEq] at hF
  refine c_fi hF rfl (fun h48 => ?_) (fun h48 => ?_)
  ·
   try simp only [qq] at h48
   rw [if_neg h48] at hD2
   obtain ⟨rN, hrN⟩ : ∃ rN, rdN s (q + 10) (num2 s (q + 8)) (num2 s q) = rN := ⟨_, rfl⟩
   have hrN2 := hrN
   unfold rdN at hrN2
   refine wp_skip ?_
   refine k1 ?_
   refine c_seq fun Q2 k2 t2 => ?_
   refine c_planF hF [] [0, 1, 2, 4, 5, 6] [.p 3, .p 7] [.o 8, .p 9, .p 10] [11, 12, 13] [0, 1, 2, 4, 5, 6, 3, 7] (hH.S) (by kernel_rfl) (by kernel_rfl) rfl ?_
   refine ps hF rfl rfl rfl rfl (fun w => r_move hF rfl rfl) fun a hF => ?_
   refine ps_nil hF rfl rfl rfl rfl rfl fun a hF => ?_
   refine ps hF rfl rfl rfl rfl (fun w => r_fieldaddr0 hF rfl rfl fd67_0) fun a hF => ?_
   refine ps hF rfl rfl rfl rfl (fun w => r_move hF rfl rfl) fun a hF => ?_
   refine ps hF rfl rfl rfl rfl (fun w => r_move hF rfl rfl) fun a hF => ?_
   refine ps hF rfl rfl rfl rfl (fun w => r_fieldaddr0 hF rfl rfl fd56_1) fun a hF => ?_
   refine pl_start fun w hE => ?_
   replace hH := hH.ext hE
   refine ⟨hH, ?_⟩
   refine pp hF rfl rfl rfl rfl (fun w hH => r_load hF rfl rfl fl9 (own_cell (i := 1) (v := .string (mk s)) hH rfl rfl)) fun a hF => ?_
   refine pp hF rfl rfl rfl rfl (fun w hH => r_load hF rfl rfl fl28 (own_cell (i := 2) (v := .int .u16 (num2 s q : Nat)) hH rfl rfl)) fun a hF => ?_
   refine pt ?_
   refine to ?_
   refine zc hF rfl rfl fn64 (drread_spec s (q + 10) (num2 s (q + 8)) (num2 s q) (by omega) hs _ (hG.ext hH.below)) ?_
   rintro _ w ⟨rfl, hE⟩ a hF
   rw [hrN] at hF; replace hH := hH.ext hE
   refine wpList_nil (to_end ?_)
   refine tp hF rfl rfl rfl rfl (fun w => r_extract hF rfl rfl rfl) fun a hF => ?_
   refine tp hF rfl rfl rfl rfl (fun w => r_extract hF rfl rfl rfl) fun a hF => ?_
   refine tt ?_
   refine ls_callT hF rfl rfl rfl rfl rfl fn38 (gots_spec _ _ _) (fun n w hE => ⟨hF.keep [] rfl, fun a hF => t2.panic (hpan hF (by
     obtain ⟨h1, h2, h3⟩ := hE
     have h4 : (readD (s.take (q + 10 + num2 s (q + 8))) (q + 10) (num2 s q) false).1 = rN.1 := by rw [← hrN2]
     rw [h4, if_pos h2] at hD2
     exact ⟨by rw [hD, ← hD2]; exact h1, by rw [h1]; exact h2, (((hH.ext h3).drop).drop).drop⟩))⟩) ?_
   rintro _ w ⟨rfl, heN, hE⟩ a hF
   replace hH := hH.ext hE
   refine zl hF rfl (r_fieldaddr0 hF rfl rfl fd56_4) fun a hF => ?_
   refine ls_store 2 hF hH rfl rfl rfl rfl rfl fl9 ti9 rfl ((show 4 < 5 by omega)) (by simp [noFreeze]) (rfl) ?_
   intro w hH
   refine pt_end ?_
   replace hF := hF.sel [6]
   simp only [ss, Nat.reduceBEq] at hF
   have h4 : (readD (s.take (q + 10 + num2 s (q + 8))) (q + 10) (num2 s q) false).1 = rN.1 := by rw [← hrN2]
   rw [h4, if_neg (by simpa using heN)] at hD2
   have h5 : flatP (readD (s.take (q + 10 + num2 s (q + 8))) (q + 10) (num2 s q) false).2 = rN.2 := by rw [← hrN2]; simp only; rw [h4, if_neg (by simpa using heN)]
   have h6 : ((readD (s.take (q + 10 + num2 s (q + 8))) (q + 10) (num2 s q) false).2.map (·.1)).flatten = rN.2 := h5
   rw [h6] at hD2
   refine k2 ?_
   refine c_sr fun ops => ?_
   refine zl hF rfl (r_loadagg hF rfl rfl Tryz.underlying56 ti56 rfl (own_agg (i := 2) (cs := (recV ⟨nm, num2 s q, num2 s (q + 2), num4 s (q + 4), rN.2⟩).toArray) hH rfl)) fun a hF => ?_
   refine ls_storeagg 2 hF hH rfl rfl rfl rfl rfl ti56 rfl (rfl) (rfl) (by simp [recV, Value.oneCell']) ?_
   intro w hH
   refine zm 1 hF rfl fun a hF => ?_
   refine c_n ?_
   replace hF := hF.sel [6, 7]
   simp only [ss, Nat.reduceBEq] at hF
   refine wp_ret (hret (retc2 (fn := Tryz.f27) (t := 6) (u := 7) (i := 2) hF hH Tryz.results27 rfl rfl (by kernel_rfl) ti56 rfl rfl ?_))
   refine ⟨⟨nm, num2 s q, num2 s (q + 2), num4 s (q + 4), rN.2⟩, false, q + 10 + num2 s (q + 8), ed, mv, [], rfl, by omega, by omega, ?_, ?_, (fun _ => ⟨rfl, rfl⟩), fun h => by cases h⟩
   · rw [hD, ← hD2]; rfl
   · exact (show Hp w0 w ([(gc, curO s (q + 10 + num2 s (q + 8)))] ++ ([(gr, rdO s gc)] ++ ([(g0_0, .cells (recV ⟨nm, num2 s q, num2 s (q + 2), num4 s (q + 4), rN.2⟩).toArray 56 (0, 0))] ++ ([(gm, .cells mv 37 (0, 0))] ++ H)))) from hH).pick (H' := [(gc, curO s (q + 10 + num2 s (q + 8)))] ++ ([(gr, rdO s gc)] ++ ([(gm, .cells mv 37 (0, 0))] ++ ([] ++ H)))) (R := [(g0_0, .cells (recV ⟨nm, num2 s q, num2 s (q + 2), num4 s (q + 4), rN.2⟩).toArray 56 (0, 0))]) (fun z => by simp only [List.count_append, List.count_nil]; omega)
  try simp only [qq] at h48
  rw [if_pos h48] at hD2
  obtain ⟨E, hEd⟩ : ∃ E, ednsR (num2 s (q + 2)) (num4 s (q + 4)) ((s.drop (q + 10)).take (num2 s (q + 8))) = E := ⟨_, rfl⟩
  refine c_sg ?_
  refine zm 1 hF rfl fun a hF => ?_
  refine zb hF rfl rfl rfl (b_nen _ _ _ 3) fun a hF => ?_
  refine zm 1 hF rfl fun a hF => ?_
  refine ls_ask (d := 51) hF rfl (fun g9_2 => ?_) (fun g9_2 => ?_)
  ·
   have g9_2' := g9_2; try simp only [qq] at g9_2'
   refine zn hF rfl g9_2 fun a hF => ?_
   refine zn hF rfl g9_2 fun a hF => ?_
   refine zn hF rfl g9_2 fun a hF => ?_
   refine zn hF rfl g9_2 fun a hF => ?_
   refine zl hF rfl (r_pickt hF rfl rfl g9_2 rfl) fun a hF => ?_
   refine zm 1 hF rfl fun a hF => ?_
   refine zn hF rfl rfl fun a hF => ?_
   refine zn hF rfl rfl fun a hF => ?_
   refine zn hF rfl rfl fun a hF => ?_
   refine zl hF rfl (r_pickt hF rfl rfl rfl rfl) fun a hF => ?_
   refine ls_callT hF rfl rfl rfl rfl rfl fn28 (that_spec _ 3 _) (fun n w hE => t1.panic (hpan hF (by
     obtain ⟨h1, h2, h3⟩ := hE
     have hc : sec ≠ 3 ∨ has = true ∨ nm ≠ [0] := by simp_all
     rw [if_pos hc] at hD2
     exact ⟨by rw [hD, ← hD2]; exact h1, by omega, (((hH.ext h3).drop).drop).drop⟩))) ?_
   rintro _ w ⟨rfl, hth, hE⟩ a hF
   replace hH := hH.ext hE
   refine c_n ?_
   replace hF := hF.sel [1, 6, 10]
   simp only [ss, Nat.reduceBEq] at hF
   have hc : ¬ (sec ≠ 3 ∨ has = true ∨ nm ≠ [0]) := by simp_all
   rw [if_neg hc] at hD2
   have hn4 := num4_lt s (q + 4)
   have htl : ((s.drop (q + 10)).take (num2 s (q + 8))).length < 1000000 := by rw [List.length_take, List.length_drop]; omega
   refine c_sr fun ops => ?_
   refine zm 2 hF rfl fun a hF => ?_
   refine zl hF rfl (r_fieldaddr0 hF rfl rfl fd56_2) fun a hF => ?_
   refine zl hF rfl (r_load hF rfl rfl fl28 (own_cell (i := 2) (v := .int .u16 (num2 s (q + 2) : Nat)) hH rfl rfl)) fun a hF => ?_
   refine zl hF rfl (r_fieldaddr0 hF rfl rfl fd56_3) fun a hF => ?_
   refine zl hF rfl (r_load hF rfl rfl fl54 (own_cell (i := 2) (v := .int .u32 (num4 s (q + 4) : Nat)) hH rfl rfl)) fun a hF => ?_
   refine zm 1 hF rfl fun a hF => ?_
   refine zc hF rfl rfl fn63 (eread_spec (num2 s (q + 2)) (num4 s (q + 4)) ((s.drop (q + 10)).take (num2 s (q + 8))) htl hn4 _ (hG.ext hH.below)) ?_
   rintro _ w ⟨ov, B, rfl, hB, hO⟩ a hF
   replace hH := hH.join hB; rw [hEd] at hF hO hD2
   refine zm 2 hF rfl fun a hF => ?_
   refine ls_callT hF rfl rfl rfl rfl rfl fn62 (gote_spec E.2 ov hO.one E.1 _) (fun n w hE => t1.panic (hpan hF (by
     obtain ⟨h1, h2, h3⟩ := hE
     rw [if_pos h2] at hD2
     exact ⟨by rw [hD, ← hD2]; exact h1, by rw [h1]; exact h2, (show Hp w0 _ (B ++ ([(gc, curO s (q + 10 + num2 s (q + 8)))] ++ ([(gr, rdO s gc)] ++ ([(g0_0, .cells (recV ⟨nm, num2 s q, num2 s (q + 2), num4 s (q + 4), []⟩).toArray 56 (0, 0))] ++ ((gm, .cells mv 37 (0, 0)) :: H))))) from hH.ext h3).pick (R := B ++ ([(gc, curO s (q + 10 + num2 s (q + 8)))] ++ ([(gr, rdO s gc)] ++ [(g0_0, .cells (recV ⟨nm, num2 s q, num2 s (q + 2), num4 s (q + 4), []⟩).toArray 56 (0, 0))]))) (fun z => by simp only [List.count_append]; omega)⟩))) ?_
   rintro _ w ⟨rfl, heE, hE⟩ a hF
   replace hH := hH.ext hE
   rw [if_neg (by simpa using heE)] at hD2
   replace hH : Hp w0 w ([(gm, .cells mv 37 (0, 0))] ++ ([(g0_0, .cells (recV ⟨nm, num2 s q, num2 s (q + 2), num4 s (q + 4), []⟩).toArray 56 (0, 0))] ++ ([(gc, curO s (q + 10 + num2 s (q + 8)))] ++ ([(gr, rdO s gc)] ++ (B ++ H))))) :=
     (show Hp w0 w (B ++ ([(gc, curO s (q + 10 + num2 s (q + 8)))] ++ ([(gr, rdO s gc)] ++ ([(g0_0, .cells (recV ⟨nm, num2 s q, num2 s (q + 2), num4 s (q + 4), []⟩).toArray 56 (0, 0))] ++ ([(gm, .cells mv 37 (0, 0))] ++ H))))) from hH).pick (R := []) (fun z => by simp only [List.count_append, List.count_nil]; omega)
   refine zl hF rfl (r_nilcheck hF rfl rfl) fun a hF => ?_
   refine zl hF rfl (r_fieldaddr0 hF rfl rfl fd37_5) fun a hF => ?_
   refine ls_store 0 hF hH rfl rfl rfl rfl rfl fl4 ti4 rfl ((by rw [hmv]; omega)) (by simp [noFreeze]) (rfl) ?_
   intro w hH
   refine zl hF rfl (r_nilcheck hF rfl rfl) fun a hF => ?_
   refine zl hF rfl (r_fieldaddr0 hF rfl rfl fd37_6) fun a hF => ?_
   refine ls_storeat 0 hF hH rfl rfl rfl rfl rfl ti35 rfl rfl (by simp [hmv]) (by simp [edV]; exact ⟨rfl, rfl, rfl, rfl, hO.one⟩) ?_
   intro w hH
   refine c_n ?_
   replace hF := hF.sel [6]
   simp only [ss, Nat.reduceBEq] at hF
   refine c_sr fun ops => ?_
   refine zl hF rfl (r_loadagg hF rfl rfl Tryz.underlying56 ti56 rfl (own_agg (i := 1) (cs := (recV ⟨nm, num2 s q, num2 s (q + 2), num4 s (q + 4), []⟩).toArray) hH rfl)) fun a hF => ?_
   refine ls_storeagg 1 hF hH rfl rfl rfl rfl rfl ti56 rfl (rfl) (rfl) (by simp [recV, Value.oneCell']) ?_
   intro w hH
   refine zm 1 hF rfl fun a hF => ?_
   refine c_n ?_
   replace hF := hF.sel [6, 7]
   simp only [ss, Nat.reduceBEq] at hF
   refine wp_ret (t1.ret (hret (retc2 (fn := Tryz.f27) (t := 6) (u := 7) (i := 1) hF hH Tryz.results27 rfl rfl (by kernel_rfl) ti56 rfl rfl ?_)))
   refine ⟨⟨nm, num2 s q, num2 s (q + 2), num4 s (q + 4), []⟩, true, q + 10 + num2 s (q + 8), E.2, wr (mv.setIfInBounds 15 (.bool true)) 16 (edV E.2 ov), B, rfl, by omega, by omega, ?_, ?_, (fun h => by cases h), fun _ => ⟨ov, rfl, hO⟩⟩
   · rw [hD, ← hD2]; rfl
   · exact (show Hp w0 w ([(gm, .cells (wr (mv.setIfInBounds 15 (.bool true)) 16 (edV E.2 ov)) 37 (0, 0))] ++ ([(g0_0, .cells (recV ⟨nm, num2 s q, num2 s (q + 2), num4 s (q + 4), []⟩).toArray 56 (0, 0))] ++ ([(gc, curO s (q + 10 + num2 s (q + 8)))] ++ ([(gr, rdO s gc)] ++ (B ++ H))))) from hH).pick (H' := [(gc, curO s (q + 10 + num2 s (q + 8)))] ++ ([(gr, rdO s gc)] ++ ([(gm, .cells (wr (mv.setIfInBounds 15 (.bool true)) 16 (edV E.2 ov)) 37 (0, 0))] ++ (B ++ H)))) (R := [(g0_0, .cells (recV ⟨nm, num2 s q, num2 s (q + 2), num4 s (q + 4), []⟩).toArray 56 (0, 0))]) (fun z => by simp only [List.count_append]; omega)
  have g9_2' := g9_2; try simp only [qq] at g9_2'
  refine zy hF rfl g9_2 (r_move hF rfl rfl) fun a hF => ?_
  refine zy hF rfl g9_2 (r_nilcheck hF rfl rfl) fun a hF => ?_
  refine zy hF rfl g9_2 (r_fieldaddr0 hF rfl rfl fd37_5) fun a hF => ?_
  refine zy hF rfl g9_2 (r_load hF rfl rfl fl4 (own_cell (i := 3) (v := .bool has) hH rfl hhas)) fun a hF => ?_
  refine zl hF rfl (r_pickf hF rfl rfl g9_2 rfl) fun a hF => ?_
  refine zm 1 hF rfl fun a hF => ?_
  refine ls_ask (d := 57) hF rfl (fun g9_8 => ?_) (fun g9_8 => ?_)
  ·
   have g9_8' := g9_8; try simp only [qq] at g9_8'
   refine zn hF rfl g9_8 fun a hF => ?_
   refine zn hF rfl g9_8 fun a hF => ?_
   refine zn hF rfl g9_8 fun a hF => ?_
   refine zl hF rfl (r_pickt hF rfl rfl g9_8 rfl) fun a hF => ?_
   refine ls_callT hF rfl rfl rfl rfl rfl fn28 (that_spec _ 3 _) (fun n w hE => t1.panic (hpan hF (by
     obtain ⟨h1, h2, h3⟩ := hE
     have hc : sec ≠ 3 ∨ has = true ∨ nm ≠ [0] := by simp_all
     rw [if_pos hc] at hD2
     exact ⟨by rw [hD, ← hD2]; exact h1, by omega, (((hH.ext h3).drop).drop).drop⟩))) ?_
   rintro _ w ⟨rfl, hth, hE⟩ a hF
   replace hH := hH.ext hE
   refine c_n ?_
   replace hF := hF.sel [1, 6, 10]
   simp only [ss, Nat.reduceBEq] at hF
   have hc : ¬ (sec ≠ 3 ∨ has = true ∨ nm ≠ [0]) := by simp_all
   rw [if_neg hc] at hD2
   have hn4 := num4_lt s (q + 4)
   have htl : ((s.drop (q + 10)).take (num2 s (q + 8))).length < 1000000 := by rw [List.length_take, List.length_drop]; omega
   refine c_sr fun ops => ?_
   refine zm 2 hF rfl fun a hF => ?_
   refine zl hF rfl (r_fieldaddr0 hF rfl rfl fd56_2) fun a hF => ?_
   refine zl hF rfl (r_load hF rfl rfl fl28 (own_cell (i := 2) (v := .int .u16 (num2 s (q + 2) : Nat)) hH rfl rfl)) fun a hF => ?_
   refine zl hF rfl (r_fieldaddr0 hF rfl rfl fd56_3) fun a hF => ?_
   refine zl hF rfl (r_load hF rfl rfl fl54 (own_cell (i := 2) (v := .int .u32 (num4 s (q + 4) : Nat)) hH rfl rfl)) fun a hF => ?_
   refine zm 1 hF rfl fun a hF => ?_
   refine zc hF rfl rfl fn63 (eread_spec (num2 s (q + 2)) (num4 s (q + 4)) ((s.drop (q + 10)).take (num2 s (q + 8))) htl hn4 _ (hG.ext hH.below)) ?_
   rintro _ w ⟨ov, B, rfl, hB, hO⟩ a hF
   replace hH := hH.join hB; rw [hEd] at hF hO hD2
   refine zm 2 hF rfl fun a hF => ?_
   refine ls_callT hF rfl rfl rfl rfl rfl fn62 (gote_spec E.2 ov hO.one E.1 _) (fun n w hE => t1.panic (hpan hF (by
     obtain ⟨h1, h2, h3⟩ := hE
     rw [if_pos h2] at hD2
     exact ⟨by rw [hD, ← hD2]; exact h1, by rw [h1]; exact h2, (show Hp w0 _ (B ++ ([(gc, curO s (q + 10 + num2 s (q + 8)))] ++ ([(gr, rdO s gc)] ++ ([(g0_0, .cells (recV ⟨nm, num2 s q, num2 s (q + 2), num4 s (q + 4), []⟩).toArray 56 (0, 0))] ++ ((gm, .cells mv 37 (0, 0)) :: H))))) from hH.ext h3).pick (R := B ++ ([(gc, curO s (q + 10 + num2 s (q + 8)))] ++ ([(gr, rdO s gc)] ++ [(g0_0, .cells (recV ⟨nm, num2 s q, num2 s (q + 2), num4 s (q + 4), []⟩).toArray 56 (0, 0))]))) (fun z => by simp only [List.count_append]; omega)⟩))) ?_
   rintro _ w ⟨rfl, heE, hE⟩ a hF
   replace hH := hH.ext hE
   rw [if_neg (by simpa using heE)] at hD2
   replace hH : Hp w0 w ([(gm, .cells mv 37 (0, 0))] ++ ([(g0_0, .cells (recV ⟨nm, num2 s q, num2 s (q + 2), num4 s (q + 4), []⟩).toArray 56 (0, 0))] ++ ([(gc, curO s (q + 10 + num2 s (q + 8)))] ++ ([(gr, rdO s gc)] ++ (B ++ H))))) :=
     (show Hp w0 w (B ++ ([(gc, curO s (q + 10 + num2 s (q + 8)))] ++ ([(gr, rdO s gc)] ++ ([(g0_0, .cells (recV ⟨nm, num2 s q, num2 s (q + 2), num4 s (q + 4), []⟩).toArray 56 (0, 0))] ++ ([(gm, .cells mv 37 (0, 0))] ++ H))))) from hH).pick (R := []) (fun z => by simp only [List.count_append, List.count_nil]; omega)
   refine zl hF rfl (r_nilcheck hF rfl rfl) fun a hF => ?_
   refine zl hF rfl (r_fieldaddr0 hF rfl rfl fd37_5) fun a hF => ?_
   refine ls_store 0 hF hH rfl rfl rfl rfl rfl fl4 ti4 rfl ((by rw [hmv]; omega)) (by simp [noFreeze]) (rfl) ?_
   intro w hH
   refine zl hF rfl (r_nilcheck hF rfl rfl) fun a hF => ?_
   refine zl hF rfl (r_fieldaddr0 hF rfl rfl fd37_6) fun a hF => ?_
   refine ls_storeat 0 hF hH rfl rfl rfl rfl rfl ti35 rfl rfl (by simp [hmv]) (by simp [edV]; exact ⟨rfl, rfl, rfl, rfl, hO.one⟩) ?_
   intro w hH
   refine c_n ?_
   replace hF := hF.sel [6]
   simp only [ss, Nat.reduceBEq] at hF
   refine c_sr fun ops => ?_
   refine zl hF rfl (r_loadagg hF rfl rfl Tryz.underlying56 ti56 rfl (own_agg (i := 1) (cs := (recV ⟨nm, num2 s q, num2 s (q + 2), num4 s (q + 4), []⟩).toArray) hH rfl)) fun a hF => ?_
   refine ls_storeagg 1 hF hH rfl rfl rfl rfl rfl ti56 rfl (rfl) (rfl) (by simp [recV, Value.oneCell']) ?_
   intro w hH
   refine zm 1 hF rfl fun a hF => ?_
   refine c_n ?_
   replace hF := hF.sel [6, 7]
   simp only [ss, Nat.reduceBEq] at hF
   refine wp_ret (t1.ret (hret (retc2 (fn := Tryz.f27) (t := 6) (u := 7) (i := 1) hF hH Tryz.results27 rfl rfl (by kernel_rfl) ti56 rfl rfl ?_)))
   refine ⟨⟨nm, num2 s q, num2 s (q + 2), num4 s (q + 4), []⟩, true, q + 10 + num2 s (q + 8), E.2, wr (mv.setIfInBounds 15 (.bool true)) 16 (edV E.2 ov), B, rfl, by omega, by omega, ?_, ?_, (fun h => by cases h), fun _ => ⟨ov, rfl, hO⟩⟩
   · rw [hD, ← hD2]; rfl
   · exact (show Hp w0 w ([(gm, .cells (wr (mv.setIfInBounds 15 (.bool true)) 16 (edV E.2 ov)) 37 (0, 0))] ++ ([(g0_0, .cells (recV ⟨nm, num2 s q, num2 s (q + 2), num4 s (q + 4), []⟩).toArray 56 (0, 0))] ++ ([(gc, curO s (q + 10 + num2 s (q + 8)))] ++ ([(gr, rdO s gc)] ++ (B ++ H))))) from hH).pick (H' := [(gc, curO s (q + 10 + num2 s (q + 8)))] ++ ([(gr, rdO s gc)] ++ ([(gm, .cells (wr (mv.setIfInBounds 15 (.bool true)) 16 (edV E.2 ov)) 37 (0, 0))] ++ (B ++ H)))) (R := [(g0_0, .cells (recV ⟨nm, num2 s q, num2 s (q + 2), num4 s (q + 4), []⟩).toArray 56 (0, 0))]) (fun z => by simp only [List.count_append]; omega)
  have g9_8' := g9_8; try simp only [qq] at g9_8'
  refine zy hF rfl g9_8 (r_fieldaddr0 hF rfl rfl fd56_0) fun a hF => ?_
  refine zy hF rfl g9_8 (r_load hF rfl rfl fl9 (own_cell (i := 2) (v := .string (mk nm)) hH rfl rfl)) fun a hF => ?_
  refine zy hF rfl g9_8 (zr hF rfl rfl (b_sne _ _ [0])) fun a hF => ?_
  refine zl hF rfl (r_pickf hF rfl rfl g9_8 rfl) fun a hF => ?_
  refine ls_callT hF rfl rfl rfl rfl rfl fn28 (that_spec _ 3 _) (fun n w hE => t1.panic (hpan hF (by
    obtain ⟨h1, h2, h3⟩ := hE
    have hc : sec ≠ 3 ∨ has = true ∨ nm ≠ [0] := by simp_all
    rw [if_pos hc] at hD2
    exact ⟨by rw [hD, ← hD2]; exact h1, by omega, (((hH.ext h3).drop).drop).drop⟩))) ?_
  rintro _ w ⟨rfl, hth, hE⟩ a hF
  replace hH := hH.ext hE
  refine c_n ?_
  replace hF := hF.sel [1, 6, 10]
  simp only [ss, Nat.reduceBEq] at hF
  have hc : ¬ (sec ≠ 3 ∨ has = true ∨ nm ≠ [0]) := by simp_all
  rw [if_neg hc] at hD2
  have hn4 := num4_lt s (q + 4)
  have htl : ((s.drop (q + 10)).take (num2 s (q + 8))).length < 1000000 := by rw [List.length_take, List.length_drop]; omega
  refine c_sr fun ops => ?_
  refine zm 2 hF rfl fun a hF => ?_
  refine zl hF rfl (r_fieldaddr0 hF rfl rfl fd56_2) fun a hF => ?_
  refine zl hF rfl (r_load hF rfl rfl fl28 (own_cell (i := 2) (v := .int .u16 (num2 s (q + 2) : Nat)) hH rfl rfl)) fun a hF => ?_
  refine zl hF rfl (r_fieldaddr0 hF rfl rfl fd56_3) fun a hF => ?_
  refine zl hF rfl (r_load hF rfl rfl fl54 (own_cell (i := 2) (v := .int .u32 (num4 s (q + 4) : Nat)) hH rfl rfl)) fun a hF => ?_
  refine zm 1 hF rfl fun a hF => ?_
  refine zc hF rfl rfl fn63 (eread_spec (num2 s (q + 2)) (num4 s (q + 4)) ((s.drop (q + 10)).take (num2 s (q + 8))) htl hn4 _ (hG.ext hH.below)) ?_
  rintro _ w ⟨ov, B, rfl, hB, hO⟩ a hF
  replace hH := hH.join hB; rw [hEd] at hF hO hD2
  refine zm 2 hF rfl fun a hF => ?_
  refine ls_callT hF rfl rfl rfl rfl rfl fn62 (gote_spec E.2 ov hO.one E.1 _) (fun n w hE => t1.panic (hpan hF (by
    obtain ⟨h1, h2, h3⟩ := hE
    rw [if_pos h2] at hD2
    exact ⟨by rw [hD, ← hD2]; exact h1, by rw [h1]; exact h2, (show Hp w0 _ (B ++ ([(gc, curO s (q + 10 + num2 s (q + 8)))] ++ ([(gr, rdO s gc)] ++ ([(g0_0, .cells (recV ⟨nm, num2 s q, num2 s (q + 2), num4 s (q + 4), []⟩).toArray 56 (0, 0))] ++ ((gm, .cells mv 37 (0, 0)) :: H))))) from hH.ext h3).pick (R := B ++ ([(gc, curO s (q + 10 + num2 s (q + 8)))] ++ ([(gr, rdO s gc)] ++ [(g0_0, .cells (recV ⟨nm, num2 s q, num2 s (q + 2), num4 s (q + 4), []⟩).toArray 56 (0, 0))]))) (fun z => by simp only [List.count_append]; omega)⟩))) ?_
  rintro _ w ⟨rfl, heE, hE⟩ a hF
  replace hH := hH.ext hE
  rw [if_neg (by simpa using heE)] at hD2
  replace hH : Hp w0 w ([(gm, .cells mv 37 (0, 0))] ++ ([(g0_0, .cells (recV ⟨nm, num2 s q, num2 s (q + 2), num4 s (q + 4), []⟩).toArray 56 (0, 0))] ++ ([(gc, curO s (q + 10 + num2 s (q + 8)))] ++ ([(gr, rdO s gc)] ++ (B ++ H))))) :=
    (show Hp w0 w (B ++ ([(gc, curO s (q + 10 + num2 s (q + 8)))] ++ ([(gr, rdO s gc)] ++ ([(g0_0, .cells (recV ⟨nm, num2 s q, num2 s (q + 2), num4 s (q + 4), []⟩).toArray 56 (0, 0))] ++ ([(gm, .cells mv 37 (0, 0))] ++ H))))) from hH).pick (R := []) (fun z => by simp only [List.count_append, List.count_nil]; omega)
  refine zl hF rfl (r_nilcheck hF rfl rfl) fun a hF => ?_
  refine zl hF rfl (r_fieldaddr0 hF rfl rfl fd37_5) fun a hF => ?_
  refine ls_store 0 hF hH rfl rfl rfl rfl rfl fl4 ti4 rfl ((by rw [hmv]; omega)) (by simp [noFreeze]) (rfl) ?_
  intro w hH
  refine zl hF rfl (r_nilcheck hF rfl rfl) fun a hF => ?_
  refine zl hF rfl (r_fieldaddr0 hF rfl rfl fd37_6) fun a hF => ?_
  refine ls_storeat 0 hF hH rfl rfl rfl rfl rfl ti35 rfl rfl (by simp [hmv]) (by simp [edV]; exact ⟨rfl, rfl, rfl, rfl, hO.one⟩) ?_
  intro w hH
  refine c_n ?_
  replace hF := hF.sel [6]
  simp only [ss, Nat.reduceBEq] at hF
  refine c_sr fun ops => ?_
  refine zl hF rfl (r_loadagg hF rfl rfl Tryz.underlying56 ti56 rfl (own_agg (i := 1) (cs := (recV ⟨nm, num2 s q, num2 s (q + 2), num4 s (q + 4), []⟩).toArray) hH rfl)) fun a hF => ?_
  refine ls_storeagg 1 hF hH rfl rfl rfl rfl rfl ti56 rfl (rfl) (rfl) (by simp [recV, Value.oneCell']) ?_
  intro w hH
  refine zm 1 hF rfl fun a hF => ?_
  refine c_n ?_
  replace hF := hF.sel [6, 7]
  simp only [ss, Nat.reduceBEq] at hF
  refine wp_ret (t1.ret (hret (retc2 (fn := Tryz.f27) (t := 6) (u := 7) (i := 1) hF hH Tryz.results27 rfl rfl (by kernel_rfl) ti56 rfl rfl ?_)))
  refine ⟨⟨nm, num2 s q, num2 s (q + 2), num4 s (q + 4), []⟩, true, q + 10 + num2 s (q + 8), E.2, wr (mv.setIfInBounds 15 (.bool true)) 16 (edV E.2 ov), B, rfl, by omega, by omega, ?_, ?_, (fun h => by cases h), fun _ => ⟨ov, rfl, hO⟩⟩
  · rw [hD, ← hD2]; rfl
  · exact (show Hp w0 w ([(gm, .cells (wr (mv.setIfInBounds 15 (.bool true)) 16 (edV E.2 ov)) 37 (0, 0))] ++ ([(g0_0, .cells (recV ⟨nm, num2 s q, num2 s (q + 2), num4 s (q + 4), []⟩).toArray 56 (0, 0))] ++ ([(gc, curO s (q + 10 + num2 s (q + 8)))] ++ ([(gr, rdO s gc)] ++ (B ++ H))))) from hH).pick (H' := [(gc, curO s (q + 10 + num2 s (q + 8)))] ++ ([(gr, rdO s gc)] ++ ([(gm, .cells (wr (mv.setIfInBounds 15 (.bool true)) 16 (edV E.2 ov)) 37 (0, 0))] ++ (B ++ H)))) (R := [(g0_0, .cells (recV ⟨nm, num2 s q, num2 s (q + 2), num4 s (q + 4), []⟩).toArray 56 (0, 0))]) (fun z => by simp only [List.count_append]; omega)
end Go.Proofs.YtpoebplhemimmaaGreatDoor
namespace Go.Proofs.YtpoebplhemimmaaGreatDoor
set_option linter.unusedVariables false
set_option linter.unusedSimpArgs false

def setSec (m : Msg) (i : Nat) (l : List Rec) (has : Bool) (ed : Ed) : Msg :=
  if i = 1 then { m with ans := l, has := has, ed := ed } else if i = 2 then { m with auth := l, has := has, ed := ed } else { m with extra := l, has := has, ed := ed }
def fin (s : Bs) : Nat → Nat → Msg → Nat × Msg
  | 0, p, m => if p < s.length then (5, noMsg) else (0, m)
  | r + 1, p, m => if (decS s (3 - r) (num2 s (4 + 2 * (3 - r))) ⟨p, [], m.has, m.ed⟩).1 ≠ 0 then ((decS s (3 - r) (num2 s (4 + 2 * (3 - r))) ⟨p, [], m.has, m.ed⟩).1, noMsg)
    else fin s r (decS s (3 - r) (num2 s (4 + 2 * (3 - r))) ⟨p, [], m.has, m.ed⟩).2.p (setSec m (3 - r) (decS s (3 - r) (num2 s (4 + 2 * (3 - r))) ⟨p, [], m.has, m.ed⟩).2.l (decS s (3 - r) (num2 s (4 + 2 * (3 - r))) ⟨p, [], m.has, m.ed⟩).2.has (decS s (3 - r) (num2 s (4 + 2 * (3 - r))) ⟨p, [], m.has, m.ed⟩).2.ed)
/-- A message of which the questions have been read. -/
def qMsg (s : Bs) (qs : List Que) : Msg := ⟨fromN (num2 s 0) (num2 s 2), qs, [], [], [], false, noEd⟩
theorem decB_eq (s : Bs) : decB s = if 65535 < s.length then (5, noMsg) else if s.length < 12 then (4, noMsg) else
    if (decQ s (num2 s 4) 12 []).1 ≠ 0 then ((decQ s (num2 s 4) 12 []).1, noMsg) else fin s 3 (decQ s (num2 s 4) 12 []).2.1 (qMsg s (decQ s (num2 s 4) 12 []).2.2) := by
  unfold decB
  split
  · rfl
  split
  · rfl
  obtain ⟨e, p, qs⟩ := decQ s (num2 s 4) 12 []
  cases e with
  | succ e => rfl
  | zero =>
    simp only [ne_eq, not_true_eq_false, if_false]
    simp only [fin, qMsg, setSec, Nat.sub_zero, show 3 - 2 = 1 from rfl, show 3 - 1 = 2 from rfl, show 4 + 2 * 1 = 6 from rfl, show 4 + 2 * 2 = 8 from rfl, show 4 + 2 * 3 = 10 from rfl, if_true, if_false, show ¬ (2 : Nat) = 1 by omega, show ¬ (3 : Nat) = 1 by omega, show ¬ (3 : Nat) = 2 by omega]
    obtain ⟨e1, a⟩ := decS s 1 (num2 s 6) ⟨p, [], false, noEd⟩
    cases e1 with
    | succ e => rfl
    | zero =>
      simp only [ne_eq, not_true_eq_false, if_false]
      obtain ⟨e2, b⟩ := decS s 2 (num2 s 8) ⟨a.p, [], a.has, a.ed⟩
      cases e2 with
      | succ e => rfl
      | zero =>
        simp only [ne_eq, not_true_eq_false, if_false]
        obtain ⟨e3, c⟩ := decS s 3 (num2 s 10) ⟨b.p, [], b.has, b.ed⟩
        cases e3 with
        | succ e => rfl
        | zero => simp
theorem decN_err {s : Bs} {n : Nat} {m : Msg} (h : decB s = (n, m)) (hn : n ≠ 0) : decN s = (n, noMsg) := by unfold decN; rw [h, if_pos hn]
theorem decS_succ (s : Bs) (sec k : Nat) (x : RSt) : decS s sec (k + 1) x = if (decR s sec x).1 ≠ 0 then decR s sec x else decS s sec k (decR s sec x).2 := by
  rw [decS]
  obtain ⟨e, y⟩ := decR s sec x
  cases e <;> rfl
theorem decQ_succ (s : Bs) (k p : Nat) (l : List Que) : decQ s (k + 1) p l = if (readAt s p).1 ≠ 0 then ((readAt s p).1, p, []) else if s.length < (readAt s p).2.2 + 4 then (4, p, [])
    else decQ s k ((readAt s p).2.2 + 4) (l ++ [⟨(readAt s p).2.1, num2 s (readAt s p).2.2, num2 s ((readAt s p).2.2 + 2)⟩]) := rfl

/-! ### What has been read is not too great -/
def ROk (r : Rec) : Prop := RecL r ∧ r.name.length < 300000 ∧ r.data.length < 300000 ∧ mayB r.name = true
def EOk (n : Nat) (e : Ed) : Prop := EdL e ∧ e.opts.length ≤ n ∧ ∀ o ∈ e.opts, o.data.length < 300000
def QOk (q : Que) : Prop := QueL q ∧ q.name.length < 300000 ∧ mayB q.name = true
theorem noEd_ok (n : Nat) : EOk n noEd := ⟨⟨by decide, by decide, by decide, by decide, fun o h => by cases h⟩, Nat.zero_le _, fun o h => by cases h⟩
theorem optsR_ok (d : Bs) (hd : d.length < 300000) : ∀ (f p : Nat) (l : List Opt), p ≤ d.length → l.length ≤ p → (∀ o ∈ l, OptL o ∧ o.data.length < 300000) → (optsR d f p l).2.length ≤ d.length ∧ ∀ o ∈ (optsR d f p l).2, OptL o ∧ o.data.length < 300000
  | 0, p, l, hp, hl, ho => ⟨Nat.le_trans hl hp, ho⟩
  | f + 1, p, l, hp, hl, ho => by
    rw [optsR_step]
    split
    · exact ⟨Nat.le_trans hl hp, ho⟩
    · split
      · exact ⟨Nat.zero_le _, fun o h => by cases h⟩
      · rename_i x hx
        obtain ⟨h1, h2, h3, h4⟩ := optR_le (o := x.1) (p' := x.2) hx
        refine optsR_ok d hd f x.2 _ h2 (by rw [List.length_append]; simp; omega) fun o hm => ?_
        rcases List.mem_append.1 hm with hm | hm
        · exact ho o hm
        · rw [List.mem_singleton.1 hm]; exact ⟨h3, by omega⟩
theorem ednsR_ok {cls ttl : Nat} {d : Bs} (hc : cls < 65536) (ht : ttl < 4294967296) (hd : d.length < 300000) : EOk d.length (ednsR cls ttl d).2 := by
  unfold ednsR
  have h := optsR_ok d hd (d.length + 1) 0 [] (Nat.zero_le _) (Nat.le_refl _) (fun o h => by cases h)
  split
  · exact ⟨⟨by show 0 < 65536; omega, by show 0 < 256; omega, by show 0 < 256; omega, by show 0 < 65536; omega, fun o h => by cases h⟩, Nat.zero_le _, fun o h => by cases h⟩
  · exact ⟨⟨hc, by show ttl / 16777216 < 256; omega, by show ttl / 65536 % 256 < 256; omega, by show ttl % 65536 < 65536; omega, fun o ho => (h.2 o ho).1⟩, h.1, fun o ho => (h.2 o ho).2⟩
theorem decR_ok {s : Bs} {sec : Nat} {x y : RSt} (hs : s.length ≤ 65535) (hp : x.p ≤ s.length) (hx : ∀ r ∈ x.l, ROk r) (he : EOk 65535 x.ed) (h : decR s sec x = (0, y)) : x.p < y.p ∧ y.p ≤ s.length ∧ y.l.length ≤ x.l.length + 1 ∧ (∀ r ∈ y.l, ROk r) ∧ EOk 65535 y.ed := by
  obtain ⟨en, nm, q, hrd⟩ : ∃ en nm q, readAt s x.p = (en, nm, q) := ⟨_, _, _, rfl⟩
  have hrn := @readAt_next s x.p
  have hmay := @readAt_may s x.p
  unfold decR at h
  simp only [hrd] at h hrn hmay
  split at h
  · rename_i h1; simp only [Prod.mk.injEq] at h; exact absurd h.1 h1
  rename_i h1
  have h1' := Decidable.not_not.1 h1
  have hq := hrn h1'
  have hm := hmay h1'
  split at h
  · simp at h
  split at h
  · simp at h
  rename_i h2 h3
  have ha := num2_lt s q
  have hb := num2_lt s (q + 2)
  have hc := num4_lt s (q + 4)
  split at h
  · split at h
    · simp at h
    · split at h
      · rename_i h4; simp only [Prod.mk.injEq] at h; exact absurd h.1 h4
      · simp only [Prod.mk.injEq, true_and] at h
        subst h
        refine ⟨by show x.p < q + 10 + num2 s (q + 8); omega, by show q + 10 + num2 s (q + 8) ≤ _; omega, Nat.le_succ _, hx, ?_⟩
        have := ednsR_ok (d := (s.drop (q + 10)).take (num2 s (q + 8))) hb hc (by rw [List.length_take, List.length_drop]; omega)
        exact ⟨this.1, Nat.le_trans this.2.1 (by rw [List.length_take, List.length_drop]; omega), this.2.2⟩
  · split at h
    · rename_i h4; simp only [Prod.mk.injEq] at h; exact absurd h.1 h4
    · simp only [Prod.mk.injEq, true_and] at h
      subst h
      refine ⟨by show x.p < q + 10 + num2 s (q + 8); omega, by show q + 10 + num2 s (q + 8) ≤ _; omega, by simp, fun r hr => ?_, he⟩
      rcases List.mem_append.1 hr with hr | hr
      · exact hx r hr
      · rw [List.mem_singleton.1 hr]
        have hml := may_len hm
        have hbd := (readD_bound (s.take (q + 10 + num2 s (q + 8))) (q + 10) (num2 s q) false (by rw [List.length_take]; omega)).1
        rw [List.length_take] at hbd
        have hdl : ((readD (s.take (q + 10 + num2 s (q + 8))) (q + 10) (num2 s q) false).2.map (·.1)).flatten.length < 300000 := by
          show (flatP (readD (s.take (q + 10 + num2 s (q + 8))) (q + 10) (num2 s q) false).2).length < 300000
          omega
        exact ⟨⟨by show nm.length ≤ _; omega, ha, hb, hc, by show ((readD (s.take (q + 10 + num2 s (q + 8))) (q + 10) (num2 s q) false).2.map (·.1)).flatten.length ≤ _; omega⟩, by show nm.length < _; omega, hdl, hm⟩
theorem decS_ok {s : Bs} (hs : s.length ≤ 65535) (sec : Nat) : ∀ (k : Nat) {x y : RSt}, x.p ≤ s.length → (∀ r ∈ x.l, ROk r) → EOk 65535 x.ed → decS s sec k x = (0, y) → y.p ≤ s.length ∧ y.l.length ≤ x.l.length + k ∧ (∀ r ∈ y.l, ROk r) ∧ EOk 65535 y.ed
  | 0, x, y, hp, hx, he, h => by
    simp only [decS, Prod.mk.injEq, true_and] at h
    subst h; exact ⟨hp, Nat.le_refl _, hx, he⟩
  | k + 1, x, y, hp, hx, he, h => by
    rw [decS_succ] at h
    split at h
    · rename_i h1; rw [h] at h1; exact absurd rfl h1
    · rename_i h1
      obtain ⟨z, hz⟩ : ∃ z, decR s sec x = (0, z) := ⟨(decR s sec x).2, Prod.ext (Decidable.not_not.1 h1) rfl⟩
      rw [hz] at h
      obtain ⟨h2, h3, h4, h5, h6⟩ := decR_ok hs hp hx he hz
      have := decS_ok hs sec k h3 h5 h6 h
      exact ⟨this.1, by omega, this.2.2⟩
theorem decQ_ok {s : Bs} (hs : s.length ≤ 65535) : ∀ (k p : Nat) (l : List Que) {p' : Nat} {l' : List Que}, p ≤ s.length → (∀ q ∈ l, QOk q) → decQ s k p l = (0, p', l') → p' ≤ s.length ∧ l'.length = l.length + k ∧ ∀ q ∈ l', QOk q
  | 0, p, l, p', l', hp, hl, h => by
    simp only [decQ, Prod.mk.injEq, true_and] at h
    obtain ⟨rfl, rfl⟩ := h
    exact ⟨hp, rfl, hl⟩
  | k + 1, p, l, p', l', hp, hl, h => by
    rw [decQ_succ] at h
    split at h
    · rename_i h1; simp only [Prod.mk.injEq] at h; exact absurd h.1 h1
    · rename_i h1
      have h1' := Decidable.not_not.1 h1
      split at h
      · simp at h
      · rename_i h2
        have hm := readAt_may h1'
        have hml := may_len hm
        have := decQ_ok hs k _ _ (by omega) (fun q hq => by
          rcases List.mem_append.1 hq with hq | hq
          · exact hl q hq
          · rw [List.mem_singleton.1 hq]
            exact ⟨⟨by show (readAt s p).2.1.length ≤ _; omega, num2_lt _ _, num2_lt _ _⟩, by show (readAt s p).2.1.length < _; omega, hm⟩) h
        refine ⟨this.1, ?_, this.2.2⟩
        rw [this.2.1, List.length_append]; simp; omega
structure MOk (m : Msg) : Prop where
  hd : HdL m.hd
  qs : m.qs.length ≤ 65535 ∧ ∀ q ∈ m.qs, QOk q
  ans : m.ans.length ≤ 65535 ∧ ∀ r ∈ m.ans, ROk r
  auth : m.auth.length ≤ 65535 ∧ ∀ r ∈ m.auth, ROk r
  extra : m.extra.length ≤ 65535 ∧ ∀ r ∈ m.extra, ROk r
  ed : EOk 65535 m.ed
theorem MOk.l {m : Msg} (h : MOk m) : MsgL m := ⟨h.hd, fun q hq => (h.qs.2 q hq).1, fun r hr => (h.ans.2 r hr).1, fun r hr => (h.auth.2 r hr).1, fun r hr => (h.extra.2 r hr).1, h.ed.1⟩
theorem MOk.b {m : Msg} (h : MOk m) : MsgB m :=
  ⟨⟨by have := h.qs.1; omega, fun q hq => (h.qs.2 q hq).2.1⟩, ⟨by have := h.ans.1; omega, fun r hr => ⟨(h.ans.2 r hr).2.1, (h.ans.2 r hr).2.2.1⟩⟩, ⟨by have := h.auth.1; omega, fun r hr => ⟨(h.auth.2 r hr).2.1, (h.auth.2 r hr).2.2.1⟩⟩,
    ⟨by have := h.extra.1; omega, fun r hr => ⟨(h.extra.2 r hr).2.1, (h.extra.2 r hr).2.2.1⟩⟩, ⟨by have := h.ed.2.1; omega, h.ed.2.2⟩⟩
theorem MOk.set {m : Msg} (h : MOk m) (i : Nat) {l : List Rec} {has : Bool} {ed : Ed} (hl : l.length ≤ 65535 ∧ ∀ r ∈ l, ROk r) (he : EOk 65535 ed) : MOk (setSec m i l has ed) := by
  unfold setSec
  split
  · exact ⟨h.hd, h.qs, hl, h.auth, h.extra, he⟩
  · split
    · exact ⟨h.hd, h.qs, h.ans, hl, h.extra, he⟩
    · exact ⟨h.hd, h.qs, h.ans, h.auth, hl, he⟩
theorem fin_ok {s : Bs} (hs : s.length ≤ 65535) : ∀ (r p : Nat) (m : Msg) {m' : Msg}, p ≤ s.length → MOk m → fin s r p m = (0, m') → MOk m'
  | 0, p, m, m', hp, hm, h => by
    unfold fin at h
    split at h
    · simp at h
    · simp only [Prod.mk.injEq, true_and] at h
      subst h; exact hm
  | r + 1, p, m, m', hp, hm, h => by
    unfold fin at h
    split at h
    · rename_i h1; simp only [Prod.mk.injEq] at h; exact absurd h.1 h1
    · rename_i h1
      obtain ⟨z, hz⟩ : ∃ z, decS s (3 - r) (num2 s (4 + 2 * (3 - r))) ⟨p, [], m.has, m.ed⟩ = (0, z) := ⟨_, Prod.ext (Decidable.not_not.1 h1) rfl⟩
      rw [hz] at h
      have hk := num2_lt s (4 + 2 * (3 - r))
      obtain ⟨h2, h3, h4, h5⟩ := decS_ok hs (3 - r) _ hp (fun r hr => by cases hr) hm.ed hz
      exact fin_ok hs r z.p _ h2 (hm.set _ ⟨by simp only [List.length_nil] at h3; omega, h4⟩ h5) h
theorem fromN_ok (id f : Nat) (hi : id < 65536) : HdL (fromN id f) := ⟨hi, by show f / 2048 % 16 < 256; omega, by show f % 16 < 256; omega⟩
theorem qMsg_ok {s : Bs} {qs : List Que} (h : qs.length ≤ 65535 ∧ ∀ q ∈ qs, QOk q) : MOk (qMsg s qs) :=
  ⟨fromN_ok _ _ (num2_lt _ _), h, ⟨Nat.zero_le _, fun r hr => by cases hr⟩, ⟨Nat.zero_le _, fun r hr => by cases hr⟩, ⟨Nat.zero_le _, fun r hr => by cases hr⟩, noEd_ok _⟩
theorem decB_ok {s : Bs} {m : Msg} (h : decB s = (0, m)) : MOk m := by
  rw [decB_eq] at h
  split at h
  · simp at h
  rename_i h1
  split at h
  · simp at h
  rename_i h2
  split at h
  · rename_i h3; simp only [Prod.mk.injEq] at h; exact absurd h.1 h3
  rename_i h3
  obtain ⟨p, qs, hq⟩ : ∃ p qs, decQ s (num2 s 4) 12 [] = (0, p, qs) := ⟨_, _, Prod.ext (Decidable.not_not.1 h3) rfl⟩
  rw [hq] at h
  have hk := num2_lt s 4
  have h4 := decQ_ok (by omega) _ _ _ (by omega) (fun q hq => by cases hq) hq
  exact fin_ok (by omega) 3 p _ h4.1 (qMsg_ok ⟨by have := h4.2.1; simp only [List.length_nil] at this; omega, h4.2.2⟩) h
end Go.Proofs.YtpoebplhemimmaaGreatDoor
namespace Go.Proofs.YtpoebplhemimmaaGreatDoor
variable {Ds : List Deferred}
open Go.RowKit
set_option linter.unusedVariables false
set_option linter.unusedSimpArgs false
set_option maxHeartbeats 2000000

open Classical in
/-- The cells and the blocks of a message of one's own. -/
def MB (m : Msg) (mv : Array Value) (BM : List (Nat × Obj)) : Prop := ∃ qv av uv xv ov BQ BA BU BX BO, mv = (msgV m qv av uv xv ov).toArray ∧ (∀ z, BM.count z = (BQ ++ (BA ++ (BU ++ (BX ++ BO)))).count z) ∧
  Sl 53 3 BQ qv m.qs.length (m.qs.flatMap quV) ∧ Sl 56 5 BA av m.ans.length (m.ans.flatMap recV) ∧ Sl 56 5 BU uv m.auth.length (m.auth.flatMap recV) ∧ Sl 56 5 BX xv m.extra.length (m.extra.flatMap recV) ∧
  Sl 85 2 BO ov m.ed.opts.length (m.ed.opts.flatMap optV)
section
variable {m : Msg} {mv : Array Value} {BM : List (Nat × Obj)}
theorem MB.size (h : MB m mv BM) : mv.size = 21 := by obtain ⟨_, _, _, _, _, _, _, _, _, _, rfl, _⟩ := h; rfl
theorem MB.has (h : MB m mv BM) : mv[15]? = some (.bool m.has) := by obtain ⟨_, _, _, _, _, _, _, _, _, _, rfl, _⟩ := h; rfl
theorem MB.one (h : MB m mv BM) : ∀ u ∈ mv.toList, u.oneCell' = true := by
  obtain ⟨qv, av, uv, xv, ov, _, _, _, _, _, rfl, _, h1, h2, h3, h4, h5⟩ := h
  intro u hu
  simp only [msgV, hdV, edV, List.cons_append, List.nil_append, List.mem_cons, List.not_mem_nil, or_false] at hu
  rcases hu with rfl | rfl | rfl | rfl | rfl | rfl | rfl | rfl | rfl | rfl | rfl | rfl | rfl | rfl | rfl | rfl | rfl | rfl | rfl | rfl | rfl <;> first | rfl | exact h1.one | exact h2.one | exact h3.one | exact h4.one | exact h5.one
open Classical in
theorem count_mem {A B : List (Nat × Obj)} (h : ∀ z, A.count z = B.count z) {p : Nat × Obj} (hp : p ∈ B) : p ∈ A := by
  have h1 := List.count_pos_iff.2 hp
  rw [← h] at h1
  exact List.count_pos_iff.1 h1
theorem MB.msgR {w0 w : World} {H : List (Nat × Obj)} (h : MB m mv BM) (hH : Hp w0 w H) (hB : ∀ p ∈ BM, p ∈ H) : ∃ qv av uv xv ov, mv = (msgV m qv av uv xv ov).toArray ∧ MsgR w m qv av uv xv ov := by
  obtain ⟨qv, av, uv, xv, ov, BQ, BA, BU, BX, BO, rfl, hc, h1, h2, h3, h4, h5⟩ := h
  have hm : ∀ p, p ∈ BQ ++ (BA ++ (BU ++ (BX ++ BO))) → p ∈ H := fun p hp => hB p (count_mem hc hp)
  refine ⟨qv, av, uv, xv, ov, rfl, ⟨h1.rsl hH fun p hp => hm p (List.mem_append_left _ hp), ?_, ?_, ?_, h5.rsl hH fun p hp => hm p (List.mem_append_right _ (List.mem_append_right _ (List.mem_append_right _ (List.mem_append_right _ hp))))⟩⟩
  · rw [recsV_fm]; exact h2.rsl hH fun p hp => hm p (List.mem_append_right _ (List.mem_append_left _ hp))
  · rw [recsV_fm]; exact h3.rsl hH fun p hp => hm p (List.mem_append_right _ (List.mem_append_right _ (List.mem_append_left _ hp)))
  · rw [recsV_fm]; exact h4.rsl hH fun p hp => hm p (List.mem_append_right _ (List.mem_append_right _ (List.mem_append_right _ (List.mem_append_left _ hp))))
abbrev zMsgV : Array Value := (msgV noMsg (.slice none 0 0) (.slice none 0 0) (.slice none 0 0) (.slice none 0 0) (.slice none 0 0)).toArray
theorem MB.zero : MB noMsg zMsgV [] := ⟨_, _, _, _, _, [], [], [], [], [], rfl, fun z => rfl, Sl.nil _ _, Sl.nil _ _, Sl.nil _ _, Sl.nil _ _, Sl.nil _ _⟩
theorem MB.head (h : MB m mv BM) (hd : Hd) : MB { m with hd := hd } (wr mv 0 (hdV hd)) BM := by
  obtain ⟨qv, av, uv, xv, ov, BQ, BA, BU, BX, BO, rfl, hc, h1, h2, h3, h4, h5⟩ := h
  exact ⟨qv, av, uv, xv, ov, BQ, BA, BU, BX, BO, rfl, hc, h1, h2, h3, h4, h5⟩
open Classical in
theorem MB.que (h : MB m mv BM) : ∃ qv BQ BR, (∀ z, (BQ ++ BR).count z = BM.count z) ∧ mv[11]? = some qv ∧ Sl 53 3 BQ qv m.qs.length (m.qs.flatMap quV) ∧
    ∀ l' qv' B', Sl 53 3 B' qv' l'.length (l'.flatMap quV) → MB { m with qs := l' } (mv.setIfInBounds 11 qv') (B' ++ BR) := by
  obtain ⟨qv, av, uv, xv, ov, BQ, BA, BU, BX, BO, rfl, hc, h1, h2, h3, h4, h5⟩ := h
  refine ⟨qv, BQ, BA ++ (BU ++ (BX ++ BO)), fun z => (hc z).symm, rfl, h1, fun l' qv' B' hS => ?_⟩
  exact ⟨qv', av, uv, xv, ov, B', BA, BU, BX, BO, rfl, fun z => rfl, hS, h2, h3, h4, h5⟩
open Classical in
theorem MB.opt (h : MB m mv BM) : ∃ BO BR, (∀ z, (BO ++ BR).count z = BM.count z) ∧ ∀ ed ov B', Sl 85 2 B' ov ed.opts.length (ed.opts.flatMap optV) → MB { m with has := true, ed := ed } (wr (mv.setIfInBounds 15 (.bool true)) 16 (edV ed ov)) (B' ++ BR) := by
  obtain ⟨qv, av, uv, xv, ov, BQ, BA, BU, BX, BO, rfl, hc, h1, h2, h3, h4, h5⟩ := h
  refine ⟨BO, BQ ++ (BA ++ (BU ++ BX)), fun z => by rw [hc]; simp only [List.count_append]; omega, fun ed ov' B' hS => ?_⟩
  exact ⟨qv, av, uv, xv, ov', BQ, BA, BU, BX, B', rfl, fun z => by simp only [List.count_append]; omega, h1, h2, h3, h4, hS⟩
open Classical in
theorem MB.sec (h : MB m mv BM) {i : Nat} (h1 : 1 ≤ i) (h4 : i < 4) : ∃ sv B BR, (∀ z, (B ++ BR).count z = BM.count z) ∧ mv[11 + i]? = some sv ∧ Sl 56 5 B sv (secL m i).length ((secL m i).flatMap recV) ∧
    ∀ l' sv' B', Sl 56 5 B' sv' l'.length (l'.flatMap recV) → MB (setSec m i l' m.has m.ed) (mv.setIfInBounds (11 + i) sv') (B' ++ BR) := by
  obtain ⟨qv, av, uv, xv, ov, BQ, BA, BU, BX, BO, rfl, hc, s1, s2, s3, s4, s5⟩ := h
  rcases (show i = 1 ∨ i = 2 ∨ i = 3 by omega) with rfl | rfl | rfl
  · refine ⟨av, BA, BQ ++ (BU ++ (BX ++ BO)), fun z => by rw [hc]; simp only [List.count_append]; omega, rfl, s2, fun l' sv' B' hS => ?_⟩
    exact ⟨qv, sv', uv, xv, ov, BQ, B', BU, BX, BO, rfl, fun z => by simp only [List.count_append]; omega, s1, hS, s3, s4, s5⟩
  · refine ⟨uv, BU, BQ ++ (BA ++ (BX ++ BO)), fun z => by rw [hc]; simp only [List.count_append]; omega, rfl, s3, fun l' sv' B' hS => ?_⟩
    exact ⟨qv, av, sv', xv, ov, BQ, BA, B', BX, BO, rfl, fun z => by simp only [List.count_append]; omega, s1, s2, hS, s4, s5⟩
  · refine ⟨xv, BX, BQ ++ (BA ++ (BU ++ BO)), fun z => by rw [hc]; simp only [List.count_append]; omega, rfl, s4, fun l' sv' B' hS => ?_⟩
    exact ⟨qv, av, uv, sv', ov, BQ, BA, BU, B', BO, rfl, fun z => by simp only [List.count_append]; omega, s1, s2, s3, hS, s5⟩
end
/-! ### The closure that is told what was thrown -/
theorem dclo_spec {w0 w1 : World} {H : List (Nat × Obj)} {gm ge : Nat} {mv : Array Value} {ev : Value} (n : Nat) (hmv : mv.size = 21) (hH0 : Hp w0 w1 ([(gm, .cells mv 37 (0, 0))] ++ ([(ge, .cells #[ev] 23 (0, 0))] ++ H))) :
    Rets Tryz.prog 19 [.int .i64 (n : Nat), ptr gm, ptr ge] w1 fun v w' => Hp w0 w' ([(gm, .cells zMsgV 37 (0, 0))] ++ ([(ge, .cells #[.int .i64 (n : Nat)] 23 (0, 0))] ++ H)) := by
  have hH := hH0
  refine rets_start Tryz.func19 rfl Tryz.ntmps19 rfl fun a Q0 hF hret hend => ?_
  simp only [argsFrom, Nat.zero_add, Nat.reduceAdd] at hF
  refine c_reg fun ops => ?_
  refine zl hF rfl (r_build hF rfl rfl (bd37 _)) fun a hF => ?_
  refine zm 1 hF rfl fun a hF => ?_
  refine ls_storeagg 0 hF hH rfl rfl rfl rfl rfl ti37 rfl (hmv) (rfl) (by simp [Value.oneCell']) ?_
  intro w hH
  refine ls_store 1 hF hH rfl rfl rfl rfl rfl fl23 ti23 rfl (by simp) (by simp [noFreeze]) (rfl) ?_
  intro w hH
  refine wpList_nil ?_
  replace hF := hF.sel []
  simp only [ss, Nat.reduceBEq] at hF
  refine hend (fall0 (fn := Tryz.f19) hF Tryz.results19 ?_)
  exact hH
/-- What Decode hands back. -/
def DecQ (w0 : World) (s : Bs) (v : Value) (w' : World) : Prop := ∃ mv BM, v = .tuple #[.agg mv, .int .i64 ((decN s).1 : Nat)] ∧ MB (decN s).2 mv BM ∧ Hp w0 w' BM
theorem dec_result {w0 w : World} {H : List (Nat × Obj)} {gm ge : Nat} {mv : Array Value} {e : Nat} {L : List (Nat × Value)} {a : Act} {Ds : List Deferred} (hF : FrD Ds 101 L a) (h2 : lk L 2 = some (ptr gm)) (h3 : lk L 3 = some (ptr ge)) (hmv : mv.size = 21)
    (hH : Hp w0 w ([(gm, .cells mv 37 (0, 0))] ++ ([(ge, .cells #[.int .i64 (e : Nat)] 23 (0, 0))] ++ H))) : (results Tryz.f10 a.tmps).run Tryz.prog w = .ok (.tuple #[.agg mv, .int .i64 (e : Nat)]) w := by
  have hl := run_loadVar_T (P := Tryz.prog) (w := w) (t := 37) (b := gm) (q := 0) (cs := mv.toList) (by kernel_rfl) ti37 (by simpa using hmv) (own_agg (i := 0) hH rfl)
  rw [Array.toArray_toList] at hl
  exact results_cc Tryz.results10 (hF.lk h2) (hF.lk h3) hl (run_loadVar_flat fl23 (own_cell (i := 1) (v := .int .i64 (e : Nat)) hH rfl rfl))
theorem dec_thrown {s : Bs} {w0 w : World} {H : List (Nat × Obj)} {gm ge : Nat} {mv : Array Value} {ev : Value} {L : List (Nat × Value)} {a : Act} {n k : Nat} (hF : FrD [dCaught 19 #[ptr gm, ptr ge]] 101 L a) (h2 : lk L 2 = some (ptr gm)) (h3 : lk L 3 = some (ptr ge)) (hmv : mv.size = 21)
    (hH : Hp w0 w ([(gm, .cells mv 37 (0, 0))] ++ ([(ge, .cells #[ev] 23 (0, 0))] ++ H))) (he : decN s = (k, noMsg)) (hn : n = k) :
    Leaves Tryz.prog Tryz.f10 a.tmps (fun e w' => ∃ v, e = .returned v ∧ DecQ w0 s v w') a.defers (.panicking (chV (faultV n))) w := by
  subst hn
  rw [hF.defers]
  refine leaves_thrown n _ _ w (fun w' => Hp w0 w' ([(gm, .cells zMsgV 37 (0, 0))] ++ ([(ge, .cells #[.int .i64 (n : Nat)] 23 (0, 0))] ++ H))) fn19 (fun w' hE => dclo_spec n hmv (hH.ext hE)) fun w' hR => ?_
  exact ⟨_, dec_result hF h2 h3 rfl hR, _, rfl, zMsgV, [], by rw [he], by rw [he]; exact MB.zero, hR.sub (List.nil_sublist _)⟩
theorem dec_done {s : Bs} {w0 w : World} {BM : List (Nat × Obj)} {gm ge : Nat} {mv : Array Value} {m : Msg} {e : Nat} {L : List (Nat × Value)} {a : Act} (hF : FrD [dCaught 19 #[ptr gm, ptr ge]] 101 L a) (h2 : lk L 2 = some (ptr gm)) (h3 : lk L 3 = some (ptr ge))
    (hH : Hp w0 w ([(gm, .cells mv 37 (0, 0))] ++ ([(ge, .cells #[.int .i64 (e : Nat)] 23 (0, 0))] ++ BM))) (hM : MB m mv BM) (he : decN s = (e, m)) :
    Leaves Tryz.prog Tryz.f10 a.tmps (fun e w' => ∃ v, e = .returned v ∧ DecQ w0 s v w') a.defers .returning w := by
  rw [hF.defers]
  refine leaves_done _ _ w ?_
  exact ⟨_, dec_result hF h2 h3 hM.size hH, _, rfl, mv, BM, by rw [he], by rw [he]; exact hM, hH.sub ((List.sublist_append_right _ BM).trans (List.sublist_append_right _ _))⟩
theorem dec_early {s : Bs} {w0 w : World} {gm ge : Nat} {H : List (Nat × Obj)} {e : Nat} {L : List (Nat × Value)} {a : Act} (hF : Fr 101 L a) (h2 : lk L 2 = some (ptr gm)) (h3 : lk L 3 = some (ptr ge))
    (hH : Hp w0 w ([(gm, .cells zMsgV 37 (0, 0))] ++ ([(ge, .cells #[.int .i64 (e : Nat)] 23 (0, 0))] ++ H))) (he : decN s = (e, noMsg)) :
    Leaves Tryz.prog Tryz.f10 a.tmps (fun e w' => ∃ v, e = .returned v ∧ DecQ w0 s v w') a.defers .returning w := by
  rw [hF.defers]
  exact ⟨_, dec_result hF h2 h3 rfl hH, _, rfl, zMsgV, [], by rw [he], by rw [he]; exact MB.zero, hH.sub (List.nil_sublist _)⟩
end Go.Proofs.YtpoebplhemimmaaGreatDoor
namespace Go.Proofs.YtpoebplhemimmaaGreatDoor
open Go.RowKit
set_option linter.unusedVariables false
set_option linter.unusedSimpArgs false
set_option maxHeartbeats 2000000

section
variable {s : Bs}
theorem decN_q {n : Nat} (h1 : ¬ 65535 < s.length) (h2 : ¬ s.length < 12) (h : (decQ s (num2 s 4) 12 []).1 = n) (hn : n ≠ 0) : decN s = (n, noMsg) := by
  subst h
  refine decN_err (m := noMsg) ?_ hn
  rw [decB_eq, if_neg h1, if_neg h2, if_pos hn]
theorem decB_q {p : Nat} {l : List Que} (h1 : ¬ 65535 < s.length) (h2 : ¬ s.length < 12) (h : decQ s (num2 s 4) 12 [] = (0, p, l)) : decB s = fin s 3 p (qMsg s l) := by
  rw [decB_eq, if_neg h1, if_neg h2, h, if_neg (by simp)]
theorem decQ_1 {k p : Nat} {l : List Que} (hk : 0 < k) (h : (readAt s p).1 ≠ 0) : (decQ s k p l).1 = (readAt s p).1 := by
  obtain ⟨k, rfl⟩ : ∃ j, k = j + 1 := ⟨k - 1, by omega⟩
  rw [decQ_succ, if_pos h]
theorem decQ_2 {k p : Nat} {l : List Que} (hk : 0 < k) (h : (readAt s p).1 = 0) (h2 : s.length < (readAt s p).2.2 + 4) : (decQ s k p l).1 = 4 := by
  obtain ⟨k, rfl⟩ : ∃ j, k = j + 1 := ⟨k - 1, by omega⟩
  rw [decQ_succ, if_neg (by omega), if_pos h2]
theorem decQ_3 {k p : Nat} {l : List Que} (hk : 0 < k) (h : (readAt s p).1 = 0) (h2 : ¬ s.length < (readAt s p).2.2 + 4) : decQ s k p l = decQ s (k - 1) ((readAt s p).2.2 + 4) (l ++ [⟨(readAt s p).2.1, num2 s (readAt s p).2.2, num2 s ((readAt s p).2.2 + 2)⟩]) := by
  obtain ⟨k, rfl⟩ : ∃ j, k = j + 1 := ⟨k - 1, by omega⟩
  rw [decQ_succ, if_neg (by omega), if_neg h2, Nat.add_sub_cancel]
theorem decS_1 {i k : Nat} {x : RSt} (hk : 0 < k) (h : (decR s i x).1 ≠ 0) : (decS s i k x).1 = (decR s i x).1 := by
  obtain ⟨k, rfl⟩ : ∃ j, k = j + 1 := ⟨k - 1, by omega⟩
  rw [decS_succ, if_pos h]
theorem decS_2 {i k : Nat} {x y : RSt} (hk : 0 < k) (h : decR s i x = (0, y)) : decS s i k x = decS s i (k - 1) y := by
  obtain ⟨k, rfl⟩ : ∃ j, k = j + 1 := ⟨k - 1, by omega⟩
  rw [decS_succ, h, if_neg (by simp), Nat.add_sub_cancel]
theorem fin_1 {i p n : Nat} {m : Msg} (h1 : 1 ≤ i) (h4 : i < 4) (h : (decS s i (num2 s (4 + 2 * i)) ⟨p, [], m.has, m.ed⟩).1 = n) (hn : n ≠ 0) : fin s (secRem i) p m = (n, noMsg) := by
  subst h
  rw [show secRem i = (3 - i) + 1 by unfold secRem; omega, fin, show 3 - (3 - i) = i by omega, if_pos hn]
theorem fin_2 {i p : Nat} {m : Msg} {x : RSt} (h1 : 1 ≤ i) (h4 : i < 4) (h : decS s i (num2 s (4 + 2 * i)) ⟨p, [], m.has, m.ed⟩ = (0, x)) : fin s (secRem i) p m = fin s (secRem (i + 1)) x.p (setSec m i x.l x.has x.ed) := by
  rw [show secRem i = (3 - i) + 1 by unfold secRem; omega, show secRem (i + 1) = 3 - i by unfold secRem; omega, fin, show 3 - (3 - i) = i by omega, h, if_neg (by simp)]
end
theorem setSec_has (m : Msg) (i : Nat) (l : List Rec) (has : Bool) (ed : Ed) : (setSec m i l has ed).has = has := by
  unfold setSec; split
  · rfl
  · split <;> rfl
theorem setSec_ed (m : Msg) (i : Nat) (l : List Rec) (has : Bool) (ed : Ed) : (setSec m i l has ed).ed = ed := by
  unfold setSec; split
  · rfl
  · split <;> rfl
theorem setSec_set (m : Msg) (i : Nat) (l l' : List Rec) (has has' : Bool) (ed ed' : Ed) : setSec (setSec m i l has ed) i l' has' ed' = setSec m i l' has' ed' := by
  unfold setSec
  split
  · rfl
  · split <;> rfl
theorem setSec_opt (m : Msg) (i : Nat) (l : List Rec) (has : Bool) (ed ed' : Ed) : { setSec m i l has ed with has := true, ed := ed' } = setSec m i l true ed' := by
  unfold setSec
  split
  · rfl
  · split <;> rfl
theorem secL_set {m : Msg} {i : Nat} {l : List Rec} {has : Bool} {ed : Ed} (h1 : 1 ≤ i) (h4 : i < 4) : secL (setSec m i l has ed) i = l := by
  rcases (show i = 1 ∨ i = 2 ∨ i = 3 by omega) with rfl | rfl | rfl <;> rfl
theorem secL_ne {m : Msg} {i j : Nat} {l : List Rec} {has : Bool} {ed : Ed} (h1 : 1 ≤ i) (h4 : i < 4) (h : i < j) (hj : j < 4) : secL (setSec m i l has ed) j = secL m j := by
  rcases (show i = 1 ∨ i = 2 ∨ i = 3 by omega) with rfl | rfl | rfl <;> rcases (show j = 2 ∨ j = 3 by omega) with rfl | rfl <;> first | rfl | omega
/-- The sections from i on are empty. -/
def Bare (m : Msg) (i : Nat) : Prop := ∀ j, i ≤ j → 1 ≤ j → j < 4 → secL m j = []
theorem Bare.set {m : Msg} {i : Nat} (h : Bare m i) (h4 : i < 4) : setSec m i [] m.has m.ed = m := by
  obtain ⟨hd, qs, ans, auth, extra, has, ed⟩ := m
  rcases (show i = 0 ∨ i = 1 ∨ i = 2 ∨ i = 3 by omega) with rfl | rfl | rfl | rfl
  · have := h 3 (by omega) (by omega) (by omega); simp only [secL] at this; simp only [setSec]; simp_all
  · have := h 1 (by omega) (by omega) (by omega); simp only [secL] at this; simp only [setSec]; simp_all
  · have := h 2 (by omega) (by omega) (by omega); simp only [secL] at this; simp only [setSec]; simp_all
  · have := h 3 (by omega) (by omega) (by omega); simp only [secL] at this; simp only [setSec]; simp_all
theorem Bare.next {m : Msg} {i : Nat} {l : List Rec} {has : Bool} {ed : Ed} (h : Bare m i) (h1 : 1 ≤ i) (h4 : i < 4) : Bare (setSec m i l has ed) (i + 1) := fun j hj h1' hj4 => by
  rw [secL_ne h1 h4 (by omega) hj4]; exact h j (by omega) h1' hj4
abbrev cntV (s : Bs) : Array Value := #[.int .i64 (num2 s 4 : Nat), .int .i64 (num2 s 6 : Nat), .int .i64 (num2 s 8 : Nat), .int .i64 (num2 s 10 : Nat)]
theorem cntV_at {s : Bs} {i : Nat} (h : i < 4) : (cntV s)[0 + i]? = some (.int .i64 (num2 s (4 + 2 * i) : Nat)) := by
  rcases (show i = 0 ∨ i = 1 ∨ i = 2 ∨ i = 3 by omega) with rfl | rfl | rfl | rfl <;> rfl
theorem hread_spec2 (s : Bs) (hs : s.length < 1000000) (w0 : World) (hG : GX w0) : Rets Tryz.prog 20 [.string (mk s)] w0
    fun v w' => ∃ (hh : Hd) (a b c d e : Nat), v = .tuple #[.agg (hdV hh).toArray, .agg #[.int .i64 (a : Nat), .int .i64 (b : Nat), .int .i64 (c : Nat), .int .i64 (d : Nat)], .int .i64 (e : Nat)] ∧ ((e = 4 ∧ s.length < 12) ∨ (e = 0 ∧ 12 ≤ s.length ∧ hh = fromN (num2 s 0) (num2 s 2) ∧ a = num2 s 4 ∧ b = num2 s 6 ∧ c = num2 s 8 ∧ d = num2 s 10)) ∧ Ext w0 w' := by
  refine (hread_spec s hs w0 hG).mono ?_
  rintro v w' ⟨rfl, h⟩
  by_cases hc : s.length < 12
  · exact ⟨zHd, 0, 0, 0, 0, 4, by rw [if_pos hc]; rfl, .inl ⟨rfl, hc⟩, h⟩
  · exact ⟨_, _, _, _, _, 0, by rw [if_neg hc]; rfl, .inr ⟨rfl, by omega, rfl, rfl, rfl, rfl, rfl⟩, h⟩
abbrev decH (s : Bs) (gc gr gm ge gn p : Nat) (mv : Array Value) (BM : List (Nat × Obj)) : List (Nat × Obj) := [(gc, curO s p)] ++ ([(gr, rdO s gc)] ++ ([(gm, .cells mv 37 (0, 0))] ++ ([(ge, .cells #[.int .i64 (0 : Nat)] 23 (0, 0))] ++ ([(gn, .cells (cntV s) 60 (0, 0))] ++ BM))))
theorem decode_spec (s : Bs) (hs : s.length < 300000) (w0 : World) (hG : GX w0) : Rets Tryz.prog 10 [.string (mk s)] w0 (DecQ w0 s) := by
  have hH := Hp.refl w0
  refine rets_startD Tryz.func10 rfl Tryz.ntmps10 rfl fun a Q0 hF hret hend hpan => ?_
  simp only [argsFrom, Nat.zero_add, Nat.reduceAdd] at hF
  refine c_sr fun ops => ?_
  refine ls_alloc hF hH rfl rfl rfl rfl zv37 ?_
  intro a w g0_0 hH hE hF
  refine ls_alloc hF hH rfl rfl rfl rfl zv23 ?_
  intro a w g0_1 hH hE hF
  refine c_n ?_
  replace hF := hF.sel [0, 2, 3]
  simp only [ss, Nat.reduceBEq] at hF
  replace hH : Hp w0 w ([(g0_0, .cells zMsgV 37 (0, 0))] ++ ([(g0_1, .cells #[.int .i64 (0 : Nat)] 23 (0, 0))] ++ [])) := (show Hp w0 w ([(g0_1, .cells #[.int .i64 (0 : Nat)] 23 (0, 0))] ++ [(g0_0, .cells zMsgV 37 (0, 0))]) from hH).pick (R := []) (fun z => by simp only [List.count_append, List.count_nil]; omega)
  refine c_seq fun Q1 k1 t1 => ?_
  refine c_sr fun ops => ?_
  refine zm 1 hF rfl fun a hF => ?_
  refine zl hF rfl (r_len_str hF rfl rfl Tryz.underlying9) fun a hF => ?_
  refine zb hF rfl rfl rfl (b_gtn _ _ _ 65535) fun a hF => ?_
  refine c_n ?_
  replace hF := hF.sel [0, 2, 3, 15]
  simp only [ss, Nat.reduceBEq] at hF
  refine c_if hF rfl (fun h15 => ?_) (fun h15 => ?_)
  ·
   try simp only [qq] at h15
   refine c_sr fun ops => ?_
   refine zl hF rfl (r_build hF rfl rfl (bd37 _)) fun a hF => ?_
   refine ls_storeagg 0 hF hH rfl rfl rfl rfl rfl ti37 rfl (rfl) (rfl) (by simp [Value.oneCell']) ?_
   intro w hH
   refine ls_store 1 hF hH rfl rfl rfl rfl rfl fl23 ti23 rfl (by simp) (by simp [noFreeze]) (rfl) ?_
   intro w hH
   refine c_n ?_
   replace hF := hF.sel [2, 3]
   simp only [ss, Nat.reduceBEq] at hF
   refine wp_ret (t1.ret (hret ?_))
   exact dec_early (e := 5) hF rfl rfl hH (decN_err (m := noMsg) (by rw [decB_eq, if_pos (by omega)]) (by decide))
  try simp only [qq] at h15
  refine wp_skip ?_
  refine k1 ?_
  refine c_sr fun ops => ?_
  refine zl hF rfl (r_makefunc hF rfl rfl) fun a hF => ?_
  refine ls_defer hF rfl rfl rfl rfl fun a hF => ?_
  refine c_n ?_
  replace hF := hF.sel [0, 2, 3]
  simp only [ss, Nat.reduceBEq] at hF
  refine c_sr fun ops => ?_
  refine zm 1 hF rfl fun a hF => ?_
  refine zc hF rfl rfl fn20 (hread_spec2 s (by omega) _ (hG.ext hH.below)) ?_
  rintro _ w ⟨hh, ca, cb, cc, cd, ee, rfl, hcase, hE⟩ a hF
  replace hH := hH.ext hE
  refine zm 4 hF rfl fun a hF => ?_
  refine ls_alloc hF hH rfl rfl rfl rfl zv30 ?_
  intro a w g4_6 hH hE hF
  refine ls_alloc hF hH rfl rfl rfl rfl zv60 ?_
  intro a w g4_7 hH hE hF
  refine ls_storeagg 1 hF hH rfl rfl rfl rfl rfl ti30 rfl (rfl) (rfl) (by simp [hdV, Value.oneCell']) ?_
  intro w hH
  refine ls_storeagg 0 hF hH rfl rfl rfl rfl rfl ti60 rfl (rfl) (rfl) (by simp [Value.oneCell']) ?_
  intro w hH
  refine ls_store 3 hF hH rfl rfl rfl rfl rfl fl23 ti23 rfl (by simp) (by simp [noFreeze]) (rfl) ?_
  intro w hH
  refine c_n ?_
  replace hF := hF.sel [0, 2, 3, 4, 5]
  simp only [ss, Nat.reduceBEq] at hF
  refine c_sr fun ops => ?_
  refine zl hF rfl (r_load hF rfl rfl fl23 (own_cell (i := 3) (v := .int .i64 (ee : Nat)) hH rfl rfl)) fun a hF => ?_
  refine ls_callT hF rfl rfl rfl rfl rfl fn21 (must_spec ee _) (fun n w hE => hpan (by
    obtain ⟨h1, h2, h3⟩ := hE
    have hc : ee = 4 ∧ s.length < 12 := by
      rcases hcase with h | h
      · exact h
      · exact absurd h.1 h2
    exact dec_thrown hF rfl rfl rfl (((hH.ext h3).drop).drop) (decN_err (n := 4) (m := noMsg) (by rw [decB_eq, if_neg (by omega), if_pos hc.2]) (by decide)) (by rw [h1, hc.1]))) ?_
  rintro _ w ⟨rfl, he, hE⟩ a hF
  replace hH := hH.ext hE
  refine c_n ?_
  replace hF := hF.sel [0, 2, 3, 4, 5]
  simp only [ss, Nat.reduceBEq] at hF
  obtain ⟨_, h12, e1, e2, e3, e4, e5⟩ : ee = 0 ∧ 12 ≤ s.length ∧ hh = fromN (num2 s 0) (num2 s 2) ∧ ca = num2 s 4 ∧ cb = num2 s 6 ∧ cc = num2 s 8 ∧ cd = num2 s 10 := by
    rcases hcase with h | h
    · rw [he] at h; exact absurd h.1 (by decide)
    · exact h
  rw [he, e1, e2, e3, e4, e5] at hH
  refine c_sr fun ops => ?_
  refine zl hF rfl (r_loadagg hF rfl rfl Tryz.underlying30 ti30 rfl (own_agg (i := 1) (cs := (hdV (fromN (num2 s 0) (num2 s 2))).toArray) hH rfl)) fun a hF => ?_
  refine zl hF rfl (r_fieldaddr0 hF rfl rfl fd37_0) fun a hF => ?_
  refine ls_storeat 2 hF hH rfl rfl rfl rfl rfl ti30 rfl rfl (by decide) (by simp [hdV, Value.oneCell']) ?_
  intro w hH
  refine c_n ?_
  replace hF := hF.sel [0, 2, 3, 5]
  simp only [ss, Nat.reduceBEq] at hF
  obtain ⟨mv, hmv⟩ : ∃ mv, mv = wr zMsgV 0 (hdV (fromN (num2 s 0) (num2 s 2))) := ⟨_, rfl⟩
  have hM : MB (qMsg s []) mv [] := by rw [hmv]; exact MB.zero.head _
  replace hH : Hp w0 w ([(g4_7, .cells (cntV s) 60 (0, 0))] ++ ([(g4_6, .cells (hdV (fromN (num2 s 0) (num2 s 2))).toArray 30 (0, 0))] ++ ([(g0_0, .cells mv 37 (0, 0))] ++ ([(g0_1, .cells #[.int .i64 (0 : Nat)] 23 (0, 0))] ++ [])))) := by rw [hmv]; exact hH
  clear hmv
  refine c_sr fun ops => ?_
  refine zm 2 hF rfl fun a hF => ?_
  refine zc hF rfl rfl fn22 (new_spec s _) ?_
  rintro _ w ⟨gc, rfl, hC⟩ a hF
  replace hH := hH.join hC
  refine zl hF rfl (r_build hF rfl rfl (bd67_0_1 _ _ _ (rfl) (rfl))) fun a hF => ?_
  refine ls_box hF hH rfl rfl rfl rfl rfl ?_
  intro a w g7_4 hH hE hF
  refine zm 1 hF rfl fun a hF => ?_
  refine c_n ?_
  replace hF := hF.sel [2, 3, 5, 6]
  simp only [ss, Nat.reduceBEq] at hF
  replace hH := hH.perm (List.Perm.swap _ _ _)
  refine c_sr fun ops => ?_
  refine zm 1 hF rfl fun a hF => ?_
  refine zl hF rfl (r_nilcheck hF rfl rfl) fun a hF => ?_
  refine zl hF rfl (r_fieldaddr0 hF rfl rfl fd67_1) fun a hF => ?_
  refine zl hF rfl (r_load hF rfl rfl fl64 (own_cell (i := 1) (v := ptr gc) hH rfl rfl)) fun a hF => ?_
  refine zc hF rfl rfl fn23 (seek_spec' 12 hH (by omega)) ?_
  rintro _ w ⟨rfl, hH⟩ a hF
  rw [if_pos h12] at hF hH
  refine zc hF rfl rfl fn21 ((must_spec 0 _).rets (fun n w h => h.2.1 rfl)) ?_
  rintro _ w ⟨rfl, _, hE⟩ a hF
  replace hH := hH.ext hE
  refine c_n ?_
  replace hF := hF.sel [2, 3, 5, 6]
  simp only [ss, Nat.reduceBEq] at hF
  replace hH : Hp w0 w (decH s gc g7_4 g0_0 g0_1 g4_7 12 mv []) :=
    (show Hp w0 w ([(gc, curO s 12)] ++ ([(g7_4, rdO s gc)] ++ ([(g4_7, .cells (cntV s) 60 (0, 0))] ++ ([(g4_6, .cells (hdV (fromN (num2 s 0) (num2 s 2))).toArray 30 (0, 0))] ++ ([(g0_0, .cells mv 37 (0, 0))] ++ ([(g0_1, .cells #[.int .i64 (0 : Nat)] 23 (0, 0))] ++ [])))))) from hH).pick (R := [(g4_6, .cells (hdV (fromN (num2 s 0) (num2 s 2))).toArray 30 (0, 0))]) (fun z => by simp only [List.count_append, List.count_nil]; omega)
  have hk0 := num2_lt s 4
  refine c_seq fun Q2 k2 t2 => ?_
  refine c_sr fun ops => ?_
  refine zl hF rfl (r_ixarr hF 0 rfl rfl rfl Tryz.underlying60 ti3 (by omega)) fun a hF => ?_
  refine zl hF rfl (r_load hF rfl rfl fl3 (own_cell (i := 4) (v := .int .i64 (num2 s 4 : Nat)) hH rfl rfl)) fun a hF => ?_
  refine zm 1 hF rfl fun a hF => ?_
  refine c_n ?_
  replace hF := hF.sel [2, 3, 5, 6, 40, 41]
  simp only [ss, Nat.reduceBEq] at hF
  refine c_block fun Q3 t3 => ?_
  refine c_loop (fun n a w => ∃ j p l mv BM, n = num2 s 4 - j ∧ j ≤ num2 s 4 ∧ p ≤ s.length ∧ l.length ≤ j ∧ decQ s (num2 s 4) 12 [] = decQ s (num2 s 4 - j) p l ∧ MB (qMsg s l) mv BM ∧ FrD [dCaught 19 #[ptr g0_0, ptr g0_1]] 101 [(2, ptr g0_0), (3, ptr g0_1), (5, ptr g4_7), (6, ptr g7_4), (40, .int .i64 (num2 s 4 : Nat)), (41, .int .i64 (j : Nat))] a ∧ Hp w0 w (decH s gc g7_4 g0_0 g0_1 g4_7 p mv BM)) ?_ ?_
  ·
   exact ⟨_, 0, 12, [], mv, [], rfl, Nat.zero_le _, h12, Nat.le_refl _, rfl, hM, hF.keep [2, 3, 5, 6, 40, 41] rfl, hH⟩
  clear hH hF hM
  intro n a w hI Q4 k4 t4
  obtain ⟨j, p, l, mv, BM, hm, hj, hp, hll, he, hM, hF, hH⟩ := hI
  refine c_sr fun ops => ?_
  refine zb hF rfl rfl rfl (b_ltn _ _ _ _) fun a hF => ?_
  refine c_n ?_
  refine c_seq fun Q5 k5 t5 => ?_
  refine c_if hF rfl (fun h42 => ?_) (fun h42 => ?_)
  ·
   try simp only [qq] at h42
   refine wp_skip ?_
   refine k5 ?_
   refine c_seq fun Q6 k6 t6 => ?_
   refine c_block fun Q7 t7 => ?_
   refine c_sr fun ops => ?_
   refine zm 1 hF rfl fun a hF => ?_
   refine ls_callT hF rfl rfl rfl rfl rfl fn24 (rname_spec hG hH hp (by omega)) (fun n w hE => t7.panic (t6.panic (t4.panic (t3.panic (t2.panic (hpan (dec_thrown hF rfl rfl hM.size hE.2.2 (decN_q (by omega) (by omega) (by rw [he]; exact decQ_1 (by omega) hE.2.1) hE.2.1) hE.1))))))) ?_
   rintro _ w ⟨rfl, he0, hH⟩ a hF
   have hq := readAt_next he0
   refine zm 1 hF rfl fun a hF => ?_
   refine c_n ?_
   refine c_sr fun ops => ?_
   refine zm 1 hF rfl fun a hF => ?_
   refine ls_callT hF rfl rfl rfl rfl rfl fn25 (rtwo_spec hG hH (by omega) (by omega)) (fun n w hE => t7.panic (t6.panic (t4.panic (t3.panic (t2.panic (hpan (dec_thrown hF rfl rfl hM.size hE.2.2 (decN_q (by omega) (by omega) (by rw [he]; exact decQ_2 (by omega) he0 (by omega)) (by decide)) hE.1))))))) ?_
   rintro _ w ⟨rfl, hl2, hH⟩ a hF
   skip
   refine zm 1 hF rfl fun a hF => ?_
   refine c_n ?_
   obtain ⟨qv, BQ, BR, hcnt, hqv, hS, hset⟩ := hM.que
   refine c_planF hF [2, 3] [0, 2, 3, 4] [.p 1, .o 5, .o 6, .o 7] [] [8, 9, 10] [0, 2, 3, 4, 1, 5, 6, 7] (fun w => w.cell? ⟨g0_0, 11, none⟩ = some qv) (by kernel_rfl) (by kernel_rfl) rfl ?_
   refine ps hF rfl rfl rfl rfl (fun w => r_fieldaddr0 hF rfl rfl fd37_1) fun a hF => ?_
   refine ps hF rfl rfl rfl rfl (fun w => r_move hF rfl rfl) fun a hF => ?_
   refine ps hF rfl rfl rfl rfl (fun w => r_move hF rfl rfl) fun a hF => ?_
   refine ps hF rfl rfl rfl rfl (fun w => r_move hF rfl rfl) fun a hF => ?_
   refine pl_start fun w hE => ?_
   replace hH := hH.ext hE
   refine ⟨own_cell (i := 2) hH rfl hqv, ?_⟩
   refine pp hF rfl rfl rfl rfl (fun w hH => r_load hF rfl rfl fl31 (hH)) fun a hF => ?_
   refine po ?_
   refine ls_callT hF rfl rfl rfl rfl rfl fn25 (rtwo_spec hG hH (by omega) (by omega)) (fun n w hE => ⟨hF.keep [2, 3] rfl, fun a hF => t7.panic (t6.panic (t4.panic (t3.panic (t2.panic (hpan (dec_thrown hF rfl rfl hM.size hE.2.2 (decN_q (by omega) (by omega) (by rw [he]; exact decQ_2 (by omega) he0 (by omega)) (by decide)) hE.1))))))⟩) ?_
   rintro _ w ⟨rfl, hl4, hH⟩ a hF
   skip
   refine wpList_nil (po_end (own_cell (i := 2) hH rfl hqv) ?_)
   refine po ?_
   refine zl hF rfl (r_build hF rfl rfl (bd53_0_1_2 _ _ _ _ (rfl) (rfl) (rfl))) fun a hF => ?_
   refine wpList_nil (po_end (own_cell (i := 2) hH rfl hqv) ?_)
   refine po ?_
   refine ls_build1 hF hH rfl rfl rfl rfl rfl Tryz.underlying31 ti53 rfl (by decide) ?_
   intro a w g13_7 hH hE hF
   refine wpList_nil (po_end (own_cell (i := 3) hH rfl hqv) ?_)
   refine pt ?_
   refine tt ?_
   have hlit := rsl_lit (n := 1) (size := 3) hH rfl (by decide)
   have e22 : (readAt s p).2.2 + 2 + 2 = (readAt s p).2.2 + 4 := by omega
   rw [e22] at hH
   replace hS : Sl 53 3 BQ qv l.length (l.flatMap quV) := hS
   obtain ⟨q, hqe⟩ : ∃ q : Que, q = ⟨(readAt s p).2.1, num2 s (readAt s p).2.2, num2 s ((readAt s p).2.2 + 2)⟩ := ⟨_, rfl⟩
   replace hlit : RSl w 3 (.slice (some ⟨g13_7, 0, none⟩) 1 1) 1 (quV q) := by rw [hqe]; exact hlit
   replace hH : Hp w0 w (BQ ++ ([(g13_7, .cells (quV q).toArray 53 (0, 0))] ++ ([(gc, curO s ((readAt s p).2.2 + 4))] ++ ([(g7_4, rdO s gc)] ++ ([(g0_0, .cells mv 37 (0, 0))] ++ ([(g0_1, .cells #[.int .i64 (0 : Nat)] 23 (0, 0))] ++ ([(g4_7, .cells (cntV s) 60 (0, 0))] ++ BR))))))) :=
     (show Hp w0 w ([(g13_7, .cells (quV q).toArray 53 (0, 0))] ++ ([(gc, curO s ((readAt s p).2.2 + 4))] ++ ([(g7_4, rdO s gc)] ++ ([(g0_0, .cells mv 37 (0, 0))] ++ ([(g0_1, .cells #[.int .i64 (0 : Nat)] 23 (0, 0))] ++ ([(g4_7, .cells (cntV s) 60 (0, 0))] ++ BM)))))) from by rw [hqe]; exact hH).pick (R := []) (fun z => by have := hcnt z; simp only [List.count_append, List.count_nil] at this ⊢; omega)
   refine ls_append hF hH rfl rfl rfl rfl rfl rfl Tryz.underlying31 ti53 hS hlit (by simp [quV, Value.oneCell']) (by decide) (by omega) ?_
   intro a v13_8 w B13_8 hH hS hF
   refine zl hF rfl (r_fieldaddr0 hF rfl rfl fd37_1) fun a hF => ?_
   replace hH : Hp w0 w ([(g0_0, .cells mv 37 (0, 0))] ++ ([(gc, curO s ((readAt s p).2.2 + 4))] ++ ([(g7_4, rdO s gc)] ++ ([(g0_1, .cells #[.int .i64 (0 : Nat)] 23 (0, 0))] ++ ([(g4_7, .cells (cntV s) 60 (0, 0))] ++ (B13_8 ++ BR)))))) :=
     hH.pick (R := [(g13_7, .cells (quV q).toArray 53 (0, 0))]) (fun z => by simp only [List.count_append, List.count_nil]; omega)
   have hS2 : Sl 53 3 B13_8 v13_8 (l ++ [q]).length ((l ++ [q]).flatMap quV) := by rw [List.length_append, List.flatMap_append, List.flatMap_singleton]; exact hS
   refine ls_store 0 hF hH rfl rfl rfl rfl rfl fl31 ti31 rfl ((by rw [hM.size]; omega)) (by simp [noFreeze]) (hS2.one) ?_
   intro w hH
   refine pt_end ?_
   replace hH : Hp w0 w ([(g0_0, .cells (mv.setIfInBounds 11 v13_8) 37 (0, 0))] ++ ([(gc, curO s ((readAt s p).2.2 + 4))] ++ ([(g7_4, rdO s gc)] ++ ([(g0_1, .cells #[.int .i64 (0 : Nat)] 23 (0, 0))] ++ ([(g4_7, .cells (cntV s) 60 (0, 0))] ++ (B13_8 ++ BR)))))) := hH
   refine t7.norm ?_
   refine k6 ?_
   refine c_reg fun ops => ?_
   refine zb hF rfl rfl rfl (b_addn _ _ 1 (by omega)) fun a hF => ?_
   refine zm 1 hF rfl fun a hF => ?_
   refine wpList_nil ?_
   refine k4 ?_
   exact ⟨num2 s 4 - (j + 1), by omega, j + 1, (readAt s p).2.2 + 4, l ++ [q], _, _, rfl, by omega, by omega, by rw [List.length_append]; simp; omega, by rw [he, decQ_3 (by omega) he0 (by omega), hqe, Nat.sub_sub], hset _ _ _ hS2, hF.keep [2, 3, 5, 6, 40, 41] rfl, hH.pick (R := []) (fun z => by simp only [List.count_append, List.count_nil]; omega)⟩
  try simp only [qq] at h42
  obtain rfl : j = num2 s 4 := by omega
  rw [Nat.sub_self] at he
  have hdB := decB_q (by omega) (by omega) he
  refine wp_exit (t5.exit (t4.exit (t3.here (?_))))
  refine k2 ?_
  refine c_seq fun Q8 k8 t8 => ?_
  refine c_sr fun ops => ?_
  refine zc hF rfl rfl fn26 (sections_spec g0_0 _) ?_
  rintro _ w ⟨rfl, hE⟩ a hF
  replace hH := hH.ext hE
  refine zm 1 hF rfl fun a hF => ?_
  refine c_n ?_
  replace hF := hF.sel [2, 3, 5, 6, 58, 59]
  simp only [ss, Nat.reduceBEq] at hF
  refine c_block fun Q9 t9 => ?_
  refine c_loop (fun n a w => ∃ i p m mv BM, n = 4 - i ∧ i ≤ 4 ∧ p ≤ s.length ∧ decB s = fin s (secRem i) p m ∧ Bare m i ∧ MB m mv BM ∧ FrD [dCaught 19 #[ptr g0_0, ptr g0_1]] 101 [(2, ptr g0_0), (3, ptr g0_1), (5, ptr g4_7), (6, ptr g7_4), (58, .agg #[.pointer none, ptrO g0_0 12, ptrO g0_0 13, ptrO g0_0 14]), (59, .int .i64 (i : Nat))] a ∧ Hp w0 w (decH s gc g7_4 g0_0 g0_1 g4_7 p mv BM)) ?_ ?_
  ·
   exact ⟨_, 0, p, qMsg s l, mv, BM, rfl, Nat.zero_le _, hp, hdB, (fun j _ h1 h4 => by rcases (show j = 1 ∨ j = 2 ∨ j = 3 by omega) with rfl | rfl | rfl <;> rfl), hM, hF.keep [2, 3, 5, 6, 58, 59] rfl, hH⟩
  clear hH hF hM hdB he hp
  intro n a w hI Q10 k10 t10
  obtain ⟨i, p, m, mv, BM, hm, hi, hp, hdB, hbare, hM, hF, hH⟩ := hI
  refine c_sr fun ops => ?_
  refine zb hF rfl rfl rfl (b_ltn _ _ _ 4) fun a hF => ?_
  refine c_n ?_
  refine c_seq fun Q11 k11 t11 => ?_
  refine c_fi hF rfl (fun h60 => ?_) (fun h60 => ?_)
  ·
   try simp only [qq] at h60
   obtain rfl : i = 4 := by omega
   have hdB : decB s = if p < s.length then (5, noMsg) else (0, m) := hdB
   refine wp_exit (t11.exit (t10.exit (t9.here (?_))))
   refine k8 ?_
   refine c_sr fun ops => ?_
   refine zm 1 hF rfl fun a hF => ?_
   refine zl hF rfl (r_nilcheck hF rfl rfl) fun a hF => ?_
   refine zl hF rfl (r_fieldaddr0 hF rfl rfl fd67_1) fun a hF => ?_
   refine zl hF rfl (r_load hF rfl rfl fl64 (own_cell (i := 1) (v := ptr gc) hH rfl rfl)) fun a hF => ?_
   refine zc hF rfl rfl fn29 (left_spec hH hp (by omega)) ?_
   rintro _ w ⟨rfl, hH⟩ a hF
   skip
   refine zb hF rfl rfl rfl (b_gtn _ _ _ 0) fun a hF => ?_
   refine ls_callT hF rfl rfl rfl rfl rfl fn28 (that_spec _ 5 _) (fun n w hE => hpan (by
     obtain ⟨h1, h2, h3⟩ := hE
     exact dec_thrown hF rfl rfl hM.size (((hH.ext h3).drop).drop) (decN_err (n := 5) (m := noMsg) (by rw [hdB, if_pos (by simp at h2; omega)]) (by decide)) h1)) ?_
   rintro _ w ⟨rfl, hth, hE⟩ a hF
   replace hH := hH.ext hE
   refine c_n ?_
   replace hF := hF.sel [2, 3]
   simp only [ss, Nat.reduceBEq] at hF
   rw [if_neg (by simp at hth; omega)] at hdB
   replace hH : Hp w0 w (decH s gc g7_4 g0_0 g0_1 g4_7 p mv BM) := hH
   have hok := decB_ok hdB
   obtain ⟨qv, av, uv, xv, ov, hmv, hR⟩ := hM.msgR hH (fun z hz => List.mem_append_right _ (List.mem_append_right _ (List.mem_append_right _ (List.mem_append_right _ (List.mem_append_right _ hz)))))
   refine c_sr fun ops => ?_
   refine zl hF rfl (r_loadagg (cs := mv.toList) hF rfl rfl Tryz.underlying37 ti37 (by rw [hmv]; rfl) (own_agg (i := 2) (cs := mv) hH rfl)) fun a hF => ?_
   rw [Array.toArray_toList] at hF
   refine zc hF rfl rfl fn16 (by rw [hmv]; exact size_mspec m qv av uv xv ov _ (hG.ext hH.below) hR hok.l hok.b) ?_
   rintro _ w ⟨rfl, hE⟩ a hF
   replace hH := hH.ext hE
   refine zm 2 hF rfl fun a hF => ?_
   refine ls_callT hF rfl rfl rfl rfl rfl fn30 (goti_spec _ (encN m).1 _) (fun n w hE => hpan (by
     obtain ⟨h1, h2, h3⟩ := hE
     exact dec_thrown hF rfl rfl hM.size (((hH.ext h3).drop).drop) (show decN s = ((encN m).1, noMsg) by unfold decN; rw [hdB, if_neg (by simp), if_pos h2]) h1)) ?_
   rintro _ w ⟨rfl, hz, hE⟩ a hF
   replace hH := hH.ext hE
   refine c_n ?_
   replace hF := hF.sel [2, 3]
   simp only [ss, Nat.reduceBEq] at hF
   refine c_sr fun ops => ?_
   refine zl hF rfl (r_loadagg (cs := mv.toList) hF rfl rfl Tryz.underlying37 ti37 (by rw [hmv]; rfl) (own_agg (i := 2) (cs := mv) hH rfl)) fun a hF => ?_
   rw [Array.toArray_toList] at hF
   refine ls_storeat 2 hF hH rfl rfl rfl rfl rfl ti37 rfl (by rw [hmv]; rfl) (by rw [hmv]; show 0 + 21 ≤ 21; omega) hM.one ?_
   intro w hH
   replace hH : Hp w0 w ([(gc, curO s p)] ++ ([(g7_4, rdO s gc)] ++ ([(g0_0, .cells mv 37 (0, 0))] ++ ([(g0_1, .cells #[.int .i64 (0 : Nat)] 23 (0, 0))] ++ ([(g4_7, .cells (cntV s) 60 (0, 0))] ++ BM))))) := by rw [hmv] at hH ⊢; exact hH
   refine ls_store 3 hF hH rfl rfl rfl rfl rfl fl23 ti23 rfl (by simp) (by simp [noFreeze]) (rfl) ?_
   intro w hH
   refine c_n ?_
   replace hF := hF.sel [2, 3]
   simp only [ss, Nat.reduceBEq] at hF
   refine wp_ret (hret ?_)
   exact dec_done (e := 0) hF rfl rfl (show Hp w0 w ([(g0_0, .cells mv 37 (0, 0))] ++ ([(g0_1, .cells #[.int .i64 (0 : Nat)] 23 (0, 0))] ++ BM)) from (show Hp w0 w ([(gc, curO s p)] ++ ([(g7_4, rdO s gc)] ++ ([(g0_0, .cells mv 37 (0, 0))] ++ ([(g0_1, .cells #[.int .i64 (0 : Nat)] 23 (0, 0))] ++ ([(g4_7, .cells (cntV s) 60 (0, 0))] ++ BM))))) from hH).pick (R := [(gc, curO s p)] ++ ([(g7_4, rdO s gc)] ++ [(g4_7, .cells (cntV s) 60 (0, 0))])) (fun z => by simp only [List.count_append]; omega)) hM (by unfold decN; rw [hdB, if_neg (by simp), if_neg (by simp only; omega)])
  try simp only [qq] at h60
  refine wp_skip ?_
  refine k11 ?_
  refine c_seq fun Q12 k12 t12 => ?_
  refine c_block fun Q13 t13 => ?_
  refine c_sr fun ops => ?_
  refine zm 1 hF rfl fun a hF => ?_
  refine zl hF rfl (r_indexarr hF _ rfl rfl rfl Tryz.underlying72 ti71 (by unfold flat; rw [Tryz.underlying71]) (by omega) (secP_at h60)) fun a hF => ?_
  refine zm 2 hF rfl fun a hF => ?_
  refine c_n ?_
  refine c_sr fun ops => ?_
  refine zm 1 hF rfl fun a hF => ?_
  refine zl hF rfl (r_ixarr hF _ rfl rfl rfl Tryz.underlying60 ti3 (by omega)) fun a hF => ?_
  refine zl hF rfl (r_load hF rfl rfl fl3 (own_cell (i := 4) (v := .int .i64 (num2 s (4 + 2 * i) : Nat)) hH rfl (cntV_at h60))) fun a hF => ?_
  refine zm 1 hF rfl fun a hF => ?_
  refine c_n ?_
  have hki := num2_lt s (4 + 2 * i)
  refine c_block fun Q14 t14 => ?_
  refine c_loop (fun n a w => ∃ j x mv BM, n = num2 s (4 + 2 * i) - j ∧ j ≤ num2 s (4 + 2 * i) ∧ x.p ≤ s.length ∧ x.l.length ≤ j ∧ (i = 0 → x = ⟨p, [], m.has, m.ed⟩) ∧ (1 ≤ i → decS s i (num2 s (4 + 2 * i)) ⟨p, [], m.has, m.ed⟩ = decS s i (num2 s (4 + 2 * i) - j) x) ∧ MB (setSec m i x.l x.has x.ed) mv BM ∧ FrD [dCaught 19 #[ptr g0_0, ptr g0_1]] 101 [(2, ptr g0_0), (3, ptr g0_1), (5, ptr g4_7), (6, ptr g7_4), (58, .agg #[.pointer none, ptrO g0_0 12, ptrO g0_0 13, ptrO g0_0 14]), (59, .int .i64 (i : Nat)), (9, .int .i64 (i : Nat)), (10, secP g0_0 i), (65, .int .i64 (num2 s (4 + 2 * i) : Nat)), (66, .int .i64 (j : Nat))] a ∧ Hp w0 w (decH s gc g7_4 g0_0 g0_1 g4_7 x.p mv BM)) ?_ ?_
  ·
   exact ⟨_, 0, ⟨p, [], m.has, m.ed⟩, mv, BM, rfl, Nat.zero_le _, hp, Nat.le_refl _, (fun _ => rfl), (fun _ => rfl), by rw [hbare.set h60]; exact hM, hF.keep [2, 3, 5, 6, 58, 59, 9, 10, 65, 66] rfl, hH⟩
  clear hH hF hM
  intro n a w hI Q15 k15 t15
  obtain ⟨j, x, mv, BM, hmj, hj, hxp, hxl, hx0, hx1, hM, hF, hH⟩ := hI
  refine c_sr fun ops => ?_
  refine zb hF rfl rfl rfl (b_ltn _ _ _ _) fun a hF => ?_
  refine c_n ?_
  refine c_seq fun Q16 k16 t16 => ?_
  refine c_fi hF rfl (fun h67 => ?_) (fun h67 => ?_)
  ·
   try simp only [qq] at h67
   refine wp_exit (t16.exit (t15.exit (t14.here (?_))))
   refine t13.norm ?_
   refine k12 ?_
   refine c_reg fun ops => ?_
   refine zb hF rfl rfl rfl (b_addn _ _ 1 (by omega)) fun a hF => ?_
   refine zm 1 hF rfl fun a hF => ?_
   refine wpList_nil ?_
   refine k10 ?_
   by_cases hi0 : i = 0
   · rw [hx0 hi0] at hM hH
     rw [hbare.set h60] at hM
     exact ⟨4 - (i + 1), by omega, i + 1, p, m, mv, BM, rfl, by omega, hp, by rw [hdB, hi0]; rfl, (fun j hj => hbare j (by omega)), hM, hF.keep [2, 3, 5, 6, 58, 59] rfl, hH⟩
   · first
     | exact ⟨4 - (i + 1), by omega, i + 1, x.p, _, mv, BM, rfl, by omega, hxp, by rw [hdB]; exact fin_2 (by omega) h60 (by rw [hx1 (by omega), show num2 s (4 + 2 * i) - j = 0 by omega]; rfl), hbare.next (by omega) h60, hM, hF.keep [2, 3, 5, 6, 58, 59] rfl, hH⟩
     | simp [hi0] at h69
  try simp only [qq] at h67
  refine wp_skip ?_
  refine k16 ?_
  refine c_seq fun Q17 k17 t17 => ?_
  refine c_block fun Q18 t18 => ?_
  refine c_seq fun Q19 k19 t19 => ?_
  refine c_sr fun ops => ?_
  refine zm 1 hF rfl fun a hF => ?_
  refine zb hF rfl rfl rfl (b_peq Tryz.underlying71) fun a hF => ?_
  refine c_n ?_
  refine c_if hF rfl (fun h69 => ?_) (fun h69 => ?_)
  ·
   try simp only [qq] at h69
   refine wp_exit (t19.exit (t18.exit (by decide) (t17.exit (t15.exit (t14.here (?_))))))
   refine t13.norm ?_
   refine k12 ?_
   refine c_reg fun ops => ?_
   refine zb hF rfl rfl rfl (b_addn _ _ 1 (by omega)) fun a hF => ?_
   refine zm 1 hF rfl fun a hF => ?_
   refine wpList_nil ?_
   refine k10 ?_
   by_cases hi0 : i = 0
   · rw [hx0 hi0] at hM hH
     rw [hbare.set h60] at hM
     exact ⟨4 - (i + 1), by omega, i + 1, p, m, mv, BM, rfl, by omega, hp, by rw [hdB, hi0]; rfl, (fun j hj => hbare j (by omega)), hM, hF.keep [2, 3, 5, 6, 58, 59] rfl, hH⟩
   · first
     | exact ⟨4 - (i + 1), by omega, i + 1, x.p, _, mv, BM, rfl, by omega, hxp, by rw [hdB]; exact fin_2 (by omega) h60 (by rw [hx1 (by omega), show num2 s (4 + 2 * i) - j = 0 by omega]; rfl), hbare.next (by omega) h60, hM, hF.keep [2, 3, 5, 6, 58, 59] rfl, hH⟩
     | simp [hi0] at h69
  try simp only [qq] at h69
  have hi1 : 1 ≤ i := by
    cases i with
    | zero => simp at h69
    | succ i => omega
  rw [show secP g0_0 i = ptrO g0_0 (11 + i) by unfold secP; rw [if_neg (by omega)]] at hF
  replace hx1 := hx1 hi1
  have hhas := hM.has
  rw [setSec_has] at hhas
  refine wp_skip ?_
  refine k19 ?_
  refine c_sr fun ops => ?_
  refine zm 2 hF rfl fun a hF => ?_
  refine ls_callT hF rfl rfl rfl rfl rfl fn27 (rrecord_spec i x.l x.has x.ed hG hH hM.size hhas hxp hs) (fun n w hE => t18.panic (t17.panic (t15.panic (t14.panic (t13.panic (t12.panic (t10.panic (t9.panic (t8.panic (hpan (dec_thrown hF rfl rfl hM.size hE.2.2 (decN_err (n := (decR s i x).1) (m := noMsg) (by rw [hdB]; exact fin_1 hi1 h60 (by rw [hx1]; exact decS_1 (by omega) (by rw [← hE.1]; exact hE.2.1)) (by rw [← hE.1]; exact hE.2.1)) (by rw [← hE.1]; exact hE.2.1)) hE.1))))))))))) ?_
  rintro _ w ⟨r, opt, p', ed', mv', B, rfl, hp', hlt, hd, hH, hno, hyes⟩ a hF
  skip
  refine zm 3 hF rfl fun a hF => ?_
  refine ls_alloc hF hH rfl rfl rfl rfl zv56 ?_
  intro a w g21_6 hH hE hF
  refine ls_storeagg 0 hF hH rfl rfl rfl rfl rfl ti56 rfl (rfl) (rfl) (by simp [recV, Value.oneCell']) ?_
  intro w hH
  refine zm 1 hF rfl fun a hF => ?_
  refine c_n ?_
  refine c_sr fun ops => ?_
  refine zm 1 hF rfl fun a hF => ?_
  refine zl hF rfl (r_not hF rfl rfl) fun a hF => ?_
  refine c_n ?_
  refine c_fi hF rfl (fun h77 => ?_) (fun h77 => ?_)
  ·
   try simp only [qq] at h77
   obtain rfl : opt = true := by simpa using h77
   obtain ⟨ov, rfl, hO⟩ := hyes rfl
   obtain ⟨BO, BR, hcnt, hset⟩ := hM.opt
   replace hset := hset _ _ _ hO
   rw [setSec_opt] at hset
   refine wp_skip ?_
   refine t18.norm ?_
   refine k17 ?_
   refine c_reg fun ops => ?_
   refine zb hF rfl rfl rfl (b_addn _ _ 1 (by omega)) fun a hF => ?_
   refine zm 1 hF rfl fun a hF => ?_
   refine wpList_nil ?_
   refine k15 ?_
   rw [show ptrO g0_0 (11 + i) = secP g0_0 i by unfold secP; rw [if_neg (by omega)]] at hF
   first
     | exact ⟨num2 s (4 + 2 * i) - (j + 1), by omega, j + 1, ⟨p', x.l ++ [r], x.has, x.ed⟩, _, _, rfl, by omega, hp', by rw [List.length_append]; simp; omega, (fun h => by omega), (fun _ => by rw [hx1, decS_2 (y := ⟨p', x.l ++ [r], x.has, x.ed⟩) (by omega) (hd.trans rfl), Nat.sub_sub]), hset, hF.keep [2, 3, 5, 6, 58, 59, 9, 10, 65, 66] rfl, hH.pick (R := []) (fun z => by simp only [List.count_append, List.count_nil]; omega)⟩
     | exact ⟨num2 s (4 + 2 * i) - (j + 1), by omega, j + 1, ⟨p', x.l, true, ed'⟩, _, _, rfl, by omega, hp', by simp; omega, (fun h => by omega), (fun _ => by rw [hx1, decS_2 (y := ⟨p', x.l, true, ed'⟩) (by omega) (hd.trans rfl), Nat.sub_sub]), hset, hF.keep [2, 3, 5, 6, 58, 59, 9, 10, 65, 66] rfl, (show Hp w0 w ([(g21_6, .cells (recV r).toArray 56 (0, 0))] ++ ([(gc, curO s p')] ++ ([(g7_4, rdO s gc)] ++ ([(g0_0, .cells _ 37 (0, 0))] ++ (B ++ ([(g0_1, .cells #[.int .i64 (0 : Nat)] 23 (0, 0))] ++ ([(g4_7, .cells (cntV s) 60 (0, 0))] ++ BM))))))) from hH).pick (R := [(g21_6, .cells (recV r).toArray 56 (0, 0))] ++ BO) (fun z => by have := hcnt z; simp only [List.count_append, List.count_nil] at this ⊢; omega)⟩
  try simp only [qq] at h77
  obtain rfl : opt = false := by simpa using h77
  obtain ⟨rfl, rfl⟩ := hno rfl
  obtain ⟨sv, BS, BR, hcnt, hsv, hS, hset⟩ := hM.sec hi1 h60
  rw [secL_set hi1 h60] at hS
  refine c_planF hF [] [0, 1, 2] [.p 3, .p 4, .o 5] [] [6, 7, 8] [0, 1, 2, 3, 4, 5] (hH.S) (by kernel_rfl) (by kernel_rfl) rfl ?_
  refine ps hF rfl rfl rfl rfl (fun w => r_move hF rfl rfl) fun a hF => ?_
  refine ps hF rfl rfl rfl rfl (fun w => r_move hF rfl rfl) fun a hF => ?_
  refine ps_nil hF rfl rfl rfl rfl rfl fun a hF => ?_
  refine pl_start fun w hE => ?_
  replace hH := hH.ext hE
  refine ⟨hH, ?_⟩
  refine pp hF rfl rfl rfl rfl (fun w hH => r_load hF rfl rfl fl32 (own_cell (i := 3) (v := sv) hH rfl hsv)) fun a hF => ?_
  refine pp hF rfl rfl rfl rfl (fun w hH => r_loadagg hF rfl rfl Tryz.underlying56 ti56 rfl (own_agg (i := 0) hH rfl)) fun a hF => ?_
  refine po ?_
  refine ls_build1 hF hH rfl rfl rfl rfl rfl Tryz.underlying32 ti56 rfl (by decide) ?_
  intro a w g23_5 hH hE hF
  refine wpList_nil (po_end (hH.drop) ?_)
  refine pt ?_
  refine tt ?_
  have hlit : RSl w 5 (.slice (some ⟨g23_5, 0, none⟩) 1 1) 1 (recV r) := rsl_lit (n := 1) (size := 5) hH rfl (by decide)
  replace hH : Hp w0 w (BS ++ ([(g23_5, .cells (recV r).toArray 56 (0, 0))] ++ ([(g21_6, .cells (recV r).toArray 56 (0, 0))] ++ ([(gc, curO s p')] ++ ([(g7_4, rdO s gc)] ++ ([(g0_0, .cells mv' 37 (0, 0))] ++ ([(g0_1, .cells #[.int .i64 (0 : Nat)] 23 (0, 0))] ++ ([(g4_7, .cells (cntV s) 60 (0, 0))] ++ BR)))))))) :=
    (show Hp w0 w ([(g23_5, .cells (recV r).toArray 56 (0, 0))] ++ ([(g21_6, .cells (recV r).toArray 56 (0, 0))] ++ ([(gc, curO s p')] ++ ([(g7_4, rdO s gc)] ++ ([(g0_0, .cells mv' 37 (0, 0))] ++ ([] ++ ([(g0_1, .cells #[.int .i64 (0 : Nat)] 23 (0, 0))] ++ ([(g4_7, .cells (cntV s) 60 (0, 0))] ++ BM)))))))) from hH).pick (R := []) (fun z => by have := hcnt z; simp only [List.count_append, List.count_nil] at this ⊢; omega)
  refine ls_append hF hH rfl rfl rfl rfl rfl rfl Tryz.underlying32 ti56 hS hlit (by simp [recV, Value.oneCell']) (by decide) (by omega) ?_
  intro a v23_6 w B23_6 hH hS hF
  refine zl hF rfl (r_nilcheck hF rfl rfl) fun a hF => ?_
  replace hH : Hp w0 w ([(g0_0, .cells mv' 37 (0, 0))] ++ ([(gc, curO s p')] ++ ([(g7_4, rdO s gc)] ++ ([(g0_1, .cells #[.int .i64 (0 : Nat)] 23 (0, 0))] ++ ([(g4_7, .cells (cntV s) 60 (0, 0))] ++ (B23_6 ++ BR)))))) :=
    hH.pick (R := [(g23_5, .cells (recV r).toArray 56 (0, 0))] ++ [(g21_6, .cells (recV r).toArray 56 (0, 0))]) (fun z => by simp only [List.count_append, List.count_nil]; omega)
  have hS2 : Sl 56 5 B23_6 v23_6 (x.l ++ [r]).length ((x.l ++ [r]).flatMap recV) := by rw [List.length_append, List.flatMap_append, List.flatMap_singleton]; exact hS
  refine ls_store 0 hF hH rfl rfl rfl rfl rfl fl32 ti32 rfl ((by rw [hM.size]; omega)) (by simp [noFreeze]) (hS2.one) ?_
  intro w hH
  refine pt_end ?_
  replace hH : Hp w0 w ([(g0_0, .cells (mv'.setIfInBounds (11 + i) v23_6) 37 (0, 0))] ++ ([(gc, curO s p')] ++ ([(g7_4, rdO s gc)] ++ ([(g0_1, .cells #[.int .i64 (0 : Nat)] 23 (0, 0))] ++ ([(g4_7, .cells (cntV s) 60 (0, 0))] ++ (B23_6 ++ BR)))))) := hH
  replace hset := hset _ _ _ hS2
  rw [setSec_set, setSec_has, setSec_ed] at hset
  refine t18.norm ?_
  refine k17 ?_
  refine c_reg fun ops => ?_
  refine zb hF rfl rfl rfl (b_addn _ _ 1 (by omega)) fun a hF => ?_
  refine zm 1 hF rfl fun a hF => ?_
  refine wpList_nil ?_
  refine k15 ?_
  rw [show ptrO g0_0 (11 + i) = secP g0_0 i by unfold secP; rw [if_neg (by omega)]] at hF
  first
    | exact ⟨num2 s (4 + 2 * i) - (j + 1), by omega, j + 1, ⟨p', x.l ++ [r], x.has, x.ed⟩, _, _, rfl, by omega, hp', by rw [List.length_append]; simp; omega, (fun h => by omega), (fun _ => by rw [hx1, decS_2 (y := ⟨p', x.l ++ [r], x.has, x.ed⟩) (by omega) (hd.trans rfl), Nat.sub_sub]), hset, hF.keep [2, 3, 5, 6, 58, 59, 9, 10, 65, 66] rfl, hH.pick (R := []) (fun z => by simp only [List.count_append, List.count_nil]; omega)⟩
    | exact ⟨num2 s (4 + 2 * i) - (j + 1), by omega, j + 1, ⟨p', x.l, true, ed'⟩, _, _, rfl, by omega, hp', by simp; omega, (fun h => by omega), (fun _ => by rw [hx1, decS_2 (y := ⟨p', x.l, true, ed'⟩) (by omega) (hd.trans rfl), Nat.sub_sub]), hset, hF.keep [2, 3, 5, 6, 58, 59, 9, 10, 65, 66] rfl, (show Hp w0 w ([(g21_6, .cells (recV r).toArray 56 (0, 0))] ++ ([(gc, curO s p')] ++ ([(g7_4, rdO s gc)] ++ ([(g0_0, .cells _ 37 (0, 0))] ++ (B ++ ([(g0_1, .cells #[.int .i64 (0 : Nat)] 23 (0, 0))] ++ ([(g4_7, .cells (cntV s) 60 (0, 0))] ++ BM))))))) from hH).pick (R := [(g21_6, .cells (recV r).toArray 56 (0, 0))] ++ BO) (fun z => by have := hcnt z; simp only [List.count_append, List.count_nil] at this ⊢; omega)⟩
end Go.Proofs.YtpoebplhemimmaaGreatDoor
