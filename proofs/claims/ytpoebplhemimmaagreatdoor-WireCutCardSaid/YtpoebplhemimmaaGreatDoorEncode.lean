/-
  What is thrown is caught: the walks of wire.caught, and of wire.Encode. Nothing is claimed here.
  The walk of wire.Encode. Nothing is claimed here.
  The walk of wire.Encode, and of wire.Size. Nothing is claimed here.
-/
import Derived.Test.YtpoebplhemimmaaGreatDoorMay
namespace Go.Proofs.YtpoebplhemimmaaGreatDoor
open Go.RowKit
set_option linter.unusedVariables false
set_option linter.unusedSimpArgs false
set_option maxHeartbeats 1000000

/-- What a body does behind its first part. -/
def sndC : Option Code → Code
  | some (.seq _ y) => y
  | _ => .skip
theorem caught_rest (n c : Nat) (cap : Array Value) (a : Act) (w0 : World) (Q : Exit → Act → World → Prop) (R : World → Prop) (hF : Fr 15 [(0, .func (.func c) #[] cap), (5, faultV n)] a) (hok : FnOk Tryz.prog c)
    (hc : ∀ w', Ext w0 w' → Rets Tryz.prog c (.int .i64 (n : Nat) :: cap.toList) w' fun v w'' => R w'') (hend : ∀ {a w}, a.defers = [] → R w → Q .normal a w) : (sndC Tryz.f18.body).wp Tryz.prog Q a w0 := by
  have hH := Hp.refl w0
  skip
  refine c_block fun Q1 t1 => ?_
  refine c_sr fun ops => ?_
  refine zb hF rfl rfl rfl (b_ieq Tryz.underlying20) fun a hF => ?_
  refine c_n ?_
  replace hF := hF.sel [0, 5, 7]
  simp only [ss, Nat.reduceBEq] at hF
  refine c_no hF rfl (rfl) ?_
  refine c_sr fun ops => ?_
  refine zl hF rfl (r_typeassert hF rfl rfl Tryz.underlying110) fun a hF => ?_
  refine zm 2 hF rfl fun a hF => ?_
  refine c_n ?_
  replace hF := hF.sel [0, 5, 9, 10]
  simp only [ss, Nat.reduceBEq] at hF
  refine c_yes hF rfl (rfl) ?_
  refine c_sr fun ops => ?_
  refine ls_alloc hF hH rfl rfl rfl rfl zv110 ?_
  intro a w g6_0 hH hE hF
  refine ls_storeagg 0 hF hH rfl rfl rfl rfl rfl ti110 rfl (rfl) (rfl) (by simp [Value.oneCell']) ?_
  intro w hH
  refine c_n ?_
  replace hF := hF.sel [0, 3]
  simp only [ss, Nat.reduceBEq] at hF
  refine c_reg fun ops => ?_
  refine zm 1 hF rfl fun a hF => ?_
  refine zl hF rfl (r_fieldaddr0 hF rfl rfl fd110_0) fun a hF => ?_
  refine zl hF rfl (r_load hF rfl rfl fl23 (own_cell (i := 0) (v := .int .i64 (n : Nat)) hH rfl rfl)) fun a hF => ?_
  refine ls_callv hF rfl rfl rfl rfl rfl rfl hok (hc _ hH.below) ?_
  rintro _ w hR a hF
  skip
  refine wpList_nil ?_
  replace hF := hF.sel []
  simp only [ss, Nat.reduceBEq] at hF
  refine t1.norm ?_
  exact hend hF.defers hR
/-- A panic that is caught: what the closure does. -/
theorem caught_panics (n c : Nat) (cap : Array Value) (w0 : World) (R : World → Prop) (hok : FnOk Tryz.prog c) (hc : ∀ w', Ext w0 w' → Rets Tryz.prog c (.int .i64 (n : Nat) :: cap.toList) w' fun v w'' => R w'') :
    CallsD Tryz.prog 18 #[.func (.func c) #[] cap] (.panicking (chV (faultV n))) w0 fun e u' w' => e = .returned (.tuple #[]) ∧ u' = .panicking [{ v := faultV n, recovered := true }] ∧ R w' := by
  refine callsD_of_wpS Tryz.func18 rfl fun c₀ cs hu => ?_
  apply wpS_seq
  apply wpS_region
  simp only [chV] at hu
  simp [wpOpsS, go_sem, recoverD, hu, Tryz.ntmps18, Exit.thenS]
  refine wpS_of_wp (caught_rest n c cap _ w0 _ R ?_ hok hc ?_)
  · refine ⟨rfl, rfl, fun {k v} hk => ?_⟩
    simp only [lk] at hk
    cases e0 : (0 : Nat) == k with
    | true =>
      have : 0 = k := by simpa using e0
      subst this
      simp only [beq_self_eq_true, cond_true, Option.some.injEq] at hk
      subst hk; rfl
    | false =>
      cases e5 : (5 : Nat) == k with
      | true =>
        have : 5 = k := by simpa using e5
        subst this
        simp at hk
        subst hk; rfl
      | false => simp [e0, e5] at hk
  · intro a w hd hR
    refine ⟨hd, _, rfl, .tuple #[], ?_, rfl, rfl, hR⟩
    exact results_none Tryz.results18 _ _ _
theorem caught_nil (clo : Value) (a : Act) (w0 : World) (Q : Exit → Act → World → Prop) (hF : Fr 15 [(0, clo), (5, .nilIface)] a) (hend : ∀ {a}, a.defers = [] → Q .normal a w0) : (sndC Tryz.f18.body).wp Tryz.prog Q a w0 := by
  skip
  refine c_block fun Q1 t1 => ?_
  refine c_sr fun ops => ?_
  refine zb hF rfl rfl rfl (b_inn Tryz.underlying20) fun a hF => ?_
  refine c_n ?_
  replace hF := hF.sel [0, 5, 7]
  simp only [ss, Nat.reduceBEq] at hF
  refine c_yes hF rfl (rfl) ?_
  refine c_reg fun ops => ?_
  refine zm 1 hF rfl fun a hF => ?_
  refine wpList_nil ?_
  replace hF := hF.sel []
  simp only [ss, Nat.reduceBEq] at hF
  refine t1.norm ?_
  exact hend hF.defers
theorem caught_idle (clo : Value) (w0 : World) : CallsD Tryz.prog 18 #[clo] .returning w0 fun e u' w' => e = .returned (.tuple #[]) ∧ u' = .returning ∧ w' = w0 := by
  refine callsD_of_wpS Tryz.func18 rfl fun c₀ cs hu => ?_
  apply wpS_seq
  apply wpS_region
  simp [wpOpsS, go_sem, recoverD, hu, Tryz.ntmps18, Exit.thenS]
  refine wpS_of_wp (caught_nil clo _ w0 _ ?_ ?_)
  · refine ⟨rfl, rfl, fun {k v} hk => ?_⟩
    simp only [lk] at hk
    cases e0 : (0 : Nat) == k with
    | true =>
      have : 0 = k := by simpa using e0
      subst this
      simp only [beq_self_eq_true, cond_true, Option.some.injEq] at hk
      subst hk; rfl
    | false =>
      cases e5 : (5 : Nat) == k with
      | true =>
        have : 5 = k := by simpa using e5
        subst this
        simp at hk
        subst hk; rfl
      | false => simp [e0, e5] at hk
  · intro a hd
    refine ⟨hd, _, ?_, .tuple #[], ?_, rfl, rfl, rfl⟩
    · cases c₀; simp only at hu; subst hu; rfl
    · exact results_none Tryz.results18 _ _ _
/-- The deferred call of wire.caught. -/
abbrev dCaught (c : Nat) (cap : Array Value) : Deferred := { target := .fn (.func 18) #[], args := #[.func (.func c) #[] cap] }
theorem caught_enters (x : Value) (w : World) : (invoke (.fn (.func 18) #[]) #[x]).run Tryz.prog w = .ok (.enter 18 #[x]) w := by
  simp [invoke]
theorem leaves_thrown {fn : Func} {tmps : Array Value} {R' : Ending → World → Prop} (n c : Nat) (cap : Array Value) (w0 : World) (R : World → Prop) (hok : FnOk Tryz.prog c) (hc : ∀ w', Ext w0 w' → Rets Tryz.prog c (.int .i64 (n : Nat) :: cap.toList) w' fun v w'' => R w'')
    (hfin : ∀ w', R w' → ∃ v, (results fn tmps).run Tryz.prog w' = .ok v w' ∧ R' (.returned v) w') : Leaves Tryz.prog fn tmps R' [dCaught c cap] (.panicking (chV (faultV n))) w0 := by
  refine leaves_cons (by simp) (caught_enters _ w0) ((caught_panics n c cap w0 R hok hc).mono ?_)
  rintro e u' w' ⟨rfl, rfl, hR⟩
  exact hfin w' hR
theorem leaves_done {fn : Func} {tmps : Array Value} {R' : Ending → World → Prop} (c : Nat) (cap : Array Value) (w0 : World) (hfin : ∃ v, (results fn tmps).run Tryz.prog w0 = .ok v w0 ∧ R' (.returned v) w0) : Leaves Tryz.prog fn tmps R' [dCaught c cap] .returning w0 := by
  refine leaves_cons (by simp) (caught_enters _ w0) ((caught_idle _ w0).mono ?_)
  rintro e u' w' ⟨rfl, rfl, rfl⟩
  exact hfin
end Go.Proofs.YtpoebplhemimmaaGreatDoor
namespace Go.Proofs.YtpoebplhemimmaaGreatDoor
open Go.RowKit
set_option linter.unusedVariables false
set_option linter.unusedSimpArgs false
set_option maxHeartbeats 1000000

/-! ### A message's bytes, part by part -/
def seqW (f g : Nat → Tab → Option (Bs × Tab)) (pos : Nat) (t : Tab) : Option (Bs × Tab) := match f pos t with
  | none => none
  | some a => match g (pos + a.1.length) a.2 with
    | none => none
    | some b => some (a.1 ++ b.1, b.2)
def restN (m : Msg) : Nat → Nat → Tab → Option (Bs × Tab)
  | 0, _, t => some ([], t)
  | k + 1, pos, t => seqW (recsW (secL m (3 - k))) (restN m k) pos t
abbrev preW (pre : Bs) (x : Option (Bs × Tab)) : Option (Bs × Tab) := x.map fun r => (pre ++ r.1, r.2)
theorem seqW_assoc {f g h : Nat → Tab → Option (Bs × Tab)} (pos : Nat) (t : Tab) : seqW (seqW f g) h pos t = seqW f (seqW g h) pos t := by
  unfold seqW
  cases f pos t with
  | none => rfl
  | some a =>
    simp only
    cases g (pos + a.1.length) a.2 with
    | none => rfl
    | some b =>
      simp only [List.length_append, Nat.add_assoc]
      cases h (pos + (a.1.length + b.1.length)) b.2 with
      | none => rfl
      | some c => simp
theorem bodyW_eq (m : Msg) : bodyW m = seqW (quesW m.qs) (restN m 3) 12 [] := by
  unfold bodyW seqW restN seqW restN seqW restN seqW restN
  simp only [secL]
  cases quesW m.qs 12 [] with
  | none => rfl
  | some a =>
    simp only
    cases recsW m.ans (12 + a.1.length) a.2 with
    | none => rfl
    | some b =>
      simp only
      cases recsW m.auth (12 + a.1.length + b.1.length) b.2 with
      | none => rfl
      | some c =>
        simp only
        cases recsW m.extra (12 + a.1.length + b.1.length + c.1.length) c.2 with
        | none => rfl
        | some d => simp
theorem quesW_cons (q : Que) (l : List Que) (pos : Nat) (t : Tab) : quesW (q :: l) pos t = if 65535 < pos + (queW q pos t).1.length then none else preW (queW q pos t).1 (quesW l (pos + (queW q pos t).1.length) (queW q pos t).2) := by
  rw [quesW]
  split
  · rfl
  · cases quesW l (pos + (queW q pos t).1.length) (queW q pos t).2 <;> rfl
theorem recsW_cons (r : Rec) (l : List Rec) (pos : Nat) (t : Tab) : recsW (r :: l) pos t = if 65535 < pos + (recW r pos t).1.length then none else preW (recW r pos t).1 (recsW l (pos + (recW r pos t).1.length) (recW r pos t).2) := by
  rw [recsW]
  split
  · rfl
  · cases recsW l (pos + (recW r pos t).1.length) (recW r pos t).2 <;> rfl
/-- A part that is written, and what comes behind it. -/
theorem seqW_pre {f g : Nat → Tab → Option (Bs × Tab)} {x : Bs} {pos : Nat} {t t' : Tab} {f' : Nat → Tab → Option (Bs × Tab)} (h : f pos t = preW x (f' (pos + x.length) t')) : seqW f g pos t = preW x (seqW f' g (pos + x.length) t') := by
  unfold seqW
  rw [h]
  cases f' (pos + x.length) t' with
  | none => rfl
  | some a =>
    simp only [preW, Option.map_some, List.length_append, Nat.add_assoc]
    cases g (pos + (x.length + a.1.length)) a.2 with
    | none => rfl
    | some b => simp
theorem seqW_none {f g : Nat → Tab → Option (Bs × Tab)} {pos : Nat} {t : Tab} (h : f pos t = none) : seqW f g pos t = none := by unfold seqW; rw [h]
theorem seqW_nil {g : Nat → Tab → Option (Bs × Tab)} {f : Nat → Tab → Option (Bs × Tab)} {pos : Nat} {t : Tab} (h : f pos t = some ([], t)) : seqW f g pos t = g pos t := by
  unfold seqW; rw [h]; simp only [List.length_nil, Nat.add_zero, List.nil_append]
  cases g pos t <;> rfl
theorem preW_preW (x y : Bs) (o : Option (Bs × Tab)) : preW x (preW y o) = preW (x ++ y) o := by cases o <;> simp [preW]
def cnt (m : Msg) : List Nat := [m.qs.length, m.ans.length, m.auth.length, m.extra.length + if m.has = true then 1 else 0]
def hdB (m : Msg) : Bs := headW m.hd m.qs.length m.ans.length m.auth.length (m.extra.length + if m.has = true then 1 else 0)
theorem hdB_eq (m : Msg) : be2 m.hd.id ++ be2 (flagsN m.hd) ++ (cnt m).flatMap be2 = hdB m := by simp [hdB, headW, cnt]
theorem hdB_len (m : Msg) : (hdB m).length = 12 := rfl
theorem encB_eq (m : Msg) : encB m = match bodyW m with
    | none => none
    | some b => match lastW m with
      | none => none
      | some o => if 65535 < 12 + b.1.length + o.length then none else some (hdB m ++ (b.1 ++ o)) := rfl
theorem encN_none {m : Msg} (h : mayM m = true) (hb : encB m = none) : encN m = (5, []) := by unfold encN; rw [if_pos h, hb]
theorem encN_some {m : Msg} {b : Bs} (h : mayM m = true) (hb : encB m = some b) : encN m = (0, b) := by unfold encN; rw [if_pos h, hb]
theorem encB_body {m : Msg} (h : bodyW m = none) : encB m = none := by rw [encB_eq, h]

/-! ### The closure that is told what was thrown -/
theorem eclo_spec {w0 w1 : World} {H : List (Nat × Obj)} {gs ge : Nat} {sv ev : Value} (n : Nat) (hH0 : Hp w0 w1 ([(ge, .cells #[ev] 23 (0, 0))] ++ ([(gs, .cells #[sv] 9 (0, 0))] ++ H))) :
    Rets Tryz.prog 37 [.int .i64 (n : Nat), ptr gs, ptr ge] w1 fun v w' => Hp w0 w' ([(ge, .cells #[.int .i64 (n : Nat)] 23 (0, 0))] ++ ([(gs, .cells #[.string (mk [])] 9 (0, 0))] ++ H)) := by
  have hH := hH0
  refine rets_start Tryz.func37 rfl Tryz.ntmps37 rfl fun a Q0 hF hret hend => ?_
  simp only [argsFrom, Nat.zero_add, Nat.reduceAdd] at hF
  refine c_reg fun ops => ?_
  refine zm 1 hF rfl fun a hF => ?_
  refine ls_store 1 hF hH rfl rfl rfl rfl rfl fl9 ti9 rfl (by simp) (by simp [noFreeze]) (rfl) ?_
  intro w hH
  refine ls_store 0 hF hH rfl rfl rfl rfl rfl fl23 ti23 rfl (by simp) (by simp [noFreeze]) (rfl) ?_
  intro w hH
  refine wpList_nil ?_
  replace hF := hF.sel []
  simp only [ss, Nat.reduceBEq] at hF
  refine hend (fall0 (fn := Tryz.f37) hF Tryz.results37 ?_)
  exact hH
theorem enc_thrown {m : Msg} {w0 w : World} {H : List (Nat × Obj)} {gs ge : Nat} {sv ev : Value} {L : List (Nat × Value)} {a : Act} (hF : FrD [dCaught 37 #[ptr gs, ptr ge]] 100 L a) (h2 : lk L 2 = some (ptr gs)) (h3 : lk L 3 = some (ptr ge))
    (hH : Hp w0 w ([(ge, .cells #[ev] 23 (0, 0))] ++ ([(gs, .cells #[sv] 9 (0, 0))] ++ H))) (he : encN m = (5, [])) {n : Nat} (hn : n = 5) :
    Leaves Tryz.prog Tryz.f14 a.tmps (fun e w' => ∃ v, e = .returned v ∧ (v = .tuple #[.string (mk (encN m).2), .int .i64 ((encN m).1 : Nat)] ∧ Ext w0 w')) a.defers (.panicking (chV (faultV n))) w := by
  subst hn
  rw [hF.defers]
  refine leaves_thrown 5 _ _ w (fun w' => Hp w0 w' ([(ge, .cells #[.int .i64 (5 : Nat)] 23 (0, 0))] ++ ([(gs, .cells #[.string (mk [])] 9 (0, 0))] ++ H))) fn37 (fun w' hE => eclo_spec 5 (hH.ext hE)) fun w' hR => ?_
  exact ⟨_, results_cc Tryz.results14 (hF.lk h2) (hF.lk h3) (run_loadVar_flat fl9 (own_cell (i := 1) (v := .string (mk [])) hR rfl rfl)) (run_loadVar_flat fl23 (own_cell (i := 0) (v := .int .i64 (5 : Nat)) hR rfl rfl)), _, rfl, by rw [he], hR.below⟩
theorem enc_done {m : Msg} {w0 w : World} {H : List (Nat × Obj)} {gs ge : Nat} {b : Bs} {e : Nat} {L : List (Nat × Value)} {a : Act} (hF : FrD [dCaught 37 #[ptr gs, ptr ge]] 100 L a) (h2 : lk L 2 = some (ptr gs)) (h3 : lk L 3 = some (ptr ge))
    (hH : Hp w0 w ([(ge, .cells #[.int .i64 (e : Nat)] 23 (0, 0))] ++ ([(gs, .cells #[.string (mk b)] 9 (0, 0))] ++ H))) (he : encN m = (e, b)) :
    Leaves Tryz.prog Tryz.f14 a.tmps (fun e w' => ∃ v, e = .returned v ∧ (v = .tuple #[.string (mk (encN m).2), .int .i64 ((encN m).1 : Nat)] ∧ Ext w0 w')) a.defers .returning w := by
  rw [hF.defers]
  refine leaves_done _ _ w ?_
  exact ⟨_, results_cc Tryz.results14 (hF.lk h2) (hF.lk h3) (run_loadVar_flat fl9 (own_cell (i := 1) (v := .string (mk b)) hH rfl rfl)) (run_loadVar_flat fl23 (own_cell (i := 0) (v := .int .i64 (e : Nat)) hH rfl rfl)), _, rfl, by rw [he], hH.below⟩
theorem enc_early {m : Msg} {w0 w : World} {H : List (Nat × Obj)} {gs ge : Nat} {b : Bs} {e : Nat} {L : List (Nat × Value)} {a : Act} (hF : Fr 100 L a) (h2 : lk L 2 = some (ptr gs)) (h3 : lk L 3 = some (ptr ge))
    (hH : Hp w0 w ([(ge, .cells #[.int .i64 (e : Nat)] 23 (0, 0))] ++ ([(gs, .cells #[.string (mk b)] 9 (0, 0))] ++ H))) (he : encN m = (e, b)) :
    Leaves Tryz.prog Tryz.f14 a.tmps (fun e w' => ∃ v, e = .returned v ∧ (v = .tuple #[.string (mk (encN m).2), .int .i64 ((encN m).1 : Nat)] ∧ Ext w0 w')) a.defers .returning w := by
  rw [hF.defers]
  exact ⟨_, results_cc Tryz.results14 (hF.lk h2) (hF.lk h3) (run_loadVar_flat fl9 (own_cell (i := 1) (v := .string (mk b)) hH rfl rfl)) (run_loadVar_flat fl23 (own_cell (i := 0) (v := .int .i64 (e : Nat)) hH rfl rfl)), _, rfl, by rw [he], hH.below⟩
theorem gots_spec (v : Value) (e : Nat) (w0 : World) : RetsT Tryz.prog 38 [v, .int .i64 e] w0 (fun u w' => u = v ∧ e = 0 ∧ Ext w0 w') fun n w' => n = e ∧ e ≠ 0 ∧ Ext w0 w' := by
  have hH := Hp.refl w0
  refine rets_startT Tryz.func38 rfl Tryz.ntmps38 rfl fun a Q0 hF hret hend hpan => ?_
  simp only [argsFrom, Nat.zero_add, Nat.reduceAdd] at hF
  refine c_sr fun ops => ?_
  refine zm 1 hF rfl fun a hF => ?_
  refine c_n ?_
  replace hF := hF.sel [0, 1]
  simp only [ss, Nat.reduceBEq] at hF
  refine c_sr fun ops => ?_
  refine zm 1 hF rfl fun a hF => ?_
  refine ls_callT hF rfl rfl rfl rfl rfl fn21 (must_spec e _) (fun n w hE => hpan hF (⟨hE.1, hE.2.1, hH.below.trans hE.2.2⟩)) ?_
  rintro _ w ⟨rfl, he, hE⟩ a hF
  replace hH := hH.ext hE
  refine c_n ?_
  replace hF := hF.sel [0]
  simp only [ss, Nat.reduceBEq] at hF
  refine c_sr fun ops => ?_
  refine zm 2 hF rfl fun a hF => ?_
  refine c_n ?_
  replace hF := hF.sel [4]
  simp only [ss, Nat.reduceBEq] at hF
  refine wp_ret (hret (ret1 hF Tryz.results38 rfl ?_))
  exact ⟨rfl, he, hH.below⟩
end Go.Proofs.YtpoebplhemimmaaGreatDoor
namespace Go.Proofs.YtpoebplhemimmaaGreatDoor
open Go.RowKit
set_option linter.unusedVariables false
set_option linter.unusedSimpArgs false
set_option maxHeartbeats 2000000

/-- The blocks that Encode keeps: its results, and the message. -/
abbrev encR (ge gs gm : Nat) (mv : Array Value) : List (Nat × Obj) := [(ge, .cells #[.int .i64 (0 : Nat)] 23 (0, 0))] ++ ([(gs, .cells #[.string (mk [])] 9 (0, 0))] ++ [(gm, .cells mv 37 (0, 0))])
theorem encR_msg {w0 w : World} {A : List (Nat × Obj)} {ge gs gm j : Nat} {mv : Array Value} {v : Value} (hH : Hp w0 w (A ++ encR ge gs gm mv)) (hc : mv[j]? = some v) : w.cell? ⟨gm, j, none⟩ = some v :=
  mem_cell hH (List.mem_append_right _ (List.mem_append_right _ (List.mem_append_right _ (List.mem_singleton.2 rfl)))) hc
theorem encR_sub {w0 w : World} {A : List (Nat × Obj)} {ge gs gm off : Nat} {mv : Array Value} {cs : List Value} (hH : Hp w0 w (A ++ encR ge gs gm mv)) (hs : ∀ j u, cs[j]? = some u → mv[off + j]? = some u) : ∀ j u, cs[j]? = some u → w.cell? ⟨gm, off + j, none⟩ = some u :=
  mem_sub hH (List.mem_append_right _ (List.mem_append_right _ (List.mem_append_right _ (List.mem_singleton.2 rfl)))) hs
theorem msgV_head (m : Msg) (qv av uv xv ov : Value) : ∀ j u, (hdV m.hd)[j]? = some u → (msgV m qv av uv xv ov).toArray[0 + j]? = some u := fun j u hu => by
  rw [Nat.zero_add, List.getElem?_toArray, msgV, List.getElem?_append_left (List.getElem?_eq_some_iff.1 hu).1]; exact hu
theorem msgV_edns (m : Msg) (qv av uv xv ov : Value) : ∀ j u, (edV m.ed ov)[j]? = some u → (msgV m qv av uv xv ov).toArray[16 + j]? = some u := fun j u hu => by
  rw [List.getElem?_toArray, msgV, List.getElem?_append_right (by show 11 ≤ 16 + j; omega), List.getElem?_append_right (by show 5 ≤ 16 + j - 11; omega)]
  rw [show 16 + j - (hdV m.hd).length - [qv, av, uv, xv, Value.bool m.has].length = j by show 16 + j - 11 - 5 = j; omega]; exact hu
def secRem (i : Nat) : Nat := min 3 (4 - i)
theorem encode_spec (m : Msg) (qv av uv xv ov : Value) (w0 : World) (hG : GX w0) (hR : MsgR w0 m qv av uv xv ov) (hL : MsgL m) (hB : MsgB m) :
    Rets Tryz.prog 14 [.agg (msgV m qv av uv xv ov).toArray] w0 fun v w' => v = .tuple #[.string (mk (encN m).2), .int .i64 ((encN m).1 : Nat)] ∧ Ext w0 w' := by
  have hH := Hp.refl w0
  obtain ⟨qad, qcp, hqv⟩ := hR.qs.shape
  obtain ⟨aad, acp, hav⟩ := hR.ans.shape
  obtain ⟨uad, ucp, huv⟩ := hR.auth.shape
  obtain ⟨xad, xcp, hxv⟩ := hR.extra.shape
  obtain ⟨oad, ocp, hov⟩ := hR.opts.shape
  subst hqv hav huv hxv hov
  obtain ⟨mv, hmv⟩ : ∃ mv, mv = (msgV m (.slice qad m.qs.length qcp) (.slice aad m.ans.length acp) (.slice uad m.auth.length ucp) (.slice xad m.extra.length xcp) (.slice oad m.ed.opts.length ocp)).toArray := ⟨_, rfl⟩
  have hq := hB.qs.1; have ha := hB.ans.1; have hu := hB.auth.1; have hx := hB.extra.1
  rw [← hmv]
  refine rets_startD Tryz.func14 rfl Tryz.ntmps14 rfl fun a Q0 hF hret hend hpan => ?_
  simp only [argsFrom, Nat.zero_add, Nat.reduceAdd] at hF
  refine c_sr fun ops => ?_
  refine ls_box hF hH rfl rfl rfl rfl rfl ?_
  intro a w g0_0 hH hE hF
  refine ls_alloc hF hH rfl rfl rfl rfl zv9 ?_
  intro a w g0_1 hH hE hF
  refine ls_alloc hF hH rfl rfl rfl rfl zv23 ?_
  intro a w g0_2 hH hE hF
  refine c_n ?_
  replace hF := hF.sel [1, 2, 3]
  simp only [ss, Nat.reduceBEq] at hF
  replace hH : Hp w0 w ([] ++ encR g0_2 g0_1 g0_0 mv) := hH
  refine c_seq fun Q1 k1 t1 => ?_
  refine c_sr fun ops => ?_
  refine zl hF rfl (r_loadagg (cs := mv.toList) hF rfl rfl Tryz.underlying37 ti37 (by rw [hmv]; rfl) (encR_sub (off := 0) hH fun j u hu => by rw [Nat.zero_add]; simpa using hu)) fun a hF => ?_
  rw [Array.toArray_toList] at hF
  refine zc hF rfl rfl fn15 (by rw [hmv]; exact may_mspec m _ _ _ _ _ _ (hG.ext hH.below) (hR.ext hH.below) hL hB) ?_
  rintro _ w ⟨rfl, hE⟩ a hF
  replace hH := hH.ext hE
  refine zl hF rfl (r_not hF rfl rfl) fun a hF => ?_
  refine c_n ?_
  replace hF := hF.sel [1, 2, 3, 14]
  simp only [ss, Nat.reduceBEq] at hF
  refine c_if hF rfl (fun h14 => ?_) (fun h14 => ?_)
  ·
   try simp only [qq] at h14
   refine c_sr fun ops => ?_
   refine ls_store 1 hF hH rfl rfl rfl rfl rfl fl9 ti9 rfl (by simp) (by simp [noFreeze]) (rfl) ?_
   intro w hH
   refine ls_store 0 hF hH rfl rfl rfl rfl rfl fl23 ti23 rfl (by simp) (by simp [noFreeze]) (rfl) ?_
   intro w hH
   refine c_n ?_
   replace hF := hF.sel [2, 3]
   simp only [ss, Nat.reduceBEq] at hF
   refine wp_ret (t1.ret (hret ?_))
   exact enc_early (b := []) (e := 3) hF rfl rfl hH (show encN m = (3, []) by unfold encN; rw [h14]; rfl)
  try simp only [qq] at h14
  have hM : mayM m = true := h14
  have hM2 := hM
  unfold mayM at hM2
  simp only [Bool.and_eq_true, decide_eq_true_eq] at hM2
  obtain ⟨⟨⟨⟨⟨⟨⟨⟨hop, hco⟩, _⟩, hqn⟩, hqm⟩, ham⟩, hum⟩, hxm⟩, hxl⟩ := hM2
  have hcnt : ∀ n ∈ cnt m, n ≤ 65535 := by
    unfold recsMay at ham hum hxm
    simp only [Bool.and_eq_true, decide_eq_true_eq] at ham hum hxm
    intro n hn
    simp only [cnt, List.mem_cons, List.not_mem_nil, or_false] at hn
    rcases hn with rfl | rfl | rfl | rfl
    · exact hqn
    · exact ham.1
    · exact hum.1
    · cases hh : m.has with
      | false => simp; exact hxm.1
      | true => rw [hh] at hxl; simp at hxl ⊢; omega
  refine wp_skip ?_
  refine k1 ?_
  refine c_sr fun ops => ?_
  refine zl hF rfl (r_makefunc hF rfl rfl) fun a hF => ?_
  refine ls_defer hF rfl rfl rfl rfl fun a hF => ?_
  refine c_n ?_
  replace hF := hF.sel [1, 2, 3]
  simp only [ss, Nat.reduceBEq] at hF
  refine c_sr fun ops => ?_
  refine zl hF rfl (r_fieldaddr0 hF rfl rfl fd37_1) fun a hF => ?_
  refine zl hF rfl (r_load hF rfl rfl fl31 (encR_msg (v := .slice qad m.qs.length qcp) hH (by rw [hmv]; rfl))) fun a hF => ?_
  refine zl hF rfl (r_len_sl hF rfl rfl Tryz.underlying31) fun a hF => ?_
  refine zl hF rfl (r_fieldaddr0 hF rfl rfl fd37_2) fun a hF => ?_
  refine zl hF rfl (r_load hF rfl rfl fl32 (encR_msg (v := .slice aad m.ans.length acp) hH (by rw [hmv]; rfl))) fun a hF => ?_
  refine zl hF rfl (r_len_sl hF rfl rfl Tryz.underlying32) fun a hF => ?_
  refine zl hF rfl (r_fieldaddr0 hF rfl rfl fd37_3) fun a hF => ?_
  refine zl hF rfl (r_load hF rfl rfl fl32 (encR_msg (v := .slice uad m.auth.length ucp) hH (by rw [hmv]; rfl))) fun a hF => ?_
  refine zl hF rfl (r_len_sl hF rfl rfl Tryz.underlying32) fun a hF => ?_
  refine zl hF rfl (r_fieldaddr0 hF rfl rfl fd37_4) fun a hF => ?_
  refine zl hF rfl (r_load hF rfl rfl fl32 (encR_msg (v := .slice xad m.extra.length xcp) hH (by rw [hmv]; rfl))) fun a hF => ?_
  refine zl hF rfl (r_len_sl hF rfl rfl Tryz.underlying32) fun a hF => ?_
  refine zl hF rfl (r_build hF rfl rfl (bd60_0_1_2_3 _ _ _ _ _ (rfl) (rfl) (rfl) (rfl))) fun a hF => ?_
  refine ls_alloc hF hH rfl rfl rfl rfl zv60 ?_
  intro a w g4_13 hH hE hF
  refine ls_storeagg 0 hF hH rfl rfl rfl rfl rfl ti60 rfl (rfl) (rfl) (by simp [Value.oneCell']) ?_
  intro w hH
  refine c_n ?_
  replace hF := hF.sel [1, 2, 3, 4]
  simp only [ss, Nat.reduceBEq] at hF
  replace hH : Hp w0 w ([(g4_13, .cells #[.int .i64 (m.qs.length : Nat), .int .i64 (m.ans.length : Nat), .int .i64 (m.auth.length : Nat), .int .i64 (m.extra.length : Nat)] 60 (0, 0))] ++ encR g0_2 g0_1 g0_0 mv) := hH
  refine c_cut (fun a w => FrD [dCaught 37 #[ptr g0_1, ptr g0_2]] 100 [(1, ptr g0_0), (2, ptr g0_1), (3, ptr g0_2), (4, ptr g4_13)] a ∧ Hp w0 w ([(g4_13, .cells ((cnt m).map fun n => Value.int .i64 (n : Nat)).toArray 60 (0, 0))] ++ encR g0_2 g0_1 g0_0 mv)) (fun Q2 k2 t2 => ?_) ?_
  ·
   refine c_sr fun ops => ?_
   refine zl hF rfl (r_fieldaddr0 hF rfl rfl fd37_5) fun a hF => ?_
   refine zl hF rfl (r_load hF rfl rfl fl4 (encR_msg (v := .bool m.has) hH (by rw [hmv]; rfl))) fun a hF => ?_
   refine c_n ?_
   refine c_fi hF rfl (fun h30 => ?_) (fun h30 => ?_)
   ·
    try simp only [qq] at h30
    refine wp_skip ?_
    refine k2 ?_
    refine ⟨hF.keep [1, 2, 3, 4] rfl, ?_⟩
    have hce : ((cnt m).map fun n => Value.int .i64 (n : Nat)).toArray = #[.int .i64 (m.qs.length : Nat), .int .i64 (m.ans.length : Nat), .int .i64 (m.auth.length : Nat), .int .i64 ((m.extra.length + if m.has = true then 1 else 0 : Nat) : Int)] := rfl
    rw [hce, h30]
    exact hH
   try simp only [qq] at h30
   refine c_reg fun ops => ?_
   refine zl hF rfl (r_ixarr hF 3 rfl rfl rfl Tryz.underlying60 ti3 (by omega)) fun a hF => ?_
   refine zl hF rfl (r_load hF rfl rfl fl3 (own_cell (i := 0) (v := .int .i64 (m.extra.length : Nat)) hH rfl rfl)) fun a hF => ?_
   refine zb hF rfl rfl rfl (b_addn _ _ 1 (by omega)) fun a hF => ?_
   refine zl hF rfl (r_ixarr hF 3 rfl rfl rfl Tryz.underlying60 ti3 (by omega)) fun a hF => ?_
   refine ls_store 0 hF hH rfl rfl rfl rfl rfl fl3 ti3 rfl (by simp) (by simp [noFreeze]) (rfl) ?_
   intro w hH
   refine wpList_nil ?_
   refine k2 ?_
   refine ⟨hF.keep [1, 2, 3, 4] rfl, ?_⟩
   have hce : ((cnt m).map fun n => Value.int .i64 (n : Nat)).toArray = #[.int .i64 (m.qs.length : Nat), .int .i64 (m.ans.length : Nat), .int .i64 (m.auth.length : Nat), .int .i64 ((m.extra.length + if m.has = true then 1 else 0 : Nat) : Int)] := rfl
   rw [hce, h30]
   exact hH
  rintro a w ⟨hF, hH⟩
  refine c_sr fun ops => ?_
  refine zl hF rfl (r_fieldaddr0 hF rfl rfl fd37_0) fun a hF => ?_
  refine zl hF rfl (r_loadagg hF rfl rfl Tryz.underlying30 ti30 rfl (encR_sub (off := 0) (cs := hdV m.hd) hH (by rw [hmv]; exact msgV_head m _ _ _ _ _))) fun a hF => ?_
  refine zl hF rfl (r_loadT hF rfl rfl (by kernel_rfl) ti60 rfl (own_agg (i := 0) (cs := ((cnt m).map fun n => Value.int .i64 (n : Nat)).toArray) hH rfl)) fun a hF => ?_
  refine zc hF rfl rfl fn39 (hwrite_spec m.hd hL.hd hop hco (cnt m) rfl hcnt _ (hG.ext hH.below)) ?_
  rintro _ w ⟨rfl, hE⟩ a hF
  rw [hdB_eq] at hF; replace hH := hH.ext hE
  refine zm 2 hF rfl fun a hF => ?_
  refine zc hF rfl rfl fn38 ((gots_spec _ 0 _).rets (fun n w h => h.2.1 rfl)) ?_
  rintro _ w ⟨rfl, _, hE⟩ a hF
  replace hH := hH.ext hE
  refine ls_convbytes hF hH rfl rfl rfl rfl rfl Tryz.underlying9 Tryz.underlying26 Tryz.underlying5 (by rw [hdB_len]; unfold maxLen; omega) ?_
  intro a w g7_7 cap7_7 cur7_7 hH hE hcap7_7 hmx7_7 hsz7_7 htk7_7 hF
  refine zc hF rfl rfl fn40 (tnew_spec _) ?_
  rintro _ w ⟨gt, rfl, hT⟩ a hF
  replace hH := hH.join hT
  refine zl hF rfl (r_build hF rfl rfl (bd94_0_1 _ _ _ (rfl) (rfl))) fun a hF => ?_
  refine ls_box hF hH rfl rfl rfl rfl rfl ?_
  intro a w g7_10 hH hE hF
  refine zm 1 hF rfl fun a hF => ?_
  refine c_n ?_
  replace hF := hF.sel [1, 2, 3, 5]
  simp only [ss, Nat.reduceBEq] at hF
  have hW : WrB g7_10 gt (hdB m) [] ([(g7_10, wrO (.slice (some ⟨g7_7, 0, none⟩) (hdB m).length cap7_7) gt)] ++ ([(g7_7, .cells cur7_7 5 (cap7_7, cap7_7 + 1))] ++ [(gt, .cells #[.map none] 129 (0, 0))])) :=
    ⟨_, _, _, rfl, .inr ⟨_, _, _, rfl, rfl, hcap7_7, hmx7_7, hsz7_7, htk7_7, by rw [bytV_length]⟩, .inl ⟨rfl, rfl⟩, fun n q h => by cases h⟩
  rw [← hsz7_7] at hW
  obtain ⟨HW, hHW⟩ : ∃ HW, HW = [(g7_10, wrO (.slice (some ⟨g7_7, 0, none⟩) (hdB m).length cur7_7.size) gt)] ++ ([(g7_7, .cells cur7_7 5 (cur7_7.size, cur7_7.size + 1))] ++ [(gt, .cells #[.map none] 129 (0, 0))]) := ⟨_, rfl⟩
  rw [← hHW] at hW
  replace hH : Hp w0 w (HW ++ encR g0_2 g0_1 g0_0 mv) := by
    rw [hHW, hsz7_7]
    exact (show Hp w0 w ([(g7_10, wrO (.slice (some ⟨g7_7, 0, none⟩) (hdB m).length cap7_7) gt)] ++ ([(gt, .cells #[.map none] 129 (0, 0))] ++ ([(g7_7, .cells cur7_7 5 (cap7_7, cap7_7 + 1))] ++ ([(g4_13, .cells ((cnt m).map fun n => Value.int .i64 (n : Nat)).toArray 60 (0, 0))] ++ encR g0_2 g0_1 g0_0 mv)))) from by rw [← hsz7_7]; rw [← hsz7_7] at hH; exact hH).pick (R := [(g4_13, .cells ((cnt m).map fun n => Value.int .i64 (n : Nat)).toArray 60 (0, 0))]) (fun z => by simp only [List.count_append]; omega)
  clear hHW
  refine c_seq fun Q3 k3 t3 => ?_
  refine c_sr fun ops => ?_
  refine zl hF rfl (r_fieldaddr0 hF rfl rfl fd37_1) fun a hF => ?_
  refine zl hF rfl (r_load hF rfl rfl fl31 (encR_msg (v := .slice qad m.qs.length qcp) hH (by rw [hmv]; rfl))) fun a hF => ?_
  refine zl hF rfl (r_len_sl hF rfl rfl Tryz.underlying31) fun a hF => ?_
  refine zm 1 hF rfl fun a hF => ?_
  refine c_n ?_
  replace hF := hF.sel [1, 2, 3, 5, 47, 48, 49]
  simp only [ss, Nat.reduceBEq] at hF
  refine c_block fun Q4 t4 => ?_
  refine c_loop (fun n a w => ∃ i pre tb HW, n = m.qs.length - i ∧ i ≤ m.qs.length ∧ (hdB m ++ pre).length ≤ 65535 ∧ quesW m.qs 12 [] = preW pre (quesW (m.qs.drop i) (12 + pre.length) tb) ∧ FrD [dCaught 37 #[ptr g0_1, ptr g0_2]] 100 [(1, ptr g0_0), (2, ptr g0_1), (3, ptr g0_2), (5, ptr g7_10), (47, .slice qad m.qs.length qcp), (48, .int .i64 (m.qs.length : Nat)), (49, .int .i64 (i : Nat))] a ∧ Hp w0 w (HW ++ encR g0_2 g0_1 g0_0 mv) ∧ WrB g7_10 gt (hdB m ++ pre) tb HW) ?_ ?_
  ·
   exact ⟨_, 0, [], [], HW, rfl, Nat.zero_le _, by rw [List.append_nil, hdB_len]; omega, by simp [preW], hF.keep [1, 2, 3, 5, 47, 48, 49] rfl, hH, by rw [List.append_nil]; exact hW⟩
  clear hH hF hW
  intro n a w hI Q5 k5 t5
  obtain ⟨i, pre, tb, HW, hm, hi, hlen, he, hF, hH, hW⟩ := hI
  refine c_sr fun ops => ?_
  refine zb hF rfl rfl rfl (b_ltn _ _ _ _) fun a hF => ?_
  refine c_n ?_
  refine c_seq fun Q6 k6 t6 => ?_
  refine c_if hF rfl (fun h50 => ?_) (fun h50 => ?_)
  ·
   try simp only [qq] at h50
   obtain ⟨qb, qo, eq1, hqc⟩ := (hR.qs.ext hH.below).elem (f := quV) (fun _ => rfl) h50
   obtain ⟨q, hqi⟩ : ∃ q, m.qs[i] = q := ⟨_, rfl⟩
   have hqmem : q ∈ m.qs := by rw [← hqi]; exact List.getElem_mem h50
   have hqn1 := List.all_eq_true.1 hqm q hqmem
   have hqL := hL.qs q hqmem
   have hqk := hqL.kind
   have hqcl := hqL.cls
   have hqnl := nmW_len (cmp := true) (kn := true) hqn1 (hdB m ++ pre).length tb
   have hqml := may_len hqn1
   rw [hqi] at hqc
   rw [eq1] at hF
   rw [List.drop_eq_getElem_cons h50, hqi, quesW_cons] at he
   have hpl : (hdB m ++ pre).length = 12 + pre.length := by rw [List.length_append, hdB_len]
   refine wp_skip ?_
   refine k6 ?_
   refine c_seq fun Q7 k7 t7 => ?_
   refine c_block fun Q8 t8 => ?_
   refine c_sr fun ops => ?_
   refine zl hF rfl (r_indexaddr hF _ rfl rfl rfl Tryz.underlying31 ti53 (by omega)) fun a hF => ?_
   refine zl hF rfl (r_loadagg hF rfl rfl Tryz.underlying53 ti53 rfl (hqc)) fun a hF => ?_
   refine ls_alloc hF hH rfl rfl rfl rfl zv53 ?_
   intro a w g10_2 hH hE hF
   refine ls_storeagg 0 hF hH rfl rfl rfl rfl rfl ti53 rfl (rfl) (rfl) (by simp [quV, Value.oneCell']) ?_
   intro w hH
   refine c_n ?_
   replace hH : Hp w0 w (HW ++ ([(g10_2, .cells (quV q).toArray 53 (0, 0))] ++ encR g0_2 g0_1 g0_0 mv)) := (show Hp w0 w ([(g10_2, .cells (quV q).toArray 53 (0, 0))] ++ (HW ++ encR g0_2 g0_1 g0_0 mv)) from hH).flip
   refine c_sr fun ops => ?_
   refine zm 1 hF rfl fun a hF => ?_
   refine zl hF rfl (r_fieldaddr0 hF rfl rfl fd53_0) fun a hF => ?_
   refine zl hF rfl (r_load hF rfl rfl fl9 (own2 (v := .string (mk q.name)) hH rfl)) fun a hF => ?_
   refine zc hF rfl rfl fn41 (wname_spec hW hH hqn1 (by omega)) ?_
   rintro _ w ⟨rfl, HW, hW, hH⟩ a hF
   skip
   refine c_n ?_
   refine c_sr fun ops => ?_
   refine zm 1 hF rfl fun a hF => ?_
   refine zl hF rfl (r_fieldaddr0 hF rfl rfl fd53_1) fun a hF => ?_
   refine zl hF rfl (r_load hF rfl rfl fl28 (own2 (v := .int .u16 q.kind) hH rfl)) fun a hF => ?_
   refine zc hF rfl rfl fn42 (wtwo_spec q.kind hqk hW hH (by rw [List.length_append]; omega)) ?_
   rintro _ w ⟨rfl, HW, hW, hH⟩ a hF
   skip
   refine c_n ?_
   refine c_sr fun ops => ?_
   refine zm 1 hF rfl fun a hF => ?_
   refine zl hF rfl (r_fieldaddr0 hF rfl rfl fd53_2) fun a hF => ?_
   refine zl hF rfl (r_load hF rfl rfl fl28 (own2 (v := .int .u16 q.cls) hH rfl)) fun a hF => ?_
   refine zc hF rfl rfl fn42 (wtwo_spec q.cls hqcl hW hH (by rw [List.length_append, List.length_append, be2_len]; omega)) ?_
   rintro _ w ⟨rfl, HW, hW, hH⟩ a hF
   skip
   refine c_n ?_
   rw [hpl] at hW
   rw [show hdB m ++ pre ++ (nmW true true q.name (12 + pre.length) tb).1 ++ be2 q.kind ++ be2 q.cls = hdB m ++ (pre ++ (queW q (12 + pre.length) tb).1) by simp [queW]] at hW
   have hWl : (hdB m ++ (pre ++ (queW q (12 + pre.length) tb).1)).length = 12 + pre.length + (queW q (12 + pre.length) tb).1.length := by rw [List.length_append, hdB_len, List.length_append]; omega
   have hnone : 65535 < (hdB m ++ (pre ++ (queW q (12 + pre.length) tb).1)).length → encN m = (5, []) := fun h => by
     rw [hWl] at h
     rw [if_pos h] at he
     exact encN_none hM (encB_body (by rw [bodyW_eq]; exact seqW_none he))
   refine c_reg fun ops => ?_
   refine zm 1 hF rfl fun a hF => ?_
   refine ls_callT hF rfl rfl rfl rfl rfl fn43 (wsize_spec hW hH) (fun n w hE => t8.panic (t7.panic (t5.panic (t4.panic (t3.panic (hpan (enc_thrown hF rfl rfl (show Hp w0 _ (encR g0_2 g0_1 g0_0 mv) from hE.2.2.pick (R := HW ++ [(g10_2, .cells (quV q).toArray 53 (0, 0))]) (fun z => by simp only [List.count_append]; omega)) (hnone hE.2.1) hE.1))))))) ?_
   rintro _ w ⟨rfl, hsz, hH⟩ a hF
   skip
   refine wpList_nil ?_
   refine t8.norm ?_
   refine k7 ?_
   refine c_reg fun ops => ?_
   refine zb hF rfl rfl rfl (b_addn _ _ 1 (by omega)) fun a hF => ?_
   refine zm 1 hF rfl fun a hF => ?_
   refine wpList_nil ?_
   refine k5 ?_
   rw [if_neg (by omega), preW_preW] at he
   rw [← eq1] at hF
   exact ⟨m.qs.length - (i + 1), by omega, i + 1, pre ++ (queW q (12 + pre.length) tb).1, (queW q (12 + pre.length) tb).2, HW, rfl, h50, hsz, by rw [he, List.length_append, Nat.add_assoc], hF.keep [1, 2, 3, 5, 47, 48, 49] rfl, hH.pick (R := [(g10_2, .cells (quV q).toArray 53 (0, 0))]) (fun z => by simp only [List.count_append]; omega), hW⟩
  try simp only [qq] at h50
  rw [List.drop_eq_nil_of_le (by omega)] at he
  have hbody : bodyW m = preW pre (restN m 3 (12 + pre.length) tb) := by
    rw [bodyW_eq, seqW_pre (f' := quesW []) he, seqW_nil rfl]
  refine wp_exit (t6.exit (t5.exit (t4.here (?_))))
  refine k3 ?_
  refine c_seq fun Q9 k9 t9 => ?_
  refine c_sr fun ops => ?_
  refine zc hF rfl rfl fn26 (sections_spec g0_0 _) ?_
  rintro _ w ⟨rfl, hE⟩ a hF
  replace hH := hH.ext hE
  refine zm 1 hF rfl fun a hF => ?_
  refine c_n ?_
  replace hF := hF.sel [1, 2, 3, 5, 68, 69]
  simp only [ss, Nat.reduceBEq] at hF
  refine c_block fun Q10 t10 => ?_
  refine c_loop (fun n a w => ∃ i pre tb HW, n = 4 - i ∧ i ≤ 4 ∧ (hdB m ++ pre).length ≤ 65535 ∧ bodyW m = preW pre (restN m (secRem i) (12 + pre.length) tb) ∧ FrD [dCaught 37 #[ptr g0_1, ptr g0_2]] 100 [(1, ptr g0_0), (2, ptr g0_1), (3, ptr g0_2), (5, ptr g7_10), (68, .agg #[.pointer none, ptrO g0_0 12, ptrO g0_0 13, ptrO g0_0 14]), (69, .int .i64 (i : Nat))] a ∧ Hp w0 w (HW ++ encR g0_2 g0_1 g0_0 mv) ∧ WrB g7_10 gt (hdB m ++ pre) tb HW) ?_ ?_
  ·
   exact ⟨_, 0, pre, tb, HW, rfl, Nat.zero_le _, hlen, hbody, hF.keep [1, 2, 3, 5, 68, 69] rfl, hH, hW⟩
  clear hH hF hW he hbody
  intro n a w hI Q11 k11 t11
  obtain ⟨i, pre, tb, HW, hm, hi, hlen, hbody, hF, hH, hW⟩ := hI
  refine c_sr fun ops => ?_
  refine zb hF rfl rfl rfl (b_ltn _ _ _ 4) fun a hF => ?_
  refine c_n ?_
  refine c_seq fun Q12 k12 t12 => ?_
  refine c_fi hF rfl (fun h70 => ?_) (fun h70 => ?_)
  ·
   try simp only [qq] at h70
   obtain rfl : i = 4 := by omega
   have hb4 : bodyW m = some (pre, tb) := by rw [hbody]; show preW pre (some ([], tb)) = _; simp [preW]
   refine wp_exit (t12.exit (t11.exit (t10.here (?_))))
   refine k9 ?_
   refine c_cut (fun a w => ∃ o HW tb, lastW m = some o ∧ FrD [dCaught 37 #[ptr g0_1, ptr g0_2]] 100 [(1, ptr g0_0), (2, ptr g0_1), (3, ptr g0_2), (5, ptr g7_10)] a ∧ Hp w0 w (HW ++ encR g0_2 g0_1 g0_0 mv) ∧ WrB g7_10 gt (hdB m ++ pre ++ o) tb HW) (fun Q21 k21 t21 => ?_) ?_
   ·
    refine c_sr fun ops => ?_
    refine zl hF rfl (r_fieldaddr0 hF rfl rfl fd37_5) fun a hF => ?_
    refine zl hF rfl (r_load hF rfl rfl fl4 (encR_msg (v := .bool m.has) hH (by rw [hmv]; rfl))) fun a hF => ?_
    refine c_n ?_
    refine c_fi hF rfl (fun h88 => ?_) (fun h88 => ?_)
    ·
     try simp only [qq] at h88
     refine wp_skip ?_
     refine k21 ?_
     first
       | exact ⟨optW m.ed d, HW, tb, by unfold lastW; rw [if_pos h88, hd]; rfl, hF.keep [1, 2, 3, 5] rfl, hH, hW⟩
       | exact ⟨[], HW, tb, by unfold lastW; rw [if_neg (by simp [h88])], hF.keep [1, 2, 3, 5] rfl, hH, by rw [List.append_nil]; exact hW⟩
    try simp only [qq] at h88
    refine c_reg fun ops => ?_
    refine zm 1 hF rfl fun a hF => ?_
    refine zl hF rfl (r_fieldaddr0 hF rfl rfl fd37_6) fun a hF => ?_
    refine zl hF rfl (r_loadagg hF rfl rfl Tryz.underlying35 ti35 rfl (encR_sub (off := 16) (cs := edV m.ed (.slice oad m.ed.opts.length ocp)) hH (by rw [hmv]; exact msgV_edns m _ _ _ _ _))) fun a hF => ?_
    refine ls_callT hF rfl rfl rfl rfl rfl fn45 (wopt_spec m.ed _ (hR.opts.ext hH.below) hL.ed hB.opts.2 (by have := hB.opts.1; omega) hW hH hlen) (fun n w hE => t21.panic (hpan (enc_thrown hF rfl rfl hE.2.2 (encN_none hM (by rw [encB_eq, hb4]; simp only [lastW]; rw [if_pos h88, hE.2.1]; rfl)) hE.1))) ?_
    rintro _ w ⟨rfl, d, hd, HW, hW, hH⟩ a hF
    skip
    refine wpList_nil ?_
    refine k21 ?_
    first
      | exact ⟨optW m.ed d, HW, tb, by unfold lastW; rw [if_pos h88, hd]; rfl, hF.keep [1, 2, 3, 5] rfl, hH, hW⟩
      | exact ⟨[], HW, tb, by unfold lastW; rw [if_neg (by simp [h88])], hF.keep [1, 2, 3, 5] rfl, hH, by rw [List.append_nil]; exact hW⟩
   rintro a w ⟨o, HW, tb, hlast, hF, hH, hW⟩
   have hol : (hdB m ++ pre ++ o).length = 12 + pre.length + o.length := by rw [List.length_append, List.length_append, hdB_len]
   refine c_sr fun ops => ?_
   refine zm 1 hF rfl fun a hF => ?_
   refine ls_callT hF rfl rfl rfl rfl rfl fn43 (wsize_spec hW hH) (fun n w hE => hpan (enc_thrown hF rfl rfl (show Hp w0 _ (encR g0_2 g0_1 g0_0 mv) from hE.2.2.pick (R := HW) (fun z => by simp only [List.count_append]; omega)) (encN_none hM (by rw [encB_eq, hb4]; simp only; rw [hlast]; simp only; rw [if_pos (by have := hE.2.1; omega)])) hE.1)) ?_
   rintro _ w ⟨rfl, hsz, hH⟩ a hF
   skip
   refine c_n ?_
   replace hF := hF.sel [2, 3, 5]
   simp only [ss, Nat.reduceBEq] at hF
   obtain ⟨bv, B, BT, hHW, hS, hT, hTS⟩ := hW
   refine c_sr fun ops => ?_
   refine zm 1 hF rfl fun a hF => ?_
   refine zl hF rfl (r_nilcheck hF rfl rfl) fun a hF => ?_
   refine zl hF rfl (r_fieldaddr0 hF rfl rfl fd94_0) fun a hF => ?_
   refine zl hF rfl (r_load hF rfl rfl fl26 (mem_cell (cur := #[bv, ptr gt]) (e := 94) (fr := (0, 0)) (v := bv) hH (by rw [hHW]; exact List.mem_append_left _ (List.mem_append_left _ (List.mem_singleton.2 rfl))) rfl)) fun a hF => ?_
   refine zl hF rfl (r_convstr hF rfl rfl Tryz.underlying26 Tryz.underlying5 Tryz.underlying9 (hS.rsl hH fun p hp => List.mem_append_left _ (by rw [hHW]; exact List.mem_append_right _ (List.mem_append_left _ hp)))) fun a hF => ?_
   replace hH : Hp w0 w (encR g0_2 g0_1 g0_0 mv) := hH.sub (List.sublist_append_right _ _)
   refine ls_store 1 hF hH rfl rfl rfl rfl rfl fl9 ti9 rfl (by simp) (by simp [noFreeze]) (rfl) ?_
   intro w hH
   refine ls_store 0 hF hH rfl rfl rfl rfl rfl fl23 ti23 rfl (by simp) (by simp [noFreeze]) (rfl) ?_
   intro w hH
   refine c_n ?_
   replace hF := hF.sel [2, 3]
   simp only [ss, Nat.reduceBEq] at hF
   refine wp_ret (hret ?_)
   exact enc_done (e := 0) hF rfl rfl hH (encN_some hM (by rw [encB_eq, hb4]; simp only; rw [hlast]; simp only; rw [if_neg (by omega), List.append_assoc]))
  try simp only [qq] at h70
  refine wp_skip ?_
  refine k12 ?_
  refine c_seq fun Q13 k13 t13 => ?_
  refine c_block fun Q14 t14 => ?_
  refine c_sr fun ops => ?_
  refine zl hF rfl (r_indexarr hF _ rfl rfl rfl Tryz.underlying72 ti71 (by unfold flat; rw [Tryz.underlying71]) (by omega) (secP_at h70)) fun a hF => ?_
  refine zm 1 hF rfl fun a hF => ?_
  refine c_n ?_
  refine c_seq fun Q15 k15 t15 => ?_
  refine c_sr fun ops => ?_
  refine zm 1 hF rfl fun a hF => ?_
  refine zb hF rfl rfl rfl (b_peq Tryz.underlying71) fun a hF => ?_
  refine c_n ?_
  refine c_if hF rfl (fun h73 => ?_) (fun h73 => ?_)
  ·
   try simp only [qq] at h73
   refine wp_exit (t15.exit (t14.here (?_)))
   refine k13 ?_
   refine c_reg fun ops => ?_
   refine zb hF rfl rfl rfl (b_addn _ _ 1 (by omega)) fun a hF => ?_
   refine zm 1 hF rfl fun a hF => ?_
   refine wpList_nil ?_
   refine k11 ?_
   first
     | exact ⟨4 - (i + 1), by omega, i + 1, pre, tb, HW, rfl, by omega, hlen, by rw [hbody]; congr 2; unfold secRem; omega, hF.keep [1, 2, 3, 5, 68, 69] rfl, hH, hW⟩
     | exact ⟨4 - (i + 1), by omega, i + 1, pre, tb, HW, rfl, by omega, hlen, by rw [hbody]; rw [show secRem (i + 1) = secRem i by have : i = 0 := (by cases i with | zero => rfl | succ i => simp at h73); subst this; rfl], hF.keep [1, 2, 3, 5, 68, 69] rfl, hH, hW⟩
  try simp only [qq] at h73
  have hi1 : 1 ≤ i := by
    cases i with
    | zero => simp at h73
    | succ i => omega
  obtain ⟨ad, cp, hcell, hsl, hsn, hsb⟩ := sec_at (hR.ext hH.below) hB hi1 h70
  rw [show secP g0_0 i = ptrO g0_0 (11 + i) by unfold secP; rw [if_neg (by omega)]] at hF
  have hbody2 : bodyW m = preW pre (seqW (recsW ((secL m i).drop 0)) (restN m (3 - i)) (12 + pre.length) tb) := by
    rw [hbody, show secRem i = (3 - i) + 1 by unfold secRem; omega, restN, show 3 - (3 - i) = i by omega, List.drop_zero]
  have hsm : recsMay (secL m i) = true := by
    rcases (show i = 1 ∨ i = 2 ∨ i = 3 by omega) with rfl | rfl | rfl
    · exact ham
    · exact hum
    · exact hxm
  have hsL : ∀ r ∈ secL m i, RecL r := by
    rcases (show i = 1 ∨ i = 2 ∨ i = 3 by omega) with rfl | rfl | rfl
    · exact hL.ans
    · exact hL.auth
    · exact hL.extra
  refine wp_skip ?_
  refine k15 ?_
  refine c_sr fun ops => ?_
  refine zm 1 hF rfl fun a hF => ?_
  refine zl hF rfl (r_nilcheck hF rfl rfl) fun a hF => ?_
  refine zl hF rfl (r_load hF rfl rfl fl32 (encR_msg (v := .slice ad (secL m i).length cp) hH (by rw [hmv]; simpa using hcell))) fun a hF => ?_
  refine zl hF rfl (r_len_sl hF rfl rfl Tryz.underlying32) fun a hF => ?_
  refine zm 1 hF rfl fun a hF => ?_
  refine c_n ?_
  refine c_block fun Q16 t16 => ?_
  refine c_loop (fun n a w => ∃ j pre tb HW, n = (secL m i).length - j ∧ j ≤ (secL m i).length ∧ (hdB m ++ pre).length ≤ 65535 ∧ bodyW m = preW pre (seqW (recsW ((secL m i).drop j)) (restN m (3 - i)) (12 + pre.length) tb) ∧ FrD [dCaught 37 #[ptr g0_1, ptr g0_2]] 100 [(1, ptr g0_0), (2, ptr g0_1), (3, ptr g0_2), (5, ptr g7_10), (68, .agg #[.pointer none, ptrO g0_0 12, ptrO g0_0 13, ptrO g0_0 14]), (69, .int .i64 (i : Nat)), (76, .slice ad (secL m i).length cp), (77, .int .i64 ((secL m i).length : Nat)), (78, .int .i64 (j : Nat))] a ∧ Hp w0 w (HW ++ encR g0_2 g0_1 g0_0 mv) ∧ WrB g7_10 gt (hdB m ++ pre) tb HW) ?_ ?_
  ·
   exact ⟨_, 0, pre, tb, HW, rfl, Nat.zero_le _, hlen, hbody2, hF.keep [1, 2, 3, 5, 68, 69, 76, 77, 78] rfl, hH, hW⟩
  replace hsl := fun w' (h : Ext w w') => hsl.ext h
  obtain ⟨wS, hwS⟩ : ∃ wS, wS = w := ⟨_, rfl⟩
  have hR0 := hR
  clear hH hF hW hbody hbody2
  intro n a w hI Q17 k17 t17
  obtain ⟨j, pre, tb, HW, hmj, hij, hlen, hbody, hF, hH, hW⟩ := hI
  refine c_sr fun ops => ?_
  refine zb hF rfl rfl rfl (b_ltn _ _ _ _) fun a hF => ?_
  refine c_n ?_
  refine c_seq fun Q18 k18 t18 => ?_
  refine c_fi hF rfl (fun h79 => ?_) (fun h79 => ?_)
  ·
   try simp only [qq] at h79
   rw [List.drop_eq_nil_of_le (by omega), seqW_nil rfl] at hbody
   refine wp_exit (t18.exit (t17.exit (t16.here (?_))))
   refine t14.norm ?_
   refine k13 ?_
   refine c_reg fun ops => ?_
   refine zb hF rfl rfl rfl (b_addn _ _ 1 (by omega)) fun a hF => ?_
   refine zm 1 hF rfl fun a hF => ?_
   refine wpList_nil ?_
   refine k11 ?_
   first
     | exact ⟨4 - (i + 1), by omega, i + 1, pre, tb, HW, rfl, by omega, hlen, by rw [hbody]; congr 2; unfold secRem; omega, hF.keep [1, 2, 3, 5, 68, 69] rfl, hH, hW⟩
     | exact ⟨4 - (i + 1), by omega, i + 1, pre, tb, HW, rfl, by omega, hlen, by rw [hbody]; rw [show secRem (i + 1) = secRem i by have : i = 0 := (by cases i with | zero => rfl | succ i => simp at h73); subst this; rfl], hF.keep [1, 2, 3, 5, 68, 69] rfl, hH, hW⟩
  try simp only [qq] at h79
  obtain ⟨ad2, cp2, hcell2, hsl2, _, _⟩ := sec_at (hR.ext hH.below) hB hi1 h70
  obtain ⟨rfl, rfl⟩ : ad2 = ad ∧ cp2 = cp := by rw [hcell] at hcell2; simpa using hcell2.symm
  obtain ⟨rb, ro, er1, hrc⟩ := hsl2.elem (f := recV) (fun _ => rfl) h79
  obtain ⟨r, hri⟩ : ∃ r, (secL m i)[j] = r := ⟨_, rfl⟩
  have hrmem : r ∈ secL m i := by rw [← hri]; exact List.getElem_mem h79
  have hrb := hsb r hrmem
  have hrmay : mayB r.name = true ∧ dmayB r.kind r.data = true := by
    have h1 := hsm
    unfold recsMay at h1
    simp only [Bool.and_eq_true] at h1
    have h2 := List.all_eq_true.1 h1.2 r hrmem
    simpa using h2
  have hrL := hsL r hrmem
  rw [hri] at hrc
  rw [er1] at hF
  have hpl : (hdB m ++ pre).length = 12 + pre.length := by rw [List.length_append, hdB_len]
  rw [List.drop_eq_getElem_cons h79, hri] at hbody
  refine wp_skip ?_
  refine k18 ?_
  refine c_seq fun Q19 k19 t19 => ?_
  refine c_block fun Q20 t20 => ?_
  refine c_sr fun ops => ?_
  refine zl hF rfl (r_indexaddr hF _ rfl rfl rfl Tryz.underlying32 ti56 (by omega)) fun a hF => ?_
  refine zl hF rfl (r_loadagg hF rfl rfl Tryz.underlying56 ti56 rfl (hrc)) fun a hF => ?_
  refine ls_alloc hF hH rfl rfl rfl rfl zv56 ?_
  intro a w g22_2 hH hE hF
  refine ls_storeagg 0 hF hH rfl rfl rfl rfl rfl ti56 rfl (rfl) (rfl) (by simp [recV, Value.oneCell']) ?_
  intro w hH
  refine c_n ?_
  replace hH : Hp w0 w (HW ++ ([(g22_2, .cells (recV r).toArray 56 (0, 0))] ++ encR g0_2 g0_1 g0_0 mv)) := (show Hp w0 w ([(g22_2, .cells (recV r).toArray 56 (0, 0))] ++ (HW ++ encR g0_2 g0_1 g0_0 mv)) from hH).flip
  have hrw : (hdB m ++ pre) ++ (recW r (hdB m ++ pre).length tb).1 = hdB m ++ (pre ++ (recW r (12 + pre.length) tb).1) := by rw [hpl]; simp
  have hWl : (hdB m ++ (pre ++ (recW r (12 + pre.length) tb).1)).length = 12 + pre.length + (recW r (12 + pre.length) tb).1.length := by rw [List.length_append, hdB_len, List.length_append]; omega
  have hnone : 65535 < (hdB m ++ (pre ++ (recW r (12 + pre.length) tb).1)).length → encN m = (5, []) := fun h => by
    rw [hWl] at h
    have h2 : recsW (r :: (secL m i).drop (j + 1)) (12 + pre.length) tb = none := by rw [recsW_cons, if_pos h]
    exact encN_none hM (encB_body (by rw [hbody, seqW_none h2]; rfl))
  refine c_reg fun ops => ?_
  refine zm 1 hF rfl fun a hF => ?_
  refine zl hF rfl (r_loadagg hF rfl rfl Tryz.underlying56 ti56 rfl (own2_agg hH)) fun a hF => ?_
  refine ls_callT hF rfl rfl rfl rfl rfl fn44 (wrecord_spec r hG hrmay.1 hrmay.2 hrL hrb.2 hW hH hlen) (fun n w hE => t20.panic (t19.panic (t17.panic (t16.panic (t14.panic (t13.panic (t11.panic (t10.panic (t9.panic (hpan (enc_thrown hF rfl rfl (show Hp w0 _ (encR g0_2 g0_1 g0_0 mv) from hE.2.2.pick (R := [(g22_2, .cells (recV r).toArray 56 (0, 0))]) (fun z => by simp only [List.count_append]; omega)) (hnone (by rw [← hrw]; exact hE.2.1)) hE.1))))))))))) ?_
  rintro _ w ⟨rfl, hsz, HW, hW, hH⟩ a hF
  rw [hrw] at hW hsz; rw [hpl] at hW
  refine wpList_nil ?_
  refine t20.norm ?_
  refine k19 ?_
  refine c_reg fun ops => ?_
  refine zb hF rfl rfl rfl (b_addn _ _ 1 (by omega)) fun a hF => ?_
  refine zm 1 hF rfl fun a hF => ?_
  refine wpList_nil ?_
  refine k17 ?_
  have h2 : recsW (r :: (secL m i).drop (j + 1)) (12 + pre.length) tb = preW (recW r (12 + pre.length) tb).1 (recsW ((secL m i).drop (j + 1)) (12 + pre.length + (recW r (12 + pre.length) tb).1.length) (recW r (12 + pre.length) tb).2) := by rw [recsW_cons, if_neg (by omega)]
  rw [seqW_pre (f' := recsW ((secL m i).drop (j + 1))) h2, preW_preW] at hbody
  rw [← er1] at hF
  exact ⟨(secL m i).length - (j + 1), by omega, j + 1, pre ++ (recW r (12 + pre.length) tb).1, (recW r (12 + pre.length) tb).2, HW, rfl, h79, hsz, by rw [hbody, List.length_append, Nat.add_assoc], hF.keep [1, 2, 3, 5, 68, 69, 76, 77, 78] rfl, hH.pick (R := [(g22_2, .cells (recV r).toArray 56 (0, 0))]) (fun z => by simp only [List.count_append]; omega), hW⟩
theorem size_mspec (m : Msg) (qv av uv xv ov : Value) (w0 : World) (hG : GX w0) (hR : MsgR w0 m qv av uv xv ov) (hL : MsgL m) (hB : MsgB m) :
    Rets Tryz.prog 16 [.agg (msgV m qv av uv xv ov).toArray] w0 fun v w' => v = .tuple #[.int .i64 ((encN m).2.length : Nat), .int .i64 ((encN m).1 : Nat)] ∧ Ext w0 w' := by
  have hH := Hp.refl w0
  refine rets_start Tryz.func16 rfl Tryz.ntmps16 rfl fun a Q0 hF hret hend => ?_
  simp only [argsFrom, Nat.zero_add, Nat.reduceAdd] at hF
  refine c_sr fun ops => ?_
  refine ls_box hF hH rfl rfl rfl rfl rfl ?_
  intro a w g0_0 hH hE hF
  refine zm 2 hF rfl fun a hF => ?_
  refine c_n ?_
  replace hF := hF.sel [1]
  simp only [ss, Nat.reduceBEq] at hF
  refine c_sr fun ops => ?_
  refine zl hF rfl (r_loadagg hF rfl rfl Tryz.underlying37 ti37 rfl (own_agg (i := 0) (cs := (msgV m qv av uv xv ov).toArray) hH rfl)) fun a hF => ?_
  refine zc hF rfl rfl fn14 (encode_spec m _ _ _ _ _ _ (hG.ext hH.below) (hR.ext hH.below) hL hB) ?_
  rintro _ w ⟨rfl, hE⟩ a hF
  replace hH := hH.ext hE
  refine zm 5 hF rfl fun a hF => ?_
  refine c_n ?_
  replace hF := hF.sel [4, 5]
  simp only [ss, Nat.reduceBEq] at hF
  refine c_sr fun ops => ?_
  refine zm 1 hF rfl fun a hF => ?_
  refine zl hF rfl (r_len_str hF rfl rfl Tryz.underlying9) fun a hF => ?_
  refine zm 3 hF rfl fun a hF => ?_
  refine c_n ?_
  replace hF := hF.sel [2, 3]
  simp only [ss, Nat.reduceBEq] at hF
  refine wp_ret (hret (ret2 hF Tryz.results16 rfl rfl ?_))
  exact ⟨rfl, hH.below⟩
end Go.Proofs.YtpoebplhemimmaaGreatDoor
