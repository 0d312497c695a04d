/-
  The walks of package rdata: the parts of data. Nothing is claimed here.
  Results in cells, arrays, function values against nil. Nothing is claimed here.
-/
import Derived.Test.YtpoebplhemimmaaGreatDoorRead
namespace Go.Proofs.YtpoebplhemimmaaGreatDoor
variable {Ds : List Deferred}
open Go.RowKit
set_option linter.unusedVariables false
set_option linter.unusedSimpArgs false
set_option maxHeartbeats 1000000

section
variable {P : Program} {ops : Array Oper} {Q : Exit → Act → World → Prop} {rest : List Oper} {o : Oper} {a : Act} {w w0 w' : World} {N dd : Nat} {L : List (Nat × Value)} {H B : List (Nat × Obj)} {v : Value}
theorem r_makefunc (hF : FrD Ds N L a) {fn : Fn} {xs : Array Operand} {vs : List Value} (ho : o.op = .makeFunc fn #[] xs) (hx : evl L xs.toList = some vs) : Does P o a w (.func fn #[] vs.toArray) w := by
  have hm : xs.map a.eval = vs.toArray := by
    apply Array.ext'; simpa using hF.evl hx
  left; unfold execOp; simp [ho, hm, Instr.makeFunc]
/-- A function value's call answers so. -/
def RetsV (P : Program) (fv : Value) (vs : List Value) (w : World) (R : Value → World → Prop) : Prop := ∃ f cap, fv = .func (.func f) #[] cap ∧ FnOk P f ∧ Rets P f (vs ++ cap.toList) w R
theorem ls_callV {x : Operand} {xs : Array Operand} {ats : Array TypeId} {vs : List Value} {R : Value → World → Prop} {fv : Value} (hF : FrD Ds N L a) (hg : o.guard = none) (hdst : o.dst = some dd) (hd : Nat.blt dd N = true)
    (ho : o.op = .call { callee := .value x, args := xs, argTypes := ats }) (hx : ev L x = some fv) (hxs : evl L xs.toList = some vs) 
    (hc : RetsV P fv vs w R) (k : ∀ v w', R v w' → ∀ a', FrD Ds N ((dd, v) :: L) a' → wpList P ops Q rest a' w') : wpList P ops Q (o :: rest) a w := by
  obtain ⟨f, cap, rfl, hok, hc⟩ := hc
  exact ls_callv hF hg hdst hd ho hx hxs hok hc k
end

/-- The cells of pieces. -/
def pcV (l : Pieces) : List Value := (l.map fun p => [.string (mk p.1), .bool p.2]).flatten
theorem pcV_append (l m : Pieces) : pcV (l ++ m) = pcV l ++ pcV m := by simp [pcV]
theorem pcV_length : ∀ (l : Pieces), (pcV l).length = l.length * 2
  | [] => rfl
  | p :: l => by
    have := pcV_length l
    have e : pcV (p :: l) = [.string (mk p.1), .bool p.2] ++ pcV l := rfl
    rw [e, List.length_append, this, List.length_cons (a := p)]; simp; omega
theorem pcV_one (l : Pieces) : ∀ u ∈ pcV l, u.oneCell' = true := by
  intro u hu
  obtain ⟨x, hx, hu⟩ := List.mem_flatten.1 hu
  obtain ⟨p, _, rfl⟩ := List.mem_map.1 hx
  rcases List.mem_cons.1 hu with rfl | hu
  · rfl
  · rw [List.mem_singleton.1 hu]; rfl

theorem Hp.toB2 {w0 w : World} {x y : Nat × Obj} {B H : List (Nat × Obj)} (h : Hp w0 w (x :: y :: (B ++ H))) : Hp w0 w (B ++ x :: y :: H) :=
  h.perm (List.perm_middle.trans (List.Perm.cons _ List.perm_middle))
theorem Hp.fromB2 {w0 w : World} {x y : Nat × Obj} {B H : List (Nat × Obj)} (h : Hp w0 w (B ++ x :: y :: H)) : Hp w0 w (x :: y :: (B ++ H)) :=
  h.perm (List.perm_middle.trans (List.Perm.cons _ List.perm_middle)).symm

/-- A reader's block. -/
abbrev rdrO (gc : Nat) (msg : Bs) (whole : Bool) (sv : Value) : Obj := .cells #[ptr gc, .string (mk msg), .bool whole, sv] 180 (0, 0)

section
variable {w0 w : World} {H B : List (Nat × Obj)} {gr gc p : Nat} {msg : Bs} {whole : Bool} {sv : Value} {pcs : Pieces}
/-- What a part comes to. -/
def PartQ (w0 : World) (H : List (Nat × Obj)) (gr gc : Nat) (msg : Bs) (whole : Bool) (r : Nat × Nat × Pieces) (v : Value) (w' : World) : Prop :=
  v = .int .i64 r.1 ∧ Ext w0 w' ∧ (r.1 = 0 → ∃ sv B, Hp w0 w' ((gr, rdrO gc msg whole sv) :: (gc, curO msg r.2.1) :: (B ++ H)) ∧ Sl 168 2 B sv r.2.2.length (pcV r.2.2))

theorem fixed_spec (n : Nat) (pb : Nat) (hG : GW w0) (hH : Hp w0 w ((gr, rdrO gc msg whole sv) :: (gc, curO msg p) :: (B ++ H))) (hS : Sl 168 2 B sv pcs.length (pcV pcs)) (hp : p ≤ msg.length) (hs : msg.length < 1000000) (hps : pcs.length < 4000000)
    (hn : w.cell? ⟨pb, 0, none⟩ = some (.int .i64 n)) : Rets Tryz.prog 108 [ptr gr, ptr pb] w (PartQ w0 H gr gc msg whole (doPart msg whole p pcs (.fixed n))) := by
  refine rets_start Tryz.func108 rfl Tryz.ntmps108 rfl fun a Q0 hF hret hend => ?_
  simp only [argsFrom, Nat.zero_add, Nat.reduceAdd] at hF
  refine c_sr fun ops => ?_
  refine zm 1 hF rfl fun a hF => ?_
  refine c_n ?_
  replace hF := hF.sel [0, 1]
  simp only [ss, Nat.reduceBEq] at hF
  refine c_seq fun Q1 k1 t1 => ?_
  refine c_flow [0, 1, 2] [3, 4] [5] [6, 7, 8, 9, 10] (by kernel_rfl) (by kernel_rfl) fun hB => ?_
  refine ps hF rfl rfl rfl rfl (fun w => r_move hF rfl rfl) fun a hF => ?_
  refine ps_nil hF rfl rfl rfl rfl rfl fun a hF => ?_
  refine ps hF rfl rfl rfl rfl (fun w => r_fieldaddr0 hF rfl rfl fd180_0) fun a hF => ?_
  refine fl_start [10, 11] hB (by kernel_rfl) hF ?_
  simp only [wo, hasN, Nat.reduceBEq, cond_true, cond_false] at hF ⊢
  refine fs1 rfl (by
   intro a w Lr hE hC hl
   replace hH := hH.ext hE
   have hF := hC.fr
   exact zl hF rfl (r_load hF rfl rfl fl64 (own_cell (i := 0) hH rfl rfl)) fun a' hF' => wpList_nil (fl_end hC hF' (Ext.refl _) rfl)) ?_
  refine fs1 rfl (by
   intro a w Lr hE hC hl
   replace hH := hH.ext hE
   have hF := hC.fr
   exact zl hF rfl (r_load hF rfl rfl fl3 (hE.cell hn)) fun a' hF' => wpList_nil (fl_end hC hF' (Ext.refl _) rfl)) ?_
  intro a w hE hF hall
  replace hH := hH.ext hE
  obtain ⟨_, s10, rfl⟩ := hall 10 _ rfl
  replace hF := hF.more s10
  obtain ⟨_, s11, rfl⟩ := hall 11 _ rfl
  replace hF := hF.more s11
  clear hall
  replace hH := hH.perm (List.Perm.swap _ _ _)
  refine zc hF rfl rfl fn61 (take_spec' n hG hH hp hs) ?_
  rintro _ w ⟨rfl, hH⟩ a hF
  refine wpList_nil ?_
  refine ps hF rfl rfl rfl rfl (fun w => r_move hF rfl rfl) fun a hF => ?_
  refine ps hF rfl rfl rfl rfl (fun w => r_extract hF rfl rfl rfl) fun a hF => ?_
  refine ps hF rfl rfl rfl rfl (fun w => r_extract hF rfl rfl rfl) fun a hF => ?_
  refine ps hF rfl rfl rfl rfl (fun w => r_assign hF rfl rfl) fun a hF => ?_
  refine ps hF rfl rfl rfl rfl (fun w => r_assign hF rfl rfl) fun a hF => ?_
  replace hF := hF.sel [0, 4, 5]
  simp only [ss, Nat.reduceBEq] at hF
  replace hH := hH.perm (List.Perm.swap _ _ _)
  refine k1 ?_
  refine c_seq fun Q2 k2 t2 => ?_
  refine c_sr fun ops => ?_
  refine zm 1 hF rfl fun a hF => ?_
  refine zb hF rfl rfl rfl (b_nen _ _ _ 0) fun a hF => ?_
  refine c_n ?_
  replace hF := hF.sel [0, 4, 16]
  simp only [ss, Nat.reduceBEq] at hF
  refine c_if hF rfl (fun h16 => ?_) (fun h16 => ?_)
  ·
   try simp only [qq] at h16
   have h16' : msg.length < p + n := by
     by_cases hx : msg.length < p + n
     · exact hx
     · rw [if_neg hx] at h16; simp at h16
   refine c_sr fun ops => ?_
   refine zm 1 hF rfl fun a hF => ?_
   refine c_n ?_
   replace hF := hF.sel [3]
   simp only [ss, Nat.reduceBEq] at hF
   refine wp_ret (t2.ret (hret (ret1 hF Tryz.results108 rfl ?_)))
   exact ⟨by rw [doPart, if_pos h16']; rfl, hH.below, fun h => by rw [doPart, if_pos h16'] at h; cases h⟩
  try simp only [qq] at h16
  have h16' : ¬ msg.length < p + n := by
    intro hx; rw [if_pos hx] at h16; simp at h16
  simp only [h16', if_false] at hH hF
  refine wp_skip ?_
  refine k2 ?_
  refine c_sr fun ops => ?_
  refine zm 2 hF rfl fun a hF => ?_
  refine zl hF rfl (r_nilcheck hF rfl rfl) fun a hF => ?_
  refine zl hF rfl (r_fieldaddr0 hF rfl rfl fd180_3) fun a hF => ?_
  refine zl hF rfl (r_load hF rfl rfl fl147 (own_cell (i := 0) (v := sv) hH rfl rfl)) fun a hF => ?_
  refine zm 1 hF rfl fun a hF => ?_
  refine zl hF rfl (r_build hF rfl rfl (bd168_0 _ _ (rfl))) fun a hF => ?_
  refine ls_build1 hF hH rfl rfl rfl rfl rfl Tryz.underlying147 ti168 rfl (by decide) ?_
  intro a w g4_7 hH hE hF
  have hR := rsl_lit (n := 1) (size := 2) hH rfl (by decide)
  replace hH := hH.drop
  replace hH := hH.toB2
  refine ls_append hF hH rfl rfl rfl rfl rfl rfl Tryz.underlying147 ti168 hS hR (pcV_one [(_, false)]) (by decide) (by omega) ?_
  intro a v4_8 w B4_8 hH hS hF
  replace hH := hH.fromB2
  refine zl hF rfl (r_nilcheck hF rfl rfl) fun a hF => ?_
  refine zl hF rfl (r_fieldaddr0 hF rfl rfl fd180_3) fun a hF => ?_
  refine ls_store 0 hF hH rfl rfl rfl rfl rfl fl147 ti147 rfl (by simp) (by simp [noFreeze]) (hS.one) ?_
  intro w hH
  refine c_n ?_
  replace hF := hF.sel []
  simp only [ss, Nat.reduceBEq] at hF
  refine c_sr fun ops => ?_
  refine zm 1 hF rfl fun a hF => ?_
  refine c_n ?_
  replace hF := hF.sel [3]
  simp only [ss, Nat.reduceBEq] at hF
  refine wp_ret (hret (ret1 hF Tryz.results108 rfl ?_))
  refine ⟨by rw [doPart, if_neg h16']; rfl, hH.below, fun _ => ?_⟩
  rw [doPart, if_neg h16']
  exact ⟨_, _, hH, by rw [pcV_append, List.length_append]; exact hS⟩

theorem left_ro {g : Nat} {s : Bs} (h1 : w.cell? ⟨g, 0, none⟩ = some (.string (mk s))) (h2 : w.cell? ⟨g, 1, none⟩ = some (.int .i64 p)) (hp : p ≤ s.length) (hs : s.length < 1000000) : Rets Tryz.prog 29 [ptr g] w fun v w' => v = .int .i64 ((s.length - p : Nat) : Int) ∧ Ext w w' := by
  have hH := Hp.refl w
  refine rets_start Tryz.func29 rfl Tryz.ntmps29 rfl fun a Q0 hF hret hend => ?_
  simp only [argsFrom, Nat.zero_add, Nat.reduceAdd] at hF
  refine c_sr fun ops => ?_
  refine zm 1 hF rfl fun a hF => ?_
  refine c_n ?_
  replace hF := hF.sel [0]
  simp only [ss, Nat.reduceBEq] at hF
  refine c_seq fun Q1 k1 t1 => ?_
  refine c_sr fun ops => ?_
  refine zm 1 hF rfl fun a hF => ?_
  refine zb hF rfl rfl rfl (b_peq Tryz.underlying64) fun a hF => ?_
  refine c_n ?_
  replace hF := hF.sel [0, 4]
  simp only [ss, Nat.reduceBEq] at hF
  refine c_no hF rfl (rfl) ?_
  refine wp_skip ?_
  refine k1 ?_
  refine c_seq fun Q2 k2 t2 => ?_
  refine q_reg (by kernel_rfl) (by kernel_rfl) ?_
  refine qs hF rfl rfl rfl (fun w hw => r_move hF rfl rfl) fun a hF => ?_
  refine qs hF rfl rfl rfl (fun w hw => r_nilcheck hF rfl rfl) fun a hF => ?_
  refine qs hF rfl rfl rfl (fun w hw => r_fieldaddr0 hF rfl rfl fd114_0) fun a hF => ?_
  refine qs hF rfl rfl rfl (fun w hw => r_load hF rfl rfl fl9 (hw.cell (hH.cell h1))) fun a hF => ?_
  refine qs hF rfl rfl rfl (fun w hw => r_len_str hF rfl rfl Tryz.underlying9) fun a hF => ?_
  refine qs hF rfl rfl rfl (fun w hw => r_move hF rfl rfl) fun a hF => ?_
  refine qs hF rfl rfl rfl (fun w hw => r_nilcheck hF rfl rfl) fun a hF => ?_
  refine qs hF rfl rfl rfl (fun w hw => r_fieldaddr0 hF rfl rfl fd114_1) fun a hF => ?_
  refine qs hF rfl rfl rfl (fun w hw => r_load hF rfl rfl fl3 (hw.cell (hH.cell h2))) fun a hF => ?_
  refine qs hF rfl rfl rfl (fun w hw => zr hF rfl rfl (b_subn _ _ _ (by omega))) fun a hF => ?_
  refine qs hF rfl rfl rfl (fun w hw => r_assign hF rfl rfl) fun a hF => ?_
  refine q_nil fun w hE => ?_
  replace hH := hH.ext hE
  replace hF := hF.sel [2]
  simp only [ss, Nat.reduceBEq] at hF
  refine k2 ?_
  refine wp_ret (hret (ret1 hF Tryz.results29 rfl ?_))
  exact ⟨rfl, hH.below⟩
theorem rest_spec (hG : GW w0) (hH : Hp w0 w ((gr, rdrO gc msg whole sv) :: (gc, curO msg p) :: (B ++ H))) (hS : Sl 168 2 B sv pcs.length (pcV pcs)) (hp : p ≤ msg.length) (hs : msg.length < 1000000) (hps : pcs.length < 4000000) :
    Rets Tryz.prog 111 [ptr gr] w (PartQ w0 H gr gc msg whole (doPart msg whole p pcs .rest)) := by
  refine rets_start Tryz.func111 rfl Tryz.ntmps111 rfl fun a Q0 hF hret hend => ?_
  simp only [argsFrom, Nat.zero_add, Nat.reduceAdd] at hF
  refine c_sr fun ops => ?_
  refine zm 1 hF rfl fun a hF => ?_
  refine c_n ?_
  replace hF := hF.sel [0]
  simp only [ss, Nat.reduceBEq] at hF
  refine c_seq fun Q1 k1 t1 => ?_
  refine c_flow [0, 1, 2, 4, 5, 6] [3, 7, 8] [9] [10, 11, 12, 13, 14] (by kernel_rfl) (by kernel_rfl) fun hB => ?_
  refine ps hF rfl rfl rfl rfl (fun w => r_move hF rfl rfl) fun a hF => ?_
  refine ps_nil hF rfl rfl rfl rfl rfl fun a hF => ?_
  refine ps hF rfl rfl rfl rfl (fun w => r_fieldaddr0 hF rfl rfl fd180_0) fun a hF => ?_
  refine ps hF rfl rfl rfl rfl (fun w => r_move hF rfl rfl) fun a hF => ?_
  refine ps_nil hF rfl rfl rfl rfl rfl fun a hF => ?_
  refine ps hF rfl rfl rfl rfl (fun w => r_fieldaddr0 hF rfl rfl fd180_0) fun a hF => ?_
  refine fl_start [9, 13, 14] hB (by kernel_rfl) hF ?_
  simp only [wo, hasN, Nat.reduceBEq, cond_true, cond_false] at hF ⊢
  refine fs1 rfl (by
   intro a w Lr hE hC hl
   replace hH := hH.ext hE
   have hF := hC.fr
   exact zl hF rfl (r_load hF rfl rfl fl64 (own_cell (i := 0) (v := ptr gc) hH rfl rfl)) fun a' hF' => wpList_nil (fl_end hC hF' (Ext.refl _) rfl)) ?_
  refine fs1 rfl (by
   intro a w Lr hE hC hl
   replace hH := hH.ext hE
   have hF := hC.fr
   exact zl hF rfl (r_load hF rfl rfl fl64 (own_cell (i := 0) (v := ptr gc) hH rfl rfl)) fun a' hF' => wpList_nil (fl_end hC hF' (Ext.refl _) rfl)) ?_
  refine fs1 rfl (by
   intro a w Lr hE hC hl
   replace hH := hH.ext hE
   obtain ⟨_, s13, rfl⟩ := hl 13 (by decide) _ rfl
   replace hC := hC.more s13
   have hF := hC.fr
   refine zc hF rfl rfl fn29 (left_ro (own_cell (i := 1) hH rfl rfl) (own_cell (i := 1) hH rfl rfl) hp hs) ?_
   rintro _ w' ⟨rfl, hE'⟩ a' hF'
   exact wpList_nil (fl_end hC hF' hE' rfl)) ?_
  intro a w hE hF hall
  replace hH := hH.ext hE
  obtain ⟨_, s9, rfl⟩ := hall 9 _ rfl
  replace hF := hF.more s9
  obtain ⟨_, s14, rfl⟩ := hall 14 _ rfl
  replace hF := hF.more s14
  clear hall
  replace hH := hH.perm (List.Perm.swap _ _ _)
  refine zc hF rfl rfl fn61 (take_spec' _ hG hH hp hs) ?_
  rintro _ w ⟨rfl, hH⟩ a hF
  refine wpList_nil ?_
  refine ps hF rfl rfl rfl rfl (fun w => r_move hF rfl rfl) fun a hF => ?_
  refine ps hF rfl rfl rfl rfl (fun w => r_extract hF rfl rfl rfl) fun a hF => ?_
  refine ps hF rfl rfl rfl rfl (fun w => r_extract hF rfl rfl rfl) fun a hF => ?_
  refine ps hF rfl rfl rfl rfl (fun w => r_assign hF rfl rfl) fun a hF => ?_
  refine ps hF rfl rfl rfl rfl (fun w => r_assign hF rfl rfl) fun a hF => ?_
  replace hF := hF.sel [0, 3]
  simp only [ss, Nat.reduceBEq] at hF
  replace hH := hH.perm (List.Perm.swap _ _ _)
  have hx : ¬ msg.length < p + (msg.length - p) := by omega
  simp only [hx, if_false] at hH hF
  rw [show p + (msg.length - p) = msg.length by omega] at hH
  have e : (msg.drop p).take (msg.length - p) = msg.drop p := List.take_of_length_le (by simp)
  rw [e] at hF
  refine k1 ?_
  refine c_sr fun ops => ?_
  refine zm 2 hF rfl fun a hF => ?_
  refine zl hF rfl (r_nilcheck hF rfl rfl) fun a hF => ?_
  refine zl hF rfl (r_fieldaddr0 hF rfl rfl fd180_3) fun a hF => ?_
  refine zl hF rfl (r_load hF rfl rfl fl147 (own_cell (i := 0) (v := sv) hH rfl rfl)) fun a hF => ?_
  refine zm 1 hF rfl fun a hF => ?_
  refine zl hF rfl (r_build hF rfl rfl (bd168_0 _ _ (rfl))) fun a hF => ?_
  refine ls_build1 hF hH rfl rfl rfl rfl rfl Tryz.underlying147 ti168 rfl (by decide) ?_
  intro a w g2_7 hH hE hF
  have hR := rsl_lit (n := 1) (size := 2) hH rfl (by decide)
  replace hH := hH.drop
  replace hH := hH.toB2
  refine ls_append hF hH rfl rfl rfl rfl rfl rfl Tryz.underlying147 ti168 hS hR (pcV_one [(_, false)]) (by decide) (by omega) ?_
  intro a v2_8 w B2_8 hH hS hF
  replace hH := hH.fromB2
  refine zl hF rfl (r_nilcheck hF rfl rfl) fun a hF => ?_
  refine zl hF rfl (r_fieldaddr0 hF rfl rfl fd180_3) fun a hF => ?_
  refine ls_store 0 hF hH rfl rfl rfl rfl rfl fl147 ti147 rfl (by simp) (by simp [noFreeze]) (hS.one) ?_
  intro w hH
  refine c_n ?_
  replace hF := hF.sel []
  simp only [ss, Nat.reduceBEq] at hF
  refine c_sr fun ops => ?_
  refine zm 1 hF rfl fun a hF => ?_
  refine c_n ?_
  replace hF := hF.sel [2]
  simp only [ss, Nat.reduceBEq] at hF
  refine wp_ret (hret (ret1 hF Tryz.results111 rfl ?_))
  refine ⟨rfl, hH.below, fun _ => ?_⟩
  exact ⟨_, _, hH, by rw [doPart, pcV_append, List.length_append]; exact hS⟩

theorem named_spec (hG : GW w0) (hH : Hp w0 w ((gr, rdrO gc msg whole sv) :: (gc, curO msg p) :: (B ++ H))) (hS : Sl 168 2 B sv pcs.length (pcV pcs)) (hp : p ≤ msg.length) (hs : msg.length < 1000000) (hps : pcs.length < 4000000) :
    Rets Tryz.prog 109 [ptr gr] w (PartQ w0 H gr gc msg whole (doPart msg whole p pcs .named)) := by
  refine rets_start Tryz.func109 rfl Tryz.ntmps109 rfl fun a Q0 hF hret hend => ?_
  simp only [argsFrom, Nat.zero_add, Nat.reduceAdd] at hF
  refine c_sr fun ops => ?_
  refine zm 1 hF rfl fun a hF => ?_
  refine c_n ?_
  replace hF := hF.sel [0]
  simp only [ss, Nat.reduceBEq] at hF
  refine c_sr fun ops => ?_
  refine zm 1 hF rfl fun a hF => ?_
  refine zl hF rfl (r_nilcheck hF rfl rfl) fun a hF => ?_
  refine zl hF rfl (r_fieldaddr0 hF rfl rfl fd180_0) fun a hF => ?_
  refine zl hF rfl (r_load hF rfl rfl fl64 (own_cell (i := 0) (v := ptr gc) hH rfl rfl)) fun a hF => ?_
  replace hH := hH.perm (List.Perm.swap _ _ _)
  refine zc hF rfl rfl fn57 (at_spec hH) ?_
  rintro _ w ⟨rfl, hH⟩ a hF
  refine zm 1 hF rfl fun a hF => ?_
  refine c_n ?_
  replace hF := hF.sel [0, 3]
  simp only [ss, Nat.reduceBEq] at hF
  replace hH := hH.perm (List.Perm.swap _ _ _)
  refine c_sr fun ops => ?_
  refine zm 1 hF rfl fun a hF => ?_
  refine zl hF rfl (r_nilcheck hF rfl rfl) fun a hF => ?_
  refine zl hF rfl (r_fieldaddr0 hF rfl rfl fd180_1) fun a hF => ?_
  refine zl hF rfl (r_load hF rfl rfl fl9 (own_cell (i := 0) (v := .string (mk msg)) hH rfl rfl)) fun a hF => ?_
  refine zm 1 hF rfl fun a hF => ?_
  refine zc hF rfl rfl fn56 (compRead_spec msg p hs _ (hG.ext hH.below)) ?_
  rintro _ w ⟨rfl, hE⟩ a hF
  replace hH := hH.ext hE
  refine zm 7 hF rfl fun a hF => ?_
  refine c_n ?_
  replace hF := hF.sel [0, 3, 4, 5, 6]
  simp only [ss, Nat.reduceBEq] at hF
  refine c_seq fun Q1 k1 t1 => ?_
  refine c_sr fun ops => ?_
  refine zm 1 hF rfl fun a hF => ?_
  refine zb hF rfl rfl rfl (b_nen _ _ _ 0) fun a hF => ?_
  refine c_n ?_
  replace hF := hF.sel [0, 3, 4, 5, 6, 23]
  simp only [ss, Nat.reduceBEq] at hF
  refine c_if hF rfl (fun h23 => ?_) (fun h23 => ?_)
  ·
   try simp only [qq] at h23
   refine c_sr fun ops => ?_
   refine zm 2 hF rfl fun a hF => ?_
   refine c_n ?_
   replace hF := hF.sel [2]
   simp only [ss, Nat.reduceBEq] at hF
   refine wp_ret (t1.ret (hret (ret1 hF Tryz.results109 rfl ?_)))
   have hr : doPart msg whole p pcs .named = ((readAt msg p).1, p, pcs) := by rw [doPart, if_pos (by omega)]
   exact ⟨by rw [hr], hH.below, fun h => by rw [hr] at h; exact absurd h (by simpa using h23)⟩
  try simp only [qq] at h23
  obtain ⟨hnx1, hnx2⟩ := readAt_next (msg := msg) (q := p) (by omega)
  have hr : doPart msg whole p pcs .named = if whole = true ∧ (readAt msg p).2.1 ≠ (msg.take (readAt msg p).2.2).drop p then (3, p, pcs) else (0, (readAt msg p).2.2, pcs ++ [((readAt msg p).2.1, true)]) := by rw [doPart, if_neg (by omega)]
  refine wp_skip ?_
  refine k1 ?_
  refine c_seq fun Q2 k2 t2 => ?_
  refine c_sg ?_
  refine zm 1 hF rfl fun a hF => ?_
  refine zl hF rfl (r_nilcheck hF rfl rfl) fun a hF => ?_
  refine zl hF rfl (r_fieldaddr0 hF rfl rfl fd180_2) fun a hF => ?_
  refine zl hF rfl (r_load hF rfl rfl fl4 (own_cell (i := 0) (v := .bool whole) hH rfl rfl)) fun a hF => ?_
  refine zm 1 hF rfl fun a hF => ?_
  refine l_ask (d := 29) hF rfl (fun g5_4 => ?_) (fun g5_4 => ?_)
  ·
   have g5_4' := g5_4; try simp only [qq] at g5_4'
   refine zn hF rfl g5_4 fun a hF => ?_
   refine zn hF rfl g5_4 fun a hF => ?_
   refine zn hF rfl g5_4 fun a hF => ?_
   refine zn hF rfl g5_4 fun a hF => ?_
   refine zn hF rfl g5_4 fun a hF => ?_
   refine zn hF rfl g5_4 fun a hF => ?_
   refine zn hF rfl g5_4 fun a hF => ?_
   refine zn hF rfl g5_4 fun a hF => ?_
   refine zn hF rfl g5_4 fun a hF => ?_
   refine zl hF rfl (r_pickf hF rfl rfl g5_4 rfl) fun a hF => ?_
   refine c_n ?_
   replace hF := hF.sel [0, 4, 5, 39]
   simp only [ss, Nat.reduceBEq] at hF
   refine c_no hF rfl rfl ?_
   refine wp_skip ?_
   refine k2 ?_
   rw [if_neg (by simp_all)] at hr
   refine c_sr fun ops => ?_
   refine zm 1 hF rfl fun a hF => ?_
   refine zl hF rfl (r_nilcheck hF rfl rfl) fun a hF => ?_
   refine zl hF rfl (r_fieldaddr0 hF rfl rfl fd180_0) fun a hF => ?_
   refine zl hF rfl (r_load hF rfl rfl fl64 (own_cell (i := 0) (v := ptr gc) hH rfl rfl)) fun a hF => ?_
   refine zm 1 hF rfl fun a hF => ?_
   replace hH := hH.perm (List.Perm.swap _ _ _)
   refine zc hF rfl rfl fn23 (seek_spec' _ hH hs) ?_
   rintro _ w ⟨rfl, hH⟩ a hF
   refine c_n ?_
   replace hF := hF.sel [0, 4]
   simp only [ss, Nat.reduceBEq] at hF
   replace hH := hH.perm (List.Perm.swap _ _ _)
   rw [if_pos hnx2] at hH
   refine c_sr fun ops => ?_
   refine zm 2 hF rfl fun a hF => ?_
   refine zl hF rfl (r_nilcheck hF rfl rfl) fun a hF => ?_
   refine zl hF rfl (r_fieldaddr0 hF rfl rfl fd180_3) fun a hF => ?_
   refine zl hF rfl (r_load hF rfl rfl fl147 (own_cell (i := 0) (v := sv) hH rfl rfl)) fun a hF => ?_
   refine zm 1 hF rfl fun a hF => ?_
   refine zl hF rfl (r_build hF rfl rfl (bd168_0_1 _ _ _ (rfl) (rfl))) fun a hF => ?_
   refine ls_build1 hF hH rfl rfl rfl rfl rfl Tryz.underlying147 ti168 rfl (by decide) ?_
   intro a w g8_7 hH hE hF
   have hR := rsl_lit (n := 1) (size := 2) hH rfl (by decide)
   replace hH := hH.drop
   replace hH := hH.toB2
   refine ls_append hF hH rfl rfl rfl rfl rfl rfl Tryz.underlying147 ti168 hS hR (pcV_one [(_, true)]) (by decide) (by omega) ?_
   intro a v8_8 w B8_8 hH hS hF
   replace hH := hH.fromB2
   refine zl hF rfl (r_nilcheck hF rfl rfl) fun a hF => ?_
   refine zl hF rfl (r_fieldaddr0 hF rfl rfl fd180_3) fun a hF => ?_
   refine ls_store 0 hF hH rfl rfl rfl rfl rfl fl147 ti147 rfl (by simp) (by simp [noFreeze]) (hS.one) ?_
   intro w hH
   refine c_n ?_
   replace hF := hF.sel []
   simp only [ss, Nat.reduceBEq] at hF
   refine c_sr fun ops => ?_
   refine zm 1 hF rfl fun a hF => ?_
   refine c_n ?_
   replace hF := hF.sel [2]
   simp only [ss, Nat.reduceBEq] at hF
   refine wp_ret (hret (ret1 hF Tryz.results109 rfl ?_))
   refine ⟨by rw [hr]; rfl, hH.below, fun _ => ?_⟩
   rw [hr]
   exact ⟨_, _, hH, by rw [pcV_append, List.length_append]; exact hS⟩
  have g5_4' := g5_4; try simp only [qq] at g5_4'
  refine zy hF rfl g5_4 (r_move hF rfl rfl) fun a hF => ?_
  refine zy hF rfl g5_4 (r_move hF rfl rfl) fun a hF => ?_
  refine zy hF rfl g5_4 (r_nilcheck hF rfl rfl) fun a hF => ?_
  refine zy hF rfl g5_4 (r_fieldaddr0 hF rfl rfl fd180_1) fun a hF => ?_
  refine zy hF rfl g5_4 (r_load hF rfl rfl fl9 (own_cell (i := 0) (v := .string (mk msg)) hH rfl rfl)) fun a hF => ?_
  refine zy hF rfl g5_4 (r_move hF rfl rfl) fun a hF => ?_
  refine zy hF rfl g5_4 (r_move hF rfl rfl) fun a hF => ?_
  refine zy hF rfl g5_4 (r_slicen hF _ _ rfl rfl Tryz.underlying9 ⟨_, rfl⟩ ⟨_, rfl⟩ (by omega)) fun a hF => ?_
  refine zy hF rfl g5_4 (zr hF rfl rfl (b_sne _ _ _)) fun a hF => ?_
  refine zl hF rfl (r_pickt hF rfl rfl g5_4 rfl) fun a hF => ?_
  refine c_n ?_
  replace hF := hF.sel [0, 4, 5, 39]
  simp only [ss, Nat.reduceBEq] at hF
  refine c_if hF rfl (fun h39 => ?_) (fun h39 => ?_)
  ·
   try simp only [qq] at h39
   refine c_sr fun ops => ?_
   refine zm 1 hF rfl fun a hF => ?_
   refine c_n ?_
   replace hF := hF.sel [2]
   simp only [ss, Nat.reduceBEq] at hF
   refine wp_ret (t2.ret (hret (ret1 hF Tryz.results109 rfl ?_)))
   rw [if_pos (by simp_all)] at hr
   exact ⟨by rw [hr]; rfl, hH.below, fun h => by rw [hr] at h; cases h⟩
  try simp only [qq] at h39
  refine wp_skip ?_
  refine k2 ?_
  rw [if_neg (by simp_all)] at hr
  refine c_sr fun ops => ?_
  refine zm 1 hF rfl fun a hF => ?_
  refine zl hF rfl (r_nilcheck hF rfl rfl) fun a hF => ?_
  refine zl hF rfl (r_fieldaddr0 hF rfl rfl fd180_0) fun a hF => ?_
  refine zl hF rfl (r_load hF rfl rfl fl64 (own_cell (i := 0) (v := ptr gc) hH rfl rfl)) fun a hF => ?_
  refine zm 1 hF rfl fun a hF => ?_
  replace hH := hH.perm (List.Perm.swap _ _ _)
  refine zc hF rfl rfl fn23 (seek_spec' _ hH hs) ?_
  rintro _ w ⟨rfl, hH⟩ a hF
  refine c_n ?_
  replace hF := hF.sel [0, 4]
  simp only [ss, Nat.reduceBEq] at hF
  replace hH := hH.perm (List.Perm.swap _ _ _)
  rw [if_pos hnx2] at hH
  refine c_sr fun ops => ?_
  refine zm 2 hF rfl fun a hF => ?_
  refine zl hF rfl (r_nilcheck hF rfl rfl) fun a hF => ?_
  refine zl hF rfl (r_fieldaddr0 hF rfl rfl fd180_3) fun a hF => ?_
  refine zl hF rfl (r_load hF rfl rfl fl147 (own_cell (i := 0) (v := sv) hH rfl rfl)) fun a hF => ?_
  refine zm 1 hF rfl fun a hF => ?_
  refine zl hF rfl (r_build hF rfl rfl (bd168_0_1 _ _ _ (rfl) (rfl))) fun a hF => ?_
  refine ls_build1 hF hH rfl rfl rfl rfl rfl Tryz.underlying147 ti168 rfl (by decide) ?_
  intro a w g8_7 hH hE hF
  have hR := rsl_lit (n := 1) (size := 2) hH rfl (by decide)
  replace hH := hH.drop
  replace hH := hH.toB2
  refine ls_append hF hH rfl rfl rfl rfl rfl rfl Tryz.underlying147 ti168 hS hR (pcV_one [(_, true)]) (by decide) (by omega) ?_
  intro a v8_8 w B8_8 hH hS hF
  replace hH := hH.fromB2
  refine zl hF rfl (r_nilcheck hF rfl rfl) fun a hF => ?_
  refine zl hF rfl (r_fieldaddr0 hF rfl rfl fd180_3) fun a hF => ?_
  refine ls_store 0 hF hH rfl rfl rfl rfl rfl fl147 ti147 rfl (by simp) (by simp [noFreeze]) (hS.one) ?_
  intro w hH
  refine c_n ?_
  replace hF := hF.sel []
  simp only [ss, Nat.reduceBEq] at hF
  refine c_sr fun ops => ?_
  refine zm 1 hF rfl fun a hF => ?_
  refine c_n ?_
  replace hF := hF.sel [2]
  simp only [ss, Nat.reduceBEq] at hF
  refine wp_ret (hret (ret1 hF Tryz.results109 rfl ?_))
  refine ⟨by rw [hr]; rfl, hH.below, fun _ => ?_⟩
  rw [hr]
  exact ⟨_, _, hH, by rw [pcV_append, List.length_append]; exact hS⟩
  -- UNUSED HOOK post 2.5

theorem texts_spec (hG : GW w0) (hH : Hp w0 w ((gr, rdrO gc msg whole sv) :: (gc, curO msg p) :: (B ++ H))) (hS : Sl 168 2 B sv pcs.length (pcV pcs)) (hp : p ≤ msg.length) (hs : msg.length < 1000000) (hps : pcs.length < 4000000) :
    Rets Tryz.prog 110 [ptr gr] w (PartQ w0 H gr gc msg whole (doPart msg whole p pcs .texts)) := by
  rw [doPart]
  have hr0 : textsG msg (msg.length + 1) p pcs = textsG msg (msg.length + 1) p pcs := rfl
  generalize hr : textsG msg (msg.length + 1) p pcs = r at hr0 ⊢
  refine rets_start Tryz.func110 rfl Tryz.ntmps110 rfl fun a Q0 hF hret hend => ?_
  simp only [argsFrom, Nat.zero_add, Nat.reduceAdd] at hF
  refine c_sr fun ops => ?_
  refine zm 1 hF rfl fun a hF => ?_
  refine c_n ?_
  replace hF := hF.sel [0]
  simp only [ss, Nat.reduceBEq] at hF
  refine c_seq fun Q1 k1 t1 => ?_
  refine c_sr fun ops => ?_
  refine zm 1 hF rfl fun a hF => ?_
  refine c_n ?_
  replace hF := hF.sel [0, 3]
  simp only [ss, Nat.reduceBEq] at hF
  refine c_block fun Q2 t2 => ?_
  refine c_loop (fun n a w => ∃ q qs b sv B, msg.length - q < n ∧ q ≤ msg.length ∧ qs.length ≤ pcs.length + q ∧ r = (if b = false ∧ msg.length ≤ q then (0, q, qs) else textsG msg n q qs) ∧ Fr 53 [(0, ptr gr), (3, .bool b)] a ∧ Hp w0 w ((gr, rdrO gc msg whole sv) :: (gc, curO msg q) :: (B ++ H)) ∧ Sl 168 2 B sv qs.length (pcV qs)) ?_ ?_
  ·
   exact ⟨msg.length + 1, p, pcs, true, sv, B, by omega, hp, by omega, by simp [hr], hF.keep [0, 3] rfl, hH, hS⟩
  clear hH hF hS
  intro n a w hI Q3 k3 t3
  obtain ⟨q, qs, b, sv, B, hm, hq, hqs, he, hF, hH, hS⟩ := hI
  cases n with
  | zero => omega
  | succ n =>
  have hc8 := (msg.getD q 0).toNat_lt
  refine c_seq fun Q4 k4 t4 => ?_
  refine c_sg ?_
  refine zm 2 hF rfl fun a hF => ?_
  refine ls_ask (d := 8) hF rfl (fun g2_1 => ?_) (fun g2_1 => ?_)
  ·
   have g2_1' := g2_1; try simp only [qq] at g2_1'
   refine zn hF rfl g2_1 fun a hF => ?_
   refine zn hF rfl g2_1 fun a hF => ?_
   refine zn hF rfl g2_1 fun a hF => ?_
   refine zn hF rfl g2_1 fun a hF => ?_
   refine zn hF rfl g2_1 fun a hF => ?_
   refine zn hF rfl g2_1 fun a hF => ?_
   refine zl hF rfl (r_pickt hF rfl rfl g2_1 rfl) fun a hF => ?_
   refine c_n ?_
   refine c_yes hF rfl rfl ?_
   refine wp_skip ?_
   refine k4 ?_
   refine c_seq fun Q5 k5 t5 => ?_
   refine c_block fun Q6 t6 => ?_
   rw [if_neg (by rintro ⟨h1, h2⟩; first | omega | exact absurd (g2_1.symm.trans h1) (by decide)), textsG] at he
   refine c_sr fun ops => ?_
   refine zm 1 hF rfl fun a hF => ?_
   refine zl hF rfl (r_nilcheck hF rfl rfl) fun a hF => ?_
   refine zl hF rfl (r_fieldaddr0 hF rfl rfl fd180_0) fun a hF => ?_
   refine zl hF rfl (r_load hF rfl rfl fl64 (own_cell (i := 0) (v := ptr gc) hH rfl rfl)) fun a hF => ?_
   replace hH := hH.perm (List.Perm.swap _ _ _)
   refine zc hF rfl rfl fn78 (byte_spec' hG hH hq hs) ?_
   rintro _ w ⟨rfl, hH⟩ a hF
   refine zm 5 hF rfl fun a hF => ?_
   refine c_n ?_
   replace hH := hH.perm (List.Perm.swap _ _ _)
   refine c_seq fun Q7 k7 t7 => ?_
   refine c_sr fun ops => ?_
   refine zm 1 hF rfl fun a hF => ?_
   refine zb hF rfl rfl rfl (b_nen _ _ _ 0) fun a hF => ?_
   refine c_n ?_
   refine c_if hF rfl (fun h25 => ?_) (fun h25 => ?_)
   ·
    try simp only [qq] at h25
    have h25' : msg.length ≤ q := by
      by_cases hx : msg.length ≤ q
      · exact hx
      · rw [if_neg hx] at h25; simp at h25
    refine c_sr fun ops => ?_
    refine zm 1 hF rfl fun a hF => ?_
    refine c_n ?_
    refine wp_ret (t7.ret (t6.ret (t5.ret (t3.ret (t2.ret (t1.ret (hret (ret1 hF Tryz.results110 rfl ?_))))))))
    rw [if_pos h25'] at he
    exact ⟨by rw [he]; rfl, hH.below, fun h => by rw [he] at h; cases h⟩
   try simp only [qq] at h25
   have h25' : ¬ msg.length ≤ q := by
     intro hx; rw [if_pos hx] at h25; simp at h25
   rw [if_neg h25'] at he
   simp only [h25', if_false] at hH
   refine wp_skip ?_
   refine k7 ?_
   refine c_sr fun ops => ?_
   refine zm 1 hF rfl fun a hF => ?_
   refine zl hF rfl (r_nilcheck hF rfl rfl) fun a hF => ?_
   refine zl hF rfl (r_fieldaddr0 hF rfl rfl fd180_0) fun a hF => ?_
   refine zl hF rfl (r_load hF rfl rfl fl64 (own_cell (i := 0) (v := ptr gc) hH rfl rfl)) fun a hF => ?_
   refine zm 1 hF rfl fun a hF => ?_
   refine zl hF rfl (r_convin hF rfl rfl (by rw [Tryz.underlying5]; rfl) Tryz.underlying3 (-9223372036854775808) 9223372036854775807 mn_i64 mx_i64 (by omega)) fun a hF => ?_
   replace hH := hH.perm (List.Perm.swap _ _ _)
   refine zc hF rfl rfl fn61 (take_spec' _ hG hH (by omega) hs) ?_
   rintro _ w ⟨rfl, hH⟩ a hF
   refine zm 5 hF rfl fun a hF => ?_
   refine c_n ?_
   replace hH := hH.perm (List.Perm.swap _ _ _)
   refine c_seq fun Q8 k8 t8 => ?_
   refine c_sr fun ops => ?_
   refine zm 1 hF rfl fun a hF => ?_
   refine zb hF rfl rfl rfl (b_nen _ _ _ 0) fun a hF => ?_
   refine c_n ?_
   refine c_if hF rfl (fun h37 => ?_) (fun h37 => ?_)
   ·
    try simp only [qq] at h37
    have h37' : msg.length < q + 1 + (msg.getD q 0).toNat := by
      by_cases hx : msg.length < q + 1 + (msg.getD q 0).toNat
      · exact hx
      · rw [if_neg hx] at h37; simp at h37
    refine c_sr fun ops => ?_
    refine zm 1 hF rfl fun a hF => ?_
    refine c_n ?_
    refine wp_ret (t8.ret (t6.ret (t5.ret (t3.ret (t2.ret (t1.ret (hret (ret1 hF Tryz.results110 rfl ?_))))))))
    rw [if_pos h37'] at he
    exact ⟨by rw [he]; rfl, hH.below, fun h => by rw [he] at h; cases h⟩
   try simp only [qq] at h37
   have h37' : ¬ msg.length < q + 1 + (msg.getD q 0).toNat := by
     intro hx; rw [if_pos hx] at h37; simp at h37
   rw [if_neg h37'] at he
   simp only [h37', if_false] at hH hF
   rw [label_eq (by omega)] at he
   have hlab : ((msg.drop (q + 1)).take (msg.getD q 0).toNat).length = (msg.getD q 0).toNat := by rw [List.length_take, List.length_drop]; omega
   generalize (msg.drop (q + 1)).take (msg.getD q 0).toNat = lab at *
   refine wp_skip ?_
   refine k8 ?_
   refine c_flow [0, 1, 2, 3, 5, 8] [4, 6, 7, 9, 10, 11] [12, 13, 14, 15] [] (by kernel_rfl) (by kernel_rfl) fun hB => ?_
   refine ps hF rfl rfl rfl rfl (fun w => r_move hF rfl rfl) fun a hF => ?_
   refine ps hF rfl rfl rfl rfl (fun w => r_move hF rfl rfl) fun a hF => ?_
   refine ps_nil hF rfl rfl rfl rfl rfl fun a hF => ?_
   refine ps hF rfl rfl rfl rfl (fun w => r_fieldaddr0 hF rfl rfl fd180_3) fun a hF => ?_
   refine ps hF rfl rfl rfl rfl (fun w => r_move hF rfl rfl) fun a hF => ?_
   refine ps hF rfl rfl rfl rfl (fun w => r_move hF rfl rfl) fun a hF => ?_
   refine fl_start [42, 44, 45, 47, 48, 49] hB (by kernel_rfl) hF ?_
   simp only [wo, hasN, Nat.reduceBEq, cond_true, cond_false] at hF ⊢
   refine fs1 rfl (by
    intro a w Lr hE hC hl
    replace hH := hH.ext hE
    have hF := hC.fr
    exact zl hF rfl (r_load hF rfl rfl fl147 (own_cell (i := 0) (v := sv) hH rfl rfl)) fun a' hF' => wpList_nil (fl_end hC hF' (Ext.refl _) rfl)) ?_
   refine fsr rfl (by
    intro a w Lr hE hC hl
    replace hH := hH.ext hE
    have hF := hC.fr
    refine ls_build1 hF (Hp.refl w) rfl rfl rfl rfl rfl Tryz.underlying26 ti5 rfl (by decide) ?_
    intro a' w' g hH' hE' hF'
    exact wpList_nil (fl_end hC hF' hE' (by exact (show RSl _ 1 _ 1 (bytV [msg.getD q 0]) from rsl_lit (n := 1) hH' rfl (by decide))))) ?_
   refine fs1 rfl (by
    intro a w Lr hE hC hl
    replace hH := hH.ext hE
    obtain ⟨v44, s44, p44⟩ := hl 44 (by decide) _ rfl
    replace hC := hC.more s44
    have hF := hC.fr
    exact zl hF rfl (r_convstr hF rfl rfl Tryz.underlying26 Tryz.underlying5 Tryz.underlying9 (p44)) fun a' hF' => wpList_nil (fl_end hC hF' (Ext.refl _) rfl)) ?_
   refine fs1 rfl (by
    intro a w Lr hE hC hl
    replace hH := hH.ext hE
    obtain ⟨_, s45, rfl⟩ := hl 45 (by decide) _ rfl
    replace hC := hC.more s45
    have hF := hC.fr
    exact zl hF rfl (zr hF rfl rfl (b_sadd _ _ _ (by simp; omega))) fun a' hF' => wpList_nil (fl_end hC hF' (Ext.refl _) rfl)) ?_
   refine fs1 rfl (by
    intro a w Lr hE hC hl
    replace hH := hH.ext hE
    obtain ⟨_, s47, rfl⟩ := hl 47 (by decide) _ rfl
    replace hC := hC.more s47
    have hF := hC.fr
    exact zl hF rfl (r_build hF rfl rfl (bd168_0 _ _ (rfl))) fun a' hF' => wpList_nil (fl_end hC hF' (Ext.refl _) rfl)) ?_
   refine fsr rfl (by
    intro a w Lr hE hC hl
    replace hH := hH.ext hE
    obtain ⟨_, s48, rfl⟩ := hl 48 (by decide) _ rfl
    replace hC := hC.more s48
    have hF := hC.fr
    refine ls_build1 hF (Hp.refl w) rfl rfl rfl rfl rfl Tryz.underlying147 ti168 rfl (by decide) ?_
    intro a' w' g hH' hE' hF'
    exact wpList_nil (fl_end hC hF' hE' (by exact (show RSl _ 2 _ 1 (pcV [(msg.getD q 0 :: lab, false)]) from rsl_lit (n := 1) (size := 2) hH' rfl (by decide))))) ?_
   intro a w hE hF hall
   replace hH := hH.ext hE
   obtain ⟨_, s42, rfl⟩ := hall 42 _ rfl
   replace hF := hF.more s42
   obtain ⟨v44, s44, p44⟩ := hall 44 _ rfl
   replace hF := hF.more s44
   obtain ⟨_, s45, rfl⟩ := hall 45 _ rfl
   replace hF := hF.more s45
   obtain ⟨_, s47, rfl⟩ := hall 47 _ rfl
   replace hF := hF.more s47
   obtain ⟨_, s48, rfl⟩ := hall 48 _ rfl
   replace hF := hF.more s48
   obtain ⟨v49, s49, p49⟩ := hall 49 _ rfl
   replace hF := hF.more s49
   clear hall
   replace hH := hH.toB2
   refine ls_append hF hH rfl rfl rfl rfl rfl rfl Tryz.underlying147 ti168 hS p49 (pcV_one [(_, false)]) (by decide) (by omega) ?_
   intro a v10_12 w B10_12 hH hS hF
   replace hH := hH.fromB2
   refine zl hF rfl (r_nilcheck hF rfl rfl) fun a hF => ?_
   refine zl hF rfl (r_fieldaddr0 hF rfl rfl fd180_3) fun a hF => ?_
   refine ls_store 0 hF hH rfl rfl rfl rfl rfl fl147 ti147 rfl (by simp) (by simp [noFreeze]) (hS.one) ?_
   intro w hH
   refine wpList_nil ?_
   refine t6.norm ?_
   refine k5 ?_
   refine c_reg fun ops => ?_
   refine zm 1 hF rfl fun a hF => ?_
   refine wpList_nil ?_
   refine k3 ?_
   refine ⟨n, Nat.lt_succ_self _, q + 1 + (msg.getD q 0).toNat, qs ++ [(msg.getD q 0 :: lab, false)], false, _, _, by omega, by omega, by rw [List.length_append, List.length_singleton]; omega, ?_, hF.keep [0, 3] rfl, hH, by rw [pcV_append, List.length_append]; exact hS⟩
   rw [he]
   by_cases hx : msg.length ≤ q + 1 + (msg.getD q 0).toNat
   · rw [if_pos hx, if_pos ⟨rfl, hx⟩]
   · rw [if_neg hx, if_neg (fun h => hx h.2)]
  have g2_1' := g2_1; try simp only [qq] at g2_1'
  refine zy hF rfl g2_1 (r_move hF rfl rfl) fun a hF => ?_
  refine zy hF rfl g2_1 (r_nilcheck hF rfl rfl) fun a hF => ?_
  refine zy hF rfl g2_1 (r_fieldaddr0 hF rfl rfl fd180_0) fun a hF => ?_
  refine zy hF rfl g2_1 (r_load hF rfl rfl fl64 (own_cell (i := 0) (v := ptr gc) hH rfl rfl)) fun a hF => ?_
  replace hH := hH.perm (List.Perm.swap _ _ _)
  refine zyc hF rfl g2_1 rfl fn29 (left_spec hH hq hs) ?_
  rintro _ w ⟨rfl, hH⟩ a hF
  replace hH := hH.perm (List.Perm.swap _ _ _)
  refine zy hF rfl g2_1 (zr hF rfl rfl (b_gtn _ _ _ 0)) fun a hF => ?_
  refine zl hF rfl (r_pickf hF rfl rfl g2_1 rfl) fun a hF => ?_
  refine c_n ?_
  refine c_fi hF rfl (fun h15 => ?_) (fun h15 => ?_)
  ·
   try simp only [qq] at h15
   rw [if_pos ⟨by simpa using g2_1, by omega⟩] at he
   refine wp_exit (t4.exit (t3.exit (t2.here (?_))))
   refine k1 ?_
   refine c_sr fun ops => ?_
   refine zm 1 hF rfl fun a hF => ?_
   refine c_n ?_
   replace hF := hF.sel [2]
   simp only [ss, Nat.reduceBEq] at hF
   refine wp_ret (hret (ret1 hF Tryz.results110 rfl ?_))
   exact ⟨by rw [he]; rfl, hH.below, fun _ => by rw [he]; exact ⟨_, _, hH, hS⟩⟩
  try simp only [qq] at h15
  refine wp_skip ?_
  refine k4 ?_
  refine c_seq fun Q9 k9 t9 => ?_
  refine c_block fun Q10 t10 => ?_
  rw [if_neg (by rintro ⟨h1, h2⟩; first | omega | exact absurd (g2_1.symm.trans h1) (by decide)), textsG] at he
  refine c_sr fun ops => ?_
  refine zm 1 hF rfl fun a hF => ?_
  refine zl hF rfl (r_nilcheck hF rfl rfl) fun a hF => ?_
  refine zl hF rfl (r_fieldaddr0 hF rfl rfl fd180_0) fun a hF => ?_
  refine zl hF rfl (r_load hF rfl rfl fl64 (own_cell (i := 0) (v := ptr gc) hH rfl rfl)) fun a hF => ?_
  replace hH := hH.perm (List.Perm.swap _ _ _)
  refine zc hF rfl rfl fn78 (byte_spec' hG hH hq hs) ?_
  rintro _ w ⟨rfl, hH⟩ a hF
  refine zm 5 hF rfl fun a hF => ?_
  refine c_n ?_
  replace hH := hH.perm (List.Perm.swap _ _ _)
  refine c_seq fun Q11 k11 t11 => ?_
  refine c_sr fun ops => ?_
  refine zm 1 hF rfl fun a hF => ?_
  refine zb hF rfl rfl rfl (b_nen _ _ _ 0) fun a hF => ?_
  refine c_n ?_
  refine c_if hF rfl (fun h25 => ?_) (fun h25 => ?_)
  ·
   try simp only [qq] at h25
   have h25' : msg.length ≤ q := by
     by_cases hx : msg.length ≤ q
     · exact hx
     · rw [if_neg hx] at h25; simp at h25
   refine c_sr fun ops => ?_
   refine zm 1 hF rfl fun a hF => ?_
   refine c_n ?_
   refine wp_ret (t11.ret (t10.ret (t9.ret (t3.ret (t2.ret (t1.ret (hret (ret1 hF Tryz.results110 rfl ?_))))))))
   rw [if_pos h25'] at he
   exact ⟨by rw [he]; rfl, hH.below, fun h => by rw [he] at h; cases h⟩
  try simp only [qq] at h25
  have h25' : ¬ msg.length ≤ q := by
    intro hx; rw [if_pos hx] at h25; simp at h25
  rw [if_neg h25'] at he
  simp only [h25', if_false] at hH
  refine wp_skip ?_
  refine k11 ?_
  refine c_sr fun ops => ?_
  refine zm 1 hF rfl fun a hF => ?_
  refine zl hF rfl (r_nilcheck hF rfl rfl) fun a hF => ?_
  refine zl hF rfl (r_fieldaddr0 hF rfl rfl fd180_0) fun a hF => ?_
  refine zl hF rfl (r_load hF rfl rfl fl64 (own_cell (i := 0) (v := ptr gc) hH rfl rfl)) fun a hF => ?_
  refine zm 1 hF rfl fun a hF => ?_
  refine zl hF rfl (r_convin hF rfl rfl (by rw [Tryz.underlying5]; rfl) Tryz.underlying3 (-9223372036854775808) 9223372036854775807 mn_i64 mx_i64 (by omega)) fun a hF => ?_
  replace hH := hH.perm (List.Perm.swap _ _ _)
  refine zc hF rfl rfl fn61 (take_spec' _ hG hH (by omega) hs) ?_
  rintro _ w ⟨rfl, hH⟩ a hF
  refine zm 5 hF rfl fun a hF => ?_
  refine c_n ?_
  replace hH := hH.perm (List.Perm.swap _ _ _)
  refine c_seq fun Q12 k12 t12 => ?_
  refine c_sr fun ops => ?_
  refine zm 1 hF rfl fun a hF => ?_
  refine zb hF rfl rfl rfl (b_nen _ _ _ 0) fun a hF => ?_
  refine c_n ?_
  refine c_if hF rfl (fun h37 => ?_) (fun h37 => ?_)
  ·
   try simp only [qq] at h37
   have h37' : msg.length < q + 1 + (msg.getD q 0).toNat := by
     by_cases hx : msg.length < q + 1 + (msg.getD q 0).toNat
     · exact hx
     · rw [if_neg hx] at h37; simp at h37
   refine c_sr fun ops => ?_
   refine zm 1 hF rfl fun a hF => ?_
   refine c_n ?_
   refine wp_ret (t12.ret (t10.ret (t9.ret (t3.ret (t2.ret (t1.ret (hret (ret1 hF Tryz.results110 rfl ?_))))))))
   rw [if_pos h37'] at he
   exact ⟨by rw [he]; rfl, hH.below, fun h => by rw [he] at h; cases h⟩
  try simp only [qq] at h37
  have h37' : ¬ msg.length < q + 1 + (msg.getD q 0).toNat := by
    intro hx; rw [if_pos hx] at h37; simp at h37
  rw [if_neg h37'] at he
  simp only [h37', if_false] at hH hF
  rw [label_eq (by omega)] at he
  have hlab : ((msg.drop (q + 1)).take (msg.getD q 0).toNat).length = (msg.getD q 0).toNat := by rw [List.length_take, List.length_drop]; omega
  generalize (msg.drop (q + 1)).take (msg.getD q 0).toNat = lab at *
  refine wp_skip ?_
  refine k12 ?_
  refine c_flow [0, 1, 2, 3, 5, 8] [4, 6, 7, 9, 10, 11] [12, 13, 14, 15] [] (by kernel_rfl) (by kernel_rfl) fun hB => ?_
  refine ps hF rfl rfl rfl rfl (fun w => r_move hF rfl rfl) fun a hF => ?_
  refine ps hF rfl rfl rfl rfl (fun w => r_move hF rfl rfl) fun a hF => ?_
  refine ps_nil hF rfl rfl rfl rfl rfl fun a hF => ?_
  refine ps hF rfl rfl rfl rfl (fun w => r_fieldaddr0 hF rfl rfl fd180_3) fun a hF => ?_
  refine ps hF rfl rfl rfl rfl (fun w => r_move hF rfl rfl) fun a hF => ?_
  refine ps hF rfl rfl rfl rfl (fun w => r_move hF rfl rfl) fun a hF => ?_
  refine fl_start [42, 44, 45, 47, 48, 49] hB (by kernel_rfl) hF ?_
  simp only [wo, hasN, Nat.reduceBEq, cond_true, cond_false] at hF ⊢
  refine fs1 rfl (by
   intro a w Lr hE hC hl
   replace hH := hH.ext hE
   have hF := hC.fr
   exact zl hF rfl (r_load hF rfl rfl fl147 (own_cell (i := 0) (v := sv) hH rfl rfl)) fun a' hF' => wpList_nil (fl_end hC hF' (Ext.refl _) rfl)) ?_
  refine fsr rfl (by
   intro a w Lr hE hC hl
   replace hH := hH.ext hE
   have hF := hC.fr
   refine ls_build1 hF (Hp.refl w) rfl rfl rfl rfl rfl Tryz.underlying26 ti5 rfl (by decide) ?_
   intro a' w' g hH' hE' hF'
   exact wpList_nil (fl_end hC hF' hE' (by exact (show RSl _ 1 _ 1 (bytV [msg.getD q 0]) from rsl_lit (n := 1) hH' rfl (by decide))))) ?_
  refine fs1 rfl (by
   intro a w Lr hE hC hl
   replace hH := hH.ext hE
   obtain ⟨v44, s44, p44⟩ := hl 44 (by decide) _ rfl
   replace hC := hC.more s44
   have hF := hC.fr
   exact zl hF rfl (r_convstr hF rfl rfl Tryz.underlying26 Tryz.underlying5 Tryz.underlying9 (p44)) fun a' hF' => wpList_nil (fl_end hC hF' (Ext.refl _) rfl)) ?_
  refine fs1 rfl (by
   intro a w Lr hE hC hl
   replace hH := hH.ext hE
   obtain ⟨_, s45, rfl⟩ := hl 45 (by decide) _ rfl
   replace hC := hC.more s45
   have hF := hC.fr
   exact zl hF rfl (zr hF rfl rfl (b_sadd _ _ _ (by simp; omega))) fun a' hF' => wpList_nil (fl_end hC hF' (Ext.refl _) rfl)) ?_
  refine fs1 rfl (by
   intro a w Lr hE hC hl
   replace hH := hH.ext hE
   obtain ⟨_, s47, rfl⟩ := hl 47 (by decide) _ rfl
   replace hC := hC.more s47
   have hF := hC.fr
   exact zl hF rfl (r_build hF rfl rfl (bd168_0 _ _ (rfl))) fun a' hF' => wpList_nil (fl_end hC hF' (Ext.refl _) rfl)) ?_
  refine fsr rfl (by
   intro a w Lr hE hC hl
   replace hH := hH.ext hE
   obtain ⟨_, s48, rfl⟩ := hl 48 (by decide) _ rfl
   replace hC := hC.more s48
   have hF := hC.fr
   refine ls_build1 hF (Hp.refl w) rfl rfl rfl rfl rfl Tryz.underlying147 ti168 rfl (by decide) ?_
   intro a' w' g hH' hE' hF'
   exact wpList_nil (fl_end hC hF' hE' (by exact (show RSl _ 2 _ 1 (pcV [(msg.getD q 0 :: lab, false)]) from rsl_lit (n := 1) (size := 2) hH' rfl (by decide))))) ?_
  intro a w hE hF hall
  replace hH := hH.ext hE
  obtain ⟨_, s42, rfl⟩ := hall 42 _ rfl
  replace hF := hF.more s42
  obtain ⟨v44, s44, p44⟩ := hall 44 _ rfl
  replace hF := hF.more s44
  obtain ⟨_, s45, rfl⟩ := hall 45 _ rfl
  replace hF := hF.more s45
  obtain ⟨_, s47, rfl⟩ := hall 47 _ rfl
  replace hF := hF.more s47
  obtain ⟨_, s48, rfl⟩ := hall 48 _ rfl
  replace hF := hF.more s48
  obtain ⟨v49, s49, p49⟩ := hall 49 _ rfl
  replace hF := hF.more s49
  clear hall
  replace hH := hH.toB2
  refine ls_append hF hH rfl rfl rfl rfl rfl rfl Tryz.underlying147 ti168 hS p49 (pcV_one [(_, false)]) (by decide) (by omega) ?_
  intro a v10_12 w B10_12 hH hS hF
  replace hH := hH.fromB2
  refine zl hF rfl (r_nilcheck hF rfl rfl) fun a hF => ?_
  refine zl hF rfl (r_fieldaddr0 hF rfl rfl fd180_3) fun a hF => ?_
  refine ls_store 0 hF hH rfl rfl rfl rfl rfl fl147 ti147 rfl (by simp) (by simp [noFreeze]) (hS.one) ?_
  intro w hH
  refine wpList_nil ?_
  refine t10.norm ?_
  refine k9 ?_
  refine c_reg fun ops => ?_
  refine zm 1 hF rfl fun a hF => ?_
  refine wpList_nil ?_
  refine k3 ?_
  refine ⟨n, Nat.lt_succ_self _, q + 1 + (msg.getD q 0).toNat, qs ++ [(msg.getD q 0 :: lab, false)], false, _, _, by omega, by omega, by rw [List.length_append, List.length_singleton]; omega, ?_, hF.keep [0, 3] rfl, hH, by rw [pcV_append, List.length_append]; exact hS⟩
  rw [he]
  by_cases hx : msg.length ≤ q + 1 + (msg.getD q 0).toNat
  · rw [if_pos hx, if_pos ⟨rfl, hx⟩]
  · rw [if_neg hx, if_neg (fun h => hx h.2)]
end
end Go.Proofs.YtpoebplhemimmaaGreatDoor
namespace Go.Proofs.YtpoebplhemimmaaGreatDoor
variable {Ds : List Deferred}
open Go.RowKit
set_option linter.unusedVariables false
set_option linter.unusedSimpArgs false
set_option maxHeartbeats 1000000
section
variable {P : Program} {ops : Array Oper} {Q : Exit → Act → World → Prop} {rest : List Oper} {o : Oper} {a : Act} {w w0 w' : World} {N dd : Nat} {L : List (Nat × Value)} {H B : List (Nat × Obj)} {v : Value}
def aggT (P : Program) (t : TypeId) : Bool := match P.underlying t with
  | some (.struct _) | some (.array _ _) => true
  | _ => false
theorem run_isAgg_T {t : TypeId} (h : aggT P t = true) : (isAgg t).run P w = .ok true w := by
  unfold aggT at h
  split at h
  · rename_i hs; simp [isAgg, run_underlying hs]
  · rename_i hs; simp [isAgg, run_underlying hs]
  · cases h
theorem run_loadVar_T {t : TypeId} {b q size bytes : Nat} {cs : List Value} (ht : aggT P t = true) (hti : TI P t size bytes) (hs : cs.length = size) (hc : ∀ j u, cs[j]? = some u → w.cell? ⟨b, q + j, none⟩ = some u) :
    (loadVar t ⟨b, q, none⟩).run P w = .ok (.agg cs.toArray) w := by
  obtain ⟨inf, z, h1, _, rfl, _, _⟩ := hti
  have hl := run_loadCells_list (P := P) w ⟨b, q, none⟩ cs (fun j u hu => by rw [Addr.add_lit]; exact hc j u hu)
  rw [hs] at hl
  simp [loadVar, run_isAgg_T ht, sizeOf, typeInfo, h1, hl]
theorem r_loadT (hF : FrD Ds N L a) {x : Operand} {t : TypeId} {b q size bytes : Nat} {cs : List Value} (ho : o.op = .load t x) (hx : ev L x = some (.pointer (some ⟨b, q, none⟩))) (ht : aggT P t = true)
    (hti : TI P t size bytes) (hs : cs.length = size) (hc : ∀ j u, cs[j]? = some u → w.cell? ⟨b, q + j, none⟩ = some u) : Does P o a w (.agg cs.toArray) w := by
  left; unfold execOp
  simp [ho, hF.ev hx, Instr.loadAt, Instr.sureAddr, run_loadVar_T ht hti hs hc]
theorem r_indexarr (hF : FrD Ds N L a) {x y : Operand} {t e : TypeId} {n bytes : Nat} {cs : Array Value} {k : IntKind} {u : Value} (i : Nat) (ho : o.op = .index t x y) (hx : ev L x = some (.agg cs)) (hy : ev L y = some (.int k (i : Int))) (ht : P.underlying t = some (.array n e)) (hti : TI P e 1 bytes) (hfl : flat P e = true)
    (hi : i < n) (hc : cs[i]? = some u) : Does P o a w u w := by
  obtain ⟨inf, z, h1, _, h2, _, _⟩ := hti
  left; unfold execOp
  simp [ho, hF.ev hx, hF.ev hy, Instr.index, asIntOf, run_underlying ht, hi, sizeOf, typeInfo, h1, h2, part, run_isAgg_flat hfl, hc]
theorem eqIn_fnil (d : Nat) {t : TypeId} {ps rs : Array TypeId} {vr : Bool} (h : P.underlying t = some (.func ps rs vr)) : (Op.equalIn (d + 1) t .nilFunc .nilFunc).run P w = .ok true w := by
  simp [Op.equalIn, run_underlying h]
theorem eqIn_fsome (d : Nat) {t : TypeId} {ps rs : Array TypeId} {vr : Bool} {fn : Fn} {x y : Array Value} (h : P.underlying t = some (.func ps rs vr)) : (Op.equalIn (d + 1) t (.func fn x y) .nilFunc).run P w = .ok false w := by
  simp [Op.equalIn, run_underlying h]
theorem b_fnil {t : TypeId} {ps rs : Array TypeId} {vr : Bool} (h : P.underlying t = some (.func ps rs vr)) : (binOp .eql t .nilFunc .nilFunc).run P w = .ok (.bool true) w := by
  simp only [binOp]
  simp [Op.equal, Op.maxDepth, eqIn_fnil 9999 h]
theorem b_fsome {t : TypeId} {ps rs : Array TypeId} {vr : Bool} {fn : Fn} {x y : Array Value} (h : P.underlying t = some (.func ps rs vr)) : (binOp .eql t (.func fn x y) .nilFunc).run P w = .ok (.bool false) w := by
  simp only [binOp]
  simp [Op.equal, Op.maxDepth, eqIn_fsome 9999 h]
theorem results_c2 {fn : Func} {t u : Nat} {ty : TypeId} {g : Nat} {cs : List Value} {tmps : Array Value} {v2 : Value} (h : fn.results = #[.cell t ty, .tmp u]) (h1 : tmps[t]? = some (.pointer (some ⟨g, 0, none⟩))) (h2 : tmps[u]? = some v2)
    (hl : (loadVar ty ⟨g, 0, none⟩).run P w = .ok (.agg cs.toArray) w) : (results fn tmps).run P w = .ok (.tuple #[.agg cs.toArray, v2]) w := by
  simp [results, h, Array.getD_eq_getD_getElem?, h1, h2, asAddr, hl]
theorem retc2 {fn : Func} {R : Value → World → Prop} {t u g i : Nat} {ty : TypeId} {size bytes : Nat} {cs : Array Value} {v2 : Value} {e : TypeId} {fr : Nat × Nat} (hF : Fr N L a) (hH : Hp w0 w H) (hr : fn.results = #[.cell t ty, .tmp u]) (h1 : lk L t = some (.pointer (some ⟨g, 0, none⟩))) (h2 : lk L u = some v2)
    (ht : aggT P ty = true) (hti : TI P ty size bytes) (hi : H[i]? = some (g, .cells cs e fr)) (hs : cs.size = size) (h : R (.tuple #[.agg cs, v2]) w) :
    bodyPost P fn (fun e w' => ∃ v, e = .returned v ∧ R v w') .ret a w := by
  have hl := run_loadVar_T (w := w) (cs := cs.toList) ht hti (by simpa using hs) (own_agg hH hi)
  exact bodyPost_ret (results_c2 hr (hF.lk h1) (hF.lk h2) hl) hF.defers ⟨_, rfl, by simpa using h⟩
end
end Go.Proofs.YtpoebplhemimmaaGreatDoor
