/-
  The walks of comp.New, of a table's At, keep and Put. Nothing is claimed here.
-/
import Derived.Test.YtpoebplhemimmaaGreatDoorPut
import Derived.Test.YtpoebplhemimmaaGreatDoorWLaw
import Derived.Laws.Cover3
import Derived.Laws.BitsAllLaws
namespace Go.Proofs.YtpoebplhemimmaaGreatDoor
open Go.RowKit
set_option linter.unusedVariables false
set_option linter.unusedSimpArgs false
set_option maxHeartbeats 1000000

section
variable {P : Program} {w : World}
theorem b_mapnil {t k e : TypeId} {m : Option Nat} (h : P.underlying t = some (.map k e)) : (binOp .eql t (.map m) (.map none)).run P w = .ok (.bool m.isNone) w := by
  simp only [binOp]
  simp [run_equal_map_nil w t k e m h]
theorem b_or14 (t : TypeId) (n : Nat) (h : n ≤ 16383) : (binOp .or t (.int .u16 49152) (.int .u16 (n : Int))).run P w = .ok (.int .u16 ((49152 + n : Nat) : Int)) w := by
  have h1 : bits .or .u16 49152 (n : Int) = ((49152 + n : Nat) : Int) := by
    have := u16_or_nat 49152 n (by decide) (by omega)
    have h2 := Nat.two_pow_add_eq_or_of_lt (i := 14) (b := n) (by omega) 3
    rw [show 2 ^ 14 * 3 = 49152 by decide] at h2
    rw [← h2] at this; exact this
  simp [go_sem, h1]
end
/-- The blocks of a table. -/
def TabB (tb : Tab) (g : Nat) (BT : List (Nat × Obj)) : Prop := (BT = [(g, .cells #[.map none] 129 (0, 0))] ∧ tb = []) ∨ ∃ r es c, BT = [(g, .cells #[.map (some r)] 129 (0, 0)), (r, .map es c)] ∧ MapE es tb
/-- A table, read. -/
def TabR (w : World) (g : Nat) (tb : Tab) : Prop := ∃ mv, w.cell? ⟨g, 0, none⟩ = some mv ∧ ((mv = .map none ∧ tb = []) ∨ ∃ r es c, mv = .map (some r) ∧ w.heap[r]? = some (.map es c) ∧ MapE es tb)
theorem Ext.heap {w w' : World} (h : Ext w w') {r : Nat} {o : Obj} (hr : w.heap[r]? = some o) : w'.heap[r]? = some o := by
  have hlt := (Array.getElem?_eq_some_iff.1 hr).1
  obtain ⟨_, _, _, _, h5⟩ := h
  rw [h5 r hlt]; exact hr
theorem TabR.ext {w w' : World} {g : Nat} {tb : Tab} (h : TabR w g tb) (he : Ext w w') : TabR w' g tb := by
  obtain ⟨mv, h1, h2⟩ := h
  exact ⟨mv, he.cell h1, h2.imp id fun ⟨r, es, c, e, hr, hm⟩ => ⟨r, es, c, e, he.heap hr, hm⟩⟩
theorem TabB.read {w0 w : World} {H BT : List (Nat × Obj)} {g : Nat} {tb : Tab} (h : TabB tb g BT) (hH : Hp w0 w H) (hB : ∀ p ∈ BT, p ∈ H) : TabR w g tb := by
  have cell : ∀ {m}, (g, Obj.cells #[.map m] 129 (0, 0)) ∈ H → w.cell? ⟨g, 0, none⟩ = some (.map m) := fun hm => by
    have := (hH.own _ hm).1
    simp only at this
    exact Sl.cell this 0
  rcases h with ⟨rfl, rfl⟩ | ⟨r, es, c, rfl, hm⟩
  · exact ⟨_, cell (hB _ (List.mem_cons_self ..)), .inl ⟨rfl, rfl⟩⟩
  · exact ⟨_, cell (hB _ (List.mem_cons_self ..)), .inr ⟨r, es, c, rfl, (hH.own _ (hB _ (List.mem_cons_of_mem _ (List.mem_cons_self ..)))).1, hm⟩⟩
theorem tnew_spec (w0 : World) : Rets Tryz.prog 40 [] w0 fun v w' => ∃ g, v = ptr g ∧ Hp w0 w' [(g, .cells #[.map none] 129 (0, 0))] := by
  have hH := Hp.refl w0
  refine rets_start Tryz.func40 rfl Tryz.ntmps40 rfl fun a Q0 hF hret hend => ?_
  simp only [argsFrom, Nat.zero_add, Nat.reduceAdd] at hF
  refine c_sr fun ops => ?_
  refine zm 1 hF rfl fun a hF => ?_
  refine c_n ?_
  replace hF := hF.sel []
  simp only [ss, Nat.reduceBEq] at hF
  refine c_sr fun ops => ?_
  refine zl hF rfl (r_build hF rfl rfl (bd129 _)) fun a hF => ?_
  refine ls_box hF hH rfl rfl rfl rfl rfl ?_
  intro a w g1_1 hH hE hF
  refine zm 1 hF rfl fun a hF => ?_
  refine c_n ?_
  replace hF := hF.sel [0]
  simp only [ss, Nat.reduceBEq] at hF
  refine wp_ret (hret (ret1 hF Tryz.results40 rfl ?_))
  exact ⟨_, rfl, hH⟩
theorem tat_spec (n : Bs) (tb : Tab) (g : Nat) (w0 : World) (hT : TabR w0 g tb) : Rets Tryz.prog 84 [ptr g, .string (mk n)] w0 fun v w' => v = .tuple #[.int .i64 (((tabAt tb n).getD 0 : Nat) : Int), .bool (tabAt tb n).isSome] ∧ Ext w0 w' := by
  have hH := Hp.refl w0
  obtain ⟨mv, hmv, hm⟩ := hT
  refine rets_start Tryz.func84 rfl Tryz.ntmps84 rfl fun a Q0 hF hret hend => ?_
  simp only [argsFrom, Nat.zero_add, Nat.reduceAdd] at hF
  refine c_sr fun ops => ?_
  refine zm 2 hF rfl fun a hF => ?_
  refine c_n ?_
  replace hF := hF.sel [0, 1]
  simp only [ss, Nat.reduceBEq] at hF
  refine c_seq fun Q1 k1 t1 => ?_
  refine c_sr fun ops => ?_
  refine zm 1 hF rfl fun a hF => ?_
  refine zb hF rfl rfl rfl (b_peq Tryz.underlying91) fun a hF => ?_
  refine c_n ?_
  replace hF := hF.sel [0, 1, 9]
  simp only [ss, Nat.reduceBEq] at hF
  refine c_if hF rfl (fun h9 => ?_) (fun h9 => ?_)
  ·
   try simp only [qq] at h9
   exact absurd h9 (by simp)
  try simp only [qq] at h9
  refine wp_skip ?_
  refine k1 ?_
  refine c_sr fun ops => ?_
  refine zm 1 hF rfl fun a hF => ?_
  refine zl hF rfl (r_nilcheck hF rfl rfl) fun a hF => ?_
  refine zl hF rfl (r_fieldaddr0 hF rfl rfl fd129_0) fun a hF => ?_
  refine zl hF rfl (r_load hF rfl rfl fl127 (hH.cell hmv)) fun a hF => ?_
  refine zm 1 hF rfl fun a hF => ?_
  refine zl hF rfl (r_lookup hF rfl rfl rfl Tryz.underlying127 Tryz.underlying9 zv3 (hm.imp id fun ⟨r, es, c, e, hr, hx⟩ => ⟨r, es, c, e, hH.below.heap hr, hx⟩)) fun a hF => ?_
  refine zm 5 hF rfl fun a hF => ?_
  refine c_n ?_
  replace hF := hF.sel [6, 7]
  simp only [ss, Nat.reduceBEq] at hF
  refine c_sr fun ops => ?_
  refine zm 4 hF rfl fun a hF => ?_
  refine c_n ?_
  replace hF := hF.sel [4, 5]
  simp only [ss, Nat.reduceBEq] at hF
  refine wp_ret (hret (ret2 hF Tryz.results84 rfl rfl ?_))
  exact ⟨rfl, hH.below⟩
theorem keep_nil {w0 w1 : World} {H : List (Nat × Obj)} {g : Nat} (n : Bs) (q : Nat) (hH0 : Hp w0 w1 ((g, .cells #[.map none] 129 (0, 0)) :: H)) :
    Rets Tryz.prog 85 [ptr g, .string (mk n), .int .i64 (q : Nat)] w1 fun v w' => v = .tuple #[] ∧ ∃ BT', TabB (keepT true [] n q) g BT' ∧ Hp w0 w' (BT' ++ H) := by
  have hH := hH0
  refine rets_start Tryz.func85 rfl Tryz.ntmps85 rfl fun a Q0 hF hret hend => ?_
  simp only [argsFrom, Nat.zero_add, Nat.reduceAdd] at hF
  refine c_seq fun Q1 k1 t1 => ?_
  refine c_sr fun ops => ?_
  refine zm 1 hF rfl fun a hF => ?_
  refine zb hF rfl rfl rfl (b_gtn _ _ _ 16383) fun a hF => ?_
  refine c_n ?_
  replace hF := hF.sel [0, 1, 2, 7]
  simp only [ss, Nat.reduceBEq] at hF
  refine c_if hF rfl (fun h7 => ?_) (fun h7 => ?_)
  ·
   try simp only [qq] at h7
   refine wp_ret (t1.ret (hret (ret0 hF Tryz.results85 ?_)))
   refine ⟨rfl, _, ?_, show Hp w0 _ ([_] ++ H) from hH⟩
   rw [keepT, if_neg (by omega)]; exact .inl ⟨rfl, rfl⟩
  try simp only [qq] at h7
  refine wp_skip ?_
  refine k1 ?_
  refine c_seq fun Q2 k2 t2 => ?_
  refine c_sr fun ops => ?_
  refine zm 1 hF rfl fun a hF => ?_
  refine zl hF rfl (r_nilcheck hF rfl rfl) fun a hF => ?_
  refine zl hF rfl (r_fieldaddr0 hF rfl rfl fd129_0) fun a hF => ?_
  refine zl hF rfl (r_load hF rfl rfl fl127 (own_cell (i := 0) hH rfl rfl)) fun a hF => ?_
  refine zb hF rfl rfl rfl (b_mapnil Tryz.underlying127) fun a hF => ?_
  refine c_n ?_
  replace hF := hF.sel [0, 1, 2, 12]
  simp only [ss, Nat.reduceBEq] at hF
  refine c_fi hF rfl (fun h12 => ?_) (fun h12 => ?_)
  ·
   try simp only [qq] at h12
   exact absurd h12 (by simp)
  try simp only [qq] at h12
  refine c_reg fun ops => ?_
  refine zm 1 hF rfl fun a hF => ?_
  refine ls_makemap hF hH rfl rfl rfl rfl ?_
  intro a w g2_1 hH hE hF
  refine zl hF rfl (r_nilcheck hF rfl rfl) fun a hF => ?_
  refine zl hF rfl (r_fieldaddr0 hF rfl rfl fd129_0) fun a hF => ?_
  refine ls_store 1 hF hH rfl rfl rfl rfl rfl fl127 ti127 rfl (by simp) (by simp [noFreeze]) (rfl) ?_
  intro w hH
  simp only [List.set_cons_succ, List.set_cons_zero] at hH
  refine wpList_nil ?_
  replace hF := hF.sel [0, 1, 2]
  simp only [ss, Nat.reduceBEq] at hF
  refine k2 ?_
  refine c_reg fun ops => ?_
  refine zm 1 hF rfl fun a hF => ?_
  refine zl hF rfl (r_nilcheck hF rfl rfl) fun a hF => ?_
  refine zl hF rfl (r_fieldaddr0 hF rfl rfl fd129_0) fun a hF => ?_
  refine zl hF rfl (r_load hF rfl rfl fl127 (own_cell (i := 1) hH rfl rfl)) fun a hF => ?_
  refine zm 2 hF rfl fun a hF => ?_
  refine ls_mapnew (i := 0) hF hH rfl rfl rfl rfl rfl rfl Tryz.underlying127 Tryz.underlying9 rfl ((show MapE #[] [] from rfl)) (rfl) ?_
  intro w es3_6 c3_6 hH hM
  simp only [List.set_cons_zero] at hH
  refine wpList_nil ?_
  replace hF := hF.sel []
  simp only [ss, Nat.reduceBEq] at hF
  refine hend (fall0 (fn := Tryz.f85) hF Tryz.results85 ?_)
  refine ⟨rfl, _, ?_, show Hp w0 w ([_, _] ++ H) from hH.perm (List.Perm.swap _ _ _)⟩
  rw [keepT, if_pos ⟨rfl, by omega⟩]; exact .inr ⟨_, _, _, rfl, hM⟩
theorem keep_some {w0 w1 : World} {H : List (Nat × Obj)} {g r c : Nat} {es : Array MapEntry} {tb : Tab} (n : Bs) (q : Nat) (hH0 : Hp w0 w1 ((g, .cells #[.map (some r)] 129 (0, 0)) :: (r, .map es c) :: H)) (hM : MapE es tb) (hn : tabAt tb n = none) :
    Rets Tryz.prog 85 [ptr g, .string (mk n), .int .i64 (q : Nat)] w1 fun v w' => v = .tuple #[] ∧ ∃ BT', TabB (keepT true tb n q) g BT' ∧ Hp w0 w' (BT' ++ H) := by
  have hH := hH0
  refine rets_start Tryz.func85 rfl Tryz.ntmps85 rfl fun a Q0 hF hret hend => ?_
  simp only [argsFrom, Nat.zero_add, Nat.reduceAdd] at hF
  refine c_seq fun Q1 k1 t1 => ?_
  refine c_sr fun ops => ?_
  refine zm 1 hF rfl fun a hF => ?_
  refine zb hF rfl rfl rfl (b_gtn _ _ _ 16383) fun a hF => ?_
  refine c_n ?_
  replace hF := hF.sel [0, 1, 2, 7]
  simp only [ss, Nat.reduceBEq] at hF
  refine c_if hF rfl (fun h7 => ?_) (fun h7 => ?_)
  ·
   try simp only [qq] at h7
   refine wp_ret (t1.ret (hret (ret0 hF Tryz.results85 ?_)))
   refine ⟨rfl, _, ?_, show Hp w0 _ ([_, _] ++ H) from hH⟩
   rw [keepT, if_neg (by omega)]; exact .inr ⟨_, _, _, rfl, hM⟩
  try simp only [qq] at h7
  refine wp_skip ?_
  refine k1 ?_
  refine c_seq fun Q2 k2 t2 => ?_
  refine c_sr fun ops => ?_
  refine zm 1 hF rfl fun a hF => ?_
  refine zl hF rfl (r_nilcheck hF rfl rfl) fun a hF => ?_
  refine zl hF rfl (r_fieldaddr0 hF rfl rfl fd129_0) fun a hF => ?_
  refine zl hF rfl (r_load hF rfl rfl fl127 (own_cell (i := 0) hH rfl rfl)) fun a hF => ?_
  refine zb hF rfl rfl rfl (b_mapnil Tryz.underlying127) fun a hF => ?_
  refine c_n ?_
  replace hF := hF.sel [0, 1, 2, 12]
  simp only [ss, Nat.reduceBEq] at hF
  refine c_if hF rfl (fun h12 => ?_) (fun h12 => ?_)
  ·
   try simp only [qq] at h12
   exact absurd h12 (by simp)
  try simp only [qq] at h12
  refine wp_skip ?_
  refine k2 ?_
  refine c_reg fun ops => ?_
  refine zm 1 hF rfl fun a hF => ?_
  refine zl hF rfl (r_nilcheck hF rfl rfl) fun a hF => ?_
  refine zl hF rfl (r_fieldaddr0 hF rfl rfl fd129_0) fun a hF => ?_
  refine zl hF rfl (r_load hF rfl rfl fl127 (own_cell (i := 0) hH rfl rfl)) fun a hF => ?_
  refine zm 2 hF rfl fun a hF => ?_
  refine ls_mapnew (i := 1) hF hH rfl rfl rfl rfl rfl rfl Tryz.underlying127 Tryz.underlying9 rfl (hM) (hn) ?_
  intro w es3_6 c3_6 hH hM
  simp only [List.set_cons_succ, List.set_cons_zero] at hH
  refine wpList_nil ?_
  replace hF := hF.sel []
  simp only [ss, Nat.reduceBEq] at hF
  refine hend (fall0 (fn := Tryz.f85) hF Tryz.results85 ?_)
  refine ⟨rfl, _, ?_, show Hp w0 w ([_, _] ++ H) from hH⟩
  rw [keepT, if_pos ⟨rfl, by omega⟩]; exact .inr ⟨_, _, _, rfl, hM⟩
theorem keep_spec {w0 w1 : World} {H BT : List (Nat × Obj)} {g : Nat} {tb : Tab} (n : Bs) (q : Nat) (hT : TabB tb g BT) (hH0 : Hp w0 w1 (BT ++ H)) (hn : tabAt tb n = none) :
    Rets Tryz.prog 85 [ptr g, .string (mk n), .int .i64 (q : Nat)] w1 fun v w' => v = .tuple #[] ∧ ∃ BT', TabB (keepT true tb n q) g BT' ∧ Hp w0 w' (BT' ++ H) := by
  rcases hT with ⟨rfl, rfl⟩ | ⟨r, es, c, rfl, hm⟩
  · exact keep_nil n q hH0
  · exact keep_some n q hH0 hm hn
/-- No place is beyond what a pointer may say. -/
def TabS (tb : Tab) : Prop := ∀ n q, tabAt tb n = some q → q ≤ 16383
theorem TabS.keep {tb : Tab} (h : TabS tb) (kn : Bool) {n : Bs} (hn : tabAt tb n = none) (q : Nat) : TabS (keepT kn tb n q) := by
  intro m p hp
  by_cases e : m = n
  · subst e
    have := tabAt_keep_self hn hp; omega
  · rw [tabAt_keep_ne e] at hp; exact h m p hp
theorem nameL_head (x : Bs) (l : List Bs) : (nameL (x :: l)).getD 0 0 = UInt8.ofNat x.length := by rw [nameL_cons]; rfl
theorem nameL_take (x : Bs) (l : List Bs) : (nameL (x :: l)).take (1 + x.length) = UInt8.ofNat x.length :: x := by
  rw [nameL_cons, Nat.add_comm, List.take_succ_cons, List.take_left' rfl]
theorem nameL_drop (x : Bs) (l : List Bs) : (nameL (x :: l)).drop (1 + x.length) = nameL l := by
  rw [nameL_cons, Nat.add_comm, List.drop_succ_cons, List.drop_left' rfl]
theorem nameL_root {l : List Bs} (hl : okL l) : nameL l = [0] ↔ l = [] := by
  constructor
  · intro h
    cases l with
    | nil => rfl
    | cons x l =>
      have hx := hl x (List.mem_cons_self ..)
      rw [nameL_cons] at h
      have := congrArg List.length h
      simp [nameL] at this
  · rintro rfl; rfl
def stepT (kn : Bool) (t : Tab) (n : Bs) (pos : Nat) : Tab := match tabAt t n with
  | none => keepT kn t n pos
  | some _ => t
theorem putL_ptr {kn : Bool} {x : Bs} {l : List Bs} {t : Tab} {q : Nat} (h : tabAt t (nameL (x :: l)) = some q) (pos : Nat) : putL true kn (x :: l) pos t = (be2 (49152 + q), t) := by
  unfold putL
  rw [show joinL (x :: l) ++ [0] = nameL (x :: l) from rfl, h]; rfl
theorem putL_lab {cmp kn : Bool} {x : Bs} {l : List Bs} {t : Tab} (h : cmp = true → tabAt t (nameL (x :: l)) = none) (pos : Nat) :
    putL cmp kn (x :: l) pos t = (UInt8.ofNat x.length :: (x ++ (putL cmp kn l (pos + 1 + x.length) (stepT kn t (nameL (x :: l)) pos)).1), (putL cmp kn l (pos + 1 + x.length) (stepT kn t (nameL (x :: l)) pos)).2) := by
  unfold stepT
  rw [putL, show joinL (x :: l) ++ [0] = nameL (x :: l) from rfl]
  cases hq : tabAt t (nameL (x :: l)) with
  | none => rfl
  | some q =>
    cases cmp with
    | true => rw [h rfl] at hq; cases hq
    | false => rfl
theorem keepT_false (t : Tab) (n : Bs) (pos : Nat) : keepT false t n pos = t := by unfold keepT; rw [if_neg (fun h => by cases h.1)]
theorem tput_spec {w0 w1 : World} {H BT : List (Nat × Obj)} {g : Nat} {tb : Tab} {v : Value} {b nm : Bs} {cmp kn : Bool} (hT : TabB tb g BT) (hH0 : Hp w0 w1 (BT ++ H)) (hv : RSl w1 1 v b.length (bytV b)) (hb : b.length < 1000000) (hn : mayB nm = true) (hTS : TabS tb) :
    Rets Tryz.prog 67 [ptr g, v, .string (mk nm), .bool cmp, .bool kn] w1 fun r w' => ∃ rv B BT', r = .tuple #[rv, .int .i64 0] ∧ Hp w0 w' (B ++ (BT' ++ H)) ∧
      Sl 5 1 B rv (b ++ (nmW cmp kn nm b.length tb).1).length (bytV (b ++ (nmW cmp kn nm b.length tb).1)) ∧ TabB (nmW cmp kn nm b.length tb).2 g BT' ∧ TabS (nmW cmp kn nm b.length tb).2 := by
  have hH := hH0
  obtain ⟨l0, hl0⟩ := may_iff.1 hn
  obtain ⟨hnl, hokl, hlen⟩ := split_some.1 hl0
  have hput : nmW cmp kn nm b.length tb = putL cmp kn l0 b.length tb := by unfold nmW; rw [hl0]; rfl
  rw [hput]
  have hnlen : nm.length ≤ 255 := by rw [hnl]; simp; omega
  have hnl' : nm = nameL l0 := hnl
  refine rets_start Tryz.func67 rfl Tryz.ntmps67 rfl fun a Q0 hF hret hend => ?_
  simp only [argsFrom, Nat.zero_add, Nat.reduceAdd] at hF
  refine c_sr fun ops => ?_
  refine zm 2 hF rfl fun a hF => ?_
  refine c_n ?_
  replace hF := hF.sel [0, 1, 2, 3, 4]
  simp only [ss, Nat.reduceBEq] at hF
  refine c_seq fun Q1 k1 t1 => ?_
  refine c_block fun Q2 t2 => ?_
  refine c_sr fun ops => ?_
  refine zm 1 hF rfl fun a hF => ?_
  refine zb hF rfl rfl rfl (b_peq Tryz.underlying91) fun a hF => ?_
  refine zm 1 hF rfl fun a hF => ?_
  refine c_n ?_
  replace hF := hF.sel [0, 1, 2, 3, 4, 16]
  simp only [ss, Nat.reduceBEq] at hF
  refine c_if hF rfl (fun h16 => ?_) (fun h16 => ?_)
  ·
   try simp only [qq] at h16
   exact absurd h16 (by simp)
  try simp only [qq] at h16
  refine c_sr fun ops => ?_
  refine zm 1 hF rfl fun a hF => ?_
  refine zc hF rfl rfl fn50 (may_spec nm (by omega) _) ?_
  rintro _ w ⟨rfl, hE⟩ a hF
  replace hH := hH.ext hE; replace hv := hv.ext hE
  refine zl hF rfl (r_not hF rfl rfl) fun a hF => ?_
  refine zm 1 hF rfl fun a hF => ?_
  refine c_n ?_
  replace hF := hF.sel [0, 1, 2, 3, 4, 19]
  simp only [ss, Nat.reduceBEq] at hF
  refine c_if hF rfl (fun h19 => ?_) (fun h19 => ?_)
  ·
   try simp only [qq] at h19
   exact absurd h19 (by simp [hn])
  try simp only [qq] at h19
  refine wp_skip ?_
  refine t2.norm ?_
  refine k1 ?_
  refine c_sr fun ops => ?_
  refine ls_buildN (us := []) hF hH rfl rfl rfl rfl rfl rfl Tryz.underlying26 ti5 (fun _ h => (List.not_mem_nil h).elim) (by decide) ?_
  intro a w g5_0 hH hE hF
  have hX : Sl 5 1 [(g5_0, .cells #[] 5 (0, 0))] (.slice (some ⟨g5_0, 0, none⟩) 0 0) 0 [] := ⟨rfl, .inr ⟨g5_0, 0, _, rfl, rfl, Nat.le_refl _, Nat.zero_le _, rfl, rfl⟩⟩
  have hvw := hv.ext hE
  refine zm 1 hF rfl fun a hF => ?_
  refine ls_append hF hH rfl rfl rfl rfl rfl rfl Tryz.underlying26 ti5 hX hvw (bytV_one _) (by decide) (by omega) ?_
  intro a v5_2 w B5_2 hH hX hF
  refine zm 1 hF rfl fun a hF => ?_
  refine c_n ?_
  replace hF := hF.sel [0, 2, 3, 4, 12]
  simp only [ss, Nat.reduceBEq] at hF
  rw [Nat.zero_add, List.nil_append] at hX
  refine c_seq fun Q3 k3 t3 => ?_
  refine c_block fun Q4 t4 => ?_
  refine c_loop (fun n a w => ∃ l bi ti B BT v12, n = l.length ∧ okL l ∧ bi.length + (nameL l).length ≤ b.length + nm.length ∧ Fr 67 [(0, ptr g), (2, .string (mk (nameL l))), (3, .bool cmp), (4, .bool kn), (12, v12)] a ∧ Hp w0 w (B ++ (BT ++ H)) ∧ Sl 5 1 B v12 bi.length (bytV bi) ∧ TabB ti g BT ∧ TabS ti ∧ b ++ (putL cmp kn l0 b.length tb).1 = bi ++ (putL cmp kn l bi.length ti).1 ∧ (putL cmp kn l0 b.length tb).2 = (putL cmp kn l bi.length ti).2) ?_ ?_
  ·
   refine ⟨_, l0, b, tb, _, BT, _, rfl, hokl, by rw [← hnl']; omega, ?_, hH, hX, hT, hTS, rfl, rfl⟩
   rw [hnl'] at hF
   exact hF.keep [0, 2, 3, 4, 12] rfl
  clear hH hF hX hT hTS hH0
  intro n a w hI Q5 k5 t5
  obtain ⟨l, bi, ti, B, BT, v12, hm, hol, hbl, hF, hH, hS, hT, hTS, e1, e2⟩ := hI
  obtain ⟨vad, vcp, rfl⟩ := hS.shape
  refine c_seq fun Q6 k6 t6 => ?_
  refine c_sr fun ops => ?_
  refine zm 1 hF rfl fun a hF => ?_
  refine zb hF rfl rfl rfl (b_sne _ _ [0]) fun a hF => ?_
  refine c_n ?_
  refine c_fi hF rfl (fun h27 => ?_) (fun h27 => ?_)
  ·
   try simp only [qq] at h27
   obtain e3 : l = [] := (nameL_root hol).1 h27
   rw [e3] at e1 e2
   refine wp_exit (t6.exit (t5.exit (t4.here (?_))))
   refine k3 ?_
   refine c_sr fun ops => ?_
   refine zm 1 hF rfl fun a hF => ?_
   refine ls_appendstr hF hH rfl rfl rfl rfl rfl rfl Tryz.underlying26 Tryz.underlying9 ti5 zv5 hS (by simp; omega) ?_
   intro a v15_1 w B15_1 hH hS hF
   refine zm 2 hF rfl fun a hF => ?_
   refine c_n ?_
   replace hF := hF.sel [10, 11]
   simp only [ss, Nat.reduceBEq] at hF
   refine wp_ret (hret (ret2 hF Tryz.results67 rfl rfl ?_))
   rw [e1, e2]
   exact ⟨_, _, BT, rfl, hH, by show Sl 5 1 _ _ (bi ++ [0]).length (bytV (bi ++ [0])); rw [List.length_append, bytV_append]; exact hS, hT, hTS⟩
  try simp only [qq] at h27
  obtain ⟨x, l', e3⟩ : ∃ x l', l = x :: l' := by
    cases l with
    | nil => exact absurd rfl h27
    | cons x l' => exact ⟨x, l', rfl⟩
  rw [e3] at hol hbl hF e1 e2 hm
  have hx := hol x (List.mem_cons_self ..)
  have hol' : okL l' := fun y hy => hol y (List.mem_cons_of_mem _ hy)
  have hnx : (nameL (x :: l')).length = 1 + x.length + (nameL l').length := by rw [nameL_cons]; simp; omega
  refine wp_skip ?_
  refine k6 ?_
  refine c_block fun Q7 t7 => ?_
  refine c_sr fun ops => ?_
  refine zm 2 hF rfl fun a hF => ?_
  refine zc hF rfl rfl fn84 (tat_spec (nameL (x :: l')) ti g _ (hT.read hH fun p hp => List.mem_append_right _ (List.mem_append_left _ hp))) ?_
  rintro _ w ⟨rfl, hE⟩ a hF
  replace hH := hH.ext hE
  refine zm 5 hF rfl fun a hF => ?_
  refine c_n ?_
  refine c_cut (fun a w => (cmp = true → tabAt ti (nameL (x :: l')) = none) ∧ Fr 67 [(0, ptr g), (2, .string (mk (nameL (x :: l')))), (3, .bool cmp), (4, .bool kn), (12, .slice vad bi.length vcp), (14, .bool (tabAt ti (nameL (x :: l'))).isSome)] a ∧ Hp w0 w (B ++ (BT ++ H))) (fun Q8 k8 t8 => ?_) ?_
  ·
   refine c_sg ?_
   refine zm 2 hF rfl fun a hF => ?_
   refine l_ask (d := 35) hF rfl (fun g8_1 => ?_) (fun g8_1 => ?_)
   ·
    have g8_1' := g8_1; try simp only [qq] at g8_1'
    refine zn hF rfl g8_1 fun a hF => ?_
    refine zl hF rfl (r_pickf hF rfl rfl g8_1 rfl) fun a hF => ?_
    refine c_n ?_
    refine c_no hF rfl rfl ?_
    refine wp_skip ?_
    refine k8 ?_
    refine ⟨fun hc => ?_, hF.keep [0, 2, 3, 4, 12, 14] rfl, hH⟩
    first
      | exact absurd hc (by simpa using h37)
      | simpa using g8_1
   have g8_1' := g8_1; try simp only [qq] at g8_1'
   refine zy hF rfl g8_1 (r_move hF rfl rfl) fun a hF => ?_
   refine zl hF rfl (r_pickt hF rfl rfl g8_1 rfl) fun a hF => ?_
   refine c_n ?_
   refine c_fi hF rfl (fun h37 => ?_) (fun h37 => ?_)
   ·
    try simp only [qq] at h37
    refine wp_skip ?_
    refine k8 ?_
    refine ⟨fun hc => ?_, hF.keep [0, 2, 3, 4, 12, 14] rfl, hH⟩
    first
      | exact absurd hc (by simpa using h37)
      | simpa using g8_1
   try simp only [qq] at h37
   obtain ⟨q, hq⟩ := Option.isSome_iff_exists.1 g8_1
   have hq1 := hTS _ q hq
   rw [hq, Option.getD_some] at hF
   refine c_sr fun ops => ?_
   refine zm 2 hF rfl fun a hF => ?_
   refine zl hF rfl (r_convin hF rfl rfl (by rw [Tryz.underlying3]; rfl) Tryz.underlying28 (0) 65535 mn_u16 mx_u16 (by omega)) fun a hF => ?_
   refine zb hF rfl rfl rfl (b_or14 _ q hq1) fun a hF => ?_
   refine zc hF rfl rfl fn65 (put2_spec bi (49152 + q) _ _ (hS.rsl hH fun p hp => List.mem_append_left _ hp) (by omega) (by omega)) ?_
   rintro v42 w ⟨B2, hB2, hS2⟩ a hF
   replace hH := hH.join hB2
   refine zm 2 hF rfl fun a hF => ?_
   refine c_n ?_
   replace hF := hF.sel [10, 11]
   simp only [ss, Nat.reduceBEq] at hF
   refine wp_ret (t8.ret (t7.ret (t5.ret (t4.ret (t3.ret (hret (ret2 hF Tryz.results67 rfl rfl ?_)))))))
   subst h37
   rw [putL_ptr hq] at e1 e2
   rw [e1, e2]
   exact ⟨_, B2, BT, rfl, hH.sub (List.Sublist.append_left (List.sublist_append_right B _) B2), by rw [List.length_append, be2_len]; exact hS2, hT, hTS⟩
  clear hH hF
  rintro a w ⟨hcn, hF, hH⟩
  have hlab := putL_lab (kn := kn) hcn bi.length
  rw [hlab] at e1 e2
  refine c_cut (fun a w => ∃ BT', TabB (stepT kn ti (nameL (x :: l')) bi.length) g BT' ∧ TabS (stepT kn ti (nameL (x :: l')) bi.length) ∧ Fr 67 [(0, ptr g), (2, .string (mk (nameL (x :: l')))), (3, .bool cmp), (4, .bool kn), (12, .slice vad bi.length vcp)] a ∧ Hp w0 w (B ++ (BT' ++ H))) (fun Q9 k9 t9 => ?_) ?_
  ·
   refine c_sg ?_
   refine zm 2 hF rfl fun a hF => ?_
   refine l_ask (d := 44) hF rfl (fun g10_1 => ?_) (fun g10_1 => ?_)
   ·
    have g10_1' := g10_1; try simp only [qq] at g10_1'
    refine zn hF rfl g10_1 fun a hF => ?_
    refine zn hF rfl g10_1 fun a hF => ?_
    refine zl hF rfl (r_pickf hF rfl rfl g10_1 rfl) fun a hF => ?_
    refine c_n ?_
    refine c_no hF rfl rfl ?_
    refine wp_skip ?_
    refine k9 ?_
    first
      | (refine ⟨BT2, ?_, ?_, hF.keep [0, 2, 3, 4, 12] rfl, hH.perm (by classical
          rw [List.perm_iff_count]; intro z; simp only [List.count_append]; omega)⟩
         · unfold stepT; rw [hnone, g10_1]; exact hT2
         · unfold stepT; rw [hnone]; exact hTS.keep kn hnone _)
      | (refine ⟨BT, ?_, ?_, hF.keep [0, 2, 3, 4, 12] rfl, hH⟩
         · unfold stepT
           first
             | (cases hq : tabAt ti (nameL (x :: l')) with
                 | none => rw [g10_1, keepT_false]; exact hT
                 | some q => exact hT)
             | (cases hq : tabAt ti (nameL (x :: l')) with
                 | none => rw [hq] at h47; simp at h47
                 | some q => exact hT)
         · unfold stepT
           cases hq : tabAt ti (nameL (x :: l')) with
             | none => exact hTS.keep kn hq _
             | some q => exact hTS)
   have g10_1' := g10_1; try simp only [qq] at g10_1'
   refine zy hF rfl g10_1 (r_move hF rfl rfl) fun a hF => ?_
   refine zy hF rfl g10_1 (r_not hF rfl rfl) fun a hF => ?_
   refine zl hF rfl (r_pickt hF rfl rfl g10_1 rfl) fun a hF => ?_
   refine c_n ?_
   refine c_fi hF rfl (fun h47 => ?_) (fun h47 => ?_)
   ·
    try simp only [qq] at h47
    refine wp_skip ?_
    refine k9 ?_
    first
      | (refine ⟨BT2, ?_, ?_, hF.keep [0, 2, 3, 4, 12] rfl, hH.perm (by classical
          rw [List.perm_iff_count]; intro z; simp only [List.count_append]; omega)⟩
         · unfold stepT; rw [hnone, g10_1]; exact hT2
         · unfold stepT; rw [hnone]; exact hTS.keep kn hnone _)
      | (refine ⟨BT, ?_, ?_, hF.keep [0, 2, 3, 4, 12] rfl, hH⟩
         · unfold stepT
           first
             | (cases hq : tabAt ti (nameL (x :: l')) with
                 | none => rw [g10_1, keepT_false]; exact hT
                 | some q => exact hT)
             | (cases hq : tabAt ti (nameL (x :: l')) with
                 | none => rw [hq] at h47; simp at h47
                 | some q => exact hT)
         · unfold stepT
           cases hq : tabAt ti (nameL (x :: l')) with
             | none => exact hTS.keep kn hq _
             | some q => exact hTS)
   try simp only [qq] at h47
   have hnone : tabAt ti (nameL (x :: l')) = none := by
     first
       | simpa using h47
       | (cases hq : tabAt ti (nameL (x :: l')) with
          | none => rfl
          | some q => rw [hq] at h47; simp at h47)
   refine c_reg fun ops => ?_
   refine zm 3 hF rfl fun a hF => ?_
   refine zl hF rfl (r_len_sl hF rfl rfl Tryz.underlying26) fun a hF => ?_
   refine zc hF rfl rfl fn85 (keep_spec (nameL (x :: l')) bi.length hT (show Hp w0 w (BT ++ (B ++ H)) from hH.perm (by classical
     rw [List.perm_iff_count]; intro z; simp only [List.count_append]; omega)) hnone) ?_
   rintro _ w ⟨rfl, BT2, hT2, hH⟩ a hF
   refine wpList_nil ?_
   refine k9 ?_
   first
     | (refine ⟨BT2, ?_, ?_, hF.keep [0, 2, 3, 4, 12] rfl, hH.perm (by classical
         rw [List.perm_iff_count]; intro z; simp only [List.count_append]; omega)⟩
        · unfold stepT; rw [hnone, g10_1]; exact hT2
        · unfold stepT; rw [hnone]; exact hTS.keep kn hnone _)
     | (refine ⟨BT, ?_, ?_, hF.keep [0, 2, 3, 4, 12] rfl, hH⟩
        · unfold stepT
          first
            | (cases hq : tabAt ti (nameL (x :: l')) with
                | none => rw [g10_1, keepT_false]; exact hT
                | some q => exact hT)
            | (cases hq : tabAt ti (nameL (x :: l')) with
                | none => rw [hq] at h47; simp at h47
                | some q => exact hT)
        · unfold stepT
          cases hq : tabAt ti (nameL (x :: l')) with
            | none => exact hTS.keep kn hq _
            | some q => exact hTS)
  clear hH hF hT hTS
  rintro a w ⟨BT', hT, hTS, hF, hH⟩
  refine c_sr fun ops => ?_
  refine zm 1 hF rfl fun a hF => ?_
  refine zl hF rfl (r_indexn hF 0 rfl rfl rfl Tryz.underlying9 (by omega)) fun a hF => ?_
  rw [nameL_head, len8 hx.2] at hF
  refine zl hF rfl (r_convin hF rfl rfl (by rw [Tryz.underlying5]; rfl) Tryz.underlying3 (-9223372036854775808) 9223372036854775807 mn_i64 mx_i64 (by omega)) fun a hF => ?_
  refine zb hF rfl rfl rfl (b_addn _ 1 _ (by omega)) fun a hF => ?_
  refine zm 1 hF rfl fun a hF => ?_
  refine c_n ?_
  refine c_sr fun ops => ?_
  refine zm 3 hF rfl fun a hF => ?_
  refine zl hF rfl (r_slicetn hF _ rfl rfl Tryz.underlying9 ⟨_, rfl⟩ (by omega)) fun a hF => ?_
  rw [nameL_take] at hF
  refine ls_appendstr hF hH rfl rfl rfl rfl rfl rfl Tryz.underlying26 Tryz.underlying9 ti5 zv5 hS (by simp; omega) ?_
  intro a v13_4 w B13_4 hH hS hF
  refine zm 1 hF rfl fun a hF => ?_
  refine c_n ?_
  refine c_reg fun ops => ?_
  refine zm 2 hF rfl fun a hF => ?_
  refine zl hF rfl (r_slicefn hF _ rfl rfl Tryz.underlying9 ⟨_, rfl⟩ (by omega)) fun a hF => ?_
  rw [nameL_drop] at hF
  refine zm 1 hF rfl fun a hF => ?_
  refine wpList_nil ?_
  refine t7.norm ?_
  refine k5 ?_
  refine ⟨l'.length, by rw [hm]; simp, l', bi ++ (UInt8.ofNat x.length :: x), _, _, BT', _, rfl, hol', by simp; omega, hF.keep [0, 2, 3, 4, 12] rfl, hH, ?_, hT, hTS, ?_, ?_⟩
  · rw [bytV_append, show (bi ++ (UInt8.ofNat x.length :: x)).length = bi.length + (UInt8.ofNat x.length :: x).length by simp]; exact hS
  · rw [e1, show (bi ++ UInt8.ofNat x.length :: x).length = bi.length + 1 + x.length by simp; omega]; simp
  · rw [e2, show (bi ++ UInt8.ofNat x.length :: x).length = bi.length + 1 + x.length by simp; omega]
end Go.Proofs.YtpoebplhemimmaaGreatDoor
