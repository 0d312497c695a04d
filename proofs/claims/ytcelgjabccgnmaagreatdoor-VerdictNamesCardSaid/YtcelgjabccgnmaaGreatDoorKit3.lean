/-
  Sets that are read; records of a set; numbers. Nothing is claimed here.
-/
import Derived.Test.YtcelgjabccgnmaaGreatDoorKit2
import Derived.Test.YtcelgjabccgnmaaGreatDoorRrL
namespace Go.Proofs.YtcelgjabccgnmaaGreatDoor
open Go.RowKit
set_option linter.unusedVariables false
set_option linter.unusedSimpArgs false
set_option maxHeartbeats 1000000

theorem rsl_at {w0 w : World} {H : List (Nat × Obj)} {i g n size : Nat} {cs : Array Value} {e : TypeId} {fr : Nat × Nat} (hH : Hp w0 w H) (hi : H[i]? = some (g, .cells cs e fr)) (hs : cs.size = n * size) (hn : n ≤ 1000) : RSl w size (.slice (some ⟨g, 0, none⟩) n n) n cs.toList :=
  ⟨by simpa using hs, _, n, rfl, Nat.le_refl _, by unfold maxLen; omega, .inr ⟨g, 0, rfl, fun j u hu => by rw [Nat.zero_add]; exact own_cell hH hi (by simpa using hu)⟩⟩
theorem SetsR.one {w : World} {v dv : Value} {s : RSet} (h : RSl w 5 v 1 (setV s dv)) (hd : RSl w 1 dv s.data.length (strV s.data)) : SetsR w v [s] :=
  ⟨[dv], rfl, by simpa [setsV] using h, fun i hi => by
    have : i = 0 := by simp at hi; exact hi
    subst this; exact hd⟩
theorem gsets {w0 w : World} {B : List (Nat × Obj)} {v : Value} {es : List Ent} {g x : List RSet} (hB : Hp w0 w (B ++ entB es)) (hS : Sl 27 5 B v es.length (entV es)) (hK : EntOk es) (hg : es.map (·.1) = g) (h : g = x) : SetsR w v x := by
  rw [← h, ← hg]; exact sets_read hB hS hK (fun p hp => List.mem_append_left _ hp) (fun p hp => List.mem_append_right _ hp)
theorem gshape {B : List (Nat × Obj)} {v : Value} {es : List Ent} {g x : List RSet} (hS : Sl 27 5 B v es.length (entV es)) (hg : es.map (·.1) = g) (h : g = x) : ∃ ad cap, v = .slice ad x.length cap := by
  obtain ⟨ad, cap, hv⟩ := hS.shape
  refine ⟨ad, cap, ?_⟩
  rw [hv, ← h, ← hg, List.length_map]
theorem sameAll_yes (l : List RSet) {v u : Value} {w0 : World} (ha : SetsR w0 v l) (hb : SetsR w0 u l) (hl : l.length < 1000000) (hdl : ∀ s ∈ l, s.data.length < 1000000) : Rets Tryz.prog 25 [v, u] w0 fun r w' => r = .bool true ∧ Ext w0 w' :=
  (sameAll_spec l l v u w0 ha hb hl hl hdl hdl).mono fun r w' h => ⟨h.1.trans (by rw [decide_eq_true rfl]), h.2⟩
theorem same_yes (x : RSet) {da db : Value} {w0 : World} (ha : RSl w0 1 da x.data.length (strV x.data)) (hb : RSl w0 1 db x.data.length (strV x.data)) (hx : x.data.length < 1000000) : Rets Tryz.prog 21 [.agg (setV x da).toArray, .agg (setV x db).toArray] w0 fun r w' => r = .bool true ∧ Ext w0 w' :=
  (same_set_spec x x da db w0 ha hb hx hx).mono fun r w' h => ⟨h.1.trans (by rw [sameS_self]), h.2⟩

/-- A fresh row of sets, read; nothing that was there turns. -/
theorem groupR_spec (l : List Rec) (v : Value) (w0 : World) (hR : RSl w0 5 v l.length (recsV l)) (hb : RecsB l) (hG : GW w0) :
    Rets Tryz.prog 26 [v] w0 fun r w' => SetsR w' r (groupN l) ∧ Ext w0 w' :=
  (group_spec l v w0 hR hb.len hb.each hG).mono fun r w' ⟨B, es, hB, hS, hK, hg⟩ => ⟨gsets hB hS hK hg rfl, hB.below⟩

theorem records_spec (s : RSet) (dv : Value) (w0 : World) (hv : RSl w0 1 dv s.data.length (strV s.data)) (hl : s.data.length < 1000000) :
    Rets Tryz.prog 32 [.agg (setV s dv).toArray] w0 fun r w' => ∃ B, Hp w0 w' B ∧ Sl 38 5 B r s.data.length (recsV (recsOf s)) := by
  have hH := Hp.refl w0
  obtain ⟨ad, ca, rfl⟩ := hv.shape
  refine rets_start Tryz.func32 rfl Tryz.ntmps32 rfl fun a Q0 hF hret hend => ?_
  simp only [argsFrom, Nat.zero_add, Nat.reduceAdd] at hF
  refine c_sr fun ops => ?_
  refine ls_box hF hH rfl rfl rfl rfl rfl ?_
  intro a w g0_0 hH hE hF
  refine zm 1 hF rfl fun a hF => ?_
  refine c_n ?_
  replace hF := hF.sel [1]
  simp only [ss, Nat.reduceBEq] at hF
  simp only [cells_agg] at hH
  refine c_sr fun ops => ?_
  refine zm 1 hF rfl fun a hF => ?_
  refine c_n ?_
  replace hF := hF.sel [1, 3]
  simp only [ss, Nat.reduceBEq] at hF
  refine c_seq fun Q1 k1 t1 => ?_
  refine c_sr fun ops => ?_
  refine zl hF rfl (r_fieldaddr0 hF rfl rfl fd27_4) fun a hF => ?_
  refine zl hF rfl (r_load hF rfl rfl fl25 (own_cell (i := 0) hH rfl rfl)) fun a hF => ?_
  refine zl hF rfl (r_len_sl hF rfl rfl Tryz.underlying25) fun a hF => ?_
  refine zm 1 hF rfl fun a hF => ?_
  refine c_n ?_
  replace hF := hF.sel [1, 3, 7, 8]
  simp only [ss, Nat.reduceBEq] at hF
  refine c_block fun Q2 t2 => ?_
  refine c_loop (fun n a w => ∃ i B rv, n = s.data.length - i ∧ i ≤ s.data.length ∧ Fr 30 [(1, ptr g0_0), (3, rv), (7, .int .i64 s.data.length), (8, .int .i64 (i : Nat))] a ∧ Hp w0 w (B ++ [(g0_0, .cells (setV s (.slice ad s.data.length ca)).toArray 27 (0, 0))]) ∧ Sl 38 5 B rv i (recsV ((recsOf s).take i))) ?_ ?_
  ·
   exact ⟨_, 0, [], _, rfl, Nat.zero_le _, hF.keep [1, 3, 7, 8] rfl, hH, Sl.nil _ _⟩
  clear hH hF
  intro n a w hI Q3 k3 t3
  obtain ⟨i, B, rv, hm, hi, hF, hH, hS⟩ := hI
  refine c_sr fun ops => ?_
  refine zb hF rfl rfl rfl (b_ltn _ _ _ _) fun a hF => ?_
  refine c_n ?_
  refine c_seq fun Q4 k4 t4 => ?_
  refine c_fi hF rfl (fun h9 => ?_) (fun h9 => ?_)
  ·
   try simp only [qq] at h9
   have hil : i = s.data.length := by omega
   subst hil
   refine wp_exit (t4.exit (t3.exit (t2.here (?_))))
   refine k1 ?_
   refine c_sr fun ops => ?_
   refine zm 2 hF rfl fun a hF => ?_
   refine c_n ?_
   replace hF := hF.sel [2]
   simp only [ss, Nat.reduceBEq] at hF
   refine wp_ret (hret (ret1 hF Tryz.results32 rfl ?_))
   exact ⟨B, hH.sub (List.sublist_append_left _ _), by rw [List.take_of_length_le (by simp [recsOf])] at hS; exact hS⟩
  try simp only [qq] at h9
  obtain ⟨b, off, had, hc⟩ := hv.at h9
  have hgd : s.data.getD i [] = s.data[i] := by simp [List.getD_eq_getElem?_getD, h9]
  have hHl : Hp w0 w ((g0_0, .cells (setV s (.slice (some ⟨b, off, none⟩) s.data.length ca)).toArray 27 (0, 0)) :: B) := by rw [← had]; exact hH.perm (List.perm_append_singleton _ B).symm
  refine wp_skip ?_
  refine k4 ?_
  refine c_seq fun Q5 k5 t5 => ?_
  refine c_block fun Q6 t6 => ?_
  refine c_sr fun ops => ?_
  refine zm 2 hF rfl fun a hF => ?_
  refine c_n ?_
  have hHR := hH
  replace hH := hHl
  refine c_flow [0, 1, 3, 5, 7, 9, 11] [2, 4, 6, 8, 10, 12, 13, 14, 15] [16] [17] (by kernel_rfl) (by kernel_rfl) fun hB => ?_
  refine ps hF rfl rfl rfl rfl (fun w => r_move hF rfl rfl) fun a hF => ?_
  refine ps hF rfl rfl rfl rfl (fun w => r_fieldaddr0 hF rfl rfl fd27_0) fun a hF => ?_
  refine ps hF rfl rfl rfl rfl (fun w => r_fieldaddr0 hF rfl rfl fd27_1) fun a hF => ?_
  refine ps hF rfl rfl rfl rfl (fun w => r_fieldaddr0 hF rfl rfl fd27_2) fun a hF => ?_
  refine ps hF rfl rfl rfl rfl (fun w => r_fieldaddr0 hF rfl rfl fd27_3) fun a hF => ?_
  refine ps hF rfl rfl rfl rfl (fun w => r_fieldaddr0 hF rfl rfl fd27_4) fun a hF => ?_
  refine ps hF rfl rfl rfl rfl (fun w => r_move hF rfl rfl) fun a hF => ?_
  refine fl_start [13, 15, 17, 19, 21, 23, 24, 25, 26] hB (by kernel_rfl) hF ?_
  simp only [wo, hasN, Nat.reduceBEq, cond_true, cond_false] at hF ⊢
  refine fs1 rfl (by
   intro a w Lr hE hC hl
   replace hH := hH.ext hE
   have hF := hC.fr
   exact zl hF rfl (r_load hF rfl rfl fl9 (own_cell (i := 0) hH rfl rfl)) fun a' hF' => wpList_nil (fl_end hC hF' (Ext.refl _) rfl)) ?_
  refine fs1 rfl (by
   intro a w Lr hE hC hl
   replace hH := hH.ext hE
   have hF := hC.fr
   exact zl hF rfl (r_load hF rfl rfl fl23 (own_cell (i := 0) hH rfl rfl)) fun a' hF' => wpList_nil (fl_end hC hF' (Ext.refl _) rfl)) ?_
  refine fs1 rfl (by
   intro a w Lr hE hC hl
   replace hH := hH.ext hE
   have hF := hC.fr
   exact zl hF rfl (r_load hF rfl rfl fl23 (own_cell (i := 0) hH rfl rfl)) fun a' hF' => wpList_nil (fl_end hC hF' (Ext.refl _) rfl)) ?_
  refine fs1 rfl (by
   intro a w Lr hE hC hl
   replace hH := hH.ext hE
   have hF := hC.fr
   exact zl hF rfl (r_load hF rfl rfl fl24 (own_cell (i := 0) hH rfl rfl)) fun a' hF' => wpList_nil (fl_end hC hF' (Ext.refl _) rfl)) ?_
  refine fs1 rfl (by
   intro a w Lr hE hC hl
   replace hH := hH.ext hE
   have hF := hC.fr
   exact zl hF rfl (r_load hF rfl rfl fl25 (own_cell (i := 0) hH rfl rfl)) fun a' hF' => wpList_nil (fl_end hC hF' (Ext.refl _) rfl)) ?_
  refine fs1 rfl (by
   intro a w Lr hE hC hl
   replace hH := hH.ext hE
   obtain ⟨_, s21, rfl⟩ := hl 21 (by decide) _ rfl
   replace hC := hC.more s21
   have hF := hC.fr
   exact zl hF rfl (r_ix1 hF _ rfl rfl rfl Tryz.underlying25 ti9 (by omega)) fun a' hF' => wpList_nil (fl_end hC hF' (Ext.refl _) rfl)) ?_
  refine fs1 rfl (by
   intro a w Lr hE hC hl
   replace hH := hH.ext hE
   obtain ⟨_, s23, rfl⟩ := hl 23 (by decide) _ rfl
   replace hC := hC.more s23
   have hF := hC.fr
   exact zl hF rfl (r_load hF rfl rfl fl9 (hH.cell hc)) fun a' hF' => wpList_nil (fl_end hC hF' (Ext.refl _) rfl)) ?_
  refine fs1 rfl (by
   intro a w Lr hE hC hl
   replace hH := hH.ext hE
   obtain ⟨_, s13, rfl⟩ := hl 13 (by decide) _ rfl
   replace hC := hC.more s13
   obtain ⟨_, s15, rfl⟩ := hl 15 (by decide) _ rfl
   replace hC := hC.more s15
   obtain ⟨_, s17, rfl⟩ := hl 17 (by decide) _ rfl
   replace hC := hC.more s17
   obtain ⟨_, s19, rfl⟩ := hl 19 (by decide) _ rfl
   replace hC := hC.more s19
   obtain ⟨_, s24, rfl⟩ := hl 24 (by decide) _ rfl
   replace hC := hC.more s24
   have hF := hC.fr
   exact zl hF rfl (r_build hF rfl rfl (bd38_0_1_2_3_4 _ _ _ _ _ _ (rfl) (rfl) (rfl) (rfl) (rfl))) fun a' hF' => wpList_nil (fl_end hC hF' (Ext.refl _) rfl)) ?_
  refine fsr rfl (by
   intro a w Lr hE hC hl
   replace hH := hH.ext hE
   obtain ⟨_, s25, rfl⟩ := hl 25 (by decide) _ rfl
   replace hC := hC.more s25
   have hF := hC.fr
   refine ls_build1 hF (Hp.refl w) rfl rfl rfl rfl rfl Tryz.underlying34 ti38 rfl (by decide) ?_
   intro a' w' g hH' hE' hF'
   exact wpList_nil (fl_end hC hF' hE' (rsl_lit (n := 1) (size := 5) hH' rfl (by decide)))) ?_
  intro a w hE hF hall
  replace hH := hH.ext hE
  obtain ⟨_, s13, rfl⟩ := hall 13 _ rfl
  replace hF := hF.more s13
  obtain ⟨_, s15, rfl⟩ := hall 15 _ rfl
  replace hF := hF.more s15
  obtain ⟨_, s17, rfl⟩ := hall 17 _ rfl
  replace hF := hF.more s17
  obtain ⟨_, s19, rfl⟩ := hall 19 _ rfl
  replace hF := hF.more s19
  obtain ⟨_, s21, rfl⟩ := hall 21 _ rfl
  replace hF := hF.more s21
  obtain ⟨_, s23, rfl⟩ := hall 23 _ rfl
  replace hF := hF.more s23
  obtain ⟨_, s24, rfl⟩ := hall 24 _ rfl
  replace hF := hF.more s24
  obtain ⟨_, s25, rfl⟩ := hall 25 _ rfl
  replace hF := hF.more s25
  obtain ⟨v26, s26, p26⟩ := hall 26 _ rfl
  replace hF := hF.more s26
  clear hall
  replace hH := hH.perm (List.perm_append_singleton _ B)
  refine ls_append hF hH rfl rfl rfl rfl rfl rfl Tryz.underlying34 ti38 hS p26 (rec_one ⟨s.name, s.kind, s.cls, s.ttl, s.data.getD i []⟩) (by decide) (by omega) ?_
  intro a v5_16 w B5_16 hH hS hF
  refine wpList_nil ?_
  refine ps hF rfl rfl rfl rfl (fun w => r_assign hF rfl rfl) fun a hF => ?_
  refine t6.norm ?_
  refine k5 ?_
  refine c_reg fun ops => ?_
  refine zb hF rfl rfl rfl (b_addn _ _ 1 (by omega)) fun a hF => ?_
  refine zm 1 hF rfl fun a hF => ?_
  refine wpList_nil ?_
  refine k3 ?_
  refine ⟨s.data.length - (i + 1), by omega, i + 1, _, _, rfl, by omega, hF.keep [1, 3, 7, 8] rfl, by rw [had]; exact hH, ?_⟩
  have e : (recsOf s).take (i + 1) = (recsOf s).take i ++ [⟨s.name, s.kind, s.cls, s.ttl, s.data.getD i []⟩] := by
    rw [List.take_succ_eq_append_getElem (by simpa [recsOf] using h9), hgd]; simp [recsOf]
  rw [e, ← recsV_snoc]; exact hS

section
variable {P : Program} {ops : Array Oper} {Q : Exit → Act → World → Prop} {rest : List Oper} {o : Oper} {a : Act} {w w0 : World} {N dd : Nat} {L : List (Nat × Value)}
theorem b_remn (t : TypeId) (k : IntKind) (n m : Nat) (h : 0 < m) : (binOp .rem t (.int k (n : Int)) (.int k (m : Int))).run P w = .ok (.int k ((n % m : Nat) : Int)) w := by
  have h1 : ¬ ((m : Int) = 0) := by omega
  have h2 : (n : Int).tmod (m : Int) = ((n % m : Nat) : Int) := by
    rw [Int.tmod_eq_emod_of_nonneg (by omega)]; omega
  simp [go_sem, h1, h2]; omega
theorem r_convw (hF : Fr N L a) {x : Operand} {s d : TypeId} {k k' : IntKind} {n z : Int} (ho : o.op = .convert s d x) (hx : ev L x = some (.int k n)) (hs : P.underlying s = some (.int k)) (hd : P.underlying d = some (.int k')) (h : k'.wrap n = z) : Does P o a w (.int k' z) w :=
  h ▸ r_conv hF ho hx (by rw [hs]; rfl) hd
end
theorem u64_nat (z : Int) : ∃ m : Nat, IntKind.u64.wrap z = (m : Int) ∧ m < 18446744073709551616 := by
  have h : 0 ≤ IntKind.u64.wrap z ∧ IntKind.u64.wrap z < 18446744073709551616 := by
    simp [IntKind.wrap, IntKind.bits, IntKind.signed]; omega
  exact ⟨(IntKind.u64.wrap z).toNat, (Int.toNat_of_nonneg h.1).symm, by omega⟩

def noRec : Rec := ⟨[], 0, 0, 0, []⟩
theorem range_snoc {α : Type} (f : Nat → α) (i : Nat) : (List.range (i + 1)).map f = (List.range i).map f ++ [f i] := by simp [List.range_succ]
theorem recsV_append (a b : List Rec) : recsV (a ++ b) = recsV a ++ recsV b := by simp [recsV]
theorem recsV_take : ∀ (l : List Rec) (k : Nat), (recsV l).take (k * 5) = recsV (l.take k)
  | l, 0 => by simp [recsV]
  | [], k + 1 => by simp [recsV]
  | r :: l, k + 1 => by
    have h : recsV (r :: l) = recV r ++ recsV l := rfl
    have h2 : recsV (r :: l.take k) = recV r ++ recsV (l.take k) := rfl
    rw [h, List.take_succ_cons, h2, show (k + 1) * 5 = (recV r).length + k * 5 by simp [recV]; omega, List.take_length_add_append, recsV_take l k]
theorem recsB_mem {l m : List Rec} (h : RecsB l) (hm : ∀ r ∈ m, r ∈ l) (hl : m.length < 1000000) : RecsB m := ⟨hl, fun r hr => h.each r (hm r hr)⟩
theorem rsl_len {w : World} {v : Value} {n : Nat} {l : List Rec} (h : RSl w 5 v n (recsV l)) (hn : n = l.length) : RSl w 5 v l.length (recsV l) := hn ▸ h
section
variable {P : Program} {ops : Array Oper} {Q : Exit → Act → World → Prop} {rest : List Oper} {o : Oper} {a : Act} {w w0 : World} {N dd : Nat} {L : List (Nat × Value)}
/-- append to an empty row of one's own that has no room. -/
theorem ls_appende {s x : Operand} {t e : TypeId} {size bytes m g : Nat} {u : Value} {news : List Value} (hF : Fr N L a) (hg : o.guard = none) (hdst : o.dst = some dd) (hd : Nat.blt dd N = true)
    (ho : o.op = .call { callee := .builtin .append, args := #[s, x], argTypes := #[t, t] }) (hs : ev L s = some (.slice (some ⟨g, 0, none⟩) 0 0)) (hx : ev L x = some u)
    (ht : P.underlying t = some (.slice e)) (hti : TI P e size bytes) (hH : Hp w0 w [(g, .cells #[] e (0, 0))]) (hR : RSl w size u m news)
    (h0 : 0 < bytes) (hb : m * bytes ≤ 140737488355328)
    (k : ∀ a' v' w' B, Ext w w' → Hp w0 w' B → Sl e size B v' m news → Fr N ((dd, v') :: L) a' → wpList P ops Q rest a' w') : wpList P ops Q (o :: rest) a w := by
  obtain ⟨i, z, hi, hz, rfl, rfl, hzs⟩ := hti
  obtain ⟨hl, a2, c, rfl, hmc, hcm, hsrc⟩ := hR
  have hle : m ≤ m * i.bytes := Nat.le_mul_of_pos_right _ h0
  by_cases hm : m = 0
  · subst hm
    have hn : news = [] := List.eq_nil_of_length_eq_zero (by simpa using hl)
    subst hn
    have hrun : (Builtin.append_ #[t, t] o.type #[.slice (some ⟨g, 0, none⟩) 0 0, .slice a2 0 c]).run P w = .ok (.slice (some ⟨g, 0, none⟩) 0 0) w := by
      cases a2 <;> simp [Builtin.append_, run_underlying ht, sizeOf, typeInfo, hi, Builtin.lenOf, Builtin.firstCells, storeCells, loadCells, loadCellsFrom]
    refine ls hF hg hdst hd (v := .slice (some ⟨g, 0, none⟩) 0 0) (.inl ?_) fun a' hF' => k a' _ _ _ (Ext.refl _) hH ⟨by simp, .inr ⟨g, 0, #[], rfl, rfl, Nat.le_refl _, Nat.zero_le _, by simp, by simp⟩⟩ hF'
    rw [exec_builtin hF ho (ev2 hs hx), BigFrame.builtin_append]
    simp [hrun]
  rcases hsrc with ⟨-, rfl, h3⟩ | ⟨b, off, rfl, hsrc⟩
  · omega
  have hnews : ∀ j u, news[j]? = some u → w.cell? ((⟨b, off, none⟩ : Addr).add j) = some u := fun j u hu => by
    rw [Addr.add_lit]; exact hsrc j u hu
  have hge := grownCap_ge w (0 + m) 0 e
  have hA := ((hH.sub (List.nil_sublist _)).drew).alloc (.cells (([] : List Value).toArray ++ news.toArray ++ Builtin.zeroCells z.cells (grownCap w (0 + m) 0 e - (0 + m))) e)
  have hrun := run_append_grow (P := P) w t o.type e i z ht hi hz ⟨g, 0, none⟩ 0 0 [] (by simp) (fun j u hu => by simp at hu) ⟨b, off, none⟩ m c news hl hnews (by omega) (by omega) (growslice_fits (by omega) (by simpa using hb))
  refine ls hF hg hdst hd (.inl ?_) fun a' hF' => k a' _ _ _ ((Ext.drew w).trans (Ext.alloc _ _)) hA ⟨by rw [hl], .inr ⟨w.drew.heap.size, grownCap w (0 + m) 0 e, _, rfl, rfl, by omega, grownCap_le_maxLen w (0 + m) 0 e (by unfold maxLen; omega), ?_, ?_⟩⟩ hF'
  · rw [exec_builtin hF ho (ev2 hs hx), BigFrame.builtin_append, Nat.zero_add] at *
    simp [hrun]
  · simp only [Array.size_append, List.size_toArray, size_zeroCells, hzs, hl, List.length_nil, Nat.zero_add, ← Nat.add_mul] at *
    congr 1; omega
  · simp only [Array.toList_append, List.append_assoc, List.nil_append]
    rw [← hl]; exact List.take_left
end
end Go.Proofs.YtcelgjabccgnmaaGreatDoor
