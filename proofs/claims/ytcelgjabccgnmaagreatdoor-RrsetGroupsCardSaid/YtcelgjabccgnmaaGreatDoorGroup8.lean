/-
  The walk of hustingsref08.Group. Nothing is claimed here.
-/
import Derived.Test.YtcelgjabccgnmaaGreatDoorRef8
namespace Go.Proofs.YtcelgjabccgnmaaGreatDoor
open Go.RowKit
set_option linter.unusedVariables false
set_option linter.unusedSimpArgs false
set_option maxHeartbeats 1000000

theorem sub_rsl {w : World} {size n cap l h : Nat} {ad : Option Addr} {xs : List Value} (hR : RSl w size (.slice ad n cap) n xs) (hl : l ≤ h) (hh : h ≤ n) : RSl w size (.slice (subA ad size l cap) (h - l) (cap - l)) (h - l) ((xs.drop (l * size)).take ((h - l) * size)) := by
  obtain ⟨h1, ad', cap', hv, h2, h3, h4⟩ := hR
  cases hv
  have e1 : h * size = l * size + (h - l) * size := by rw [← Nat.add_mul]; congr 1; omega
  have e2 : h * size ≤ n * size := Nat.mul_le_mul_right _ hh
  refine ⟨by rw [List.length_take, List.length_drop]; omega, _, _, rfl, by omega, by unfold maxLen at *; omega, ?_⟩
  rcases h4 with ⟨-, rfl, rfl⟩ | ⟨b, off, rfl, hc⟩
  · left; refine ⟨trivial, by omega, by omega⟩
  · right
    by_cases hlc : cap = l
    · refine ⟨b, off, by unfold subA; rw [if_pos hlc], fun j u hu => ?_⟩
      have : h - l = 0 := by omega
      rw [this, Nat.zero_mul, List.take_zero] at hu
      simp at hu
    · refine ⟨b, off + l * size, subA_lt (by omega), fun j u hu => ?_⟩
      rw [List.getElem?_take] at hu
      split at hu
      · rw [List.getElem?_drop] at hu
        rw [Nat.add_assoc]
        exact hc _ u hu
      · simp at hu
theorem pm_g {α : Type} (x y : α) (B E : List α) : (B ++ x :: y :: E).Perm ([x] ++ y :: (B ++ E)) := List.perm_middle.trans (.cons x List.perm_middle)
theorem pm_h {α : Type} (x y : α) {E A F : List α} (h : E.Perm (A ++ F)) : (A ++ x :: y :: F).Perm (x :: y :: E) := List.perm_middle.trans (.cons x (List.perm_middle.trans (.cons y h.symm)))
theorem pm_i {α : Type} (x y : α) (A F : List α) : (x :: y :: (A ++ F)).Perm (A ++ x :: y :: F) := (List.perm_middle.trans (.cons x List.perm_middle)).symm
theorem entB_perm {a b : List Ent} (h : a.Perm b) : (entB a).Perm (entB b) := by
  induction h with
  | nil => exact List.Perm.refl _
  | cons x _ ih => rw [entB_cons, entB_cons]; exact List.Perm.append_left _ ih
  | swap x y l => simp only [entB_cons]; exact List.perm_append_comm_assoc _ _ _
  | trans _ _ h1 h2 => exact h1.trans h2
theorem ent_one {e : Ent} (h : e.2.1.oneCell' = true) : ∀ u ∈ setV e.1 e.2.1, u.oneCell' = true := by
  intro u hu
  refine entV_one (es := [e]) (fun x hx => by rw [List.mem_singleton.1 hx]; exact h) u ?_
  simpa [entV] using hu
theorem putN_len (l : List Bs) (d : Bs) : (putN l d).length ≤ l.length + 1 := by
  unfold putN
  split
  · omega
  · have := congrArg List.length (List.takeWhile_append_dropWhile (p := fun x => !bless d x) (l := l))
    rw [List.length_append] at this
    rw [List.length_append, List.length_cons]; omega
theorem entV_erase {es : List Ent} {k : Nat} (h : k < es.length) : (entV es).take (k * 5) ++ (entV es).drop ((k + 1) * 5) = entV (es.eraseIdx k) := by
  rw [(entV_take es k (by omega)).1, (entV_take es (k + 1) (by omega)).2, List.eraseIdx_eq_take_drop_succ, entV_append]
theorem own_row {w0 w : World} {H : List (Nat × Obj)} {i g m k : Nat} {cur : Array Value} {e : TypeId} {fr : Nat × Nat} {es : List Ent} (hH : Hp w0 w H) (hi : H[i]? = some (g, .cells cur e fr)) (hct : cur.toList.take m = entV es) (hk : k < es.length) :
    ∀ j u, (setV es[k].1 es[k].2.1)[j]? = some u → w.cell? ⟨g, k * 5 + j, none⟩ = some u := fun j u hu => own_cell hH hi (take_get hct (entV_get hk j u hu))
theorem empty_sl (g : Nat) : Sl 27 5 [(g, .cells #[] 27 (0, 0))] (.slice (some ⟨g, 0, none⟩) 0 0) 0 [] := ⟨rfl, .inr ⟨g, 0, #[], rfl, rfl, Nat.le_refl _, Nat.zero_le _, rfl, rfl⟩⟩

/-- Sets that are not yet told, and those that are. -/
structure Part8 (es es1 es2 : List Ent) : Prop where
  perm : (es2 ++ es1).Perm es
  rise : SRise (es2.map (·.1))
  ahead : ∀ a ∈ es2, ∀ b ∈ es1, scmp a.1 b.1 < 0
theorem Part8.init (es : List Ent) : Part8 es es [] := ⟨List.Perm.refl _, List.Pairwise.nil, fun _ h => (List.not_mem_nil h).elim⟩
theorem mem_erase {es : List Ent} {k : Nat} {x : Ent} (h : x ∈ es.eraseIdx k) : ∃ j, ∃ hj : j < es.length, j ≠ k ∧ es[j] = x := by
  rw [List.eraseIdx_eq_take_drop_succ] at h
  rcases List.mem_append.1 h with h | h
  · obtain ⟨j, hj, rfl⟩ := List.mem_iff_getElem.1 h
    rw [List.length_take] at hj
    exact ⟨j, by omega, by omega, by rw [List.getElem_take]⟩
  · obtain ⟨j, hj, rfl⟩ := List.mem_iff_getElem.1 h
    rw [List.length_drop] at hj
    exact ⟨k + 1 + j, by omega, by omega, by rw [List.getElem_drop]⟩
theorem Part8.step {es es1 es2 : List Ent} (h : Part8 es es1 es2) {k : Nat} (hk : k < es1.length) (hmin : ∀ j (hj : j < es1.length), ¬ scmp es1[j].1 es1[k].1 < 0) (hg : ∀ e ∈ es, Good e.1) (ho : es.Pairwise fun a b => ¬ sameK a.1 b.1) : Part8 es (es1.eraseIdx k) (es2 ++ [es1[k]]) := by
  have hmk := List.getElem_mem hk
  have hp : (es1[k] :: es1.eraseIdx k).Perm es1 := by
    rw [List.eraseIdx_eq_take_drop_succ]
    refine List.perm_middle.symm.trans ?_
    rw [← List.drop_eq_getElem_cons hk, List.take_append_drop]
  have hsub : ∀ e ∈ es1, e ∈ es := fun e he => h.perm.mem_iff.1 (List.mem_append_right _ he)
  have ho1 : es1.Pairwise fun a b => ¬ sameK a.1 b.1 := by
    have := (h.perm.pairwise_iff (fun {a b} hab hba => hab hba.symm)).2 ho
    exact (List.pairwise_append.1 this).2.1
  refine ⟨?_, ?_, ?_⟩
  · rw [List.append_assoc]
    exact (List.Perm.append_left es2 hp).trans h.perm
  · rw [List.map_append]
    refine List.pairwise_append.2 ⟨h.rise, List.pairwise_singleton _ _, fun a ha b hb => ?_⟩
    obtain ⟨x, hx, rfl⟩ := List.mem_map.1 ha
    rw [List.map_cons, List.map_nil, List.mem_singleton] at hb
    subst hb
    exact h.ahead x hx _ hmk
  · intro a ha b hb
    obtain ⟨j, hj, hjk, rfl⟩ := mem_erase hb
    rcases List.mem_append.1 ha with ha | ha
    · exact h.ahead a ha _ (List.getElem_mem hj)
    · rw [List.mem_singleton.1 ha]
      have h1 := hmin j hj
      have h2 : ¬ scmp es1[j].1 es1[k].1 = 0 := fun e => by
        have hs := (scmp_zero (hg _ (hsub _ (List.getElem_mem hj))) (hg _ (hsub _ hmk))).1 e
        rcases Nat.lt_or_gt_of_ne hjk with hlt | hlt
        · exact List.pairwise_iff_getElem.1 ho1 j k hj hk hlt hs
        · exact List.pairwise_iff_getElem.1 ho1 k j hk hj hlt hs.symm
      have := scmp_anti es1[j].1 es1[k].1
      omega
theorem Part8.done {l : List Rec} {es es2 : List Ent} (h : Part8 es [] es2) (hs : SetsOf l (es.map (·.1))) : es2.map (·.1) = groupN l := by
  have hp : (es2.map (·.1)).Perm (es.map (·.1)) := by have := h.perm; rw [List.append_nil] at this; exact this.map _
  refine group_eq ⟨fun s hs' => hs.is s (hp.mem_iff.1 hs'), fun r hr hm => ?_, (hp.pairwise_iff (fun {a b} hab hba => hab hba.symm)).2 hs.once⟩ h.rise
  obtain ⟨s, h1, h2⟩ := hs.all r hr hm
  exact ⟨s, hp.mem_iff.2 h1, h2⟩
theorem map_once {es : List Ent} (h : (es.map (·.1)).Pairwise fun a b => ¬ sameK a b) : es.Pairwise fun a b => ¬ sameK a.1 b.1 := List.pairwise_map.1 h
theorem setsOf_name {l : List Rec} {u : List RSet} (h : SetsOf l u) {s : RSet} (hs : s ∈ u) : s.name.length ≤ 255 := by
  obtain ⟨r, -, hr, -⟩ := (h.is s hs).at'
  rw [← hr.2.1]; exact fold_le255 _

theorem min_init {es1 : List Ent} (h : 0 < es1.length) : ∀ j (hj : j < es1.length), j < 1 → ¬ scmp es1[j].1 es1[0].1 < 0 := fun j hj h1 => by
  obtain rfl : j = 0 := by omega
  exact scmp_irr _
/-- Where a set stands, as far as it was looked for. -/
def At8 (es : List Ent) (s : RSet) (k : Nat) (z : Int) : Prop := (z = -1 ∧ ∀ j (h : j < es.length), j < k → ¬ sameK es[j].1 s) ∨ ∃ m : Nat, ∃ h : m < es.length, z = (m : Int) ∧ sameK es[m].1 s
theorem At8.init (es : List Ent) (s : RSet) : At8 es s 0 (-1) := .inl ⟨rfl, fun _ _ h => (Nat.not_lt_zero _ h).elim⟩
theorem At8.yes {es : List Ent} {s : RSet} {k : Nat} (h : k < es.length) (hs : sameK es[k].1 s) (j : Nat) : At8 es s j k := .inr ⟨k, h, rfl, hs⟩
theorem At8.no {es : List Ent} {s : RSet} {k : Nat} {z : Int} (ha : At8 es s k z) (h : k < es.length) (hs : ¬ sameK es[k].1 s) : At8 es s (k + 1) z :=
  ha.imp (fun ⟨e, hh⟩ => ⟨e, fun j hj hjk => (Nat.lt_succ_iff_lt_or_eq.1 hjk).elim (hh j hj) fun e => by subst e; exact hs⟩) id
theorem At8.none {es : List Ent} {s : RSet} {k : Nat} {z : Int} (ha : At8 es s k z) (hz : z < 0) (hk : es.length ≤ k) : ∀ x ∈ es.map (·.1), ¬ sameK x s := by
  intro x hx
  obtain ⟨e, he, rfl⟩ := List.mem_map.1 hx
  obtain ⟨j, hj, rfl⟩ := List.mem_iff_getElem.1 he
  rcases ha with ⟨_, h⟩ | ⟨m, _, e, _⟩
  · exact h j hj (Nat.lt_of_lt_of_le hj hk)
  · omega
theorem At8.some {es : List Ent} {s : RSet} {k : Nat} {z : Int} (ha : At8 es s k z) (hz : 0 ≤ z) : ∃ m : Nat, ∃ h : m < es.length, z = (m : Int) ∧ sameK es[m].1 s := by
  rcases ha with ⟨h, _⟩ | h
  · omega
  · exact h
theorem group8_spec (l : List Rec) (v : Value) (w0 : World) (hR : RSl w0 5 v l.length (recsV l)) (hl : l.length < 1000000) (hb : ∀ r ∈ l, r.name.length < 1000000 ∧ r.data.length < 1000000) :
    Rets Tryz.prog 30 [v] w0 fun r w' => ∃ B es, Hp w0 w' (B ++ entB es) ∧ Sl 27 5 B r es.length (entV es) ∧ EntOk es ∧ es.map (·.1) = groupN l := by
  have hH := Hp.refl w0
  obtain ⟨ad, cap, rfl⟩ := hR.shape
  refine rets_start Tryz.func30 rfl Tryz.ntmps30 rfl fun a Q0 hF hret hend => ?_
  simp only [argsFrom, Nat.zero_add, Nat.reduceAdd] at hF
  refine c_sr fun ops => ?_
  refine zm 1 hF rfl fun a hF => ?_
  refine c_n ?_
  replace hF := hF.sel [0]
  simp only [ss, Nat.reduceBEq] at hF
  refine c_sr fun ops => ?_
  refine zm 1 hF rfl fun a hF => ?_
  refine c_n ?_
  replace hF := hF.sel [0, 3]
  simp only [ss, Nat.reduceBEq] at hF
  refine c_seq fun Q1 k1 t1 => ?_
  refine c_sr fun ops => ?_
  refine zm 1 hF rfl fun a hF => ?_
  refine c_n ?_
  replace hF := hF.sel [0, 3, 4]
  simp only [ss, Nat.reduceBEq] at hF
  refine c_block fun Q2 t2 => ?_
  refine c_loop (fun n a w => ∃ i B es rv, n = l.length - i ∧ i ≤ l.length ∧ Fr 154 [(0, .slice ad l.length cap), (3, rv), (4, .int .i64 i)] a ∧ Hp w0 w (B ++ entB es) ∧ Sl 27 5 B rv es.length (entV es) ∧ EntOk es ∧ SetsOf (l.take i) (es.map (·.1)) ∧ es.length ≤ i ∧ ∀ e ∈ es, e.1.data.length ≤ i) ?_ ?_
  ·
   exact ⟨_, 0, [], [], _, rfl, Nat.zero_le _, hF.keep [0, 3, 4] rfl, hH, Sl.nil _ _, fun _ h => (List.not_mem_nil h).elim, SetsOf.nil, Nat.le_refl _, fun _ h => (List.not_mem_nil h).elim⟩
  clear hH hF
  intro n a w hI Q3 k3 t3
  obtain ⟨i, B, es, rv, hm, hi, hF, hH, hS, hK, hg, hel, hed⟩ := hI
  obtain ⟨ad2, cp2, rfl⟩ := hS.shape
  refine c_seq fun Q4 k4 t4 => ?_
  refine c_sr fun ops => ?_
  refine zm 2 hF rfl fun a hF => ?_
  refine zl hF rfl (r_len_sl hF rfl rfl Tryz.underlying34) fun a hF => ?_
  refine zb hF rfl rfl rfl (b_ltn _ _ _ _) fun a hF => ?_
  refine c_n ?_
  refine c_fi hF rfl (fun h16 => ?_) (fun h16 => ?_)
  ·
   try simp only [qq] at h16
   have hil : i = l.length := by omega
   rw [hil, List.take_length] at hg
   have hgood : ∀ e ∈ es, Good e.1 := fun e he => (hg.is _ (List.mem_map_of_mem he)).good
   have hnb : ∀ e ∈ es, e.1.name.length < 1000000 := fun e he => by have := setsOf_name hg (List.mem_map_of_mem he); omega
   have honce := map_once hg.once
   refine wp_exit (t4.exit (t3.exit (t2.here (?_))))
   refine k1 ?_
   refine c_sr fun ops => ?_
   refine zm 1 hF rfl fun a hF => ?_
   refine c_n ?_
   replace hF := hF.sel [3, 10]
   simp only [ss, Nat.reduceBEq] at hF
   refine c_seq fun Q18 k18 t18 => ?_
   refine c_block fun Q19 t19 => ?_
   refine c_loop (fun n a w => ∃ B1 es1 rv B2 es2 ov, n = es1.length ∧ Fr 154 [(3, rv), (10, ov)] a ∧ Hp w0 w (B1 ++ (B2 ++ entB es)) ∧ Sl 27 5 B1 rv es1.length (entV es1) ∧ Sl 27 5 B2 ov es2.length (entV es2) ∧ Part8 es es1 es2) ?_ ?_
   ·
    exact ⟨_, B, es, _, [], [], _, rfl, hF.keep [3, 10] rfl, hH, hS, Sl.nil _ _, Part8.init es⟩
   clear hH hF
   intro n a w hI Q20 k20 t20
   obtain ⟨B1, es1, rv, B2, es2, ov, hn3, hF, hH, hS1, hS2, hP⟩ := hI
   obtain ⟨ad1, cp1, rfl⟩ := hS1.shape
   have hsub : ∀ e ∈ es1, e ∈ es := fun e he => hP.perm.mem_iff.1 (List.mem_append_right _ he)
   have hlen2 := hP.perm.length_eq
   rw [List.length_append] at hlen2
   refine c_seq fun Q21 k21 t21 => ?_
   refine c_sr fun ops => ?_
   refine zm 1 hF rfl fun a hF => ?_
   refine zl hF rfl (r_len_sl hF rfl rfl Tryz.underlying22) fun a hF => ?_
   refine zb hF rfl rfl rfl (b_gtn _ _ _ 0) fun a hF => ?_
   refine c_n ?_
   refine c_fi hF rfl (fun h119 => ?_) (fun h119 => ?_)
   ·
    try simp only [qq] at h119
    have h0 : es1 = [] := List.eq_nil_of_length_eq_zero (by omega)
    subst h0
    have hpe : es2.Perm es := by have := hP.perm; rwa [List.append_nil] at this
    refine wp_exit (t21.exit (t20.exit (t19.here (?_))))
    refine k18 ?_
    refine c_sr fun ops => ?_
    refine zm 2 hF rfl fun a hF => ?_
    refine c_n ?_
    replace hF := hF.sel [2]
    simp only [ss, Nat.reduceBEq] at hF
    refine wp_ret (hret (ret1 hF Tryz.results30 rfl ?_))
    exact ⟨B2, es2, (hH.sub (List.sublist_append_right _ _)).perm (List.Perm.append_left _ (entB_perm hpe)), hS2, fun e he => hK e (hpe.mem_iff.1 he), hP.done hg⟩
   try simp only [qq] at h119
   obtain ⟨g, cp, cur, hv, rfl, hcp, hcm, hcs, hct⟩ := hS1.open (by omega)
   cases hv
   refine wp_skip ?_
   refine k21 ?_
   refine c_block fun Q22 t22 => ?_
   refine c_sr fun ops => ?_
   refine zm 1 hF rfl fun a hF => ?_
   refine c_n ?_
   refine c_seq fun Q23 k23 t23 => ?_
   refine c_sr fun ops => ?_
   refine zm 1 hF rfl fun a hF => ?_
   refine c_n ?_
   refine c_block fun Q24 t24 => ?_
   refine c_loop (fun n a w => ∃ k i2, n = es1.length - i2 ∧ i2 ≤ es1.length ∧ ∃ hk : k < es1.length, (∀ j (hj : j < es1.length), j < i2 → ¬ scmp es1[j].1 es1[k].1 < 0) ∧ Fr 154 [(3, .slice (some ⟨g, 0, none⟩) es1.length cp1), (10, ov), (11, .int .i64 (k : Nat)), (12, .int .i64 (i2 : Nat))] a ∧ Hp w0 w ([(g, .cells cur 27 (0, 0))] ++ (B2 ++ entB es))) ?_ ?_
   ·
    exact ⟨_, 0, 1, rfl, by omega, by omega, min_init (by omega), hF.keep [3, 10, 11, 12] rfl, hH⟩
   clear hH hF
   intro n a w hI Q25 k25 t25
   obtain ⟨k, i2, hn4, hi2, hk, hmin, hF, hH⟩ := hI
   refine c_seq fun Q26 k26 t26 => ?_
   refine c_sr fun ops => ?_
   refine zm 2 hF rfl fun a hF => ?_
   refine zl hF rfl (r_len_sl hF rfl rfl Tryz.underlying22) fun a hF => ?_
   refine zb hF rfl rfl rfl (b_ltn _ _ _ _) fun a hF => ?_
   refine c_n ?_
   refine c_if hF rfl (fun h123 => ?_) (fun h123 => ?_)
   ·
    try simp only [qq] at h123
    refine wp_skip ?_
    refine k26 ?_
    refine c_seq fun Q27 k27 t27 => ?_
    refine c_block fun Q28 t28 => ?_
    refine c_seq fun Q29 k29 t29 => ?_
    refine c_flow [0, 1, 2, 4, 5, 6] [3, 7, 8] [] [] (by kernel_rfl) (by kernel_rfl) fun hB => ?_
    refine ps hF rfl rfl rfl rfl (fun w => r_move hF rfl rfl) fun a hF => ?_
    refine ps hF rfl rfl rfl rfl (fun w => r_move hF rfl rfl) fun a hF => ?_
    refine ps hF rfl rfl rfl rfl (fun w => r_ixown hF _ rfl rfl rfl Tryz.underlying22 ti27 (by omega)) fun a hF => ?_
    refine ps hF rfl rfl rfl rfl (fun w => r_move hF rfl rfl) fun a hF => ?_
    refine ps hF rfl rfl rfl rfl (fun w => r_move hF rfl rfl) fun a hF => ?_
    refine ps hF rfl rfl rfl rfl (fun w => r_ixown hF _ rfl rfl rfl Tryz.underlying22 ti27 (by omega)) fun a hF => ?_
    refine fl_start [129, 133, 134] hB (by kernel_rfl) hF ?_
    simp only [wo, hasN, Nat.reduceBEq, cond_true, cond_false] at hF ⊢
    refine fs1 rfl (by
     intro a w Lr hE hC hl
     replace hH := hH.ext hE
     have hF := hC.fr
     exact zl hF rfl (r_loadagg hF rfl rfl Tryz.underlying27 ti27 rfl (own_row (i := 0) hH rfl hct h123)) fun a' hF' => wpList_nil (fl_end hC hF' (Ext.refl _) rfl)) ?_
    refine fs1 rfl (by
     intro a w Lr hE hC hl
     replace hH := hH.ext hE
     have hF := hC.fr
     exact zl hF rfl (r_loadagg hF rfl rfl Tryz.underlying27 ti27 rfl (own_row (i := 0) hH rfl hct hk)) fun a' hF' => wpList_nil (fl_end hC hF' (Ext.refl _) rfl)) ?_
    refine fs1 rfl (by
     intro a w Lr hE hC hl
     replace hH := hH.ext hE
     obtain ⟨_, s129, rfl⟩ := hl 129 (by decide) _ rfl
     replace hC := hC.more s129
     obtain ⟨_, s133, rfl⟩ := hl 133 (by decide) _ rfl
     replace hC := hC.more s133
     have hF := hC.fr
     refine zc hF rfl rfl fn72 (before8_spec _ _ _ _ (hnb _ (hsub _ (List.getElem_mem h123))) (hnb _ (hsub _ (List.getElem_mem hk))) _) ?_
     rintro _ w' ⟨rfl, hE'⟩ a' hF'
     exact wpList_nil (fl_end hC hF' hE' rfl)) ?_
    intro a w hE hF hall
    replace hH := hH.ext hE
    obtain ⟨_, s129, rfl⟩ := hall 129 _ rfl
    replace hF := hF.more s129
    obtain ⟨_, s133, rfl⟩ := hall 133 _ rfl
    replace hF := hF.more s133
    obtain ⟨_, s134, rfl⟩ := hall 134 _ rfl
    replace hF := hF.more s134
    clear hall
    refine wpList_nil ?_
    refine k29 ?_
    refine c_fi hF rfl (fun h134 => ?_) (fun h134 => ?_)
    ·
     try simp only [qq] at h134
     refine wp_skip ?_
     refine t28.norm ?_
     refine k27 ?_
     refine c_reg fun ops => ?_
     refine zm 1 hF rfl fun a hF => ?_
     refine zb hF rfl rfl rfl (b_addn _ _ 1 (by omega)) fun a hF => ?_
     refine zm 1 hF rfl fun a hF => ?_
     refine wpList_nil ?_
     refine k25 ?_
     first
       | exact ⟨es1.length - (i2 + 1), by omega, i2, i2 + 1, rfl, by omega, h123, fun j hj hji => (Nat.lt_succ_iff_lt_or_eq.1 hji).elim (fun h hc => hmin j hj h (scmp_trans (hgood _ (hsub _ (List.getElem_mem hj))).may (hgood _ (hsub _ (List.getElem_mem h123))).may (hgood _ (hsub _ (List.getElem_mem hk))).may hc h134)) fun e => by subst e; exact scmp_irr _, hF.keep [3, 10, 11, 12] rfl, hH⟩
       | exact ⟨es1.length - (i2 + 1), by omega, k, i2 + 1, rfl, by omega, hk, fun j hj hji => (Nat.lt_succ_iff_lt_or_eq.1 hji).elim (hmin j hj) fun e => by subst e; omega, hF.keep [3, 10, 11, 12] rfl, hH⟩
    try simp only [qq] at h134
    refine c_reg fun ops => ?_
    refine zm 2 hF rfl fun a hF => ?_
    refine wpList_nil ?_
    refine t28.norm ?_
    refine k27 ?_
    refine c_reg fun ops => ?_
    refine zm 1 hF rfl fun a hF => ?_
    refine zb hF rfl rfl rfl (b_addn _ _ 1 (by omega)) fun a hF => ?_
    refine zm 1 hF rfl fun a hF => ?_
    refine wpList_nil ?_
    refine k25 ?_
    first
      | exact ⟨es1.length - (i2 + 1), by omega, i2, i2 + 1, rfl, by omega, h123, fun j hj hji => (Nat.lt_succ_iff_lt_or_eq.1 hji).elim (fun h hc => hmin j hj h (scmp_trans (hgood _ (hsub _ (List.getElem_mem hj))).may (hgood _ (hsub _ (List.getElem_mem h123))).may (hgood _ (hsub _ (List.getElem_mem hk))).may hc h134)) fun e => by subst e; exact scmp_irr _, hF.keep [3, 10, 11, 12] rfl, hH⟩
      | exact ⟨es1.length - (i2 + 1), by omega, k, i2 + 1, rfl, by omega, hk, fun j hj hji => (Nat.lt_succ_iff_lt_or_eq.1 hji).elim (hmin j hj) fun e => by subst e; omega, hF.keep [3, 10, 11, 12] rfl, hH⟩
   try simp only [qq] at h123
   refine wp_exit (t26.exit (t25.exit (t24.here (?_))))
   refine k23 ?_
   refine c_sr fun ops => ?_
   refine zm 3 hF rfl fun a hF => ?_
   refine zl hF rfl (r_ixown hF _ rfl rfl rfl Tryz.underlying22 ti27 (by omega)) fun a hF => ?_
   refine zl hF rfl (r_loadagg hF rfl rfl Tryz.underlying27 ti27 rfl (own_row (i := 0) hH rfl hct hk)) fun a hF => ?_
   refine ls_build1 hF hH rfl rfl rfl rfl rfl Tryz.underlying22 ti27 rfl (by decide) ?_
   intro a w g27_5 hH hE hF
   have hR := rsl_lit (n := 1) (size := 5) hH rfl (by decide)
   replace hH := hH.drop
   replace hH := hH.perm (List.perm_append_comm_assoc B2 _ _)
   refine ls_append hF hH rfl rfl rfl rfl rfl rfl Tryz.underlying22 ti27 hS2 hR (ent_one (hK _ (hsub _ (List.getElem_mem hk))).one) (by decide) (by omega) ?_
   intro a v27_6 w B27_6 hH hS2 hF
   refine zm 1 hF rfl fun a hF => ?_
   refine c_n ?_
   have hHR := hH
   refine c_flow [1, 2, 3, 5, 6, 7, 8] [0] [4, 9] [10] (by kernel_rfl) (by kernel_rfl) fun hB => ?_
   refine ps hF rfl rfl rfl rfl (fun w => r_move hF rfl rfl) fun a hF => ?_
   refine ps hF rfl rfl rfl rfl (fun w => r_move hF rfl rfl) fun a hF => ?_
   refine ps hF rfl rfl rfl rfl (fun w => r_slice_sl hF 0 _ rfl rfl Tryz.underlying22 ti27 rfl ⟨_, rfl⟩ (by omega)) fun a hF => ?_
   refine ps hF rfl rfl rfl rfl (fun w => r_move hF rfl rfl) fun a hF => ?_
   refine ps hF rfl rfl rfl rfl (fun w => r_move hF rfl rfl) fun a hF => ?_
   refine ps hF rfl rfl rfl rfl (fun w => zr hF rfl rfl (b_addn _ _ 1 (by omega))) fun a hF => ?_
   refine ps hF rfl rfl rfl rfl (fun w => r_slice_sl hF _ _ rfl rfl Tryz.underlying22 ti27 ⟨_, rfl⟩ rfl (by omega)) fun a hF => ?_
   refine fl_start [143] hB (by kernel_rfl) hF ?_
   simp only [wo, hasN, Nat.reduceBEq, cond_true, cond_false] at hF ⊢
   refine fs (fun v w' => ∃ g0, v = .slice (some ⟨g0, 0, none⟩) 0 0 ∧ Hp w w' [(g0, .cells #[] 27 (0, 0))]) rfl (fun _ _ _ he h => let ⟨g, h1, h2⟩ := h; ⟨g, h1, h2.ext he⟩) ?_ ?_
   ·
    intro a w Lr hE hC hl
    replace hH := hH.ext hE
    have hF := hC.fr
    refine ls_buildN (us := []) hF (Hp.refl w) rfl rfl rfl rfl rfl rfl Tryz.underlying22 ti27 (fun _ h => (List.not_mem_nil h).elim) (by decide) ?_
    intro a' w' g hH' hE' hF'
    exact wpList_nil (fl_end hC hF' hE' (by exact ⟨_, rfl, Hp.base hE hH'⟩))
   intro a w hE hF hall
   replace hH := hH.ext hE
   obtain ⟨v143, s143, p143⟩ := hall 143 _ rfl
   replace hF := hF.more s143
   clear hall
   obtain ⟨g0, rfl, q143⟩ := p143
   replace hH := hHR.join q143
   have hE0 := empty_sl g0
   have hRow := hS1.rsl hH (fun p hp => List.mem_append_right _ (List.mem_append_right _ (List.mem_append_left _ hp)))
   have hR1 := sub_rsl hRow (Nat.zero_le k) (by omega)
   have hones : ∀ u ∈ entV es1, u.oneCell' = true := entV_one fun e he => (hK e (hsub e he)).one
   refine ls_append hF hH rfl rfl rfl rfl rfl rfl Tryz.underlying22 ti27 hE0 hR1 (fun u hu => hones u (List.mem_of_mem_drop (List.mem_of_mem_take hu))) (by decide) (by omega) ?_
   intro a v28_4 w B28_4 hH hE0 hF
   have hRow2 := hS1.rsl hH (fun p hp => List.mem_append_right _ (List.mem_append_right _ (List.mem_append_left _ hp)))
   have hR2 := sub_rsl hRow2 (l := k + 1) (h := es1.length) (by omega) (Nat.le_refl _)
   refine ls_append hF hH rfl rfl rfl rfl rfl rfl Tryz.underlying22 ti27 hE0 hR2 (fun u hu => hones u (List.mem_of_mem_drop (List.mem_of_mem_take hu))) (by decide) (by omega) ?_
   intro a v28_9 w B28_9 hH hE0 hF
   refine wpList_nil ?_
   refine ps hF rfl rfl rfl rfl (fun w => r_assign hF rfl rfl) fun a hF => ?_
   refine t22.norm ?_
   refine k20 ?_
   have hlE : (es1.eraseIdx k).length = es1.length - 1 := List.length_eraseIdx_of_lt hk
   have hS1n : Sl 27 5 B28_9 v28_9 (es1.eraseIdx k).length (entV (es1.eraseIdx k)) := by
     have e1 : 0 + (k - 0) + (es1.length - (k + 1)) = (es1.eraseIdx k).length := by omega
     have e2 : [] ++ ((entV es1).drop (0 * 5)).take ((k - 0) * 5) ++ ((entV es1).drop ((k + 1) * 5)).take ((es1.length - (k + 1)) * 5) = entV (es1.eraseIdx k) := by
       rw [← entV_erase hk, Nat.zero_mul, List.drop_zero, Nat.sub_zero, List.nil_append, List.take_of_length_le (l := (entV es1).drop _) (by rw [List.length_drop, entV_length]; omega)]
     rw [e1, e2] at hE0; exact hE0
   have hS2n : Sl 27 5 B27_6 v27_6 (es2 ++ [es1[k]]).length (entV (es2 ++ [es1[k]])) := by
     rw [entV_append, List.length_append]; exact hS2
   exact ⟨(es1.eraseIdx k).length, by omega, B28_9, es1.eraseIdx k, v28_9, B27_6, es2 ++ [es1[k]], v27_6, rfl, hF.keep [3, 10] rfl, hH.sub (List.Sublist.append_left (List.Sublist.append_left (List.sublist_append_right _ _) _) _), hS1n, hS2n, hP.step hk (fun j hj => hmin j hj (by omega)) hgood honce⟩
  try simp only [qq] at h16
  obtain ⟨b, off, rfl, -, hrec⟩ := hR.rec h16
  have hmem := List.getElem_mem h16
  obtain ⟨hnl, hdl⟩ := hb _ hmem
  have htk := List.take_succ_eq_append_getElem h16
  refine wp_skip ?_
  refine k4 ?_
  refine c_cut (fun a w => ∃ B' es' rv', Fr 154 [(0, .slice (some ⟨b, off, none⟩) l.length cap), (3, rv'), (4, .int .i64 i)] a ∧ Hp w0 w (B' ++ entB es') ∧ Sl 27 5 B' rv' es'.length (entV es') ∧ EntOk es' ∧ SetsOf (l.take (i + 1)) (es'.map (·.1)) ∧ es'.length ≤ i + 1 ∧ ∀ e ∈ es', e.1.data.length ≤ i + 1) (fun Q5 k5 t5 => ?_) ?_
  ·
   refine c_block fun Q6 t6 => ?_
   refine c_sr fun ops => ?_
   refine zm 2 hF rfl fun a hF => ?_
   refine zl hF rfl (r_indexaddr hF _ rfl rfl rfl Tryz.underlying34 ti38 (by omega)) fun a hF => ?_
   refine zl hF rfl (r_loadagg hF rfl rfl Tryz.underlying38 ti38 rfl (fun j u hu => hH.cell (hrec j u hu))) fun a hF => ?_
   refine ls_alloc hF hH rfl rfl rfl rfl zv38 ?_
   intro a w g5_4 hH hE hF
   refine ls_storeagg 0 hF hH rfl rfl rfl rfl rfl ti38 rfl (rfl) (rfl) (by simp [recV, Value.oneCell']) ?_
   intro w hH
   simp only [List.set_cons_zero] at hH
   refine c_n ?_
   refine c_seq fun Q7 k7 t7 => ?_
   refine c_sg ?_
   refine zl hF rfl (r_fieldaddr0 hF rfl rfl fd38_0) fun a hF => ?_
   refine zl hF rfl (r_load hF rfl rfl fl9 (own_cell (i := 0) hH rfl rfl)) fun a hF => ?_
   refine zc hF rfl rfl fn66 (refMay_spec _ hnl _) ?_
   rintro _ w ⟨rfl, hE⟩ a hF
   replace hH := hH.ext hE
   refine zl hF rfl (r_not hF rfl rfl) fun a hF => ?_
   refine zm 1 hF rfl fun a hF => ?_
   refine ls_ask (d := 27) hF rfl (fun g6_4 => ?_) (fun g6_4 => ?_)
   ·
    have g6_4' := g6_4; try simp only [qq] at g6_4'
    have hm0 : rmay l[i] = false := by simp_all [rmay]
    have hHn : Hp w0 w (B ++ entB es) := hH.drop
    have hSn := hS
    have hEn := hK
    have hgn : SetsOf (l.take (i + 1)) (es.map (·.1)) := by rw [htk]; exact hg.skip hm0
    have hln : es.length ≤ i + 1 := by omega
    have hdn : ∀ e ∈ es, e.1.data.length ≤ i + 1 := fun e he => by have := hed e he; omega
    refine zn hF rfl g6_4 fun a hF => ?_
    refine zn hF rfl g6_4 fun a hF => ?_
    refine zn hF rfl g6_4 fun a hF => ?_
    refine zn hF rfl g6_4 fun a hF => ?_
    refine zn hF rfl g6_4 fun a hF => ?_
    refine zn hF rfl g6_4 fun a hF => ?_
    refine zl hF rfl (r_pickt hF rfl rfl g6_4 rfl) fun a hF => ?_
    refine c_n ?_
    refine c_yes hF rfl rfl ?_
    refine wp_exit (t7.exit (t6.here (?_)))
    refine k5 ?_
    exact ⟨_, _, _, hF.keep [0, 3, 4] rfl, hHn, hSn, hEn, hgn, hln, hdn⟩
   have g6_4' := g6_4; try simp only [qq] at g6_4'
   refine zy hF rfl g6_4 (r_fieldaddr0 hF rfl rfl fd38_1) fun a hF => ?_
   refine zy hF rfl g6_4 (r_load hF rfl rfl fl23 (own_cell (i := 0) hH rfl rfl)) fun a hF => ?_
   refine zy hF rfl g6_4 (r_fieldaddr0 hF rfl rfl fd38_4) fun a hF => ?_
   refine zy hF rfl g6_4 (r_load hF rfl rfl fl9 (own_cell (i := 0) hH rfl rfl)) fun a hF => ?_
   refine zyc hF rfl g6_4 rfl fn67 (refDataMay_spec _ _ hdl _) ?_
   rintro _ w ⟨rfl, hE⟩ a hF
   replace hH := hH.ext hE
   refine zy hF rfl g6_4 (r_not hF rfl rfl) fun a hF => ?_
   refine zl hF rfl (r_pickf hF rfl rfl g6_4 rfl) fun a hF => ?_
   refine c_n ?_
   refine c_if hF rfl (fun h34 => ?_) (fun h34 => ?_)
   ·
    try simp only [qq] at h34
    have hm0 : rmay l[i] = false := by simp_all [rmay]
    have hHn : Hp w0 w (B ++ entB es) := hH.drop
    have hSn := hS
    have hEn := hK
    have hgn : SetsOf (l.take (i + 1)) (es.map (·.1)) := by rw [htk]; exact hg.skip hm0
    have hln : es.length ≤ i + 1 := by omega
    have hdn : ∀ e ∈ es, e.1.data.length ≤ i + 1 := fun e he => by have := hed e he; omega
    refine wp_exit (t7.exit (t6.here (?_)))
    refine k5 ?_
    exact ⟨_, _, _, hF.keep [0, 3, 4] rfl, hHn, hSn, hEn, hgn, hln, hdn⟩
   try simp only [qq] at h34
   have hm1 : rmay l[i] = true := by simp_all [rmay]
   have hse := setOf_yes hm1
   have hsn : (setOf l[i]).name = fold l[i].name := by rw [hse]
   have hsk : (setOf l[i]).kind = l[i].kind := by rw [hse]
   have hsc : (setOf l[i]).cls = l[i].cls := by rw [hse]
   refine wp_skip ?_
   refine k7 ?_
   refine c_sr fun ops => ?_
   refine zl hF rfl (r_fieldaddr0 hF rfl rfl fd38_0) fun a hF => ?_
   refine zl hF rfl (r_load hF rfl rfl fl9 (own_cell (i := 0) hH rfl rfl)) fun a hF => ?_
   refine zc hF rfl rfl fn68 (refFold_spec _ hnl _) ?_
   rintro _ w ⟨rfl, hE⟩ a hF
   replace hH := hH.ext hE
   refine zm 1 hF rfl fun a hF => ?_
   refine c_n ?_
   refine c_sr fun ops => ?_
   refine zl hF rfl (r_fieldaddr0 hF rfl rfl fd38_1) fun a hF => ?_
   refine zl hF rfl (r_load hF rfl rfl fl23 (own_cell (i := 0) hH rfl rfl)) fun a hF => ?_
   refine zl hF rfl (r_fieldaddr0 hF rfl rfl fd38_4) fun a hF => ?_
   refine zl hF rfl (r_load hF rfl rfl fl9 (own_cell (i := 0) hH rfl rfl)) fun a hF => ?_
   refine zc hF rfl rfl fn69 (refDataFold_spec _ _ hdl _) ?_
   rintro _ w ⟨rfl, hE⟩ a hF
   replace hH := hH.ext hE
   refine zm 1 hF rfl fun a hF => ?_
   refine c_n ?_
   refine c_sr fun ops => ?_
   refine zm 1 hF rfl fun a hF => ?_
   refine c_n ?_
   refine c_seq fun Q8 k8 t8 => ?_
   refine c_sr fun ops => ?_
   refine zm 1 hF rfl fun a hF => ?_
   refine c_n ?_
   refine c_block fun Q9 t9 => ?_
   refine c_loop (fun n a w => ∃ k at', n = es.length - k ∧ k ≤ es.length ∧ At8 es (setOf l[i]) k at' ∧ Fr 154 [(0, .slice (some ⟨b, off, none⟩) l.length cap), (3, .slice ad2 es.length cp2), (4, .int .i64 i), (5, ptr g5_4), (6, .string (mk (fold l[i].name))), (7, .string (mk (dfold l[i].kind l[i].data))), (8, .int .i64 at'), (9, .int .i64 (k : Nat))] a ∧ Hp w0 w ((g5_4, .cells (recV l[i]).toArray 38 (0, 0)) :: (B ++ entB es))) ?_ ?_
   ·
    exact ⟨_, 0, -1, rfl, Nat.zero_le _, .init _ _, hF.keep [0, 3, 4, 5, 6, 7, 8, 9] rfl, hH⟩
   clear hH hF
   intro n a w hI Q10 k10 t10
   obtain ⟨k, at', hn2, hk, hat, hF, hH⟩ := hI
   refine c_seq fun Q11 k11 t11 => ?_
   refine c_sr fun ops => ?_
   refine zm 2 hF rfl fun a hF => ?_
   refine zl hF rfl (r_len_sl hF rfl rfl Tryz.underlying22) fun a hF => ?_
   refine zb hF rfl rfl rfl (b_ltn _ _ _ _) fun a hF => ?_
   refine c_n ?_
   refine c_if hF rfl (fun h46 => ?_) (fun h46 => ?_)
   ·
    try simp only [qq] at h46
    obtain ⟨g, cp, cur, hv, rfl, hcp, hcm, hcs, hct⟩ := hS.open (by omega)
    cases hv
    refine wp_skip ?_
    refine k11 ?_
    refine c_seq fun Q12 k12 t12 => ?_
    refine c_block fun Q13 t13 => ?_
    refine c_seq fun Q14 k14 t14 => ?_
    refine q_reg (by kernel_rfl) (by kernel_rfl) ?_
    refine qs hF rfl rfl rfl (fun w hw => r_move hF rfl rfl) fun a hF => ?_
    refine qs hF rfl rfl rfl (fun w hw => r_move hF rfl rfl) fun a hF => ?_
    refine qs hF rfl rfl rfl (fun w hw => r_ixown hF _ rfl rfl rfl Tryz.underlying22 ti27 (by omega)) fun a hF => ?_
    refine qs hF rfl rfl rfl (fun w hw => r_fieldaddr hF rfl rfl fd27_0) fun a hF => ?_
    refine qs hF rfl rfl rfl (fun w hw => r_load hF rfl rfl fl9 (hw.cell (own_cell (i := 1) hH rfl (take_get hct (entV_get h46 0 _ rfl))))) fun a hF => ?_
    refine qs hF rfl rfl rfl (fun w hw => r_move hF rfl rfl) fun a hF => ?_
    refine qs hF rfl rfl rfl (fun w hw => zr hF rfl rfl (b_seq _ _ _)) fun a hF => ?_
    refine qs hF rfl rfl rfl (fun w hw => r_move hF rfl rfl) fun a hF => ?_
    refine q_ask (d := 56) hF rfl (fun g13_7 => ?_) (fun g13_7 => ?_)
    ·
     have g13_7' := g13_7; try simp only [qq] at g13_7'
     refine qsy hF rfl rfl rfl g13_7 rfl rfl (fun w hw => r_move hF rfl rfl) fun a hF => ?_
     refine qsy hF rfl rfl rfl g13_7 rfl rfl (fun w hw => r_move hF rfl rfl) fun a hF => ?_
     refine qsy hF rfl rfl rfl g13_7 rfl rfl (fun w hw => r_ixown hF _ rfl rfl rfl Tryz.underlying22 ti27 (by omega)) fun a hF => ?_
     refine qsy hF rfl rfl rfl g13_7 rfl rfl (fun w hw => r_fieldaddr hF rfl rfl fd27_1) fun a hF => ?_
     refine qsy hF rfl rfl rfl g13_7 rfl rfl (fun w hw => r_load hF rfl rfl fl23 (hw.cell (own_cell (i := 1) hH rfl (take_get hct (entV_get h46 1 _ rfl))))) fun a hF => ?_
     refine qsy hF rfl rfl rfl g13_7 rfl rfl (fun w hw => r_fieldaddr0 hF rfl rfl fd38_1) fun a hF => ?_
     refine qsy hF rfl rfl rfl g13_7 rfl rfl (fun w hw => r_load hF rfl rfl fl23 (hw.cell (own_cell (i := 0) hH rfl rfl))) fun a hF => ?_
     refine qsy hF rfl rfl rfl g13_7 rfl rfl (fun w hw => zr hF rfl rfl (b_eqn _ _ _ _)) fun a hF => ?_
     refine qs hF rfl rfl rfl (fun w hw => r_pickt hF rfl rfl g13_7 rfl) fun a hF => ?_
     refine qs hF rfl rfl rfl (fun w hw => r_move hF rfl rfl) fun a hF => ?_
     refine q_ask (d := 66) hF rfl (fun g13_17 => ?_) (fun g13_17 => ?_)
     ·
      have g13_17' := g13_17; try simp only [qq] at g13_17'
      refine qsy hF rfl rfl rfl g13_17 rfl rfl (fun w hw => r_move hF rfl rfl) fun a hF => ?_
      refine qsy hF rfl rfl rfl g13_17 rfl rfl (fun w hw => r_move hF rfl rfl) fun a hF => ?_
      refine qsy hF rfl rfl rfl g13_17 rfl rfl (fun w hw => r_ixown hF _ rfl rfl rfl Tryz.underlying22 ti27 (by omega)) fun a hF => ?_
      refine qsy hF rfl rfl rfl g13_17 rfl rfl (fun w hw => r_fieldaddr hF rfl rfl fd27_2) fun a hF => ?_
      refine qsy hF rfl rfl rfl g13_17 rfl rfl (fun w hw => r_load hF rfl rfl fl23 (hw.cell (own_cell (i := 1) hH rfl (take_get hct (entV_get h46 2 _ rfl))))) fun a hF => ?_
      refine qsy hF rfl rfl rfl g13_17 rfl rfl (fun w hw => r_fieldaddr0 hF rfl rfl fd38_2) fun a hF => ?_
      refine qsy hF rfl rfl rfl g13_17 rfl rfl (fun w hw => r_load hF rfl rfl fl23 (hw.cell (own_cell (i := 0) hH rfl rfl))) fun a hF => ?_
      refine qsy hF rfl rfl rfl g13_17 rfl rfl (fun w hw => zr hF rfl rfl (b_eqn _ _ _ _)) fun a hF => ?_
      refine qs hF rfl rfl rfl (fun w hw => r_pickt hF rfl rfl g13_17 rfl) fun a hF => ?_
      refine q_nil fun w hE => ?_
      replace hH := hH.ext hE
      refine k14 ?_
      refine c_fi hF rfl (fun h75 => ?_) (fun h75 => ?_)
      ·
       try simp only [qq] at h75
       have hns : ¬ sameK es[k].1 (setOf l[i]) := fun e => h75 (e.2.2.trans hsc)
       refine wp_skip ?_
       refine t13.norm ?_
       refine k12 ?_
       refine c_reg fun ops => ?_
       refine zm 1 hF rfl fun a hF => ?_
       refine zb hF rfl rfl rfl (b_addn _ _ 1 (by omega)) fun a hF => ?_
       refine zm 1 hF rfl fun a hF => ?_
       refine wpList_nil ?_
       refine k10 ?_
       first
         | exact ⟨es.length - (k + 1), by omega, k + 1, k, rfl, by omega, .yes h46 hys _, hF.keep [0, 3, 4, 5, 6, 7, 8, 9] rfl, hH⟩
         | exact ⟨es.length - (k + 1), by omega, k + 1, at', rfl, by omega, hat.no h46 hns, hF.keep [0, 3, 4, 5, 6, 7, 8, 9] rfl, hH⟩
      try simp only [qq] at h75
      have hys : sameK es[k].1 (setOf l[i]) := ⟨g13_7'.trans hsn.symm, g13_17'.trans hsk.symm, h75.trans hsc.symm⟩
      refine c_reg fun ops => ?_
      refine zm 2 hF rfl fun a hF => ?_
      refine wpList_nil ?_
      refine t13.norm ?_
      refine k12 ?_
      refine c_reg fun ops => ?_
      refine zm 1 hF rfl fun a hF => ?_
      refine zb hF rfl rfl rfl (b_addn _ _ 1 (by omega)) fun a hF => ?_
      refine zm 1 hF rfl fun a hF => ?_
      refine wpList_nil ?_
      refine k10 ?_
      first
        | exact ⟨es.length - (k + 1), by omega, k + 1, k, rfl, by omega, .yes h46 hys _, hF.keep [0, 3, 4, 5, 6, 7, 8, 9] rfl, hH⟩
        | exact ⟨es.length - (k + 1), by omega, k + 1, at', rfl, by omega, hat.no h46 hns, hF.keep [0, 3, 4, 5, 6, 7, 8, 9] rfl, hH⟩
     have g13_17' := g13_17; try simp only [qq] at g13_17'
     have hns : ¬ sameK es[k].1 (setOf l[i]) := fun e => g13_17' (e.2.1.trans hsk)
     refine qsn hF rfl rfl rfl g13_17 rfl rfl fun a hF => ?_
     refine qsn hF rfl rfl rfl g13_17 rfl rfl fun a hF => ?_
     refine qsn hF rfl rfl rfl g13_17 rfl rfl fun a hF => ?_
     refine qsn hF rfl rfl rfl g13_17 rfl rfl fun a hF => ?_
     refine qsn hF rfl rfl rfl g13_17 rfl rfl fun a hF => ?_
     refine qsn hF rfl rfl rfl g13_17 rfl rfl fun a hF => ?_
     refine qsn hF rfl rfl rfl g13_17 rfl rfl fun a hF => ?_
     refine qsn hF rfl rfl rfl g13_17 rfl rfl fun a hF => ?_
     refine qs hF rfl rfl rfl (fun w hw => r_pickf hF rfl rfl g13_17 rfl) fun a hF => ?_
     refine q_nil fun w hE => ?_
     replace hH := hH.ext hE
     refine k14 ?_
     refine c_no hF rfl rfl ?_
     refine wp_skip ?_
     refine t13.norm ?_
     refine k12 ?_
     refine c_reg fun ops => ?_
     refine zm 1 hF rfl fun a hF => ?_
     refine zb hF rfl rfl rfl (b_addn _ _ 1 (by omega)) fun a hF => ?_
     refine zm 1 hF rfl fun a hF => ?_
     refine wpList_nil ?_
     refine k10 ?_
     first
       | exact ⟨es.length - (k + 1), by omega, k + 1, k, rfl, by omega, .yes h46 hys _, hF.keep [0, 3, 4, 5, 6, 7, 8, 9] rfl, hH⟩
       | exact ⟨es.length - (k + 1), by omega, k + 1, at', rfl, by omega, hat.no h46 hns, hF.keep [0, 3, 4, 5, 6, 7, 8, 9] rfl, hH⟩
    have g13_7' := g13_7; try simp only [qq] at g13_7'
    have hns : ¬ sameK es[k].1 (setOf l[i]) := fun e => g13_7' (e.1.trans hsn)
    refine qsn hF rfl rfl rfl g13_7 rfl rfl fun a hF => ?_
    refine qsn hF rfl rfl rfl g13_7 rfl rfl fun a hF => ?_
    refine qsn hF rfl rfl rfl g13_7 rfl rfl fun a hF => ?_
    refine qsn hF rfl rfl rfl g13_7 rfl rfl fun a hF => ?_
    refine qsn hF rfl rfl rfl g13_7 rfl rfl fun a hF => ?_
    refine qsn hF rfl rfl rfl g13_7 rfl rfl fun a hF => ?_
    refine qsn hF rfl rfl rfl g13_7 rfl rfl fun a hF => ?_
    refine qsn hF rfl rfl rfl g13_7 rfl rfl fun a hF => ?_
    refine qs hF rfl rfl rfl (fun w hw => r_pickf hF rfl rfl g13_7 rfl) fun a hF => ?_
    refine qs hF rfl rfl rfl (fun w hw => r_move hF rfl rfl) fun a hF => ?_
    refine qsn hF rfl rfl rfl rfl rfl rfl fun a hF => ?_
    refine qsn hF rfl rfl rfl rfl rfl rfl fun a hF => ?_
    refine qsn hF rfl rfl rfl rfl rfl rfl fun a hF => ?_
    refine qsn hF rfl rfl rfl rfl rfl rfl fun a hF => ?_
    refine qsn hF rfl rfl rfl rfl rfl rfl fun a hF => ?_
    refine qsn hF rfl rfl rfl rfl rfl rfl fun a hF => ?_
    refine qsn hF rfl rfl rfl rfl rfl rfl fun a hF => ?_
    refine qsn hF rfl rfl rfl rfl rfl rfl fun a hF => ?_
    refine qs hF rfl rfl rfl (fun w hw => r_pickf hF rfl rfl rfl rfl) fun a hF => ?_
    refine q_nil fun w hE => ?_
    replace hH := hH.ext hE
    refine k14 ?_
    refine c_no hF rfl rfl ?_
    refine wp_skip ?_
    refine t13.norm ?_
    refine k12 ?_
    refine c_reg fun ops => ?_
    refine zm 1 hF rfl fun a hF => ?_
    refine zb hF rfl rfl rfl (b_addn _ _ 1 (by omega)) fun a hF => ?_
    refine zm 1 hF rfl fun a hF => ?_
    refine wpList_nil ?_
    refine k10 ?_
    first
      | exact ⟨es.length - (k + 1), by omega, k + 1, k, rfl, by omega, .yes h46 hys _, hF.keep [0, 3, 4, 5, 6, 7, 8, 9] rfl, hH⟩
      | exact ⟨es.length - (k + 1), by omega, k + 1, at', rfl, by omega, hat.no h46 hns, hF.keep [0, 3, 4, 5, 6, 7, 8, 9] rfl, hH⟩
   try simp only [qq] at h46
   refine wp_exit (t11.exit (t10.exit (t9.here (?_))))
   refine k8 ?_
   refine c_seq fun Q15 k15 t15 => ?_
   refine c_sr fun ops => ?_
   refine zm 1 hF rfl fun a hF => ?_
   refine zb hF rfl rfl rfl (b_lt _ _ _ _) fun a hF => ?_
   refine c_n ?_
   refine c_if hF rfl (fun h78 => ?_) (fun h78 => ?_)
   ·
    try simp only [qq] at h78
    have hnone : ∀ s ∈ es.map (·.1), ¬ sameK s (setOf l[i]) := hat.none (by omega) (by omega)
    refine c_seq fun Q16 k16 t16 => ?_
    have hHR := hH
    refine c_flow [0, 1, 2, 4, 6, 9] [3, 5, 7, 8, 10, 11, 12] [13] [14] (by kernel_rfl) (by kernel_rfl) fun hB => ?_
    refine ps hF rfl rfl rfl rfl (fun w => r_move hF rfl rfl) fun a hF => ?_
    refine ps hF rfl rfl rfl rfl (fun w => r_move hF rfl rfl) fun a hF => ?_
    refine ps hF rfl rfl rfl rfl (fun w => r_fieldaddr0 hF rfl rfl fd38_1) fun a hF => ?_
    refine ps hF rfl rfl rfl rfl (fun w => r_fieldaddr0 hF rfl rfl fd38_2) fun a hF => ?_
    refine ps hF rfl rfl rfl rfl (fun w => r_fieldaddr0 hF rfl rfl fd38_3) fun a hF => ?_
    refine ps hF rfl rfl rfl rfl (fun w => r_move hF rfl rfl) fun a hF => ?_
    refine fl_start [82, 84, 86, 87, 89, 90, 91] hB (by kernel_rfl) hF ?_
    simp only [wo, hasN, Nat.reduceBEq, cond_true, cond_false] at hF ⊢
    refine fs1 rfl (by
     intro a w Lr hE hC hl
     replace hH := hH.ext hE
     have hF := hC.fr
     exact zl hF rfl (r_load hF rfl rfl fl23 (own_cell (i := 0) hH rfl rfl)) fun a' hF' => wpList_nil (fl_end hC hF' (Ext.refl _) rfl)) ?_
    refine fs1 rfl (by
     intro a w Lr hE hC hl
     replace hH := hH.ext hE
     have hF := hC.fr
     exact zl hF rfl (r_load hF rfl rfl fl23 (own_cell (i := 0) hH rfl rfl)) fun a' hF' => wpList_nil (fl_end hC hF' (Ext.refl _) rfl)) ?_
    refine fs1 rfl (by
     intro a w Lr hE hC hl
     replace hH := hH.ext hE
     have hF := hC.fr
     exact zl hF rfl (r_load hF rfl rfl fl24 (own_cell (i := 0) hH rfl rfl)) fun a' hF' => wpList_nil (fl_end hC hF' (Ext.refl _) rfl)) ?_
    refine fs1 rfl (by
     intro a w Lr hE hC hl
     replace hH := hH.ext hE
     obtain ⟨_, s86, rfl⟩ := hl 86 (by decide) _ rfl
     replace hC := hC.more s86
     have hF := hC.fr
     refine zc hF rfl rfl fn70 (time8_spec _ _) ?_
     rintro _ w' ⟨rfl, hE'⟩ a' hF'
     exact wpList_nil (fl_end hC hF' hE' rfl)) ?_
    refine fs (fun v w' => ∃ gd, v = .slice (some ⟨gd, 0, none⟩) 1 1 ∧ Hp w w' [(gd, .cells #[.string (mk (dfold l[i].kind l[i].data))] 9 (0, 0))]) rfl (fun _ _ _ he h => let ⟨g, h1, h2⟩ := h; ⟨g, h1, h2.ext he⟩) ?_ ?_
    ·
     intro a w Lr hE hC hl
     replace hH := hH.ext hE
     have hF := hC.fr
     refine ls_build1 hF (Hp.refl w) rfl rfl rfl rfl rfl Tryz.underlying25 ti9 rfl (by decide) ?_
     intro a' w' g hH' hE' hF'
     exact wpList_nil (fl_end hC hF' hE' (by exact ⟨_, rfl, Hp.base hE hH'⟩))
    refine fs (fun v w' => ∃ gd, v = .agg (setV (⟨fold l[i].name, l[i].kind, l[i].cls, timeN l[i].ttl, [dfold l[i].kind l[i].data]⟩ : RSet) (.slice (some ⟨gd, 0, none⟩) 1 1)).toArray ∧ Hp w w' [(gd, .cells #[.string (mk (dfold l[i].kind l[i].data))] 9 (0, 0))]) rfl (fun _ _ _ he h => let ⟨g, h1, h2⟩ := h; ⟨g, h1, h2.ext he⟩) ?_ ?_
    ·
     intro a w Lr hE hC hl
     replace hH := hH.ext hE
     obtain ⟨_, s82, rfl⟩ := hl 82 (by decide) _ rfl
     replace hC := hC.more s82
     obtain ⟨_, s84, rfl⟩ := hl 84 (by decide) _ rfl
     replace hC := hC.more s84
     obtain ⟨_, s87, rfl⟩ := hl 87 (by decide) _ rfl
     replace hC := hC.more s87
     obtain ⟨v89, s89, p89⟩ := hl 89 (by decide) _ rfl
     replace hC := hC.more s89
     obtain ⟨g89, rfl, q89⟩ := p89
     have hF := hC.fr
     refine zl hF rfl (r_build hF rfl rfl (bd27_0_1_2_3_4 _ _ _ _ _ _ (rfl) (rfl) (rfl) (rfl) (rfl))) fun a' hF' => wpList_nil (fl_end hC hF' (Ext.refl _) ?_)
     exact ⟨_, rfl, q89⟩
    refine fs (fun v w' => ∃ gd, RSl w' 5 v 1 (setV (⟨fold l[i].name, l[i].kind, l[i].cls, timeN l[i].ttl, [dfold l[i].kind l[i].data]⟩ : RSet) (.slice (some ⟨gd, 0, none⟩) 1 1)) ∧ Hp w w' [(gd, .cells #[.string (mk (dfold l[i].kind l[i].data))] 9 (0, 0))]) rfl (fun _ _ _ he h => let ⟨g, h1, h2⟩ := h; ⟨g, h1.ext he, h2.ext he⟩) ?_ ?_
    ·
     intro a w Lr hE hC hl
     replace hH := hH.ext hE
     obtain ⟨v90, s90, p90⟩ := hl 90 (by decide) _ rfl
     replace hC := hC.more s90
     obtain ⟨g90, rfl, q90⟩ := p90
     have hF := hC.fr
     refine ls_build1 hF (Hp.refl w) rfl rfl rfl rfl rfl Tryz.underlying22 ti27 rfl (by decide) ?_
     intro a' w' g hH' hE' hF'
     exact wpList_nil (fl_end hC hF' hE' (by exact ⟨g90, rsl_lit (n := 1) (size := 5) hH' rfl (by decide), q90.ext hE'⟩))
    intro a w hE hF hall
    replace hH := hH.ext hE
    obtain ⟨_, s82, rfl⟩ := hall 82 _ rfl
    replace hF := hF.more s82
    obtain ⟨_, s84, rfl⟩ := hall 84 _ rfl
    replace hF := hF.more s84
    obtain ⟨_, s86, rfl⟩ := hall 86 _ rfl
    replace hF := hF.more s86
    obtain ⟨_, s87, rfl⟩ := hall 87 _ rfl
    replace hF := hF.more s87
    obtain ⟨v89, s89, p89⟩ := hall 89 _ rfl
    replace hF := hF.more s89
    obtain ⟨v90, s90, p90⟩ := hall 90 _ rfl
    replace hF := hF.more s90
    obtain ⟨v91, s91, p91⟩ := hall 91 _ rfl
    replace hF := hF.more s91
    clear hall
    obtain ⟨gd, hR16, q91⟩ := p91
    replace hH := hHR.join q91
    replace hH := hH.perm (pm_g _ _ B (entB es))
    refine ls_append hF hH rfl rfl rfl rfl rfl rfl Tryz.underlying22 ti27 hS hR16 (by simp [setV, Value.oneCell']) (by decide) (by omega) ?_
    intro a v16_13 w B16_13 hH hS hF
    refine wpList_nil ?_
    refine ps hF rfl rfl rfl rfl (fun w => r_assign hF rfl rfl) fun a hF => ?_
    have hHn : Hp w0 w (B16_13 ++ entB (es ++ [(((⟨fold l[i].name, l[i].kind, l[i].cls, timeN l[i].ttl, [dfold l[i].kind l[i].data]⟩ : RSet), .slice (some ⟨gd, 0, none⟩) 1 1, [(gd, .cells #[.string (mk (dfold l[i].kind l[i].data))] 9 (0, 0))]) : Ent)])) := by
      rw [entB_append]
      exact (hH.sub (List.Sublist.append_left ((List.Sublist.cons_cons _ ((List.Sublist.refl _).cons _))) _)).perm (List.Perm.append_left _ (List.perm_append_singleton _ _))
    have hSn : Sl 27 5 B16_13 v16_13 (es ++ [(((⟨fold l[i].name, l[i].kind, l[i].cls, timeN l[i].ttl, [dfold l[i].kind l[i].data]⟩ : RSet), .slice (some ⟨gd, 0, none⟩) 1 1, [(gd, .cells #[.string (mk (dfold l[i].kind l[i].data))] 9 (0, 0))]) : Ent)]).length (entV (es ++ [(((⟨fold l[i].name, l[i].kind, l[i].cls, timeN l[i].ttl, [dfold l[i].kind l[i].data]⟩ : RSet), .slice (some ⟨gd, 0, none⟩) 1 1, [(gd, .cells #[.string (mk (dfold l[i].kind l[i].data))] 9 (0, 0))]) : Ent)])) := by
      rw [entV_append, List.length_append]; exact hS
    have hEn : EntOk (es ++ [(((⟨fold l[i].name, l[i].kind, l[i].cls, timeN l[i].ttl, [dfold l[i].kind l[i].data]⟩ : RSet), .slice (some ⟨gd, 0, none⟩) 1 1, [(gd, .cells #[.string (mk (dfold l[i].kind l[i].data))] 9 (0, 0))]) : Ent)]) := by
      intro e he
      rcases List.mem_append.1 he with he | he
      · exact hK e he
      · rw [List.mem_singleton.1 he]
        exact ⟨rfl, .inr ⟨_, 1, _, rfl, rfl, Nat.le_refl _, by unfold maxLen; omega, rfl, rfl⟩⟩
    have hgn : SetsOf (l.take (i + 1)) ((es ++ [(((⟨fold l[i].name, l[i].kind, l[i].cls, timeN l[i].ttl, [dfold l[i].kind l[i].data]⟩ : RSet), .slice (some ⟨gd, 0, none⟩) 1 1, [(gd, .cells #[.string (mk (dfold l[i].kind l[i].data))] 9 (0, 0))]) : Ent)]).map (·.1)) := by
      rw [htk, List.map_append, List.map_cons, List.map_nil, ← hse]
      exact hg.put hm1 hnone (List.perm_append_singleton _ _)
    have hln : (es ++ [(((⟨fold l[i].name, l[i].kind, l[i].cls, timeN l[i].ttl, [dfold l[i].kind l[i].data]⟩ : RSet), .slice (some ⟨gd, 0, none⟩) 1 1, [(gd, .cells #[.string (mk (dfold l[i].kind l[i].data))] 9 (0, 0))]) : Ent)]).length ≤ i + 1 := by simp; omega
    have hdn : ∀ e ∈ es ++ [(((⟨fold l[i].name, l[i].kind, l[i].cls, timeN l[i].ttl, [dfold l[i].kind l[i].data]⟩ : RSet), .slice (some ⟨gd, 0, none⟩) 1 1, [(gd, .cells #[.string (mk (dfold l[i].kind l[i].data))] 9 (0, 0))]) : Ent)], e.1.data.length ≤ i + 1 := by
      intro e he
      rcases List.mem_append.1 he with he | he
      · have := hed e he; omega
      · rw [List.mem_singleton.1 he]; simp
    refine k16 ?_
    refine wp_exit (t15.exit (t6.here (?_)))
    refine k5 ?_
    exact ⟨_, _, _, hF.keep [0, 3, 4] rfl, hHn, hSn, hEn, hgn, hln, hdn⟩
   try simp only [qq] at h78
   obtain ⟨m, hml, rfl, hsm⟩ : ∃ m : Nat, ∃ h : m < es.length, at' = (m : Int) ∧ sameK es[m].1 (setOf l[i]) := hat.some (by omega)
   obtain ⟨g, cp, cur, hv, rfl, hcp, hcm, hcs, hct⟩ := hS.open (by omega)
   cases hv
   replace hH := hH.perm (List.Perm.swap _ _ _)
   refine wp_skip ?_
   refine k15 ?_
   refine c_seq fun Q17 k17 t17 => ?_
   refine c_flow [0, 1, 2, 3, 4, 5, 7] [6, 8, 9, 10, 11, 12] [13] [] (by kernel_rfl) (by kernel_rfl) fun hB => ?_
   refine ps hF rfl rfl rfl rfl (fun w => r_move hF rfl rfl) fun a hF => ?_
   refine ps hF rfl rfl rfl rfl (fun w => r_move hF rfl rfl) fun a hF => ?_
   refine ps hF rfl rfl rfl rfl (fun w => r_move hF rfl rfl) fun a hF => ?_
   refine ps hF rfl rfl rfl rfl (fun w => r_move hF rfl rfl) fun a hF => ?_
   refine ps hF rfl rfl rfl rfl (fun w => r_ixown hF _ rfl rfl rfl Tryz.underlying22 ti27 (by omega)) fun a hF => ?_
   refine ps hF rfl rfl rfl rfl (fun w => r_fieldaddr hF rfl rfl fd27_3) fun a hF => ?_
   refine ps hF rfl rfl rfl rfl (fun w => r_fieldaddr0 hF rfl rfl fd38_3) fun a hF => ?_
   refine fl_start [99, 101, 102, 103, 104, 105] hB (by kernel_rfl) hF ?_
   simp only [wo, hasN, Nat.reduceBEq, cond_true, cond_false] at hF ⊢
   refine fs1 rfl (by
    intro a w Lr hE hC hl
    replace hH := hH.ext hE
    have hF := hC.fr
    exact zl hF rfl (r_load hF rfl rfl fl24 (own_cell (i := 0) hH rfl (take_get hct (entV_get hml 3 _ rfl)))) fun a' hF' => wpList_nil (fl_end hC hF' (Ext.refl _) rfl)) ?_
   refine fs1 rfl (by
    intro a w Lr hE hC hl
    replace hH := hH.ext hE
    have hF := hC.fr
    exact zl hF rfl (r_load hF rfl rfl fl24 (own_cell (i := 1) hH rfl rfl)) fun a' hF' => wpList_nil (fl_end hC hF' (Ext.refl _) rfl)) ?_
   refine fs1 rfl (by
    intro a w Lr hE hC hl
    replace hH := hH.ext hE
    obtain ⟨_, s101, rfl⟩ := hl 101 (by decide) _ rfl
    replace hC := hC.more s101
    have hF := hC.fr
    refine zc hF rfl rfl fn70 (time8_spec _ _) ?_
    rintro _ w' ⟨rfl, hE'⟩ a' hF'
    exact wpList_nil (fl_end hC hF' hE' rfl)) ?_
   refine fs1 rfl (by
    intro a w Lr hE hC hl
    replace hH := hH.ext hE
    obtain ⟨_, s99, rfl⟩ := hl 99 (by decide) _ rfl
    replace hC := hC.more s99
    obtain ⟨_, s102, rfl⟩ := hl 102 (by decide) _ rfl
    replace hC := hC.more s102
    have hF := hC.fr
    exact zl hF rfl (r_minn hF rfl rfl rfl) fun a' hF' => wpList_nil (fl_end hC hF' (Ext.refl _) rfl)) ?_
   refine fs1 rfl (by
    intro a w Lr hE hC hl
    replace hH := hH.ext hE
    have hF := hC.fr
    exact zl hF rfl (r_ixown hF _ rfl rfl rfl Tryz.underlying22 ti27 (by omega)) fun a' hF' => wpList_nil (fl_end hC hF' (Ext.refl _) rfl)) ?_
   refine fs1 rfl (by
    intro a w Lr hE hC hl
    replace hH := hH.ext hE
    obtain ⟨_, s104, rfl⟩ := hl 104 (by decide) _ rfl
    replace hC := hC.more s104
    have hF := hC.fr
    exact zl hF rfl (r_fieldaddr hF rfl rfl fd27_3) fun a' hF' => wpList_nil (fl_end hC hF' (Ext.refl _) rfl)) ?_
   intro a w hE hF hall
   replace hH := hH.ext hE
   obtain ⟨_, s99, rfl⟩ := hall 99 _ rfl
   replace hF := hF.more s99
   obtain ⟨_, s101, rfl⟩ := hall 101 _ rfl
   replace hF := hF.more s101
   obtain ⟨_, s102, rfl⟩ := hall 102 _ rfl
   replace hF := hF.more s102
   obtain ⟨_, s103, rfl⟩ := hall 103 _ rfl
   replace hF := hF.more s103
   obtain ⟨_, s104, rfl⟩ := hall 104 _ rfl
   replace hF := hF.more s104
   obtain ⟨_, s105, rfl⟩ := hall 105 _ rfl
   replace hF := hF.more s105
   clear hall
   refine ls_store 0 hF hH rfl rfl rfl rfl rfl fl24 ti24 rfl (by omega) (by simp [noFreeze]) (rfl) ?_
   intro w hH
   simp only [List.set_cons_zero] at hH
   refine wpList_nil ?_
   have hmk := List.getElem_mem hml
   have hSk := hK _ hmk
   have hct1 := take_set' (j := m * 5 + 3) (u := .int .u32 ((min es[m].1.ttl (timeN l[i].ttl) : Nat) : Int)) hct
   rw [entV_set hml (show 3 < 5 by decide) ((⟨es[m].1.name, es[m].1.kind, es[m].1.cls, min es[m].1.ttl (timeN l[i].ttl), es[m].1.data⟩, es[m].2.1, es[m].2.2) : Ent) _ rfl] at hct1
   have hrise := (hg.is es[m].1 (List.mem_map_of_mem hmk)).rise
   have hdk := hed _ hmk
   generalize hcu : cur.setIfInBounds (m * 5 + 3) (.int .u32 ((min es[m].1.ttl (timeN l[i].ttl) : Nat) : Int)) = cur1 at hH hct1
   have hcs1 : cur1.size = cp2 * 5 := by rw [← hcu]; simp [hcs]
   generalize he1 : ((⟨es[m].1.name, es[m].1.kind, es[m].1.cls, min es[m].1.ttl (timeN l[i].ttl), es[m].1.data⟩, es[m].2.1, es[m].2.2) : Ent) = e1 at hct1
   have hk1 : m < (es.set m e1).length := by simpa using hml
   have hg1 : (es.set m e1)[m] = e1 := by simp
   refine k17 ?_
   refine c_reg fun ops => ?_
   refine zm 4 hF rfl fun a hF => ?_
   refine zl hF rfl (r_ixown hF _ rfl rfl rfl Tryz.underlying22 ti27 (by omega)) fun a hF => ?_
   refine zl hF rfl (r_fieldaddr hF rfl rfl fd27_4) fun a hF => ?_
   refine zl hF rfl (r_load hF rfl rfl fl25 (own_cell (i := 0) hH rfl (take_get hct1 (entV_get (es := es.set m e1) hk1 4 es[m].2.1 (by rw [hg1, ← he1]; rfl))))) fun a hF => ?_
   refine zm 1 hF rfl fun a hF => ?_
   replace hH := hH.perm (pm_h _ _ (entB_pick hml))
   refine zc hF rfl rfl fn71 (put8_spec (dfold l[i].kind l[i].data) hH hSk (by omega)) ?_
   rintro r18 w ⟨B', hHb, hSb⟩ a hF
   refine zl hF rfl (r_ixown hF _ rfl rfl rfl Tryz.underlying22 ti27 (by omega)) fun a hF => ?_
   refine zl hF rfl (r_fieldaddr hF rfl rfl fd27_4) fun a hF => ?_
   have hH := hHb.perm (pm_i _ _ _ _)
   refine ls_store 0 hF hH rfl rfl rfl rfl rfl fl25 ti25 rfl (by omega) (by simp [noFreeze]) (hSb.one) ?_
   intro w hH
   simp only [List.set_cons_zero] at hH
   refine wpList_nil ?_
   subst he1
   have hct2 := take_set' (j := m * 5 + 4) (u := r18) hct1
   rw [entV_set hk1 (show 4 < 5 by decide) ((⟨es[m].1.name, es[m].1.kind, es[m].1.cls, min es[m].1.ttl (timeN l[i].ttl), putN es[m].1.data (dfold l[i].kind l[i].data)⟩, r18, B') : Ent) r18 (by rw [hg1]; rfl), List.set_set] at hct2
   have hHn := (hH.sub (List.Sublist.cons_cons _ ((List.Sublist.refl _).cons _))).perm (List.Perm.cons _ (entB_set hml ((⟨es[m].1.name, es[m].1.kind, es[m].1.cls, min es[m].1.ttl (timeN l[i].ttl), putN es[m].1.data (dfold l[i].kind l[i].data)⟩, r18, B') : Ent)))
   have hEn := hK.set (x := ((⟨es[m].1.name, es[m].1.kind, es[m].1.cls, min es[m].1.ttl (timeN l[i].ttl), putN es[m].1.data (dfold l[i].kind l[i].data)⟩, r18, B') : Ent)) hSb m
   have hSn := row_sl (es := es.set m ((⟨es[m].1.name, es[m].1.kind, es[m].1.cls, min es[m].1.ttl (timeN l[i].ttl), putN es[m].1.data (dfold l[i].kind l[i].data)⟩, r18, B') : Ent)) (n := es.length) (by simp) (g := g) hcp hcm (by rw [Array.size_setIfInBounds]; exact hcs1) hct2
   have hgn : SetsOf (l.take (i + 1)) ((es.set m ((⟨es[m].1.name, es[m].1.kind, es[m].1.cls, min es[m].1.ttl (timeN l[i].ttl), putN es[m].1.data (dfold l[i].kind l[i].data)⟩, r18, B') : Ent)).map (·.1)) := by
     rw [htk, map_ent]
     have := hg.set hm1 (k := m) (by simpa using hml) (by simpa using hsm) (d := putN es[m].1.data (dfold l[i].kind l[i].data)) (putN_rise hrise _) (fun x => by simpa using putN_mem _ _ _)
     simpa using this
   have hln : (es.set m ((⟨es[m].1.name, es[m].1.kind, es[m].1.cls, min es[m].1.ttl (timeN l[i].ttl), putN es[m].1.data (dfold l[i].kind l[i].data)⟩, r18, B') : Ent)).length ≤ i + 1 := by simp; omega
   have hdn := ent_len (k := m) (x := ((⟨es[m].1.name, es[m].1.kind, es[m].1.cls, min es[m].1.ttl (timeN l[i].ttl), putN es[m].1.data (dfold l[i].kind l[i].data)⟩, r18, B') : Ent)) hed (by have := putN_len es[m].1.data (dfold l[i].kind l[i].data); simp only; omega)
   refine t6.norm ?_
   refine k5 ?_
   exact ⟨_, _, _, hF.keep [0, 3, 4] rfl, hHn, hSn, hEn, hgn, hln, hdn⟩
  clear hH hF hS hK
  rintro a w ⟨B', es', rv', hF, hH, hS, hK, hg', hel', hed'⟩
  refine c_reg fun ops => ?_
  refine zm 1 hF rfl fun a hF => ?_
  refine zb hF rfl rfl rfl (b_addn _ _ 1 (by omega)) fun a hF => ?_
  refine zm 1 hF rfl fun a hF => ?_
  refine wpList_nil ?_
  refine k3 ?_
  exact ⟨l.length - (i + 1), by omega, i + 1, B', es', rv', rfl, by omega, hF.keep [0, 3, 4] rfl, hH, hS, hK, hg', hel', hed'⟩
end Go.Proofs.YtcelgjabccgnmaaGreatDoor
