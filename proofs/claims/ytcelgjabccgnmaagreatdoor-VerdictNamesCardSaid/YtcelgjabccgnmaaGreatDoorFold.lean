/-
  The walks of rdata.May and rdata.Fold. Nothing is claimed here.
-/
import Derived.Test.YtcelgjabccgnmaaGreatDoorRd
namespace Go.Proofs.YtcelgjabccgnmaaGreatDoor
open Go.RowKit
set_option linter.unusedVariables false
set_option linter.unusedSimpArgs false
set_option maxHeartbeats 1000000

theorem dmay_spec (kind : Nat) (data : Bs) (hs : data.length < 1000000) (w0 : World) (hG : GW w0) : Rets Tryz.prog 57 [.int .u16 kind, .string (mk data)] w0 fun v w' => v = .bool (dmayB kind data) ∧ Ext w0 w' := by
  have hH := Hp.refl w0
  refine rets_start Tryz.func57 rfl Tryz.ntmps57 rfl fun a Q0 hF hret hend => ?_
  simp only [argsFrom, Nat.zero_add, Nat.reduceAdd] at hF
  refine c_sr fun ops => ?_
  refine zm 1 hF rfl fun a hF => ?_
  refine c_n ?_
  replace hF := hF.sel [0, 1]
  simp only [ss, Nat.reduceBEq] at hF
  refine c_sr fun ops => ?_
  refine zm 2 hF rfl fun a hF => ?_
  refine zc hF rfl rfl fn64 (read_spec data 0 kind true (Nat.zero_le _) hs _ (hG.ext hH.below)) ?_
  rintro _ w ⟨sv, B, rfl, hB, hS⟩ a hF
  replace hH := hH.ext hB.below
  refine zm 5 hF rfl fun a hF => ?_
  refine c_n ?_
  replace hF := hF.sel [6]
  simp only [ss, Nat.reduceBEq] at hF
  refine c_sr fun ops => ?_
  refine zm 1 hF rfl fun a hF => ?_
  refine zb hF rfl rfl rfl (b_eqn _ _ _ 0) fun a hF => ?_
  refine zm 1 hF rfl fun a hF => ?_
  refine c_n ?_
  replace hF := hF.sel [4]
  simp only [ss, Nat.reduceBEq] at hF
  refine wp_ret (hret (ret1 hF Tryz.results57 rfl ?_))
  exact ⟨by rw [dmayB], hH.below⟩

theorem pcV_cons (p : Bs × Bool) (l : Pieces) : pcV (p :: l) = .string (mk p.1) :: .bool p.2 :: pcV l := rfl
theorem pcV_get : ∀ {l : Pieces} {i : Nat} (h : i < l.length) (j : Nat) (u : Value), ([.string (mk l[i].1), .bool l[i].2] : List Value)[j]? = some u → (pcV l)[i * 2 + j]? = some u
  | p :: l, 0, h, j, u, hu => by
    rw [pcV_cons]
    cases j with
    | zero => simpa using hu
    | succ j => cases j with
      | zero => simpa using hu
      | succ j => simp at hu
  | p :: l, i + 1, h, j, u, hu => by
    rw [pcV_cons, show (i + 1) * 2 + j = (i * 2 + j) + 1 + 1 by omega, List.getElem?_cons_succ, List.getElem?_cons_succ]
    exact pcV_get (l := l) (by simpa using h) j u (by simpa using hu)
theorem pcV_set : ∀ {l : Pieces} {i : Nat} (h : i < l.length) (s : Bs), (pcV l).set (i * 2) (.string (mk s)) = pcV (l.set i (s, l[i].2))
  | p :: l, 0, h, s => by simp [pcV_cons]
  | p :: l, i + 1, h, s => by
    rw [pcV_cons, show (i + 1) * 2 = (i * 2) + 1 + 1 by omega]
    simp only [List.set_cons_succ, List.getElem_cons_succ]
    rw [pcV_set (l := l) (by simpa using h) s, pcV_cons]

def flatP (l : Pieces) : Bs := (l.map (·.1)).flatten
theorem flatP_take {l : Pieces} {i : Nat} (h : i < l.length) : flatP (l.take (i + 1)) = flatP (l.take i) ++ l[i].1 := by
  unfold flatP; rw [List.take_succ_eq_append_getElem h, List.map_append, List.flatten_append]; congr 1; simp
theorem flatP_le (l : Pieces) (i : Nat) : (flatP (l.take i)).length ≤ (flatP l).length := by
  have : flatP l = flatP (l.take i) ++ flatP (l.drop i) := by
    unfold flatP; rw [← List.flatten_append, ← List.map_append, List.take_append_drop]
  rw [this]; simp

theorem djoined_spec (l : Pieces) (v : Value) (w0 : World) (hR : RSl w0 2 v l.length (pcV l)) (hlen : (flatP l).length < 1000000) (hl : l.length < 5000000) : Rets Tryz.prog 65 [v] w0 fun v w' => v = .string (mk (flatP l)) ∧ Ext w0 w' := by
  have hH := Hp.refl w0
  obtain ⟨hl1, ad, cap, rfl, hc1, hc2, hc3⟩ := hR
  refine rets_start Tryz.func65 rfl Tryz.ntmps65 rfl fun a Q0 hF hret hend => ?_
  simp only [argsFrom, Nat.zero_add, Nat.reduceAdd] at hF
  refine c_sr fun ops => ?_
  refine zm 1 hF rfl fun a hF => ?_
  refine c_n ?_
  replace hF := hF.sel [0]
  simp only [ss, Nat.reduceBEq] at hF
  refine c_sr fun ops => ?_
  refine ls_alloc hF hH rfl rfl rfl rfl zv146 ?_
  intro a w g1_0 hH hE hF
  refine c_n ?_
  replace hF := hF.sel [0, 3]
  simp only [ss, Nat.reduceBEq] at hF
  refine c_seq fun Q1 k1 t1 => ?_
  refine c_sr fun ops => ?_
  refine zm 1 hF rfl fun a hF => ?_
  refine zl hF rfl (r_len_sl hF rfl rfl Tryz.underlying96) fun a hF => ?_
  refine zm 1 hF rfl fun a hF => ?_
  refine c_n ?_
  replace hF := hF.sel [3, 6, 7, 8]
  simp only [ss, Nat.reduceBEq] at hF
  refine c_block fun Q2 t2 => ?_
  refine c_loop (fun n a w => ∃ i BB, n = l.length - i ∧ i ≤ l.length ∧ Bld g1_0 BB (flatP (l.take i)) ∧ Fr 17 [(3, .pointer (some ⟨g1_0, 0, none⟩)), (6, .slice ad l.length cap), (7, .int .i64 l.length), (8, .int .i64 i)] a ∧ Hp w0 w BB) ?_ ?_
  ·
   exact ⟨_, 0, _, rfl, Nat.zero_le _, Bld.new _, hF.keep [3, 6, 7, 8] rfl, hH⟩
  clear hH hF
  intro n a w hI Q3 k3 t3
  obtain ⟨i, BB, hn, hi, hb, hF, hH⟩ := hI
  refine c_sr fun ops => ?_
  refine zb hF rfl rfl rfl (b_ltn _ _ _ _) fun a hF => ?_
  refine c_n ?_
  refine c_seq fun Q4 k4 t4 => ?_
  refine c_fi hF rfl (fun h9 => ?_) (fun h9 => ?_)
  ·
   try simp only [qq] at h9
   refine wp_exit (t4.exit (t3.exit (t2.here (?_))))
   refine k1 ?_
   have e : i = l.length := by omega
   subst e
   rw [List.take_length] at hb
   refine c_sr fun ops => ?_
   refine zc hF rfl rfl fn107 (string_spec (H := []) (by rw [List.append_nil]; exact hH) hb) ?_
   rintro _ w ⟨rfl, hE⟩ a hF
   
   refine zm 1 hF rfl fun a hF => ?_
   refine c_n ?_
   replace hF := hF.sel [2]
   simp only [ss, Nat.reduceBEq] at hF
   refine wp_ret (hret (ret1 hF Tryz.results65 rfl ?_))
   exact ⟨rfl, hE⟩
  try simp only [qq] at h9
  obtain ⟨b, off, rfl, hc⟩ : ∃ b off, ad = some ⟨b, off, none⟩ ∧ ∀ j u, (pcV l)[j]? = some u → w0.cell? ⟨b, off + j, none⟩ = some u := by
    rcases hc3 with ⟨_, _, h0⟩ | h
    · omega
    · exact h
  have hcc : ∀ j u, ([.string (mk l[i].1), .bool l[i].2] : List Value)[j]? = some u → w0.cell? ⟨b, off + i * 2 + j, none⟩ = some u := fun j u hu => by rw [Nat.add_assoc]; exact hc _ u (pcV_get h9 j u hu)
  have hj := flatP_take h9
  have hjl := flatP_le l (i + 1)
  rw [hj, List.length_append] at hjl
  refine wp_skip ?_
  refine k4 ?_
  refine c_seq fun Q5 k5 t5 => ?_
  refine c_block fun Q6 t6 => ?_
  refine c_sr fun ops => ?_
  refine zl hF rfl (r_indexaddr hF _ rfl rfl rfl Tryz.underlying96 ti100 (by omega)) fun a hF => ?_
  refine zl hF rfl (r_loadagg hF rfl rfl Tryz.underlying100 ti100 rfl (fun j u hu => hH.cell (hcc j u hu))) fun a hF => ?_
  refine ls_alloc hF hH rfl rfl rfl rfl zv100 ?_
  intro a w g4_2 hH hE hF
  refine ls_storeagg 0 hF hH rfl rfl rfl rfl rfl ti100 rfl (rfl) (rfl) (by simp [Value.oneCell']) ?_
  intro w hH
  refine c_n ?_
  refine c_reg fun ops => ?_
  refine zl hF rfl (r_fieldaddr0 hF rfl rfl fd100_0) fun a hF => ?_
  refine zl hF rfl (r_load hF rfl rfl fl9 (own_cell (i := 0) hH rfl rfl)) fun a hF => ?_
  replace hH := Hp.drop hH
  refine zc hF rfl rfl fn106 (writeString_spec (H := []) (by rw [List.append_nil]; exact hH) hb _ (by omega)) ?_
  rintro _ w ⟨rfl, BB, hH, hb⟩ a hF
  rw [List.append_nil] at hH
  refine wpList_nil ?_
  refine t6.norm ?_
  refine k5 ?_
  refine c_reg fun ops => ?_
  refine zb hF rfl rfl rfl (b_addn _ _ 1 (by omega)) fun a hF => ?_
  refine zm 1 hF rfl fun a hF => ?_
  refine wpList_nil ?_
  refine k3 ?_
  exact ⟨l.length - (i + 1), by omega, i + 1, BB, rfl, by omega, by rw [hj]; exact hb, hF.keep [3, 6, 7, 8] rfl, hH⟩

/-- A piece, its name folded. -/
def fpc (p : Bs × Bool) : Bs × Bool := (if p.2 then fold p.1 else p.1, p.2)
theorem fpc_set {l : Pieces} {i : Nat} (h : i < l.length) (s : Bs × Bool) (hs : s = fpc l[i]) : ((l.take i).map fpc ++ l.drop i).set i s = (l.take (i + 1)).map fpc ++ l.drop (i + 1) := by
  have hl : ((l.take i).map fpc).length = i := by simp; omega
  rw [List.set_append_right _ _ (by rw [hl]; exact Nat.le_refl _), hl, List.drop_eq_getElem_cons h, Nat.sub_self, List.set_cons_zero, List.take_succ_eq_append_getElem h, List.map_append, hs]
  simp
theorem fpc_get {l : Pieces} {i : Nat} (h : i < l.length) (h' : i < ((l.take i).map fpc ++ l.drop i).length) : ((l.take i).map fpc ++ l.drop i)[i] = l[i] := by
  have hl : ((l.take i).map fpc).length = i := by simp; omega
  rw [List.getElem_append_right (by omega)]
  simp only [hl, Nat.sub_self, List.getElem_drop, Nat.add_zero]
theorem fold_le (n : Bs) : (fold n).length ≤ n.length := by
  unfold fold
  cases h : split n with
  | none => simp
  | some l =>
    have := (split_le h).2.2.2.1
    simp only [List.length_append, List.length_singleton, joinL_low]; omega
theorem flatP_fpc : ∀ (l : Pieces), (flatP (l.map fpc)).length ≤ (flatP l).length
  | [] => Nat.le_refl _
  | p :: l => by
    have := flatP_fpc l
    have e : flatP ((p :: l).map fpc) = (fpc p).1 ++ flatP (l.map fpc) := rfl
    have e2 : flatP (p :: l) = p.1 ++ flatP l := rfl
    rw [e, e2, List.length_append, List.length_append]
    have : (fpc p).1.length ≤ p.1.length := by
      unfold fpc; simp only; split
      · exact fold_le _
      · exact Nat.le_refl _
    omega

theorem dfold_spec (kind : Nat) (data : Bs) (hs : data.length < 1000000) (hq : (readD data 0 kind true).2.length < 4000000) (hfl : (flatP (readD data 0 kind true).2).length < 1000000) (w0 : World) (hG : GW w0) : Rets Tryz.prog 28 [.int .u16 kind, .string (mk data)] w0 fun v w' => v = .string (mk (dfold kind data)) ∧ Ext w0 w' := by
  have hH := Hp.refl w0
  have hdf : dfold kind data = flatP ((readD data 0 kind true).2.map fpc) := by rw [dfold, flatP, List.map_map]; rfl
  refine rets_start Tryz.func28 rfl Tryz.ntmps28 rfl fun a Q0 hF hret hend => ?_
  simp only [argsFrom, Nat.zero_add, Nat.reduceAdd] at hF
  refine c_sr fun ops => ?_
  refine zm 1 hF rfl fun a hF => ?_
  refine c_n ?_
  replace hF := hF.sel [0, 1]
  simp only [ss, Nat.reduceBEq] at hF
  refine c_sr fun ops => ?_
  refine zm 2 hF rfl fun a hF => ?_
  refine zc hF rfl rfl fn64 (read_spec data 0 kind true (Nat.zero_le _) hs _ (hG.ext hH.below)) ?_
  rintro _ w1 ⟨sv, B, rfl, hB, hS⟩ a hF
  replace hH := hH.join hB
  refine zm 5 hF rfl fun a hF => ?_
  refine c_n ?_
  replace hF := hF.sel [5]
  simp only [ss, Nat.reduceBEq] at hF
  refine c_seq fun Q1 k1 t1 => ?_
  rw [List.append_nil] at hH
  generalize (readD data 0 kind true).2 = q at *
  obtain ⟨ad, cp, hsv⟩ := hS.shape
  have hS' : Sl 100 2 B sv q.length (pcV ((q.take 0).map fpc ++ q.drop 0)) := by simpa using hS
  subst hsv
  refine c_sr fun ops => ?_
  refine zm 1 hF rfl fun a hF => ?_
  refine zl hF rfl (r_len_sl hF rfl rfl Tryz.underlying96) fun a hF => ?_
  refine zm 1 hF rfl fun a hF => ?_
  refine c_n ?_
  replace hF := hF.sel [5, 15, 16, 17]
  simp only [ss, Nat.reduceBEq] at hF
  refine c_block fun Q2 t2 => ?_
  refine c_loop (fun n a w => ∃ i B, n = q.length - i ∧ i ≤ q.length ∧ Sl 100 2 B (.slice ad q.length cp) q.length (pcV ((q.take i).map fpc ++ q.drop i)) ∧ Fr 34 [(5, .slice ad q.length cp), (15, .slice ad q.length cp), (16, .int .i64 q.length), (17, .int .i64 i)] a ∧ Hp w0 w B) ?_ ?_
  ·
   exact ⟨_, 0, B, rfl, Nat.zero_le _, hS', hF.keep [5, 15, 16, 17] rfl, hH⟩
  clear hS hS' hH hF hB
  intro n a w hI Q3 k3 t3
  obtain ⟨i, B, hn, hi, hS, hF, hH⟩ := hI
  refine c_sr fun ops => ?_
  refine zb hF rfl rfl rfl (b_ltn _ _ _ _) fun a hF => ?_
  refine c_n ?_
  refine c_seq fun Q4 k4 t4 => ?_
  refine c_fi hF rfl (fun h18 => ?_) (fun h18 => ?_)
  ·
   try simp only [qq] at h18
   refine wp_exit (t4.exit (t3.exit (t2.here (?_))))
   refine k1 ?_
   have e : i = q.length := by omega
   subst e
   rw [List.take_length, List.drop_length, List.append_nil] at hS
   refine c_sr fun ops => ?_
   refine zm 1 hF rfl fun a hF => ?_
   refine zc hF rfl rfl fn65 (djoined_spec (q.map fpc) _ _ (by simpa using hS.rsl hH fun p hp => hp) (by have := flatP_fpc q; omega) (by simp; omega)) ?_
   rintro _ w ⟨rfl, hE⟩ a hF
   replace hH := hH.ext hE
   refine zm 1 hF rfl fun a hF => ?_
   refine c_n ?_
   replace hF := hF.sel [4]
   simp only [ss, Nat.reduceBEq] at hF
   refine wp_ret (hret (ret1 hF Tryz.results28 rfl ?_))
   exact ⟨by rw [hdf], hH.below⟩
  try simp only [qq] at h18
  obtain ⟨g, cap, cur, hv, rfl, hc1, hc2, hc3, hc4⟩ := hS.open (by omega)
  cases hv
  have hlen : ((q.take i).map fpc ++ q.drop i).length = q.length := by simp; omega
  have hcc : ∀ j u, ([.string (mk q[i].1), .bool q[i].2] : List Value)[j]? = some u → cur[i * 2 + j]? = some u := fun j u hu => take_get hc4 (pcV_get (by omega) j u (by rw [fpc_get h18]; exact hu))
  have hql : q[i].1.length ≤ (flatP q).length := by
    have h1 := flatP_take h18
    have h2 := flatP_le q (i + 1)
    rw [h1, List.length_append] at h2; omega
  refine wp_skip ?_
  refine k4 ?_
  refine c_seq fun Q5 k5 t5 => ?_
  refine c_block fun Q6 t6 => ?_
  refine c_sr fun ops => ?_
  refine zm 1 hF rfl fun a hF => ?_
  refine zl hF rfl (r_ixown hF _ rfl rfl rfl Tryz.underlying96 ti100 (by omega)) fun a hF => ?_
  refine zl hF rfl (r_loadagg hF rfl rfl Tryz.underlying100 ti100 rfl (fun j u hu => own_cell (i := 0) hH rfl (hcc j u hu))) fun a hF => ?_
  refine ls_alloc hF hH rfl rfl rfl rfl zv100 ?_
  intro a w g4_3 hH hE hF
  refine zm 1 hF rfl fun a hF => ?_
  refine ls_storeagg 0 hF hH rfl rfl rfl rfl rfl ti100 rfl (rfl) (rfl) (by simp [Value.oneCell']) ?_
  intro w hH
  refine c_n ?_
  refine c_sr fun ops => ?_
  refine zl hF rfl (r_fieldaddr0 hF rfl rfl fd100_1) fun a hF => ?_
  refine zl hF rfl (r_load hF rfl rfl fl4 (own_cell (i := 0) (v := .bool q[i].2) hH rfl rfl)) fun a hF => ?_
  refine c_n ?_
  refine c_fi hF rfl (fun h23 => ?_) (fun h23 => ?_)
  ·
   try simp only [qq] at h23
   refine wp_skip ?_
   refine t6.norm ?_
   refine k5 ?_
   refine c_reg fun ops => ?_
   refine zb hF rfl rfl rfl (b_addn _ _ 1 (by omega)) fun a hF => ?_
   refine zm 1 hF rfl fun a hF => ?_
   refine wpList_nil ?_
   refine k3 ?_
   first
     | (have hset := pcV_set (l := (q.take i).map fpc ++ q.drop i) (i := i) (by omega) (fold q[i].1)
        rw [fpc_set h18 _ (by rw [fpc_get h18, fpc, if_pos h23])] at hset
        exact ⟨q.length - (i + 1), by omega, i + 1, _, rfl, by omega, by rw [← hset]; exact Sl.set _ _ hS.len hc1 hc2 hc3 hc4, hF.keep [5, 15, 16, 17] rfl, Hp.drop hH⟩)
     | (have hset := fpc_set h18 q[i] (by rw [fpc, if_neg (by simp [h23])])
        have hself : ((q.take i).map fpc ++ q.drop i).set i q[i] = (q.take i).map fpc ++ q.drop i := by
          rw [← fpc_get h18 (by omega)]; exact List.set_getElem_self _
        rw [hself] at hset
        exact ⟨q.length - (i + 1), by omega, i + 1, _, rfl, by omega, by rw [← hset]; exact hS, hF.keep [5, 15, 16, 17] rfl, Hp.drop hH⟩)
  try simp only [qq] at h23
  refine c_reg fun ops => ?_
  refine zm 2 hF rfl fun a hF => ?_
  refine zl hF rfl (r_fieldaddr0 hF rfl rfl fd100_0) fun a hF => ?_
  refine zl hF rfl (r_load hF rfl rfl fl9 (own_cell (i := 0) (v := .string (mk q[i].1)) hH rfl rfl)) fun a hF => ?_
  refine zc hF rfl rfl fn37 (fold_spec _ (by omega) _) ?_
  rintro _ w ⟨rfl, hE⟩ a hF
  replace hH := hH.ext hE
  refine zl hF rfl (r_ixown hF _ rfl rfl rfl Tryz.underlying96 ti100 (by omega)) fun a hF => ?_
  refine zl hF rfl (r_fieldaddr hF rfl rfl fd100_0) fun a hF => ?_
  refine ls_store 1 hF hH rfl rfl rfl rfl rfl fl9 ti9 rfl (by omega) (by simp [noFreeze]) (rfl) ?_
  intro w hH
  refine wpList_nil ?_
  refine t6.norm ?_
  refine k5 ?_
  refine c_reg fun ops => ?_
  refine zb hF rfl rfl rfl (b_addn _ _ 1 (by omega)) fun a hF => ?_
  refine zm 1 hF rfl fun a hF => ?_
  refine wpList_nil ?_
  refine k3 ?_
  first
    | (have hset := pcV_set (l := (q.take i).map fpc ++ q.drop i) (i := i) (by omega) (fold q[i].1)
       rw [fpc_set h18 _ (by rw [fpc_get h18, fpc, if_pos h23])] at hset
       exact ⟨q.length - (i + 1), by omega, i + 1, _, rfl, by omega, by rw [← hset]; exact Sl.set _ _ hS.len hc1 hc2 hc3 hc4, hF.keep [5, 15, 16, 17] rfl, Hp.drop hH⟩)
    | (have hset := fpc_set h18 q[i] (by rw [fpc, if_neg (by simp [h23])])
       have hself : ((q.take i).map fpc ++ q.drop i).set i q[i] = (q.take i).map fpc ++ q.drop i := by
         rw [← fpc_get h18 (by omega)]; exact List.set_getElem_self _
       rw [hself] at hset
       exact ⟨q.length - (i + 1), by omega, i + 1, _, rfl, by omega, by rw [← hset]; exact hS, hF.keep [5, 15, 16, 17] rfl, Hp.drop hH⟩)
end Go.Proofs.YtcelgjabccgnmaaGreatDoor
