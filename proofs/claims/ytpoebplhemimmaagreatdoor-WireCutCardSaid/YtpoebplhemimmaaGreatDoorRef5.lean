/-
  The walks of rdata.May and rdata.Fold. Nothing is claimed here.
  The walks of the document's layer 5: data by their types. Nothing is claimed here.
  Data: the program's functions and the document's compute the same plain functions. Nothing is claimed here.
-/
import Derived.Test.YtpoebplhemimmaaGreatDoorRd
import Derived.Test.YtpoebplhemimmaaGreatDoorLaw5
namespace Go.Proofs.YtpoebplhemimmaaGreatDoor
open Go.RowKit
set_option linter.unusedVariables false
set_option linter.unusedSimpArgs false
set_option maxHeartbeats 1000000

theorem dmay_spec (kind : Nat) (data : Bs) (hs : data.length < 1000000) (w0 : World) (hG : GW w0) : Rets Tryz.prog 53 [.int .u16 kind, .string (mk data)] w0 fun v w' => v = .bool (dmayB kind data) ∧ Ext w0 w' := by
  have hH := Hp.refl w0
  refine rets_start Tryz.func53 rfl Tryz.ntmps53 rfl fun a Q0 hF hret hend => ?_
  simp only [argsFrom, Nat.zero_add, Nat.reduceAdd] at hF
  refine c_sr fun ops => ?_
  refine zm 1 hF rfl fun a hF => ?_
  refine c_n ?_
  replace hF := hF.sel [0, 1]
  simp only [ss, Nat.reduceBEq] at hF
  refine c_sr fun ops => ?_
  refine zm 2 hF rfl fun a hF => ?_
  refine zc hF rfl rfl fn76 (read_spec data 0 kind true (Nat.zero_le _) hs _ (hG.ext hH.below)) ?_
  rintro _ w ⟨sv, B, rfl, hB, hS⟩ a hF
  replace hH := hH.ext hB.below
  refine zm 5 hF rfl fun a hF => ?_
  refine c_n ?_
  replace hF := hF.sel [6]
  simp only [ss, Nat.reduceBEq] at hF
  refine c_sr fun ops => ?_
  refine zm 1 hF rfl fun a hF => ?_
  refine zb hF rfl rfl rfl (b_eqn _ _ _ 0) fun a hF => ?_
  refine zm 1 hF rfl fun a hF => ?_
  refine c_n ?_
  replace hF := hF.sel [4]
  simp only [ss, Nat.reduceBEq] at hF
  refine wp_ret (hret (ret1 hF Tryz.results53 rfl ?_))
  exact ⟨by rw [dmayB], hH.below⟩

theorem pcV_cons (p : Bs × Bool) (l : Pieces) : pcV (p :: l) = .string (mk p.1) :: .bool p.2 :: pcV l := rfl
theorem pcV_get : ∀ {l : Pieces} {i : Nat} (h : i < l.length) (j : Nat) (u : Value), ([.string (mk l[i].1), .bool l[i].2] : List Value)[j]? = some u → (pcV l)[i * 2 + j]? = some u
  | p :: l, 0, h, j, u, hu => by
    rw [pcV_cons]
    cases j with
    | zero => simpa using hu
    | succ j => cases j with
      | zero => simpa using hu
      | succ j => simp at hu
  | p :: l, i + 1, h, j, u, hu => by
    rw [pcV_cons, show (i + 1) * 2 + j = (i * 2 + j) + 1 + 1 by omega, List.getElem?_cons_succ, List.getElem?_cons_succ]
    exact pcV_get (l := l) (by simpa using h) j u (by simpa using hu)
theorem pcV_set : ∀ {l : Pieces} {i : Nat} (h : i < l.length) (s : Bs), (pcV l).set (i * 2) (.string (mk s)) = pcV (l.set i (s, l[i].2))
  | p :: l, 0, h, s => by simp [pcV_cons]
  | p :: l, i + 1, h, s => by
    rw [pcV_cons, show (i + 1) * 2 = (i * 2) + 1 + 1 by omega]
    simp only [List.set_cons_succ, List.getElem_cons_succ]
    rw [pcV_set (l := l) (by simpa using h) s, pcV_cons]

def flatP (l : Pieces) : Bs := (l.map (·.1)).flatten
theorem flatP_take {l : Pieces} {i : Nat} (h : i < l.length) : flatP (l.take (i + 1)) = flatP (l.take i) ++ l[i].1 := by
  unfold flatP; rw [List.take_succ_eq_append_getElem h, List.map_append, List.flatten_append]; congr 1; simp
theorem flatP_le (l : Pieces) (i : Nat) : (flatP (l.take i)).length ≤ (flatP l).length := by
  have : flatP l = flatP (l.take i) ++ flatP (l.drop i) := by
    unfold flatP; rw [← List.flatten_append, ← List.map_append, List.take_append_drop]
  rw [this]; simp

theorem djoined_spec (l : Pieces) (v : Value) (w0 : World) (hR : RSl w0 2 v l.length (pcV l)) (hlen : (flatP l).length < 1000000) (hl : l.length < 5000000) : Rets Tryz.prog 82 [v] w0 fun v w' => v = .string (mk (flatP l)) ∧ Ext w0 w' := by
  have hH := Hp.refl w0
  obtain ⟨hl1, ad, cap, rfl, hc1, hc2, hc3⟩ := hR
  refine rets_start Tryz.func82 rfl Tryz.ntmps82 rfl fun a Q0 hF hret hend => ?_
  simp only [argsFrom, Nat.zero_add, Nat.reduceAdd] at hF
  refine c_sr fun ops => ?_
  refine zm 1 hF rfl fun a hF => ?_
  refine c_n ?_
  replace hF := hF.sel [0]
  simp only [ss, Nat.reduceBEq] at hF
  refine c_sr fun ops => ?_
  refine ls_alloc hF hH rfl rfl rfl rfl zv187 ?_
  intro a w g1_0 hH hE hF
  refine c_n ?_
  replace hF := hF.sel [0, 3]
  simp only [ss, Nat.reduceBEq] at hF
  refine c_seq fun Q1 k1 t1 => ?_
  refine c_sr fun ops => ?_
  refine zm 1 hF rfl fun a hF => ?_
  refine zl hF rfl (r_len_sl hF rfl rfl Tryz.underlying147) fun a hF => ?_
  refine zm 1 hF rfl fun a hF => ?_
  refine c_n ?_
  replace hF := hF.sel [3, 6, 7, 8]
  simp only [ss, Nat.reduceBEq] at hF
  refine c_block fun Q2 t2 => ?_
  refine c_loop (fun n a w => ∃ i BB, n = l.length - i ∧ i ≤ l.length ∧ Bld g1_0 BB (flatP (l.take i)) ∧ Fr 17 [(3, .pointer (some ⟨g1_0, 0, none⟩)), (6, .slice ad l.length cap), (7, .int .i64 l.length), (8, .int .i64 i)] a ∧ Hp w0 w BB) ?_ ?_
  ·
   exact ⟨_, 0, _, rfl, Nat.zero_le _, Bld.new _, hF.keep [3, 6, 7, 8] rfl, hH⟩
  clear hH hF
  intro n a w hI Q3 k3 t3
  obtain ⟨i, BB, hn, hi, hb, hF, hH⟩ := hI
  refine c_sr fun ops => ?_
  refine zb hF rfl rfl rfl (b_ltn _ _ _ _) fun a hF => ?_
  refine c_n ?_
  refine c_seq fun Q4 k4 t4 => ?_
  refine c_fi hF rfl (fun h9 => ?_) (fun h9 => ?_)
  ·
   try simp only [qq] at h9
   refine wp_exit (t4.exit (t3.exit (t2.here (?_))))
   refine k1 ?_
   have e : i = l.length := by omega
   subst e
   rw [List.take_length] at hb
   refine c_sr fun ops => ?_
   refine zc hF rfl rfl fn94 (string_spec (H := []) (by rw [List.append_nil]; exact hH) hb) ?_
   rintro _ w ⟨rfl, hE⟩ a hF
   
   refine zm 1 hF rfl fun a hF => ?_
   refine c_n ?_
   replace hF := hF.sel [2]
   simp only [ss, Nat.reduceBEq] at hF
   refine wp_ret (hret (ret1 hF Tryz.results82 rfl ?_))
   exact ⟨rfl, hE⟩
  try simp only [qq] at h9
  obtain ⟨b, off, rfl, hc⟩ : ∃ b off, ad = some ⟨b, off, none⟩ ∧ ∀ j u, (pcV l)[j]? = some u → w0.cell? ⟨b, off + j, none⟩ = some u := by
    rcases hc3 with ⟨_, _, h0⟩ | h
    · omega
    · exact h
  have hcc : ∀ j u, ([.string (mk l[i].1), .bool l[i].2] : List Value)[j]? = some u → w0.cell? ⟨b, off + i * 2 + j, none⟩ = some u := fun j u hu => by rw [Nat.add_assoc]; exact hc _ u (pcV_get h9 j u hu)
  have hj := flatP_take h9
  have hjl := flatP_le l (i + 1)
  rw [hj, List.length_append] at hjl
  refine wp_skip ?_
  refine k4 ?_
  refine c_seq fun Q5 k5 t5 => ?_
  refine c_block fun Q6 t6 => ?_
  refine c_sr fun ops => ?_
  refine zl hF rfl (r_indexaddr hF _ rfl rfl rfl Tryz.underlying147 ti168 (by omega)) fun a hF => ?_
  refine zl hF rfl (r_loadagg hF rfl rfl Tryz.underlying168 ti168 rfl (fun j u hu => hH.cell (hcc j u hu))) fun a hF => ?_
  refine ls_alloc hF hH rfl rfl rfl rfl zv168 ?_
  intro a w g4_2 hH hE hF
  refine ls_storeagg 0 hF hH rfl rfl rfl rfl rfl ti168 rfl (rfl) (rfl) (by simp [Value.oneCell']) ?_
  intro w hH
  refine c_n ?_
  refine c_reg fun ops => ?_
  refine zl hF rfl (r_fieldaddr0 hF rfl rfl fd168_0) fun a hF => ?_
  refine zl hF rfl (r_load hF rfl rfl fl9 (own_cell (i := 0) hH rfl rfl)) fun a hF => ?_
  replace hH := Hp.drop hH
  refine zc hF rfl rfl fn93 (writeString_spec (H := []) (by rw [List.append_nil]; exact hH) hb _ (by omega)) ?_
  rintro _ w ⟨rfl, BB, hH, hb⟩ a hF
  rw [List.append_nil] at hH
  refine wpList_nil ?_
  refine t6.norm ?_
  refine k5 ?_
  refine c_reg fun ops => ?_
  refine zb hF rfl rfl rfl (b_addn _ _ 1 (by omega)) fun a hF => ?_
  refine zm 1 hF rfl fun a hF => ?_
  refine wpList_nil ?_
  refine k3 ?_
  exact ⟨l.length - (i + 1), by omega, i + 1, BB, rfl, by omega, by rw [hj]; exact hb, hF.keep [3, 6, 7, 8] rfl, hH⟩

/-- A piece, its name folded. -/
def fpc (p : Bs × Bool) : Bs × Bool := (if p.2 then fold p.1 else p.1, p.2)
theorem fpc_set {l : Pieces} {i : Nat} (h : i < l.length) (s : Bs × Bool) (hs : s = fpc l[i]) : ((l.take i).map fpc ++ l.drop i).set i s = (l.take (i + 1)).map fpc ++ l.drop (i + 1) := by
  have hl : ((l.take i).map fpc).length = i := by simp; omega
  rw [List.set_append_right _ _ (by rw [hl]; exact Nat.le_refl _), hl, List.drop_eq_getElem_cons h, Nat.sub_self, List.set_cons_zero, List.take_succ_eq_append_getElem h, List.map_append, hs]
  simp
theorem fpc_get {l : Pieces} {i : Nat} (h : i < l.length) (h' : i < ((l.take i).map fpc ++ l.drop i).length) : ((l.take i).map fpc ++ l.drop i)[i] = l[i] := by
  have hl : ((l.take i).map fpc).length = i := by simp; omega
  rw [List.getElem_append_right (by omega)]
  simp only [hl, Nat.sub_self, List.getElem_drop, Nat.add_zero]
theorem fold_le (n : Bs) : (fold n).length ≤ n.length := by
  unfold fold
  cases h : split n with
  | none => simp
  | some l =>
    have := (split_le h).2.2.2.1
    simp only [List.length_append, List.length_singleton, joinL_low]; omega
theorem flatP_fpc : ∀ (l : Pieces), (flatP (l.map fpc)).length ≤ (flatP l).length
  | [] => Nat.le_refl _
  | p :: l => by
    have := flatP_fpc l
    have e : flatP ((p :: l).map fpc) = (fpc p).1 ++ flatP (l.map fpc) := rfl
    have e2 : flatP (p :: l) = p.1 ++ flatP l := rfl
    rw [e, e2, List.length_append, List.length_append]
    have : (fpc p).1.length ≤ p.1.length := by
      unfold fpc; simp only; split
      · exact fold_le _
      · exact Nat.le_refl _
    omega

end Go.Proofs.YtpoebplhemimmaaGreatDoor
namespace Go.Proofs.YtpoebplhemimmaaGreatDoor
open Go.RowKit
set_option linter.unusedVariables false
set_option linter.unusedSimpArgs false
set_option maxHeartbeats 1000000



theorem layoutF_le (kind : Nat) : (layoutF kind).1 ≤ 16 ∧ (layoutF kind).2.1 ≤ 2 ∧ (layoutF kind).2.2.1 ≤ 20 := by
  unfold layoutF
  repeat' split
  all_goals simp


/-- Reading a row of pieces. -/
theorem RSl.atP {w : World} {ad : Option Addr} {cap : Nat} {l : Pieces} (h : RSl w 2 (.slice ad l.length cap) l.length (pcV l)) {i : Nat} (hi : i < l.length) :
    ∃ b off, ad = some ⟨b, off, none⟩ ∧ w.cell? ⟨b, off + i * 2, none⟩ = some (.string (mk l[i].1)) ∧ w.cell? ⟨b, off + i * 2 + 1, none⟩ = some (.bool l[i].2) := by
  obtain ⟨h1, ad', cap', hv, _, _, h3⟩ := h
  cases hv
  rcases h3 with ⟨_, _, h0⟩ | ⟨b, off, rfl, hc⟩
  · omega
  · refine ⟨b, off, rfl, ?_, ?_⟩
    · have := hc (i * 2 + 0) _ (pcV_get hi 0 _ rfl); simpa using this
    · have := hc (i * 2 + 1) _ (pcV_get hi 1 _ rfl); rwa [← Nat.add_assoc] at this




end Go.Proofs.YtpoebplhemimmaaGreatDoor
namespace Go.Proofs.YtpoebplhemimmaaGreatDoor
open Go.RowKit
set_option linter.unusedVariables false
set_option linter.unusedSimpArgs false
set_option maxHeartbeats 1000000

theorem doParts_le {msg : Bs} {whole : Bool} : ∀ (xs : List Part) (p : Nat) (q : Pieces), p ≤ msg.length → (doParts msg whole xs p q).1 = 0 → (doParts msg whole xs p q).2.2.length ≤ q.length + xs.length * (1 + msg.length)
  | [], p, q, _, _ => by simp [doParts]
  | x :: xs, p, q, hp, h => by
    rw [doParts_cons] at h ⊢
    split at h
    · rename_i h1
      rw [if_pos h1]
      obtain ⟨h2, h3⟩ := doPart_le (q := q) hp x h1
      have := doParts_le xs _ _ h2 h
      rw [List.length_cons, Nat.add_mul]; omega
    · rename_i h1; exact absurd h h1
theorem partsOf_len {kind : Nat} {l : List Part} (h : partsOf kind = some l) : l.length ≤ 3 := by
  unfold partsOf at h
  repeat' split at h
  all_goals first
    | (cases h; decide)
    | cases h
theorem readD_len (kind : Nat) (data : Bs) : (readD data 0 kind true).2.length ≤ 3 * (1 + data.length) := by
  rw [readD]
  cases h : partsOf kind with
  | none => simp
  | some l =>
    have hl := partsOf_len h
    simp only [readE]
    split
    · rename_i h0
      split
      · simp
      · have := doParts_le (whole := true) l 0 [] (Nat.zero_le _) h0
        have h2 : l.length * (1 + data.length) ≤ 3 * (1 + data.length) := Nat.mul_le_mul_right _ hl
        simp only [List.length_nil] at this ⊢; omega
    · simp
theorem readD_no {kind : Nat} {data : Bs} (h : dmayB kind data = false) : (readD data 0 kind true).2 = [] := by
  rw [dmayB] at h
  rw [readD] at h ⊢
  cases hp : partsOf kind with
  | none => rfl
  | some l =>
    simp only [hp, readE] at h ⊢
    split
    · rename_i h0
      rw [if_pos h0] at h
      split
      · rfl
      · rename_i h1; rw [if_neg h1] at h; simp at h
    · rfl
theorem readD_flat (kind : Nat) (data : Bs) : (flatP (readD data 0 kind true).2).length ≤ data.length := by
  cases h : dmayB kind data with
  | true => rw [show flatP (readD data 0 kind true).2 = data from (agree_all kind data).2.2 h]; exact Nat.le_refl _
  | false => rw [readD_no h]; simp [flatP]
theorem rNames_le {msg : Bs} : ∀ (k p : Nat) (q : Pieces), (rNames msg k p q).2.2.length ≤ q.length + k ∧ (flatP (rNames msg k p q).2.2).length ≤ (flatP q).length + k * 255
  | 0, p, q => by simp [rNames]
  | k + 1, p, q => by
    rw [rNames]
    split
    · simp [flatP]
    · obtain ⟨h1, h2⟩ := rNames_le (msg := msg) k (readAt msg p).2.2 (q ++ [((readAt msg p).2.1, true)])
      have h3 := readAt_255 msg p
      have h4 : (flatP (q ++ [((readAt msg p).2.1, true)])).length = (flatP q).length + (readAt msg p).2.1.length := by simp [flatP]
      rw [List.length_append, List.length_singleton] at h1
      rw [Nat.add_mul]
      omega
theorem refP_le (kind : Nat) (data : Bs) : (refP data 0 kind).2.length ≤ 5 ∧ (flatP (refP data 0 kind).2).length ≤ 2 * data.length + 1000 := by
  obtain ⟨h1, h2, h3⟩ := layoutF_le kind
  unfold refP
  split
  · simp [flatP]
  split
  · unfold rTexts; split
    · simp [flatP]
    · split
      · simp [flatP]; omega
      · simp [flatP]
  split
  · simp [flatP]; omega
  split
  · simp [flatP]
  obtain ⟨h4, h5⟩ := rNames_le (msg := data) (layoutF kind).2.1 (0 + (layoutF kind).1) [((data.take (0 + (layoutF kind).1)).drop 0, false)]
  have h6 : (flatP [((data.take (0 + (layoutF kind).1)).drop 0, false)]).length ≤ data.length := by simp [flatP]; omega
  have h7 : (layoutF kind).2.1 * 255 ≤ 2 * 255 := Nat.mul_le_mul_right _ h2
  split
  · simp [flatP]
  split
  · simp [flatP]
  split
  · simp [flatP]
  · simp only [List.length_append, List.length_singleton] at h4 ⊢
    refine ⟨by omega, ?_⟩
    have h8 : ∀ x : Bs, (flatP ((rNames data (layoutF kind).2.1 (0 + (layoutF kind).1) [((data.take (0 + (layoutF kind).1)).drop 0, false)]).2.2 ++ [(x, false)])).length = (flatP (rNames data (layoutF kind).2.1 (0 + (layoutF kind).1) [((data.take (0 + (layoutF kind).1)).drop 0, false)]).2.2).length + x.length := by
      intro x; simp [flatP]
    rw [h8, List.length_drop]
    omega
theorem refW_flat {kind : Nat} {data : Bs} : flatP ((refW kind data).getD []) = data ∨ (refW kind data).getD [] = [] := by
  rw [refW]; split
  · exact .inr rfl
  · rename_i h
    refine .inl ?_
    have := fun e => h (.inr e)
    exact Classical.not_not.1 this
theorem piece_le {l : Pieces} {p : Bs × Bool} (h : p ∈ l) : p.1.length ≤ (flatP l).length := by
  obtain ⟨i, hi, rfl⟩ := List.mem_iff_getElem.1 h
  have h1 := flatP_take hi
  have h2 := flatP_le l (i + 1)
  rw [h1, List.length_append] at h2; omega

end Go.Proofs.YtpoebplhemimmaaGreatDoor
