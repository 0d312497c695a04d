/-
  Letters of either case: the plain law, and the walks of hustingslaw08.upper and RrsetLetters. Nothing is claimed here.
-/
import Derived.Test.YtcelgjabccgnmaaGreatDoorLaw8b
namespace Go.Proofs.YtcelgjabccgnmaaGreatDoor
open Go.RowKit
set_option linter.unusedVariables false
set_option linter.unusedSimpArgs false
set_option maxHeartbeats 1000000
set_option maxRecDepth 10000

def up (l : Bs) : Bs := l.map upB
theorem up_len (l : Bs) : (up l).length = l.length := by simp [up]
theorem low_up (l : Bs) : low (up l) = low l := by simp [low, up, lowB_upB]
theorem up_join : ∀ (ls : List Bs), okL ls → up (joinL ls ++ [0]) = joinL (ls.map up) ++ [0]
  | [], _ => rfl
  | x :: ls, h => by
    have hx := h x (List.mem_cons_self ..)
    have ih := up_join ls fun y hy => h y (List.mem_cons_of_mem _ hy)
    have e : upB (UInt8.ofNat x.length) = UInt8.ofNat x.length := by
      unfold upB; rw [if_neg (by rw [len8 hx.2]; omega)]
    simp only [joinL, List.map_cons, List.cons_append, List.append_assoc] at *
    show upB (UInt8.ofNat x.length) :: up (x ++ (joinL ls ++ [0])) = _
    rw [e, up_len, show up (x ++ (joinL ls ++ [0])) = up x ++ up (joinL ls ++ [0]) from List.map_append, ih]
theorem joinL_up : ∀ (ls : List Bs), (joinL (ls.map up)).length = (joinL ls).length
  | [] => rfl
  | x :: ls => by simp only [List.map_cons, joinL, List.cons_append, List.length_cons, List.length_append, up_len, joinL_up ls]
theorem split_up {n : Bs} {l : List Bs} (h : split n = some l) : split (up n) = some (l.map up) := by
  obtain ⟨h1, h2, h3⟩ := split_some.1 h
  rw [h1, up_join l h2]
  exact split_some.2 ⟨rfl, okL_map up_len h2, by rw [joinL_up]; exact h3⟩
theorem may_up {n : Bs} (h : mayB n = true) : mayB (up n) = true := by
  obtain ⟨l, hl⟩ := may_iff.1 h
  exact may_iff.2 ⟨_, split_up hl⟩
theorem fold_up {n : Bs} (h : mayB n = true) : fold (up n) = fold n := by
  obtain ⟨l, hl⟩ := may_iff.1 h
  rw [fold_some hl, fold_some (split_up hl), List.map_map]
  congr 2
  exact List.map_congr_left fun x _ => low_up x
def upR (r : Rec) : Rec := if rmay r = true then ⟨up r.name, r.kind, r.cls, r.ttl, if r.kind = 2 ∨ r.kind = 5 ∨ r.kind = 12 then up r.data else r.data⟩ else r
theorem upR_same (r : Rec) : rmay (upR r) = rmay r ∧ (rmay r = true → setOf (upR r) = setOf r) := by
  unfold upR
  split
  · rename_i hm
    have h1 : mayB r.name = true ∧ dmayB r.kind r.data = true := by unfold rmay at hm; simpa using hm
    have hd : dmayB r.kind (if r.kind = 2 ∨ r.kind = 5 ∨ r.kind = 12 then up r.data else r.data) = true ∧ dfold r.kind (if r.kind = 2 ∨ r.kind = 5 ∨ r.kind = 12 then up r.data else r.data) = dfold r.kind r.data := by
      split
      · rename_i hk
        have hp : partsOf r.kind = some [.named] := by rcases hk with h | h | h <;> rw [h] <;> rfl
        have hm2 : mayB r.data = true := by rw [← dmay_named hp]; exact h1.2
        exact ⟨by rw [dmay_named hp]; exact may_up hm2, by rw [dfold_named hp, dfold_named hp]; exact fold_up hm2⟩
      · exact ⟨h1.2, rfl⟩
    have hr : rmay (⟨up r.name, r.kind, r.cls, r.ttl, if r.kind = 2 ∨ r.kind = 5 ∨ r.kind = 12 then up r.data else r.data⟩ : Rec) = true := by
      unfold rmay; simp only [may_up h1.1, hd.1, Bool.and_self]
    refine ⟨by rw [hr, hm], fun _ => ?_⟩
    unfold setOf
    rw [if_pos hr, if_pos hm]
    simp only [fold_up h1.1, hd.2]
  · exact ⟨rfl, fun _ => rfl⟩
theorem group_up (l : List Rec) : groupN (l.map upR) = groupN l := group_map upR l fun r _ => upR_same r
theorem upR_len (r : Rec) : (upR r).name.length = r.name.length ∧ (upR r).data.length = r.data.length := by
  unfold upR
  split
  · refine ⟨up_len _, ?_⟩
    show (if r.kind = 2 ∨ r.kind = 5 ∨ r.kind = 12 then up r.data else r.data).length = _
    split
    · exact up_len _
    · rfl
  · exact ⟨rfl, rfl⟩
theorem upRecs {l : List Rec} (h : RecsB l) : RecsB (l.map upR) := ⟨by rw [List.length_map]; exact h.len, fun r hr => by
  obtain ⟨x, hx, rfl⟩ := List.mem_map.1 hr
  rw [(upR_len x).1, (upR_len x).2]; exact h.each x hx⟩

theorem cell_up {cur : Array Value} {l : Bs} {i : Nat} (h : cur.toList.take l.length = bytV (up (l.take i) ++ l.drop i)) (hi : i < l.length) : cur[i]? = some (.int .u8 ((l.getD i 0).toNat : Int)) := by
  refine mid_get h ?_
  have e : (up (l.take i) ++ l.drop i).getD i 0 = l.getD i 0 := by
    have : (up (l.take i)).length = i := by simp [up]; omega
    simp [List.getD_eq_getElem?_getD, List.getElem?_append, this]
  rw [bytV_get (by simp [up]; omega), e]
theorem up_next {l : Bs} {i : Nat} (hi : i < l.length) (h : upB (l.getD i 0) = l.getD i 0) : up (l.take i) ++ l.drop i = up (l.take (i + 1)) ++ l.drop (i + 1) := by
  have hg : l.getD i 0 = l[i] := by simp [List.getD_eq_getElem?_getD, hi]
  rw [hg] at h
  rw [List.drop_eq_getElem_cons hi, List.take_succ_eq_append_getElem hi]
  simp only [up, List.map_append, List.map_cons, List.map_nil, h, List.append_assoc, List.cons_append, List.nil_append]
theorem set_up {cur : Array Value} {l : Bs} {i : Nat} (h : cur.toList.take l.length = bytV (up (l.take i) ++ l.drop i)) (hi : i < l.length) :
    (cur.setIfInBounds i (.int .u8 ((upB (l.getD i 0)).toNat : Int))).toList.take l.length = bytV (up (l.take (i + 1)) ++ l.drop (i + 1)) := by
  have hl : (up (l.take i)).length = i := by simp [up]; omega
  have hg : l.getD i 0 = l[i] := by simp [List.getD_eq_getElem?_getD, hi]
  have h1 : l.take (i + 1) = l.take i ++ [l[i]] := by rw [List.take_succ_eq_append_getElem hi]
  rw [Array.toList_setIfInBounds, List.take_set, h, hg, List.drop_eq_getElem_cons hi, h1]
  simp only [up, bytV, List.map_append, List.map_cons, List.map_nil]
  have hl' : (List.map (fun b : UInt8 => Value.int IntKind.u8 (b.toNat : Int)) (List.map upB (l.take i))).length = i := by simp; omega
  rw [List.set_append_right _ _ (by rw [hl']; exact Nat.le_refl _), hl']
  simp
theorem upper_spec (l : Bs) (hl : l.length < 4611686018427387904) (w0 : World) : Rets Tryz.prog 24 [.string (mk l)] w0 fun v w' => v = .string (mk (up l)) ∧ Ext w0 w' := by
  have hH := Hp.refl w0
  refine rets_start Tryz.func24 rfl Tryz.ntmps24 rfl fun a Q0 hF hret hend => ?_
  simp only [argsFrom, Nat.zero_add, Nat.reduceAdd] at hF
  refine c_sr fun ops => ?_
  refine zm 1 hF rfl fun a hF => ?_
  refine c_n ?_
  replace hF := hF.sel [0]
  simp only [ss, Nat.reduceBEq] at hF
  refine c_sr fun ops => ?_
  refine zm 1 hF rfl fun a hF => ?_
  refine ls_convbytes hF hH rfl rfl rfl rfl rfl Tryz.underlying9 Tryz.underlying88 Tryz.underlying5 (by unfold maxLen; omega) ?_
  intro a w g1_1 cap1_1 cur1_1 hH hE hcap1_1 hmx1_1 hsz1_1 htk1_1 hF
  refine zm 1 hF rfl fun a hF => ?_
  refine c_n ?_
  replace hF := hF.sel [3]
  simp only [ss, Nat.reduceBEq] at hF
  have h1 : cur1_1.toList.take l.length = bytV (up (l.take 0) ++ l.drop 0) := by simpa [up] using htk1_1
  refine c_seq fun Q1 k1 t1 => ?_
  refine c_sr fun ops => ?_
  refine zm 1 hF rfl fun a hF => ?_
  refine c_n ?_
  replace hF := hF.sel [3, 4]
  simp only [ss, Nat.reduceBEq] at hF
  refine c_block fun Q2 t2 => ?_
  refine c_loop (fun n a w => ∃ i cur, n = l.length - i ∧ i ≤ l.length ∧ cur.size = cap1_1 ∧ cur.toList.take l.length = bytV (up (l.take i) ++ l.drop i) ∧ Fr 35 [(3, .slice (some ⟨g1_1, 0, none⟩) l.length cap1_1), (4, .int .i64 i)] a ∧ Hp w0 w [(g1_1, .cells cur 5 (cap1_1, cap1_1 + 1))]) ?_ ?_
  ·
   exact ⟨_, 0, cur1_1, rfl, Nat.zero_le _, hsz1_1, h1, hF.keep [3, 4] rfl, by rw [← hsz1_1]; exact hH⟩
  intro n a w hI Q3 k3 t3
  obtain ⟨i, cur, hn, hi, hsz, htk, hF, hH⟩ := hI
  refine c_seq fun Q4 k4 t4 => ?_
  refine c_sr fun ops => ?_
  refine zm 2 hF rfl fun a hF => ?_
  refine zl hF rfl (r_len_sl hF rfl rfl Tryz.underlying88) fun a hF => ?_
  refine zb hF rfl rfl rfl (b_ltn _ _ _ _) fun a hF => ?_
  refine c_n ?_
  refine c_fi hF rfl (fun h10 => ?_) (fun h10 => ?_)
  ·
   try simp only [qq] at h10
   refine wp_exit (t4.exit (t3.exit (t2.here (?_))))
   refine k1 ?_
   have hR : RSl w 1 (.slice (some ⟨g1_1, 0, none⟩) l.length cap1_1) l.length (bytV (up l)) := by
     have e : i = l.length := by omega
     subst e
     refine ⟨by simp [bytV, up], _, _, rfl, hcap1_1, hmx1_1, .inr ⟨g1_1, 0, rfl, fun j u hu => ?_⟩⟩
     rw [Nat.zero_add]
     refine own_cell (i := 0) hH rfl (mid_get htk ?_)
     simpa using hu
   refine c_sr fun ops => ?_
   refine zm 1 hF rfl fun a hF => ?_
   refine zl hF rfl (r_convstr hF rfl rfl Tryz.underlying88 Tryz.underlying5 Tryz.underlying9 (hR)) fun a hF => ?_
   refine zm 1 hF rfl fun a hF => ?_
   refine c_n ?_
   replace hF := hF.sel [2]
   simp only [ss, Nat.reduceBEq] at hF
   refine wp_ret (hret (ret1 hF Tryz.results24 rfl ?_))
   exact ⟨rfl, hH.below⟩
  try simp only [qq] at h10
  have hcell := cell_up htk h10
  have hc8 := (l.getD i 0).toNat_lt
  refine wp_skip ?_
  refine k4 ?_
  refine c_seq fun Q5 k5 t5 => ?_
  refine c_block fun Q6 t6 => ?_
  refine c_sg ?_
  refine zm 2 hF rfl fun a hF => ?_
  refine zl hF rfl (r_ix1 hF _ rfl rfl rfl Tryz.underlying88 ti5 (by omega)) fun a hF => ?_
  refine zl hF rfl (r_load hF rfl rfl fl5 (own_cell (i := 0) hH rfl (show cur[0 + i]? = some (.int .u8 ((l.getD i 0).toNat : Int)) by rw [Nat.zero_add]; exact hcell))) fun a hF => ?_
  refine zb hF rfl rfl rfl (b_gen _ _ _ 97) fun a hF => ?_
  refine zm 1 hF rfl fun a hF => ?_
  refine l_ask (d := 18) hF rfl (fun g5_5 => ?_) (fun g5_5 => ?_)
  ·
   have g5_5' := g5_5; try simp only [qq] at g5_5'
   refine zn hF rfl g5_5 fun a hF => ?_
   refine zn hF rfl g5_5 fun a hF => ?_
   refine zn hF rfl g5_5 fun a hF => ?_
   refine zn hF rfl g5_5 fun a hF => ?_
   refine zn hF rfl g5_5 fun a hF => ?_
   refine zl hF rfl (r_pickf hF rfl rfl g5_5 rfl) fun a hF => ?_
   refine c_n ?_
   refine c_no hF rfl rfl ?_
   refine wp_skip ?_
   refine t6.norm ?_
   refine k5 ?_
   refine c_reg fun ops => ?_
   refine zm 1 hF rfl fun a hF => ?_
   refine zb hF rfl rfl rfl (b_addn _ _ 1 (by omega)) fun a hF => ?_
   refine zm 1 hF rfl fun a hF => ?_
   refine wpList_nil ?_
   refine k3 ?_
   first
     | exact ⟨l.length - (i + 1), by omega, i + 1, _, rfl, by omega, by simpa using hsz, set_up htk h10, hF.keep [3, 4] rfl, by simpa using hH⟩
     | exact ⟨l.length - (i + 1), by omega, i + 1, _, rfl, by omega, hsz, by rw [← up_next h10 (by unfold upB; rw [if_neg (by omega)])]; exact htk, hF.keep [3, 4] rfl, hH⟩
  have g5_5' := g5_5; try simp only [qq] at g5_5'
  refine zy hF rfl g5_5 (r_move hF rfl rfl) fun a hF => ?_
  refine zy hF rfl g5_5 (r_move hF rfl rfl) fun a hF => ?_
  refine zy hF rfl g5_5 (r_ix1 hF _ rfl rfl rfl Tryz.underlying88 ti5 (by omega)) fun a hF => ?_
  refine zy hF rfl g5_5 (r_load hF rfl rfl fl5 (own_cell (i := 0) hH rfl (show cur[0 + i]? = some (.int .u8 ((l.getD i 0).toNat : Int)) by rw [Nat.zero_add]; exact hcell))) fun a hF => ?_
  refine zy hF rfl g5_5 (zr hF rfl rfl (b_len _ _ _ 122)) fun a hF => ?_
  refine zl hF rfl (r_pickt hF rfl rfl g5_5 rfl) fun a hF => ?_
  refine c_n ?_
  refine c_fi hF rfl (fun h24 => ?_) (fun h24 => ?_)
  ·
   try simp only [qq] at h24
   refine wp_skip ?_
   refine t6.norm ?_
   refine k5 ?_
   refine c_reg fun ops => ?_
   refine zm 1 hF rfl fun a hF => ?_
   refine zb hF rfl rfl rfl (b_addn _ _ 1 (by omega)) fun a hF => ?_
   refine zm 1 hF rfl fun a hF => ?_
   refine wpList_nil ?_
   refine k3 ?_
   first
     | exact ⟨l.length - (i + 1), by omega, i + 1, _, rfl, by omega, by simpa using hsz, set_up htk h10, hF.keep [3, 4] rfl, by simpa using hH⟩
     | exact ⟨l.length - (i + 1), by omega, i + 1, _, rfl, by omega, hsz, by rw [← up_next h10 (by unfold upB; rw [if_neg (by omega)])]; exact htk, hF.keep [3, 4] rfl, hH⟩
  try simp only [qq] at h24
  have hc1 : 97 ≤ (l.getD i 0).toNat ∧ (l.getD i 0).toNat ≤ 122 := by omega
  have hc2 : IntKind.u8.wrap (((l.getD i 0).toNat : Int) - 32) = ((upB (l.getD i 0)).toNat : Int) := by
    have h2 : (l.getD i 0 - 32).toNat = (l.getD i 0).toNat - 32 := UInt8.toNat_sub_of_le _ _ (UInt8.le_iff_toNat_le.2 (show (32 : UInt8).toNat ≤ (l.getD i 0).toNat from Nat.le_trans (show (32 : UInt8).toNat ≤ 97 by decide) hc1.1))
    rw [upB, if_pos hc1, h2, IntWalk.u8_in _ (by omega)]; omega
  refine c_reg fun ops => ?_
  refine zm 4 hF rfl fun a hF => ?_
  refine zl hF rfl (r_ix1 hF _ rfl rfl rfl Tryz.underlying88 ti5 (by omega)) fun a hF => ?_
  refine zl hF rfl (r_load hF rfl rfl fl5 (own_cell (i := 0) hH rfl (show cur[0 + i]? = some (.int .u8 ((l.getD i 0).toNat : Int)) by rw [Nat.zero_add]; exact hcell))) fun a hF => ?_
  refine zb hF rfl rfl rfl (b_sub _ _ _ _) fun a hF => ?_
  refine zl hF rfl (r_ix1 hF _ rfl rfl rfl Tryz.underlying88 ti5 (by omega)) fun a hF => ?_
  refine ls_store 0 hF hH rfl rfl rfl rfl rfl fl5 ti5 rfl (by simp; omega) (by simp [noFreeze]; omega) (rfl) ?_
  intro w hH
  refine wpList_nil ?_
  rw [hc2] at hH
  refine t6.norm ?_
  refine k5 ?_
  refine c_reg fun ops => ?_
  refine zm 1 hF rfl fun a hF => ?_
  refine zb hF rfl rfl rfl (b_addn _ _ 1 (by omega)) fun a hF => ?_
  refine zm 1 hF rfl fun a hF => ?_
  refine wpList_nil ?_
  refine k3 ?_
  first
    | exact ⟨l.length - (i + 1), by omega, i + 1, _, rfl, by omega, by simpa using hsz, set_up htk h10, hF.keep [3, 4] rfl, by simpa using hH⟩
    | exact ⟨l.length - (i + 1), by omega, i + 1, _, rfl, by omega, hsz, by rw [← up_next h10 (by unfold upB; rw [if_neg (by omega)])]; exact htk, hF.keep [3, 4] rfl, hH⟩

theorem recsV_put : ∀ {l : List Rec} {k : Nat} (h : k < l.length) (j : Nat) (x : Value) (r : Rec), (recV l[k]).set j x = recV r → j < 5 → (recsV l).set (k * 5 + j) x = recsV (l.set k r)
  | q :: l, 0, _, j, x, r, hr, hj => by
    have h1 : recsV (q :: l) = recV q ++ recsV l := rfl
    rw [h1, Nat.zero_mul, Nat.zero_add, List.set_append_left _ _ (by simp [recV]; omega)]
    show (recV q).set j x ++ recsV l = recV r ++ recsV l
    rw [← hr]; rfl
  | q :: l, k + 1, h, j, x, r, hr, hj => by
    have h1 : recsV (q :: l) = recV q ++ recsV l := rfl
    have h2 := recsV_put (l := l) (Nat.lt_of_succ_lt_succ h) j x r hr hj
    rw [h1, show (k + 1) * 5 + j = (recV q).length + (k * 5 + j) by simp [recV]; omega, List.set_append_right _ _ (by omega), Nat.add_sub_cancel_left, h2]
    rfl
theorem mid_up {l : List Rec} {i : Nat} (h : i < l.length) : ((l.take i).map upR ++ l.drop i).set i (upR l[i]) = (l.take (i + 1)).map upR ++ l.drop (i + 1) := by
  have hl : ((l.take i).map upR).length = i := by simp; omega
  rw [List.take_succ_eq_append_getElem h, List.drop_eq_getElem_cons h, List.set_append_right _ _ (by omega), hl]
  simp only [List.map_append, List.map_cons, List.map_nil, Nat.sub_self, List.set_cons_zero, List.append_assoc, List.cons_append, List.nil_append]
theorem mid_at {l : List Rec} {i : Nat} (h : i < l.length) (h2 : i < ((l.take i).map upR ++ l.drop i).length) : ((l.take i).map upR ++ l.drop i)[i] = l[i] := by
  have hl : ((l.take i).map upR).length = i := by simp; omega
  rw [List.getElem_append_right (by omega), List.getElem_drop]
  congr 1; omega
theorem rrsetLetters_spec (l : List Rec) (v : Value) (w0 : World) (hR : RSl w0 5 v l.length (recsV l)) (hlb : ∀ r ∈ l, r.name.length ≤ 140737488351232 ∧ r.data.length ≤ 140737488351232) (hG : GW w0) :
    Rets Tryz.prog 4 [v] w0 fun r w' => r = .bool true ∧ Ext w0 w' := by
  have hH := Hp.refl w0
  obtain ⟨ad, cap, rfl⟩ := hR.shape
  refine rets_start Tryz.func4 rfl Tryz.ntmps4 rfl fun a Q0 hF hret hend => ?_
  simp only [argsFrom, Nat.zero_add, Nat.reduceAdd] at hF
  refine c_sr fun ops => ?_
  refine zm 1 hF rfl fun a hF => ?_
  refine c_n ?_
  replace hF := hF.sel [0]
  simp only [ss, Nat.reduceBEq] at hF
  refine c_seq fun Q1 k1 t1 => ?_
  refine c_sg ?_
  refine zm 1 hF rfl fun a hF => ?_
  refine zc hF rfl rfl fn22 (long8_spec l _ _ (hR.ext hH.below) hlb) ?_
  rintro _ w ⟨⟨b, rfl, hlg⟩, hE⟩ a hF
  replace hH := hH.ext hE
  refine zm 1 hF rfl fun a hF => ?_
  refine ls_ask (d := 7) hF rfl (fun g1_2 => ?_) (fun g1_2 => ?_)
  ·
   have g1_2' := g1_2; try simp only [qq] at g1_2'
   refine zn hF rfl g1_2 fun a hF => ?_
   refine zn hF rfl g1_2 fun a hF => ?_
   refine zl hF rfl (r_pickt hF rfl rfl g1_2 rfl) fun a hF => ?_
   refine c_n ?_
   replace hF := hF.sel [0, 10]
   simp only [ss, Nat.reduceBEq] at hF
   refine c_yes hF rfl rfl ?_
   refine c_sr fun ops => ?_
   refine zc hF rfl rfl fn17 (awake8_spec _ (hG.ext hH.below)) ?_
   rintro _ w ⟨rfl, hE⟩ a hF
   replace hH := hH.ext hE
   refine zm 1 hF rfl fun a hF => ?_
   refine c_n ?_
   replace hF := hF.sel [2]
   simp only [ss, Nat.reduceBEq] at hF
   refine wp_ret (t1.ret (hret (ret1 hF Tryz.results4 rfl ?_)))
   exact ⟨rfl, hH.below⟩
  have g1_2' := g1_2; try simp only [qq] at g1_2'
  refine zyc hF rfl g1_2 rfl fn17 (awake8_spec _ (hG.ext hH.below)) ?_
  rintro _ w ⟨rfl, hE⟩ a hF
  replace hH := hH.ext hE
  refine zy hF rfl g1_2 (r_not hF rfl rfl) fun a hF => ?_
  refine zl hF rfl (r_pickf hF rfl rfl g1_2 rfl) fun a hF => ?_
  refine c_n ?_
  replace hF := hF.sel [0, 10]
  simp only [ss, Nat.reduceBEq] at hF
  refine c_if hF rfl (fun h10 => ?_) (fun h10 => ?_)
  ·
   try simp only [qq] at h10
   refine c_sr fun ops => ?_
   refine zc hF rfl rfl fn17 (awake8_spec _ (hG.ext hH.below)) ?_
   rintro _ w ⟨rfl, hE⟩ a hF
   replace hH := hH.ext hE
   refine zm 1 hF rfl fun a hF => ?_
   refine c_n ?_
   replace hF := hF.sel [2]
   simp only [ss, Nat.reduceBEq] at hF
   refine wp_ret (t1.ret (hret (ret1 hF Tryz.results4 rfl ?_)))
   exact ⟨rfl, hH.below⟩
  try simp only [qq] at h10
  obtain ⟨hRB, hll⟩ := hlg g1_2'
  have hgb := group_bounds hRB
  have hH3 := hH.below
  obtain ⟨w3, hw3⟩ : ∃ w3, w3 = w := ⟨w, rfl⟩
  rw [← hw3] at hH3
  replace hH : Hp w3 w [] := by rw [hw3]; exact Hp.refl _
  clear hw3
  refine wp_skip ?_
  refine k1 ?_
  refine c_sr fun ops => ?_
  refine ls_buildN (us := []) hF hH rfl rfl rfl rfl rfl rfl Tryz.underlying34 ti38 (fun _ h => (List.not_mem_nil h).elim) (by decide) ?_
  intro a w g3_0 hH hE hF
  have hX : Sl 38 5 [(g3_0, .cells #[] 38 (0, 0))] (.slice (some ⟨g3_0, 0, none⟩) 0 0) 0 [] := ⟨rfl, .inr ⟨_, 0, _, rfl, rfl, Nat.le_refl _, by unfold maxLen; omega, rfl, rfl⟩⟩
  refine zm 1 hF rfl fun a hF => ?_
  refine ls_append hF hH rfl rfl rfl rfl rfl rfl Tryz.underlying34 ti38 hX ((hR.ext hH3).ext hH.below) (recs_one l) (by decide) (by omega) ?_
  intro a v3_2 w B3_2 hH hX hF
  refine zm 1 hF rfl fun a hF => ?_
  refine c_n ?_
  replace hF := hF.sel [0, 3]
  simp only [ss, Nat.reduceBEq] at hF
  rw [Nat.zero_add, List.nil_append] at hX
  rw [List.append_nil] at hH
  refine c_seq fun Q2 k2 t2 => ?_
  refine c_sr fun ops => ?_
  refine zm 1 hF rfl fun a hF => ?_
  refine c_n ?_
  replace hF := hF.sel [0, 3, 4]
  simp only [ss, Nat.reduceBEq] at hF
  refine c_block fun Q3 t3 => ?_
  refine c_loop (fun n a w => ∃ i B mv, n = l.length - i ∧ i ≤ l.length ∧ Fr 74 [(0, .slice ad l.length cap), (3, mv), (4, .int .i64 (i : Nat))] a ∧ Hp w3 w B ∧ Sl 38 5 B mv l.length (recsV ((l.take i).map upR ++ l.drop i))) ?_ ?_
  ·
   exact ⟨_, 0, _, _, rfl, Nat.zero_le _, hF.keep [0, 3, 4] rfl, hH, by simpa using hX⟩
  clear hH hF hX
  intro n a w hI Q4 k4 t4
  obtain ⟨i, B, mv, hm, hi, hF, hH, hS⟩ := hI
  refine c_seq fun Q5 k5 t5 => ?_
  refine c_sr fun ops => ?_
  refine zm 2 hF rfl fun a hF => ?_
  refine zl hF rfl (r_len_sl hF rfl rfl Tryz.underlying34) fun a hF => ?_
  refine zb hF rfl rfl rfl (b_ltn _ _ _ _) fun a hF => ?_
  refine c_n ?_
  refine c_fi hF rfl (fun h18 => ?_) (fun h18 => ?_)
  ·
   try simp only [qq] at h18
   obtain rfl : i = l.length := by omega
   rw [List.take_length, List.drop_length, List.append_nil] at hS
   refine wp_exit (t5.exit (t4.exit (t3.here (?_))))
   refine k2 ?_
   refine c_sr fun ops => ?_
   refine zm 1 hF rfl fun a hF => ?_
   refine zc hF rfl rfl fn26 (groupR_spec (l.map upR) _ _ (rsl_len (hS.rsl hH (fun p hp => hp)) (by rw [List.length_map])) (upRecs hRB) (hG.ext (hH3.trans hH.below))) ?_
   rintro v70 w ⟨hs70, hE⟩ a hF
   replace hH := hH.ext hE
   rw [group_up] at hs70
   refine zm 1 hF rfl fun a hF => ?_
   refine zc hF rfl rfl fn26 (groupR_spec l _ _ (hR.ext (hH3.trans hH.below)) hRB (hG.ext (hH3.trans hH.below))) ?_
   rintro v72 w ⟨hs72, hE⟩ a hF
   replace hH := hH.ext hE
   refine zc hF rfl rfl fn25 (sameAll_yes _ (hs70.ext hE) hs72 hgb.len hgb.data) ?_
   rintro _ w ⟨rfl, hE⟩ a hF
   replace hH := hH.ext hE
   refine zm 1 hF rfl fun a hF => ?_
   refine c_n ?_
   replace hF := hF.sel [2]
   simp only [ss, Nat.reduceBEq] at hF
   refine wp_ret (hret (ret1 hF Tryz.results4 rfl ?_))
   exact ⟨rfl, hH3.trans hH.below⟩
  try simp only [qq] at h18
  obtain ⟨bx, offx, rfl, -, hrecx⟩ := hR.rec h18
  have hxb := hRB.each _ (List.getElem_mem h18)
  obtain ⟨g, cp, cur, rfl, rfl, hcp, hcm, hcs, hct⟩ := hS.open (by omega)
  have hXi : i < ((l.take i).map upR ++ l.drop i).length := by simp; omega
  refine wp_skip ?_
  refine k5 ?_
  refine c_seq fun Q6 k6 t6 => ?_
  refine c_block fun Q7 t7 => ?_
  refine c_seq fun Q8 k8 t8 => ?_
  refine c_sr fun ops => ?_
  refine zm 2 hF rfl fun a hF => ?_
  refine zl hF rfl (r_indexaddr hF _ rfl rfl rfl Tryz.underlying34 ti38 (by omega)) fun a hF => ?_
  refine zl hF rfl (r_loadagg hF rfl rfl Tryz.underlying38 ti38 rfl (fun j u hu => hH.cell (hH3.cell (hrecx j u hu)))) fun a hF => ?_
  refine zc hF rfl rfl fn23 (may8_spec _ _ hxb.1 hxb.2 (hG.ext (hH3.trans hH.below))) ?_
  rintro _ w ⟨rfl, hE⟩ a hF
  replace hH := hH.ext hE
  refine zl hF rfl (r_not hF rfl rfl) fun a hF => ?_
  refine c_n ?_
  refine c_if hF rfl (fun h26 => ?_) (fun h26 => ?_)
  ·
   try simp only [qq] at h26
   refine wp_exit (t8.exit (t7.here (?_)))
   refine k6 ?_
   refine c_reg fun ops => ?_
   refine zm 1 hF rfl fun a hF => ?_
   refine zb hF rfl rfl rfl (b_addn _ _ 1 (by omega)) fun a hF => ?_
   refine zm 1 hF rfl fun a hF => ?_
   refine wpList_nil ?_
   refine k4 ?_
   refine ⟨l.length - (i + 1), by omega, i + 1, _, _, rfl, h18, hF.keep [0, 3, 4] rfl, hH, ?_⟩
   rw [← mid_up h18]
   first
     | rw [show upR l[i] = ⟨up l[i].name, l[i].kind, l[i].cls, l[i].ttl, up l[i].data⟩ by rw [upR, if_pos h26, if_pos (by omega)]]; exact hS10
     | rw [show upR l[i] = ⟨up l[i].name, l[i].kind, l[i].cls, l[i].ttl, l[i].data⟩ by rw [upR, if_pos h26, if_neg (by omega)]]; exact hS8
     | rw [show upR l[i] = ((l.take i).map upR ++ l.drop i)[i] by rw [mid_at h18, upR, if_neg (by rw [h26]; decide)], List.set_getElem_self]; exact hS
  try simp only [qq] at h26
  refine wp_skip ?_
  refine k8 ?_
  refine c_sr fun ops => ?_
  refine zm 4 hF rfl fun a hF => ?_
  refine zl hF rfl (r_indexaddr hF _ rfl rfl rfl Tryz.underlying34 ti38 (by omega)) fun a hF => ?_
  refine zl hF rfl (r_fieldaddr hF rfl rfl fd38_0) fun a hF => ?_
  refine zl hF rfl (r_load hF rfl rfl fl9 (hH.cell (hH3.cell (hrecx 0 _ rfl)))) fun a hF => ?_
  refine zc hF rfl rfl fn24 (upper_spec _ (by omega) _) ?_
  rintro _ w ⟨rfl, hE⟩ a hF
  replace hH := hH.ext hE
  refine zl hF rfl (r_ixown hF _ rfl rfl rfl Tryz.underlying34 ti38 (by omega)) fun a hF => ?_
  refine zl hF rfl (r_fieldaddr hF rfl rfl fd38_0) fun a hF => ?_
  refine ls_store 0 hF hH rfl rfl rfl rfl rfl fl9 ti9 rfl (by omega) (by simp [noFreeze]) (rfl) ?_
  intro w hH
  refine c_n ?_
  simp only [List.set_cons_zero] at hH
  have hS8 := Sl.set (e := 38) (g := g) (i * 5 + 0) (.string (mk (up l[i].name))) hS.len hcp hcm hcs hct
  rw [recsV_put hXi 0 _ ⟨up l[i].name, l[i].kind, l[i].cls, l[i].ttl, l[i].data⟩ (by rw [mid_at h18]; rfl) (by decide)] at hS8
  refine c_sg ?_
  refine zm 2 hF rfl fun a hF => ?_
  refine zl hF rfl (r_indexaddr hF _ rfl rfl rfl Tryz.underlying34 ti38 (by omega)) fun a hF => ?_
  refine zl hF rfl (r_fieldaddr hF rfl rfl fd38_1) fun a hF => ?_
  refine zl hF rfl (r_load hF rfl rfl fl23 (hH.cell (hH3.cell (hrecx 1 _ rfl)))) fun a hF => ?_
  refine zb hF rfl rfl rfl (b_eqn _ _ _ 2) fun a hF => ?_
  refine zm 1 hF rfl fun a hF => ?_
  refine ls_ask (d := 43) hF rfl (fun g9_6 => ?_) (fun g9_6 => ?_)
  ·
   have g9_6' := g9_6; try simp only [qq] at g9_6'
   refine zn hF rfl g9_6 fun a hF => ?_
   refine zn hF rfl g9_6 fun a hF => ?_
   refine zn hF rfl g9_6 fun a hF => ?_
   refine zn hF rfl g9_6 fun a hF => ?_
   refine zn hF rfl g9_6 fun a hF => ?_
   refine zn hF rfl g9_6 fun a hF => ?_
   refine zl hF rfl (r_pickt hF rfl rfl g9_6 rfl) fun a hF => ?_
   refine zm 1 hF rfl fun a hF => ?_
   refine zn hF rfl rfl fun a hF => ?_
   refine zn hF rfl rfl fun a hF => ?_
   refine zn hF rfl rfl fun a hF => ?_
   refine zn hF rfl rfl fun a hF => ?_
   refine zn hF rfl rfl fun a hF => ?_
   refine zn hF rfl rfl fun a hF => ?_
   refine zl hF rfl (r_pickt hF rfl rfl rfl rfl) fun a hF => ?_
   refine c_n ?_
   refine c_yes hF rfl rfl ?_
   refine c_reg fun ops => ?_
   refine zm 4 hF rfl fun a hF => ?_
   refine zl hF rfl (r_indexaddr hF _ rfl rfl rfl Tryz.underlying34 ti38 (by omega)) fun a hF => ?_
   refine zl hF rfl (r_fieldaddr hF rfl rfl fd38_4) fun a hF => ?_
   refine zl hF rfl (r_load hF rfl rfl fl9 (hH.cell (hH3.cell (hrecx 4 _ rfl)))) fun a hF => ?_
   refine zc hF rfl rfl fn24 (upper_spec _ (by omega) _) ?_
   rintro _ w ⟨rfl, hE⟩ a hF
   replace hH := hH.ext hE
   refine zl hF rfl (r_ixown hF _ rfl rfl rfl Tryz.underlying34 ti38 (by omega)) fun a hF => ?_
   refine zl hF rfl (r_fieldaddr hF rfl rfl fd38_4) fun a hF => ?_
   refine ls_store 0 hF hH rfl rfl rfl rfl rfl fl9 ti9 rfl (by simp; omega) (by simp [noFreeze]) (rfl) ?_
   intro w hH
   refine wpList_nil ?_
   simp only [List.set_cons_zero] at hH
   obtain ⟨_, _, _, hv, hBe, hcp2, hcm2, hcs2, hct2⟩ := hS8.open (by omega)
   cases hv
   cases hBe
   have hS10 := Sl.set (e := 38) (g := g) (i * 5 + 4) (.string (mk (up l[i].data))) hS8.len hcp2 hcm2 hcs2 hct2
   rw [recsV_put (by simpa using hXi) 4 _ ⟨up l[i].name, l[i].kind, l[i].cls, l[i].ttl, up l[i].data⟩ (by rw [List.getElem_set_self]; rfl) (by decide), List.set_set] at hS10
   refine t7.norm ?_
   refine k6 ?_
   refine c_reg fun ops => ?_
   refine zm 1 hF rfl fun a hF => ?_
   refine zb hF rfl rfl rfl (b_addn _ _ 1 (by omega)) fun a hF => ?_
   refine zm 1 hF rfl fun a hF => ?_
   refine wpList_nil ?_
   refine k4 ?_
   refine ⟨l.length - (i + 1), by omega, i + 1, _, _, rfl, h18, hF.keep [0, 3, 4] rfl, hH, ?_⟩
   rw [← mid_up h18]
   first
     | rw [show upR l[i] = ⟨up l[i].name, l[i].kind, l[i].cls, l[i].ttl, up l[i].data⟩ by rw [upR, if_pos h26, if_pos (by omega)]]; exact hS10
     | rw [show upR l[i] = ⟨up l[i].name, l[i].kind, l[i].cls, l[i].ttl, l[i].data⟩ by rw [upR, if_pos h26, if_neg (by omega)]]; exact hS8
     | rw [show upR l[i] = ((l.take i).map upR ++ l.drop i)[i] by rw [mid_at h18, upR, if_neg (by rw [h26]; decide)], List.set_getElem_self]; exact hS
  have g9_6' := g9_6; try simp only [qq] at g9_6'
  refine zy hF rfl g9_6 (r_move hF rfl rfl) fun a hF => ?_
  refine zy hF rfl g9_6 (r_move hF rfl rfl) fun a hF => ?_
  refine zy hF rfl g9_6 (r_indexaddr hF _ rfl rfl rfl Tryz.underlying34 ti38 (by omega)) fun a hF => ?_
  refine zy hF rfl g9_6 (r_fieldaddr hF rfl rfl fd38_1) fun a hF => ?_
  refine zy hF rfl g9_6 (r_load hF rfl rfl fl23 (hH.cell (hH3.cell (hrecx 1 _ rfl)))) fun a hF => ?_
  refine zy hF rfl g9_6 (zr hF rfl rfl (b_eqn _ _ _ 5)) fun a hF => ?_
  refine zl hF rfl (r_pickf hF rfl rfl g9_6 rfl) fun a hF => ?_
  refine zm 1 hF rfl fun a hF => ?_
  refine ls_ask (d := 51) hF rfl (fun g9_14 => ?_) (fun g9_14 => ?_)
  ·
   have g9_14' := g9_14; try simp only [qq] at g9_14'
   refine zn hF rfl g9_14 fun a hF => ?_
   refine zn hF rfl g9_14 fun a hF => ?_
   refine zn hF rfl g9_14 fun a hF => ?_
   refine zn hF rfl g9_14 fun a hF => ?_
   refine zn hF rfl g9_14 fun a hF => ?_
   refine zn hF rfl g9_14 fun a hF => ?_
   refine zl hF rfl (r_pickt hF rfl rfl g9_14 rfl) fun a hF => ?_
   refine c_n ?_
   refine c_yes hF rfl rfl ?_
   refine c_reg fun ops => ?_
   refine zm 4 hF rfl fun a hF => ?_
   refine zl hF rfl (r_indexaddr hF _ rfl rfl rfl Tryz.underlying34 ti38 (by omega)) fun a hF => ?_
   refine zl hF rfl (r_fieldaddr hF rfl rfl fd38_4) fun a hF => ?_
   refine zl hF rfl (r_load hF rfl rfl fl9 (hH.cell (hH3.cell (hrecx 4 _ rfl)))) fun a hF => ?_
   refine zc hF rfl rfl fn24 (upper_spec _ (by omega) _) ?_
   rintro _ w ⟨rfl, hE⟩ a hF
   replace hH := hH.ext hE
   refine zl hF rfl (r_ixown hF _ rfl rfl rfl Tryz.underlying34 ti38 (by omega)) fun a hF => ?_
   refine zl hF rfl (r_fieldaddr hF rfl rfl fd38_4) fun a hF => ?_
   refine ls_store 0 hF hH rfl rfl rfl rfl rfl fl9 ti9 rfl (by simp; omega) (by simp [noFreeze]) (rfl) ?_
   intro w hH
   refine wpList_nil ?_
   simp only [List.set_cons_zero] at hH
   obtain ⟨_, _, _, hv, hBe, hcp2, hcm2, hcs2, hct2⟩ := hS8.open (by omega)
   cases hv
   cases hBe
   have hS10 := Sl.set (e := 38) (g := g) (i * 5 + 4) (.string (mk (up l[i].data))) hS8.len hcp2 hcm2 hcs2 hct2
   rw [recsV_put (by simpa using hXi) 4 _ ⟨up l[i].name, l[i].kind, l[i].cls, l[i].ttl, up l[i].data⟩ (by rw [List.getElem_set_self]; rfl) (by decide), List.set_set] at hS10
   refine t7.norm ?_
   refine k6 ?_
   refine c_reg fun ops => ?_
   refine zm 1 hF rfl fun a hF => ?_
   refine zb hF rfl rfl rfl (b_addn _ _ 1 (by omega)) fun a hF => ?_
   refine zm 1 hF rfl fun a hF => ?_
   refine wpList_nil ?_
   refine k4 ?_
   refine ⟨l.length - (i + 1), by omega, i + 1, _, _, rfl, h18, hF.keep [0, 3, 4] rfl, hH, ?_⟩
   rw [← mid_up h18]
   first
     | rw [show upR l[i] = ⟨up l[i].name, l[i].kind, l[i].cls, l[i].ttl, up l[i].data⟩ by rw [upR, if_pos h26, if_pos (by omega)]]; exact hS10
     | rw [show upR l[i] = ⟨up l[i].name, l[i].kind, l[i].cls, l[i].ttl, l[i].data⟩ by rw [upR, if_pos h26, if_neg (by omega)]]; exact hS8
     | rw [show upR l[i] = ((l.take i).map upR ++ l.drop i)[i] by rw [mid_at h18, upR, if_neg (by rw [h26]; decide)], List.set_getElem_self]; exact hS
  have g9_14' := g9_14; try simp only [qq] at g9_14'
  refine zy hF rfl g9_14 (r_move hF rfl rfl) fun a hF => ?_
  refine zy hF rfl g9_14 (r_move hF rfl rfl) fun a hF => ?_
  refine zy hF rfl g9_14 (r_indexaddr hF _ rfl rfl rfl Tryz.underlying34 ti38 (by omega)) fun a hF => ?_
  refine zy hF rfl g9_14 (r_fieldaddr hF rfl rfl fd38_1) fun a hF => ?_
  refine zy hF rfl g9_14 (r_load hF rfl rfl fl23 (hH.cell (hH3.cell (hrecx 1 _ rfl)))) fun a hF => ?_
  refine zy hF rfl g9_14 (zr hF rfl rfl (b_eqn _ _ _ 12)) fun a hF => ?_
  refine zl hF rfl (r_pickf hF rfl rfl g9_14 rfl) fun a hF => ?_
  refine c_n ?_
  refine c_fi hF rfl (fun h58 => ?_) (fun h58 => ?_)
  ·
   try simp only [qq] at h58
   refine wp_skip ?_
   refine t7.norm ?_
   refine k6 ?_
   refine c_reg fun ops => ?_
   refine zm 1 hF rfl fun a hF => ?_
   refine zb hF rfl rfl rfl (b_addn _ _ 1 (by omega)) fun a hF => ?_
   refine zm 1 hF rfl fun a hF => ?_
   refine wpList_nil ?_
   refine k4 ?_
   refine ⟨l.length - (i + 1), by omega, i + 1, _, _, rfl, h18, hF.keep [0, 3, 4] rfl, hH, ?_⟩
   rw [← mid_up h18]
   first
     | rw [show upR l[i] = ⟨up l[i].name, l[i].kind, l[i].cls, l[i].ttl, up l[i].data⟩ by rw [upR, if_pos h26, if_pos (by omega)]]; exact hS10
     | rw [show upR l[i] = ⟨up l[i].name, l[i].kind, l[i].cls, l[i].ttl, l[i].data⟩ by rw [upR, if_pos h26, if_neg (by omega)]]; exact hS8
     | rw [show upR l[i] = ((l.take i).map upR ++ l.drop i)[i] by rw [mid_at h18, upR, if_neg (by rw [h26]; decide)], List.set_getElem_self]; exact hS
  try simp only [qq] at h58
  refine c_reg fun ops => ?_
  refine zm 4 hF rfl fun a hF => ?_
  refine zl hF rfl (r_indexaddr hF _ rfl rfl rfl Tryz.underlying34 ti38 (by omega)) fun a hF => ?_
  refine zl hF rfl (r_fieldaddr hF rfl rfl fd38_4) fun a hF => ?_
  refine zl hF rfl (r_load hF rfl rfl fl9 (hH.cell (hH3.cell (hrecx 4 _ rfl)))) fun a hF => ?_
  refine zc hF rfl rfl fn24 (upper_spec _ (by omega) _) ?_
  rintro _ w ⟨rfl, hE⟩ a hF
  replace hH := hH.ext hE
  refine zl hF rfl (r_ixown hF _ rfl rfl rfl Tryz.underlying34 ti38 (by omega)) fun a hF => ?_
  refine zl hF rfl (r_fieldaddr hF rfl rfl fd38_4) fun a hF => ?_
  refine ls_store 0 hF hH rfl rfl rfl rfl rfl fl9 ti9 rfl (by simp; omega) (by simp [noFreeze]) (rfl) ?_
  intro w hH
  refine wpList_nil ?_
  simp only [List.set_cons_zero] at hH
  obtain ⟨_, _, _, hv, hBe, hcp2, hcm2, hcs2, hct2⟩ := hS8.open (by omega)
  cases hv
  cases hBe
  have hS10 := Sl.set (e := 38) (g := g) (i * 5 + 4) (.string (mk (up l[i].data))) hS8.len hcp2 hcm2 hcs2 hct2
  rw [recsV_put (by simpa using hXi) 4 _ ⟨up l[i].name, l[i].kind, l[i].cls, l[i].ttl, up l[i].data⟩ (by rw [List.getElem_set_self]; rfl) (by decide), List.set_set] at hS10
  refine t7.norm ?_
  refine k6 ?_
  refine c_reg fun ops => ?_
  refine zm 1 hF rfl fun a hF => ?_
  refine zb hF rfl rfl rfl (b_addn _ _ 1 (by omega)) fun a hF => ?_
  refine zm 1 hF rfl fun a hF => ?_
  refine wpList_nil ?_
  refine k4 ?_
  refine ⟨l.length - (i + 1), by omega, i + 1, _, _, rfl, h18, hF.keep [0, 3, 4] rfl, hH, ?_⟩
  rw [← mid_up h18]
  first
    | rw [show upR l[i] = ⟨up l[i].name, l[i].kind, l[i].cls, l[i].ttl, up l[i].data⟩ by rw [upR, if_pos h26, if_pos (by omega)]]; exact hS10
    | rw [show upR l[i] = ⟨up l[i].name, l[i].kind, l[i].cls, l[i].ttl, l[i].data⟩ by rw [upR, if_pos h26, if_neg (by omega)]]; exact hS8
    | rw [show upR l[i] = ((l.take i).map upR ++ l.drop i)[i] by rw [mid_at h18, upR, if_neg (by rw [h26]; decide)], List.set_getElem_self]; exact hS
end Go.Proofs.YtcelgjabccgnmaaGreatDoor
