/-
  Rows of sets of one's own, and how they are read. Nothing is claimed here.
  The walk of package rrset's Group. Nothing is claimed here.
  The walks of package hustingsref08, but for Group. Nothing is claimed here.
  The walk of hustingsref08.put; parts of rows. Nothing is claimed here.
  Rows and their parts, more. Nothing is claimed here.
-/
import Derived.Test.YtpoebplhemimmaaGreatDoorSf
import Derived.Test.YtpoebplhemimmaaGreatDoorSetL
namespace Go.Proofs.YtpoebplhemimmaaGreatDoor
open Go.RowKit
set_option linter.unusedVariables false
set_option linter.unusedSimpArgs false
set_option maxHeartbeats 1000000

theorem entB_pick {es : List Ent} {k : Nat} (h : k < es.length) : (entB es).Perm (es[k].2.2 ++ entB (es.eraseIdx k)) := by
  have e : entB es = entB (es.take k) ++ (es[k].2.2 ++ entB (es.drop (k + 1))) := by rw [← entB_cons, ← List.drop_eq_getElem_cons h, ← entB_append, List.take_append_drop]
  rw [e, List.eraseIdx_eq_take_drop_succ, entB_append]
  exact List.perm_append_comm_assoc _ _ _
theorem entB_set {es : List Ent} {k : Nat} (h : k < es.length) (x : Ent) : (entB (es.set k x)).Perm (x.2.2 ++ entB (es.eraseIdx k)) := by
  have := entB_pick (es := es.set k x) (k := k) (by simpa using h)
  simpa [List.eraseIdx_set_eq] using this
theorem entV_set {es : List Ent} {k j : Nat} (h : k < es.length) (hj : j < 5) (x : Ent) (u : Value) (hx : setV x.1 x.2.1 = (setV es[k].1 es[k].2.1).set j u) : (entV es).set (k * 5 + j) u = entV (es.set k x) := by
  have e : entV es = entV (es.take k) ++ (setV es[k].1 es[k].2.1 ++ entV (es.drop (k + 1))) := by rw [← entV_cons, ← List.drop_eq_getElem_cons h, ← entV_append, List.take_append_drop]
  have hl : (entV (es.take k)).length = k * 5 := by rw [entV_length, List.length_take, Nat.min_eq_left (by omega)]
  have h5 : (setV es[k].1 es[k].2.1).length = 5 := rfl
  rw [e, List.set_append_right _ _ (by omega), hl, Nat.add_sub_cancel_left, List.set_append_left _ _ (by omega), ← hx, ← entV_cons, ← entV_append, List.set_eq_take_append_cons_drop, if_pos h]
theorem entV_one {es : List Ent} (h : ∀ e ∈ es, e.2.1.oneCell' = true) : ∀ u ∈ entV es, u.oneCell' = true := by
  intro u hu
  obtain ⟨l, hl, hu⟩ := List.mem_flatten.1 hu
  obtain ⟨e, he, rfl⟩ := List.mem_map.1 hl
  simp only [setV, List.mem_cons, List.not_mem_nil, or_false] at hu
  rcases hu with rfl | rfl | rfl | rfl | rfl
  · rfl
  · rfl
  · rfl
  · rfl
  · exact h e he
def EntOk (es : List Ent) : Prop := ∀ e ∈ es, Sl 9 1 e.2.2 e.2.1 e.1.data.length (strV e.1.data)
theorem EntOk.one {es : List Ent} (h : EntOk es) : ∀ u ∈ entV es, u.oneCell' = true := entV_one fun e he => (h e he).one
theorem EntOk.put {es : List Ent} (h : EntOk es) {x : Ent} (hx : Sl 9 1 x.2.2 x.2.1 x.1.data.length (strV x.1.data)) (k : Nat) : EntOk (es.take k ++ x :: es.drop k) := by
  intro e he
  rcases List.mem_append.1 he with he | he
  · exact h e (List.mem_of_mem_take he)
  · rcases List.mem_cons.1 he with rfl | he
    · exact hx
    · exact h e (List.mem_of_mem_drop he)
theorem EntOk.set {es : List Ent} (h : EntOk es) {x : Ent} (hx : Sl 9 1 x.2.2 x.2.1 x.1.data.length (strV x.1.data)) (k : Nat) : EntOk (es.set k x) := by
  intro e he
  rcases List.mem_or_eq_of_mem_set he with he | rfl
  · exact h e he
  · exact hx
theorem setsV_ent : ∀ (es : List Ent), setsV (es.map (·.1)) (es.map (·.2.1)) = entV es
  | [] => rfl
  | e :: es => by rw [List.map_cons, List.map_cons, setsV_cons, setsV_ent es, entV_cons]
theorem mem_entB {es : List Ent} {e : Ent} (he : e ∈ es) {p : Nat × Obj} (hp : p ∈ e.2.2) : p ∈ entB es := List.mem_flatten.2 ⟨_, List.mem_map_of_mem he, hp⟩

/-- Records that are read. -/
theorem recsV_length : ∀ (l : List Rec), (recsV l).length = l.length * 5
  | [] => rfl
  | r :: l => by
    have := recsV_length l
    simp only [recsV, List.map_cons, List.flatten_cons, List.length_append, List.length_cons] at this ⊢
    rw [this]; simp [recV]; omega
theorem recsV_get {l : List Rec} {i : Nat} (h : i < l.length) (j : Nat) (u : Value) (hu : (recV l[i])[j]? = some u) : (recsV l)[i * 5 + j]? = some u := by
  have e : recsV l = recsV (l.take i) ++ (recV l[i] ++ recsV (l.drop (i + 1))) := by
    have : l = l.take i ++ l[i] :: l.drop (i + 1) := by rw [← List.drop_eq_getElem_cons h, List.take_append_drop]
    have e2 : ∀ a b : List Rec, recsV (a ++ b) = recsV a ++ recsV b := fun a b => by simp [recsV]
    conv => lhs; rw [this, e2]
    rfl
  have hl : (recsV (l.take i)).length = i * 5 := by rw [recsV_length, List.length_take, Nat.min_eq_left (by omega)]
  rw [e, List.getElem?_append_right (by omega), hl, Nat.add_sub_cancel_left, List.getElem?_append_left (List.getElem?_eq_some_iff.1 hu).1]
  exact hu
theorem RSl.rec {w : World} {ad : Option Addr} {cap n : Nat} {l : List Rec} (h : RSl w 5 (.slice ad n cap) n (recsV l)) {i : Nat} (hi : i < l.length) :
    ∃ b off, ad = some ⟨b, off, none⟩ ∧ n = l.length ∧ ∀ j u, (recV l[i])[j]? = some u → w.cell? ⟨b, off + i * 5 + j, none⟩ = some u := by
  obtain ⟨h1, ad', cap', hv, _, _, h3⟩ := h
  rw [recsV_length] at h1
  cases hv
  rcases h3 with ⟨_, _, h0⟩ | ⟨b, off, rfl, hc⟩
  · omega
  · exact ⟨b, off, rfl, by omega, fun j u hu => by rw [Nat.add_assoc]; exact hc _ u (recsV_get hi j u hu)⟩
theorem entB_same {es : List Ent} {k : Nat} (h : k < es.length) (x : Ent) (hx : x.2.2 = es[k].2.2) : entB (es.set k x) = entB es := by
  unfold entB
  rw [List.map_set, hx]
  congr 1
  have : (es.map fun e => e.2.2)[k]'(by simpa using h) = es[k].2.2 := by simp
  rw [← this, List.set_getElem_self]
theorem take_set' {cur : Array Value} {m j : Nat} {u : Value} {xs : List Value} (h : cur.toList.take m = xs) : (cur.setIfInBounds j u).toList.take m = xs.set j u := by
  rw [Array.toList_setIfInBounds, List.take_set, h]
end Go.Proofs.YtpoebplhemimmaaGreatDoor
namespace Go.Proofs.YtpoebplhemimmaaGreatDoor
open Go.RowKit
set_option linter.unusedVariables false
set_option linter.unusedSimpArgs false
set_option maxHeartbeats 1000000

theorem groupN_step {l : List Rec} {i : Nat} (h : i < l.length) : groupN (l.take (i + 1)) = addRec (groupN (l.take i)) l[i] := by
  unfold groupN
  rw [List.take_succ_eq_append_getElem h, List.foldl_append]; rfl
theorem pm_a {α : Type} (x y : α) (A B C : List α) : (B ++ x :: y :: (A ++ C)).Perm (x :: y :: (A ++ (B ++ C))) :=
  List.perm_middle.trans (.cons x (List.perm_middle.trans (.cons y (List.perm_append_comm_assoc B A C))))
theorem pm_b {α : Type} (x : α) (A B C : List α) : (x :: (A ++ (B ++ C))).Perm (x :: (B ++ (A ++ C))) := .cons x (List.perm_append_comm_assoc A B C)
theorem pm_e {α : Type} (x y z : α) (E : List α) : (x :: y :: z :: E).Perm (y :: ([z] ++ ([x] ++ E))) := (List.Perm.swap y x _).trans (.cons y (List.Perm.swap z x _))
theorem pm_c {α : Type} (x y z u : α) {E A F : List α} (h : E.Perm (A ++ F)) : (A ++ x :: y :: z :: u :: F).Perm (x :: y :: z :: u :: E) :=
  List.perm_middle.trans (.cons x (List.perm_middle.trans (.cons y (List.perm_middle.trans (.cons z (List.perm_middle.trans (.cons u h.symm)))))))
theorem pm_d {α : Type} (x y z u : α) (A F : List α) : (y :: x :: z :: u :: (A ++ F)).Perm (A ++ x :: y :: z :: u :: F) :=
  ((List.perm_middle.trans (.cons x (List.perm_middle.trans (.cons y (List.perm_middle.trans (.cons z List.perm_middle)))))).trans (.swap ..)).symm
theorem back_a {w0 w : World} {x y : Nat × Obj} {B A E1 E2 : List (Nat × Obj)} (h : Hp w0 w (B ++ x :: y :: (A ++ (E1 ++ E2)))) : Hp w0 w (B ++ (E1 ++ (A ++ E2))) :=
  (h.sub (List.Sublist.append_left (((List.Sublist.refl _).cons _).cons _) B)).perm (List.Perm.append_left B (List.perm_append_comm_assoc E1 A E2))
theorem set_name_le (r : Rec) : (setOf r).name.length ≤ 255 := by
  unfold setOf; split
  · exact fold_le255 _
  · simp
theorem groupN_name {l : List Rec} {s : RSet} (h : s ∈ groupN l) : s.name.length ≤ 255 := by
  obtain ⟨r, -, hr, -⟩ := ((group_mem l s).1 h).at'
  rw [← hr.2.1]; exact fold_le255 _
theorem group_mono (l : List Rec) (s : RSet) (hs : mayB s.name = true) : ∀ a b, a ≤ b → b < (groupN l).length → scmp ((groupN l).getD b noSet) s < 0 → scmp ((groupN l).getD a noSet) s < 0 := by
  intro a b hab hb h
  rw [getD_eq hb] at h
  rw [getD_eq (show a < (groupN l).length by omega)]
  rcases Nat.lt_or_ge a b with hlt | hge
  · have hh := group_holds l
    exact scmp_trans (hh.1.is _ (List.getElem_mem _)).good.may (hh.1.is _ (List.getElem_mem hb)).good.may hs (List.pairwise_iff_getElem.1 hh.2 a b (by omega) hb hlt) h
  · obtain rfl : a = b := by omega
    exact h
theorem ahead_of {u : List RSet} {s : RSet} {k : Nat} (hk : k ≤ u.length) (hlo : ∀ j < k, scmp (u.getD j noSet) s < 0) (hhi : ∀ j, k ≤ j → j < u.length → ¬ scmp (u.getD j noSet) s < 0) : ahead (before s) u = k :=
  ahead_eq hk (fun j hj => decide_eq_true (by have := hlo j hj; rwa [getD_eq (by omega)] at this)) fun h => decide_eq_false (by have := hhi k (Nat.le_refl _) h; rwa [getD_eq h] at this)
theorem aheadT_of {u : List Bs} {s : Bs} {k : Nat} (hk : k ≤ u.length) (hlo : ∀ j < k, bless (u.getD j []) s = true) (hhi : ∀ j, k ≤ j → j < u.length → bless (u.getD j []) s = false) : ahead (fun x => bless x s) u = k := by
  have e : ∀ i (h : i < u.length), u.getD i [] = u[i] := fun i h => by simp [List.getD_eq_getElem?_getD, h]
  exact ahead_eq hk (fun j hj => by have := hlo j hj; rwa [e _ (by omega)] at this) fun h => by have := hhi k (Nat.le_refl _) h; rwa [e _ h] at this

theorem map_ent (es : List Ent) (k : Nat) (x : Ent) : (es.set k x).map (·.1) = (es.map (·.1)).set k x.1 := List.map_set
theorem ent_len {es : List Ent} {k i : Nat} {x : Ent} (h : ∀ e ∈ es, e.1.data.length ≤ i) (hx : x.1.data.length ≤ i + 1) : ∀ e ∈ es.set k x, e.1.data.length ≤ i + 1 := by
  intro e he
  rcases List.mem_or_eq_of_mem_set he with he | rfl
  · have := h e he; omega
  · exact hx
end Go.Proofs.YtpoebplhemimmaaGreatDoor
namespace Go.Proofs.YtpoebplhemimmaaGreatDoor
open Go.RowKit
set_option linter.unusedVariables false
set_option linter.unusedSimpArgs false
set_option maxHeartbeats 1000000

theorem take_more {xs ys : List Bs} {i : Nat} (h : xs.take i = ys.take i) (h1 : i < xs.length) (h2 : i < ys.length) (he : xs.getD i [] = ys.getD i []) : xs.take (i + 1) = ys.take (i + 1) := by
  have e1 : xs.getD i [] = xs[i] := by simp [List.getD_eq_getElem?_getD, h1]
  have e2 : ys.getD i [] = ys[i] := by simp [List.getD_eq_getElem?_getD, h2]
  rw [List.take_succ_eq_append_getElem h1, List.take_succ_eq_append_getElem h2, h, ← e1, ← e2, he]

end Go.Proofs.YtpoebplhemimmaaGreatDoor
namespace Go.Proofs.YtpoebplhemimmaaGreatDoor
open Go.RowKit
set_option linter.unusedVariables false
set_option linter.unusedSimpArgs false
set_option maxHeartbeats 1000000

theorem sub_rsl {w : World} {size n cap l h : Nat} {ad : Option Addr} {xs : List Value} (hR : RSl w size (.slice ad n cap) n xs) (hl : l ≤ h) (hh : h ≤ n) : RSl w size (.slice (subA ad size l cap) (h - l) (cap - l)) (h - l) ((xs.drop (l * size)).take ((h - l) * size)) := by
  obtain ⟨h1, ad', cap', hv, h2, h3, h4⟩ := hR
  cases hv
  have e1 : h * size = l * size + (h - l) * size := by rw [← Nat.add_mul]; congr 1; omega
  have e2 : h * size ≤ n * size := Nat.mul_le_mul_right _ hh
  refine ⟨by rw [List.length_take, List.length_drop]; omega, _, _, rfl, by omega, by unfold maxLen at *; omega, ?_⟩
  rcases h4 with ⟨-, rfl, rfl⟩ | ⟨b, off, rfl, hc⟩
  · left; refine ⟨trivial, by omega, by omega⟩
  · right
    by_cases hlc : cap = l
    · refine ⟨b, off, by unfold subA; rw [if_pos hlc], fun j u hu => ?_⟩
      have : h - l = 0 := by omega
      rw [this, Nat.zero_mul, List.take_zero] at hu
      simp at hu
    · refine ⟨b, off + l * size, subA_lt (by omega), fun j u hu => ?_⟩
      rw [List.getElem?_take] at hu
      split at hu
      · rw [List.getElem?_drop] at hu
        rw [Nat.add_assoc]
        exact hc _ u hu
      · simp at hu
theorem pm_g {α : Type} (x y : α) (B E : List α) : (B ++ x :: y :: E).Perm ([x] ++ y :: (B ++ E)) := List.perm_middle.trans (.cons x List.perm_middle)
theorem pm_h {α : Type} (x y : α) {E A F : List α} (h : E.Perm (A ++ F)) : (A ++ x :: y :: F).Perm (x :: y :: E) := List.perm_middle.trans (.cons x (List.perm_middle.trans (.cons y h.symm)))
theorem pm_i {α : Type} (x y : α) (A F : List α) : (x :: y :: (A ++ F)).Perm (A ++ x :: y :: F) := (List.perm_middle.trans (.cons x List.perm_middle)).symm
theorem entB_perm {a b : List Ent} (h : a.Perm b) : (entB a).Perm (entB b) := by
  induction h with
  | nil => exact List.Perm.refl _
  | cons x _ ih => rw [entB_cons, entB_cons]; exact List.Perm.append_left _ ih
  | swap x y l => simp only [entB_cons]; exact List.perm_append_comm_assoc _ _ _
  | trans _ _ h1 h2 => exact h1.trans h2
theorem ent_one {e : Ent} (h : e.2.1.oneCell' = true) : ∀ u ∈ setV e.1 e.2.1, u.oneCell' = true := by
  intro u hu
  refine entV_one (es := [e]) (fun x hx => by rw [List.mem_singleton.1 hx]; exact h) u ?_
  simpa [entV] using hu
theorem putN_len (l : List Bs) (d : Bs) : (putN l d).length ≤ l.length + 1 := by
  unfold putN
  split
  · omega
  · have := congrArg List.length (List.takeWhile_append_dropWhile (p := fun x => !bless d x) (l := l))
    rw [List.length_append] at this
    rw [List.length_append, List.length_cons]; omega
theorem entV_erase {es : List Ent} {k : Nat} (h : k < es.length) : (entV es).take (k * 5) ++ (entV es).drop ((k + 1) * 5) = entV (es.eraseIdx k) := by
  rw [(entV_take es k (by omega)).1, (entV_take es (k + 1) (by omega)).2, List.eraseIdx_eq_take_drop_succ, entV_append]
theorem own_row {w0 w : World} {H : List (Nat × Obj)} {i g m k : Nat} {cur : Array Value} {e : TypeId} {fr : Nat × Nat} {es : List Ent} (hH : Hp w0 w H) (hi : H[i]? = some (g, .cells cur e fr)) (hct : cur.toList.take m = entV es) (hk : k < es.length) :
    ∀ j u, (setV es[k].1 es[k].2.1)[j]? = some u → w.cell? ⟨g, k * 5 + j, none⟩ = some u := fun j u hu => own_cell hH hi (take_get hct (entV_get hk j u hu))
end Go.Proofs.YtpoebplhemimmaaGreatDoor
