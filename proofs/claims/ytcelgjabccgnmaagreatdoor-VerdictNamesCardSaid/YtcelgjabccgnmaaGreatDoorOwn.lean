/-
  Rows of sets of one's own, and how they are read. Nothing is claimed here.
-/
import Derived.Test.YtcelgjabccgnmaaGreatDoorSf
import Derived.Test.YtcelgjabccgnmaaGreatDoorSetL
namespace Go.Proofs.YtcelgjabccgnmaaGreatDoor
open Go.RowKit
set_option linter.unusedVariables false
set_option linter.unusedSimpArgs false
set_option maxHeartbeats 1000000

theorem entB_pick {es : List Ent} {k : Nat} (h : k < es.length) : (entB es).Perm (es[k].2.2 ++ entB (es.eraseIdx k)) := by
  have e : entB es = entB (es.take k) ++ (es[k].2.2 ++ entB (es.drop (k + 1))) := by rw [← entB_cons, ← List.drop_eq_getElem_cons h, ← entB_append, List.take_append_drop]
  rw [e, List.eraseIdx_eq_take_drop_succ, entB_append]
  exact List.perm_append_comm_assoc _ _ _
theorem entB_set {es : List Ent} {k : Nat} (h : k < es.length) (x : Ent) : (entB (es.set k x)).Perm (x.2.2 ++ entB (es.eraseIdx k)) := by
  have := entB_pick (es := es.set k x) (k := k) (by simpa using h)
  simpa [List.eraseIdx_set_eq] using this
theorem entV_set {es : List Ent} {k j : Nat} (h : k < es.length) (hj : j < 5) (x : Ent) (u : Value) (hx : setV x.1 x.2.1 = (setV es[k].1 es[k].2.1).set j u) : (entV es).set (k * 5 + j) u = entV (es.set k x) := by
  have e : entV es = entV (es.take k) ++ (setV es[k].1 es[k].2.1 ++ entV (es.drop (k + 1))) := by rw [← entV_cons, ← List.drop_eq_getElem_cons h, ← entV_append, List.take_append_drop]
  have hl : (entV (es.take k)).length = k * 5 := by rw [entV_length, List.length_take, Nat.min_eq_left (by omega)]
  have h5 : (setV es[k].1 es[k].2.1).length = 5 := rfl
  rw [e, List.set_append_right _ _ (by omega), hl, Nat.add_sub_cancel_left, List.set_append_left _ _ (by omega), ← hx, ← entV_cons, ← entV_append, List.set_eq_take_append_cons_drop, if_pos h]
theorem entV_one {es : List Ent} (h : ∀ e ∈ es, e.2.1.oneCell' = true) : ∀ u ∈ entV es, u.oneCell' = true := by
  intro u hu
  obtain ⟨l, hl, hu⟩ := List.mem_flatten.1 hu
  obtain ⟨e, he, rfl⟩ := List.mem_map.1 hl
  simp only [setV, List.mem_cons, List.not_mem_nil, or_false] at hu
  rcases hu with rfl | rfl | rfl | rfl | rfl
  · rfl
  · rfl
  · rfl
  · rfl
  · exact h e he
def EntOk (es : List Ent) : Prop := ∀ e ∈ es, Sl 9 1 e.2.2 e.2.1 e.1.data.length (strV e.1.data)
theorem EntOk.one {es : List Ent} (h : EntOk es) : ∀ u ∈ entV es, u.oneCell' = true := entV_one fun e he => (h e he).one
theorem EntOk.put {es : List Ent} (h : EntOk es) {x : Ent} (hx : Sl 9 1 x.2.2 x.2.1 x.1.data.length (strV x.1.data)) (k : Nat) : EntOk (es.take k ++ x :: es.drop k) := by
  intro e he
  rcases List.mem_append.1 he with he | he
  · exact h e (List.mem_of_mem_take he)
  · rcases List.mem_cons.1 he with rfl | he
    · exact hx
    · exact h e (List.mem_of_mem_drop he)
theorem EntOk.set {es : List Ent} (h : EntOk es) {x : Ent} (hx : Sl 9 1 x.2.2 x.2.1 x.1.data.length (strV x.1.data)) (k : Nat) : EntOk (es.set k x) := by
  intro e he
  rcases List.mem_or_eq_of_mem_set he with he | rfl
  · exact h e he
  · exact hx
theorem setsV_ent : ∀ (es : List Ent), setsV (es.map (·.1)) (es.map (·.2.1)) = entV es
  | [] => rfl
  | e :: es => by rw [List.map_cons, List.map_cons, setsV_cons, setsV_ent es, entV_cons]
theorem mem_entB {es : List Ent} {e : Ent} (he : e ∈ es) {p : Nat × Obj} (hp : p ∈ e.2.2) : p ∈ entB es := List.mem_flatten.2 ⟨_, List.mem_map_of_mem he, hp⟩
theorem sets_read {w0 w : World} {B H : List (Nat × Obj)} {v : Value} {es : List Ent} (hH : Hp w0 w H) (hS : Sl 27 5 B v es.length (entV es)) (hE : EntOk es) (hB : ∀ p ∈ B, p ∈ H) (hB2 : ∀ p ∈ entB es, p ∈ H) : SetsR w v (es.map (·.1)) := by
  refine ⟨es.map (·.2.1), by simp, ?_, fun i h => ?_⟩
  · rw [setsV_ent, List.length_map]; exact hS.rsl hH hB
  · rw [List.length_map] at h
    have hm := List.getElem_mem h
    have := (hE _ hm).rsl hH (fun p hp => hB2 p (mem_entB hm hp))
    simpa using this

/-- Records that are read. -/
def recsV (l : List Rec) : List Value := (l.map recV).flatten
theorem recsV_length : ∀ (l : List Rec), (recsV l).length = l.length * 5
  | [] => rfl
  | r :: l => by
    have := recsV_length l
    simp only [recsV, List.map_cons, List.flatten_cons, List.length_append, List.length_cons] at this ⊢
    rw [this]; simp [recV]; omega
theorem recsV_get {l : List Rec} {i : Nat} (h : i < l.length) (j : Nat) (u : Value) (hu : (recV l[i])[j]? = some u) : (recsV l)[i * 5 + j]? = some u := by
  have e : recsV l = recsV (l.take i) ++ (recV l[i] ++ recsV (l.drop (i + 1))) := by
    have : l = l.take i ++ l[i] :: l.drop (i + 1) := by rw [← List.drop_eq_getElem_cons h, List.take_append_drop]
    have e2 : ∀ a b : List Rec, recsV (a ++ b) = recsV a ++ recsV b := fun a b => by simp [recsV]
    conv => lhs; rw [this, e2]
    rfl
  have hl : (recsV (l.take i)).length = i * 5 := by rw [recsV_length, List.length_take, Nat.min_eq_left (by omega)]
  rw [e, List.getElem?_append_right (by omega), hl, Nat.add_sub_cancel_left, List.getElem?_append_left (List.getElem?_eq_some_iff.1 hu).1]
  exact hu
theorem RSl.rec {w : World} {ad : Option Addr} {cap n : Nat} {l : List Rec} (h : RSl w 5 (.slice ad n cap) n (recsV l)) {i : Nat} (hi : i < l.length) :
    ∃ b off, ad = some ⟨b, off, none⟩ ∧ n = l.length ∧ ∀ j u, (recV l[i])[j]? = some u → w.cell? ⟨b, off + i * 5 + j, none⟩ = some u := by
  obtain ⟨h1, ad', cap', hv, _, _, h3⟩ := h
  rw [recsV_length] at h1
  cases hv
  rcases h3 with ⟨_, _, h0⟩ | ⟨b, off, rfl, hc⟩
  · omega
  · exact ⟨b, off, rfl, by omega, fun j u hu => by rw [Nat.add_assoc]; exact hc _ u (recsV_get hi j u hu)⟩
theorem entB_same {es : List Ent} {k : Nat} (h : k < es.length) (x : Ent) (hx : x.2.2 = es[k].2.2) : entB (es.set k x) = entB es := by
  unfold entB
  rw [List.map_set, hx]
  congr 1
  have : (es.map fun e => e.2.2)[k]'(by simpa using h) = es[k].2.2 := by simp
  rw [← this, List.set_getElem_self]
theorem take_set' {cur : Array Value} {m j : Nat} {u : Value} {xs : List Value} (h : cur.toList.take m = xs) : (cur.setIfInBounds j u).toList.take m = xs.set j u := by
  rw [Array.toList_setIfInBounds, List.take_set, h]
end Go.Proofs.YtcelgjabccgnmaaGreatDoor
