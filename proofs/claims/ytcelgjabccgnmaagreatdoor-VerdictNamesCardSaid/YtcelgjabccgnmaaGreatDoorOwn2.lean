/-
  Rows and their parts, more. Nothing is claimed here.
-/
import Derived.Test.YtcelgjabccgnmaaGreatDoorRef8
namespace Go.Proofs.YtcelgjabccgnmaaGreatDoor
open Go.RowKit
set_option linter.unusedVariables false
set_option linter.unusedSimpArgs false
set_option maxHeartbeats 1000000

theorem sub_rsl {w : World} {size n cap l h : Nat} {ad : Option Addr} {xs : List Value} (hR : RSl w size (.slice ad n cap) n xs) (hl : l ≤ h) (hh : h ≤ n) : RSl w size (.slice (subA ad size l cap) (h - l) (cap - l)) (h - l) ((xs.drop (l * size)).take ((h - l) * size)) := by
  obtain ⟨h1, ad', cap', hv, h2, h3, h4⟩ := hR
  cases hv
  have e1 : h * size = l * size + (h - l) * size := by rw [← Nat.add_mul]; congr 1; omega
  have e2 : h * size ≤ n * size := Nat.mul_le_mul_right _ hh
  refine ⟨by rw [List.length_take, List.length_drop]; omega, _, _, rfl, by omega, by unfold maxLen at *; omega, ?_⟩
  rcases h4 with ⟨-, rfl, rfl⟩ | ⟨b, off, rfl, hc⟩
  · left; refine ⟨trivial, by omega, by omega⟩
  · right
    by_cases hlc : cap = l
    · refine ⟨b, off, by unfold subA; rw [if_pos hlc], fun j u hu => ?_⟩
      have : h - l = 0 := by omega
      rw [this, Nat.zero_mul, List.take_zero] at hu
      simp at hu
    · refine ⟨b, off + l * size, subA_lt (by omega), fun j u hu => ?_⟩
      rw [List.getElem?_take] at hu
      split at hu
      · rw [List.getElem?_drop] at hu
        rw [Nat.add_assoc]
        exact hc _ u hu
      · simp at hu
theorem pm_g {α : Type} (x y : α) (B E : List α) : (B ++ x :: y :: E).Perm ([x] ++ y :: (B ++ E)) := List.perm_middle.trans (.cons x List.perm_middle)
theorem pm_h {α : Type} (x y : α) {E A F : List α} (h : E.Perm (A ++ F)) : (A ++ x :: y :: F).Perm (x :: y :: E) := List.perm_middle.trans (.cons x (List.perm_middle.trans (.cons y h.symm)))
theorem pm_i {α : Type} (x y : α) (A F : List α) : (x :: y :: (A ++ F)).Perm (A ++ x :: y :: F) := (List.perm_middle.trans (.cons x List.perm_middle)).symm
theorem entB_perm {a b : List Ent} (h : a.Perm b) : (entB a).Perm (entB b) := by
  induction h with
  | nil => exact List.Perm.refl _
  | cons x _ ih => rw [entB_cons, entB_cons]; exact List.Perm.append_left _ ih
  | swap x y l => simp only [entB_cons]; exact List.perm_append_comm_assoc _ _ _
  | trans _ _ h1 h2 => exact h1.trans h2
theorem ent_one {e : Ent} (h : e.2.1.oneCell' = true) : ∀ u ∈ setV e.1 e.2.1, u.oneCell' = true := by
  intro u hu
  refine entV_one (es := [e]) (fun x hx => by rw [List.mem_singleton.1 hx]; exact h) u ?_
  simpa [entV] using hu
theorem putN_len (l : List Bs) (d : Bs) : (putN l d).length ≤ l.length + 1 := by
  unfold putN
  split
  · omega
  · have := congrArg List.length (List.takeWhile_append_dropWhile (p := fun x => !bless d x) (l := l))
    rw [List.length_append] at this
    rw [List.length_append, List.length_cons]; omega
theorem entV_erase {es : List Ent} {k : Nat} (h : k < es.length) : (entV es).take (k * 5) ++ (entV es).drop ((k + 1) * 5) = entV (es.eraseIdx k) := by
  rw [(entV_take es k (by omega)).1, (entV_take es (k + 1) (by omega)).2, List.eraseIdx_eq_take_drop_succ, entV_append]
theorem own_row {w0 w : World} {H : List (Nat × Obj)} {i g m k : Nat} {cur : Array Value} {e : TypeId} {fr : Nat × Nat} {es : List Ent} (hH : Hp w0 w H) (hi : H[i]? = some (g, .cells cur e fr)) (hct : cur.toList.take m = entV es) (hk : k < es.length) :
    ∀ j u, (setV es[k].1 es[k].2.1)[j]? = some u → w.cell? ⟨g, k * 5 + j, none⟩ = some u := fun j u hu => own_cell hH hi (take_get hct (entV_get hk j u hu))
theorem empty_sl (g : Nat) : Sl 27 5 [(g, .cells #[] 27 (0, 0))] (.slice (some ⟨g, 0, none⟩) 0 0) 0 [] := ⟨rfl, .inr ⟨g, 0, #[], rfl, rfl, Nat.le_refl _, Nat.zero_le _, rfl, rfl⟩⟩
end Go.Proofs.YtcelgjabccgnmaaGreatDoor
