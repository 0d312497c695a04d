/-
  Sets of one's own, in memory: a row of sets, each with data of its own. Nothing is claimed here.
-/
import Derived.Test.YtcelgjabccgnmaaDoorRr
namespace Go.Proofs.YtcelgjabccgnmaaDoor
open Go.RowKit
set_option linter.unusedVariables false
set_option linter.unusedSimpArgs false
set_option maxHeartbeats 1000000

theorem setsV_split : ∀ (l : List RSet) (dvs : List Value) (k : Nat), dvs.length = l.length → (setsV l dvs).take (k * 5) = setsV (l.take k) (dvs.take k) ∧ (setsV l dvs).drop (k * 5) = setsV (l.drop k) (dvs.drop k)
  | l, dvs, 0, _ => by simp [setsV]
  | [], [], k + 1, _ => by simp [setsV]
  | [], _ :: _, _, h => by simp at h
  | _ :: _, [], _, h => by simp at h
  | s :: l, d :: ds, k + 1, h => by
    obtain ⟨h1, h2⟩ := setsV_split l ds k (by simpa using h)
    rw [setsV_cons, show (k + 1) * 5 = (setV s d).length + k * 5 by simp [setV]; omega, List.take_length_add_append, List.drop_length_add_append, h1, h2]
    exact ⟨rfl, rfl⟩
theorem setsV_append : ∀ (l m : List RSet) (d e : List Value), d.length = l.length → setsV (l ++ m) (d ++ e) = setsV l d ++ setsV m e
  | [], m, [], e, _ => rfl
  | [], _, _ :: _, _, h => by simp at h
  | _ :: _, _, [], _, h => by simp at h
  | s :: l, m, x :: d, e, h => by
    have := setsV_append l m d e (by simpa using h)
    rw [List.cons_append, List.cons_append, setsV_cons, this, setsV_cons, List.append_assoc]
theorem setsV_insert {l : List RSet} {dvs : List Value} {k : Nat} (s : RSet) (d : Value) (h : dvs.length = l.length) : (setsV l dvs).take (k * 5) ++ setV s d ++ (setsV l dvs).drop (k * 5) = setsV (l.take k ++ s :: l.drop k) (dvs.take k ++ d :: dvs.drop k) := by
  obtain ⟨h1, h2⟩ := setsV_split l dvs k h
  rw [h1, h2, setsV_append _ _ _ _ (by simp [h]), setsV_cons, List.append_assoc]
theorem setsV_ttl : ∀ {l : List RSet} {dvs : List Value} {k : Nat} (hk : k < l.length) (h : dvs.length = l.length) (t : Nat), (setsV l dvs).set (k * 5 + 3) (.int .u32 t) = setsV (l.set k { l[k] with ttl := t }) dvs
  | [], _, _, hk, _, _ => by simp at hk
  | _ :: _, [], _, _, h, _ => by simp at h
  | s :: l, d :: ds, 0, _, _, t => by simp [setsV_cons, setV]
  | s :: l, d :: ds, k + 1, hk, h, t => by
    rw [setsV_cons, show (k + 1) * 5 + 3 = (k * 5 + 3) + 5 by omega]
    have e : (setV s d).length = 5 := rfl
    rw [List.set_append_right _ _ (by omega), e, Nat.add_sub_cancel, setsV_ttl (l := l) (dvs := ds) (by simpa using hk) (by simpa using h) t]
    simp [setsV_cons]
theorem setsV_data : ∀ {l : List RSet} {dvs : List Value} {k : Nat} (hk : k < l.length) (h : dvs.length = l.length) (x : List Bs) (v : Value), (setsV l dvs).set (k * 5 + 4) v = setsV (l.set k { l[k] with data := x }) (dvs.set k v)
  | [], _, _, hk, _, _, _ => by simp at hk
  | _ :: _, [], _, _, h, _, _ => by simp at h
  | s :: l, d :: ds, 0, _, _, x, v => by simp [setsV_cons, setV]
  | s :: l, d :: ds, k + 1, hk, h, x, v => by
    rw [setsV_cons, show (k + 1) * 5 + 4 = (k * 5 + 4) + 5 by omega]
    have e : (setV s d).length = 5 := rfl
    rw [List.set_append_right _ _ (by omega), e, Nat.add_sub_cancel, setsV_data (l := l) (dvs := ds) (by simpa using hk) (by simpa using h) x v]
    simp [setsV_cons]

theorem r_minn {P : Program} {o : Oper} {a : Act} {w : World} {N : Nat} {L : List (Nat × Value)} (hF : Fr N L a) {x y : Operand} {ats : Array TypeId} {k : IntKind} {n m : Nat} (ho : o.op = .call { callee := .builtin .min, args := #[x, y], argTypes := ats }) (hx : ev L x = some (.int k (n : Int))) (hy : ev L y = some (.int k (m : Int))) : Does P o a w (.int k ((min n m : Nat) : Int)) w := by
  left
  rw [exec_builtin hF ho (ev2 hx hy)]
  have e : (if m < n then (m : Int) else (n : Int)) = ((min n m : Nat) : Int) := by split <;> omega
  simp [builtin, Builtin.min_, Builtin.min2]
  exact e

/-- A set, its data's slice, and the blocks of these. -/
abbrev Ent := RSet × Value × List (Nat × Obj)
def entV (es : List Ent) : List Value := (es.map fun e => setV e.1 e.2.1).flatten
def entB (es : List Ent) : List (Nat × Obj) := (es.map fun e => e.2.2).flatten
theorem entV_append (a b : List Ent) : entV (a ++ b) = entV a ++ entV b := by simp [entV]
theorem entV_cons (e : Ent) (b : List Ent) : entV (e :: b) = setV e.1 e.2.1 ++ entV b := rfl
theorem entB_append (a b : List Ent) : entB (a ++ b) = entB a ++ entB b := by simp [entB]
theorem entB_cons (e : Ent) (b : List Ent) : entB (e :: b) = e.2.2 ++ entB b := rfl
theorem entV_length : ∀ (es : List Ent), (entV es).length = es.length * 5
  | [] => rfl
  | e :: es => by rw [entV_cons, List.length_append, entV_length es, List.length_cons]; simp [setV]; omega
theorem entV_take (es : List Ent) (k : Nat) (hk : k ≤ es.length) : (entV es).take (k * 5) = entV (es.take k) ∧ (entV es).drop (k * 5) = entV (es.drop k) := by
  have h : entV es = entV (es.take k) ++ entV (es.drop k) := by rw [← entV_append, List.take_append_drop]
  have hl : (entV (es.take k)).length = k * 5 := by rw [entV_length, List.length_take, Nat.min_eq_left hk]
  rw [h]
  exact ⟨List.take_left' hl, List.drop_left' hl⟩
theorem entV_insert {es : List Ent} {k : Nat} (e : Ent) (hk : k ≤ es.length) : (entV es).take (k * 5) ++ setV e.1 e.2.1 ++ (entV es).drop (k * 5) = entV (es.take k ++ e :: es.drop k) := by
  obtain ⟨h1, h2⟩ := entV_take es k hk
  rw [h1, h2, entV_append, entV_cons, List.append_assoc]
theorem entV_get {es : List Ent} {k : Nat} (hk : k < es.length) (j : Nat) (u : Value) (hu : (setV es[k].1 es[k].2.1)[j]? = some u) : (entV es)[k * 5 + j]? = some u := by
  have h : entV es = entV (es.take k) ++ (setV es[k].1 es[k].2.1 ++ entV (es.drop (k + 1))) := by rw [← entV_cons, ← List.drop_eq_getElem_cons hk, ← entV_append, List.take_append_drop]
  have hl : (entV (es.take k)).length = k * 5 := by rw [entV_length, List.length_take, Nat.min_eq_left (by omega)]
  rw [h, List.getElem?_append_right (by omega), hl, Nat.add_sub_cancel_left, List.getElem?_append_left (List.getElem?_eq_some_iff.1 hu).1]
  exact hu

/-- Sets of one's own: the row and each set's data. -/
def OwnS (H : List (Nat × Obj)) (v : Value) (es : List Ent) : Prop := ∃ B, Sl 49 5 B v es.length (entV es) ∧ H.Perm (B ++ entB es) ∧ ∀ e ∈ es, Sl 9 1 e.2.2 e.2.1 e.1.data.length (strV e.1.data)
theorem OwnS.nil : OwnS [] (.slice none 0 0) [] := ⟨[], Sl.nil _ _, List.Perm.refl _, fun _ h => (List.not_mem_nil h).elim⟩
end Go.Proofs.YtcelgjabccgnmaaDoor
