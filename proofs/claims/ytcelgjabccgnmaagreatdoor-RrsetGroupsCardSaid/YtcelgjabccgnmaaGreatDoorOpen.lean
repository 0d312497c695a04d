/-
  Arguments opened at any depth: texts, records, sets, in slices and structures. Nothing is claimed here.
-/
import Derived.Test.YtcelgjabccgnmaaGreatDoorArgs
import Derived.Test.YtcelgjabccgnmaaGreatDoorRrL
namespace Go.Proofs.YtcelgjabccgnmaaGreatDoor
open Go.ChangeShapes Go.WideShapes Go.ChangeAt Go.RowKit
set_option linter.unusedVariables false
set_option maxRecDepth 100000

section
variable {H : Type} {enc : TypeId × Value → H} {P : Program} {w : World} {held : Bool}
/-- All that a datum holds has room in a machine. -/
def Lite (P : Program) (t : TypeId) (d : DataW H) : Prop := ∀ x ∈ d.weights P t, x ≤ reachBytes
theorem Lite.elem {t e : TypeId} {es sp : List (DataW H)} {d : DataW H} (h : Lite P t (.slice es sp)) (ht : P.underlying t = some (.slice e)) (hd : d ∈ es) : Lite P e d := fun x hx => h x (by
  unfold DataW.weights; simp only [ht]; exact List.mem_cons_of_mem _ (List.mem_append_left _ (weightsAll_mem hd hx)))
theorem Lite.field {t : TypeId} {fs : Array Field} {ys : List (DataW H)} {j : Nat} {f : Field} {d : DataW H} (h : Lite P t (.agg ys)) (ht : P.underlying t = some (.struct fs)) (hf : fs[j]? = some f) (hd : ys[j]? = some d) : Lite P f.type d := fun x hx => h x (by
  unfold DataW.weights; simp only [ht]
  exact weightsEach_mem (j := j) (t := f.type) (by rw [List.getElem?_map, Array.getElem?_toList, hf]; rfl) hd hx)
theorem Lite.str {t : TypeId} {s : Bs} (h : Lite P t (.lit (.string s) : DataW H)) : s.length ≤ 140737488351232 := by
  have := h _ (by unfold DataW.weights; exact List.mem_cons_self ..)
  unfold reachBytes at this; exact this
theorem flat_get {α : Type} {cv : α → List Value} {size : Nat} (h0 : 0 < size) (hcv : ∀ a, (cv a).length = size) : ∀ {l : List α} {j : Nat} {u : Value}, (l.flatMap cv)[j]? = some u → ∃ i, ∃ h : i < l.length, ∃ k, j = i * size + k ∧ (cv l[i])[k]? = some u
  | [], j, u, h => by simp at h
  | a :: l, j, u, h => by
    rw [List.flatMap_cons] at h
    by_cases hj : j < size
    · rw [List.getElem?_append_left (by rw [hcv]; exact hj)] at h
      exact ⟨0, Nat.zero_lt_succ _, j, by omega, h⟩
    · rw [List.getElem?_append_right (by rw [hcv]; omega), hcv] at h
      obtain ⟨i, hi, k, e, hk⟩ := flat_get h0 hcv h
      exact ⟨i + 1, Nat.succ_lt_succ hi, k, by rw [Nat.succ_mul]; omega, hk⟩
theorem flat_length {α : Type} {cv : α → List Value} {size : Nat} (hcv : ∀ a, (cv a).length = size) : ∀ (l : List α), (l.flatMap cv).length = l.length * size
  | [] => by simp
  | a :: l => by rw [List.flatMap_cons, List.length_append, hcv, flat_length hcv l, List.length_cons, Nat.succ_mul]; omega
/-- A slice of things of one kind. -/
theorem open_list {α : Type} [Inhabited α] {t e : TypeId} {size n : Nat} {v : Value} {y : DataW H × List MemPlace} (cv : α → List Value) (p : α → Prop) (ht : P.underlying t = some (.slice e)) (hC : P.cellsOf e = size) (h0 : 0 < size) (hcv : ∀ a, (cv a).length = size)
    (hel : ∀ (cs : List Value) (z : DataW H × List MemPlace) (m : Nat), DataW.trod enc P w 0 (fun _ => true) held m e cs = some z → Lite P e z.1 → ∃ a, cs = cv a ∧ p a)
    (h : DataW.trod enc P w 0 (fun _ => true) held n t [v] = some y) (hw : Lite P t y.1) : ∃ l : List α, RSl w size v l.length (l.flatMap cv) ∧ ∀ a ∈ l, p a := by
  rcases Go.Deep.open_slice ht h with ⟨hcs, -⟩ | ⟨a, len, cap, m, k, D, Pl, hcs, -, hlc, hcm, hm, hdd, hx⟩
  · simp only [List.cons.injEq, and_true] at hcs
    subst hcs
    exact ⟨[], RSl.nil _ _, fun _ h => (List.not_mem_nil h).elim⟩
  · simp only [List.cons.injEq, and_true] at hcs
    subst hcs
    obtain rfl : m = cap := by simpa using hm
    rw [hC] at hx
    rcases Nat.eq_zero_or_pos m with h00 | hpos
    · subst h00
      obtain rfl : len = 0 := by omega
      exact ⟨[], RSl.bare _ _ _, fun _ h => (List.not_mem_nil h).elim⟩
    obtain ⟨b, off, spot⟩ := a
    have hspot : spot = none := by
      obtain ⟨cs, hcells, -⟩ := hx 0 hpos
      obtain ⟨-, hlen, hat⟩ := World.cells?_some hcells
      have h1 := hat 0 (by omega)
      rw [List.getElem?_eq_getElem (by omega)] at h1
      simpa [Addr.add] using World.cell?_spot h1
    subst hspot
    have hw' : Lite P t (DataW.slice ((List.range len).map D) ((List.range (m - len)).map fun j => D (len + j))) := by
      rw [hdd] at hw; exact hw
    obtain ⟨R, hR⟩ := Go.Deep.choose_lt (α := α) (n := len) (p := fun i r => p r ∧ ∀ j u, (cv r)[j]? = some u → w.cell? ⟨b, off + (i * size + j), none⟩ = some u) (fun i hi => by
      obtain ⟨cs, hcells, htr⟩ := hx i (by omega)
      obtain ⟨-, hlen, hat⟩ := World.cells?_some hcells
      obtain ⟨r, hcs, hp⟩ := hel cs _ _ htr (hw'.elem ht (List.mem_map.2 ⟨i, List.mem_range.2 hi, rfl⟩))
      refine ⟨r, hp, fun j u hu => ?_⟩
      rw [← hcs] at hu
      have hj : j < size := by have := (List.getElem?_eq_some_iff.1 hu).1; omega
      have h1 := hat j hj
      rw [Go.Deep.add_add, add_plain, hu] at h1
      exact h1)
    refine ⟨(List.range len).map R, ?_, fun a ha => ?_⟩
    · have hlR : ((List.range len).map R).length = len := by simp
      rw [hlR]
      refine ⟨by rw [flat_length hcv, hlR], _, m, rfl, hlc, hcm, .inr ⟨b, off, rfl, fun j u hu => ?_⟩⟩
      obtain ⟨i, hi, k, rfl, hk⟩ := flat_get h0 hcv hu
      rw [hlR] at hi
      refine (hR i hi).2 k u ?_
      simpa using hk
    · obtain ⟨i, hi, rfl⟩ := List.mem_map.1 ha
      exact (hR i (List.mem_range.1 hi)).1
end

section
variable {H : Type} {enc : TypeId × Value → H} {w : World} {held : Bool}
theorem strV_flat (l : List Bs) : l.flatMap (fun b => [Value.string (mk b)]) = strV l := by
  induction l with
  | nil => rfl
  | cons a l ih => rw [List.flatMap_cons, ih]; rfl
theorem recsV_flat (l : List Rec) : l.flatMap recV = recsV l := by simp [recsV, List.flatMap_def]
theorem open_strs {n : Nat} {v : Value} {y : DataW H × List MemPlace} (h : DataW.trod enc Tryz.prog w 0 (fun _ => true) held n 25 [v] = some y) (hw : Lite Tryz.prog 25 y.1) :
    ∃ l : List Bs, RSl w 1 v l.length (strV l) ∧ ∀ s ∈ l, s.length ≤ 140737488351232 := by
  obtain ⟨l, h1, h2⟩ := open_list (size := 1) (fun b => [Value.string (mk b)]) (fun s : Bs => s.length ≤ 140737488351232) Tryz.underlying25 (by kernel_rfl) (by decide) (fun _ => rfl) (fun cs z m hz hl => by
    match cs, DataW.trod_string Tryz.underlying9 hz with
    | _, ⟨s, h1, h3, h2⟩ =>
      refine ⟨s.data.toList, by rw [h1]; exact congrArg (fun s => [Value.string s]) (mk_eta s), ?_⟩
      rw [h3] at hl
      exact hl.str) h hw
  rw [strV_flat] at h1
  exact ⟨l, h1, h2⟩
/-- What is small of a record. -/
structure RecL (r : Rec) : Prop where
  name : r.name.length ≤ 140737488351232
  kind : r.kind < 65536
  cls : r.cls < 65536
  ttl : r.ttl < 4294967296
  data : r.data.length ≤ 140737488351232
theorem open_rec {n : Nat} {cs : List Value} {y : DataW H × List MemPlace} (h : DataW.trod enc Tryz.prog w 0 (fun _ => true) held n 38 cs = some y) (hw : Lite Tryz.prog 38 y.1) : ∃ r, cs = recV r ∧ RecL r := by
  obtain ⟨hl, ys, hys, hfs⟩ := fields_of Tryz.underlying38 (Go.Deep.hone_of (by kernel_rfl)) (by kernel_rfl) h
  rw [hys] at hw
  obtain ⟨v0, y0, m0, c0, e0, t0⟩ := hfs 0 _ rfl
  obtain ⟨v1, y1, m1, c1, e1, t1⟩ := hfs 1 _ rfl
  obtain ⟨v2, y2, m2, c2, e2, t2⟩ := hfs 2 _ rfl
  obtain ⟨v3, y3, m3, c3, e3, t3⟩ := hfs 3 _ rfl
  obtain ⟨v4, y4, m4, c4, e4, t4⟩ := hfs 4 _ rfl
  have l0 := hw.field Tryz.underlying38 rfl e0
  have l4 := hw.field Tryz.underlying38 rfl e4
  obtain ⟨s0, rfl, -, z0⟩ := open_str Tryz.underlying9 t0
  obtain ⟨k1, rfl, b1⟩ := open_u16 Tryz.underlying23 t1
  obtain ⟨k2, rfl, b2⟩ := open_u16 Tryz.underlying23 t2
  obtain ⟨k3, rfl, b3⟩ := open_u32 Tryz.underlying24 t3
  obtain ⟨s4, rfl, -, z4⟩ := open_str Tryz.underlying9 t4
  rw [z0] at l0
  rw [z4] at l4
  refine ⟨⟨s0, k1, k2, k3, s4⟩, ?_, ⟨l0.str, b1, b2, b3, l4.str⟩⟩
  refine List.ext_getElem? fun k => ?_
  match k with
  | 0 => exact c0
  | 1 => exact c1
  | 2 => exact c2
  | 3 => exact c3
  | 4 => exact c4
  | k + 5 => rw [List.getElem?_eq_none (by rw [hl]; show 5 ≤ k + 5; omega), List.getElem?_eq_none (by simp [recV])]
theorem open_recs' {n : Nat} {v : Value} {y : DataW H × List MemPlace} (h : DataW.trod enc Tryz.prog w 0 (fun _ => true) held n 34 [v] = some y) (hw : Lite Tryz.prog 34 y.1) :
    ∃ l : List Rec, RSl w 5 v l.length (recsV l) ∧ ∀ r ∈ l, RecL r := by
  obtain ⟨l, h1, h2⟩ := open_list (size := 5) recV RecL Tryz.underlying34 (by kernel_rfl) (by decide) (fun _ => rfl) (fun cs z m hz hl => open_rec hz hl) h hw
  rw [recsV_flat] at h1
  exact ⟨l, h1, h2⟩
/-- What is small of a set. -/
structure SetL (s : RSet) : Prop where
  name : s.name.length ≤ 140737488351232
  kind : s.kind < 65536
  cls : s.cls < 65536
  ttl : s.ttl < 4294967296
  data : ∀ d ∈ s.data, d.length ≤ 140737488351232
theorem open_set {n : Nat} {cs : List Value} {y : DataW H × List MemPlace} (h : DataW.trod enc Tryz.prog w 0 (fun _ => true) held n 27 cs = some y) (hw : Lite Tryz.prog 27 y.1) : ∃ s dv, cs = setV s dv ∧ RSl w 1 dv s.data.length (strV s.data) ∧ SetL s := by
  obtain ⟨hl, ys, hys, hfs⟩ := fields_of Tryz.underlying27 (Go.Deep.hone_of (by kernel_rfl)) (by kernel_rfl) h
  rw [hys] at hw
  obtain ⟨v0, y0, m0, c0, e0, t0⟩ := hfs 0 _ rfl
  obtain ⟨v1, y1, m1, c1, e1, t1⟩ := hfs 1 _ rfl
  obtain ⟨v2, y2, m2, c2, e2, t2⟩ := hfs 2 _ rfl
  obtain ⟨v3, y3, m3, c3, e3, t3⟩ := hfs 3 _ rfl
  obtain ⟨v4, y4, m4, c4, e4, t4⟩ := hfs 4 _ rfl
  have l0 := hw.field Tryz.underlying27 rfl e0
  have l4 := hw.field Tryz.underlying27 rfl e4
  obtain ⟨s0, rfl, -, z0⟩ := open_str Tryz.underlying9 t0
  obtain ⟨k1, rfl, b1⟩ := open_u16 Tryz.underlying23 t1
  obtain ⟨k2, rfl, b2⟩ := open_u16 Tryz.underlying23 t2
  obtain ⟨k3, rfl, b3⟩ := open_u32 Tryz.underlying24 t3
  obtain ⟨l, hR, hb⟩ := open_strs t4 l4
  rw [z0] at l0
  refine ⟨⟨s0, k1, k2, k3, l⟩, v4, ?_, hR, ⟨l0.str, b1, b2, b3, hb⟩⟩
  refine List.ext_getElem? fun k => ?_
  match k with
  | 0 => exact c0
  | 1 => exact c1
  | 2 => exact c2
  | 3 => exact c3
  | 4 => exact c4
  | k + 5 => rw [List.getElem?_eq_none (by rw [hl]; show 5 ≤ k + 5; omega), List.getElem?_eq_none (by simp [setV])]
theorem setsV_flat : ∀ (l : List (RSet × Value)), l.flatMap (fun q => setV q.1 q.2) = setsV (l.map (·.1)) (l.map (·.2))
  | [] => rfl
  | q :: l => by rw [List.flatMap_cons, setsV_flat l]; rfl
instance : Inhabited RSet := ⟨noSet⟩
theorem open_sets {n : Nat} {v : Value} {y : DataW H × List MemPlace} (h : DataW.trod enc Tryz.prog w 0 (fun _ => true) held n 22 [v] = some y) (hw : Lite Tryz.prog 22 y.1) :
    ∃ l : List RSet, SetsR w v l ∧ ∀ s ∈ l, SetL s := by
  obtain ⟨l, h1, h2⟩ := open_list (size := 5) (fun q : RSet × Value => setV q.1 q.2) (fun q => RSl w 1 q.2 q.1.data.length (strV q.1.data) ∧ SetL q.1) Tryz.underlying22 (by kernel_rfl) (by decide) (fun _ => rfl) (fun cs z m hz hl => by
    obtain ⟨s, dv, h1, h2, h3⟩ := open_set hz hl
    exact ⟨(s, dv), h1, h2, h3⟩) h hw
  rw [setsV_flat] at h1
  refine ⟨l.map (·.1), ⟨l.map (·.2), by simp, by rw [List.length_map]; exact h1, fun i hi => ?_⟩, fun s hs => ?_⟩
  · simp only [List.getElem_map]
    exact (h2 _ (List.getElem_mem _)).1
  · obtain ⟨q, hq, rfl⟩ := List.mem_map.1 hs
    exact (h2 q hq).2
end

section
variable {H : Type} {enc : TypeId × Value → H} {W : World} {base : Nat} {v : Value} {d : DataW H} {ps : List MemPlace}
theorem arg_str (hval : Value.okWide Tryz.prog W .any base 9 v) (hd : DataW.Trod enc Tryz.prog W 0 (fun _ => true) true 9 v d ps) (hw : Lite Tryz.prog 9 d) : ∃ s : Bs, v = .string (mk s) ∧ s.length ≤ 140737488351232 := by
  obtain ⟨s, rfl⟩ := okWide_string Tryz.underlying9 hval
  obtain ⟨fuel, hf⟩ := hd
  obtain ⟨l, h1, -, h3⟩ := open_str (v := .string s) Tryz.underlying9 hf
  have h3' : d = .lit (.string l) := h3
  rw [h3'] at hw
  exact ⟨l, h1, hw.str⟩
theorem arg_u16 (hval : Value.okWide Tryz.prog W .any base 23 v) (hd : DataW.Trod enc Tryz.prog W 0 (fun _ => true) true 23 v d ps) : ∃ k : Nat, v = .int .u16 k ∧ k < 65536 := by
  obtain ⟨z, rfl, -, -, -⟩ := open_int Tryz.underlying23 hval hd
  obtain ⟨fuel, hf⟩ := hd
  exact open_u16 (v := .int .u16 z) Tryz.underlying23 hf
theorem arg_sets (hval : Value.okWide Tryz.prog W .any base 22 v) (hd : DataW.Trod enc Tryz.prog W 0 (fun _ => true) true 22 v d ps) (hw : Lite Tryz.prog 22 d) : ∃ l : List RSet, SetsR W v l ∧ ∀ s ∈ l, SetL s := by
  obtain ⟨ad, len, cap, rfl⟩ := okWide_slice Tryz.underlying22 hval
  obtain ⟨fuel, hf⟩ := hd
  exact open_sets hf hw
theorem arg_set (hval : Value.okWide Tryz.prog W .any base 27 v) (hd : DataW.Trod enc Tryz.prog W 0 (fun _ => true) true 27 v d ps) (hw : Lite Tryz.prog 27 d) :
    ∃ s dv, v = .agg (setV s dv).toArray ∧ RSl W 1 dv s.data.length (strV s.data) ∧ SetL s := by
  obtain ⟨cs, rfl, hsz⟩ := okWide_struct Tryz.underlying27 hval
  obtain ⟨fuel, hf⟩ := hd
  obtain ⟨s, dv, h1, h2, h3⟩ := open_set hf hw
  exact ⟨s, dv, by rw [← h1]; simp [Value.cells], h2, h3⟩
end
end Go.Proofs.YtcelgjabccgnmaaGreatDoor
