/-
  Arguments opened at any depth: texts, records, sets, in slices and structures. Nothing is claimed here.
  Messages and verdicts as arguments. Nothing is claimed here.
-/
import Derived.Test.YtpoebplhemimmaaGreatDoorArgs
import Derived.Test.YtpoebplhemimmaaGreatDoorSf
import Derived.Test.YtpoebplhemimmaaGreatDoorRrL
import Derived.Test.YtpoebplhemimmaaGreatDoorVSpec
namespace Go.Proofs.YtpoebplhemimmaaGreatDoor
open Go.ChangeShapes Go.WideShapes Go.ChangeAt Go.RowKit
set_option linter.unusedVariables false
set_option maxRecDepth 100000

section
variable {H : Type} {enc : TypeId × Value → H} {P : Program} {w : World} {held : Bool}
/-- All that a datum holds has room in a machine. -/
def Lite (P : Program) (t : TypeId) (d : DataW H) : Prop := ∀ x ∈ d.weights P t, x ≤ reachBytes
theorem Lite.elem {t e : TypeId} {es sp : List (DataW H)} {d : DataW H} (h : Lite P t (.slice es sp)) (ht : P.underlying t = some (.slice e)) (hd : d ∈ es) : Lite P e d := fun x hx => h x (by
  unfold DataW.weights; simp only [ht]; exact List.mem_cons_of_mem _ (List.mem_append_left _ (weightsAll_mem hd hx)))
theorem Lite.field {t : TypeId} {fs : Array Field} {ys : List (DataW H)} {j : Nat} {f : Field} {d : DataW H} (h : Lite P t (.agg ys)) (ht : P.underlying t = some (.struct fs)) (hf : fs[j]? = some f) (hd : ys[j]? = some d) : Lite P f.type d := fun x hx => h x (by
  unfold DataW.weights; simp only [ht]
  exact weightsEach_mem (j := j) (t := f.type) (by rw [List.getElem?_map, Array.getElem?_toList, hf]; rfl) hd hx)
theorem Lite.len {t e : TypeId} {es sp : List (DataW H)} (h : Lite P t (.slice es sp)) (ht : P.underlying t = some (.slice e)) : es.length * P.bytesOf e ≤ 140737488351232 := by
  have := h ((es.length + sp.length) * P.bytesOf e) (by unfold DataW.weights; simp only [ht]; exact List.mem_cons_self ..)
  unfold reachBytes at this
  have h2 : es.length * P.bytesOf e ≤ (es.length + sp.length) * P.bytesOf e := Nat.mul_le_mul_right _ (by omega)
  omega
theorem Lite.str {t : TypeId} {s : Bs} (h : Lite P t (.lit (.string s) : DataW H)) : s.length ≤ 140737488351232 := by
  have := h _ (by unfold DataW.weights; exact List.mem_cons_self ..)
  unfold reachBytes at this; exact this
theorem flat_get {α : Type} {cv : α → List Value} {size : Nat} (h0 : 0 < size) (hcv : ∀ a, (cv a).length = size) : ∀ {l : List α} {j : Nat} {u : Value}, (l.flatMap cv)[j]? = some u → ∃ i, ∃ h : i < l.length, ∃ k, j = i * size + k ∧ (cv l[i])[k]? = some u
  | [], j, u, h => by simp at h
  | a :: l, j, u, h => by
    rw [List.flatMap_cons] at h
    by_cases hj : j < size
    · rw [List.getElem?_append_left (by rw [hcv]; exact hj)] at h
      exact ⟨0, Nat.zero_lt_succ _, j, by omega, h⟩
    · rw [List.getElem?_append_right (by rw [hcv]; omega), hcv] at h
      obtain ⟨i, hi, k, e, hk⟩ := flat_get h0 hcv h
      exact ⟨i + 1, Nat.succ_lt_succ hi, k, by rw [Nat.succ_mul]; omega, hk⟩
theorem flat_length {α : Type} {cv : α → List Value} {size : Nat} (hcv : ∀ a, (cv a).length = size) : ∀ (l : List α), (l.flatMap cv).length = l.length * size
  | [] => by simp
  | a :: l => by rw [List.flatMap_cons, List.length_append, hcv, flat_length hcv l, List.length_cons, Nat.succ_mul]; omega
/-- A slice of things of one kind. -/
theorem open_list {α : Type} [Inhabited α] {t e : TypeId} {size n : Nat} {v : Value} {y : DataW H × List MemPlace} (cv : α → List Value) (p : α → Prop) (ht : P.underlying t = some (.slice e)) (hC : P.cellsOf e = size) (h0 : 0 < size) (hcv : ∀ a, (cv a).length = size)
    (hel : ∀ (cs : List Value) (z : DataW H × List MemPlace) (m : Nat), DataW.trod enc P w 0 (fun _ => true) held m e cs = some z → Lite P e z.1 → ∃ a, cs = cv a ∧ p a)
    (h : DataW.trod enc P w 0 (fun _ => true) held n t [v] = some y) (hw : Lite P t y.1) : ∃ l : List α, RSl w size v l.length (l.flatMap cv) ∧ (∀ a ∈ l, p a) ∧ l.length * P.bytesOf e ≤ 140737488351232 := by
  rcases Go.Deep.open_slice ht h with ⟨hcs, -⟩ | ⟨a, len, cap, m, k, D, Pl, hcs, -, hlc, hcm, hm, hdd, hx⟩
  · simp only [List.cons.injEq, and_true] at hcs
    subst hcs
    exact ⟨[], RSl.nil _ _, fun _ h => (List.not_mem_nil h).elim, by simp⟩
  · simp only [List.cons.injEq, and_true] at hcs
    subst hcs
    obtain rfl : m = cap := by simpa using hm
    rw [hC] at hx
    rcases Nat.eq_zero_or_pos m with h00 | hpos
    · subst h00
      obtain rfl : len = 0 := by omega
      exact ⟨[], RSl.bare _ _ _, fun _ h => (List.not_mem_nil h).elim, by simp⟩
    obtain ⟨b, off, spot⟩ := a
    have hspot : spot = none := by
      obtain ⟨cs, hcells, -⟩ := hx 0 hpos
      obtain ⟨-, hlen, hat⟩ := World.cells?_some hcells
      have h1 := hat 0 (by omega)
      rw [List.getElem?_eq_getElem (by omega)] at h1
      simpa [Addr.add] using World.cell?_spot h1
    subst hspot
    have hw' : Lite P t (DataW.slice ((List.range len).map D) ((List.range (m - len)).map fun j => D (len + j))) := by
      rw [hdd] at hw; exact hw
    obtain ⟨R, hR⟩ := Go.Deep.choose_lt (α := α) (n := len) (p := fun i r => p r ∧ ∀ j u, (cv r)[j]? = some u → w.cell? ⟨b, off + (i * size + j), none⟩ = some u) (fun i hi => by
      obtain ⟨cs, hcells, htr⟩ := hx i (by omega)
      obtain ⟨-, hlen, hat⟩ := World.cells?_some hcells
      obtain ⟨r, hcs, hp⟩ := hel cs _ _ htr (hw'.elem ht (List.mem_map.2 ⟨i, List.mem_range.2 hi, rfl⟩))
      refine ⟨r, hp, fun j u hu => ?_⟩
      rw [← hcs] at hu
      have hj : j < size := by have := (List.getElem?_eq_some_iff.1 hu).1; omega
      have h1 := hat j hj
      rw [Go.Deep.add_add, add_plain, hu] at h1
      exact h1)
    refine ⟨(List.range len).map R, ?_, fun a ha => ?_, by have := hw'.len ht; simpa using this⟩
    · have hlR : ((List.range len).map R).length = len := by simp
      rw [hlR]
      refine ⟨by rw [flat_length hcv, hlR], _, m, rfl, hlc, hcm, .inr ⟨b, off, rfl, fun j u hu => ?_⟩⟩
      obtain ⟨i, hi, k, rfl, hk⟩ := flat_get h0 hcv hu
      rw [hlR] at hi
      refine (hR i hi).2 k u ?_
      simpa using hk
    · obtain ⟨i, hi, rfl⟩ := List.mem_map.1 ha
      exact (hR i (List.mem_range.1 hi)).1
end

section
variable {H : Type} {enc : TypeId × Value → H} {w : World} {held : Bool}
theorem strV_flat (l : List Bs) : l.flatMap (fun b => [Value.string (mk b)]) = strV l := by
  induction l with
  | nil => rfl
  | cons a l ih => rw [List.flatMap_cons, ih]; rfl
theorem recsV_flat (l : List Rec) : l.flatMap recV = recsV l := by simp [recsV, List.flatMap_def]
theorem open_strs {n : Nat} {v : Value} {y : DataW H × List MemPlace} (h : DataW.trod enc Tryz.prog w 0 (fun _ => true) held n 143 [v] = some y) (hw : Lite Tryz.prog 143 y.1) :
    ∃ l : List Bs, RSl w 1 v l.length (strV l) ∧ ∀ s ∈ l, s.length ≤ 140737488351232 := by
  obtain ⟨l, h1, h2, -⟩ := open_list (size := 1) (fun b => [Value.string (mk b)]) (fun s : Bs => s.length ≤ 140737488351232) Tryz.underlying143 (by kernel_rfl) (by decide) (fun _ => rfl) (fun cs z m hz hl => by
    match cs, DataW.trod_string Tryz.underlying9 hz with
    | _, ⟨s, h1, h3, h2⟩ =>
      refine ⟨s.data.toList, by rw [h1]; exact congrArg (fun s => [Value.string s]) (mk_eta s), ?_⟩
      rw [h3] at hl
      exact hl.str) h hw
  rw [strV_flat] at h1
  exact ⟨l, h1, h2⟩
/-- What is small of a record. -/
theorem open_rec {n : Nat} {cs : List Value} {y : DataW H × List MemPlace} (h : DataW.trod enc Tryz.prog w 0 (fun _ => true) held n 56 cs = some y) (hw : Lite Tryz.prog 56 y.1) : ∃ r, cs = recV r ∧ RecL r := by
  obtain ⟨hl, ys, hys, hfs⟩ := fields_of Tryz.underlying56 (Go.Deep.hone_of (by kernel_rfl)) (by kernel_rfl) h
  rw [hys] at hw
  obtain ⟨v0, y0, m0, c0, e0, t0⟩ := hfs 0 _ rfl
  obtain ⟨v1, y1, m1, c1, e1, t1⟩ := hfs 1 _ rfl
  obtain ⟨v2, y2, m2, c2, e2, t2⟩ := hfs 2 _ rfl
  obtain ⟨v3, y3, m3, c3, e3, t3⟩ := hfs 3 _ rfl
  obtain ⟨v4, y4, m4, c4, e4, t4⟩ := hfs 4 _ rfl
  have l0 := hw.field Tryz.underlying56 rfl e0
  have l4 := hw.field Tryz.underlying56 rfl e4
  obtain ⟨s0, rfl, -, z0⟩ := open_str Tryz.underlying9 t0
  obtain ⟨k1, rfl, b1⟩ := open_u16 Tryz.underlying28 t1
  obtain ⟨k2, rfl, b2⟩ := open_u16 Tryz.underlying28 t2
  obtain ⟨k3, rfl, b3⟩ := open_u32 Tryz.underlying54 t3
  obtain ⟨s4, rfl, -, z4⟩ := open_str Tryz.underlying9 t4
  rw [z0] at l0
  rw [z4] at l4
  refine ⟨⟨s0, k1, k2, k3, s4⟩, ?_, ⟨l0.str, b1, b2, b3, l4.str⟩⟩
  refine List.ext_getElem? fun k => ?_
  match k with
  | 0 => exact c0
  | 1 => exact c1
  | 2 => exact c2
  | 3 => exact c3
  | 4 => exact c4
  | k + 5 => rw [List.getElem?_eq_none (by rw [hl]; show 5 ≤ k + 5; omega), List.getElem?_eq_none (by simp [recV])]
theorem open_recs' {n : Nat} {v : Value} {y : DataW H × List MemPlace} (h : DataW.trod enc Tryz.prog w 0 (fun _ => true) held n 32 [v] = some y) (hw : Lite Tryz.prog 32 y.1) :
    ∃ l : List Rec, RSl w 5 v l.length (recsV l) ∧ ∀ r ∈ l, RecL r := by
  obtain ⟨l, h1, h2, -⟩ := open_list (size := 5) recV RecL Tryz.underlying32 (by kernel_rfl) (by decide) (fun _ => rfl) (fun cs z m hz hl => open_rec hz hl) h hw
  rw [recsV_flat] at h1
  exact ⟨l, h1, h2⟩
/-- What is small of a set. -/
structure SetL (s : RSet) : Prop where
  name : s.name.length ≤ 140737488351232
  kind : s.kind < 65536
  cls : s.cls < 65536
  ttl : s.ttl < 4294967296
  data : ∀ d ∈ s.data, d.length ≤ 140737488351232
theorem setsV_flat : ∀ (l : List (RSet × Value)), l.flatMap (fun q => setV q.1 q.2) = setsV (l.map (·.1)) (l.map (·.2))
  | [] => rfl
  | q :: l => by rw [List.flatMap_cons, setsV_flat l]; rfl
instance : Inhabited RSet := ⟨noSet⟩
end

section
variable {H : Type} {enc : TypeId × Value → H} {W : World} {base : Nat} {v : Value} {d : DataW H} {ps : List MemPlace}
theorem arg_str (hval : Value.okWide Tryz.prog W .any base 9 v) (hd : DataW.Trod enc Tryz.prog W 0 (fun _ => true) true 9 v d ps) (hw : Lite Tryz.prog 9 d) : ∃ s : Bs, v = .string (mk s) ∧ s.length ≤ 140737488351232 := by
  obtain ⟨s, rfl⟩ := okWide_string Tryz.underlying9 hval
  obtain ⟨fuel, hf⟩ := hd
  obtain ⟨l, h1, -, h3⟩ := open_str (v := .string s) Tryz.underlying9 hf
  have h3' : d = .lit (.string l) := h3
  rw [h3'] at hw
  exact ⟨l, h1, hw.str⟩
theorem arg_u16 (hval : Value.okWide Tryz.prog W .any base 28 v) (hd : DataW.Trod enc Tryz.prog W 0 (fun _ => true) true 28 v d ps) : ∃ k : Nat, v = .int .u16 k ∧ k < 65536 := by
  obtain ⟨z, rfl, -, -, -⟩ := open_int Tryz.underlying28 hval hd
  obtain ⟨fuel, hf⟩ := hd
  exact open_u16 (v := .int .u16 z) Tryz.underlying28 hf
end
end Go.Proofs.YtpoebplhemimmaaGreatDoor
namespace Go.Proofs.YtpoebplhemimmaaGreatDoor
open Go.ChangeShapes Go.WideShapes Go.ChangeAt Go.RowKit
set_option linter.unusedVariables false
set_option maxRecDepth 100000

/-- A verdict's cells, and what they hold. -/
def verdV (v : Verd) (sv ov : Value) : List Value := [.int .u8 v.code, sv, ov]
structure VerdR (w : World) (v : Verd) (sv ov : Value) : Prop where
  sets : SetsR w sv v.sets
  soa : SetsR w ov v.soa
structure VerdL (v : Verd) : Prop where
  code : v.code < 256
  sets : ∀ s ∈ v.sets, SetL s
  soa : ∀ s ∈ v.soa, SetL s
  setsN : v.sets.length ≤ 140737488351232
  soaN : v.soa.length ≤ 140737488351232
theorem VerdR.ext {w w' : World} {v : Verd} {sv ov : Value} (h : VerdR w v sv ov) (he : Ext w w') : VerdR w' v sv ov := ⟨h.sets.ext he, h.soa.ext he⟩

section
variable {H : Type} {enc : TypeId × Value → H} {P : Program} {w : World} {base : Nat} {spare : Nat → Bool} {held : Bool}
theorem open_u8 {t : TypeId} {n : Nat} {v : Value} {y : DataW H × List MemPlace} (ht : P.underlying t = some (.int .u8)) (h : DataW.trod enc P w base spare held n t [v] = some y) : ∃ k : Nat, v = .int .u8 k ∧ k < 256 := by
  obtain ⟨z, h1, -, h2⟩ := DataW.trod_int ht h
  cases h1
  have hz : 0 ≤ z ∧ z ≤ 255 := by
    simp only [Lit.wf, Bool.and_eq_true, decide_eq_true_eq] at h2
    simpa [IntKind.min, IntKind.max, IntKind.bits, IntKind.signed] using h2
  exact ⟨z.toNat, by rw [Int.toNat_of_nonneg hz.1], by omega⟩
theorem open_b {t : TypeId} {n : Nat} {v : Value} {y : DataW H × List MemPlace} (ht : P.underlying t = some .bool) (h : DataW.trod enc P w base spare held n t [v] = some y) : ∃ b, v = .bool b := by
  obtain ⟨b, h1, -⟩ := DataW.trod_bool ht h
  cases h1
  exact ⟨b, rfl⟩
theorem struct_parts {t : TypeId} {fs : Array Field} {n : Nat} {cs : List Value} {y : DataW H × List MemPlace} (hs : P.underlying t = some (.struct fs)) (h : DataW.trod enc P w base spare held n t cs = some y) :
    cs.length = P.cellsOf t ∧ ∃ ys m, y.1 = .agg ys ∧ ∀ (j : Nat) (f : Field) (k : Nat), fs[j]? = some f → P.cellsOf f.type = k → ∃ z, ys[j]? = some z.1 ∧ DataW.trod enc P w base spare held m f.type ((cs.drop f.offset).take k) = some z := by
  obtain ⟨xs, m, -, hy, hl, hx, hf⟩ := DataW.trod_struct hs h
  refine ⟨hl, xs.map (·.1), m, by rw [hy], fun j f k hj hk => ?_⟩
  have hjl : j < xs.length := by rw [hx]; exact (Array.getElem?_eq_some_iff.1 hj).1
  have h1 := hf j f hj
  rw [List.getElem?_eq_getElem hjl, hk] at h1
  exact ⟨xs[j], by rw [List.getElem?_map, List.getElem?_eq_getElem hjl]; rfl, h1⟩
end

section
variable {H : Type} {enc : TypeId × Value → H} {w : World} {held : Bool}
theorem open_head {n : Nat} {cs : List Value} {y : DataW H × List MemPlace} (h : DataW.trod enc Tryz.prog w 0 (fun _ => true) held n 30 cs = some y) : ∃ hd, cs = hdV hd ∧ HdL hd := by
  obtain ⟨hl, ys, hys, hfs⟩ := fields_of Tryz.underlying30 (Go.Deep.hone_of (by kernel_rfl)) (by kernel_rfl) h
  obtain ⟨v0, y0, m0, c0, -, t0⟩ := hfs 0 _ rfl
  obtain ⟨v1, y1, m1, c1, -, t1⟩ := hfs 1 _ rfl
  obtain ⟨v2, y2, m2, c2, -, t2⟩ := hfs 2 _ rfl
  obtain ⟨v3, y3, m3, c3, -, t3⟩ := hfs 3 _ rfl
  obtain ⟨v4, y4, m4, c4, -, t4⟩ := hfs 4 _ rfl
  obtain ⟨v5, y5, m5, c5, -, t5⟩ := hfs 5 _ rfl
  obtain ⟨v6, y6, m6, c6, -, t6⟩ := hfs 6 _ rfl
  obtain ⟨v7, y7, m7, c7, -, t7⟩ := hfs 7 _ rfl
  obtain ⟨v8, y8, m8, c8, -, t8⟩ := hfs 8 _ rfl
  obtain ⟨v9, y9, m9, c9, -, t9⟩ := hfs 9 _ rfl
  obtain ⟨v10, y10, m10, c10, -, t10⟩ := hfs 10 _ rfl
  obtain ⟨k0, rfl, b0⟩ := open_u16 Tryz.underlying28 t0
  obtain ⟨k1, rfl⟩ := open_b Tryz.underlying4 t1
  obtain ⟨k2, rfl, b2⟩ := open_u8 Tryz.underlying5 t2
  obtain ⟨k3, rfl⟩ := open_b Tryz.underlying4 t3
  obtain ⟨k4, rfl⟩ := open_b Tryz.underlying4 t4
  obtain ⟨k5, rfl⟩ := open_b Tryz.underlying4 t5
  obtain ⟨k6, rfl⟩ := open_b Tryz.underlying4 t6
  obtain ⟨k7, rfl⟩ := open_b Tryz.underlying4 t7
  obtain ⟨k8, rfl⟩ := open_b Tryz.underlying4 t8
  obtain ⟨k9, rfl⟩ := open_b Tryz.underlying4 t9
  obtain ⟨k10, rfl, b10⟩ := open_u8 Tryz.underlying5 t10
  refine ⟨⟨k0, k1, k2, k3, k4, k5, k6, k7, k8, k9, k10⟩, ?_, ⟨b0, b2, b10⟩⟩
  refine List.ext_getElem? fun k => ?_
  match k with
  | 0 => exact c0
  | 1 => exact c1
  | 2 => exact c2
  | 3 => exact c3
  | 4 => exact c4
  | 5 => exact c5
  | 6 => exact c6
  | 7 => exact c7
  | 8 => exact c8
  | 9 => exact c9
  | 10 => exact c10
  | k + 11 => rw [List.getElem?_eq_none (by rw [hl]; show 11 ≤ k + 11; omega), List.getElem?_eq_none (by simp [hdV])]
theorem open_qu {n : Nat} {cs : List Value} {y : DataW H × List MemPlace} (h : DataW.trod enc Tryz.prog w 0 (fun _ => true) held n 53 cs = some y) (hw : Lite Tryz.prog 53 y.1) : ∃ q, cs = quV q ∧ QueL q := by
  obtain ⟨hl, ys, hys, hfs⟩ := fields_of Tryz.underlying53 (Go.Deep.hone_of (by kernel_rfl)) (by kernel_rfl) h
  rw [hys] at hw
  obtain ⟨v0, y0, m0, c0, e0, t0⟩ := hfs 0 _ rfl
  obtain ⟨v1, y1, m1, c1, e1, t1⟩ := hfs 1 _ rfl
  obtain ⟨v2, y2, m2, c2, e2, t2⟩ := hfs 2 _ rfl
  have l0 := hw.field Tryz.underlying53 rfl e0
  obtain ⟨s0, rfl, -, z0⟩ := open_str Tryz.underlying9 t0
  obtain ⟨k1, rfl, b1⟩ := open_u16 Tryz.underlying28 t1
  obtain ⟨k2, rfl, b2⟩ := open_u16 Tryz.underlying28 t2
  rw [z0] at l0
  refine ⟨⟨s0, k1, k2⟩, ?_, ⟨l0.str, b1, b2⟩⟩
  refine List.ext_getElem? fun k => ?_
  match k with
  | 0 => exact c0
  | 1 => exact c1
  | 2 => exact c2
  | k + 3 => rw [List.getElem?_eq_none (by rw [hl]; show 3 ≤ k + 3; omega), List.getElem?_eq_none (by simp [quV])]
theorem open_opt {n : Nat} {cs : List Value} {y : DataW H × List MemPlace} (h : DataW.trod enc Tryz.prog w 0 (fun _ => true) held n 85 cs = some y) (hw : Lite Tryz.prog 85 y.1) : ∃ q, cs = optV q ∧ OptL q := by
  obtain ⟨hl, ys, hys, hfs⟩ := fields_of Tryz.underlying85 (Go.Deep.hone_of (by kernel_rfl)) (by kernel_rfl) h
  rw [hys] at hw
  obtain ⟨v0, y0, m0, c0, e0, t0⟩ := hfs 0 _ rfl
  obtain ⟨v1, y1, m1, c1, e1, t1⟩ := hfs 1 _ rfl
  have l1 := hw.field Tryz.underlying85 rfl e1
  obtain ⟨k0, rfl, b0⟩ := open_u16 Tryz.underlying28 t0
  obtain ⟨s1, rfl, -, z1⟩ := open_str Tryz.underlying9 t1
  rw [z1] at l1
  refine ⟨⟨k0, s1⟩, ?_, ⟨b0, l1.str⟩⟩
  refine List.ext_getElem? fun k => ?_
  match k with
  | 0 => exact c0
  | 1 => exact c1
  | k + 2 => rw [List.getElem?_eq_none (by rw [hl]; show 2 ≤ k + 2; omega), List.getElem?_eq_none (by simp [optV])]
theorem open_ed {n : Nat} {cs : List Value} {y : DataW H × List MemPlace} (h : DataW.trod enc Tryz.prog w 0 (fun _ => true) held n 35 cs = some y) (hw : Lite Tryz.prog 35 y.1) : ∃ e ov, cs = edV e ov ∧ RSl w 2 ov e.opts.length (e.opts.flatMap optV) ∧ EdL e := by
  obtain ⟨hl, ys, hys, hfs⟩ := fields_of Tryz.underlying35 (Go.Deep.hone_of (by kernel_rfl)) (by kernel_rfl) h
  rw [hys] at hw
  obtain ⟨v0, y0, m0, c0, e0, t0⟩ := hfs 0 _ rfl
  obtain ⟨v1, y1, m1, c1, e1, t1⟩ := hfs 1 _ rfl
  obtain ⟨v2, y2, m2, c2, e2, t2⟩ := hfs 2 _ rfl
  obtain ⟨v3, y3, m3, c3, e3, t3⟩ := hfs 3 _ rfl
  obtain ⟨v4, y4, m4, c4, e4, t4⟩ := hfs 4 _ rfl
  have l4 := hw.field Tryz.underlying35 rfl e4
  obtain ⟨k0, rfl, b0⟩ := open_u16 Tryz.underlying28 t0
  obtain ⟨k1, rfl, b1⟩ := open_u8 Tryz.underlying5 t1
  obtain ⟨k2, rfl, b2⟩ := open_u8 Tryz.underlying5 t2
  obtain ⟨k3, rfl, b3⟩ := open_u16 Tryz.underlying28 t3
  obtain ⟨l, hR, hb, -⟩ := open_list (size := 2) optV OptL Tryz.underlying33 (by kernel_rfl) (by decide) (fun _ => rfl) (fun cs z m hz hl => open_opt hz hl) t4 l4
  refine ⟨⟨k0, k1, k2, k3, l⟩, v4, ?_, hR, ⟨b0, b1, b2, b3, hb⟩⟩
  refine List.ext_getElem? fun k => ?_
  match k with
  | 0 => exact c0
  | 1 => exact c1
  | 2 => exact c2
  | 3 => exact c3
  | 4 => exact c4
  | k + 5 => rw [List.getElem?_eq_none (by rw [hl]; show 5 ≤ k + 5; omega), List.getElem?_eq_none (by simp [edV])]
theorem list21 {cs : List Value} (h : cs.length = 21) : ∃ (a : List Value) (q1 q2 q3 q4 q5 : Value) (b : List Value), cs = a ++ ([q1, q2, q3, q4, q5] ++ b) ∧ a.length = 11 ∧ b.length = 5 := by
  match cs, h with
  | [a0, a1, a2, a3, a4, a5, a6, a7, a8, a9, a10, q1, q2, q3, q4, q5, b0, b1, b2, b3, b4], _ => exact ⟨[a0, a1, a2, a3, a4, a5, a6, a7, a8, a9, a10], q1, q2, q3, q4, q5, [b0, b1, b2, b3, b4], rfl, rfl, rfl⟩
theorem cut21 {a b : List Value} {q1 q2 q3 q4 q5 : Value} (ha : a.length = 11) (hb : b.length = 5) : ((a ++ ([q1, q2, q3, q4, q5] ++ b)).drop 0).take 11 = a ∧ ((a ++ ([q1, q2, q3, q4, q5] ++ b)).drop 11).take 1 = [q1] ∧ ((a ++ ([q1, q2, q3, q4, q5] ++ b)).drop 12).take 1 = [q2] ∧
    ((a ++ ([q1, q2, q3, q4, q5] ++ b)).drop 13).take 1 = [q3] ∧ ((a ++ ([q1, q2, q3, q4, q5] ++ b)).drop 14).take 1 = [q4] ∧ ((a ++ ([q1, q2, q3, q4, q5] ++ b)).drop 15).take 1 = [q5] ∧ ((a ++ ([q1, q2, q3, q4, q5] ++ b)).drop 16).take 5 = b := by
  match a, ha, b, hb with
  | [_, _, _, _, _, _, _, _, _, _, _], _, [_, _, _, _, _], _ => exact ⟨rfl, rfl, rfl, rfl, rfl, rfl, rfl⟩
theorem open_msg {n : Nat} {cs : List Value} {y : DataW H × List MemPlace} (h : DataW.trod enc Tryz.prog w 0 (fun _ => true) held n 37 cs = some y) (hw : Lite Tryz.prog 37 y.1) : ∃ m qv av uv xv ov, cs = msgV m qv av uv xv ov ∧ MsgR w m qv av uv xv ov ∧ MsgL m := by
  obtain ⟨hl, ys, mm, hys, hfs⟩ := struct_parts Tryz.underlying37 h
  rw [hys] at hw
  rw [show Tryz.prog.cellsOf 37 = 21 by kernel_rfl] at hl
  obtain ⟨a, q1, q2, q3, q4, q5, b, rfl, ha, hb⟩ := list21 hl
  obtain ⟨c0, c1, c2, c3, c4, c5, c6⟩ := cut21 (q1 := q1) (q2 := q2) (q3 := q3) (q4 := q4) (q5 := q5) ha hb
  obtain ⟨y0, e0, t0⟩ := hfs 0 _ 11 rfl (by kernel_rfl)
  obtain ⟨y1, e1, t1⟩ := hfs 1 _ 1 rfl (by kernel_rfl)
  obtain ⟨y2, e2, t2⟩ := hfs 2 _ 1 rfl (by kernel_rfl)
  obtain ⟨y3, e3, t3⟩ := hfs 3 _ 1 rfl (by kernel_rfl)
  obtain ⟨y4, e4, t4⟩ := hfs 4 _ 1 rfl (by kernel_rfl)
  obtain ⟨y5, e5, t5⟩ := hfs 5 _ 1 rfl (by kernel_rfl)
  obtain ⟨y6, e6, t6⟩ := hfs 6 _ 5 rfl (by kernel_rfl)
  have l1 := hw.field Tryz.underlying37 rfl e1
  have l2 := hw.field Tryz.underlying37 rfl e2
  have l3 := hw.field Tryz.underlying37 rfl e3
  have l4 := hw.field Tryz.underlying37 rfl e4
  have l6 := hw.field Tryz.underlying37 rfl e6
  have t0' := c0 ▸ t0
  have t1' := c1 ▸ t1
  have t2' := c2 ▸ t2
  have t3' := c3 ▸ t3
  have t4' := c4 ▸ t4
  have t5' := c5 ▸ t5
  have t6' := c6 ▸ t6
  obtain ⟨hd, rfl, bh⟩ := open_head t0'
  obtain ⟨qs, r1, b1, -⟩ := open_list (size := 3) quV QueL Tryz.underlying31 (by kernel_rfl) (by decide) (fun _ => rfl) (fun cs z m hz hl => open_qu hz hl) t1' l1
  obtain ⟨an, r2, b2⟩ := open_recs' t2' l2
  obtain ⟨us, r3, b3⟩ := open_recs' t3' l3
  obtain ⟨xs, r4, b4⟩ := open_recs' t4' l4
  obtain ⟨has, rfl⟩ := open_b Tryz.underlying4 t5'
  obtain ⟨ed, ov, rfl, r6, b6⟩ := open_ed t6' l6
  exact ⟨⟨hd, qs, an, us, xs, has, ed⟩, q1, q2, q3, q4, ov, rfl, ⟨r1, r2, r3, r4, r6⟩, ⟨bh, b1, b2, b3, b4, b6⟩⟩
end

section
variable {H : Type} {enc : TypeId × Value → H} {W : World} {base : Nat} {v : Value} {d : DataW H} {ps : List MemPlace}
theorem arg_msg (hval : Value.okWide Tryz.prog W .any base 37 v) (hd : DataW.Trod enc Tryz.prog W 0 (fun _ => true) true 37 v d ps) (hw : Lite Tryz.prog 37 d) :
    ∃ m qv av uv xv ov, v = .agg (msgV m qv av uv xv ov).toArray ∧ MsgR W m qv av uv xv ov ∧ MsgL m := by
  obtain ⟨cs, rfl, hsz⟩ := okWide_struct Tryz.underlying37 hval
  obtain ⟨fuel, hf⟩ := hd
  obtain ⟨m, qv, av, uv, xv, ov, h1, h2, h3⟩ := open_msg hf hw
  exact ⟨m, qv, av, uv, xv, ov, by rw [← h1]; simp [Value.cells], h2, h3⟩
theorem arg_u8 (hval : Value.okWide Tryz.prog W .any base 5 v) (hd : DataW.Trod enc Tryz.prog W 0 (fun _ => true) true 5 v d ps) : ∃ k : Nat, v = .int .u8 k ∧ k < 256 := by
  obtain ⟨z, rfl, -, -, -⟩ := open_int Tryz.underlying5 hval hd
  obtain ⟨fuel, hf⟩ := hd
  exact open_u8 (v := .int .u8 z) Tryz.underlying5 hf
theorem arg_u32 (hval : Value.okWide Tryz.prog W .any base 54 v) (hd : DataW.Trod enc Tryz.prog W 0 (fun _ => true) true 54 v d ps) : ∃ k : Nat, v = .int .u32 k ∧ k < 4294967296 := by
  obtain ⟨z, rfl, -, -, -⟩ := open_int Tryz.underlying54 hval hd
  obtain ⟨fuel, hf⟩ := hd
  exact open_u32 (v := .int .u32 z) Tryz.underlying54 hf
theorem arg_que (hval : Value.okWide Tryz.prog W .any base 53 v) (hd : DataW.Trod enc Tryz.prog W 0 (fun _ => true) true 53 v d ps) (hw : Lite Tryz.prog 53 d) :
    ∃ q, v = .agg (quV q).toArray ∧ QueL q := by
  obtain ⟨cs, rfl, hsz⟩ := okWide_struct Tryz.underlying53 hval
  obtain ⟨fuel, hf⟩ := hd
  obtain ⟨q, h1, h2⟩ := open_qu hf hw
  exact ⟨q, by rw [← h1]; simp [Value.cells], h2⟩
end
end Go.Proofs.YtpoebplhemimmaaGreatDoor
