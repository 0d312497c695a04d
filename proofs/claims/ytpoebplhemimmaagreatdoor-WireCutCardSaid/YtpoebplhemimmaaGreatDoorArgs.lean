/-
  Arguments opened: records in a slice, a question. Nothing is claimed here.
-/
import Derived.Test.YtpoebplhemimmaaGreatDoorRow
import Derived.Test.YtpoebplhemimmaaGreatDoorOwn
import Derived.Lib.SmallJoins
import Derived.Deep.Slices
namespace Go.Proofs.YtpoebplhemimmaaGreatDoor
open Go.ChangeShapes Go.WideShapes Go.ChangeAt Go.RowKit
set_option linter.unusedVariables false
set_option maxRecDepth 100000

section
variable {H : Type} {enc : TypeId × Value → H} {P : Program} {w : World} {base : Nat} {spare : Nat → Bool} {held : Bool}
theorem open_str {t : TypeId} {n : Nat} {v : Value} {y : DataW H × List MemPlace} (ht : P.underlying t = some .string) (h : DataW.trod enc P w base spare held n t [v] = some y) : ∃ s : Bs, v = .string (mk s) ∧ s.length ≤ maxLen ∧ y.1 = .lit (.string s) := by
  obtain ⟨s, h1, h3, h2⟩ := DataW.trod_string ht h
  cases h1
  exact ⟨s.data.toList, congrArg Value.string (mk_eta s), by rw [Array.length_toList]; exact h2, by rw [h3]⟩
theorem open_u16 {t : TypeId} {n : Nat} {v : Value} {y : DataW H × List MemPlace} (ht : P.underlying t = some (.int .u16)) (h : DataW.trod enc P w base spare held n t [v] = some y) : ∃ k : Nat, v = .int .u16 k ∧ k < 65536 := by
  obtain ⟨z, h1, -, h2⟩ := DataW.trod_int ht h
  cases h1
  have hz : 0 ≤ z ∧ z ≤ 65535 := by
    simp only [Lit.wf, Bool.and_eq_true, decide_eq_true_eq] at h2
    simpa [IntKind.min, IntKind.max, IntKind.bits, IntKind.signed] using h2
  exact ⟨z.toNat, by rw [Int.toNat_of_nonneg hz.1], by omega⟩
theorem open_u32 {t : TypeId} {n : Nat} {v : Value} {y : DataW H × List MemPlace} (ht : P.underlying t = some (.int .u32)) (h : DataW.trod enc P w base spare held n t [v] = some y) : ∃ k : Nat, v = .int .u32 k ∧ k < 4294967296 := by
  obtain ⟨z, h1, -, h2⟩ := DataW.trod_int ht h
  cases h1
  have hz : 0 ≤ z ∧ z ≤ 4294967295 := by
    simp only [Lit.wf, Bool.and_eq_true, decide_eq_true_eq] at h2
    simpa [IntKind.min, IntKind.max, IntKind.bits, IntKind.signed] using h2
  exact ⟨z.toNat, by rw [Int.toNat_of_nonneg hz.1], by omega⟩
/-- The cells of a structure whose fields are one cell each. -/
theorem fields_of {t : TypeId} {fs : Array Field} {n : Nat} {cs : List Value} {y : DataW H × List MemPlace} (hs : P.underlying t = some (.struct fs)) (hone : ∀ (j : Nat) (f : Field), fs[j]? = some f → f.offset = j ∧ P.cellsOf f.type = 1) (hC : P.cellsOf t = fs.size)
    (h : DataW.trod enc P w base spare held n t cs = some y) : cs.length = fs.size ∧ ∃ ys, y.1 = .agg ys ∧ ∀ (j : Nat) (f : Field), fs[j]? = some f → ∃ v z m, cs[j]? = some v ∧ ys[j]? = some z.1 ∧ DataW.trod enc P w base spare held m f.type [v] = some z := by
  obtain ⟨xs, m, -, hy, hl, hx, hf⟩ := DataW.trod_struct hs h
  rw [hC] at hl
  refine ⟨hl, xs.map (·.1), by rw [hy], fun j f hj => ?_⟩
  obtain ⟨ho, hk⟩ := hone j f hj
  have hjl : j < fs.size := (Array.getElem?_eq_some_iff.1 hj).1
  have h1 := hf j f hj
  rw [ho, hk, List.drop_eq_getElem_cons (by omega), List.getElem?_eq_getElem (show j < xs.length by omega)] at h1
  exact ⟨cs[j]'(by omega), xs[j]'(by omega), m, List.getElem?_eq_getElem (by omega), by rw [List.getElem?_map, List.getElem?_eq_getElem (show j < xs.length by omega)]; rfl, h1⟩
end

section
variable {H : Type} {P : Program}
theorem weightsAll_mem {e : TypeId} {x : Nat} : ∀ {l : List (DataW H)} {d : DataW H}, d ∈ l → x ∈ d.weights P e → x ∈ DataW.weightsAll P e l
  | [], _, h, _ => (List.not_mem_nil h).elim
  | y :: l, d, h, hx => by
    unfold DataW.weightsAll
    rcases List.mem_cons.1 h with rfl | h
    · exact List.mem_append_left _ hx
    · exact List.mem_append_right _ (weightsAll_mem h hx)
theorem weightsEach_mem {x : Nat} : ∀ {ts : List TypeId} {ds : List (DataW H)} {j : Nat} {t : TypeId} {d : DataW H}, ts[j]? = some t → ds[j]? = some d → x ∈ d.weights P t → x ∈ DataW.weightsEach P ts ds
  | [], _, _, _, _, h, _, _ => by simp at h
  | _ :: _, [], _, _, _, _, h, _ => by simp at h
  | t :: ts, d :: ds, 0, _, _, h1, h2, hx => by
    simp only [List.getElem?_cons_zero, Option.some.injEq] at h1 h2
    subst h1 h2
    unfold DataW.weightsEach
    exact List.mem_append_left _ hx
  | t :: ts, d :: ds, j + 1, _, _, h1, h2, hx => by
    unfold DataW.weightsEach
    exact List.mem_append_right _ (weightsEach_mem (by simpa using h1) (by simpa using h2) hx)
/-- The bounds of all arguments give each one's. -/
theorem weights_arg {ts us : List TypeId} {ds gs : List (DataW H)} (h : (DataW.weightsEach P (ts ++ us) (ds ++ gs)).all (· ≤ reachBytes) = true) {j : Nat} {t : TypeId} {d : DataW H} (h1 : ts[j]? = some t) (h2 : ds[j]? = some d) : ∀ x ∈ d.weights P t, x ≤ reachBytes := fun x hx => by
  have := List.all_eq_true.1 h x (weightsEach_mem (j := j) (by rw [List.getElem?_append_left (List.getElem?_eq_some_iff.1 h1).1]; exact h1) (by rw [List.getElem?_append_left (List.getElem?_eq_some_iff.1 h2).1]; exact h2) hx)
  simpa using this
theorem weights_elem {t e : TypeId} {fs : Array Field} {es sp : List (DataW H)} {ys : List (DataW H)} {s : Bs} {j : Nat} {f : Field} (ht : P.underlying t = some (.slice e)) (he : P.underlying e = some (.struct fs)) (h : ∀ x ∈ (DataW.slice es sp).weights P t, x ≤ reachBytes)
    (hy : DataW.agg ys ∈ es) (hf : fs[j]? = some f) (hs : ys[j]? = some (.lit (.string s))) : s.length ≤ reachBytes := by
  refine h _ ?_
  unfold DataW.weights
  simp only [ht]
  refine List.mem_cons_of_mem _ (List.mem_append_left _ (weightsAll_mem hy ?_))
  unfold DataW.weights
  simp only [he]
  refine weightsEach_mem (j := j) (t := f.type) (by rw [List.getElem?_map, Array.getElem?_toList, hf]; rfl) hs ?_
  unfold DataW.weights
  exact List.mem_cons_self ..
end

instance : Inhabited Rec := ⟨⟨[], 0, 0, 0, []⟩⟩
/-- Records in a slice. -/
theorem open_recs {H : Type} {enc : TypeId × Value → H} {W : World} {base : Nat} {v : Value} {d : DataW H} {ps : List MemPlace} (hval : Value.okWide Tryz.prog W .any base 32 v) (hd : DataW.Trod enc Tryz.prog W 0 (fun _ => true) true 32 v d ps) (hw : ∀ x ∈ d.weights Tryz.prog 32, x ≤ reachBytes) :
    ∃ l : List Rec, RSl W 5 v l.length (recsV l) ∧ ∀ r ∈ l, r.name.length ≤ 140737488351232 ∧ r.data.length ≤ 140737488351232 := by
  obtain ⟨ad, len, cap, rfl⟩ := okWide_slice Tryz.underlying32 hval
  obtain ⟨fuel, hf⟩ := hd
  have hC : Tryz.prog.cellsOf 56 = 5 := by kernel_rfl
  rcases Go.Deep.open_slice Tryz.underlying32 hf with ⟨hcs, -⟩ | ⟨a, len', cap', m, n, D, Pl, hcs, -, hlc, hcm, hm, hdd, hx⟩
  · simp only [Value.cells, List.cons.injEq, and_true] at hcs
    cases hcs
    exact ⟨[], RSl.nil _ _, fun _ h => (List.not_mem_nil h).elim⟩
  · simp only [Value.cells, List.cons.injEq, and_true] at hcs
    cases hcs
    have hml : len ≤ m := by rw [hm]; simpa using hlc
    obtain ⟨R, hR⟩ := Go.Deep.choose_lt (α := Rec) (n := len) (p := fun i r => r.name.length ≤ 140737488351232 ∧ r.data.length ≤ 140737488351232 ∧ ∀ j u, (recV r)[j]? = some u → W.cell? (a.add (i * 5 + j)) = some u) (fun i hi => by
      obtain ⟨cs, hcells, ht⟩ := hx i (by omega)
      rw [hC] at hcells
      obtain ⟨-, hlen, hat⟩ := World.cells?_some hcells
      obtain ⟨hl, ys, hys, hfs⟩ := fields_of Tryz.underlying56 (Go.Deep.hone_of (by kernel_rfl)) hC ht
      obtain ⟨v0, y0, m0, c0, e0, t0⟩ := hfs 0 _ rfl
      obtain ⟨v1, y1, m1, c1, e1, t1⟩ := hfs 1 _ rfl
      obtain ⟨v2, y2, m2, c2, e2, t2⟩ := hfs 2 _ rfl
      obtain ⟨v3, y3, m3, c3, e3, t3⟩ := hfs 3 _ rfl
      obtain ⟨v4, y4, m4, c4, e4, t4⟩ := hfs 4 _ rfl
      obtain ⟨s0, rfl, -, z0⟩ := open_str Tryz.underlying9 t0
      obtain ⟨k1, rfl, -⟩ := open_u16 Tryz.underlying28 t1
      obtain ⟨k2, rfl, -⟩ := open_u16 Tryz.underlying28 t2
      obtain ⟨k3, rfl, -⟩ := open_u32 Tryz.underlying54 t3
      obtain ⟨s4, rfl, -, z4⟩ := open_str Tryz.underlying9 t4
      have hd1 : d = .slice ((List.range len).map D) ((List.range (m - len)).map fun j => D (len + j)) := congrArg (·.1) hdd
      rw [hd1] at hw
      have hyi : DataW.agg ys ∈ (List.range len).map D := List.mem_map.2 ⟨i, List.mem_range.2 hi, hys⟩
      have l0 := weights_elem (j := 0) (f := _) Tryz.underlying32 Tryz.underlying56 hw hyi rfl (by rw [e0, z0])
      have l4 := weights_elem (j := 4) (f := _) Tryz.underlying32 Tryz.underlying56 hw hyi rfl (by rw [e4, z4])
      unfold reachBytes at l0 l4
      refine ⟨⟨s0, k1, k2, k3, s4⟩, l0, l4, fun j u hu => ?_⟩
      have hj : j < 5 := by have := (List.getElem?_eq_some_iff.1 hu).1; simpa [recV] using this
      rw [← Go.Deep.add_add, hat j hj]
      have e : cs = recV ⟨s0, k1, k2, k3, s4⟩ := by
        refine List.ext_getElem? fun k => ?_
        match k with
        | 0 => exact c0
        | 1 => exact c1
        | 2 => exact c2
        | 3 => exact c3
        | 4 => exact c4
        | k + 5 => rw [List.getElem?_eq_none (by omega), List.getElem?_eq_none (by simp [recV])]
      rw [e]; exact hu)
    have hlR : ((List.range len).map R).length = len := by simp
    refine ⟨(List.range len).map R, ?_, fun r hr => ?_⟩
    · rw [hlR]
      refine ⟨by rw [recsV_length, hlR], _, cap, rfl, hlc, hcm, ?_⟩
      rcases Nat.eq_zero_or_pos len with h0 | h0
      · have hh := hval
        simp only [Value.okWide, Tryz.underlying32, Cell.okWide, Cell.ok, World.has] at hh
        obtain ⟨b, off, spot⟩ := a
        have hspot : spot = none := hh.2.2.2.1
        subst hspot
        refine .inr ⟨b, off, rfl, fun j u hu => ?_⟩
        subst h0
        simp [recsV] at hu
      · obtain ⟨b, off, spot⟩ := a
        have g0 := (hR 0 h0).2.2 0 _ rfl
        have hspot : spot = none := by simpa [Addr.add] using World.cell?_spot g0
        subst hspot
        refine .inr ⟨b, off, rfl, fun j u hu => ?_⟩
        have hj : j < len * 5 := by have := (List.getElem?_eq_some_iff.1 hu).1; rwa [recsV_length, hlR] at this
        have hq : j / 5 < len := by omega
        have := (hR (j / 5) hq).2.2 (j % 5) u ?_
        · rw [add_plain] at this
          rwa [show j / 5 * 5 + j % 5 = j by omega] at this
        · have hq' : j / 5 < ((List.range len).map R).length := by omega
          have e : ((List.range len).map R)[j / 5]'hq' = R (j / 5) := by simp
          have hm5 : j % 5 < (recV (R (j / 5))).length := by simp [recV]; omega
          have := recsV_get hq' (j % 5) _ (by rw [e]; exact List.getElem?_eq_getElem hm5)
          rw [show j / 5 * 5 + j % 5 = j by omega, hu] at this
          rw [List.getElem?_eq_getElem hm5, this]
    · obtain ⟨i, hi, rfl⟩ := List.mem_map.1 hr
      have := hR i (List.mem_range.1 hi)
      exact ⟨this.1, this.2.1⟩

/-- A question. -/
theorem open_que {H : Type} {enc : TypeId × Value → H} {W : World} {base : Nat} {v : Value} {d : DataW H} {ps : List MemPlace} (hval : Value.okWide Tryz.prog W .any base 53 v) (hd : DataW.Trod enc Tryz.prog W 0 (fun _ => true) true 53 v d ps) :
    ∃ (nm : Bs) (kind cls : Nat), v = .agg #[.string (mk nm), .int .u16 kind, .int .u16 cls] ∧ nm.length ≤ maxLen := by
  obtain ⟨v0, v1, v2, y0, y1, y2, n, rfl, -, -, t0, t1, t2⟩ := Go.Joins.open_agg3 Tryz.underlying53 (by kernel_rfl) (by kernel_rfl) hval hd
  obtain ⟨s0, rfl, l0, -⟩ := open_str Tryz.underlying9 t0
  obtain ⟨k1, rfl, -⟩ := open_u16 Tryz.underlying28 t1
  obtain ⟨k2, rfl, -⟩ := open_u16 Tryz.underlying28 t2
  exact ⟨s0, k1, k2, rfl, l0⟩
end Go.Proofs.YtpoebplhemimmaaGreatDoor
