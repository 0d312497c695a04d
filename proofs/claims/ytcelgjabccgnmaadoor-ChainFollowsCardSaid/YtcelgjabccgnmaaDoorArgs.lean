/-
  Arguments opened: records in a slice, a question. Nothing is claimed here.
-/
import Derived.Test.YtcelgjabccgnmaaDoorRow
import Derived.Test.YtcelgjabccgnmaaDoorOwn
import Derived.Lib.SmallJoins
import Derived.Deep.Slices
namespace Go.Proofs.YtcelgjabccgnmaaDoor
open Go.ChangeShapes Go.WideShapes Go.ChangeAt Go.RowKit
set_option linter.unusedVariables false
set_option maxRecDepth 100000

section
variable {H : Type} {enc : TypeId × Value → H} {P : Program} {w : World} {base : Nat} {spare : Nat → Bool} {held : Bool}
theorem open_str {t : TypeId} {n : Nat} {v : Value} {y : DataW H × List MemPlace} (ht : P.underlying t = some .string) (h : DataW.trod enc P w base spare held n t [v] = some y) : ∃ s : Bs, v = .string (mk s) ∧ s.length ≤ maxLen := by
  obtain ⟨s, h1, -, h2⟩ := DataW.trod_string ht h
  cases h1
  exact ⟨s.data.toList, congrArg Value.string (mk_eta s), by rw [Array.length_toList]; exact h2⟩
theorem open_u16 {t : TypeId} {n : Nat} {v : Value} {y : DataW H × List MemPlace} (ht : P.underlying t = some (.int .u16)) (h : DataW.trod enc P w base spare held n t [v] = some y) : ∃ k : Nat, v = .int .u16 k ∧ k < 65536 := by
  obtain ⟨z, h1, -, h2⟩ := DataW.trod_int ht h
  cases h1
  have hz : 0 ≤ z ∧ z ≤ 65535 := by
    simp only [Lit.wf, Bool.and_eq_true, decide_eq_true_eq] at h2
    simpa [IntKind.min, IntKind.max, IntKind.bits, IntKind.signed] using h2
  exact ⟨z.toNat, by rw [Int.toNat_of_nonneg hz.1], by omega⟩
theorem open_u32 {t : TypeId} {n : Nat} {v : Value} {y : DataW H × List MemPlace} (ht : P.underlying t = some (.int .u32)) (h : DataW.trod enc P w base spare held n t [v] = some y) : ∃ k : Nat, v = .int .u32 k ∧ k < 4294967296 := by
  obtain ⟨z, h1, -, h2⟩ := DataW.trod_int ht h
  cases h1
  have hz : 0 ≤ z ∧ z ≤ 4294967295 := by
    simp only [Lit.wf, Bool.and_eq_true, decide_eq_true_eq] at h2
    simpa [IntKind.min, IntKind.max, IntKind.bits, IntKind.signed] using h2
  exact ⟨z.toNat, by rw [Int.toNat_of_nonneg hz.1], by omega⟩
/-- The cells of a structure whose fields are one cell each. -/
theorem fields_of {t : TypeId} {fs : Array Field} {n : Nat} {cs : List Value} {y : DataW H × List MemPlace} (hs : P.underlying t = some (.struct fs)) (hone : ∀ (j : Nat) (f : Field), fs[j]? = some f → f.offset = j ∧ P.cellsOf f.type = 1) (hC : P.cellsOf t = fs.size)
    (h : DataW.trod enc P w base spare held n t cs = some y) : cs.length = fs.size ∧ ∀ (j : Nat) (f : Field), fs[j]? = some f → ∃ v z m, cs[j]? = some v ∧ DataW.trod enc P w base spare held m f.type [v] = some z := by
  obtain ⟨xs, m, -, -, hl, hx, hf⟩ := DataW.trod_struct hs h
  rw [hC] at hl
  refine ⟨hl, fun j f hj => ?_⟩
  obtain ⟨ho, hk⟩ := hone j f hj
  have hjl : j < fs.size := (Array.getElem?_eq_some_iff.1 hj).1
  have h1 := hf j f hj
  rw [ho, hk, List.drop_eq_getElem_cons (by omega), List.getElem?_eq_getElem (show j < xs.length by omega)] at h1
  exact ⟨cs[j]'(by omega), _, m, List.getElem?_eq_getElem (by omega), h1⟩
end

instance : Inhabited Rec := ⟨⟨[], 0, 0, 0, []⟩⟩
/-- Records in a slice. -/
theorem open_recs {H : Type} {enc : TypeId × Value → H} {W : World} {base : Nat} {v : Value} {d : DataW H} {ps : List MemPlace} (hval : Value.okWide Tryd.prog W .any base 23 v) (hd : DataW.Trod enc Tryd.prog W 0 (fun _ => true) true 23 v d ps) :
    ∃ l : List Rec, RSl W 5 v l.length (recsV l) ∧ l.length ≤ maxLen ∧ ∀ r ∈ l, r.name.length ≤ maxLen ∧ r.data.length ≤ maxLen := by
  obtain ⟨ad, len, cap, rfl⟩ := okWide_slice Tryd.underlying23 hval
  obtain ⟨fuel, hf⟩ := hd
  have hC : Tryd.prog.cellsOf 27 = 5 := by kernel_rfl
  rcases Go.Deep.open_slice Tryd.underlying23 hf with ⟨hcs, -⟩ | ⟨a, len', cap', m, n, D, Pl, hcs, -, hlc, hcm, hm, -, hx⟩
  · simp only [Value.cells, List.cons.injEq, and_true] at hcs
    cases hcs
    exact ⟨[], RSl.nil _ _, Nat.zero_le _, fun _ h => (List.not_mem_nil h).elim⟩
  · simp only [Value.cells, List.cons.injEq, and_true] at hcs
    cases hcs
    have hml : len ≤ m := by rw [hm]; simpa using hlc
    obtain ⟨R, hR⟩ := Go.Deep.choose_lt (α := Rec) (n := len) (p := fun i r => r.name.length ≤ maxLen ∧ r.data.length ≤ maxLen ∧ ∀ j u, (recV r)[j]? = some u → W.cell? (a.add (i * 5 + j)) = some u) (fun i hi => by
      obtain ⟨cs, hcells, ht⟩ := hx i (by omega)
      rw [hC] at hcells
      obtain ⟨-, hlen, hat⟩ := World.cells?_some hcells
      obtain ⟨hl, hfs⟩ := fields_of Tryd.underlying27 (Go.Deep.hone_of (by kernel_rfl)) hC ht
      obtain ⟨v0, y0, m0, c0, t0⟩ := hfs 0 _ rfl
      obtain ⟨v1, y1, m1, c1, t1⟩ := hfs 1 _ rfl
      obtain ⟨v2, y2, m2, c2, t2⟩ := hfs 2 _ rfl
      obtain ⟨v3, y3, m3, c3, t3⟩ := hfs 3 _ rfl
      obtain ⟨v4, y4, m4, c4, t4⟩ := hfs 4 _ rfl
      obtain ⟨s0, rfl, l0⟩ := open_str Tryd.underlying9 t0
      obtain ⟨k1, rfl, -⟩ := open_u16 Tryd.underlying24 t1
      obtain ⟨k2, rfl, -⟩ := open_u16 Tryd.underlying24 t2
      obtain ⟨k3, rfl, -⟩ := open_u32 Tryd.underlying25 t3
      obtain ⟨s4, rfl, l4⟩ := open_str Tryd.underlying9 t4
      refine ⟨⟨s0, k1, k2, k3, s4⟩, l0, l4, fun j u hu => ?_⟩
      have hj : j < 5 := by have := (List.getElem?_eq_some_iff.1 hu).1; simpa [recV] using this
      rw [← Go.Deep.add_add, hat j hj]
      have e : cs = recV ⟨s0, k1, k2, k3, s4⟩ := by
        refine List.ext_getElem? fun k => ?_
        match k with
        | 0 => exact c0
        | 1 => exact c1
        | 2 => exact c2
        | 3 => exact c3
        | 4 => exact c4
        | k + 5 => rw [List.getElem?_eq_none (by omega), List.getElem?_eq_none (by simp [recV])]
      rw [e]; exact hu)
    have hlR : ((List.range len).map R).length = len := by simp
    refine ⟨(List.range len).map R, ?_, by rw [hlR]; omega, fun r hr => ?_⟩
    · rw [hlR]
      refine ⟨by rw [recsV_length, hlR], _, cap, rfl, hlc, hcm, ?_⟩
      rcases Nat.eq_zero_or_pos len with h0 | h0
      · have hh := hval
        simp only [Value.okWide, Tryd.underlying23, Cell.okWide, Cell.ok, World.has] at hh
        obtain ⟨b, off, spot⟩ := a
        have hspot : spot = none := hh.2.2.2.1
        subst hspot
        refine .inr ⟨b, off, rfl, fun j u hu => ?_⟩
        subst h0
        simp [recsV] at hu
      · obtain ⟨b, off, spot⟩ := a
        have g0 := (hR 0 h0).2.2 0 _ rfl
        have hspot : spot = none := by simpa [Addr.add] using World.cell?_spot g0
        subst hspot
        refine .inr ⟨b, off, rfl, fun j u hu => ?_⟩
        have hj : j < len * 5 := by have := (List.getElem?_eq_some_iff.1 hu).1; rwa [recsV_length, hlR] at this
        have hq : j / 5 < len := by omega
        have := (hR (j / 5) hq).2.2 (j % 5) u ?_
        · rw [add_plain] at this
          rwa [show j / 5 * 5 + j % 5 = j by omega] at this
        · have hq' : j / 5 < ((List.range len).map R).length := by omega
          have e : ((List.range len).map R)[j / 5]'hq' = R (j / 5) := by simp
          have hm5 : j % 5 < (recV (R (j / 5))).length := by simp [recV]; omega
          have := recsV_get hq' (j % 5) _ (by rw [e]; exact List.getElem?_eq_getElem hm5)
          rw [show j / 5 * 5 + j % 5 = j by omega, hu] at this
          rw [List.getElem?_eq_getElem hm5, this]
    · obtain ⟨i, hi, rfl⟩ := List.mem_map.1 hr
      have := hR i (List.mem_range.1 hi)
      exact ⟨this.1, this.2.1⟩

/-- A question. -/
theorem open_que {H : Type} {enc : TypeId × Value → H} {W : World} {base : Nat} {v : Value} {d : DataW H} {ps : List MemPlace} (hval : Value.okWide Tryd.prog W .any base 33 v) (hd : DataW.Trod enc Tryd.prog W 0 (fun _ => true) true 33 v d ps) :
    ∃ (nm : Bs) (kind cls : Nat), v = .agg #[.string (mk nm), .int .u16 kind, .int .u16 cls] ∧ nm.length ≤ maxLen := by
  obtain ⟨v0, v1, v2, y0, y1, y2, n, rfl, -, -, t0, t1, t2⟩ := Go.Joins.open_agg3 Tryd.underlying33 (by kernel_rfl) (by kernel_rfl) hval hd
  obtain ⟨s0, rfl, l0⟩ := open_str Tryd.underlying9 t0
  obtain ⟨k1, rfl, -⟩ := open_u16 Tryd.underlying24 t1
  obtain ⟨k2, rfl, -⟩ := open_u16 Tryd.underlying24 t2
  exact ⟨s0, k1, k2, rfl, l0⟩
end Go.Proofs.YtcelgjabccgnmaaDoor
