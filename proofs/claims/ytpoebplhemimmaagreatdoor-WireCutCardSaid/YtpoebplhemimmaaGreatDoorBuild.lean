/-
  The walks of strings.Builder's methods, over blocks of one's own.
-/
import Derived.Test.YtpoebplhemimmaaGreatDoorFns
import Derived.Test.YtpoebplhemimmaaGreatDoorShelf
import Derived.Lib.Builder
import Derived.Lib.UnsafeStr
import Derived.Lib.AppendStr
namespace Go.Proofs.YtpoebplhemimmaaGreatDoor
open Go.RowKit
set_option linter.unusedVariables false
set_option linter.unusedSimpArgs false
set_option maxHeartbeats 1000000

/-- The blocks of a builder at block b that holds the bytes l. -/
def Bld (b : Nat) (BB : List (Nat × Obj)) (l : List UInt8) : Prop :=
  ∃ ad sv B, BB = (b, .cells #[.pointer ad, sv] 187 (0, 0)) :: B ∧ (ad = none ∨ ad = some ⟨b, 0, none⟩) ∧ Sl 5 1 B sv l.length (bytV l)

theorem Bld.new (b : Nat) : Bld b [(b, .cells #[.pointer none, .slice none 0 0] 187 (0, 0))] [] := ⟨none, _, [], rfl, .inl rfl, Sl.nil _ _⟩

theorem shape_own {w0 w : World} {H : List (Nat × Obj)} {i g : Nat} {cur : Array Value} {e : TypeId} {fr : Nat × Nat} (hH : Hp w0 w H) (hi : H[i]? = some (g, .cells cur e fr)) : w.shape? g = some (e, cur.size) := by
  have := (hH.own _ (List.mem_of_getElem? hi)).1
  simp only at this
  simp [World.shape?, this]

theorem ti_info {P : Program} {t : TypeId} {size bytes : Nat} (h : TI P t size bytes) : ∃ i, P.info? t = some i := let ⟨i, _, hi, _⟩ := h; ⟨i, hi⟩
theorem to_unsafe {P : Program} {w : World} {s d t e : TypeId} {size bytes cells b off : Nat} (hs : P.underlying s = some (.pointer t)) (hd : P.underlying d = some .unsafePointer) (ht : TI P t size bytes) (h0 : 0 < size)
    (hsh : w.shape? b = some (e, cells)) (hoff : off < cells) : (convert s d (.pointer (some ⟨b, off, none⟩))).run P w = .ok (.pointer (some ⟨b, off, none⟩)) w := by
  obtain ⟨i, z, hi, _, rfl, _⟩ := ht
  exact Lib.run_to_unsafe w ⟨b, off, none⟩ hs hd hi (by omega) hsh hoff
theorem from_unsafe {P : Program} {w : World} {s d t e : TypeId} {size bytes cells b off : Nat} (hs : P.underlying s = some .unsafePointer) (hd : P.underlying d = some (.pointer t)) (ht : TI P t size bytes)
    (hsh : w.shape? b = some (e, cells)) (hl : liesAt P P.depth e (cells / P.cellsOf e) off t 1 = true) : (convert s d (.pointer (some ⟨b, off, none⟩))).run P w = .ok (.pointer (some ⟨b, off, none⟩)) w := by
  obtain ⟨i, z, hi, _, rfl, _⟩ := ht
  exact Lib.run_from_unsafe w ⟨b, off, none⟩ hs hd hi hsh hl

theorem copyCheck_fresh {w00 w0 : World} {b : Nat} {sv : Value} {H : List (Nat × Obj)} (hH : Hp w00 w0 ((b, .cells #[.pointer none, sv] 187 (0, 0)) :: H)) :
    Rets Tryz.prog 105 [.pointer (some ⟨b, 0, none⟩)] w0 fun v w' => v = .tuple #[] ∧ Hp w00 w' ((b, .cells #[.pointer (some ⟨b, 0, none⟩), sv] 187 (0, 0)) :: H) := by
  refine rets_start Tryz.func105 rfl Tryz.ntmps105 rfl fun a Q0 hF hret hend => ?_
  simp only [argsFrom, Nat.zero_add, Nat.reduceAdd] at hF
  refine c_sr fun ops => ?_
  refine zm 1 hF rfl fun a hF => ?_
  refine zl hF rfl (r_nilcheck hF rfl rfl) fun a hF => ?_
  refine zl hF rfl (r_fieldaddr0 hF rfl rfl fd187_0) fun a hF => ?_
  refine zl hF rfl (r_load hF rfl rfl fl185 (own_cellL (i := 0) hH rfl rfl)) fun a hF => ?_
  refine zb hF rfl rfl rfl (b_peq Tryz.underlying185) fun a hF => ?_
  refine c_n ?_
  replace hF := hF.sel [0, 6]
  simp only [ss, Nat.reduceBEq] at hF
  refine c_yes hF rfl (rfl) ?_
  refine c_reg fun ops => ?_
  refine zm 2 hF rfl fun a hF => ?_
  have hcv := to_unsafe Tryz.underlying185 Tryz.underlying196 ti187 (by decide) (shape_own (i := 0) hH rfl) (off := 0) (Nat.zero_lt_succ _)
  refine zl hF rfl (r_convrun hF rfl rfl hcv) fun a hF => ?_
  refine ls_ext hF rfl rfl rfl rfl rfl Tryz.func115 (by kernel_rfl) (by kernel_rfl) (by kernel_rfl) (ex := Extern.AbiNoEscape.same) (by kernel_rfl) (Lib.run_noEscape _ _) fun a hF => ?_
  have hcv := from_unsafe Tryz.underlying196 Tryz.underlying185 ti187 (shape_own (i := 0) hH rfl) (off := 0) (by kernel_rfl)
  refine zl hF rfl (r_convrun hF rfl rfl hcv) fun a hF => ?_
  refine zl hF rfl (r_nilcheck hF rfl rfl) fun a hF => ?_
  refine zl hF rfl (r_fieldaddr0 hF rfl rfl fd187_0) fun a hF => ?_
  refine ls_store 0 hF hH rfl rfl rfl rfl rfl fl185 ti185 rfl (by simp) (by simp [noFreeze]) (rfl) ?_
  intro w hH
  refine wpList_nil ?_
  replace hF := hF.sel []
  simp only [ss, Nat.reduceBEq] at hF
  refine hend (fall0 (fn := Tryz.f105) hF Tryz.results105 ?_)
  exact ⟨rfl, hH⟩

theorem copyCheck_used {w00 w0 : World} {b : Nat} {sv : Value} {H : List (Nat × Obj)} (hH : Hp w00 w0 ((b, .cells #[.pointer (some ⟨b, 0, none⟩), sv] 187 (0, 0)) :: H)) :
    Rets Tryz.prog 105 [.pointer (some ⟨b, 0, none⟩)] w0 fun v w' => v = .tuple #[] ∧ Hp w00 w' ((b, .cells #[.pointer (some ⟨b, 0, none⟩), sv] 187 (0, 0)) :: H) := by
  obtain ⟨inf, hinf⟩ := ti_info ti187
  have hne := Lib.run_neq_ptr_same (P := Tryz.prog) w0 ⟨b, 0, none⟩ Tryz.underlying185 hinf
  refine rets_start Tryz.func105 rfl Tryz.ntmps105 rfl fun a Q0 hF hret hend => ?_
  simp only [argsFrom, Nat.zero_add, Nat.reduceAdd] at hF
  refine c_sr fun ops => ?_
  refine zm 1 hF rfl fun a hF => ?_
  refine zl hF rfl (r_nilcheck hF rfl rfl) fun a hF => ?_
  refine zl hF rfl (r_fieldaddr0 hF rfl rfl fd187_0) fun a hF => ?_
  refine zl hF rfl (r_load hF rfl rfl fl185 (own_cellL (i := 0) hH rfl rfl)) fun a hF => ?_
  refine zb hF rfl rfl rfl (b_peq Tryz.underlying185) fun a hF => ?_
  refine c_n ?_
  replace hF := hF.sel [0, 6]
  simp only [ss, Nat.reduceBEq] at hF
  refine c_no hF rfl (rfl) ?_
  refine c_sr fun ops => ?_
  refine zm 1 hF rfl fun a hF => ?_
  refine zl hF rfl (r_nilcheck hF rfl rfl) fun a hF => ?_
  refine zl hF rfl (r_fieldaddr0 hF rfl rfl fd187_0) fun a hF => ?_
  refine zl hF rfl (r_load hF rfl rfl fl185 (own_cellL (i := 0) hH rfl rfl)) fun a hF => ?_
  refine zm 1 hF rfl fun a hF => ?_
  refine zl hF rfl (r_bin hF rfl rfl rfl rfl hne) fun a hF => ?_
  refine c_n ?_
  replace hF := hF.sel [19]
  simp only [ss, Nat.reduceBEq] at hF
  refine c_no hF rfl (rfl) ?_
  refine wp_skip ?_
  refine hend (fall0 (fn := Tryz.f105) hF Tryz.results105 ?_)
  exact ⟨rfl, hH⟩

theorem copyCheck_spec {w00 w0 : World} {b : Nat} {sv : Value} {ad : Option Addr} {H : List (Nat × Obj)} (hH : Hp w00 w0 ((b, .cells #[.pointer ad, sv] 187 (0, 0)) :: H)) (had : ad = none ∨ ad = some ⟨b, 0, none⟩) :
    Rets Tryz.prog 105 [.pointer (some ⟨b, 0, none⟩)] w0 fun v w' => v = .tuple #[] ∧ Hp w00 w' ((b, .cells #[.pointer (some ⟨b, 0, none⟩), sv] 187 (0, 0)) :: H) := by
  rcases had with rfl | rfl
  · exact copyCheck_fresh hH
  · exact copyCheck_used hH


theorem writeString_spec {w00 w0 : World} {b : Nat} {BB H : List (Nat × Obj)} {l : List UInt8} (hH : Hp w00 w0 (BB ++ H)) (hb : Bld b BB l) (m : List UInt8) (hl : l.length + m.length ≤ 140737488355328) :
    Rets Tryz.prog 93 [.pointer (some ⟨b, 0, none⟩), .string (mk m)] w0 fun v w' => v = .tuple #[.int .i64 m.length, .nilIface] ∧ ∃ BB', Hp w00 w' (BB' ++ H) ∧ Bld b BB' (l ++ m) := by
  obtain ⟨ad, sv, B, rfl, had, hS⟩ := hb
  refine rets_start Tryz.func93 rfl Tryz.ntmps93 rfl fun a Q0 hF hret hend => ?_
  simp only [argsFrom, Nat.zero_add, Nat.reduceAdd] at hF
  refine c_sr fun ops => ?_
  refine zm 2 hF rfl fun a hF => ?_
  refine c_n ?_
  replace hF := hF.sel [0, 1]
  simp only [ss, Nat.reduceBEq] at hF
  refine c_sr fun ops => ?_
  refine zm 1 hF rfl fun a hF => ?_
  refine zc hF rfl rfl fn105 (copyCheck_spec hH had) ?_
  rintro _ w ⟨rfl, hH⟩ a hF
  refine c_n ?_
  replace hF := hF.sel [0, 1]
  simp only [ss, Nat.reduceBEq] at hF
  refine c_sr fun ops => ?_
  refine zm 2 hF rfl fun a hF => ?_
  refine zl hF rfl (r_nilcheck hF rfl rfl) fun a hF => ?_
  refine zl hF rfl (r_fieldaddr0 hF rfl rfl fd187_1) fun a hF => ?_
  refine zl hF rfl (r_load hF rfl rfl fl26 (own_cellL (i := 0) hH rfl rfl)) fun a hF => ?_
  refine zm 1 hF rfl fun a hF => ?_
  replace hH := hH.toB
  refine ls_appendstr hF hH rfl rfl rfl rfl rfl rfl Tryz.underlying26 Tryz.underlying9 ti5 (zv_of (by kernel_rfl)) hS (by omega) ?_
  intro a v2_6 w B2_6 hH hS hF
  replace hH := hH.fromB
  refine zl hF rfl (r_nilcheck hF rfl rfl) fun a hF => ?_
  refine zl hF rfl (r_fieldaddr0 hF rfl rfl fd187_1) fun a hF => ?_
  refine ls_store 0 hF hH rfl rfl rfl rfl rfl fl26 ti26 rfl (by simp) (by simp [noFreeze]) (Sl.one hS) ?_
  intro w hH
  refine c_n ?_
  replace hF := hF.sel [1]
  simp only [ss, Nat.reduceBEq] at hF
  refine c_sr fun ops => ?_
  refine zm 1 hF rfl fun a hF => ?_
  refine zl hF rfl (r_len_str hF rfl rfl Tryz.underlying9) fun a hF => ?_
  refine zm 2 hF rfl fun a hF => ?_
  refine c_n ?_
  replace hF := hF.sel [4, 5]
  simp only [ss, Nat.reduceBEq] at hF
  refine wp_ret (hret (ret2 hF Tryz.results93 rfl rfl ?_))
  exact ⟨rfl, _, hH, _, _, _, rfl, .inr rfl, by rw [bytV_append, List.length_append]; exact hS⟩

theorem string_spec {w00 w0 : World} {b : Nat} {BB H : List (Nat × Obj)} {l : List UInt8} (hH : Hp w00 w0 (BB ++ H)) (hb : Bld b BB l) :
    Rets Tryz.prog 94 [.pointer (some ⟨b, 0, none⟩)] w0 fun v w' => v = .string (mk l) ∧ Ext w00 w' := by
  obtain ⟨ad, sv, B, rfl, had, hS⟩ := hb
  have hH1 : Hp w00 w0 ((b, .cells #[.pointer ad, sv] 187 (0, 0)) :: (B ++ H)) := hH
  have hown := hH1.own _ (List.mem_cons_self ..)
  have hB : Lib.IsBuilder 187 5 w00.heap.size b (Lib.byteCells l) w0 := by
    have h1 : Lib.BuilderAt 187 5 w00.heap.size b (.pointer ad) (Lib.byteCells l) w0 := by
      refine ⟨hown.2, sv, hown.1, ?_, ?_⟩
      · have := hS.owns (hH1.drop) fun p hp => List.mem_append_left _ hp
        rw [Lib.byteCells_length]; exact this
      · rcases hS.2 with ⟨rfl, _⟩ | ⟨g, cap, cur, rfl, rfl, _⟩
        · simp [Value.ownBlock]
        · simp only [Value.ownBlock, ne_eq, Option.some.injEq]
          intro e
          have := List.nodup_cons.1 hH1.nodup
          exact this.1 (by simp [e])
    rcases had with rfl | rfl
    · exact .inl h1
    · exact .inr h1
  refine Calls.mono (Tryz.Builder_String_any w00.heap.size b l w0 hB hH.below.size) ?_
  rintro e w' ⟨rfl, h2⟩
  exact ⟨_, rfl, rfl, Below.trans hH.below h2⟩
end Go.Proofs.YtpoebplhemimmaaGreatDoor
