/-
  From a walk to a row, where the row lists three variables. Nothing is claimed here.
-/
import Derived.Test.YtpoebplhemimmaaGreatDoorRow
import Derived.Test.YtpoebplhemimmaaGreatDoorWrite
import Derived.Lib.LaidTab
import Derived.LaidSub
import Derived.Deep.DeepLaidRun
namespace Go.Proofs.YtpoebplhemimmaaGreatDoor
open Go.ChangeShapes Go.WideShapes Go.ChangeAt Go.RowKit
set_option linter.unusedVariables false
set_option maxRecDepth 100000

theorem rowBits : Tryz.prog.globalNamed "hustings/head.bits" = some 0 := by kernel_rfl
theorem rowComp : Tryz.prog.globalNamed "hustings/rdata.compressed" = some 1 := by kernel_rfl
abbrev laidF : List (String × DataW Unit) := [("errors.errorType", Rows.laid_errors_errorType), ("hustings/head.bits", Rows.laid_hustings_head_bits), ("hustings/rdata.compressed", Rows.laid_hustings_rdata_compressed)]
theorem gx_of_laid {W : World} (h : laidMetH Tryz.prog laidF W) : GX W := by
  have h' : laidMet Tryz.prog [("hustings/head.bits", Rows.laid_hustings_head_bits), ("hustings/rdata.compressed", Rows.laid_hustings_rdata_compressed)] W ∧ handlesMet Tryz.prog laidE W := h
  have hb : Lib.TabIs Tryz.prog W "hustings/head.bits" .i64 [15, 10, 9, 8, 7, 6, 5, 4] := Lib.tabIs_of_head rowBits (t := 141) (e := 3) (n := 8) (by kernel_rfl) (by kernel_rfl) (by kernel_rfl) (by kernel_rfl) (by kernel_rfl) (rest := [("hustings/rdata.compressed", Rows.laid_hustings_rdata_compressed)]) h'.1
  have h2 : laidMet Tryz.prog [("hustings/rdata.compressed", Rows.laid_hustings_rdata_compressed)] W := h'.1.filter fun x => x.1 == "hustings/rdata.compressed"
  have hc : Lib.TabIs Tryz.prog W "hustings/rdata.compressed" .u16 [2, 5, 6, 12, 15] := Lib.tabIs_of_head rowComp (t := 193) (e := 28) (n := 5) (by kernel_rfl) (by kernel_rfl) (by kernel_rfl) (by kernel_rfl) (by kernel_rfl) (rest := []) h2
  refine ⟨gw_of_laid (show laidMetH Tryz.prog laidE W from ⟨?_, h'.2⟩), fun i k hk => ?_, fun i k hk => ?_⟩
  · exact h'.1.filter fun x => false
  · have hi : i < 8 := (List.getElem?_eq_some_iff.1 hk).1
    rw [hb.cell rowBits i hi]
    rcases (show i = 0 ∨ i = 1 ∨ i = 2 ∨ i = 3 ∨ i = 4 ∨ i = 5 ∨ i = 6 ∨ i = 7 by omega) with rfl | rfl | rfl | rfl | rfl | rfl | rfl | rfl <;> (obtain rfl := Option.some.inj hk; rfl)
  · have hi : i < 5 := (List.getElem?_eq_some_iff.1 hk).1
    rw [hc.cell rowComp i hi]
    rcases (show i = 0 ∨ i = 1 ∨ i = 2 ∨ i = 3 ∨ i = 4 by omega) with rfl | rfl | rfl | rfl | rfl <;> (obtain rfl := Option.some.inj hk; rfl)
def layC (cs : Array Value) : Obj → Obj
  | .cells _ t frozen => .cells cs t frozen
  | o => o
noncomputable def laidWorld7 (os : Os) : World :=
  { World.holding Tryz.prog os ⟨#[], #[], []⟩ with
    heap := (((World.holding Tryz.prog os ⟨#[], #[], []⟩).heap.modify 2 (layC #[.iface 213 (.agg #[.pointer (some ⟨3, 154, none⟩)])])).modify 0 (layC #[.int .i64 15, .int .i64 10, .int .i64 9, .int .i64 8, .int .i64 7, .int .i64 6, .int .i64 5, .int .i64 4])).modify 1 (layC #[.int .u16 2, .int .u16 5, .int .u16 6, .int .u16 12, .int .u16 15]) }
theorem laid_met7 (os : Os) (args : Array Value) : laidMetH Tryz.prog laidF ((laidWorld7 os).forCall (fun _ _ => 0) ⟨#[], args, []⟩).memory :=
  laidMetH_of_parts (laidMet_of_run3 8 (by kernel_rfl) (by kernel_rfl) (by kernel_rfl)) (by kernel_rfl)
end Go.Proofs.YtpoebplhemimmaaGreatDoor
