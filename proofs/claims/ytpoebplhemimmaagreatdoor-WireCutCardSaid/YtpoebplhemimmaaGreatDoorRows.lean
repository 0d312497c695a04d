/-
  NARROWER THAN 'FOR EVERY INPUT', by the rows' own cells (each row's printed sentence says how): WireNames: laid · WireBack: laid · WireWithin: laid · WireCut: laid · WireParts: laid.
  DERIVED. THE GIVEN ROWS OF THIS SEAT. 5 by the template 'for every input the law returns true; each argument reads behind the call as it read before'; 0 by the template 'total and deterministic' (their statements: YtpoebplhemimmaaGreatDoorTotals.lean).
  GIVEN WITH THE SEED: the statements are not yours to turn. If you find one false, say at which input.
  Laid BY PROGRAM, IN A SANDBOX (cutbox-rows.mjs): the forced cells as the released guide's own fill.sh prints them over the translation 089e9ef59baa6845… (all of the seat's roots in one cut). By AI agents, Wed Nov 11 2026. No macro, syntax, notation, axiom, sorry.
-/
import Derived.Test.YtpoebplhemimmaaGreatDoorChecked
import GoSem.Claim
import GoSem.ClaimJoined
import GoSem.ClaimMapViews
import Derived.JoinedTies
import Derived.KernelRfl
namespace Go.Proofs.YtpoebplhemimmaaGreatDoor
/- THE CELL 'sum', in the pinned program and in every row, IS THE sha256 OF THE DUMP (.gsa) THAT YtpoebplhemimmaaGreatDoorProg.lean LOADS. Nothing in Lean hashes anything: it is a label: what it is worth is what the hold of that sum in a sandbox is worth. -/
noncomputable def Tryz.pinned : Pinned := { name := "ytpoebplhemimmaagreatdoor", sum := "089e9ef59baa6845edd3b950ac113c64d17ece61db22edef0842d71d67770199", checked := Tryz.checked }
namespace Rows
def none {H : Type} : Left H := { results := [], args := [] }

/- WHAT THE LISTED PACKAGE-LEVEL VARIABLES READ AS WHEN THE CALL BEGINS. Each datum BY PROGRAM (the guide's laid-datum.mjs) off the statement by which the dump's own 'gosem.cut.vars' lays the variable. In a bare row this is a premise. The card (YtpoebplhemimmaaGreatDoorCards.lean) ties it to the program's text. -/
def laid_errors_errorType {H : Type} : DataW H := .iface "internal/reflectlite.rtype" (.agg [.ptr (.lit (.string [101, 114, 114, 111, 114]))])
def laid_hustings_head_bits {H : Type} : DataW H := .agg [.lit (.int .i64 15), .lit (.int .i64 10), .lit (.int .i64 9), .lit (.int .i64 8), .lit (.int .i64 7), .lit (.int .i64 6), .lit (.int .i64 5), .lit (.int .i64 4)]
def laid_hustings_rdata_compressed {H : Type} : DataW H := .agg [.lit (.int .u16 2), .lit (.int .u16 5), .lit (.int .u16 6), .lit (.int .u16 12), .lit (.int .u16 15)]

/-- 'hustingslaw07.WireNames': WHATEVER THE INPUT: true; the input reads as it did. -/
def wireNamesSpec : ChangeSpec := { name := "wireNames", fn := fun _ => fun
  | [] => { results := [.lit (.bool true)], args := [] }
  | _ => none }
def wireNamesRow : OpenClaim := { program := "ytpoebplhemimmaagreatdoor", sum := "089e9ef59baa6845edd3b950ac113c64d17ece61db22edef0842d71d67770199", func := "hustings/hustingslaw07.WireNames", spec := "wireNames", inPlace := ["internal/reflectlite.ValueOf", "(internal/reflectlite.Value).Type", "(internal/reflectlite.Value).IsNil", "internal/reflectlite.TypeOf", "(internal/reflectlite.Value).Elem", "(internal/reflectlite.Value).Set", "internal/abi.NoEscape"], unfollowed := true, recurses := true, named := ["hustings/head.bits", "errors.errorType", "hustings/rdata.compressed"], apart := false, laid := [("errors.errorType", laid_errors_errorType), ("hustings/head.bits", laid_hustings_head_bits), ("hustings/rdata.compressed", laid_hustings_rdata_compressed)] }
def WireNamesSaid : Prop := wireNamesRow.holds Tryz.pinned (OpenSpec.ofChange wireNamesSpec)

/-- ITS FALSE NEIGHBOUR: 'it returns false'. Refute it at one input. -/
def wireNamesWrong : ChangeSpec := { name := "wireNames", fn := fun _ => fun
  | [] => { results := [.lit (.bool false)], args := [] }
  | _ => none }
def WireNamesWrongFalsely : Prop := wireNamesRow.holds Tryz.pinned (OpenSpec.ofChange wireNamesWrong)

/-- 'hustingslaw07.WireBack': WHATEVER THE INPUT: true; the input reads as it did. -/
def wireBackSpec : ChangeSpec := { name := "wireBack", fn := fun _ => fun
  | [d1, d2] => { results := [.lit (.bool true)], args := [d1, d2] }
  | _ => none }
def wireBackRow : OpenClaim := { program := "ytpoebplhemimmaagreatdoor", sum := "089e9ef59baa6845edd3b950ac113c64d17ece61db22edef0842d71d67770199", func := "hustings/hustingslaw07.WireBack", spec := "wireBack", inPlace := ["internal/reflectlite.ValueOf", "(internal/reflectlite.Value).Type", "(internal/reflectlite.Value).IsNil", "internal/reflectlite.TypeOf", "(internal/reflectlite.Value).Elem", "(internal/reflectlite.Value).Set", "internal/abi.NoEscape"], unfollowed := true, recurses := true, named := ["hustings/head.bits", "errors.errorType", "hustings/rdata.compressed"], apart := false, laid := [("errors.errorType", laid_errors_errorType), ("hustings/head.bits", laid_hustings_head_bits), ("hustings/rdata.compressed", laid_hustings_rdata_compressed)] }
def WireBackSaid : Prop := wireBackRow.holds Tryz.pinned (OpenSpec.ofChange wireBackSpec)

/-- ITS FALSE NEIGHBOUR: 'it returns false'. Refute it at one input. -/
def wireBackWrong : ChangeSpec := { name := "wireBack", fn := fun _ => fun
  | [d1, d2] => { results := [.lit (.bool false)], args := [d1, d2] }
  | _ => none }
def WireBackWrongFalsely : Prop := wireBackRow.holds Tryz.pinned (OpenSpec.ofChange wireBackWrong)

/-- 'hustingslaw07.WireWithin': WHATEVER THE INPUT: true; the input reads as it did. -/
def wireWithinSpec : ChangeSpec := { name := "wireWithin", fn := fun _ => fun
  | [d] => { results := [.lit (.bool true)], args := [d] }
  | _ => none }
def wireWithinRow : OpenClaim := { program := "ytpoebplhemimmaagreatdoor", sum := "089e9ef59baa6845edd3b950ac113c64d17ece61db22edef0842d71d67770199", func := "hustings/hustingslaw07.WireWithin", spec := "wireWithin", inPlace := ["internal/reflectlite.ValueOf", "(internal/reflectlite.Value).Type", "(internal/reflectlite.Value).IsNil", "internal/reflectlite.TypeOf", "(internal/reflectlite.Value).Elem", "(internal/reflectlite.Value).Set", "internal/abi.NoEscape"], unfollowed := true, recurses := true, named := ["hustings/head.bits", "errors.errorType", "hustings/rdata.compressed"], apart := false, laid := [("errors.errorType", laid_errors_errorType), ("hustings/head.bits", laid_hustings_head_bits), ("hustings/rdata.compressed", laid_hustings_rdata_compressed)] }
def WireWithinSaid : Prop := wireWithinRow.holds Tryz.pinned (OpenSpec.ofChange wireWithinSpec)

/-- ITS FALSE NEIGHBOUR: 'it returns false'. Refute it at one input. -/
def wireWithinWrong : ChangeSpec := { name := "wireWithin", fn := fun _ => fun
  | [d] => { results := [.lit (.bool false)], args := [d] }
  | _ => none }
def WireWithinWrongFalsely : Prop := wireWithinRow.holds Tryz.pinned (OpenSpec.ofChange wireWithinWrong)

/-- 'hustingslaw07.WireCut': WHATEVER THE INPUT: true; the input reads as it did. -/
def wireCutSpec : ChangeSpec := { name := "wireCut", fn := fun _ => fun
  | [d1, d2, d3] => { results := [.lit (.bool true)], args := [d1, d2, d3] }
  | _ => none }
def wireCutRow : OpenClaim := { program := "ytpoebplhemimmaagreatdoor", sum := "089e9ef59baa6845edd3b950ac113c64d17ece61db22edef0842d71d67770199", func := "hustings/hustingslaw07.WireCut", spec := "wireCut", inPlace := ["internal/reflectlite.ValueOf", "(internal/reflectlite.Value).Type", "(internal/reflectlite.Value).IsNil", "internal/reflectlite.TypeOf", "(internal/reflectlite.Value).Elem", "(internal/reflectlite.Value).Set", "internal/abi.NoEscape"], unfollowed := true, recurses := true, named := ["hustings/head.bits", "errors.errorType", "hustings/rdata.compressed"], apart := false, laid := [("errors.errorType", laid_errors_errorType), ("hustings/head.bits", laid_hustings_head_bits), ("hustings/rdata.compressed", laid_hustings_rdata_compressed)] }
def WireCutSaid : Prop := wireCutRow.holds Tryz.pinned (OpenSpec.ofChange wireCutSpec)

/-- ITS FALSE NEIGHBOUR: 'it returns false'. Refute it at one input. -/
def wireCutWrong : ChangeSpec := { name := "wireCut", fn := fun _ => fun
  | [d1, d2, d3] => { results := [.lit (.bool false)], args := [d1, d2, d3] }
  | _ => none }
def WireCutWrongFalsely : Prop := wireCutRow.holds Tryz.pinned (OpenSpec.ofChange wireCutWrong)

/-- 'hustingslaw07.WireParts': WHATEVER THE INPUT: true; the input reads as it did. -/
def wirePartsSpec : ChangeSpec := { name := "wireParts", fn := fun _ => fun
  | [d1, d2] => { results := [.lit (.bool true)], args := [d1, d2] }
  | _ => none }
def wirePartsRow : OpenClaim := { program := "ytpoebplhemimmaagreatdoor", sum := "089e9ef59baa6845edd3b950ac113c64d17ece61db22edef0842d71d67770199", func := "hustings/hustingslaw07.WireParts", spec := "wireParts", inPlace := ["internal/reflectlite.ValueOf", "(internal/reflectlite.Value).Type", "(internal/reflectlite.Value).IsNil", "internal/reflectlite.TypeOf", "(internal/reflectlite.Value).Elem", "(internal/reflectlite.Value).Set", "internal/abi.NoEscape"], unfollowed := true, recurses := true, named := ["hustings/head.bits", "errors.errorType", "hustings/rdata.compressed"], apart := false, laid := [("errors.errorType", laid_errors_errorType), ("hustings/head.bits", laid_hustings_head_bits), ("hustings/rdata.compressed", laid_hustings_rdata_compressed)] }
def WirePartsSaid : Prop := wirePartsRow.holds Tryz.pinned (OpenSpec.ofChange wirePartsSpec)

/-- ITS FALSE NEIGHBOUR: 'it returns false'. Refute it at one input. -/
def wirePartsWrong : ChangeSpec := { name := "wireParts", fn := fun _ => fun
  | [d1, d2] => { results := [.lit (.bool false)], args := [d1, d2] }
  | _ => none }
def WirePartsWrongFalsely : Prop := wirePartsRow.holds Tryz.pinned (OpenSpec.ofChange wirePartsWrong)

/- THE SECOND FORM. 'bulk': how many values and letters a reading holds, each counted each time it is reached (what is shared counts as often as it is met; a slice's spare places count too). A statement '..UptoSaid' is the law's where the arguments, and the package variables that the reading takes, are together of bulk at most 1048576: NARROWER than '..Said'. Prove '..Said' where nothing that the law and all that it calls make is longer than what came in: it says more and counts as full. Else prove '..UptoSaid'. A law counts once. -/
mutual
def uptoBulk {H : Type} : DataW H → Nat
  | .lit (.string bytes) => bytes.length + 1
  | .lit _ => 1
  | .nil => 1
  | .ptr d => uptoBulk d + 1
  | .slice elems spare => uptoBulkAll elems + uptoBulkAll spare + 1
  | .agg parts => uptoBulkAll parts + 1
  | .iface _ d => uptoBulk d + 1
  | .map entries => uptoBulkEntries entries + 1
  | .held _ => 1
def uptoBulkAll {H : Type} : List (DataW H) → Nat
  | [] => 0
  | d :: r => uptoBulk d + uptoBulkAll r
def uptoBulkEntries {H : Type} : List (Lit × DataW H) → Nat
  | [] => 0
  | x :: r => uptoBulkEntry x + uptoBulkEntries r
def uptoBulkEntry {H : Type} : Lit × DataW H → Nat
  | (.string bytes, d) => bytes.length + uptoBulk d + 1
  | (_, d) => uptoBulk d + 1
 end
def uptoSmall : (H : Type) → List (DataW H) → Bool := fun _ ds => decide (uptoBulkAll ds ≤ 1048576)
def OpenSpec.upto (s : _root_.Go.ChangeSpec) : _root_.Go.OpenSpec := { _root_.Go.OpenSpec.ofChange s with cond := some uptoSmall }

/-- 'hustingslaw07.WireNames', WHERE WHAT IT READS IS OF BULK AT MOST 1048576: true; the input reads as it did. -/
def wireNamesUptoRow : OpenClaim := { program := "ytpoebplhemimmaagreatdoor", sum := "089e9ef59baa6845edd3b950ac113c64d17ece61db22edef0842d71d67770199", func := "hustings/hustingslaw07.WireNames", spec := "wireNames", inPlace := ["internal/reflectlite.ValueOf", "(internal/reflectlite.Value).Type", "(internal/reflectlite.Value).IsNil", "internal/reflectlite.TypeOf", "(internal/reflectlite.Value).Elem", "(internal/reflectlite.Value).Set", "internal/abi.NoEscape"], unfollowed := true, recurses := true, named := ["hustings/head.bits", "errors.errorType", "hustings/rdata.compressed"], apart := false, laid := [("errors.errorType", laid_errors_errorType), ("hustings/head.bits", laid_hustings_head_bits), ("hustings/rdata.compressed", laid_hustings_rdata_compressed)], narrowed := true }
def WireNamesUptoSaid : Prop := wireNamesUptoRow.holds Tryz.pinned (OpenSpec.upto wireNamesSpec)

/-- 'hustingslaw07.WireBack', WHERE WHAT IT READS IS OF BULK AT MOST 1048576: true; the input reads as it did. -/
def wireBackUptoRow : OpenClaim := { program := "ytpoebplhemimmaagreatdoor", sum := "089e9ef59baa6845edd3b950ac113c64d17ece61db22edef0842d71d67770199", func := "hustings/hustingslaw07.WireBack", spec := "wireBack", inPlace := ["internal/reflectlite.ValueOf", "(internal/reflectlite.Value).Type", "(internal/reflectlite.Value).IsNil", "internal/reflectlite.TypeOf", "(internal/reflectlite.Value).Elem", "(internal/reflectlite.Value).Set", "internal/abi.NoEscape"], unfollowed := true, recurses := true, named := ["hustings/head.bits", "errors.errorType", "hustings/rdata.compressed"], apart := false, laid := [("errors.errorType", laid_errors_errorType), ("hustings/head.bits", laid_hustings_head_bits), ("hustings/rdata.compressed", laid_hustings_rdata_compressed)], narrowed := true }
def WireBackUptoSaid : Prop := wireBackUptoRow.holds Tryz.pinned (OpenSpec.upto wireBackSpec)

/-- 'hustingslaw07.WireWithin', WHERE WHAT IT READS IS OF BULK AT MOST 1048576: true; the input reads as it did. -/
def wireWithinUptoRow : OpenClaim := { program := "ytpoebplhemimmaagreatdoor", sum := "089e9ef59baa6845edd3b950ac113c64d17ece61db22edef0842d71d67770199", func := "hustings/hustingslaw07.WireWithin", spec := "wireWithin", inPlace := ["internal/reflectlite.ValueOf", "(internal/reflectlite.Value).Type", "(internal/reflectlite.Value).IsNil", "internal/reflectlite.TypeOf", "(internal/reflectlite.Value).Elem", "(internal/reflectlite.Value).Set", "internal/abi.NoEscape"], unfollowed := true, recurses := true, named := ["hustings/head.bits", "errors.errorType", "hustings/rdata.compressed"], apart := false, laid := [("errors.errorType", laid_errors_errorType), ("hustings/head.bits", laid_hustings_head_bits), ("hustings/rdata.compressed", laid_hustings_rdata_compressed)], narrowed := true }
def WireWithinUptoSaid : Prop := wireWithinUptoRow.holds Tryz.pinned (OpenSpec.upto wireWithinSpec)

/-- 'hustingslaw07.WireCut', WHERE WHAT IT READS IS OF BULK AT MOST 1048576: true; the input reads as it did. -/
def wireCutUptoRow : OpenClaim := { program := "ytpoebplhemimmaagreatdoor", sum := "089e9ef59baa6845edd3b950ac113c64d17ece61db22edef0842d71d67770199", func := "hustings/hustingslaw07.WireCut", spec := "wireCut", inPlace := ["internal/reflectlite.ValueOf", "(internal/reflectlite.Value).Type", "(internal/reflectlite.Value).IsNil", "internal/reflectlite.TypeOf", "(internal/reflectlite.Value).Elem", "(internal/reflectlite.Value).Set", "internal/abi.NoEscape"], unfollowed := true, recurses := true, named := ["hustings/head.bits", "errors.errorType", "hustings/rdata.compressed"], apart := false, laid := [("errors.errorType", laid_errors_errorType), ("hustings/head.bits", laid_hustings_head_bits), ("hustings/rdata.compressed", laid_hustings_rdata_compressed)], narrowed := true }
def WireCutUptoSaid : Prop := wireCutUptoRow.holds Tryz.pinned (OpenSpec.upto wireCutSpec)

/-- 'hustingslaw07.WireParts', WHERE WHAT IT READS IS OF BULK AT MOST 1048576: true; the input reads as it did. -/
def wirePartsUptoRow : OpenClaim := { program := "ytpoebplhemimmaagreatdoor", sum := "089e9ef59baa6845edd3b950ac113c64d17ece61db22edef0842d71d67770199", func := "hustings/hustingslaw07.WireParts", spec := "wireParts", inPlace := ["internal/reflectlite.ValueOf", "(internal/reflectlite.Value).Type", "(internal/reflectlite.Value).IsNil", "internal/reflectlite.TypeOf", "(internal/reflectlite.Value).Elem", "(internal/reflectlite.Value).Set", "internal/abi.NoEscape"], unfollowed := true, recurses := true, named := ["hustings/head.bits", "errors.errorType", "hustings/rdata.compressed"], apart := false, laid := [("errors.errorType", laid_errors_errorType), ("hustings/head.bits", laid_hustings_head_bits), ("hustings/rdata.compressed", laid_hustings_rdata_compressed)], narrowed := true }
def WirePartsUptoSaid : Prop := wirePartsUptoRow.holds Tryz.pinned (OpenSpec.upto wirePartsSpec)

end Rows
end Go.Proofs.YtpoebplhemimmaaGreatDoor
