/-
  NARROWER THAN 'FOR EVERY INPUT', by the rows' own cells (each row's printed sentence says how): ChainNames: laid · ChainFollows: laid · RrsetRows: laid · RrsetRise: laid · RrsetLeast: laid · RrsetNames: laid · RrsetBack: laid.
  DERIVED. THE GIVEN ROWS OF THIS SEAT. 7 by the template 'for every input the law returns true; each argument reads behind the call as it read before'; 0 by the template 'total and deterministic' (their statements: YtcelgjabccgnmaaDoorTotals.lean).
  GIVEN WITH THE SEED: the statements are not yours to turn. If you find one false, say at which input.
  Laid BY PROGRAM, IN A SANDBOX (cutbox-rows.mjs): the forced cells as the released guide's own fill.sh prints them over the translation 7d81458c874fac21… (all of the seat's roots in one cut). By AI agents, Wed Nov 11 2026. No macro, syntax, notation, axiom, sorry.
-/
import Derived.Test.YtcelgjabccgnmaaDoorChecked
import GoSem.Claim
import GoSem.ClaimJoined
import GoSem.ClaimMapViews
import Derived.JoinedTies
import Derived.KernelRfl
namespace Go.Proofs.YtcelgjabccgnmaaDoor
/- THE CELL 'sum', in the pinned program and in every row, IS THE sha256 OF THE DUMP (.gsa) THAT YtcelgjabccgnmaaDoorProg.lean LOADS. Nothing in Lean hashes anything: it is a label: what it is worth is what the hold of that sum in a sandbox is worth. -/
noncomputable def Tryd.pinned : Pinned := { name := "ytcelgjabccgnmaadoor", sum := "7d81458c874fac21b9e78b208e041e0ece0cb81ca7252fd7c0340e573007b762", checked := Tryd.checked }
namespace Rows
def none {H : Type} : Left H := { results := [], args := [] }

/- WHAT THE LISTED PACKAGE-LEVEL VARIABLES READ AS WHEN THE CALL BEGINS. Each datum BY PROGRAM (the guide's laid-datum.mjs) off the statement by which the dump's own 'gosem.cut.vars' lays the variable. In a bare row this is a premise. The card (YtcelgjabccgnmaaDoorCards.lean) ties it to the program's text. -/
def laid_errors_errorType {H : Type} : DataW H := .iface "internal/reflectlite.rtype" (.agg [.ptr (.lit (.string [101, 114, 114, 111, 114]))])

/-- 'hustingslaw09.ChainNames': WHATEVER THE INPUT: true; the input reads as it did. -/
def chainNamesSpec : ChangeSpec := { name := "chainNames", fn := fun _ => fun
  | [] => { results := [.lit (.bool true)], args := [] }
  | _ => none }
def chainNamesRow : OpenClaim := { program := "ytcelgjabccgnmaadoor", sum := "7d81458c874fac21b9e78b208e041e0ece0cb81ca7252fd7c0340e573007b762", func := "hustings/hustingslaw09.ChainNames", spec := "chainNames", inPlace := ["internal/abi.NoEscape", "internal/reflectlite.ValueOf", "(internal/reflectlite.Value).Type", "(internal/reflectlite.Value).IsNil", "internal/reflectlite.TypeOf", "(internal/reflectlite.Value).Elem", "(internal/reflectlite.Value).Set"], unfollowed := true, recurses := true, named := ["errors.errorType"], apart := false, laid := [("errors.errorType", laid_errors_errorType)] }
def ChainNamesSaid : Prop := chainNamesRow.holds Tryd.pinned (OpenSpec.ofChange chainNamesSpec)

/-- ITS FALSE NEIGHBOUR: 'it returns false'. Refute it at one input. -/
def chainNamesWrong : ChangeSpec := { name := "chainNames", fn := fun _ => fun
  | [] => { results := [.lit (.bool false)], args := [] }
  | _ => none }
def ChainNamesWrongFalsely : Prop := chainNamesRow.holds Tryd.pinned (OpenSpec.ofChange chainNamesWrong)

/-- 'hustingslaw09.ChainFollows': WHATEVER THE INPUT: true; the input reads as it did. -/
def chainFollowsSpec : ChangeSpec := { name := "chainFollows", fn := fun _ => fun
  | [d1, d2] => { results := [.lit (.bool true)], args := [d1, d2] }
  | _ => none }
def chainFollowsRow : OpenClaim := { program := "ytcelgjabccgnmaadoor", sum := "7d81458c874fac21b9e78b208e041e0ece0cb81ca7252fd7c0340e573007b762", func := "hustings/hustingslaw09.ChainFollows", spec := "chainFollows", inPlace := ["internal/abi.NoEscape", "internal/reflectlite.ValueOf", "(internal/reflectlite.Value).Type", "(internal/reflectlite.Value).IsNil", "internal/reflectlite.TypeOf", "(internal/reflectlite.Value).Elem", "(internal/reflectlite.Value).Set"], unfollowed := true, recurses := true, named := ["errors.errorType"], apart := false, laid := [("errors.errorType", laid_errors_errorType)] }
def ChainFollowsSaid : Prop := chainFollowsRow.holds Tryd.pinned (OpenSpec.ofChange chainFollowsSpec)

/-- ITS FALSE NEIGHBOUR: 'it returns false'. Refute it at one input. -/
def chainFollowsWrong : ChangeSpec := { name := "chainFollows", fn := fun _ => fun
  | [d1, d2] => { results := [.lit (.bool false)], args := [d1, d2] }
  | _ => none }
def ChainFollowsWrongFalsely : Prop := chainFollowsRow.holds Tryd.pinned (OpenSpec.ofChange chainFollowsWrong)

/-- 'hustingslaw08.RrsetRows': WHATEVER THE INPUT: true; the input reads as it did. -/
def rrsetRowsSpec : ChangeSpec := { name := "rrsetRows", fn := fun _ => fun
  | [d1, d2, d3] => { results := [.lit (.bool true)], args := [d1, d2, d3] }
  | _ => none }
def rrsetRowsRow : OpenClaim := { program := "ytcelgjabccgnmaadoor", sum := "7d81458c874fac21b9e78b208e041e0ece0cb81ca7252fd7c0340e573007b762", func := "hustings/hustingslaw08.RrsetRows", spec := "rrsetRows", inPlace := ["internal/reflectlite.ValueOf", "(internal/reflectlite.Value).Type", "(internal/reflectlite.Value).IsNil", "internal/reflectlite.TypeOf", "(internal/reflectlite.Value).Elem", "(internal/reflectlite.Value).Set", "internal/abi.NoEscape", "slices.overlaps[hustings/api.Set]", "slices.overlaps[string]"], unfollowed := true, recurses := true, named := ["errors.errorType"], apart := false, laid := [("errors.errorType", laid_errors_errorType)] }
def RrsetRowsSaid : Prop := rrsetRowsRow.holds Tryd.pinned (OpenSpec.ofChange rrsetRowsSpec)

/-- ITS FALSE NEIGHBOUR: 'it returns false'. Refute it at one input. -/
def rrsetRowsWrong : ChangeSpec := { name := "rrsetRows", fn := fun _ => fun
  | [d1, d2, d3] => { results := [.lit (.bool false)], args := [d1, d2, d3] }
  | _ => none }
def RrsetRowsWrongFalsely : Prop := rrsetRowsRow.holds Tryd.pinned (OpenSpec.ofChange rrsetRowsWrong)

/-- 'hustingslaw08.RrsetRise': WHATEVER THE INPUT: true; the input reads as it did. -/
def rrsetRiseSpec : ChangeSpec := { name := "rrsetRise", fn := fun _ => fun
  | [d] => { results := [.lit (.bool true)], args := [d] }
  | _ => none }
def rrsetRiseRow : OpenClaim := { program := "ytcelgjabccgnmaadoor", sum := "7d81458c874fac21b9e78b208e041e0ece0cb81ca7252fd7c0340e573007b762", func := "hustings/hustingslaw08.RrsetRise", spec := "rrsetRise", inPlace := ["internal/reflectlite.ValueOf", "(internal/reflectlite.Value).Type", "(internal/reflectlite.Value).IsNil", "internal/reflectlite.TypeOf", "(internal/reflectlite.Value).Elem", "(internal/reflectlite.Value).Set", "internal/abi.NoEscape", "slices.overlaps[hustings/api.Set]", "slices.overlaps[string]"], unfollowed := true, recurses := true, named := ["errors.errorType"], apart := false, laid := [("errors.errorType", laid_errors_errorType)] }
def RrsetRiseSaid : Prop := rrsetRiseRow.holds Tryd.pinned (OpenSpec.ofChange rrsetRiseSpec)

/-- ITS FALSE NEIGHBOUR: 'it returns false'. Refute it at one input. -/
def rrsetRiseWrong : ChangeSpec := { name := "rrsetRise", fn := fun _ => fun
  | [d] => { results := [.lit (.bool false)], args := [d] }
  | _ => none }
def RrsetRiseWrongFalsely : Prop := rrsetRiseRow.holds Tryd.pinned (OpenSpec.ofChange rrsetRiseWrong)

/-- 'hustingslaw08.RrsetLeast': WHATEVER THE INPUT: true; the input reads as it did. -/
def rrsetLeastSpec : ChangeSpec := { name := "rrsetLeast", fn := fun _ => fun
  | [d1, d2, d3] => { results := [.lit (.bool true)], args := [d1, d2, d3] }
  | _ => none }
def rrsetLeastRow : OpenClaim := { program := "ytcelgjabccgnmaadoor", sum := "7d81458c874fac21b9e78b208e041e0ece0cb81ca7252fd7c0340e573007b762", func := "hustings/hustingslaw08.RrsetLeast", spec := "rrsetLeast", inPlace := ["internal/reflectlite.ValueOf", "(internal/reflectlite.Value).Type", "(internal/reflectlite.Value).IsNil", "internal/reflectlite.TypeOf", "(internal/reflectlite.Value).Elem", "(internal/reflectlite.Value).Set", "internal/abi.NoEscape", "slices.overlaps[hustings/api.Set]", "slices.overlaps[string]"], unfollowed := true, recurses := true, named := ["errors.errorType"], apart := false, laid := [("errors.errorType", laid_errors_errorType)] }
def RrsetLeastSaid : Prop := rrsetLeastRow.holds Tryd.pinned (OpenSpec.ofChange rrsetLeastSpec)

/-- ITS FALSE NEIGHBOUR: 'it returns false'. Refute it at one input. -/
def rrsetLeastWrong : ChangeSpec := { name := "rrsetLeast", fn := fun _ => fun
  | [d1, d2, d3] => { results := [.lit (.bool false)], args := [d1, d2, d3] }
  | _ => none }
def RrsetLeastWrongFalsely : Prop := rrsetLeastRow.holds Tryd.pinned (OpenSpec.ofChange rrsetLeastWrong)

/-- 'hustingslaw08.RrsetNames': WHATEVER THE INPUT: true; the input reads as it did. -/
def rrsetNamesSpec : ChangeSpec := { name := "rrsetNames", fn := fun _ => fun
  | [] => { results := [.lit (.bool true)], args := [] }
  | _ => none }
def rrsetNamesRow : OpenClaim := { program := "ytcelgjabccgnmaadoor", sum := "7d81458c874fac21b9e78b208e041e0ece0cb81ca7252fd7c0340e573007b762", func := "hustings/hustingslaw08.RrsetNames", spec := "rrsetNames", inPlace := ["internal/reflectlite.ValueOf", "(internal/reflectlite.Value).Type", "(internal/reflectlite.Value).IsNil", "internal/reflectlite.TypeOf", "(internal/reflectlite.Value).Elem", "(internal/reflectlite.Value).Set", "internal/abi.NoEscape", "slices.overlaps[hustings/api.Set]", "slices.overlaps[string]"], unfollowed := true, recurses := true, named := ["errors.errorType"], apart := false, laid := [("errors.errorType", laid_errors_errorType)] }
def RrsetNamesSaid : Prop := rrsetNamesRow.holds Tryd.pinned (OpenSpec.ofChange rrsetNamesSpec)

/-- ITS FALSE NEIGHBOUR: 'it returns false'. Refute it at one input. -/
def rrsetNamesWrong : ChangeSpec := { name := "rrsetNames", fn := fun _ => fun
  | [] => { results := [.lit (.bool false)], args := [] }
  | _ => none }
def RrsetNamesWrongFalsely : Prop := rrsetNamesRow.holds Tryd.pinned (OpenSpec.ofChange rrsetNamesWrong)

/-- 'hustingslaw08.RrsetBack': WHATEVER THE INPUT: true; the input reads as it did. -/
def rrsetBackSpec : ChangeSpec := { name := "rrsetBack", fn := fun _ => fun
  | [d] => { results := [.lit (.bool true)], args := [d] }
  | _ => none }
def rrsetBackRow : OpenClaim := { program := "ytcelgjabccgnmaadoor", sum := "7d81458c874fac21b9e78b208e041e0ece0cb81ca7252fd7c0340e573007b762", func := "hustings/hustingslaw08.RrsetBack", spec := "rrsetBack", inPlace := ["internal/reflectlite.ValueOf", "(internal/reflectlite.Value).Type", "(internal/reflectlite.Value).IsNil", "internal/reflectlite.TypeOf", "(internal/reflectlite.Value).Elem", "(internal/reflectlite.Value).Set", "internal/abi.NoEscape", "slices.overlaps[hustings/api.Set]", "slices.overlaps[string]"], unfollowed := true, recurses := true, named := ["errors.errorType"], apart := false, laid := [("errors.errorType", laid_errors_errorType)] }
def RrsetBackSaid : Prop := rrsetBackRow.holds Tryd.pinned (OpenSpec.ofChange rrsetBackSpec)

/-- ITS FALSE NEIGHBOUR: 'it returns false'. Refute it at one input. -/
def rrsetBackWrong : ChangeSpec := { name := "rrsetBack", fn := fun _ => fun
  | [d] => { results := [.lit (.bool false)], args := [d] }
  | _ => none }
def RrsetBackWrongFalsely : Prop := rrsetBackRow.holds Tryd.pinned (OpenSpec.ofChange rrsetBackWrong)

/- THE SECOND FORM. 'bulk': how many values and letters a reading holds, each counted each time it is reached (what is shared counts as often as it is met; a slice's spare places count too). A statement '..UptoSaid' is the law's where the arguments, and the package variables that the reading takes, are together of bulk at most 1048576: NARROWER than '..Said'. Prove '..Said' where nothing that the law and all that it calls make is longer than what came in: it says more and counts as full. Else prove '..UptoSaid'. A law counts once. -/
mutual
def uptoBulk {H : Type} : DataW H → Nat
  | .lit (.string bytes) => bytes.length + 1
  | .lit _ => 1
  | .nil => 1
  | .ptr d => uptoBulk d + 1
  | .slice elems spare => uptoBulkAll elems + uptoBulkAll spare + 1
  | .agg parts => uptoBulkAll parts + 1
  | .iface _ d => uptoBulk d + 1
  | .map entries => uptoBulkEntries entries + 1
  | .held _ => 1
def uptoBulkAll {H : Type} : List (DataW H) → Nat
  | [] => 0
  | d :: r => uptoBulk d + uptoBulkAll r
def uptoBulkEntries {H : Type} : List (Lit × DataW H) → Nat
  | [] => 0
  | x :: r => uptoBulkEntry x + uptoBulkEntries r
def uptoBulkEntry {H : Type} : Lit × DataW H → Nat
  | (.string bytes, d) => bytes.length + uptoBulk d + 1
  | (_, d) => uptoBulk d + 1
 end
def uptoSmall : (H : Type) → List (DataW H) → Bool := fun _ ds => decide (uptoBulkAll ds ≤ 1048576)
def OpenSpec.upto (s : _root_.Go.ChangeSpec) : _root_.Go.OpenSpec := { _root_.Go.OpenSpec.ofChange s with cond := some uptoSmall }

/-- 'hustingslaw09.ChainNames', WHERE WHAT IT READS IS OF BULK AT MOST 1048576: true; the input reads as it did. -/
def chainNamesUptoRow : OpenClaim := { program := "ytcelgjabccgnmaadoor", sum := "7d81458c874fac21b9e78b208e041e0ece0cb81ca7252fd7c0340e573007b762", func := "hustings/hustingslaw09.ChainNames", spec := "chainNames", inPlace := ["internal/abi.NoEscape", "internal/reflectlite.ValueOf", "(internal/reflectlite.Value).Type", "(internal/reflectlite.Value).IsNil", "internal/reflectlite.TypeOf", "(internal/reflectlite.Value).Elem", "(internal/reflectlite.Value).Set"], unfollowed := true, recurses := true, named := ["errors.errorType"], apart := false, laid := [("errors.errorType", laid_errors_errorType)], narrowed := true }
def ChainNamesUptoSaid : Prop := chainNamesUptoRow.holds Tryd.pinned (OpenSpec.upto chainNamesSpec)

/-- 'hustingslaw09.ChainFollows', WHERE WHAT IT READS IS OF BULK AT MOST 1048576: true; the input reads as it did. -/
def chainFollowsUptoRow : OpenClaim := { program := "ytcelgjabccgnmaadoor", sum := "7d81458c874fac21b9e78b208e041e0ece0cb81ca7252fd7c0340e573007b762", func := "hustings/hustingslaw09.ChainFollows", spec := "chainFollows", inPlace := ["internal/abi.NoEscape", "internal/reflectlite.ValueOf", "(internal/reflectlite.Value).Type", "(internal/reflectlite.Value).IsNil", "internal/reflectlite.TypeOf", "(internal/reflectlite.Value).Elem", "(internal/reflectlite.Value).Set"], unfollowed := true, recurses := true, named := ["errors.errorType"], apart := false, laid := [("errors.errorType", laid_errors_errorType)], narrowed := true }
def ChainFollowsUptoSaid : Prop := chainFollowsUptoRow.holds Tryd.pinned (OpenSpec.upto chainFollowsSpec)

/-- 'hustingslaw08.RrsetRows', WHERE WHAT IT READS IS OF BULK AT MOST 1048576: true; the input reads as it did. -/
def rrsetRowsUptoRow : OpenClaim := { program := "ytcelgjabccgnmaadoor", sum := "7d81458c874fac21b9e78b208e041e0ece0cb81ca7252fd7c0340e573007b762", func := "hustings/hustingslaw08.RrsetRows", spec := "rrsetRows", inPlace := ["internal/reflectlite.ValueOf", "(internal/reflectlite.Value).Type", "(internal/reflectlite.Value).IsNil", "internal/reflectlite.TypeOf", "(internal/reflectlite.Value).Elem", "(internal/reflectlite.Value).Set", "internal/abi.NoEscape", "slices.overlaps[hustings/api.Set]", "slices.overlaps[string]"], unfollowed := true, recurses := true, named := ["errors.errorType"], apart := false, laid := [("errors.errorType", laid_errors_errorType)], narrowed := true }
def RrsetRowsUptoSaid : Prop := rrsetRowsUptoRow.holds Tryd.pinned (OpenSpec.upto rrsetRowsSpec)

/-- 'hustingslaw08.RrsetRise', WHERE WHAT IT READS IS OF BULK AT MOST 1048576: true; the input reads as it did. -/
def rrsetRiseUptoRow : OpenClaim := { program := "ytcelgjabccgnmaadoor", sum := "7d81458c874fac21b9e78b208e041e0ece0cb81ca7252fd7c0340e573007b762", func := "hustings/hustingslaw08.RrsetRise", spec := "rrsetRise", inPlace := ["internal/reflectlite.ValueOf", "(internal/reflectlite.Value).Type", "(internal/reflectlite.Value).IsNil", "internal/reflectlite.TypeOf", "(internal/reflectlite.Value).Elem", "(internal/reflectlite.Value).Set", "internal/abi.NoEscape", "slices.overlaps[hustings/api.Set]", "slices.overlaps[string]"], unfollowed := true, recurses := true, named := ["errors.errorType"], apart := false, laid := [("errors.errorType", laid_errors_errorType)], narrowed := true }
def RrsetRiseUptoSaid : Prop := rrsetRiseUptoRow.holds Tryd.pinned (OpenSpec.upto rrsetRiseSpec)

/-- 'hustingslaw08.RrsetLeast', WHERE WHAT IT READS IS OF BULK AT MOST 1048576: true; the input reads as it did. -/
def rrsetLeastUptoRow : OpenClaim := { program := "ytcelgjabccgnmaadoor", sum := "7d81458c874fac21b9e78b208e041e0ece0cb81ca7252fd7c0340e573007b762", func := "hustings/hustingslaw08.RrsetLeast", spec := "rrsetLeast", inPlace := ["internal/reflectlite.ValueOf", "(internal/reflectlite.Value).Type", "(internal/reflectlite.Value).IsNil", "internal/reflectlite.TypeOf", "(internal/reflectlite.Value).Elem", "(internal/reflectlite.Value).Set", "internal/abi.NoEscape", "slices.overlaps[hustings/api.Set]", "slices.overlaps[string]"], unfollowed := true, recurses := true, named := ["errors.errorType"], apart := false, laid := [("errors.errorType", laid_errors_errorType)], narrowed := true }
def RrsetLeastUptoSaid : Prop := rrsetLeastUptoRow.holds Tryd.pinned (OpenSpec.upto rrsetLeastSpec)

/-- 'hustingslaw08.RrsetNames', WHERE WHAT IT READS IS OF BULK AT MOST 1048576: true; the input reads as it did. -/
def rrsetNamesUptoRow : OpenClaim := { program := "ytcelgjabccgnmaadoor", sum := "7d81458c874fac21b9e78b208e041e0ece0cb81ca7252fd7c0340e573007b762", func := "hustings/hustingslaw08.RrsetNames", spec := "rrsetNames", inPlace := ["internal/reflectlite.ValueOf", "(internal/reflectlite.Value).Type", "(internal/reflectlite.Value).IsNil", "internal/reflectlite.TypeOf", "(internal/reflectlite.Value).Elem", "(internal/reflectlite.Value).Set", "internal/abi.NoEscape", "slices.overlaps[hustings/api.Set]", "slices.overlaps[string]"], unfollowed := true, recurses := true, named := ["errors.errorType"], apart := false, laid := [("errors.errorType", laid_errors_errorType)], narrowed := true }
def RrsetNamesUptoSaid : Prop := rrsetNamesUptoRow.holds Tryd.pinned (OpenSpec.upto rrsetNamesSpec)

/-- 'hustingslaw08.RrsetBack', WHERE WHAT IT READS IS OF BULK AT MOST 1048576: true; the input reads as it did. -/
def rrsetBackUptoRow : OpenClaim := { program := "ytcelgjabccgnmaadoor", sum := "7d81458c874fac21b9e78b208e041e0ece0cb81ca7252fd7c0340e573007b762", func := "hustings/hustingslaw08.RrsetBack", spec := "rrsetBack", inPlace := ["internal/reflectlite.ValueOf", "(internal/reflectlite.Value).Type", "(internal/reflectlite.Value).IsNil", "internal/reflectlite.TypeOf", "(internal/reflectlite.Value).Elem", "(internal/reflectlite.Value).Set", "internal/abi.NoEscape", "slices.overlaps[hustings/api.Set]", "slices.overlaps[string]"], unfollowed := true, recurses := true, named := ["errors.errorType"], apart := false, laid := [("errors.errorType", laid_errors_errorType)], narrowed := true }
def RrsetBackUptoSaid : Prop := rrsetBackUptoRow.holds Tryd.pinned (OpenSpec.upto rrsetBackSpec)

end Rows
end Go.Proofs.YtcelgjabccgnmaaDoor
