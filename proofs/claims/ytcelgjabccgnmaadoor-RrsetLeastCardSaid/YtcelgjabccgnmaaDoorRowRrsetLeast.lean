/-
  RrsetLeast: for all records, every place and TTL the law returns true, its arguments read as before; the row lists one variable of Go's library, errors.errorType, as the program's text lays it (the card ties it).
-/
import Derived.Test.YtcelgjabccgnmaaDoorRow
import Derived.Test.YtcelgjabccgnmaaDoorArgs
import Derived.Test.YtcelgjabccgnmaaDoorLaw8d
namespace Go.Proofs.YtcelgjabccgnmaaDoor.lawRrsetLeast
open Go.ChangeShapes Go.WideShapes Go.ChangeAt Go.RowKit
set_option maxRecDepth 100000
set_option linter.unusedVariables false

theorem lifted (os : Os) (started : os.Started) (H : Type) (enc : TypeId × Value → H) (F : Stop.Interp) :
    ReturnsInHanded {} Tryd.checked os 7 .any ((OpenSpec.ofChange Rows.rrsetLeastSpec).preRow enc Tryd.prog Tryd.f7 Rows.rrsetLeastRow.domain false Rows.rrsetLeastRow.laid) (((OpenSpec.ofChange Rows.rrsetLeastSpec).at F).post enc Tryd.prog Tryd.f7 false true false false) := by
  refine returnsInHanded_of_row (C := Tryd.checked) (s := OpenSpec.ofChange Rows.rrsetLeastSpec) own started (by kernel_rfl) Tryd.func7
    (witness_row_at (enc := enc) (C := Tryd.checked) false (laidWorld os) #[.slice none 0 0, .int .i64 0, .int .u32 0] rfl (by kernel_rfl) (by kernel_rfl) (by kernel_rfl)
      (OpenSpec.preRow_of_cond (x := ([.nil, .lit (.int .i64 0), .lit (.int .u32 0)], [], [])) 8 (by kernel_rfl) (by kernel_rfl) (fun k hk => by cases hk) (by kernel_rfl) (laid_met os _))) ?_
  intro W base args ds gs before hval hW _ _ hwt hL _ _
  have hA := hW
  obtain ⟨p, q, hA0, hV, _⟩ := hA
  have hA1 : DataW.TrodAll enc Tryd.prog W 0 (fun _ => true) true [23, 3, 25] args.toList ds p := hA0
  obtain ⟨v0, vs0, d0, ds0, p0, q0, hargs0, rfl, rfl, h0, r0⟩ := trodAll_cons hA1
  obtain ⟨v1, vs1, d1, ds1, p1, q1, hargs1, rfl, rfl, h1, r1⟩ := trodAll_cons r0
  obtain ⟨v2, vs2, d2, ds2, p2, q2, hargs2, rfl, rfl, h2, r2⟩ := trodAll_cons r1
  obtain ⟨rfl, rfl, rfl⟩ := trodAll_nil r2
  subst hargs2
  subst hargs1
  obtain ⟨al⟩ := args
  simp only at hargs0
  subst hargs0
  obtain ⟨rfl, rfl⟩ := trodVars_none hV
  obtain ⟨l0, hR0, hlb0⟩ := open_recs (hval 0 _ v0 rfl rfl) h0 (weights_arg hwt (j := 0) rfl rfl)
  obtain ⟨z1, rfl, -, -, hz1⟩ := open_int Tryd.underlying3 (hval 1 _ v1 rfl rfl) h1
  obtain ⟨z2, rfl, -, -, hz2⟩ := open_int Tryd.underlying25 (hval 2 _ v2 rfl rfl) h2
  exact law_post rfl rfl (by kernel_rfl) hW rfl (rrsetLeast_at l0 v0 z1 z2 W hR0 hlb0 (gw_of_laid hL) hz2)
theorem said : Rows.RrsetLeastSaid :=
  OpenClaim.holds_of_cond 7 Tryd.f7 rfl rfl rfl rfl rfl rfl rfl ⟨rfl, rfl, rfl, rfl, rfl⟩ rfl rfl rfl rfl rfl (by kernel_rfl) Tryd.func7 (by kernel_rfl)
    (of_decide_eq_true (by kernel_rfl)) (by unfold Func.isWrapper; first | (rw [if_pos (by decide +kernel)]; kernel_rfl) | (rw [if_neg (by decide +kernel)]; exact ⟨rfl, rfl⟩))
    (fun os started H enc _ F => by rw [OpenClaim.pre_eq_preRow]; exact lifted os started H enc F)
theorem plain (f : FuncId) (fn : Func) (hf : Tryd.pinned.checked.prog.funcNamed "hustings/hustingslaw08.RrsetLeast" = some f) (hfn : Tryd.pinned.checked.prog.funcs[f]? = some fn) :
    true = Tryd.pinned.checked.prog.looks [] ∧ ∀ (j : Nat) t, fn.params[j]? = some t → Tryd.pinned.checked.prog.wantsStandIn t = false := by
  obtain rfl : f = 7 := Option.some.inj ((show Tryd.prog.funcNamed "hustings/hustingslaw08.RrsetLeast" = some 7 by kernel_rfl).symm.trans hf) |>.symm
  obtain rfl : fn = Tryd.f7 := (Option.some.inj (Tryd.func7.symm.trans hfn)).symm
  refine ⟨by kernel_rfl, fun j t ht => ?_⟩
  have hall : (Tryd.f7.params.toList.all fun t => !Tryd.prog.wantsStandIn t) = true := by kernel_rfl
  have hm : t ∈ Tryd.f7.params.toList := by rw [← Array.mem_def]; exact Array.mem_of_getElem? ht
  have := List.all_eq_true.1 hall t hm
  exact Bool.not_eq_true' _ |>.mp this
theorem card : Rows.RrsetLeastCardSaid :=
  Claim7.holds_tied_plain_at .later [] _ _ _ _ said (fun _ h => by cases h) (by kernel_rfl) (fun _ h => by cases h) rrsetLeast_row_tie rfl ⟨rfl, rfl⟩ (by kernel_rfl) rfl plain (by kernel_rfl)
#print axioms card
end Go.Proofs.YtcelgjabccgnmaaDoor.lawRrsetLeast
