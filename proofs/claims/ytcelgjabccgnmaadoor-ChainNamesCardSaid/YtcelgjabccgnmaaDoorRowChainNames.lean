/-
  ChainNames, the closed statement of the chain's examples, returns true, always; the row lists one variable of Go's library, errors.errorType, as the program's text lays it (the card ties it).
-/
import Derived.Test.YtcelgjabccgnmaaDoorRow
import Derived.Test.YtcelgjabccgnmaaDoorLaw9b
namespace Go.Proofs.YtcelgjabccgnmaaDoor.lawChainNames
open Go.ChangeShapes Go.WideShapes Go.ChangeAt Go.RowKit
set_option maxRecDepth 100000

theorem lifted (os : Os) (started : os.Started) (H : Type) (enc : TypeId × Value → H) (F : Stop.Interp) :
    ReturnsInHanded {} Tryd.checked os 3 .any ((OpenSpec.ofChange Rows.chainNamesSpec).preRow enc Tryd.prog Tryd.f3 Rows.chainNamesRow.domain false Rows.chainNamesRow.laid) (((OpenSpec.ofChange Rows.chainNamesSpec).at F).post enc Tryd.prog Tryd.f3 false true false false) := by
  refine returnsInHanded_of_row (C := Tryd.checked) (s := OpenSpec.ofChange Rows.chainNamesSpec) own started (by kernel_rfl) Tryd.func3
    (witness_row_at (enc := enc) (C := Tryd.checked) false (laidWorld os) #[] rfl (by kernel_rfl) (by kernel_rfl) (by kernel_rfl)
      (OpenSpec.preRow_of_cond (x := ([], [], [])) 8 (by kernel_rfl) (by kernel_rfl) (fun k hk => by cases hk) (by kernel_rfl) (laid_met os _))) ?_
  intro W base args ds gs before hval hW _ _ _ hL _ _
  have hA := hW
  obtain ⟨p, q, hA0, hV, _⟩ := hA
  obtain ⟨hargs, rfl, -⟩ := trodAll_nil (show DataW.TrodAll enc Tryd.prog W 0 (fun _ => true) true [] args.toList ds p from hA0)
  obtain ⟨rfl, rfl⟩ := trodVars_none hV
  exact law_post rfl rfl (by kernel_rfl) hW rfl (by rw [hargs]; exact chainNames_spec W (gw_of_laid hL))
theorem said : Rows.ChainNamesSaid :=
  OpenClaim.holds_of_cond 3 Tryd.f3 rfl rfl rfl rfl rfl rfl rfl ⟨rfl, rfl, rfl, rfl, rfl⟩ rfl rfl rfl rfl rfl (by kernel_rfl) Tryd.func3 (by kernel_rfl)
    (of_decide_eq_true (by kernel_rfl)) (by unfold Func.isWrapper; first | (rw [if_pos (by decide +kernel)]; kernel_rfl) | (rw [if_neg (by decide +kernel)]; exact ⟨rfl, rfl⟩))
    (fun os started H enc _ F => by rw [OpenClaim.pre_eq_preRow]; exact lifted os started H enc F)
theorem plain (f : FuncId) (fn : Func) (hf : Tryd.pinned.checked.prog.funcNamed "hustings/hustingslaw09.ChainNames" = some f) (hfn : Tryd.pinned.checked.prog.funcs[f]? = some fn) :
    true = Tryd.pinned.checked.prog.looks [] ∧ ∀ (j : Nat) t, fn.params[j]? = some t → Tryd.pinned.checked.prog.wantsStandIn t = false := by
  obtain rfl : f = 3 := Option.some.inj ((show Tryd.prog.funcNamed "hustings/hustingslaw09.ChainNames" = some 3 by kernel_rfl).symm.trans hf) |>.symm
  obtain rfl : fn = Tryd.f3 := (Option.some.inj (Tryd.func3.symm.trans hfn)).symm
  refine ⟨by kernel_rfl, fun j t ht => ?_⟩
  have : Tryd.f3.params = #[] := rfl
  rw [this] at ht
  simp at ht
theorem card : Rows.ChainNamesCardSaid :=
  Claim7.holds_tied_plain_at .later [] _ _ _ _ said (fun _ h => by cases h) (by kernel_rfl) (fun _ h => by cases h) chainNames_row_tie rfl ⟨rfl, rfl⟩ (by kernel_rfl) rfl plain (by kernel_rfl)
#print axioms card
end Go.Proofs.YtcelgjabccgnmaaDoor.lawChainNames
