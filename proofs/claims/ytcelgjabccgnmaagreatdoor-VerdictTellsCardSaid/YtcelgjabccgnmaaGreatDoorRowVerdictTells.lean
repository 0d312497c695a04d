/-
  VerdictTells: whether any two verdicts are the same, the key of one, and its end, of any question, are the document's; what is told may be written over; for every world and every argument that a machine may hold; the row lists one variable of Go's library, errors.errorType, as the program's text lays it (the card ties it).
-/
import Derived.Test.YtcelgjabccgnmaaGreatDoorRow
import Derived.Test.YtcelgjabccgnmaaGreatDoorArgs
import Derived.Test.YtcelgjabccgnmaaGreatDoorVLawF
namespace Go.Proofs.YtcelgjabccgnmaaGreatDoor.lawVerdictTells
open Go.ChangeShapes Go.WideShapes Go.ChangeAt Go.RowKit
set_option maxRecDepth 100000
set_option linter.unusedVariables false

theorem lifted (os : Os) (started : os.Started) (H : Type) (enc : TypeId × Value → H) (F : Stop.Interp) :
    ReturnsInHanded {} Tryz.checked os 14 .any ((OpenSpec.ofChange Rows.verdictTellsSpec).preRow enc Tryz.prog Tryz.f14 Rows.verdictTellsRow.domain false Rows.verdictTellsRow.laid) (((OpenSpec.ofChange Rows.verdictTellsSpec).at F).post enc Tryz.prog Tryz.f14 false true false false) := by
  refine returnsInHanded_of_row (C := Tryz.checked) (s := OpenSpec.ofChange Rows.verdictTellsSpec) own started (by kernel_rfl) Tryz.func14
    (witness_row_at (enc := enc) (C := Tryz.checked) false (laidWorld os) #[.agg #[.int .u8 0, .slice none 0 0, .slice none 0 0], .agg #[.int .u8 0, .slice none 0 0, .slice none 0 0], .agg #[.string (mk []), .int .u16 0, .int .u16 0]] rfl (by kernel_rfl) (by kernel_rfl) (by kernel_rfl)
      (OpenSpec.preRow_of_cond (x := ([.agg [.lit (.int .u8 0), .nil, .nil], .agg [.lit (.int .u8 0), .nil, .nil], .agg [.lit (.string []), .lit (.int .u16 0), .lit (.int .u16 0)]], [], [])) 8 (by kernel_rfl) (by kernel_rfl) (fun k hk => by cases hk) (by kernel_rfl) (laid_met os _))) ?_
  intro W base args ds gs before hval hW _ _ hwt hL _ _
  have hA := hW
  obtain ⟨p, q, hA0, hV, _⟩ := hA
  have hA1 : DataW.TrodAll enc Tryz.prog W 0 (fun _ => true) true [65, 65, 49] args.toList ds p := hA0
  obtain ⟨v0, vs0, d0, ds0, p0, q0, hargs0, rfl, rfl, h0, r0⟩ := trodAll_cons hA1
  obtain ⟨v1, vs1, d1, ds1, p1, q1, hargs1, rfl, rfl, h1, r1⟩ := trodAll_cons r0
  obtain ⟨v2, vs2, d2, ds2, p2, q2, hargs2, rfl, rfl, h2, r2⟩ := trodAll_cons r1
  obtain ⟨rfl, rfl, rfl⟩ := trodAll_nil r2
  subst hargs2
  subst hargs1
  obtain ⟨al⟩ := args
  simp only at hargs0
  subst hargs0
  obtain ⟨rfl, rfl⟩ := trodVars_none hV
  obtain ⟨x0, sv0, ov0, rfl, hR0, hlb0⟩ := arg_verd (hval 0 _ v0 rfl rfl) h0 (weights_arg hwt (j := 0) rfl rfl)
  obtain ⟨x1, sv1, ov1, rfl, hR1, hlb1⟩ := arg_verd (hval 1 _ v1 rfl rfl) h1 (weights_arg hwt (j := 1) rfl rfl)
  obtain ⟨q2, rfl, hlb2⟩ := arg_que (hval 2 _ v2 rfl rfl) h2 (weights_arg hwt (j := 2) rfl rfl)
  exact law_post rfl rfl (by kernel_rfl) hW rfl (verdictTells_spec x0 x1 q2 sv0 ov0 sv1 ov1 W hR0 hlb0 hR1 hlb1 (gw_of_laid hL))
theorem said : Rows.VerdictTellsSaid :=
  OpenClaim.holds_of_cond 14 Tryz.f14 rfl rfl rfl rfl rfl rfl rfl ⟨rfl, rfl, rfl, rfl, rfl⟩ rfl rfl rfl rfl rfl (by kernel_rfl) Tryz.func14 (by kernel_rfl)
    (of_decide_eq_true (by kernel_rfl)) (by unfold Func.isWrapper; first | (rw [if_pos (by decide +kernel)]; kernel_rfl) | (rw [if_neg (by decide +kernel)]; exact ⟨rfl, rfl⟩))
    (fun os started H enc _ F => by rw [OpenClaim.pre_eq_preRow]; exact lifted os started H enc F)
theorem plain (f : FuncId) (fn : Func) (hf : Tryz.pinned.checked.prog.funcNamed "hustings/hustingslaw11.VerdictTells" = some f) (hfn : Tryz.pinned.checked.prog.funcs[f]? = some fn) :
    true = Tryz.pinned.checked.prog.looks [] ∧ ∀ (j : Nat) t, fn.params[j]? = some t → Tryz.pinned.checked.prog.wantsStandIn t = false := by
  obtain rfl : f = 14 := Option.some.inj ((show Tryz.prog.funcNamed "hustings/hustingslaw11.VerdictTells" = some 14 by kernel_rfl).symm.trans hf) |>.symm
  obtain rfl : fn = Tryz.f14 := (Option.some.inj (Tryz.func14.symm.trans hfn)).symm
  refine ⟨by kernel_rfl, fun j t ht => ?_⟩
  have hall : (Tryz.f14.params.toList.all fun t => !Tryz.prog.wantsStandIn t) = true := by kernel_rfl
  have hm : t ∈ Tryz.f14.params.toList := by rw [← Array.mem_def]; exact Array.mem_of_getElem? ht
  have := List.all_eq_true.1 hall t hm
  exact Bool.not_eq_true' _ |>.mp this
theorem card : Rows.VerdictTellsCardSaid :=
  Claim7.holds_tied_plain_at .later [] _ _ _ _ said (fun _ h => by cases h) (by kernel_rfl) (fun _ h => by cases h) verdictTells_row_tie rfl ⟨rfl, rfl⟩ (by kernel_rfl) rfl plain (by kernel_rfl)
#print axioms card
end Go.Proofs.YtcelgjabccgnmaaGreatDoor.lawVerdictTells
