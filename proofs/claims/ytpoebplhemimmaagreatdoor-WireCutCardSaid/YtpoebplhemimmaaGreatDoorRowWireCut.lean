/-
  WireCut: for all messages, places and bytes the law returns true, its arguments read as before; the row lists three variables as the program's text lays them (the card ties it).
-/
import Derived.Test.YtpoebplhemimmaaGreatDoorRow7
import Derived.Test.YtpoebplhemimmaaGreatDoorArgs
import Derived.Test.YtpoebplhemimmaaGreatDoorOpenM
import Derived.Test.YtpoebplhemimmaaGreatDoorLaw7g
namespace Go.Proofs.YtpoebplhemimmaaGreatDoor.lawWireCut
open Go.ChangeShapes Go.WideShapes Go.ChangeAt Go.RowKit
set_option maxRecDepth 100000
set_option linter.unusedVariables false

theorem lifted (os : Os) (started : os.Started) (H : Type) (enc : TypeId × Value → H) (F : Stop.Interp) :
    ReturnsInHanded {} Tryz.checked os 6 .any ((OpenSpec.ofChange Rows.wireCutSpec).preRow enc Tryz.prog Tryz.f6 Rows.wireCutRow.domain false Rows.wireCutRow.laid) (((OpenSpec.ofChange Rows.wireCutSpec).at F).post enc Tryz.prog Tryz.f6 false true false false) := by
  refine returnsInHanded_of_row (C := Tryz.checked) (s := OpenSpec.ofChange Rows.wireCutSpec) own started (by kernel_rfl) Tryz.func6
    (witness_row_at (enc := enc) (C := Tryz.checked) false (laidWorld7 os) #[.agg #[.int .u16 0, .bool false, .int .u8 0, .bool false, .bool false, .bool false, .bool false, .bool false, .bool false, .bool false, .int .u8 0, .slice none 0 0, .slice none 0 0, .slice none 0 0, .slice none 0 0, .bool false, .int .u16 0, .int .u8 0, .int .u8 0, .int .u16 0, .slice none 0 0], .int .i64 0, .string (mk [])] rfl (by kernel_rfl) (by kernel_rfl) (by kernel_rfl)
      (OpenSpec.preRow_of_cond (x := ([.agg [.agg [.lit (.int .u16 0), .lit (.bool false), .lit (.int .u8 0), .lit (.bool false), .lit (.bool false), .lit (.bool false), .lit (.bool false), .lit (.bool false), .lit (.bool false), .lit (.bool false), .lit (.int .u8 0)], .nil, .nil, .nil, .nil, .lit (.bool false), .agg [.lit (.int .u16 0), .lit (.int .u8 0), .lit (.int .u8 0), .lit (.int .u16 0), .nil]], .lit (.int .i64 0), .lit (.string [])], [], [])) 8 (by kernel_rfl) (by kernel_rfl) (fun k hk => by cases hk) (by kernel_rfl) (laid_met7 os _))) ?_
  intro W base args ds gs before hval hW _ _ hwt hL _ _
  have hA := hW
  obtain ⟨p, q, hA0, hV, _⟩ := hA
  have hA1 : DataW.TrodAll enc Tryz.prog W 0 (fun _ => true) true [37, 3, 9] args.toList ds p := hA0
  obtain ⟨v0, vs0, d0, ds0, p0, q0, hargs0, rfl, rfl, h0, r0⟩ := trodAll_cons hA1
  obtain ⟨v1, vs1, d1, ds1, p1, q1, hargs1, rfl, rfl, h1, r1⟩ := trodAll_cons r0
  obtain ⟨v2, vs2, d2, ds2, p2, q2, hargs2, rfl, rfl, h2, r2⟩ := trodAll_cons r1
  obtain ⟨rfl, rfl, rfl⟩ := trodAll_nil r2
  subst hargs2
  subst hargs1
  obtain ⟨al⟩ := args
  simp only at hargs0
  subst hargs0
  obtain ⟨rfl, rfl⟩ := trodVars_none hV
  obtain ⟨m0, qv0, av0, uv0, xv0, ov0, rfl, hR0, hlb0⟩ := arg_msg (hval 0 _ v0 rfl rfl) h0 (weights_arg hwt (j := 0) rfl rfl)
  obtain ⟨z1, rfl, -, -, hz1⟩ := open_int Tryz.underlying3 (hval 1 _ v1 rfl rfl) h1
  obtain ⟨nm2, rfl, hnm2⟩ := arg_str (hval 2 _ v2 rfl rfl) h2 (weights_arg hwt (j := 2) rfl rfl)
  exact law_post rfl rfl (by kernel_rfl) hW rfl (cut7_spec m0 qv0 av0 uv0 xv0 ov0 z1 nm2 _ (gx_of_laid hL) hR0 hlb0 (by omega))
theorem said : Rows.WireCutSaid :=
  OpenClaim.holds_of_cond 6 Tryz.f6 rfl rfl rfl rfl rfl rfl rfl ⟨rfl, rfl, rfl, rfl, rfl⟩ rfl rfl rfl rfl rfl (by kernel_rfl) Tryz.func6 (by kernel_rfl)
    (of_decide_eq_true (by kernel_rfl)) (by unfold Func.isWrapper; first | (rw [if_pos (by decide +kernel)]; kernel_rfl) | (rw [if_neg (by decide +kernel)]; exact ⟨rfl, rfl⟩))
    (fun os started H enc _ F => by rw [OpenClaim.pre_eq_preRow]; exact lifted os started H enc F)
theorem plain (f : FuncId) (fn : Func) (hf : Tryz.pinned.checked.prog.funcNamed "hustings/hustingslaw07.WireCut" = some f) (hfn : Tryz.pinned.checked.prog.funcs[f]? = some fn) :
    true = Tryz.pinned.checked.prog.looks [] ∧ ∀ (j : Nat) t, fn.params[j]? = some t → Tryz.pinned.checked.prog.wantsStandIn t = false := by
  obtain rfl : f = 6 := Option.some.inj ((show Tryz.prog.funcNamed "hustings/hustingslaw07.WireCut" = some 6 by kernel_rfl).symm.trans hf) |>.symm
  obtain rfl : fn = Tryz.f6 := (Option.some.inj (Tryz.func6.symm.trans hfn)).symm
  refine ⟨by kernel_rfl, fun j t ht => ?_⟩
  have hall : (Tryz.f6.params.toList.all fun t => !Tryz.prog.wantsStandIn t) = true := by kernel_rfl
  have hm : t ∈ Tryz.f6.params.toList := by rw [← Array.mem_def]; exact Array.mem_of_getElem? ht
  have := List.all_eq_true.1 hall t hm
  exact Bool.not_eq_true' _ |>.mp this
theorem card : Rows.WireCutCardSaid :=
  Claim7.holds_tied_plain_at .later [] _ _ _ _ said (fun _ h => by cases h) (by kernel_rfl) (fun _ h => by cases h) wireCut_row_tie rfl ⟨rfl, rfl⟩ (by kernel_rfl) rfl plain (by kernel_rfl)
#print axioms card
end Go.Proofs.YtpoebplhemimmaaGreatDoor.lawWireCut
