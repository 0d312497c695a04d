/-
  The walks of package cursor: what reading a text from a place on computes. Nothing is claimed here.
-/
import Derived.Test.YtpoebplhemimmaaGreatDoorAs
namespace Go.Proofs.YtpoebplhemimmaaGreatDoor
open Go.RowKit
set_option linter.unusedVariables false
set_option linter.unusedSimpArgs false
set_option maxHeartbeats 1000000

theorem told_nil (w0 : World) : Rets Tryz.prog 80 [.nilIface] w0 fun v w' => v = .int .i64 0 ∧ Ext w0 w' := by
  have hH := Hp.refl w0
  refine rets_start Tryz.func80 rfl Tryz.ntmps80 rfl fun a Q0 hF hret hend => ?_
  simp only [argsFrom, Nat.zero_add, Nat.reduceAdd] at hF
  refine c_sr fun ops => ?_
  refine zm 1 hF rfl fun a hF => ?_
  refine c_n ?_
  replace hF := hF.sel [0]
  simp only [ss, Nat.reduceBEq] at hF
  refine c_sr fun ops => ?_
  refine zl hF rfl (r_build hF rfl rfl (bd182 _)) fun a hF => ?_
  refine ls_alloc hF hH rfl rfl rfl rfl zv182 ?_
  intro a w g1_1 hH hE hF
  refine ls_storeagg 0 hF hH rfl rfl rfl rfl rfl ti182 rfl (rfl) (rfl) (by simp [Value.oneCell']) ?_
  intro w hH
  refine c_n ?_
  replace hF := hF.sel [0, 3]
  simp only [ss, Nat.reduceBEq] at hF
  refine c_seq fun Q1 k1 t1 => ?_
  refine c_sr fun ops => ?_
  refine zm 1 hF rfl fun a hF => ?_
  refine zl hF rfl (r_makeiface hF rfl rfl (by kernel_rfl)) fun a hF => ?_
  refine zc hF rfl rfl fn92 (as_nil _ _) ?_
  rintro _ w ⟨rfl, hE⟩ a hF
  replace hH := hH.ext hE
  refine c_n ?_
  replace hF := hF.sel [3, 7]
  simp only [ss, Nat.reduceBEq] at hF
  refine c_no hF rfl (rfl) ?_
  refine wp_skip ?_
  refine k1 ?_
  refine c_sr fun ops => ?_
  refine zm 1 hF rfl fun a hF => ?_
  refine c_n ?_
  replace hF := hF.sel [2]
  simp only [ss, Nat.reduceBEq] at hF
  refine wp_ret (hret (ret1 hF Tryz.results80 rfl ?_))
  exact ⟨rfl, hH.below⟩
theorem told_hit (e : Nat) (w0 : World) (hG : GW w0) : Rets Tryz.prog 80 [.iface 182 (.agg #[.int .i64 e])] w0 fun v w' => v = .int .i64 e ∧ Ext w0 w' := by
  have hH := Hp.refl w0
  refine rets_start Tryz.func80 rfl Tryz.ntmps80 rfl fun a Q0 hF hret hend => ?_
  simp only [argsFrom, Nat.zero_add, Nat.reduceAdd] at hF
  refine c_sr fun ops => ?_
  refine zm 1 hF rfl fun a hF => ?_
  refine c_n ?_
  replace hF := hF.sel [0]
  simp only [ss, Nat.reduceBEq] at hF
  refine c_sr fun ops => ?_
  refine zl hF rfl (r_build hF rfl rfl (bd182 _)) fun a hF => ?_
  refine ls_alloc hF hH rfl rfl rfl rfl zv182 ?_
  intro a w g1_1 hH hE hF
  refine ls_storeagg 0 hF hH rfl rfl rfl rfl rfl ti182 rfl (rfl) (rfl) (by simp [Value.oneCell']) ?_
  intro w hH
  refine c_n ?_
  replace hF := hF.sel [0, 3]
  simp only [ss, Nat.reduceBEq] at hF
  refine c_seq fun Q1 k1 t1 => ?_
  refine c_sr fun ops => ?_
  refine zm 1 hF rfl fun a hF => ?_
  refine zl hF rfl (r_makeiface hF rfl rfl (by kernel_rfl)) fun a hF => ?_
  refine zc hF rfl rfl fn92 (as_hit hG hH) ?_
  rintro _ w ⟨rfl, hH⟩ a hF
  refine c_n ?_
  replace hF := hF.sel [3, 7]
  simp only [ss, Nat.reduceBEq] at hF
  refine c_yes hF rfl (rfl) ?_
  refine c_sr fun ops => ?_
  refine zl hF rfl (r_fieldaddr0 hF rfl rfl fd182_0) fun a hF => ?_
  refine zl hF rfl (r_load hF rfl rfl fl23 (own_cell (i := 0) hH rfl rfl)) fun a hF => ?_
  refine zm 1 hF rfl fun a hF => ?_
  refine c_n ?_
  replace hF := hF.sel [2]
  simp only [ss, Nat.reduceBEq] at hF
  refine wp_ret (t1.ret (hret (ret1 hF Tryz.results80 rfl ?_)))
  exact ⟨rfl, hH.below⟩
theorem told_spec (e : Nat) (w0 : World) (hG : GW w0) : Rets Tryz.prog 80 [errV e] w0 fun v w' => v = .int .i64 e ∧ Ext w0 w' := by
  unfold errV
  split
  · rename_i h; subst h; exact told_nil w0
  · exact told_hit e w0 hG

/-- A cursor's block. -/
abbrev curO (s : Bs) (at' : Nat) : Obj := .cells #[.string (mk s), .int .i64 at'] 114 (0, 0)
abbrev ptr (g : Nat) : Value := .pointer (some ⟨g, 0, none⟩)

theorem new_spec (s : Bs) (w0 : World) : Rets Tryz.prog 22 [.string (mk s)] w0 fun v w' => ∃ g, v = ptr g ∧ Hp w0 w' [(g, curO s 0)] := by
  have hH := Hp.refl w0
  refine rets_start Tryz.func22 rfl Tryz.ntmps22 rfl fun a Q0 hF hret hend => ?_
  simp only [argsFrom, Nat.zero_add, Nat.reduceAdd] at hF
  refine c_sr fun ops => ?_
  refine zm 1 hF rfl fun a hF => ?_
  refine c_n ?_
  replace hF := hF.sel [0]
  simp only [ss, Nat.reduceBEq] at hF
  refine c_sr fun ops => ?_
  refine zm 1 hF rfl fun a hF => ?_
  refine zl hF rfl (r_build hF rfl rfl (bd114_0 _ _ (rfl))) fun a hF => ?_
  refine ls_box hF hH rfl rfl rfl rfl rfl ?_
  intro a w g1_2 hH hE hF
  refine zm 1 hF rfl fun a hF => ?_
  refine c_n ?_
  replace hF := hF.sel [2]
  simp only [ss, Nat.reduceBEq] at hF
  refine wp_ret (hret (ret1 hF Tryz.results22 rfl ?_))
  exact ⟨_, rfl, hH⟩

section
variable {w0 w : World} {H : List (Nat × Obj)} {g p : Nat} {s : Bs}

theorem next_spec (n : Nat) (hG : GW w0) (hH : Hp w0 w ((g, curO s p) :: H)) (hp : p ≤ s.length) (hs : s.length < 1000000) : Rets Tryz.prog 79 [ptr g, .int .i64 n] w
    fun v w' => v = (if s.length < p + n then .tuple #[.string (mk []), errV 4] else .tuple #[.string (mk ((s.drop p).take n)), errV 0]) ∧ Hp w0 w' ((g, curO s (if s.length < p + n then p else p + n)) :: H) := by
  refine rets_start Tryz.func79 rfl Tryz.ntmps79 rfl fun a Q0 hF hret hend => ?_
  simp only [argsFrom, Nat.zero_add, Nat.reduceAdd] at hF
  refine c_sr fun ops => ?_
  refine zm 2 hF rfl fun a hF => ?_
  refine c_n ?_
  replace hF := hF.sel [0, 1]
  simp only [ss, Nat.reduceBEq] at hF
  refine c_seq fun Q1 k1 t1 => ?_
  refine c_block fun Q2 t2 => ?_
  refine c_sr fun ops => ?_
  refine zm 1 hF rfl fun a hF => ?_
  refine zb hF rfl rfl rfl (b_peq Tryz.underlying64) fun a hF => ?_
  refine zm 1 hF rfl fun a hF => ?_
  refine c_n ?_
  replace hF := hF.sel [0, 1, 7]
  simp only [ss, Nat.reduceBEq] at hF
  refine c_no hF rfl (rfl) ?_
  refine c_sr fun ops => ?_
  refine zm 1 hF rfl fun a hF => ?_
  refine zb hF rfl rfl rfl (b_ltn _ _ _ 0) fun a hF => ?_
  refine zm 1 hF rfl fun a hF => ?_
  refine c_n ?_
  replace hF := hF.sel [0, 1, 12]
  simp only [ss, Nat.reduceBEq] at hF
  refine c_if hF rfl (fun h12 => ?_) (fun h12 => ?_)
  ·
   try simp only [qq] at h12
   omega
  try simp only [qq] at h12
  refine c_seq fun Q3 k3 t3 => ?_
  refine q_reg (by kernel_rfl) (by kernel_rfl) ?_
  refine qs hF rfl rfl rfl (fun w hw => r_move hF rfl rfl) fun a hF => ?_
  refine qs hF rfl rfl rfl (fun w hw => r_move hF rfl rfl) fun a hF => ?_
  refine qs hF rfl rfl rfl (fun w hw => r_nilcheck hF rfl rfl) fun a hF => ?_
  refine qs hF rfl rfl rfl (fun w hw => r_fieldaddr0 hF rfl rfl fd114_0) fun a hF => ?_
  refine qs hF rfl rfl rfl (fun w hw => r_load hF rfl rfl fl9 (hw.cell (own_cell (i := 0) hH rfl rfl))) fun a hF => ?_
  refine qs hF rfl rfl rfl (fun w hw => r_len_str hF rfl rfl Tryz.underlying9) fun a hF => ?_
  refine qs hF rfl rfl rfl (fun w hw => r_move hF rfl rfl) fun a hF => ?_
  refine qs hF rfl rfl rfl (fun w hw => r_nilcheck hF rfl rfl) fun a hF => ?_
  refine qs hF rfl rfl rfl (fun w hw => r_fieldaddr0 hF rfl rfl fd114_1) fun a hF => ?_
  refine qs hF rfl rfl rfl (fun w hw => r_load hF rfl rfl fl3 (hw.cell (own_cell (i := 0) hH rfl rfl))) fun a hF => ?_
  refine qs hF rfl rfl rfl (fun w hw => zr hF rfl rfl (b_subn _ _ _ (by omega))) fun a hF => ?_
  refine qs hF rfl rfl rfl (fun w hw => zr hF rfl rfl (b_gtn _ _ _ _)) fun a hF => ?_
  refine qs hF rfl rfl rfl (fun w hw => r_assign hF rfl rfl) fun a hF => ?_
  refine q_nil fun w hE => ?_
  replace hH := hH.ext hE
  replace hF := hF.sel [0, 1, 17]
  simp only [ss, Nat.reduceBEq] at hF
  refine k3 ?_
  refine c_if hF rfl (fun h17 => ?_) (fun h17 => ?_)
  ·
   try simp only [qq] at h17
   refine c_sr fun ops => ?_
   refine zl hF rfl (r_build hF rfl rfl (bd182_0 _ _ (rfl))) fun a hF => ?_
   refine zl hF rfl (r_makeiface hF rfl rfl (by kernel_rfl)) fun a hF => ?_
   refine zm 2 hF rfl fun a hF => ?_
   refine c_n ?_
   replace hF := hF.sel [4, 5]
   simp only [ss, Nat.reduceBEq] at hF
   refine wp_ret (t2.ret (t1.ret (hret (ret2 hF Tryz.results79 rfl rfl ?_))))
   rw [if_pos (by omega), if_pos (by omega)]
   exact ⟨rfl, hH⟩
  try simp only [qq] at h17
  refine wp_skip ?_
  refine t2.norm ?_
  refine k1 ?_
  refine c_seq fun Q4 k4 t4 => ?_
  refine q_reg (by kernel_rfl) (by kernel_rfl) ?_
  refine qs hF rfl rfl rfl (fun w hw => r_move hF rfl rfl) fun a hF => ?_
  refine qs hF rfl rfl rfl (fun w hw => r_nilcheck hF rfl rfl) fun a hF => ?_
  refine qs hF rfl rfl rfl (fun w hw => r_fieldaddr0 hF rfl rfl fd114_0) fun a hF => ?_
  refine qs hF rfl rfl rfl (fun w hw => r_load hF rfl rfl fl9 (hw.cell (own_cell (i := 0) hH rfl rfl))) fun a hF => ?_
  refine qs hF rfl rfl rfl (fun w hw => r_move hF rfl rfl) fun a hF => ?_
  refine qs hF rfl rfl rfl (fun w hw => r_nilcheck hF rfl rfl) fun a hF => ?_
  refine qs hF rfl rfl rfl (fun w hw => r_fieldaddr0 hF rfl rfl fd114_1) fun a hF => ?_
  refine qs hF rfl rfl rfl (fun w hw => r_load hF rfl rfl fl3 (hw.cell (own_cell (i := 0) hH rfl rfl))) fun a hF => ?_
  refine qs hF rfl rfl rfl (fun w hw => r_move hF rfl rfl) fun a hF => ?_
  refine qs hF rfl rfl rfl (fun w hw => r_nilcheck hF rfl rfl) fun a hF => ?_
  refine qs hF rfl rfl rfl (fun w hw => r_fieldaddr0 hF rfl rfl fd114_1) fun a hF => ?_
  refine qs hF rfl rfl rfl (fun w hw => r_load hF rfl rfl fl3 (hw.cell (own_cell (i := 0) hH rfl rfl))) fun a hF => ?_
  refine qs hF rfl rfl rfl (fun w hw => r_move hF rfl rfl) fun a hF => ?_
  refine qs hF rfl rfl rfl (fun w hw => zr hF rfl rfl (b_addn _ _ _ (by omega))) fun a hF => ?_
  refine qs hF rfl rfl rfl (fun w hw => r_slicen hF _ _ rfl rfl Tryz.underlying9 ⟨_, rfl⟩ ⟨_, rfl⟩ (by omega)) fun a hF => ?_
  refine qs hF rfl rfl rfl (fun w hw => r_assign hF rfl rfl) fun a hF => ?_
  refine q_nil fun w hE => ?_
  replace hH := hH.ext hE
  replace hF := hF.sel [0, 1, 6]
  simp only [ss, Nat.reduceBEq] at hF
  refine k4 ?_
  refine c_sr fun ops => ?_
  refine zm 1 hF rfl fun a hF => ?_
  refine zl hF rfl (r_nilcheck hF rfl rfl) fun a hF => ?_
  refine zl hF rfl (r_fieldaddr0 hF rfl rfl fd114_1) fun a hF => ?_
  refine zl hF rfl (r_load hF rfl rfl fl3 (own_cell (i := 0) hH rfl rfl)) fun a hF => ?_
  refine zm 1 hF rfl fun a hF => ?_
  refine zb hF rfl rfl rfl (b_addn _ _ _ (by omega)) fun a hF => ?_
  refine zl hF rfl (r_nilcheck hF rfl rfl) fun a hF => ?_
  refine zl hF rfl (r_fieldaddr0 hF rfl rfl fd114_1) fun a hF => ?_
  refine ls_store 0 hF hH rfl rfl rfl rfl rfl fl3 ti3 rfl (by simp) (by simp [noFreeze]) (rfl) ?_
  intro w hH
  refine c_n ?_
  replace hF := hF.sel [6]
  simp only [ss, Nat.reduceBEq] at hF
  refine c_sr fun ops => ?_
  refine zm 3 hF rfl fun a hF => ?_
  refine c_n ?_
  replace hF := hF.sel [4, 5]
  simp only [ss, Nat.reduceBEq] at hF
  refine wp_ret (hret (ret2 hF Tryz.results79 rfl rfl ?_))
  rw [if_neg (by omega), if_neg (by omega)]
  refine ⟨?_, hH⟩
  rw [List.take_drop]; rfl

theorem take_spec (n : Nat) (hG : GW w0) (hH : Hp w0 w ((g, curO s p) :: H)) (hp : p ≤ s.length) (hs : s.length < 1000000) : Rets Tryz.prog 61 [ptr g, .int .i64 n] w
    fun v w' => v = (if s.length < p + n then .tuple #[.string (mk []), .int .i64 4] else .tuple #[.string (mk ((s.drop p).take n)), .int .i64 0]) ∧ Hp w0 w' ((g, curO s (if s.length < p + n then p else p + n)) :: H) := by
  by_cases hc : s.length < p + n
  · simp only [hc, if_true]
    have hcall := next_spec (g := g) n hG hH hp hs
    simp only [hc, if_true] at hcall
    refine rets_start Tryz.func61 rfl Tryz.ntmps61 rfl fun a Q0 hF hret hend => ?_
    simp only [argsFrom, Nat.zero_add, Nat.reduceAdd] at hF
    refine c_sr fun ops => ?_
    refine zm 2 hF rfl fun a hF => ?_
    refine c_n ?_
    replace hF := hF.sel [0, 1]
    simp only [ss, Nat.reduceBEq] at hF
    refine c_sr fun ops => ?_
    refine zm 2 hF rfl fun a hF => ?_
    refine zc hF rfl rfl fn79 (hcall) ?_
    rintro _ w ⟨rfl, hH⟩ a hF
    refine zm 5 hF rfl fun a hF => ?_
    refine c_n ?_
    replace hF := hF.sel [6, 7]
    simp only [ss, Nat.reduceBEq] at hF
    refine c_sr fun ops => ?_
    refine zm 2 hF rfl fun a hF => ?_
    refine zc hF rfl rfl fn80 (told_spec _ _ (hG.ext hH.below)) ?_
    rintro _ w ⟨rfl, hE⟩ a hF
    replace hH := hH.ext hE
    refine zm 2 hF rfl fun a hF => ?_
    refine c_n ?_
    replace hF := hF.sel [4, 5]
    simp only [ss, Nat.reduceBEq] at hF
    refine wp_ret (hret (ret2 hF Tryz.results61 rfl rfl ?_))
    exact ⟨rfl, hH⟩
  · simp only [hc, if_false]
    have hcall := next_spec (g := g) n hG hH hp hs
    simp only [hc, if_false] at hcall
    refine rets_start Tryz.func61 rfl Tryz.ntmps61 rfl fun a Q0 hF hret hend => ?_
    simp only [argsFrom, Nat.zero_add, Nat.reduceAdd] at hF
    refine c_sr fun ops => ?_
    refine zm 2 hF rfl fun a hF => ?_
    refine c_n ?_
    replace hF := hF.sel [0, 1]
    simp only [ss, Nat.reduceBEq] at hF
    refine c_sr fun ops => ?_
    refine zm 2 hF rfl fun a hF => ?_
    refine zc hF rfl rfl fn79 (hcall) ?_
    rintro _ w ⟨rfl, hH⟩ a hF
    refine zm 5 hF rfl fun a hF => ?_
    refine c_n ?_
    replace hF := hF.sel [6, 7]
    simp only [ss, Nat.reduceBEq] at hF
    refine c_sr fun ops => ?_
    refine zm 2 hF rfl fun a hF => ?_
    refine zc hF rfl rfl fn80 (told_spec _ _ (hG.ext hH.below)) ?_
    rintro _ w ⟨rfl, hE⟩ a hF
    replace hH := hH.ext hE
    refine zm 2 hF rfl fun a hF => ?_
    refine c_n ?_
    replace hF := hF.sel [4, 5]
    simp only [ss, Nat.reduceBEq] at hF
    refine wp_ret (hret (ret2 hF Tryz.results61 rfl rfl ?_))
    exact ⟨rfl, hH⟩

theorem number1_spec (hG : GW w0) (hH : Hp w0 w ((g, curO s p) :: H)) (hp : p ≤ s.length) (hs : s.length < 1000000) : Rets Tryz.prog 77 [ptr g, .int .i64 1] w
    fun v w' => v = (if s.length ≤ p then .tuple #[.int .u32 0, .int .i64 4] else .tuple #[.int .u32 ((s.getD p 0).toNat : Int), .int .i64 0]) ∧ Hp w0 w' ((g, curO s (if s.length ≤ p then p else p + 1)) :: H) := by
  have hc8 := (s.getD p 0).toNat_lt
  by_cases hc : s.length ≤ p
  · simp only [hc, if_true]
    have hcall := next_spec (g := g) 1 hG hH hp hs
    simp only [show s.length < p + 1 by omega, if_true] at hcall
    refine rets_start Tryz.func77 rfl Tryz.ntmps77 rfl fun a Q0 hF hret hend => ?_
    simp only [argsFrom, Nat.zero_add, Nat.reduceAdd] at hF
    refine c_sr fun ops => ?_
    refine zm 2 hF rfl fun a hF => ?_
    refine c_n ?_
    replace hF := hF.sel [0, 1]
    simp only [ss, Nat.reduceBEq] at hF
    refine c_sr fun ops => ?_
    refine zm 2 hF rfl fun a hF => ?_
    refine zc hF rfl rfl fn79 (hcall) ?_
    rintro _ w ⟨rfl, hH⟩ a hF
    refine zm 5 hF rfl fun a hF => ?_
    refine c_n ?_
    replace hF := hF.sel [6, 7]
    simp only [ss, Nat.reduceBEq] at hF
    refine c_sr fun ops => ?_
    refine zm 1 hF rfl fun a hF => ?_
    refine c_n ?_
    replace hF := hF.sel [6, 7, 8]
    simp only [ss, Nat.reduceBEq] at hF
    refine c_seq fun Q1 k1 t1 => ?_
    refine c_sr fun ops => ?_
    refine zm 1 hF rfl fun a hF => ?_
    refine zl hF rfl (r_len_str hF rfl rfl Tryz.underlying9) fun a hF => ?_
    refine zm 1 hF rfl fun a hF => ?_
    refine c_n ?_
    replace hF := hF.sel [6, 7, 8, 17, 18]
    simp only [ss, Nat.reduceBEq] at hF
    refine c_block fun Q2 t2 => ?_
    refine c_loop (fun n a w => n = 0 ∧ Fr 32 [(7, errV 4), (8, .int .u32 0), (17, .int .i64 0), (18, .int .i64 0)] a ∧ Hp w0 w ((g, curO s p) :: H)) ?_ ?_
    ·
     exact ⟨0, rfl, hF.keep [7, 8, 17, 18] rfl, hH⟩
    intro n a w hI Q3 k3 t3
    obtain ⟨_, hF, hH⟩ := hI
    refine c_sr fun ops => ?_
    refine zb hF rfl rfl rfl (b_lt _ _ _ _) fun a hF => ?_
    refine c_n ?_
    refine c_seq fun Q4 k4 t4 => ?_
    refine c_no hF rfl ((by decide)) ?_
    refine wp_exit (t4.exit (t3.exit (t2.here (?_))))
    refine k1 ?_
    refine c_sr fun ops => ?_
    refine zm 2 hF rfl fun a hF => ?_
    refine zc hF rfl rfl fn80 (told_spec _ _ (hG.ext hH.below)) ?_
    rintro _ w ⟨rfl, hE⟩ a hF
    replace hH := hH.ext hE
    refine zm 2 hF rfl fun a hF => ?_
    refine c_n ?_
    replace hF := hF.sel [4, 5]
    simp only [ss, Nat.reduceBEq] at hF
    refine wp_ret (hret (ret2 hF Tryz.results77 rfl rfl ?_))
    exact ⟨rfl, hH⟩
  · simp only [hc, if_false]
    have hcall := next_spec (g := g) 1 hG hH hp hs
    simp only [show ¬ s.length < p + 1 by omega, if_false] at hcall
    have e1 : (s.drop p).take 1 = [s.getD p 0] := by
      rw [List.drop_eq_getElem_cons (show p < s.length by omega), show s.getD p 0 = s[p]'(by omega) by simp [List.getD_eq_getElem?_getD, show p < s.length by omega]]
      rfl
    rw [e1] at hcall
    generalize s.getD p 0 = c at *
    refine rets_start Tryz.func77 rfl Tryz.ntmps77 rfl fun a Q0 hF hret hend => ?_
    simp only [argsFrom, Nat.zero_add, Nat.reduceAdd] at hF
    refine c_sr fun ops => ?_
    refine zm 2 hF rfl fun a hF => ?_
    refine c_n ?_
    replace hF := hF.sel [0, 1]
    simp only [ss, Nat.reduceBEq] at hF
    refine c_sr fun ops => ?_
    refine zm 2 hF rfl fun a hF => ?_
    refine zc hF rfl rfl fn79 (hcall) ?_
    rintro _ w ⟨rfl, hH⟩ a hF
    refine zm 5 hF rfl fun a hF => ?_
    refine c_n ?_
    replace hF := hF.sel [6, 7]
    simp only [ss, Nat.reduceBEq] at hF
    refine c_sr fun ops => ?_
    refine zm 1 hF rfl fun a hF => ?_
    refine c_n ?_
    replace hF := hF.sel [6, 7, 8]
    simp only [ss, Nat.reduceBEq] at hF
    refine c_seq fun Q1 k1 t1 => ?_
    refine c_sr fun ops => ?_
    refine zm 1 hF rfl fun a hF => ?_
    refine zl hF rfl (r_len_str hF rfl rfl Tryz.underlying9) fun a hF => ?_
    refine zm 1 hF rfl fun a hF => ?_
    refine c_n ?_
    replace hF := hF.sel [6, 7, 8, 17, 18]
    simp only [ss, Nat.reduceBEq] at hF
    refine c_block fun Q2 t2 => ?_
    refine c_loop (fun n a w => ∃ i, n = 1 - i ∧ i ≤ 1 ∧ Fr 32 [(6, .string (mk [c])), (7, errV 0), (8, .int .u32 ((if i = 0 then 0 else c.toNat : Nat) : Int)), (17, .int .i64 1), (18, .int .i64 i)] a ∧ Hp w0 w ((g, curO s (p + 1)) :: H)) ?_ ?_
    ·
     exact ⟨1, 0, rfl, Nat.zero_le _, hF.keep [6, 7, 8, 17, 18] rfl, hH⟩
    clear hH hF
    intro n a w hI Q3 k3 t3
    obtain ⟨i, hn, hi, hF, hH⟩ := hI
    refine c_sr fun ops => ?_
    refine zb hF rfl rfl rfl (b_ltn _ _ _ _) fun a hF => ?_
    refine c_n ?_
    refine c_seq fun Q4 k4 t4 => ?_
    refine c_fi hF rfl (fun h19 => ?_) (fun h19 => ?_)
    ·
     try simp only [qq] at h19
     have h0 : i = 1 := by omega
     subst h0
     simp only [Nat.one_ne_zero, if_false] at hF
     refine wp_exit (t4.exit (t3.exit (t2.here (?_))))
     refine k1 ?_
     refine c_sr fun ops => ?_
     refine zm 2 hF rfl fun a hF => ?_
     refine zc hF rfl rfl fn80 (told_spec _ _ (hG.ext hH.below)) ?_
     rintro _ w ⟨rfl, hE⟩ a hF
     replace hH := hH.ext hE
     refine zm 2 hF rfl fun a hF => ?_
     refine c_n ?_
     replace hF := hF.sel [4, 5]
     simp only [ss, Nat.reduceBEq] at hF
     refine wp_ret (hret (ret2 hF Tryz.results77 rfl rfl ?_))
     exact ⟨rfl, hH⟩
    try simp only [qq] at h19
    have h0 : i = 0 := by omega
    subst h0
    simp only [if_true] at hF
    refine wp_skip ?_
    refine k4 ?_
    refine c_seq fun Q5 k5 t5 => ?_
    refine c_block fun Q6 t6 => ?_
    refine c_sr fun ops => ?_
    refine zm 2 hF rfl fun a hF => ?_
    refine c_n ?_
    refine c_reg fun ops => ?_
    refine zm 1 hF rfl fun a hF => ?_
    refine zb hF rfl rfl rfl (b_shl8u _ 0 (by omega)) fun a hF => ?_
    refine zm 2 hF rfl fun a hF => ?_
    refine zl hF rfl (r_indexn hF _ rfl rfl rfl Tryz.underlying9 (by simp)) fun a hF => ?_
    refine zl hF rfl (r_convin hF rfl rfl (by rw [Tryz.underlying5]; rfl) Tryz.underlying54 (0) 4294967295 mn_u32 mx_u32 (by simp; omega)) fun a hF => ?_
    refine zb hF rfl rfl rfl (b_orju _ 0 _ (by omega) (by simp; omega)) fun a hF => ?_
    refine zm 1 hF rfl fun a hF => ?_
    refine wpList_nil ?_
    refine t6.norm ?_
    refine k5 ?_
    refine c_reg fun ops => ?_
    refine zb hF rfl rfl rfl (b_addn _ _ 1 (by omega)) fun a hF => ?_
    refine zm 1 hF rfl fun a hF => ?_
    refine wpList_nil ?_
    refine k3 ?_
    exact ⟨0, by omega, 1, rfl, Nat.le_refl _, hF.keep [6, 7, 8, 17, 18] (by simp [sel, lk]), hH⟩

theorem byte_spec (hG : GW w0) (hH : Hp w0 w ((g, curO s p) :: H)) (hp : p ≤ s.length) (hs : s.length < 1000000) : Rets Tryz.prog 78 [ptr g] w
    fun v w' => v = (if s.length ≤ p then .tuple #[.int .u8 0, .int .i64 4] else .tuple #[.int .u8 ((s.getD p 0).toNat : Int), .int .i64 0]) ∧ Hp w0 w' ((g, curO s (if s.length ≤ p then p else p + 1)) :: H) := by
  have hc8 := (s.getD p 0).toNat_lt
  by_cases hc : s.length ≤ p
  · simp only [hc, if_true]
    have hcall := number1_spec (g := g) hG hH hp hs
    simp only [hc, if_true] at hcall
    refine rets_start Tryz.func78 rfl Tryz.ntmps78 rfl fun a Q0 hF hret hend => ?_
    simp only [argsFrom, Nat.zero_add, Nat.reduceAdd] at hF
    refine c_sr fun ops => ?_
    refine zm 2 hF rfl fun a hF => ?_
    refine c_n ?_
    replace hF := hF.sel [0]
    simp only [ss, Nat.reduceBEq] at hF
    refine c_sr fun ops => ?_
    refine zm 1 hF rfl fun a hF => ?_
    refine zc hF rfl rfl fn77 (hcall) ?_
    rintro _ w ⟨rfl, hH⟩ a hF
    refine zm 5 hF rfl fun a hF => ?_
    refine c_n ?_
    replace hF := hF.sel [4, 5]
    simp only [ss, Nat.reduceBEq] at hF
    refine c_sr fun ops => ?_
    refine zm 1 hF rfl fun a hF => ?_
    refine zl hF rfl (r_convin hF rfl rfl (by rw [Tryz.underlying54]; rfl) Tryz.underlying5 (0) 255 mn_u8 mx_u8 (by decide)) fun a hF => ?_
    refine zm 3 hF rfl fun a hF => ?_
    refine c_n ?_
    replace hF := hF.sel [2, 3]
    simp only [ss, Nat.reduceBEq] at hF
    refine wp_ret (hret (ret2 hF Tryz.results78 rfl rfl ?_))
    exact ⟨rfl, hH⟩
  · simp only [hc, if_false]
    have hcall := number1_spec (g := g) hG hH hp hs
    simp only [hc, if_false] at hcall
    refine rets_start Tryz.func78 rfl Tryz.ntmps78 rfl fun a Q0 hF hret hend => ?_
    simp only [argsFrom, Nat.zero_add, Nat.reduceAdd] at hF
    refine c_sr fun ops => ?_
    refine zm 2 hF rfl fun a hF => ?_
    refine c_n ?_
    replace hF := hF.sel [0]
    simp only [ss, Nat.reduceBEq] at hF
    refine c_sr fun ops => ?_
    refine zm 1 hF rfl fun a hF => ?_
    refine zc hF rfl rfl fn77 (hcall) ?_
    rintro _ w ⟨rfl, hH⟩ a hF
    refine zm 5 hF rfl fun a hF => ?_
    refine c_n ?_
    replace hF := hF.sel [4, 5]
    simp only [ss, Nat.reduceBEq] at hF
    refine c_sr fun ops => ?_
    refine zm 1 hF rfl fun a hF => ?_
    refine zl hF rfl (r_convin hF rfl rfl (by rw [Tryz.underlying54]; rfl) Tryz.underlying5 (0) 255 mn_u8 mx_u8 (by omega)) fun a hF => ?_
    refine zm 3 hF rfl fun a hF => ?_
    refine c_n ?_
    replace hF := hF.sel [2, 3]
    simp only [ss, Nat.reduceBEq] at hF
    refine wp_ret (hret (ret2 hF Tryz.results78 rfl rfl ?_))
    exact ⟨rfl, hH⟩

theorem seek_spec (n : Nat) (hH : Hp w0 w ((g, curO s p) :: H)) (hs : s.length < 1000000) : Rets Tryz.prog 23 [ptr g, .int .i64 n] w
    fun v w' => v = .int .i64 (if n ≤ s.length then 0 else 1) ∧ Hp w0 w' ((g, curO s (if n ≤ s.length then n else p)) :: H) := by
  refine rets_start Tryz.func23 rfl Tryz.ntmps23 rfl fun a Q0 hF hret hend => ?_
  simp only [argsFrom, Nat.zero_add, Nat.reduceAdd] at hF
  refine c_sr fun ops => ?_
  refine zm 1 hF rfl fun a hF => ?_
  refine c_n ?_
  replace hF := hF.sel [0, 1]
  simp only [ss, Nat.reduceBEq] at hF
  refine c_seq fun Q1 k1 t1 => ?_
  refine c_block fun Q2 t2 => ?_
  refine c_sr fun ops => ?_
  refine zm 1 hF rfl fun a hF => ?_
  refine zb hF rfl rfl rfl (b_peq Tryz.underlying64) fun a hF => ?_
  refine zm 1 hF rfl fun a hF => ?_
  refine c_n ?_
  replace hF := hF.sel [0, 1, 5]
  simp only [ss, Nat.reduceBEq] at hF
  refine c_no hF rfl (rfl) ?_
  refine c_sg ?_
  refine zm 1 hF rfl fun a hF => ?_
  refine zb hF rfl rfl rfl (b_ltn _ _ _ 0) fun a hF => ?_
  refine zm 1 hF rfl fun a hF => ?_
  refine ls_ask (d := 11) hF rfl (fun g3_2 => ?_) (fun g3_2 => ?_)
  ·
   have g3_2' := g3_2; try simp only [qq] at g3_2'
   omega
  have g3_2' := g3_2; try simp only [qq] at g3_2'
  refine zy hF rfl g3_2 (r_move hF rfl rfl) fun a hF => ?_
  refine zy hF rfl g3_2 (r_move hF rfl rfl) fun a hF => ?_
  refine zy hF rfl g3_2 (r_nilcheck hF rfl rfl) fun a hF => ?_
  refine zy hF rfl g3_2 (r_fieldaddr0 hF rfl rfl fd114_0) fun a hF => ?_
  refine zy hF rfl g3_2 (r_load hF rfl rfl fl9 (own_cell (i := 0) hH rfl rfl)) fun a hF => ?_
  refine zy hF rfl g3_2 (r_len_str hF rfl rfl Tryz.underlying9) fun a hF => ?_
  refine zy hF rfl g3_2 (zr hF rfl rfl (b_gtn _ _ _ _)) fun a hF => ?_
  refine zl hF rfl (r_pickf hF rfl rfl g3_2 rfl) fun a hF => ?_
  refine zm 1 hF rfl fun a hF => ?_
  refine c_n ?_
  replace hF := hF.sel [0, 1, 8]
  simp only [ss, Nat.reduceBEq] at hF
  refine c_if hF rfl (fun h8 => ?_) (fun h8 => ?_)
  ·
   try simp only [qq] at h8
   refine c_sr fun ops => ?_
   refine zm 1 hF rfl fun a hF => ?_
   refine c_n ?_
   replace hF := hF.sel [4]
   simp only [ss, Nat.reduceBEq] at hF
   refine wp_ret (t2.ret (t1.ret (hret (ret1 hF Tryz.results23 rfl ?_))))
   rw [if_neg (by omega), if_neg (by omega)]
   exact ⟨rfl, hH⟩
  try simp only [qq] at h8
  refine wp_skip ?_
  refine t2.norm ?_
  refine k1 ?_
  refine c_sr fun ops => ?_
  refine zm 2 hF rfl fun a hF => ?_
  refine zl hF rfl (r_nilcheck hF rfl rfl) fun a hF => ?_
  refine zl hF rfl (r_fieldaddr0 hF rfl rfl fd114_1) fun a hF => ?_
  refine ls_store 0 hF hH rfl rfl rfl rfl rfl fl3 ti3 rfl (by simp) (by simp [noFreeze]) (rfl) ?_
  intro w hH
  refine c_n ?_
  replace hF := hF.sel []
  simp only [ss, Nat.reduceBEq] at hF
  refine c_sr fun ops => ?_
  refine zm 1 hF rfl fun a hF => ?_
  refine c_n ?_
  replace hF := hF.sel [4]
  simp only [ss, Nat.reduceBEq] at hF
  refine wp_ret (hret (ret1 hF Tryz.results23 rfl ?_))
  rw [if_pos (by omega), if_pos (by omega)]
  exact ⟨rfl, hH⟩

theorem at_spec (hH : Hp w0 w ((g, curO s p) :: H)) : Rets Tryz.prog 57 [ptr g] w fun v w' => v = .int .i64 p ∧ Hp w0 w' ((g, curO s p) :: H) := by
  refine rets_start Tryz.func57 rfl Tryz.ntmps57 rfl fun a Q0 hF hret hend => ?_
  simp only [argsFrom, Nat.zero_add, Nat.reduceAdd] at hF
  refine c_sr fun ops => ?_
  refine zm 1 hF rfl fun a hF => ?_
  refine c_n ?_
  replace hF := hF.sel [0]
  simp only [ss, Nat.reduceBEq] at hF
  refine c_seq fun Q1 k1 t1 => ?_
  refine c_sr fun ops => ?_
  refine zm 1 hF rfl fun a hF => ?_
  refine zb hF rfl rfl rfl (b_peq Tryz.underlying64) fun a hF => ?_
  refine c_n ?_
  replace hF := hF.sel [0, 4]
  simp only [ss, Nat.reduceBEq] at hF
  refine c_no hF rfl (rfl) ?_
  refine wp_skip ?_
  refine k1 ?_
  refine c_sr fun ops => ?_
  refine zm 1 hF rfl fun a hF => ?_
  refine zl hF rfl (r_nilcheck hF rfl rfl) fun a hF => ?_
  refine zl hF rfl (r_fieldaddr0 hF rfl rfl fd114_1) fun a hF => ?_
  refine zl hF rfl (r_load hF rfl rfl fl3 (own_cell (i := 0) hH rfl rfl)) fun a hF => ?_
  refine zm 1 hF rfl fun a hF => ?_
  refine c_n ?_
  replace hF := hF.sel [2]
  simp only [ss, Nat.reduceBEq] at hF
  refine wp_ret (hret (ret1 hF Tryz.results57 rfl ?_))
  exact ⟨rfl, hH⟩
theorem left_spec (hH : Hp w0 w ((g, curO s p) :: H)) (hp : p ≤ s.length) (hs : s.length < 1000000) : Rets Tryz.prog 29 [ptr g] w fun v w' => v = .int .i64 ((s.length - p : Nat) : Int) ∧ Hp w0 w' ((g, curO s p) :: H) := by
  refine rets_start Tryz.func29 rfl Tryz.ntmps29 rfl fun a Q0 hF hret hend => ?_
  simp only [argsFrom, Nat.zero_add, Nat.reduceAdd] at hF
  refine c_sr fun ops => ?_
  refine zm 1 hF rfl fun a hF => ?_
  refine c_n ?_
  replace hF := hF.sel [0]
  simp only [ss, Nat.reduceBEq] at hF
  refine c_seq fun Q1 k1 t1 => ?_
  refine c_sr fun ops => ?_
  refine zm 1 hF rfl fun a hF => ?_
  refine zb hF rfl rfl rfl (b_peq Tryz.underlying64) fun a hF => ?_
  refine c_n ?_
  replace hF := hF.sel [0, 4]
  simp only [ss, Nat.reduceBEq] at hF
  refine c_no hF rfl (rfl) ?_
  refine wp_skip ?_
  refine k1 ?_
  refine c_seq fun Q2 k2 t2 => ?_
  refine q_reg (by kernel_rfl) (by kernel_rfl) ?_
  refine qs hF rfl rfl rfl (fun w hw => r_move hF rfl rfl) fun a hF => ?_
  refine qs hF rfl rfl rfl (fun w hw => r_nilcheck hF rfl rfl) fun a hF => ?_
  refine qs hF rfl rfl rfl (fun w hw => r_fieldaddr0 hF rfl rfl fd114_0) fun a hF => ?_
  refine qs hF rfl rfl rfl (fun w hw => r_load hF rfl rfl fl9 (hw.cell (own_cell (i := 0) hH rfl rfl))) fun a hF => ?_
  refine qs hF rfl rfl rfl (fun w hw => r_len_str hF rfl rfl Tryz.underlying9) fun a hF => ?_
  refine qs hF rfl rfl rfl (fun w hw => r_move hF rfl rfl) fun a hF => ?_
  refine qs hF rfl rfl rfl (fun w hw => r_nilcheck hF rfl rfl) fun a hF => ?_
  refine qs hF rfl rfl rfl (fun w hw => r_fieldaddr0 hF rfl rfl fd114_1) fun a hF => ?_
  refine qs hF rfl rfl rfl (fun w hw => r_load hF rfl rfl fl3 (hw.cell (own_cell (i := 0) hH rfl rfl))) fun a hF => ?_
  refine qs hF rfl rfl rfl (fun w hw => zr hF rfl rfl (b_subn _ _ _ (by omega))) fun a hF => ?_
  refine qs hF rfl rfl rfl (fun w hw => r_assign hF rfl rfl) fun a hF => ?_
  refine q_nil fun w hE => ?_
  replace hH := hH.ext hE
  replace hF := hF.sel [2]
  simp only [ss, Nat.reduceBEq] at hF
  refine k2 ?_
  refine wp_ret (hret (ret1 hF Tryz.results29 rfl ?_))
  exact ⟨rfl, hH⟩

theorem byte_spec' (hG : GW w0) (hH : Hp w0 w ((g, curO s p) :: H)) (hp : p ≤ s.length) (hs : s.length < 1000000) : Rets Tryz.prog 78 [ptr g] w
    fun v w' => v = .tuple #[.int .u8 ((s.getD p 0).toNat : Int), .int .i64 (if s.length ≤ p then 4 else 0 : Nat)] ∧ Hp w0 w' ((g, curO s (if s.length ≤ p then p else p + 1)) :: H) := by
  refine (byte_spec hG hH hp hs).mono ?_
  rintro v w' ⟨rfl, h⟩
  refine ⟨?_, h⟩
  split
  · rename_i hc
    have : s.getD p 0 = 0 := by simp [List.getD_eq_getElem?_getD, List.getElem?_eq_none hc]
    rw [this]; rfl
  · rfl
theorem take_spec' (n : Nat) (hG : GW w0) (hH : Hp w0 w ((g, curO s p) :: H)) (hp : p ≤ s.length) (hs : s.length < 1000000) : Rets Tryz.prog 61 [ptr g, .int .i64 n] w
    fun v w' => v = .tuple #[.string (mk (if s.length < p + n then [] else (s.drop p).take n)), .int .i64 (if s.length < p + n then 4 else 0 : Nat)] ∧ Hp w0 w' ((g, curO s (if s.length < p + n then p else p + n)) :: H) := by
  refine (take_spec n hG hH hp hs).mono ?_
  rintro v w' ⟨rfl, h⟩
  refine ⟨?_, h⟩
  split <;> rfl
theorem seek_spec' (n : Nat) (hH : Hp w0 w ((g, curO s p) :: H)) (hs : s.length < 1000000) : Rets Tryz.prog 23 [ptr g, .int .i64 n] w
    fun v w' => v = .int .i64 (if n ≤ s.length then 0 else 1 : Nat) ∧ Hp w0 w' ((g, curO s (if n ≤ s.length then n else p)) :: H) := by
  refine (seek_spec n hH hs).mono ?_
  rintro v w' ⟨rfl, h⟩
  refine ⟨?_, h⟩
  split <;> rfl
end
end Go.Proofs.YtpoebplhemimmaaGreatDoor
