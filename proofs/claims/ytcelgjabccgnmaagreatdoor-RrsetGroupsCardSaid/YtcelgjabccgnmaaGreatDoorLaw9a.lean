/-
  The walks of the small functions of hustingslaw09. Nothing is claimed here.
-/
import Derived.Test.YtcelgjabccgnmaaGreatDoorKit2
import Derived.Test.YtcelgjabccgnmaaGreatDoorChain
namespace Go.Proofs.YtcelgjabccgnmaaGreatDoor
open Go.RowKit
set_option linter.unusedVariables false
set_option linter.unusedSimpArgs false
set_option maxHeartbeats 1000000

def letterB (c : UInt8) : Bs := if c.toNat = 0 then [0] else [1, c, 0]
theorem letter_spec (c : UInt8) (n : Nat) (hn : n = c.toNat) (w0 : World) : Rets Tryz.prog 77 [.int .u8 n] w0 fun v w' => v = .string (mk (letterB c)) ∧ Ext w0 w' := by
  subst hn
  have hH := Hp.refl w0
  refine rets_start Tryz.func77 rfl Tryz.ntmps77 rfl fun a Q0 hF hret hend => ?_
  simp only [argsFrom, Nat.zero_add, Nat.reduceAdd] at hF
  refine c_sr fun ops => ?_
  refine zm 1 hF rfl fun a hF => ?_
  refine c_n ?_
  replace hF := hF.sel [0]
  simp only [ss, Nat.reduceBEq] at hF
  refine c_seq fun Q1 k1 t1 => ?_
  refine c_sr fun ops => ?_
  refine zm 1 hF rfl fun a hF => ?_
  refine zb hF rfl rfl rfl (b_eqn _ _ _ 0) fun a hF => ?_
  refine c_n ?_
  replace hF := hF.sel [0, 4]
  simp only [ss, Nat.reduceBEq] at hF
  refine c_if hF rfl (fun h4 => ?_) (fun h4 => ?_)
  ·
   try simp only [qq] at h4
   refine c_sr fun ops => ?_
   refine zm 1 hF rfl fun a hF => ?_
   refine c_n ?_
   replace hF := hF.sel [2]
   simp only [ss, Nat.reduceBEq] at hF
   refine wp_ret (t1.ret (hret (ret1 hF Tryz.results77 rfl ?_)))
   exact ⟨by rw [letterB, if_pos (by omega)]; rfl, hH.below⟩
  try simp only [qq] at h4
  refine wp_skip ?_
  refine k1 ?_
  refine c_sr fun ops => ?_
  refine zm 1 hF rfl fun a hF => ?_
  refine ls_buildN (us := [_, _, _]) hF hH rfl rfl rfl rfl rfl rfl Tryz.underlying88 ti5 (by intro u hu; simp only [List.mem_cons, List.not_mem_nil, or_false] at hu; rcases hu with rfl | rfl | rfl <;> rfl) (by decide) ?_
  intro a w g3_1 hH hE hF
  refine zl hF rfl (r_convstr hF rfl rfl Tryz.underlying88 Tryz.underlying5 Tryz.underlying9 ((show RSl _ 1 _ 3 (bytV [1, c, 0]) from rsl_lit (n := 3) (size := 1) hH rfl (by decide)))) fun a hF => ?_
  refine zm 1 hF rfl fun a hF => ?_
  refine c_n ?_
  replace hF := hF.sel [2]
  simp only [ss, Nat.reduceBEq] at hF
  refine wp_ret (hret (ret1 hF Tryz.results77 rfl ?_))
  exact ⟨by rw [letterB, if_neg (by omega)], hH.below⟩
theorem of_spec (c : UInt8) (n kind : Nat) (hn : n = c.toNat) (w0 : World) : Rets Tryz.prog 74 [.int .u8 n, .int .u16 kind] w0 fun v w' => v = .agg (queV (letterB c) kind 1).toArray ∧ Ext w0 w' := by
  have hH := Hp.refl w0
  refine rets_start Tryz.func74 rfl Tryz.ntmps74 rfl fun a Q0 hF hret hend => ?_
  simp only [argsFrom, Nat.zero_add, Nat.reduceAdd] at hF
  refine c_sr fun ops => ?_
  refine ls_alloc hF hH rfl rfl rfl rfl zv49 ?_
  intro a w g0_0 hH hE hF
  refine c_n ?_
  replace hF := hF.sel [0, 1, 4]
  simp only [ss, Nat.reduceBEq] at hF
  refine c_sr fun ops => ?_
  refine zm 1 hF rfl fun a hF => ?_
  refine zc hF rfl rfl fn77 (letter_spec c n hn _) ?_
  rintro _ w ⟨rfl, hE⟩ a hF
  replace hH := hH.ext hE
  refine zm 1 hF rfl fun a hF => ?_
  refine zl hF rfl (r_build hF rfl rfl (bd49_0_1_2 _ _ _ _ (rfl) (rfl) (rfl))) fun a hF => ?_
  refine ls_storeagg 0 hF hH rfl rfl rfl rfl rfl ti49 rfl (rfl) (rfl) (by simp [Value.oneCell']) ?_
  intro w hH
  refine c_n ?_
  replace hF := hF.sel [4]
  simp only [ss, Nat.reduceBEq] at hF
  refine wp_ret (hret (retc1 (fn := Tryz.f74) (t := 4) (i := 0) hF hH Tryz.results74 rfl (by kernel_rfl) ti49 rfl rfl ?_))
  exact ⟨rfl, hH.below⟩
theorem alias_spec (c d : UInt8) (n m : Nat) (hn : n = c.toNat) (hm : m = d.toNat) (w0 : World) : Rets Tryz.prog 75 [.int .u8 n, .int .u8 m] w0 fun v w' => v = .agg (recV ⟨letterB c, 5, 1, 0, letterB d⟩).toArray ∧ Ext w0 w' := by
  have hH := Hp.refl w0
  refine rets_start Tryz.func75 rfl Tryz.ntmps75 rfl fun a Q0 hF hret hend => ?_
  simp only [argsFrom, Nat.zero_add, Nat.reduceAdd] at hF
  refine c_sr fun ops => ?_
  refine ls_alloc hF hH rfl rfl rfl rfl zv38 ?_
  intro a w g0_0 hH hE hF
  refine c_n ?_
  replace hF := hF.sel [0, 1, 4]
  simp only [ss, Nat.reduceBEq] at hF
  refine c_sr fun ops => ?_
  refine zm 1 hF rfl fun a hF => ?_
  refine zc hF rfl rfl fn77 (letter_spec c n hn _) ?_
  rintro _ w ⟨rfl, hE⟩ a hF
  replace hH := hH.ext hE
  refine zm 1 hF rfl fun a hF => ?_
  refine zc hF rfl rfl fn77 (letter_spec d m hm _) ?_
  rintro _ w ⟨rfl, hE⟩ a hF
  replace hH := hH.ext hE
  refine zl hF rfl (r_build hF rfl rfl (bd38_0_1_2_4 _ _ _ _ _ (rfl) (rfl) (rfl) (rfl))) fun a hF => ?_
  refine ls_storeagg 0 hF hH rfl rfl rfl rfl rfl ti38 rfl (rfl) (rfl) (by simp [Value.oneCell']) ?_
  intro w hH
  refine c_n ?_
  replace hF := hF.sel [4]
  simp only [ss, Nat.reduceBEq] at hF
  refine wp_ret (hret (retc1 (fn := Tryz.f75) (t := 4) (i := 0) hF hH Tryz.results75 rfl (by kernel_rfl) ti38 rfl rfl ?_))
  exact ⟨rfl, hH.below⟩
theorem address_spec (c : UInt8) (n : Nat) (hn : n = c.toNat) (w0 : World) : Rets Tryz.prog 76 [.int .u8 n] w0 fun v w' => v = .agg (recV ⟨letterB c, 1, 1, 0, [10, 0, 0, 1]⟩).toArray ∧ Ext w0 w' := by
  have hH := Hp.refl w0
  refine rets_start Tryz.func76 rfl Tryz.ntmps76 rfl fun a Q0 hF hret hend => ?_
  simp only [argsFrom, Nat.zero_add, Nat.reduceAdd] at hF
  refine c_sr fun ops => ?_
  refine ls_alloc hF hH rfl rfl rfl rfl zv38 ?_
  intro a w g0_0 hH hE hF
  refine c_n ?_
  replace hF := hF.sel [0, 2]
  simp only [ss, Nat.reduceBEq] at hF
  refine c_sr fun ops => ?_
  refine zm 1 hF rfl fun a hF => ?_
  refine zc hF rfl rfl fn77 (letter_spec c n hn _) ?_
  rintro _ w ⟨rfl, hE⟩ a hF
  replace hH := hH.ext hE
  refine zl hF rfl (r_build hF rfl rfl (bd38_0_1_2_4 _ _ _ _ _ (rfl) (rfl) (rfl) (rfl))) fun a hF => ?_
  refine ls_storeagg 0 hF hH rfl rfl rfl rfl rfl ti38 rfl (rfl) (rfl) (by simp [Value.oneCell']) ?_
  intro w hH
  refine c_n ?_
  replace hF := hF.sel [2]
  simp only [ss, Nat.reduceBEq] at hF
  refine wp_ret (hret (retc1 (fn := Tryz.f76) (t := 2) (i := 0) hF hH Tryz.results76 rfl (by kernel_rfl) ti38 rfl rfl ?_))
  exact ⟨rfl, hH.below⟩

/-- What a question comes to. -/
def toldN (nm : Bs) (kind cls : Nat) (l : List Rec) : Nat × Bs × Nat × Nat :=
  ((followC nm kind cls (groupN l)).2.1.length, (followC nm kind cls (groupN l)).2.2, (endsOf (followC nm kind cls (groupN l)) kind cls (groupN l)).length, (followC nm kind cls (groupN l)).1)
theorem told9_spec {nm : Bs} {kind cls : Nat} (l : List Rec) {v : Value} {w0 : World} {x : Nat × Bs × Nat × Nat} (h : toldN nm kind cls l = x) (hR : RSl w0 5 v l.length (recsV l)) (hb : RecsB l) (hn : nm.length < 1000000) (hG : GW w0) :
    Rets Tryz.prog 73 [.agg (queV nm kind cls).toArray, v] w0 fun r w' => r = .tuple #[.int .i64 (x.1 : Nat), .string (mk x.2.1), .int .i64 (x.2.2.1 : Nat), .int .i64 (x.2.2.2 : Nat)] ∧ Ext w0 w' := by
  subst h
  have hH := Hp.refl w0
  have hgb := group_bounds hb
  refine rets_start Tryz.func73 rfl Tryz.ntmps73 rfl fun a Q0 hF hret hend => ?_
  simp only [argsFrom, Nat.zero_add, Nat.reduceAdd] at hF
  refine c_sr fun ops => ?_
  refine ls_box hF hH rfl rfl rfl rfl rfl ?_
  intro a w g0_0 hH hE hF
  refine zm 4 hF rfl fun a hF => ?_
  refine c_n ?_
  replace hF := hF.sel [1, 2]
  simp only [ss, Nat.reduceBEq] at hF
  refine c_seq fun Q1 k1 t1 => ?_
  refine c_flow [1] [0, 2] [3] [4, 5, 6, 7, 8, 9, 10, 11, 12] (by kernel_rfl) (by kernel_rfl) fun hB => ?_
  refine ps hF rfl rfl rfl rfl (fun w => r_move hF rfl rfl) fun a hF => ?_
  refine fl_start [13, 15] hB (by kernel_rfl) hF ?_
  simp only [wo, hasN, Nat.reduceBEq, cond_true, cond_false] at hF ⊢
  refine fs1 rfl (by
   intro a w Lr hE hC hl
   replace hH := hH.ext hE
   have hF := hC.fr
   exact zl hF rfl (r_loadagg hF rfl rfl Tryz.underlying49 ti49 rfl (own_agg (i := 0) hH rfl)) fun a' hF' => wpList_nil (fl_end hC hF' (Ext.refl _) rfl)) ?_
  refine fs (fun v w' => SetsR w' v (groupN l)) rfl (fun _ _ _ he h => h.ext he) ?_ ?_
  ·
   intro a w Lr hE hC hl
   replace hH := hH.ext hE
   have hF := hC.fr
   refine zc hF rfl rfl fn30 (group8_spec l v _ (hR.ext hH.below) hb.len hb.each) ?_
   rintro v15 w' ⟨B, es, hB, hS, hK, hg⟩ a' hF'; have hE' := hB.below
   exact wpList_nil (fl_end hC hF' hE' (by rw [← hg]; exact sets_read hB hS hK (fun p hp => List.mem_append_left _ hp) (fun p hp => List.mem_append_right _ hp)))
  intro a w hE hF hall
  replace hH := hH.ext hE
  obtain ⟨_, s13, rfl⟩ := hall 13 _ rfl
  replace hF := hF.more s13
  obtain ⟨v15, s15, p15⟩ := hall 15 _ rfl
  replace hF := hF.more s15
  clear hall
  refine zc hF rfl rfl fn36 (follow_spec nm kind cls (groupN l) v15 _ p15 hgb.len hn hgb.name hgb.data hgb.each (hG.ext hH.below)) ?_
  rintro _ w ⟨cv, ev, B1, es1, B2, es2, rfl, hB, hS1, hK1, h1, hS2, hK2, h2⟩ a hF
  replace hH := hH.join hB
  refine wpList_nil ?_
  refine ps hF rfl rfl rfl rfl (fun w => r_move hF rfl rfl) fun a hF => ?_
  refine ps hF rfl rfl rfl rfl (fun w => r_extract hF rfl rfl rfl) fun a hF => ?_
  refine ps hF rfl rfl rfl rfl (fun w => r_extract hF rfl rfl rfl) fun a hF => ?_
  refine ps hF rfl rfl rfl rfl (fun w => r_extract hF rfl rfl rfl) fun a hF => ?_
  refine ps hF rfl rfl rfl rfl (fun w => r_extract hF rfl rfl rfl) fun a hF => ?_
  refine ps hF rfl rfl rfl rfl (fun w => r_assign hF rfl rfl) fun a hF => ?_
  refine ps hF rfl rfl rfl rfl (fun w => r_assign hF rfl rfl) fun a hF => ?_
  refine ps hF rfl rfl rfl rfl (fun w => r_assign hF rfl rfl) fun a hF => ?_
  refine ps hF rfl rfl rfl rfl (fun w => r_assign hF rfl rfl) fun a hF => ?_
  replace hF := hF.sel [8, 9, 10, 11]
  simp only [ss, Nat.reduceBEq] at hF
  obtain ⟨_, _, rfl⟩ := hS1.shape
  obtain ⟨_, _, rfl⟩ := hS2.shape
  refine k1 ?_
  refine c_sr fun ops => ?_
  refine zm 1 hF rfl fun a hF => ?_
  refine zl hF rfl (r_len_sl hF rfl rfl Tryz.underlying22) fun a hF => ?_
  refine zm 2 hF rfl fun a hF => ?_
  refine zl hF rfl (r_len_sl hF rfl rfl Tryz.underlying22) fun a hF => ?_
  refine zm 5 hF rfl fun a hF => ?_
  refine c_n ?_
  replace hF := hF.sel [4, 5, 6, 7]
  simp only [ss, Nat.reduceBEq] at hF
  refine wp_ret (hret (ret4 hF Tryz.results73 rfl rfl rfl rfl ?_))
  refine ⟨?_, hH.below⟩
  unfold toldN
  rw [← h1, ← h2, List.length_map, List.length_map]

theorem awake9_spec (w0 : World) (hG : GW w0) : Rets Tryz.prog 35 [] w0 fun v w' => v = .bool true ∧ Ext w0 w' := by
  have hH := Hp.refl w0
  refine rets_start Tryz.func35 rfl Tryz.ntmps35 rfl fun a Q0 hF hret hend => ?_
  simp only [argsFrom, Nat.zero_add, Nat.reduceAdd] at hF
  refine c_sr fun ops => ?_
  refine zm 1 hF rfl fun a hF => ?_
  refine c_n ?_
  replace hF := hF.sel []
  simp only [ss, Nat.reduceBEq] at hF
  refine c_sr fun ops => ?_
  refine zc hF rfl rfl fn74 (of_spec 119 119 1 rfl _) ?_
  rintro _ w ⟨rfl, hE⟩ a hF
  replace hH := hH.ext hE
  refine zc hF rfl rfl fn75 (alias_spec 119 97 119 97 rfl rfl _) ?_
  rintro _ w ⟨rfl, hE⟩ a hF
  replace hH := hH.ext hE
  refine zc hF rfl rfl fn76 (address_spec 97 97 rfl _) ?_
  rintro _ w ⟨rfl, hE⟩ a hF
  replace hH := hH.ext hE
  refine ls_buildN (us := [_, _]) hF hH rfl rfl rfl rfl rfl rfl Tryz.underlying34 ti38 (by intro u hu; simp only [List.mem_cons, List.not_mem_nil, or_false] at hu; rcases hu with rfl | rfl <;> rfl) (by decide) ?_
  intro a w g1_3 hH hE hF
  refine zc hF rfl rfl fn73 (told9_spec [⟨letterB 119, 5, 1, 0, letterB 97⟩, ⟨letterB 97, 1, 1, 0, [10, 0, 0, 1]⟩] (x := (1, [1, 97, 0], 1, 0)) (by kernel_rfl) (show RSl _ 5 _ 2 (recsV [⟨letterB 119, 5, 1, 0, letterB 97⟩, ⟨letterB 97, 1, 1, 0, [10, 0, 0, 1]⟩]) from rsl_lit (n := 2) (size := 5) hH rfl (by decide)) (recsB_of (by decide)) (by decide) (hG.ext hH.below)) ?_
  rintro _ w ⟨rfl, hE⟩ a hF
  replace hH := hH.ext hE
  refine zm 9 hF rfl fun a hF => ?_
  refine c_n ?_
  replace hF := hF.sel [1, 2, 3, 4]
  simp only [ss, Nat.reduceBEq] at hF
  refine c_sr fun ops => ?_
  refine zc hF rfl rfl fn74 (of_spec 119 119 5 rfl _) ?_
  rintro _ w ⟨rfl, hE⟩ a hF
  replace hH := hH.ext hE
  refine zc hF rfl rfl fn75 (alias_spec 119 97 119 97 rfl rfl _) ?_
  rintro _ w ⟨rfl, hE⟩ a hF
  replace hH := hH.ext hE
  refine zc hF rfl rfl fn76 (address_spec 97 97 rfl _) ?_
  rintro _ w ⟨rfl, hE⟩ a hF
  replace hH := hH.ext hE
  refine ls_buildN (us := [_, _]) hF hH rfl rfl rfl rfl rfl rfl Tryz.underlying34 ti38 (by intro u hu; simp only [List.mem_cons, List.not_mem_nil, or_false] at hu; rcases hu with rfl | rfl <;> rfl) (by decide) ?_
  intro a w g2_3 hH hE hF
  refine zc hF rfl rfl fn73 (told9_spec [⟨letterB 119, 5, 1, 0, letterB 97⟩, ⟨letterB 97, 1, 1, 0, [10, 0, 0, 1]⟩] (x := (0, [1, 119, 0], 1, 0)) (by kernel_rfl) (show RSl _ 5 _ 2 (recsV [⟨letterB 119, 5, 1, 0, letterB 97⟩, ⟨letterB 97, 1, 1, 0, [10, 0, 0, 1]⟩]) from rsl_lit (n := 2) (size := 5) hH rfl (by decide)) (recsB_of (by decide)) (by decide) (hG.ext hH.below)) ?_
  rintro _ w ⟨rfl, hE⟩ a hF
  replace hH := hH.ext hE
  refine zm 9 hF rfl fun a hF => ?_
  refine c_n ?_
  replace hF := hF.sel [1, 2, 3, 4, 5, 6, 7, 8]
  simp only [ss, Nat.reduceBEq] at hF
  refine c_sr fun ops => ?_
  refine zc hF rfl rfl fn74 (of_spec 98 98 1 rfl _) ?_
  rintro _ w ⟨rfl, hE⟩ a hF
  replace hH := hH.ext hE
  refine zc hF rfl rfl fn75 (alias_spec 119 97 119 97 rfl rfl _) ?_
  rintro _ w ⟨rfl, hE⟩ a hF
  replace hH := hH.ext hE
  refine zc hF rfl rfl fn76 (address_spec 97 97 rfl _) ?_
  rintro _ w ⟨rfl, hE⟩ a hF
  replace hH := hH.ext hE
  refine ls_buildN (us := [_, _]) hF hH rfl rfl rfl rfl rfl rfl Tryz.underlying34 ti38 (by intro u hu; simp only [List.mem_cons, List.not_mem_nil, or_false] at hu; rcases hu with rfl | rfl <;> rfl) (by decide) ?_
  intro a w g3_3 hH hE hF
  refine zc hF rfl rfl fn73 (told9_spec [⟨letterB 119, 5, 1, 0, letterB 97⟩, ⟨letterB 97, 1, 1, 0, [10, 0, 0, 1]⟩] (x := (0, [1, 98, 0], 0, 0)) (by kernel_rfl) (show RSl _ 5 _ 2 (recsV [⟨letterB 119, 5, 1, 0, letterB 97⟩, ⟨letterB 97, 1, 1, 0, [10, 0, 0, 1]⟩]) from rsl_lit (n := 2) (size := 5) hH rfl (by decide)) (recsB_of (by decide)) (by decide) (hG.ext hH.below)) ?_
  rintro _ w ⟨rfl, hE⟩ a hF
  replace hH := hH.ext hE
  refine zm 9 hF rfl fun a hF => ?_
  refine c_n ?_
  replace hF := hF.sel [1, 2, 3, 4, 5, 6, 7, 8, 9, 10, 11, 12]
  simp only [ss, Nat.reduceBEq] at hF
  refine c_sr fun ops => ?_
  refine zc hF rfl rfl fn74 (of_spec 97 97 1 rfl _) ?_
  rintro _ w ⟨rfl, hE⟩ a hF
  replace hH := hH.ext hE
  refine zc hF rfl rfl fn75 (alias_spec 97 98 97 98 rfl rfl _) ?_
  rintro _ w ⟨rfl, hE⟩ a hF
  replace hH := hH.ext hE
  refine zc hF rfl rfl fn75 (alias_spec 98 97 98 97 rfl rfl _) ?_
  rintro _ w ⟨rfl, hE⟩ a hF
  replace hH := hH.ext hE
  refine ls_buildN (us := [_, _]) hF hH rfl rfl rfl rfl rfl rfl Tryz.underlying34 ti38 (by intro u hu; simp only [List.mem_cons, List.not_mem_nil, or_false] at hu; rcases hu with rfl | rfl <;> rfl) (by decide) ?_
  intro a w g4_3 hH hE hF
  refine zc hF rfl rfl fn73 (told9_spec [⟨letterB 97, 5, 1, 0, letterB 98⟩, ⟨letterB 98, 5, 1, 0, letterB 97⟩] (x := (0, [], 0, 8)) (by kernel_rfl) (show RSl _ 5 _ 2 (recsV [⟨letterB 97, 5, 1, 0, letterB 98⟩, ⟨letterB 98, 5, 1, 0, letterB 97⟩]) from rsl_lit (n := 2) (size := 5) hH rfl (by decide)) (recsB_of (by decide)) (by decide) (hG.ext hH.below)) ?_
  rintro _ w ⟨rfl, hE⟩ a hF
  replace hH := hH.ext hE
  refine zm 9 hF rfl fun a hF => ?_
  refine c_n ?_
  replace hF := hF.sel [1, 2, 3, 4, 5, 6, 7, 8, 9, 10, 11, 12, 16]
  simp only [ss, Nat.reduceBEq] at hF
  refine c_sr fun ops => ?_
  refine zc hF rfl rfl fn74 (of_spec 97 97 1 rfl _) ?_
  rintro _ w ⟨rfl, hE⟩ a hF
  replace hH := hH.ext hE
  refine zc hF rfl rfl fn75 (alias_spec 97 97 97 97 rfl rfl _) ?_
  rintro _ w ⟨rfl, hE⟩ a hF
  replace hH := hH.ext hE
  refine ls_build1 hF hH rfl rfl rfl rfl rfl Tryz.underlying34 ti38 rfl (by decide) ?_
  intro a w g5_2 hH hE hF
  refine zc hF rfl rfl fn73 (told9_spec [⟨letterB 97, 5, 1, 0, letterB 97⟩] (x := (0, [], 0, 8)) (by kernel_rfl) (show RSl _ 5 _ 1 (recsV [⟨letterB 97, 5, 1, 0, letterB 97⟩]) from rsl_lit (n := 1) (size := 5) hH rfl (by decide)) (recsB_of (by decide)) (by decide) (hG.ext hH.below)) ?_
  rintro _ w ⟨rfl, hE⟩ a hF
  replace hH := hH.ext hE
  refine zm 9 hF rfl fun a hF => ?_
  refine c_n ?_
  replace hF := hF.sel [1, 2, 3, 4, 5, 6, 7, 8, 9, 10, 11, 12, 16, 20]
  simp only [ss, Nat.reduceBEq] at hF
  refine c_sr fun ops => ?_
  refine zc hF rfl rfl fn74 (of_spec 97 97 1 rfl _) ?_
  rintro _ w ⟨rfl, hE⟩ a hF
  replace hH := hH.ext hE
  refine zc hF rfl rfl fn75 (alias_spec 97 98 97 98 rfl rfl _) ?_
  rintro _ w ⟨rfl, hE⟩ a hF
  replace hH := hH.ext hE
  refine zc hF rfl rfl fn76 (address_spec 97 97 rfl _) ?_
  rintro _ w ⟨rfl, hE⟩ a hF
  replace hH := hH.ext hE
  refine ls_buildN (us := [_, _]) hF hH rfl rfl rfl rfl rfl rfl Tryz.underlying34 ti38 (by intro u hu; simp only [List.mem_cons, List.not_mem_nil, or_false] at hu; rcases hu with rfl | rfl <;> rfl) (by decide) ?_
  intro a w g6_3 hH hE hF
  refine zc hF rfl rfl fn73 (told9_spec [⟨letterB 97, 5, 1, 0, letterB 98⟩, ⟨letterB 97, 1, 1, 0, [10, 0, 0, 1]⟩] (x := (0, [], 0, 3)) (by kernel_rfl) (show RSl _ 5 _ 2 (recsV [⟨letterB 97, 5, 1, 0, letterB 98⟩, ⟨letterB 97, 1, 1, 0, [10, 0, 0, 1]⟩]) from rsl_lit (n := 2) (size := 5) hH rfl (by decide)) (recsB_of (by decide)) (by decide) (hG.ext hH.below)) ?_
  rintro _ w ⟨rfl, hE⟩ a hF
  replace hH := hH.ext hE
  refine zm 9 hF rfl fun a hF => ?_
  refine c_n ?_
  replace hF := hF.sel [1, 2, 3, 4, 5, 6, 7, 8, 9, 10, 11, 12, 16, 20, 24]
  simp only [ss, Nat.reduceBEq] at hF
  refine c_sr fun ops => ?_
  refine zc hF rfl rfl fn74 (of_spec 97 97 28 rfl _) ?_
  rintro _ w ⟨rfl, hE⟩ a hF
  replace hH := hH.ext hE
  refine zc hF rfl rfl fn75 (alias_spec 97 98 97 98 rfl rfl _) ?_
  rintro _ w ⟨rfl, hE⟩ a hF
  replace hH := hH.ext hE
  refine zc hF rfl rfl fn76 (address_spec 97 97 rfl _) ?_
  rintro _ w ⟨rfl, hE⟩ a hF
  replace hH := hH.ext hE
  refine ls_buildN (us := [_, _]) hF hH rfl rfl rfl rfl rfl rfl Tryz.underlying34 ti38 (by intro u hu; simp only [List.mem_cons, List.not_mem_nil, or_false] at hu; rcases hu with rfl | rfl <;> rfl) (by decide) ?_
  intro a w g7_3 hH hE hF
  refine zc hF rfl rfl fn73 (told9_spec [⟨letterB 97, 5, 1, 0, letterB 98⟩, ⟨letterB 97, 1, 1, 0, [10, 0, 0, 1]⟩] (x := (1, [1, 98, 0], 0, 0)) (by kernel_rfl) (show RSl _ 5 _ 2 (recsV [⟨letterB 97, 5, 1, 0, letterB 98⟩, ⟨letterB 97, 1, 1, 0, [10, 0, 0, 1]⟩]) from rsl_lit (n := 2) (size := 5) hH rfl (by decide)) (recsB_of (by decide)) (by decide) (hG.ext hH.below)) ?_
  rintro _ w ⟨rfl, hE⟩ a hF
  replace hH := hH.ext hE
  refine zm 9 hF rfl fun a hF => ?_
  refine c_n ?_
  replace hF := hF.sel [1, 2, 3, 4, 5, 6, 7, 8, 9, 10, 11, 12, 16, 20, 24, 25, 26, 27, 28]
  simp only [ss, Nat.reduceBEq] at hF
  refine c_sg ?_
  refine zm 1 hF rfl fun a hF => ?_
  refine zb hF rfl rfl rfl (b_eqn _ _ _ 1) fun a hF => ?_
  refine zm 1 hF rfl fun a hF => ?_
  refine l_ask (d := 100) hF rfl (fun g8_2 => ?_) (fun g8_2 => ?_)
  ·
   have g8_2' := g8_2; try simp only [qq] at g8_2'
   exact absurd g8_2 (by decide)
  have g8_2' := g8_2; try simp only [qq] at g8_2'
  refine zy hF rfl g8_2 (r_move hF rfl rfl) fun a hF => ?_
  refine zyc hF rfl g8_2 rfl fn77 (letter_spec 97 97 rfl _) ?_
  rintro _ w ⟨rfl, hE⟩ a hF
  replace hH := hH.ext hE
  refine zy hF rfl g8_2 (zr hF rfl rfl (b_seq _ _ _)) fun a hF => ?_
  refine zl hF rfl (r_pickt hF rfl rfl g8_2 rfl) fun a hF => ?_
  refine zm 1 hF rfl fun a hF => ?_
  refine l_ask (d := 105) hF rfl (fun g8_7 => ?_) (fun g8_7 => ?_)
  ·
   have g8_7' := g8_7; try simp only [qq] at g8_7'
   exact absurd g8_7 (by decide)
  have g8_7' := g8_7; try simp only [qq] at g8_7'
  refine zy hF rfl g8_7 (r_move hF rfl rfl) fun a hF => ?_
  refine zy hF rfl g8_7 (zr hF rfl rfl (b_eqn _ _ _ 1)) fun a hF => ?_
  refine zl hF rfl (r_pickt hF rfl rfl g8_7 rfl) fun a hF => ?_
  refine zm 1 hF rfl fun a hF => ?_
  refine l_ask (d := 109) hF rfl (fun g8_11 => ?_) (fun g8_11 => ?_)
  ·
   have g8_11' := g8_11; try simp only [qq] at g8_11'
   exact absurd g8_11 (by decide)
  have g8_11' := g8_11; try simp only [qq] at g8_11'
  refine zy hF rfl g8_11 (r_move hF rfl rfl) fun a hF => ?_
  refine zy hF rfl g8_11 (zr hF rfl rfl (b_eqn _ _ _ 0)) fun a hF => ?_
  refine zl hF rfl (r_pickt hF rfl rfl g8_11 rfl) fun a hF => ?_
  refine zm 1 hF rfl fun a hF => ?_
  refine l_ask (d := 113) hF rfl (fun g8_15 => ?_) (fun g8_15 => ?_)
  ·
   have g8_15' := g8_15; try simp only [qq] at g8_15'
   exact absurd g8_15 (by decide)
  have g8_15' := g8_15; try simp only [qq] at g8_15'
  refine zy hF rfl g8_15 (r_move hF rfl rfl) fun a hF => ?_
  refine zy hF rfl g8_15 (zr hF rfl rfl (b_eqn _ _ _ 0)) fun a hF => ?_
  refine zl hF rfl (r_pickt hF rfl rfl g8_15 rfl) fun a hF => ?_
  refine zm 1 hF rfl fun a hF => ?_
  refine l_ask (d := 117) hF rfl (fun g8_19 => ?_) (fun g8_19 => ?_)
  ·
   have g8_19' := g8_19; try simp only [qq] at g8_19'
   exact absurd g8_19 (by decide)
  have g8_19' := g8_19; try simp only [qq] at g8_19'
  refine zy hF rfl g8_19 (r_move hF rfl rfl) fun a hF => ?_
  refine zyc hF rfl g8_19 rfl fn77 (letter_spec 119 119 rfl _) ?_
  rintro _ w ⟨rfl, hE⟩ a hF
  replace hH := hH.ext hE
  refine zy hF rfl g8_19 (zr hF rfl rfl (b_seq _ _ _)) fun a hF => ?_
  refine zl hF rfl (r_pickt hF rfl rfl g8_19 rfl) fun a hF => ?_
  refine zm 1 hF rfl fun a hF => ?_
  refine l_ask (d := 122) hF rfl (fun g8_24 => ?_) (fun g8_24 => ?_)
  ·
   have g8_24' := g8_24; try simp only [qq] at g8_24'
   exact absurd g8_24 (by decide)
  have g8_24' := g8_24; try simp only [qq] at g8_24'
  refine zy hF rfl g8_24 (r_move hF rfl rfl) fun a hF => ?_
  refine zy hF rfl g8_24 (zr hF rfl rfl (b_eqn _ _ _ 1)) fun a hF => ?_
  refine zl hF rfl (r_pickt hF rfl rfl g8_24 rfl) fun a hF => ?_
  refine zm 1 hF rfl fun a hF => ?_
  refine l_ask (d := 126) hF rfl (fun g8_28 => ?_) (fun g8_28 => ?_)
  ·
   have g8_28' := g8_28; try simp only [qq] at g8_28'
   exact absurd g8_28 (by decide)
  have g8_28' := g8_28; try simp only [qq] at g8_28'
  refine zy hF rfl g8_28 (r_move hF rfl rfl) fun a hF => ?_
  refine zy hF rfl g8_28 (zr hF rfl rfl (b_eqn _ _ _ 0)) fun a hF => ?_
  refine zl hF rfl (r_pickt hF rfl rfl g8_28 rfl) fun a hF => ?_
  refine zm 1 hF rfl fun a hF => ?_
  refine l_ask (d := 130) hF rfl (fun g8_32 => ?_) (fun g8_32 => ?_)
  ·
   have g8_32' := g8_32; try simp only [qq] at g8_32'
   exact absurd g8_32 (by decide)
  have g8_32' := g8_32; try simp only [qq] at g8_32'
  refine zy hF rfl g8_32 (r_move hF rfl rfl) fun a hF => ?_
  refine zy hF rfl g8_32 (zr hF rfl rfl (b_eqn _ _ _ 0)) fun a hF => ?_
  refine zl hF rfl (r_pickt hF rfl rfl g8_32 rfl) fun a hF => ?_
  refine zm 1 hF rfl fun a hF => ?_
  refine l_ask (d := 134) hF rfl (fun g8_36 => ?_) (fun g8_36 => ?_)
  ·
   have g8_36' := g8_36; try simp only [qq] at g8_36'
   exact absurd g8_36 (by decide)
  have g8_36' := g8_36; try simp only [qq] at g8_36'
  refine zy hF rfl g8_36 (r_move hF rfl rfl) fun a hF => ?_
  refine zyc hF rfl g8_36 rfl fn77 (letter_spec 98 98 rfl _) ?_
  rintro _ w ⟨rfl, hE⟩ a hF
  replace hH := hH.ext hE
  refine zy hF rfl g8_36 (zr hF rfl rfl (b_seq _ _ _)) fun a hF => ?_
  refine zl hF rfl (r_pickt hF rfl rfl g8_36 rfl) fun a hF => ?_
  refine zm 1 hF rfl fun a hF => ?_
  refine l_ask (d := 139) hF rfl (fun g8_41 => ?_) (fun g8_41 => ?_)
  ·
   have g8_41' := g8_41; try simp only [qq] at g8_41'
   exact absurd g8_41 (by decide)
  have g8_41' := g8_41; try simp only [qq] at g8_41'
  refine zy hF rfl g8_41 (r_move hF rfl rfl) fun a hF => ?_
  refine zy hF rfl g8_41 (zr hF rfl rfl (b_eqn _ _ _ 0)) fun a hF => ?_
  refine zl hF rfl (r_pickt hF rfl rfl g8_41 rfl) fun a hF => ?_
  refine zm 1 hF rfl fun a hF => ?_
  refine l_ask (d := 143) hF rfl (fun g8_45 => ?_) (fun g8_45 => ?_)
  ·
   have g8_45' := g8_45; try simp only [qq] at g8_45'
   exact absurd g8_45 (by decide)
  have g8_45' := g8_45; try simp only [qq] at g8_45'
  refine zy hF rfl g8_45 (r_move hF rfl rfl) fun a hF => ?_
  refine zy hF rfl g8_45 (zr hF rfl rfl (b_eqn _ _ _ 0)) fun a hF => ?_
  refine zl hF rfl (r_pickt hF rfl rfl g8_45 rfl) fun a hF => ?_
  refine zm 1 hF rfl fun a hF => ?_
  refine l_ask (d := 147) hF rfl (fun g8_49 => ?_) (fun g8_49 => ?_)
  ·
   have g8_49' := g8_49; try simp only [qq] at g8_49'
   exact absurd g8_49 (by decide)
  have g8_49' := g8_49; try simp only [qq] at g8_49'
  refine zy hF rfl g8_49 (r_move hF rfl rfl) fun a hF => ?_
  refine zy hF rfl g8_49 (zr hF rfl rfl (b_eqn _ _ _ 8)) fun a hF => ?_
  refine zl hF rfl (r_pickt hF rfl rfl g8_49 rfl) fun a hF => ?_
  refine zm 1 hF rfl fun a hF => ?_
  refine l_ask (d := 151) hF rfl (fun g8_53 => ?_) (fun g8_53 => ?_)
  ·
   have g8_53' := g8_53; try simp only [qq] at g8_53'
   exact absurd g8_53 (by decide)
  have g8_53' := g8_53; try simp only [qq] at g8_53'
  refine zy hF rfl g8_53 (r_move hF rfl rfl) fun a hF => ?_
  refine zy hF rfl g8_53 (zr hF rfl rfl (b_eqn _ _ _ 8)) fun a hF => ?_
  refine zl hF rfl (r_pickt hF rfl rfl g8_53 rfl) fun a hF => ?_
  refine zm 1 hF rfl fun a hF => ?_
  refine l_ask (d := 155) hF rfl (fun g8_57 => ?_) (fun g8_57 => ?_)
  ·
   have g8_57' := g8_57; try simp only [qq] at g8_57'
   exact absurd g8_57 (by decide)
  have g8_57' := g8_57; try simp only [qq] at g8_57'
  refine zy hF rfl g8_57 (r_move hF rfl rfl) fun a hF => ?_
  refine zy hF rfl g8_57 (zr hF rfl rfl (b_eqn _ _ _ 3)) fun a hF => ?_
  refine zl hF rfl (r_pickt hF rfl rfl g8_57 rfl) fun a hF => ?_
  refine zm 1 hF rfl fun a hF => ?_
  refine l_ask (d := 159) hF rfl (fun g8_61 => ?_) (fun g8_61 => ?_)
  ·
   have g8_61' := g8_61; try simp only [qq] at g8_61'
   exact absurd g8_61 (by decide)
  have g8_61' := g8_61; try simp only [qq] at g8_61'
  refine zy hF rfl g8_61 (r_move hF rfl rfl) fun a hF => ?_
  refine zy hF rfl g8_61 (zr hF rfl rfl (b_eqn _ _ _ 1)) fun a hF => ?_
  refine zl hF rfl (r_pickt hF rfl rfl g8_61 rfl) fun a hF => ?_
  refine zm 1 hF rfl fun a hF => ?_
  refine l_ask (d := 163) hF rfl (fun g8_65 => ?_) (fun g8_65 => ?_)
  ·
   have g8_65' := g8_65; try simp only [qq] at g8_65'
   exact absurd g8_65 (by decide)
  have g8_65' := g8_65; try simp only [qq] at g8_65'
  refine zy hF rfl g8_65 (r_move hF rfl rfl) fun a hF => ?_
  refine zyc hF rfl g8_65 rfl fn77 (letter_spec 98 98 rfl _) ?_
  rintro _ w ⟨rfl, hE⟩ a hF
  replace hH := hH.ext hE
  refine zy hF rfl g8_65 (zr hF rfl rfl (b_seq _ _ _)) fun a hF => ?_
  refine zl hF rfl (r_pickt hF rfl rfl g8_65 rfl) fun a hF => ?_
  refine zm 1 hF rfl fun a hF => ?_
  refine l_ask (d := 168) hF rfl (fun g8_70 => ?_) (fun g8_70 => ?_)
  ·
   have g8_70' := g8_70; try simp only [qq] at g8_70'
   exact absurd g8_70 (by decide)
  have g8_70' := g8_70; try simp only [qq] at g8_70'
  refine zy hF rfl g8_70 (r_move hF rfl rfl) fun a hF => ?_
  refine zy hF rfl g8_70 (zr hF rfl rfl (b_eqn _ _ _ 0)) fun a hF => ?_
  refine zl hF rfl (r_pickt hF rfl rfl g8_70 rfl) fun a hF => ?_
  refine zm 1 hF rfl fun a hF => ?_
  refine l_ask (d := 172) hF rfl (fun g8_74 => ?_) (fun g8_74 => ?_)
  ·
   have g8_74' := g8_74; try simp only [qq] at g8_74'
   exact absurd g8_74 (by decide)
  have g8_74' := g8_74; try simp only [qq] at g8_74'
  refine zy hF rfl g8_74 (r_move hF rfl rfl) fun a hF => ?_
  refine zy hF rfl g8_74 (zr hF rfl rfl (b_eqn _ _ _ 0)) fun a hF => ?_
  refine zl hF rfl (r_pickt hF rfl rfl g8_74 rfl) fun a hF => ?_
  refine zm 1 hF rfl fun a hF => ?_
  refine c_n ?_
  replace hF := hF.sel [0]
  simp only [ss, Nat.reduceBEq] at hF
  refine wp_ret (hret (ret1 hF Tryz.results35 rfl ?_))
  exact ⟨by simp, hH.below⟩
end Go.Proofs.YtcelgjabccgnmaaGreatDoor
